/- Layer 11: what the functions compute. -/
import Derived.Test.YtphpnbdfngdinaaTn1d
namespace Go.Proofs.Ytphpnbdfngdinaa.Ab
open Go
set_option linter.all false
structure TApiVar where
  gName : ByteArray
  gPtr : Bool
def eTApiVar (x : TApiVar) : D := .agg [.v (.string x.gName), .v (.bool x.gPtr)]
noncomputable def slices_Equal_api_Var_api_Var (a0 : List TApiVar) (a1 : List TApiVar) : Option (Bool) :=
  (bif ((a0.length : Int) != (a1.length : Int)) then some false else (Option.bind (α := (Unit) ⊕ (Bool)) (loopM (fun (s21 : Int) => (bif (decide (s21 < (a0.length : Int))) then ((idx a0 s21).bind fun x33 => ((idx a1 s21).bind fun x34 => (bif (!(decide (x33.gName = x34.gName) && (x33.gPtr == x34.gPtr && true))) then some (.done (.inr false)) else some (.next (IntKind.i64.wrap (s21 + (1 : Int))))))) else some (.done (.inl ())))) (0 : Int)) (Sum.elim (fun y20 => some true) (fun r => some r))))
set_option maxRecDepth 100000 in
set_option maxHeartbeats 2000000 in
theorem slices_Equal_api_Var_api_Var_ok (a0 : List TApiVar) (a1 : List TApiVar) (r : Bool) (h0 : slices_Equal_api_Var_api_Var a0 a1 = some r) : CallsD Try.prog 49 [.lst 2 (a0.map eTApiVar) .no, .lst 2 (a1.map eTApiVar) .no] [] [] (fun d h k => d = .v (.bool r) ∧ h = [] ∧ k = []) := by
  have hm := yes_of h0
  unfold slices_Equal_api_Var_api_Var at hm
  clear h0
  refine enterX htab Try.func49 rfl rfl rfl rfl rfl (fun C => ?_)
  refine wpD_seq ?_
  refine wpD_region ?_
  refine p_pure htab rfl rfl rfl rfl ?_
  refine ops_nil ?_
  refine then_normal ?_
  refine wpD_seq ?_
  refine wpD_seq ?_
  refine wpD_region ?_
  refine p_pure htab rfl rfl rfl rfl ?_
  refine p_lenL htab rfl rfl rfl rfl rfl rfl rfl (by first | exact map_len | rfl) ?_
  refine p_pure htab rfl rfl rfl rfl ?_
  refine p_lenL htab rfl rfl rfl rfl rfl rfl rfl (by first | exact map_len | rfl) ?_
  refine p_pure htab rfl rfl rfl rfl ?_
  refine ops_nil ?_
  refine then_normal ?_
  refine wpD_cond rfl (fun hc2 => ?_) (fun hc2 => ?_)
  · replace hm := yes_t hc2 hm
    refine wpD_seq ?_
    refine wpD_region ?_
    refine p_pure htab rfl rfl rfl rfl ?_
    refine ops_nil ?_
    refine then_normal ?_
    refine wpD_ret ?_
    refine then_ret ?_
    have er3 := yes_eq hm; subst er3
    refine retX.of (s' := ⟨[(4, .v (.bool false))], [], []⟩) (WkS.perm (WkS.cons rfl (Wk.refl _) (WkS.nil)) (List.Perm.refl _) (List.Perm.refl _)) (retD_mk (hh := []) (.inl rfl) (resL_cons (resOne_tmp rfl) (resL_nil)) (List.nil_sublist _) (List.Sublist.refl _) ?_)
    exact ⟨rfl, rfl, rfl⟩
  · replace hm := yes_f hc2 hm
    refine wpD_skip ?_
    refine then_normal ?_
    refine wpD_seq ?_
    refine wpD_seq ?_
    refine wpD_region ?_
    refine p_pure htab rfl rfl rfl rfl ?_
    refine p_lenL htab rfl rfl rfl rfl rfl rfl rfl (by first | exact map_len | rfl) ?_
    refine p_pure htab rfl rfl rfl rfl ?_
    refine ops_nil ?_
    refine then_normal ?_
    obtain ⟨x20, q20, ho20⟩ := yes_bind hm
    refine wpD_midX (τ := Unit) (Y := Unit) (fun y20 z20 => (⟨[], [], []⟩ : S)) x20 ?_ ?_
    · clear hm; have hm := yes_of q20
      refine wpD_block ?_
      obtain ⟨u21, hl21, hq21⟩ := yes_m hm
      refine loop_M (Y := Unit) hl21 (fun s21 z21 => (⟨[(0, .lst 2 (a0.map eTApiVar) .no), (1, .lst 2 (a1.map eTApiVar) .no), (12, .v (.int .i64 (a0.length : Int))), (13, .v (.int .i64 s21))], [], []⟩ : S)) ?_ ?_
      · skip
        exact WkX.of () (WkS.perm (WkS.cons rfl (Wk.refl _) (WkS.cons rfl (Wk.refl _) (WkS.cons rfl (Wk.refl _) (WkS.cons rfl (Wk.refl _) (WkS.nil))))) (List.Perm.refl _) (List.Perm.refl _))
      · intro G21 s21 z21 hm
        refine wpD_seq ?_
        refine wpD_region ?_
        refine p_pure htab rfl rfl rfl rfl ?_
        refine ops_nil ?_
        refine then_normal ?_
        refine wpD_seq ?_
        refine wpD_cond rfl (fun hc32 => ?_) (fun hc32 => ?_)
        · replace hm := yes_t hc32 hm
          refine wpD_skip ?_
          refine then_normal ?_
          refine wpD_seq ?_
          refine wpD_block ?_
          refine wpD_seq ?_
          refine wpD_region ?_
          refine p_pure htab rfl rfl rfl rfl ?_
          refine p_pure htab rfl rfl rfl rfl ?_
          refine ops_nil ?_
          refine then_normal ?_
          refine wpD_seq ?_
          obtain ⟨x33, q33, hm⟩ := yes_bind hm
          obtain ⟨x34, q34, hm⟩ := yes_bind hm
          refine wpD_draws 8 [] [[],[],[0],[0,2],[],[],[4],[4,6]] [0,2,3,4,6,7] [[],[],[0,1],[0,1,2],[],[],[4,5],[4,5,6],[0,1,2,3,4,5,6,7]] (by kernel_rfl) (by kernel_rfl) (by kernel_rfl) (by rfl) (by rfl) (by kernel_rfl) ?_
          apply Exists.intro
          apply Exists.intro
          apply Exists.intro
          apply Exists.intro
          apply Exists.intro
          apply Exists.intro
          intro bs
          refine z_e rfl rfl (ex_pure htab rfl) rfl rfl rfl rfl rfl rfl ?_
          refine z_q rfl rfl (ex_pure htab rfl) rfl rfl rfl rfl rfl rfl ?_
          refine z_e rfl rfl (x_elem htab rfl rfl rfl rfl rfl rfl rfl (idx_nonneg q33) (idx_map q33)) rfl rfl rfl rfl rfl rfl ?_
          refine z_eM rfl rfl (xm_loadEl (d := eTApiVar x33) htab rfl rfl rfl rfl rfl) rfl rfl rfl rfl rfl rfl ?_
          refine z_e rfl rfl (ex_pure htab rfl) rfl rfl rfl rfl rfl rfl ?_
          refine z_q rfl rfl (ex_pure htab rfl) rfl rfl rfl rfl rfl rfl ?_
          refine z_e rfl rfl (x_elem htab rfl rfl rfl rfl rfl rfl rfl (idx_nonneg q34) (idx_map q34)) rfl rfl rfl rfl rfl rfl ?_
          refine z_eM rfl rfl (xm_loadEl (d := eTApiVar x34) htab rfl rfl rfl rfl rfl) rfl rfl rfl rfl rfl rfl ?_
          refine z_nil rfl rfl (fun e he => by simp [isAl] at he) ?_
          refine p_eqS htab rfl rfl rfl rfl rfl eqt71 rfl rfl rfl rfl rfl ?_
          refine ops_nil ?_
          refine then_normal ?_
          refine wpD_cond rfl (fun hc35 => ?_) (fun hc35 => ?_)
          · replace hm := yes_t hc35 hm
            refine wpD_seq ?_
            refine wpD_region ?_
            refine p_pure htab rfl rfl rfl rfl ?_
            refine ops_nil ?_
            refine then_normal ?_
            refine wpD_ret ?_
            refine block_ret ?_
            refine then_ret ?_
            have e21 := lp_done hm; subst e21; clear hm; have hm := hq21
            refine then_ret ?_
            refine block_ret ?_
            have e20 := yes_eq hm; subst e20; refine midX_inr ?_; clear hm; have hm := ho20; simp only [Sum.elim_inr] at hm
            refine then_ret ?_
            have er36 := yes_eq hm; subst er36
            refine retX.of (s' := ⟨[(4, .v (.bool false))], [], []⟩) (WkS.perm (WkS.cons rfl (Wk.refl _) (WkS.nil)) (List.Perm.refl _) (List.Perm.refl _)) (retD_mk (hh := []) (.inl rfl) (resL_cons (resOne_tmp rfl) (resL_nil)) (List.nil_sublist _) (List.Sublist.refl _) ?_)
            exact ⟨rfl, rfl, rfl⟩
          · replace hm := yes_f hc35 hm
            refine wpD_skip ?_
            refine block_normal ?_
            refine then_normal ?_
            refine wpD_region ?_
            refine p_pure htab rfl rfl rfl rfl ?_
            refine p_pure htab rfl rfl rfl rfl ?_
            refine ops_nil ?_
            refine then_normal ⟨_, lp_next hm, ?_⟩
            exact WkX.of () (WkS.perm (WkS.cons rfl (Wk.refl _) (WkS.cons rfl (Wk.refl _) (WkS.cons rfl (Wk.refl _) (WkS.cons rfl (Wk.refl _) (WkS.nil))))) (List.Perm.refl _) (List.Perm.refl _))
        · replace hm := yes_f hc32 hm
          refine wpD_exit ?_
          refine then_exit ?_
          have e21 := lp_done hm; subst e21; clear hm; have hm := hq21
          refine then_exit ?_
          refine block_hit ?_
          have e20 := yes_eq hm; subst e20
          refine midX_inl ?_
          exact WkX.of () (WkS.perm (WkS.nil) (List.Perm.refl _) (List.Perm.refl _))
    · intro y20 s20 hx20 hw20; subst hx20; clear hm; have hm := ho20; simp only [Sum.elim_inl] at hm; clear q20 ho20
      refine then_normal ?_
      refine wpD_wkX hw20 (fun z20 => ?_)
      refine wpD_seq ?_
      refine wpD_region ?_
      refine p_pure htab rfl rfl rfl rfl ?_
      refine ops_nil ?_
      refine then_normal ?_
      refine wpD_ret ?_
      have er37 := yes_eq hm; subst er37
      refine retX.of (s' := ⟨[(4, .v (.bool true))], [], []⟩) (WkS.perm (WkS.cons rfl (Wk.refl _) (WkS.nil)) (List.Perm.refl _) (List.Perm.refl _)) (retD_mk (hh := []) (.inl rfl) (resL_cons (resOne_tmp rfl) (resL_nil)) (List.nil_sublist _) (List.Sublist.refl _) ?_)
      exact ⟨rfl, rfl, rfl⟩
structure TApiFunc where
  gName : ByteArray
  gParams : List TApiVar
  gLocals : List TApiVar
  gBody : List TApiStmt
  gAt : Int
def eTApiFunc (x : TApiFunc) : D := .agg [.v (.string x.gName), .lst 2 (x.gParams.map eTApiVar) .no, .lst 2 (x.gLocals.map eTApiVar) .no, .lst 7 (x.gBody.map eTApiStmt) .no, .v (.int .i64 x.gAt)]
noncomputable def tree_SameFunc (a0 : TApiFunc) (a1 : TApiFunc) : Option (Bool) :=
  (bif (decide (a0.gName = a1.gName)) then ((slices_Equal_api_Var_api_Var a0.gParams a1.gParams).bind fun x4 => (bif x4 then ((slices_Equal_api_Var_api_Var a0.gLocals a1.gLocals).bind fun x6 => (bif x6 then ((tree_SameAll a0.gBody a1.gBody).bind fun x8 => some x8) else some false)) else some false)) else some false)
set_option maxRecDepth 100000 in
set_option maxHeartbeats 2000000 in
theorem tree_SameFunc_ok (a0 : TApiFunc) (a1 : TApiFunc) (r : Bool) (h0 : tree_SameFunc a0 a1 = some r) : CallsD Try.prog 28 [eTApiFunc a0, eTApiFunc a1] [] [] (fun d h k => d = .v (.bool r) ∧ h = [] ∧ k = []) := by
  have hm := yes_of h0
  unfold tree_SameFunc at hm
  clear h0
  refine enterX htab Try.func28 rfl rfl rfl rfl rfl (fun C => ?_)
  refine wpD_seq ?_
  refine wpD_region ?_
  refine p_box rfl rfl rfl rfl rfl rfl rfl (fun b1 => ?_)
  refine p_box rfl rfl rfl rfl rfl rfl rfl (fun b2 => ?_)
  refine p_pure htab rfl rfl rfl rfl ?_
  refine ops_nil ?_
  refine then_normal ?_
  refine wpD_seq ?_
  refine wpD_region ?_
  refine p_pure htab rfl rfl rfl rfl ?_
  refine p_load 0 htab rfl rfl rfl rfl rfl rfl rfl rfl ?_
  refine p_pure htab rfl rfl rfl rfl ?_
  refine p_load 1 htab rfl rfl rfl rfl rfl rfl rfl rfl ?_
  refine p_pure htab rfl rfl rfl rfl ?_
  refine p_pure htab rfl rfl rfl rfl ?_
  refine p_split (i := 10) rfl (fun hg3 => ?_) (fun hg3 => ?_)
  · replace hm := yes_t hg3 hm
    refine p_pure htab rfl rfl rfl rfl ?_
    refine p_load 0 htab rfl rfl rfl rfl rfl rfl rfl rfl ?_
    refine p_pure htab rfl rfl rfl rfl ?_
    refine p_load 1 htab rfl rfl rfl rfl rfl rfl rfl rfl ?_
    obtain ⟨x4, q4, hm⟩ := yes_bind hm
    refine p_call0 (slices_Equal_api_Var_api_Var_ok a0.gParams a1.gParams x4 q4) rfl rfl rfl rfl rfl (WkL.refl _) ?_
    rintro _ rfl
    refine p_pickT rfl rfl rfl rfl rfl rfl ?_
    refine p_pure htab rfl rfl rfl rfl ?_
    refine p_split (i := 17) rfl (fun hg5 => ?_) (fun hg5 => ?_)
    · replace hm := yes_t hg5 hm
      refine p_pure htab rfl rfl rfl rfl ?_
      refine p_load 0 htab rfl rfl rfl rfl rfl rfl rfl rfl ?_
      refine p_pure htab rfl rfl rfl rfl ?_
      refine p_load 1 htab rfl rfl rfl rfl rfl rfl rfl rfl ?_
      obtain ⟨x6, q6, hm⟩ := yes_bind hm
      refine p_call0 (slices_Equal_api_Var_api_Var_ok a0.gLocals a1.gLocals x6 q6) rfl rfl rfl rfl rfl (WkL.refl _) ?_
      rintro _ rfl
      refine p_pickT rfl rfl rfl rfl rfl rfl ?_
      refine p_pure htab rfl rfl rfl rfl ?_
      refine p_split (i := 24) rfl (fun hg7 => ?_) (fun hg7 => ?_)
      · replace hm := yes_t hg7 hm
        refine p_pure htab rfl rfl rfl rfl ?_
        refine p_load 0 htab rfl rfl rfl rfl rfl rfl rfl rfl ?_
        refine p_pure htab rfl rfl rfl rfl ?_
        refine p_load 1 htab rfl rfl rfl rfl rfl rfl rfl rfl ?_
        obtain ⟨x8, q8, hm⟩ := yes_bind hm
        refine p_call0 (tree_SameAll_ok a0.gBody a1.gBody x8 q8) rfl rfl rfl rfl rfl (WkL.refl _) ?_
        rintro _ rfl
        refine p_pickT rfl rfl rfl rfl rfl rfl ?_
        refine p_pure htab rfl rfl rfl rfl ?_
        refine ops_nil ?_
        refine then_normal ?_
        refine wpD_ret ?_
        have er9 := yes_eq hm; subst er9
        refine retX.of (s' := ⟨[(4, .v (.bool x8))], [], []⟩) (WkS.perm (WkS.cons rfl (Wk.refl _) (WkS.nil)) (List.Perm.refl _) (List.Perm.refl _)) (retD_mk (hh := []) (.inl rfl) (resL_cons (resOne_tmp rfl) (resL_nil)) (List.nil_sublist _) (List.Sublist.refl _) ?_)
        exact ⟨rfl, rfl, rfl⟩
      · replace hm := yes_f hg7 hm
        refine p_skip rfl rfl rfl ?_
        refine p_skip rfl rfl rfl ?_
        refine p_skip rfl rfl rfl ?_
        refine p_skip rfl rfl rfl ?_
        refine p_skip rfl rfl rfl ?_
        refine p_pickF rfl rfl rfl rfl rfl rfl ?_
        refine p_pure htab rfl rfl rfl rfl ?_
        refine ops_nil ?_
        refine then_normal ?_
        refine wpD_ret ?_
        have er10 := yes_eq hm; subst er10
        refine retX.of (s' := ⟨[(4, .v (.bool false))], [], []⟩) (WkS.perm (WkS.cons rfl (Wk.refl _) (WkS.nil)) (List.Perm.refl _) (List.Perm.refl _)) (retD_mk (hh := []) (.inl rfl) (resL_cons (resOne_tmp rfl) (resL_nil)) (List.nil_sublist _) (List.Sublist.refl _) ?_)
        exact ⟨rfl, rfl, rfl⟩
    · replace hm := yes_f hg5 hm
      refine p_skip rfl rfl rfl ?_
      refine p_skip rfl rfl rfl ?_
      refine p_skip rfl rfl rfl ?_
      refine p_skip rfl rfl rfl ?_
      refine p_skip rfl rfl rfl ?_
      refine p_pickF rfl rfl rfl rfl rfl rfl ?_
      refine p_pure htab rfl rfl rfl rfl ?_
      refine p_skip rfl rfl rfl ?_
      refine p_skip rfl rfl rfl ?_
      refine p_skip rfl rfl rfl ?_
      refine p_skip rfl rfl rfl ?_
      refine p_skip rfl rfl rfl ?_
      refine p_pickF rfl rfl rfl rfl rfl rfl ?_
      refine p_pure htab rfl rfl rfl rfl ?_
      refine ops_nil ?_
      refine then_normal ?_
      refine wpD_ret ?_
      have er11 := yes_eq hm; subst er11
      refine retX.of (s' := ⟨[(4, .v (.bool false))], [], []⟩) (WkS.perm (WkS.cons rfl (Wk.refl _) (WkS.nil)) (List.Perm.refl _) (List.Perm.refl _)) (retD_mk (hh := []) (.inl rfl) (resL_cons (resOne_tmp rfl) (resL_nil)) (List.nil_sublist _) (List.Sublist.refl _) ?_)
      exact ⟨rfl, rfl, rfl⟩
  · replace hm := yes_f hg3 hm
    refine p_skip rfl rfl rfl ?_
    refine p_skip rfl rfl rfl ?_
    refine p_skip rfl rfl rfl ?_
    refine p_skip rfl rfl rfl ?_
    refine p_skip rfl rfl rfl ?_
    refine p_pickF rfl rfl rfl rfl rfl rfl ?_
    refine p_pure htab rfl rfl rfl rfl ?_
    refine p_skip rfl rfl rfl ?_
    refine p_skip rfl rfl rfl ?_
    refine p_skip rfl rfl rfl ?_
    refine p_skip rfl rfl rfl ?_
    refine p_skip rfl rfl rfl ?_
    refine p_pickF rfl rfl rfl rfl rfl rfl ?_
    refine p_pure htab rfl rfl rfl rfl ?_
    refine p_skip rfl rfl rfl ?_
    refine p_skip rfl rfl rfl ?_
    refine p_skip rfl rfl rfl ?_
    refine p_skip rfl rfl rfl ?_
    refine p_skip rfl rfl rfl ?_
    refine p_pickF rfl rfl rfl rfl rfl rfl ?_
    refine p_pure htab rfl rfl rfl rfl ?_
    refine ops_nil ?_
    refine then_normal ?_
    refine wpD_ret ?_
    have er12 := yes_eq hm; subst er12
    refine retX.of (s' := ⟨[(4, .v (.bool false))], [], []⟩) (WkS.perm (WkS.cons rfl (Wk.refl _) (WkS.nil)) (List.Perm.refl _) (List.Perm.refl _)) (retD_mk (hh := []) (.inl rfl) (resL_cons (resOne_tmp rfl) (resL_nil)) (List.nil_sublist _) (List.Sublist.refl _) ?_)
    exact ⟨rfl, rfl, rfl⟩
noncomputable def r11_vars (a0 : List TApiVar) (a1 : List TApiVar) : Option (Bool) :=
  (bif ((a0.length : Int) != (a1.length : Int)) then some false else (Option.bind (α := (Unit) ⊕ (Bool)) (loopM (fun (s21 : Int) => (bif (decide (s21 < (a0.length : Int))) then ((idx a0 s21).bind fun x33 => ((idx a1 s21).bind fun x34 => (bif (!(decide (x33.gName = x34.gName) && (x33.gPtr == x34.gPtr && true))) then some (.done (.inr false)) else some (.next (IntKind.i64.wrap (s21 + (1 : Int))))))) else some (.done (.inl ())))) (0 : Int)) (Sum.elim (fun y20 => some true) (fun r => some r))))
set_option maxRecDepth 100000 in
set_option maxHeartbeats 2000000 in
theorem r11_vars_ok (a0 : List TApiVar) (a1 : List TApiVar) (r : Bool) (h0 : r11_vars a0 a1 = some r) : CallsD Try.prog 50 [.lst 2 (a0.map eTApiVar) .no, .lst 2 (a1.map eTApiVar) .no] [] [] (fun d h k => d = .v (.bool r) ∧ h = [] ∧ k = []) := by
  have hm := yes_of h0
  unfold r11_vars at hm
  clear h0
  refine enterX htab Try.func50 rfl rfl rfl rfl rfl (fun C => ?_)
  refine wpD_seq ?_
  refine wpD_region ?_
  refine p_pure htab rfl rfl rfl rfl ?_
  refine ops_nil ?_
  refine then_normal ?_
  refine wpD_seq ?_
  refine wpD_seq ?_
  refine wpD_region ?_
  refine p_pure htab rfl rfl rfl rfl ?_
  refine p_lenL htab rfl rfl rfl rfl rfl rfl rfl (by first | exact map_len | rfl) ?_
  refine p_pure htab rfl rfl rfl rfl ?_
  refine p_lenL htab rfl rfl rfl rfl rfl rfl rfl (by first | exact map_len | rfl) ?_
  refine p_pure htab rfl rfl rfl rfl ?_
  refine ops_nil ?_
  refine then_normal ?_
  refine wpD_cond rfl (fun hc2 => ?_) (fun hc2 => ?_)
  · replace hm := yes_t hc2 hm
    refine wpD_seq ?_
    refine wpD_region ?_
    refine p_pure htab rfl rfl rfl rfl ?_
    refine ops_nil ?_
    refine then_normal ?_
    refine wpD_ret ?_
    refine then_ret ?_
    have er3 := yes_eq hm; subst er3
    refine retX.of (s' := ⟨[(4, .v (.bool false))], [], []⟩) (WkS.perm (WkS.cons rfl (Wk.refl _) (WkS.nil)) (List.Perm.refl _) (List.Perm.refl _)) (retD_mk (hh := []) (.inl rfl) (resL_cons (resOne_tmp rfl) (resL_nil)) (List.nil_sublist _) (List.Sublist.refl _) ?_)
    exact ⟨rfl, rfl, rfl⟩
  · replace hm := yes_f hc2 hm
    refine wpD_skip ?_
    refine then_normal ?_
    refine wpD_seq ?_
    refine wpD_seq ?_
    refine wpD_region ?_
    refine p_pure htab rfl rfl rfl rfl ?_
    refine ops_nil ?_
    refine then_normal ?_
    obtain ⟨x20, q20, ho20⟩ := yes_bind hm
    refine wpD_midX (τ := Unit) (Y := Unit) (fun y20 z20 => (⟨[], [], []⟩ : S)) x20 ?_ ?_
    · clear hm; have hm := yes_of q20
      refine wpD_block ?_
      obtain ⟨u21, hl21, hq21⟩ := yes_m hm
      refine loop_M (Y := Unit) hl21 (fun s21 z21 => (⟨[(0, .lst 2 (a0.map eTApiVar) .no), (1, .lst 2 (a1.map eTApiVar) .no), (5, .v (.int .i64 s21))], [], []⟩ : S)) ?_ ?_
      · skip
        exact WkX.of () (WkS.perm (WkS.cons rfl (Wk.refl _) (WkS.cons rfl (Wk.refl _) (WkS.cons rfl (Wk.refl _) (WkS.nil)))) (List.Perm.refl _) (List.Perm.refl _))
      · intro G21 s21 z21 hm
        refine wpD_seq ?_
        refine wpD_seq ?_
        refine wpD_region ?_
        refine p_pure htab rfl rfl rfl rfl ?_
        refine p_pure htab rfl rfl rfl rfl ?_
        refine p_lenL htab rfl rfl rfl rfl rfl rfl rfl (by first | exact map_len | rfl) ?_
        refine p_pure htab rfl rfl rfl rfl ?_
        refine ops_nil ?_
        refine then_normal ?_
        refine wpD_cond rfl (fun hc32 => ?_) (fun hc32 => ?_)
        · replace hm := yes_t hc32 hm
          refine wpD_skip ?_
          refine then_normal ?_
          refine wpD_seq ?_
          refine wpD_block ?_
          refine wpD_seq ?_
          obtain ⟨x33, q33, hm⟩ := yes_bind hm
          obtain ⟨x34, q34, hm⟩ := yes_bind hm
          refine wpD_draws 8 [] [[],[],[0],[0,2],[],[],[4],[4,6]] [0,2,3,4,6,7] [[],[],[0,1],[0,1,2],[],[],[4,5],[4,5,6],[0,1,2,3,4,5,6,7]] (by kernel_rfl) (by kernel_rfl) (by kernel_rfl) (by rfl) (by rfl) (by kernel_rfl) ?_
          apply Exists.intro
          apply Exists.intro
          apply Exists.intro
          apply Exists.intro
          apply Exists.intro
          apply Exists.intro
          intro bs
          refine z_e rfl rfl (ex_pure htab rfl) rfl rfl rfl rfl rfl rfl ?_
          refine z_q rfl rfl (ex_pure htab rfl) rfl rfl rfl rfl rfl rfl ?_
          refine z_e rfl rfl (x_elem htab rfl rfl rfl rfl rfl rfl rfl (idx_nonneg q33) (idx_map q33)) rfl rfl rfl rfl rfl rfl ?_
          refine z_eM rfl rfl (xm_loadEl (d := eTApiVar x33) htab rfl rfl rfl rfl rfl) rfl rfl rfl rfl rfl rfl ?_
          refine z_e rfl rfl (ex_pure htab rfl) rfl rfl rfl rfl rfl rfl ?_
          refine z_q rfl rfl (ex_pure htab rfl) rfl rfl rfl rfl rfl rfl ?_
          refine z_e rfl rfl (x_elem htab rfl rfl rfl rfl rfl rfl rfl (idx_nonneg q34) (idx_map q34)) rfl rfl rfl rfl rfl rfl ?_
          refine z_eM rfl rfl (xm_loadEl (d := eTApiVar x34) htab rfl rfl rfl rfl rfl) rfl rfl rfl rfl rfl rfl ?_
          refine z_nil rfl rfl (fun e he => by simp [isAl] at he) ?_
          refine p_eqS htab rfl rfl rfl rfl rfl eqt71 rfl rfl rfl rfl rfl ?_
          refine ops_nil ?_
          refine then_normal ?_
          refine wpD_cond rfl (fun hc35 => ?_) (fun hc35 => ?_)
          · replace hm := yes_t hc35 hm
            refine wpD_seq ?_
            refine wpD_region ?_
            refine p_pure htab rfl rfl rfl rfl ?_
            refine ops_nil ?_
            refine then_normal ?_
            refine wpD_ret ?_
            refine block_ret ?_
            refine then_ret ?_
            have e21 := lp_done hm; subst e21; clear hm; have hm := hq21
            refine then_ret ?_
            refine block_ret ?_
            have e20 := yes_eq hm; subst e20; refine midX_inr ?_; clear hm; have hm := ho20; simp only [Sum.elim_inr] at hm
            refine then_ret ?_
            have er36 := yes_eq hm; subst er36
            refine retX.of (s' := ⟨[(4, .v (.bool false))], [], []⟩) (WkS.perm (WkS.cons rfl (Wk.refl _) (WkS.nil)) (List.Perm.refl _) (List.Perm.refl _)) (retD_mk (hh := []) (.inl rfl) (resL_cons (resOne_tmp rfl) (resL_nil)) (List.nil_sublist _) (List.Sublist.refl _) ?_)
            exact ⟨rfl, rfl, rfl⟩
          · replace hm := yes_f hc35 hm
            refine wpD_skip ?_
            refine block_normal ?_
            refine then_normal ?_
            refine wpD_region ?_
            refine p_pure htab rfl rfl rfl rfl ?_
            refine p_pure htab rfl rfl rfl rfl ?_
            refine p_pure htab rfl rfl rfl rfl ?_
            refine ops_nil ?_
            refine then_normal ⟨_, lp_next hm, ?_⟩
            exact WkX.of () (WkS.perm (WkS.cons rfl (Wk.refl _) (WkS.cons rfl (Wk.refl _) (WkS.cons rfl (Wk.refl _) (WkS.nil)))) (List.Perm.refl _) (List.Perm.refl _))
        · replace hm := yes_f hc32 hm
          refine wpD_exit ?_
          refine then_exit ?_
          have e21 := lp_done hm; subst e21; clear hm; have hm := hq21
          refine then_exit ?_
          refine block_hit ?_
          have e20 := yes_eq hm; subst e20
          refine midX_inl ?_
          exact WkX.of () (WkS.perm (WkS.nil) (List.Perm.refl _) (List.Perm.refl _))
    · intro y20 s20 hx20 hw20; subst hx20; clear hm; have hm := ho20; simp only [Sum.elim_inl] at hm; clear q20 ho20
      refine then_normal ?_
      refine wpD_wkX hw20 (fun z20 => ?_)
      refine wpD_seq ?_
      refine wpD_region ?_
      refine p_pure htab rfl rfl rfl rfl ?_
      refine ops_nil ?_
      refine then_normal ?_
      refine wpD_ret ?_
      have er37 := yes_eq hm; subst er37
      refine retX.of (s' := ⟨[(4, .v (.bool true))], [], []⟩) (WkS.perm (WkS.cons rfl (Wk.refl _) (WkS.nil)) (List.Perm.refl _) (List.Perm.refl _)) (retD_mk (hh := []) (.inl rfl) (resL_cons (resOne_tmp rfl) (resL_nil)) (List.nil_sublist _) (List.Sublist.refl _) ?_)
      exact ⟨rfl, rfl, rfl⟩
noncomputable def r11_SameFunc (a0 : TApiFunc) (a1 : TApiFunc) (a2 : Bool) : Option (Bool) :=
  (bif (decide (a0.gName = a1.gName)) then ((r11_vars a0.gParams a1.gParams).bind fun x4 => (bif x4 then ((r11_vars a0.gLocals a1.gLocals).bind fun x6 => (bif x6 then ((r11_SameAll a0.gBody a1.gBody a2).bind fun x8 => (bif x8 then (bif (!a2) then some true else some (a0.gAt == a1.gAt)) else some false)) else some false)) else some false)) else some false)
set_option maxRecDepth 100000 in
set_option maxHeartbeats 2000000 in
theorem r11_SameFunc_ok (a0 : TApiFunc) (a1 : TApiFunc) (a2 : Bool) (r : Bool) (h0 : r11_SameFunc a0 a1 a2 = some r) : CallsD Try.prog 29 [eTApiFunc a0, eTApiFunc a1, .v (.bool a2)] [] [] (fun d h k => d = .v (.bool r) ∧ h = [] ∧ k = []) := by
  have hm := yes_of h0
  unfold r11_SameFunc at hm
  clear h0
  refine enterX htab Try.func29 rfl rfl rfl rfl rfl (fun C => ?_)
  refine wpD_seq ?_
  refine wpD_region ?_
  refine p_box rfl rfl rfl rfl rfl rfl rfl (fun b1 => ?_)
  refine p_box rfl rfl rfl rfl rfl rfl rfl (fun b2 => ?_)
  refine p_pure htab rfl rfl rfl rfl ?_
  refine ops_nil ?_
  refine then_normal ?_
  refine wpD_seq ?_
  refine wpD_region ?_
  refine p_pure htab rfl rfl rfl rfl ?_
  refine p_load 0 htab rfl rfl rfl rfl rfl rfl rfl rfl ?_
  refine p_pure htab rfl rfl rfl rfl ?_
  refine p_load 1 htab rfl rfl rfl rfl rfl rfl rfl rfl ?_
  refine p_pure htab rfl rfl rfl rfl ?_
  refine p_pure htab rfl rfl rfl rfl ?_
  refine p_split (i := 12) rfl (fun hg3 => ?_) (fun hg3 => ?_)
  · replace hm := yes_t hg3 hm
    refine p_pure htab rfl rfl rfl rfl ?_
    refine p_load 0 htab rfl rfl rfl rfl rfl rfl rfl rfl ?_
    refine p_pure htab rfl rfl rfl rfl ?_
    refine p_load 1 htab rfl rfl rfl rfl rfl rfl rfl rfl ?_
    obtain ⟨x4, q4, hm⟩ := yes_bind hm
    refine p_call0 (r11_vars_ok a0.gParams a1.gParams x4 q4) rfl rfl rfl rfl rfl (WkL.refl _) ?_
    rintro _ rfl
    refine p_pickT rfl rfl rfl rfl rfl rfl ?_
    refine p_pure htab rfl rfl rfl rfl ?_
    refine p_split (i := 19) rfl (fun hg5 => ?_) (fun hg5 => ?_)
    · replace hm := yes_t hg5 hm
      refine p_pure htab rfl rfl rfl rfl ?_
      refine p_load 0 htab rfl rfl rfl rfl rfl rfl rfl rfl ?_
      refine p_pure htab rfl rfl rfl rfl ?_
      refine p_load 1 htab rfl rfl rfl rfl rfl rfl rfl rfl ?_
      obtain ⟨x6, q6, hm⟩ := yes_bind hm
      refine p_call0 (r11_vars_ok a0.gLocals a1.gLocals x6 q6) rfl rfl rfl rfl rfl (WkL.refl _) ?_
      rintro _ rfl
      refine p_pickT rfl rfl rfl rfl rfl rfl ?_
      refine p_pure htab rfl rfl rfl rfl ?_
      refine p_split (i := 26) rfl (fun hg7 => ?_) (fun hg7 => ?_)
      · replace hm := yes_t hg7 hm
        refine p_pure htab rfl rfl rfl rfl ?_
        refine p_load 0 htab rfl rfl rfl rfl rfl rfl rfl rfl ?_
        refine p_pure htab rfl rfl rfl rfl ?_
        refine p_load 1 htab rfl rfl rfl rfl rfl rfl rfl rfl ?_
        refine p_pure htab rfl rfl rfl rfl ?_
        obtain ⟨x8, q8, hm⟩ := yes_bind hm
        refine p_call0 (r11_SameAll_ok a0.gBody a1.gBody a2 x8 q8) rfl rfl rfl rfl rfl (WkL.refl _) ?_
        rintro _ rfl
        refine p_pickT rfl rfl rfl rfl rfl rfl ?_
        refine p_pure htab rfl rfl rfl rfl ?_
        refine p_split (i := 34) rfl (fun hg9 => ?_) (fun hg9 => ?_)
        · replace hm := yes_t hg9 hm
          refine p_pure htab rfl rfl rfl rfl ?_
          refine p_pure htab rfl rfl rfl rfl ?_
          refine p_pure htab rfl rfl rfl rfl ?_
          refine p_split (i := 37) rfl (fun hg10 => ?_) (fun hg10 => ?_)
          · replace hm := yes_t hg10 hm
            refine p_skip rfl rfl rfl ?_
            refine p_skip rfl rfl rfl ?_
            refine p_skip rfl rfl rfl ?_
            refine p_skip rfl rfl rfl ?_
            refine p_skip rfl rfl rfl ?_
            refine p_pickT rfl rfl rfl rfl rfl rfl ?_
            refine p_pickT rfl rfl rfl rfl rfl rfl ?_
            refine p_pure htab rfl rfl rfl rfl ?_
            refine ops_nil ?_
            refine then_normal ?_
            refine wpD_ret ?_
            have er11 := yes_eq hm; subst er11
            refine retX.of (s' := ⟨[(6, .v (.bool true))], [], []⟩) (WkS.perm (WkS.cons rfl (Wk.refl _) (WkS.nil)) (List.Perm.refl _) (List.Perm.refl _)) (retD_mk (hh := []) (.inl rfl) (resL_cons (resOne_tmp rfl) (resL_nil)) (List.nil_sublist _) (List.Sublist.refl _) ?_)
            exact ⟨rfl, rfl, rfl⟩
          · replace hm := yes_f hg10 hm
            refine p_pure htab rfl rfl rfl rfl ?_
            refine p_load 0 htab rfl rfl rfl rfl rfl rfl rfl rfl ?_
            refine p_pure htab rfl rfl rfl rfl ?_
            refine p_load 1 htab rfl rfl rfl rfl rfl rfl rfl rfl ?_
            refine p_pure htab rfl rfl rfl rfl ?_
            refine p_pickF rfl rfl rfl rfl rfl rfl ?_
            refine p_pickT rfl rfl rfl rfl rfl rfl ?_
            refine p_pure htab rfl rfl rfl rfl ?_
            refine ops_nil ?_
            refine then_normal ?_
            refine wpD_ret ?_
            have er12 := yes_eq hm; subst er12
            refine retX.of (s' := ⟨[(6, .v (.bool (a0.gAt == a1.gAt)))], [], []⟩) (WkS.perm (WkS.cons rfl (Wk.refl _) (WkS.nil)) (List.Perm.refl _) (List.Perm.refl _)) (retD_mk (hh := []) (.inl rfl) (resL_cons (resOne_tmp rfl) (resL_nil)) (List.nil_sublist _) (List.Sublist.refl _) ?_)
            exact ⟨rfl, rfl, rfl⟩
        · replace hm := yes_f hg9 hm
          refine p_skip rfl rfl rfl ?_
          refine p_skip rfl rfl rfl ?_
          refine p_skip rfl rfl rfl ?_
          refine p_skip rfl rfl rfl ?_
          refine p_skip rfl rfl rfl ?_
          refine p_skip rfl rfl rfl ?_
          refine p_skip rfl rfl rfl ?_
          refine p_skip rfl rfl rfl ?_
          refine p_skip rfl rfl rfl ?_
          refine p_pickF rfl rfl rfl rfl rfl rfl ?_
          refine p_pure htab rfl rfl rfl rfl ?_
          refine ops_nil ?_
          refine then_normal ?_
          refine wpD_ret ?_
          have er13 := yes_eq hm; subst er13
          refine retX.of (s' := ⟨[(6, .v (.bool false))], [], []⟩) (WkS.perm (WkS.cons rfl (Wk.refl _) (WkS.nil)) (List.Perm.refl _) (List.Perm.refl _)) (retD_mk (hh := []) (.inl rfl) (resL_cons (resOne_tmp rfl) (resL_nil)) (List.nil_sublist _) (List.Sublist.refl _) ?_)
          exact ⟨rfl, rfl, rfl⟩
      · replace hm := yes_f hg7 hm
        refine p_skip rfl rfl rfl ?_
        refine p_skip rfl rfl rfl ?_
        refine p_skip rfl rfl rfl ?_
        refine p_skip rfl rfl rfl ?_
        refine p_skip rfl rfl rfl ?_
        refine p_skip rfl rfl rfl ?_
        refine p_pickF rfl rfl rfl rfl rfl rfl ?_
        refine p_pure htab rfl rfl rfl rfl ?_
        refine p_skip rfl rfl rfl ?_
        refine p_skip rfl rfl rfl ?_
        refine p_skip rfl rfl rfl ?_
        refine p_skip rfl rfl rfl ?_
        refine p_skip rfl rfl rfl ?_
        refine p_skip rfl rfl rfl ?_
        refine p_skip rfl rfl rfl ?_
        refine p_skip rfl rfl rfl ?_
        refine p_skip rfl rfl rfl ?_
        refine p_pickF rfl rfl rfl rfl rfl rfl ?_
        refine p_pure htab rfl rfl rfl rfl ?_
        refine ops_nil ?_
        refine then_normal ?_
        refine wpD_ret ?_
        have er14 := yes_eq hm; subst er14
        refine retX.of (s' := ⟨[(6, .v (.bool false))], [], []⟩) (WkS.perm (WkS.cons rfl (Wk.refl _) (WkS.nil)) (List.Perm.refl _) (List.Perm.refl _)) (retD_mk (hh := []) (.inl rfl) (resL_cons (resOne_tmp rfl) (resL_nil)) (List.nil_sublist _) (List.Sublist.refl _) ?_)
        exact ⟨rfl, rfl, rfl⟩
    · replace hm := yes_f hg5 hm
      refine p_skip rfl rfl rfl ?_
      refine p_skip rfl rfl rfl ?_
      refine p_skip rfl rfl rfl ?_
      refine p_skip rfl rfl rfl ?_
      refine p_skip rfl rfl rfl ?_
      refine p_pickF rfl rfl rfl rfl rfl rfl ?_
      refine p_pure htab rfl rfl rfl rfl ?_
      refine p_skip rfl rfl rfl ?_
      refine p_skip rfl rfl rfl ?_
      refine p_skip rfl rfl rfl ?_
      refine p_skip rfl rfl rfl ?_
      refine p_skip rfl rfl rfl ?_
      refine p_skip rfl rfl rfl ?_
      refine p_pickF rfl rfl rfl rfl rfl rfl ?_
      refine p_pure htab rfl rfl rfl rfl ?_
      refine p_skip rfl rfl rfl ?_
      refine p_skip rfl rfl rfl ?_
      refine p_skip rfl rfl rfl ?_
      refine p_skip rfl rfl rfl ?_
      refine p_skip rfl rfl rfl ?_
      refine p_skip rfl rfl rfl ?_
      refine p_skip rfl rfl rfl ?_
      refine p_skip rfl rfl rfl ?_
      refine p_skip rfl rfl rfl ?_
      refine p_pickF rfl rfl rfl rfl rfl rfl ?_
      refine p_pure htab rfl rfl rfl rfl ?_
      refine ops_nil ?_
      refine then_normal ?_
      refine wpD_ret ?_
      have er15 := yes_eq hm; subst er15
      refine retX.of (s' := ⟨[(6, .v (.bool false))], [], []⟩) (WkS.perm (WkS.cons rfl (Wk.refl _) (WkS.nil)) (List.Perm.refl _) (List.Perm.refl _)) (retD_mk (hh := []) (.inl rfl) (resL_cons (resOne_tmp rfl) (resL_nil)) (List.nil_sublist _) (List.Sublist.refl _) ?_)
      exact ⟨rfl, rfl, rfl⟩
  · replace hm := yes_f hg3 hm
    refine p_skip rfl rfl rfl ?_
    refine p_skip rfl rfl rfl ?_
    refine p_skip rfl rfl rfl ?_
    refine p_skip rfl rfl rfl ?_
    refine p_skip rfl rfl rfl ?_
    refine p_pickF rfl rfl rfl rfl rfl rfl ?_
    refine p_pure htab rfl rfl rfl rfl ?_
    refine p_skip rfl rfl rfl ?_
    refine p_skip rfl rfl rfl ?_
    refine p_skip rfl rfl rfl ?_
    refine p_skip rfl rfl rfl ?_
    refine p_skip rfl rfl rfl ?_
    refine p_pickF rfl rfl rfl rfl rfl rfl ?_
    refine p_pure htab rfl rfl rfl rfl ?_
    refine p_skip rfl rfl rfl ?_
    refine p_skip rfl rfl rfl ?_
    refine p_skip rfl rfl rfl ?_
    refine p_skip rfl rfl rfl ?_
    refine p_skip rfl rfl rfl ?_
    refine p_skip rfl rfl rfl ?_
    refine p_pickF rfl rfl rfl rfl rfl rfl ?_
    refine p_pure htab rfl rfl rfl rfl ?_
    refine p_skip rfl rfl rfl ?_
    refine p_skip rfl rfl rfl ?_
    refine p_skip rfl rfl rfl ?_
    refine p_skip rfl rfl rfl ?_
    refine p_skip rfl rfl rfl ?_
    refine p_skip rfl rfl rfl ?_
    refine p_skip rfl rfl rfl ?_
    refine p_skip rfl rfl rfl ?_
    refine p_skip rfl rfl rfl ?_
    refine p_pickF rfl rfl rfl rfl rfl rfl ?_
    refine p_pure htab rfl rfl rfl rfl ?_
    refine ops_nil ?_
    refine then_normal ?_
    refine wpD_ret ?_
    have er16 := yes_eq hm; subst er16
    refine retX.of (s' := ⟨[(6, .v (.bool false))], [], []⟩) (WkS.perm (WkS.cons rfl (Wk.refl _) (WkS.nil)) (List.Perm.refl _) (List.Perm.refl _)) (retD_mk (hh := []) (.inl rfl) (resL_cons (resOne_tmp rfl) (resL_nil)) (List.nil_sublist _) (List.Sublist.refl _) ?_)
    exact ⟨rfl, rfl, rfl⟩
structure T2ApiExpr where
  g0 : TApiExpr
  g1 : TApiExpr
def eT2ApiExpr (x : T2ApiExpr) : D := .agg [.v (.int .i64 x.g0.gOp), .v (.int .i64 x.g0.gN), .v (.string x.g0.gName), .lst 5 (x.g0.gKids.map eTApiExpr) .no, .v (.int .i64 x.g0.gAt), .v (.int .i64 x.g1.gOp), .v (.int .i64 x.g1.gN), .v (.string x.g1.gName), .lst 5 (x.g1.gKids.map eTApiExpr) .no, .v (.int .i64 x.g1.gAt)]
abbrev nlTn1_26 : List (List Nat) := [[],[0],[],[2],[0,1,2,3],[],[5],[],[7],[0,1,2,3,4,5,6,7,8],[0,1,2,3,4,5,6,7,8,9],[0,1,2,3,4,5,6,7,8,9],[0,1,2,3,4,5,6,7,8,9],[0,1,2,3,4,5,6,7,8,9,12],[0,1,2,3,4,5,6,7,8,9],[0,1,2,3,4,5,6,7,8,9,14],[0,1,2,3,4,5,6,7,8,9,12,13,14,15],[0,1,2,3,4,5,6,7,8,9],[0,1,2,3,4,5,6,7,8,9,17],[0,1,2,3,4,5,6,7,8,9],[0,1,2,3,4,5,6,7,8,9,19],[0,1,2,3,4,5,6,7,8,9,12,13,14,15,16,17,18,19,20],[0,1,2,3,4,5,6,7,8,9,12,13,14,15,16,17,18,19,20,21],[0,1,2,3,4,5,6,7,8,9,12,13,14,15,16,17,18,19,20,21],[0,1,2,3,4,5,6,7,8,9,12,13,14,15,16,17,18,19,20,21],[0,1,2,3,4,5,6,7,8,9,12,13,14,15,16,17,18,19,20,21],[0,1,2,3,4,5,6,7,8,9,12,13,14,15,16,17,18,19,20,21],[0,1,2,3,4,5,6,7,8,9,12,13,14,15,16,17,18,19,20,21,25,26],[0,1,2,3,4,5,6,7,8,9,12,13,14,15,16,17,18,19,20,21],[0,1,2,3,4,5,6,7,8,9,12,13,14,15,16,17,18,19,20,21],[0,1,2,3,4,5,6,7,8,9,12,13,14,15,16,17,18,19,20,21,25,26,27,28,29],[0,1,2,3,4,5,6,7,8,9,12,13,14,15,16,17,18,19,20,21,25,26,27,28,29,30],[0,1,2,3,4,5,6,7,8,9,12,13,14,15,16,17,18,19,20,21,25,26,27,28,29,30],[0,1,2,3,4,5,6,7,8,9,12,13,14,15,16,17,18,19,20,21,25,26,27,28,29,30],[0,1,2,3,4,5,6,7,8,9,12,13,14,15,16,17,18,19,20,21,25,26,27,28,29,30],[0,1,2,3,4,5,6,7,8,9,12,13,14,15,16,17,18,19,20,21,25,26,27,28,29,30]]
abbrev nlTn1_27 : List (List Nat) := [[],[0],[],[2],[0,1,2,3],[],[5],[],[7],[0,1,2,3,4,5,6,7,8],[0,1,2,3,4,5,6,7,8,9],[0,1,2,3,4,5,6,7,8,9,10],[0,1,2,3,4,5,6,7,8,9,10,11],[0,1,2,3,4,5,6,7,8,9,10,11,12],[0,1,2,3,4,5,6,7,8,9,10,11],[0,1,2,3,4,5,6,7,8,9,10,11,14],[0,1,2,3,4,5,6,7,8,9,10,11,12,13,14,15],[0,1,2,3,4,5,6,7,8,9,10,11],[0,1,2,3,4,5,6,7,8,9,10,11,17],[0,1,2,3,4,5,6,7,8,9,10,11],[0,1,2,3,4,5,6,7,8,9,10,11,19],[0,1,2,3,4,5,6,7,8,9,10,11,12,13,14,15,16,17,18,19,20],[0,1,2,3,4,5,6,7,8,9,10,11,12,13,14,15,16,17,18,19,20,21],[0,1,2,3,4,5,6,7,8,9,10,11,12,13,14,15,16,17,18,19,20,21,22],[0,1,2,3,4,5,6,7,8,9,10,11,12,13,14,15,16,17,18,19,20,21,22,23],[0,1,2,3,4,5,6,7,8,9,10,11,12,13,14,15,16,17,18,19,20,21,22,23,24],[0,1,2,3,4,5,6,7,8,9,10,11,12,13,14,15,16,17,18,19,20,21,22,23,24],[0,1,2,3,4,5,6,7,8,9,10,11,12,13,14,15,16,17,18,19,20,21,22,23,24,25,26],[0,1,2,3,4,5,6,7,8,9,10,11,12,13,14,15,16,17,18,19,20,21,22,23,24],[0,1,2,3,4,5,6,7,8,9,10,11,12,13,14,15,16,17,18,19,20,21,22,23,24],[0,1,2,3,4,5,6,7,8,9,10,11,12,13,14,15,16,17,18,19,20,21,22,23,24,25,26,27,28,29],[0,1,2,3,4,5,6,7,8,9,10,11,12,13,14,15,16,17,18,19,20,21,22,23,24,25,26,27,28,29,30],[0,1,2,3,4,5,6,7,8,9,10,11,12,13,14,15,16,17,18,19,20,21,22,23,24,25,26,27,28,29,30,31],[0,1,2,3,4,5,6,7,8,9,10,11,12,13,14,15,16,17,18,19,20,21,22,23,24,25,26,27,28,29,30,31,32],[0,1,2,3,4,5,6,7,8,9,10,11,12,13,14,15,16,17,18,19,20,21,22,23,24,25,26,27,28,29,30,31,32,33],[0,1,2,3,4,5,6,7,8,9,10,11,12,13,14,15,16,17,18,19,20,21,22,23,24,25,26,27,28,29,30,31,32,33],[0,1,2,3,4,5,6,7,8,9,10,11,12,13,14,15,16,17,18,19,20,21,22,23,24,25,26,27,28,29,30,31,32,33,34,35],[0,1,2,3,4,5,6,7,8,9,10,11,12,13,14,15,16,17,18,19,20,21,22,23,24,25,26,27,28,29,30,31,32,33,34,35,36],[0,1,2,3,4,5,6,7,8,9,10,11,12,13,14,15,16,17,18,19,20,21,22,23,24,25,26,27,28,29,30,31,32,33,34,35,36,37],[0,1,2,3,4,5,6,7,8,9,10,11,12,13,14,15,16,17,18,19,20,21,22,23,24,25,26,27,28,29,30,31,32,33,34,35,36,37,38],[0,1,2,3,4,5,6,7,8,9,10,11,12,13,14,15,16,17,18,19,20,21,22,23,24,25,26,27,28,29,30,31,32,33,34,35,36,37,38,39],[0,1,2,3,4,5,6,7,8,9,10,11,12,13,14,15,16,17,18,19,20,21,22,23,24,25,26,27,28,29,30,31,32,33,34,35,36,37,38,39,40]]
abbrev nlTn1_28 : List (List Nat) := [[],[0],[],[2],[0,1,2,3],[],[5],[],[7],[0,1,2,3,4,5,6,7,8],[0,1,2,3,4,5,6,7,8,9],[0,1,2,3,4,5,6,7,8,9],[0,1,2,3,4,5,6,7,8,9],[0,1,2,3,4,5,6,7,8,9,12],[0,1,2,3,4,5,6,7,8,9],[0,1,2,3,4,5,6,7,8,9,14],[0,1,2,3,4,5,6,7,8,9,12,13,14,15],[0,1,2,3,4,5,6,7,8,9],[0,1,2,3,4,5,6,7,8,9,17],[0,1,2,3,4,5,6,7,8,9],[0,1,2,3,4,5,6,7,8,9,19],[0,1,2,3,4,5,6,7,8,9,12,13,14,15,16,17,18,19,20],[0,1,2,3,4,5,6,7,8,9,12,13,14,15,16,17,18,19,20,21],[0,1,2,3,4,5,6,7,8,9,12,13,14,15,16,17,18,19,20,21],[0,1,2,3,4,5,6,7,8,9,12,13,14,15,16,17,18,19,20,21],[0,1,2,3,4,5,6,7,8,9,12,13,14,15,16,17,18,19,20,21],[0,1,2,3,4,5,6,7,8,9,12,13,14,15,16,17,18,19,20,21],[0,1,2,3,4,5,6,7,8,9,12,13,14,15,16,17,18,19,20,21],[0,1,2,3,4,5,6,7,8,9,12,13,14,15,16,17,18,19,20,21],[0,1,2,3,4,5,6,7,8,9,12,13,14,15,16,17,18,19,20,21],[0,1,2,3,4,5,6,7,8,9,12,13,14,15,16,17,18,19,20,21],[0,1,2,3,4,5,6,7,8,9,12,13,14,15,16,17,18,19,20,21],[0,1,2,3,4,5,6,7,8,9,12,13,14,15,16,17,18,19,20,21],[0,1,2,3,4,5,6,7,8,9,12,13,14,15,16,17,18,19,20,21],[0,1,2,3,4,5,6,7,8,9,12,13,14,15,16,17,18,19,20,21],[0,1,2,3,4,5,6,7,8,9,12,13,14,15,16,17,18,19,20,21]]
abbrev nlTn1_29 : List (List Nat) := [[],[0],[],[2],[0,1,2,3],[],[5],[],[7],[0,1,2,3,4,5,6,7,8],[0,1,2,3,4,5,6,7,8,9],[0,1,2,3,4,5,6,7,8,9],[0,1,2,3,4,5,6,7,8,9],[0,1,2,3,4,5,6,7,8,9],[0,1,2,3,4,5,6,7,8,9],[0,1,2,3,4,5,6,7,8,9],[0,1,2,3,4,5,6,7,8,9],[0,1,2,3,4,5,6,7,8,9],[0,1,2,3,4,5,6,7,8,9],[0,1,2,3,4,5,6,7,8,9],[0,1,2,3,4,5,6,7,8,9],[0,1,2,3,4,5,6,7,8,9],[0,1,2,3,4,5,6,7,8,9],[0,1,2,3,4,5,6,7,8,9],[0,1,2,3,4,5,6,7,8,9],[0,1,2,3,4,5,6,7,8,9],[0,1,2,3,4,5,6,7,8,9],[0,1,2,3,4,5,6,7,8,9],[0,1,2,3,4,5,6,7,8,9],[0,1,2,3,4,5,6,7,8,9],[0,1,2,3,4,5,6,7,8,9],[0,1,2,3,4,5,6,7,8,9],[0,1,2,3,4,5,6,7,8,9],[0,1,2,3,4,5,6,7,8,9],[0,1,2,3,4,5,6,7,8,9],[0,1,2,3,4,5,6,7,8,9]]
noncomputable def l11_TreeSame (a0 : TApiFunc) (a1 : TApiFunc) (a2 : T2ApiExpr) : Option (Bool) :=
  ((tree_Same a2.g0 a2.g1).bind fun x4 => ((r11_Same a2.g0 a2.g1).bind fun x5 => (bif (x4 == x5) then ((tree_SameAll a0.gBody a1.gBody).bind fun x7 => ((r11_SameAll a0.gBody a1.gBody false).bind fun x8 => (bif (x7 == x8) then ((tree_SameFunc a0 a1).bind fun x10 => ((r11_SameFunc a0 a1 false).bind fun x11 => (bif (x10 == x11) then ((tree_SameFunc a0 a0).bind fun x13 => (bif x13 then (l11_lives.bind fun x15 => some x15) else some false)) else some false))) else some false))) else some false)))
set_option maxRecDepth 100000 in
set_option maxHeartbeats 2000000 in
theorem l11_TreeSame_ok (a0 : TApiFunc) (a1 : TApiFunc) (a2 : T2ApiExpr) (r : Bool) (h0 : l11_TreeSame a0 a1 a2 = some r) : CallsD Try.prog 5 [eTApiFunc a0, eTApiFunc a1, eT2ApiExpr a2] [] [] (fun d h k => d = .v (.bool r) ∧ h = [] ∧ k = []) := by
  have hm := yes_of h0
  unfold l11_TreeSame at hm
  clear h0
  refine enterX htab Try.func5 rfl rfl rfl rfl rfl (fun C => ?_)
  refine wpD_seq ?_
  refine wpD_region ?_
  refine p_box rfl rfl rfl rfl rfl rfl rfl (fun b1 => ?_)
  refine p_box rfl rfl rfl rfl rfl rfl rfl (fun b2 => ?_)
  refine p_box rfl rfl rfl rfl rfl rfl rfl (fun b3 => ?_)
  refine p_pure htab rfl rfl rfl rfl ?_
  refine ops_nil ?_
  refine then_normal ?_
  refine wpD_seq ?_
  obtain ⟨x4, q4, hm⟩ := yes_bind hm
  obtain ⟨x5, q5, hm⟩ := yes_bind hm
  refine bycB (x4 == x5) (fun hs6 => ?_) (fun hs6 => ?_)
  · replace hm := yes_t hs6 hm
    obtain ⟨x7, q7, hm⟩ := yes_bind hm
    obtain ⟨x8, q8, hm⟩ := yes_bind hm
    refine bycB (x7 == x8) (fun hs9 => ?_) (fun hs9 => ?_)
    · replace hm := yes_t hs9 hm
      obtain ⟨x10, q10, hm⟩ := yes_bind hm
      obtain ⟨x11, q11, hm⟩ := yes_bind hm
      refine bycB (x10 == x11) (fun hs12 => ?_) (fun hs12 => ?_)
      · replace hm := yes_t hs12 hm
        refine wpD_draws 36 [] nlTn1_26 [0,1,2,3,4,5,6,7,8,9,12,13,14,15,16,17,18,19,20,21,25,26,27,28,29,30,34,35] nlTn1_27 (by kernel_rfl) (by kernel_rfl) (by kernel_rfl) (by rfl) (by rfl) (by kernel_rfl) ?_
        apply Exists.intro
        apply Exists.intro
        apply Exists.intro
        apply Exists.intro
        apply Exists.intro
        apply Exists.intro
        apply Exists.intro
        apply Exists.intro
        apply Exists.intro
        apply Exists.intro
        apply Exists.intro
        apply Exists.intro
        apply Exists.intro
        apply Exists.intro
        apply Exists.intro
        apply Exists.intro
        apply Exists.intro
        apply Exists.intro
        apply Exists.intro
        apply Exists.intro
        apply Exists.intro
        apply Exists.intro
        apply Exists.intro
        apply Exists.intro
        apply Exists.intro
        apply Exists.intro
        apply Exists.intro
        apply Exists.intro
        intro bs
        refine z_e rfl rfl (x_elemA htab rfl rfl rfl rfl rfl rfl (by decide) (by decide)) rfl rfl rfl rfl rfl rfl ?_
        refine z_eM rfl rfl (xm_load (d := .agg [.v (.int .i64 a2.g0.gOp), .v (.int .i64 a2.g0.gN), .v (.string a2.g0.gName), .lst 5 (a2.g0.gKids.map eTApiExpr) .no, .v (.int .i64 a2.g0.gAt)]) 2 htab rfl rfl rfl rfl rfl) rfl rfl rfl rfl rfl rfl ?_
        refine z_e rfl rfl (x_elemA htab rfl rfl rfl rfl rfl rfl (by decide) (by decide)) rfl rfl rfl rfl rfl rfl ?_
        refine z_eM rfl rfl (xm_load (d := .agg [.v (.int .i64 a2.g1.gOp), .v (.int .i64 a2.g1.gN), .v (.string a2.g1.gName), .lst 5 (a2.g1.gKids.map eTApiExpr) .no, .v (.int .i64 a2.g1.gAt)]) 2 htab rfl rfl rfl rfl rfl) rfl rfl rfl rfl rfl rfl ?_
        refine z_call rfl rfl (tree_Same_ok a2.g0 a2.g1 x4 q4) rfl rfl (WkL.cons (Wk.trans (Wk.agg (WkR.refl _)) (Wk.of_eq (eTApiExpr_eq a2.g0).symm)) (WkL.cons (Wk.trans (Wk.agg (WkR.refl _)) (Wk.of_eq (eTApiExpr_eq a2.g1).symm)) (WkL.refl _))) rfl rfl rfl rfl rfl rfl ?_
        refine z_e rfl rfl (x_elemA htab rfl rfl rfl rfl rfl rfl (by decide) (by decide)) rfl rfl rfl rfl rfl rfl ?_
        refine z_eM rfl rfl (xm_load (d := .agg [.v (.int .i64 a2.g0.gOp), .v (.int .i64 a2.g0.gN), .v (.string a2.g0.gName), .lst 5 (a2.g0.gKids.map eTApiExpr) .no, .v (.int .i64 a2.g0.gAt)]) 2 htab rfl rfl rfl rfl rfl) rfl rfl rfl rfl rfl rfl ?_
        refine z_e rfl rfl (x_elemA htab rfl rfl rfl rfl rfl rfl (by decide) (by decide)) rfl rfl rfl rfl rfl rfl ?_
        refine z_eM rfl rfl (xm_load (d := .agg [.v (.int .i64 a2.g1.gOp), .v (.int .i64 a2.g1.gN), .v (.string a2.g1.gName), .lst 5 (a2.g1.gKids.map eTApiExpr) .no, .v (.int .i64 a2.g1.gAt)]) 2 htab rfl rfl rfl rfl rfl) rfl rfl rfl rfl rfl rfl ?_
        refine z_call rfl rfl (r11_Same_ok a2.g0 a2.g1 x5 q5) rfl rfl (WkL.cons (Wk.trans (Wk.agg (WkR.refl _)) (Wk.of_eq (eTApiExpr_eq a2.g0).symm)) (WkL.cons (Wk.trans (Wk.agg (WkR.refl _)) (Wk.of_eq (eTApiExpr_eq a2.g1).symm)) (WkL.refl _))) rfl rfl rfl rfl rfl rfl ?_
        refine z_q rfl rfl (ex_pure htab rfl) rfl rfl rfl rfl rfl rfl ?_
        refine z_q rfl rfl (ex_pure htab rfl) rfl rfl rfl rfl rfl rfl ?_
        refine z_known (j := 18) (b' := true) rfl hs6 ?_
        refine z_e rfl rfl (ex_pure htab rfl) rfl rfl rfl rfl rfl rfl ?_
        refine z_eM rfl rfl (xm_load 0 htab rfl rfl rfl rfl rfl) rfl rfl rfl rfl rfl rfl ?_
        refine z_e rfl rfl (ex_pure htab rfl) rfl rfl rfl rfl rfl rfl ?_
        refine z_eM rfl rfl (xm_load 1 htab rfl rfl rfl rfl rfl) rfl rfl rfl rfl rfl rfl ?_
        refine z_call rfl rfl (tree_SameAll_ok a0.gBody a1.gBody x7 q7) rfl rfl (WkL.refl _) rfl rfl rfl rfl rfl rfl ?_
        refine z_e rfl rfl (ex_pure htab rfl) rfl rfl rfl rfl rfl rfl ?_
        refine z_eM rfl rfl (xm_load 0 htab rfl rfl rfl rfl rfl) rfl rfl rfl rfl rfl rfl ?_
        refine z_e rfl rfl (ex_pure htab rfl) rfl rfl rfl rfl rfl rfl ?_
        refine z_eM rfl rfl (xm_load 1 htab rfl rfl rfl rfl rfl) rfl rfl rfl rfl rfl rfl ?_
        refine z_call rfl rfl (r11_SameAll_ok a0.gBody a1.gBody false x8 q8) rfl rfl (WkL.refl _) rfl rfl rfl rfl rfl rfl ?_
        refine z_q rfl rfl (ex_pure htab rfl) rfl rfl rfl rfl rfl rfl ?_
        refine z_q rfl rfl (x_pickT rfl rfl rfl) rfl rfl rfl rfl rfl rfl ?_
        refine z_q rfl rfl (ex_pure htab rfl) rfl rfl rfl rfl rfl rfl ?_
        refine z_known (j := 31) (b' := true) rfl hs9 ?_
        refine z_eM rfl rfl (xm_load (d := eTApiFunc a0) 0 htab rfl rfl rfl rfl rfl) rfl rfl rfl rfl rfl rfl ?_
        refine z_eM rfl rfl (xm_load (d := eTApiFunc a1) 1 htab rfl rfl rfl rfl rfl) rfl rfl rfl rfl rfl rfl ?_
        refine z_call rfl rfl (tree_SameFunc_ok a0 a1 x10 q10) rfl rfl (WkL.refl _) rfl rfl rfl rfl rfl rfl ?_
        refine z_eM rfl rfl (xm_load (d := eTApiFunc a0) 0 htab rfl rfl rfl rfl rfl) rfl rfl rfl rfl rfl rfl ?_
        refine z_eM rfl rfl (xm_load (d := eTApiFunc a1) 1 htab rfl rfl rfl rfl rfl) rfl rfl rfl rfl rfl rfl ?_
        refine z_call rfl rfl (r11_SameFunc_ok a0 a1 false x11 q11) rfl rfl (WkL.refl _) rfl rfl rfl rfl rfl rfl ?_
        refine z_q rfl rfl (ex_pure htab rfl) rfl rfl rfl rfl rfl rfl ?_
        refine z_q rfl rfl (x_pickT rfl rfl rfl) rfl rfl rfl rfl rfl rfl ?_
        refine z_q rfl rfl (ex_pure htab rfl) rfl rfl rfl rfl rfl rfl ?_
        refine z_known (j := 40) (b' := true) rfl hs12 ?_
        refine z_eM rfl rfl (xm_load (d := eTApiFunc a0) 0 htab rfl rfl rfl rfl rfl) rfl rfl rfl rfl rfl rfl ?_
        refine z_eM rfl rfl (xm_load (d := eTApiFunc a0) 0 htab rfl rfl rfl rfl rfl) rfl rfl rfl rfl rfl rfl ?_
        refine z_nil rfl rfl (fun e he => by simp [isAl] at he) ?_
        obtain ⟨x13, q13, hm⟩ := yes_bind hm
        refine p_call0 (tree_SameFunc_ok a0 a0 x13 q13) rfl rfl rfl rfl rfl (WkL.refl _) ?_
        rintro _ rfl
        refine p_pickT rfl rfl rfl rfl rfl rfl ?_
        refine p_pure htab rfl rfl rfl rfl ?_
        refine p_split (i := 45) rfl (fun hg14 => ?_) (fun hg14 => ?_)
        · replace hm := yes_t hg14 hm
          obtain ⟨x15, q15, hm⟩ := yes_bind hm
          refine p_call0 (l11_lives_ok x15 q15) rfl rfl rfl rfl rfl (WkL.refl _) ?_
          rintro _ rfl
          refine p_pickT rfl rfl rfl rfl rfl rfl ?_
          refine p_pure htab rfl rfl rfl rfl ?_
          refine ops_nil ?_
          refine then_normal ?_
          refine wpD_ret ?_
          have er16 := yes_eq hm; subst er16
          refine retX.of (s' := ⟨[(6, .v (.bool x15))], [], []⟩) (WkS.perm (WkS.cons rfl (Wk.refl _) (WkS.nil)) (List.Perm.refl _) (List.Perm.refl _)) (retD_mk (hh := []) (.inl rfl) (resL_cons (resOne_tmp rfl) (resL_nil)) (List.nil_sublist _) (List.Sublist.refl _) ?_)
          exact ⟨rfl, rfl, rfl⟩
        · replace hm := yes_f hg14 hm
          refine p_skip rfl rfl rfl ?_
          refine p_pickF rfl rfl rfl rfl rfl rfl ?_
          refine p_pure htab rfl rfl rfl rfl ?_
          refine ops_nil ?_
          refine then_normal ?_
          refine wpD_ret ?_
          have er17 := yes_eq hm; subst er17
          refine retX.of (s' := ⟨[(6, .v (.bool false))], [], []⟩) (WkS.perm (WkS.cons rfl (Wk.refl _) (WkS.nil)) (List.Perm.refl _) (List.Perm.refl _)) (retD_mk (hh := []) (.inl rfl) (resL_cons (resOne_tmp rfl) (resL_nil)) (List.nil_sublist _) (List.Sublist.refl _) ?_)
          exact ⟨rfl, rfl, rfl⟩
      · replace hm := yes_f hs12 hm
        refine wpD_draws 36 [] nlTn1_26 [0,1,2,3,4,5,6,7,8,9,12,13,14,15,16,17,18,19,20,21,25,26,27,28,29,30] nlTn1_27 (by kernel_rfl) (by kernel_rfl) (by kernel_rfl) (by rfl) (by rfl) (by kernel_rfl) ?_
        apply Exists.intro
        apply Exists.intro
        apply Exists.intro
        apply Exists.intro
        apply Exists.intro
        apply Exists.intro
        apply Exists.intro
        apply Exists.intro
        apply Exists.intro
        apply Exists.intro
        apply Exists.intro
        apply Exists.intro
        apply Exists.intro
        apply Exists.intro
        apply Exists.intro
        apply Exists.intro
        apply Exists.intro
        apply Exists.intro
        apply Exists.intro
        apply Exists.intro
        apply Exists.intro
        apply Exists.intro
        apply Exists.intro
        apply Exists.intro
        apply Exists.intro
        apply Exists.intro
        intro bs
        refine z_e rfl rfl (x_elemA htab rfl rfl rfl rfl rfl rfl (by decide) (by decide)) rfl rfl rfl rfl rfl rfl ?_
        refine z_eM rfl rfl (xm_load (d := .agg [.v (.int .i64 a2.g0.gOp), .v (.int .i64 a2.g0.gN), .v (.string a2.g0.gName), .lst 5 (a2.g0.gKids.map eTApiExpr) .no, .v (.int .i64 a2.g0.gAt)]) 2 htab rfl rfl rfl rfl rfl) rfl rfl rfl rfl rfl rfl ?_
        refine z_e rfl rfl (x_elemA htab rfl rfl rfl rfl rfl rfl (by decide) (by decide)) rfl rfl rfl rfl rfl rfl ?_
        refine z_eM rfl rfl (xm_load (d := .agg [.v (.int .i64 a2.g1.gOp), .v (.int .i64 a2.g1.gN), .v (.string a2.g1.gName), .lst 5 (a2.g1.gKids.map eTApiExpr) .no, .v (.int .i64 a2.g1.gAt)]) 2 htab rfl rfl rfl rfl rfl) rfl rfl rfl rfl rfl rfl ?_
        refine z_call rfl rfl (tree_Same_ok a2.g0 a2.g1 x4 q4) rfl rfl (WkL.cons (Wk.trans (Wk.agg (WkR.refl _)) (Wk.of_eq (eTApiExpr_eq a2.g0).symm)) (WkL.cons (Wk.trans (Wk.agg (WkR.refl _)) (Wk.of_eq (eTApiExpr_eq a2.g1).symm)) (WkL.refl _))) rfl rfl rfl rfl rfl rfl ?_
        refine z_e rfl rfl (x_elemA htab rfl rfl rfl rfl rfl rfl (by decide) (by decide)) rfl rfl rfl rfl rfl rfl ?_
        refine z_eM rfl rfl (xm_load (d := .agg [.v (.int .i64 a2.g0.gOp), .v (.int .i64 a2.g0.gN), .v (.string a2.g0.gName), .lst 5 (a2.g0.gKids.map eTApiExpr) .no, .v (.int .i64 a2.g0.gAt)]) 2 htab rfl rfl rfl rfl rfl) rfl rfl rfl rfl rfl rfl ?_
        refine z_e rfl rfl (x_elemA htab rfl rfl rfl rfl rfl rfl (by decide) (by decide)) rfl rfl rfl rfl rfl rfl ?_
        refine z_eM rfl rfl (xm_load (d := .agg [.v (.int .i64 a2.g1.gOp), .v (.int .i64 a2.g1.gN), .v (.string a2.g1.gName), .lst 5 (a2.g1.gKids.map eTApiExpr) .no, .v (.int .i64 a2.g1.gAt)]) 2 htab rfl rfl rfl rfl rfl) rfl rfl rfl rfl rfl rfl ?_
        refine z_call rfl rfl (r11_Same_ok a2.g0 a2.g1 x5 q5) rfl rfl (WkL.cons (Wk.trans (Wk.agg (WkR.refl _)) (Wk.of_eq (eTApiExpr_eq a2.g0).symm)) (WkL.cons (Wk.trans (Wk.agg (WkR.refl _)) (Wk.of_eq (eTApiExpr_eq a2.g1).symm)) (WkL.refl _))) rfl rfl rfl rfl rfl rfl ?_
        refine z_q rfl rfl (ex_pure htab rfl) rfl rfl rfl rfl rfl rfl ?_
        refine z_q rfl rfl (ex_pure htab rfl) rfl rfl rfl rfl rfl rfl ?_
        refine z_known (j := 18) (b' := true) rfl hs6 ?_
        refine z_e rfl rfl (ex_pure htab rfl) rfl rfl rfl rfl rfl rfl ?_
        refine z_eM rfl rfl (xm_load 0 htab rfl rfl rfl rfl rfl) rfl rfl rfl rfl rfl rfl ?_
        refine z_e rfl rfl (ex_pure htab rfl) rfl rfl rfl rfl rfl rfl ?_
        refine z_eM rfl rfl (xm_load 1 htab rfl rfl rfl rfl rfl) rfl rfl rfl rfl rfl rfl ?_
        refine z_call rfl rfl (tree_SameAll_ok a0.gBody a1.gBody x7 q7) rfl rfl (WkL.refl _) rfl rfl rfl rfl rfl rfl ?_
        refine z_e rfl rfl (ex_pure htab rfl) rfl rfl rfl rfl rfl rfl ?_
        refine z_eM rfl rfl (xm_load 0 htab rfl rfl rfl rfl rfl) rfl rfl rfl rfl rfl rfl ?_
        refine z_e rfl rfl (ex_pure htab rfl) rfl rfl rfl rfl rfl rfl ?_
        refine z_eM rfl rfl (xm_load 1 htab rfl rfl rfl rfl rfl) rfl rfl rfl rfl rfl rfl ?_
        refine z_call rfl rfl (r11_SameAll_ok a0.gBody a1.gBody false x8 q8) rfl rfl (WkL.refl _) rfl rfl rfl rfl rfl rfl ?_
        refine z_q rfl rfl (ex_pure htab rfl) rfl rfl rfl rfl rfl rfl ?_
        refine z_q rfl rfl (x_pickT rfl rfl rfl) rfl rfl rfl rfl rfl rfl ?_
        refine z_q rfl rfl (ex_pure htab rfl) rfl rfl rfl rfl rfl rfl ?_
        refine z_known (j := 31) (b' := true) rfl hs9 ?_
        refine z_eM rfl rfl (xm_load (d := eTApiFunc a0) 0 htab rfl rfl rfl rfl rfl) rfl rfl rfl rfl rfl rfl ?_
        refine z_eM rfl rfl (xm_load (d := eTApiFunc a1) 1 htab rfl rfl rfl rfl rfl) rfl rfl rfl rfl rfl rfl ?_
        refine z_call rfl rfl (tree_SameFunc_ok a0 a1 x10 q10) rfl rfl (WkL.refl _) rfl rfl rfl rfl rfl rfl ?_
        refine z_eM rfl rfl (xm_load (d := eTApiFunc a0) 0 htab rfl rfl rfl rfl rfl) rfl rfl rfl rfl rfl rfl ?_
        refine z_eM rfl rfl (xm_load (d := eTApiFunc a1) 1 htab rfl rfl rfl rfl rfl) rfl rfl rfl rfl rfl rfl ?_
        refine z_call rfl rfl (r11_SameFunc_ok a0 a1 false x11 q11) rfl rfl (WkL.refl _) rfl rfl rfl rfl rfl rfl ?_
        refine z_q rfl rfl (ex_pure htab rfl) rfl rfl rfl rfl rfl rfl ?_
        refine z_q rfl rfl (x_pickT rfl rfl rfl) rfl rfl rfl rfl rfl rfl ?_
        refine z_q rfl rfl (ex_pure htab rfl) rfl rfl rfl rfl rfl rfl ?_
        refine z_known (j := 40) (b' := false) rfl hs12 ?_
        refine z_skip rfl rfl rfl rfl ?_
        refine z_skip rfl rfl rfl rfl ?_
        refine z_nil rfl rfl (fun e he => by simp [isAl] at he) ?_
        refine p_skip rfl rfl rfl ?_
        refine p_pickF rfl rfl rfl rfl rfl rfl ?_
        refine p_pure htab rfl rfl rfl rfl ?_
        refine p_skip rfl rfl rfl ?_
        refine p_pickF rfl rfl rfl rfl rfl rfl ?_
        refine p_pure htab rfl rfl rfl rfl ?_
        refine ops_nil ?_
        refine then_normal ?_
        refine wpD_ret ?_
        have er18 := yes_eq hm; subst er18
        refine retX.of (s' := ⟨[(6, .v (.bool false))], [], []⟩) (WkS.perm (WkS.cons rfl (Wk.refl _) (WkS.nil)) (List.Perm.refl _) (List.Perm.refl _)) (retD_mk (hh := []) (.inl rfl) (resL_cons (resOne_tmp rfl) (resL_nil)) (List.nil_sublist _) (List.Sublist.refl _) ?_)
        exact ⟨rfl, rfl, rfl⟩
    · replace hm := yes_f hs9 hm
      refine wpD_draws 36 [] nlTn1_28 [0,1,2,3,4,5,6,7,8,9,12,13,14,15,16,17,18,19,20,21] nlTn1_27 (by kernel_rfl) (by kernel_rfl) (by kernel_rfl) (by rfl) (by rfl) (by kernel_rfl) ?_
      apply Exists.intro
      apply Exists.intro
      apply Exists.intro
      apply Exists.intro
      apply Exists.intro
      apply Exists.intro
      apply Exists.intro
      apply Exists.intro
      apply Exists.intro
      apply Exists.intro
      apply Exists.intro
      apply Exists.intro
      apply Exists.intro
      apply Exists.intro
      apply Exists.intro
      apply Exists.intro
      apply Exists.intro
      apply Exists.intro
      apply Exists.intro
      apply Exists.intro
      intro bs
      refine z_e rfl rfl (x_elemA htab rfl rfl rfl rfl rfl rfl (by decide) (by decide)) rfl rfl rfl rfl rfl rfl ?_
      refine z_eM rfl rfl (xm_load (d := .agg [.v (.int .i64 a2.g0.gOp), .v (.int .i64 a2.g0.gN), .v (.string a2.g0.gName), .lst 5 (a2.g0.gKids.map eTApiExpr) .no, .v (.int .i64 a2.g0.gAt)]) 2 htab rfl rfl rfl rfl rfl) rfl rfl rfl rfl rfl rfl ?_
      refine z_e rfl rfl (x_elemA htab rfl rfl rfl rfl rfl rfl (by decide) (by decide)) rfl rfl rfl rfl rfl rfl ?_
      refine z_eM rfl rfl (xm_load (d := .agg [.v (.int .i64 a2.g1.gOp), .v (.int .i64 a2.g1.gN), .v (.string a2.g1.gName), .lst 5 (a2.g1.gKids.map eTApiExpr) .no, .v (.int .i64 a2.g1.gAt)]) 2 htab rfl rfl rfl rfl rfl) rfl rfl rfl rfl rfl rfl ?_
      refine z_call rfl rfl (tree_Same_ok a2.g0 a2.g1 x4 q4) rfl rfl (WkL.cons (Wk.trans (Wk.agg (WkR.refl _)) (Wk.of_eq (eTApiExpr_eq a2.g0).symm)) (WkL.cons (Wk.trans (Wk.agg (WkR.refl _)) (Wk.of_eq (eTApiExpr_eq a2.g1).symm)) (WkL.refl _))) rfl rfl rfl rfl rfl rfl ?_
      refine z_e rfl rfl (x_elemA htab rfl rfl rfl rfl rfl rfl (by decide) (by decide)) rfl rfl rfl rfl rfl rfl ?_
      refine z_eM rfl rfl (xm_load (d := .agg [.v (.int .i64 a2.g0.gOp), .v (.int .i64 a2.g0.gN), .v (.string a2.g0.gName), .lst 5 (a2.g0.gKids.map eTApiExpr) .no, .v (.int .i64 a2.g0.gAt)]) 2 htab rfl rfl rfl rfl rfl) rfl rfl rfl rfl rfl rfl ?_
      refine z_e rfl rfl (x_elemA htab rfl rfl rfl rfl rfl rfl (by decide) (by decide)) rfl rfl rfl rfl rfl rfl ?_
      refine z_eM rfl rfl (xm_load (d := .agg [.v (.int .i64 a2.g1.gOp), .v (.int .i64 a2.g1.gN), .v (.string a2.g1.gName), .lst 5 (a2.g1.gKids.map eTApiExpr) .no, .v (.int .i64 a2.g1.gAt)]) 2 htab rfl rfl rfl rfl rfl) rfl rfl rfl rfl rfl rfl ?_
      refine z_call rfl rfl (r11_Same_ok a2.g0 a2.g1 x5 q5) rfl rfl (WkL.cons (Wk.trans (Wk.agg (WkR.refl _)) (Wk.of_eq (eTApiExpr_eq a2.g0).symm)) (WkL.cons (Wk.trans (Wk.agg (WkR.refl _)) (Wk.of_eq (eTApiExpr_eq a2.g1).symm)) (WkL.refl _))) rfl rfl rfl rfl rfl rfl ?_
      refine z_q rfl rfl (ex_pure htab rfl) rfl rfl rfl rfl rfl rfl ?_
      refine z_q rfl rfl (ex_pure htab rfl) rfl rfl rfl rfl rfl rfl ?_
      refine z_known (j := 18) (b' := true) rfl hs6 ?_
      refine z_e rfl rfl (ex_pure htab rfl) rfl rfl rfl rfl rfl rfl ?_
      refine z_eM rfl rfl (xm_load 0 htab rfl rfl rfl rfl rfl) rfl rfl rfl rfl rfl rfl ?_
      refine z_e rfl rfl (ex_pure htab rfl) rfl rfl rfl rfl rfl rfl ?_
      refine z_eM rfl rfl (xm_load 1 htab rfl rfl rfl rfl rfl) rfl rfl rfl rfl rfl rfl ?_
      refine z_call rfl rfl (tree_SameAll_ok a0.gBody a1.gBody x7 q7) rfl rfl (WkL.refl _) rfl rfl rfl rfl rfl rfl ?_
      refine z_e rfl rfl (ex_pure htab rfl) rfl rfl rfl rfl rfl rfl ?_
      refine z_eM rfl rfl (xm_load 0 htab rfl rfl rfl rfl rfl) rfl rfl rfl rfl rfl rfl ?_
      refine z_e rfl rfl (ex_pure htab rfl) rfl rfl rfl rfl rfl rfl ?_
      refine z_eM rfl rfl (xm_load 1 htab rfl rfl rfl rfl rfl) rfl rfl rfl rfl rfl rfl ?_
      refine z_call rfl rfl (r11_SameAll_ok a0.gBody a1.gBody false x8 q8) rfl rfl (WkL.refl _) rfl rfl rfl rfl rfl rfl ?_
      refine z_q rfl rfl (ex_pure htab rfl) rfl rfl rfl rfl rfl rfl ?_
      refine z_q rfl rfl (x_pickT rfl rfl rfl) rfl rfl rfl rfl rfl rfl ?_
      refine z_q rfl rfl (ex_pure htab rfl) rfl rfl rfl rfl rfl rfl ?_
      refine z_known (j := 31) (b' := false) rfl hs9 ?_
      refine z_skip rfl rfl rfl rfl ?_
      refine z_skip rfl rfl rfl rfl ?_
      refine z_skip rfl rfl rfl rfl ?_
      refine z_skip rfl rfl rfl rfl ?_
      refine z_skip rfl rfl rfl rfl ?_
      refine z_skip rfl rfl rfl rfl ?_
      refine z_skip rfl rfl rfl rfl ?_
      refine z_q rfl rfl (x_pickF rfl rfl rfl) rfl rfl rfl rfl rfl rfl ?_
      refine z_q rfl rfl (ex_pure htab rfl) rfl rfl rfl rfl rfl rfl ?_
      refine z_skip rfl rfl rfl rfl ?_
      refine z_skip rfl rfl rfl rfl ?_
      refine z_nil rfl rfl (fun e he => by simp [isAl] at he) ?_
      refine p_skip rfl rfl rfl ?_
      refine p_pickF rfl rfl rfl rfl rfl rfl ?_
      refine p_pure htab rfl rfl rfl rfl ?_
      refine p_skip rfl rfl rfl ?_
      refine p_pickF rfl rfl rfl rfl rfl rfl ?_
      refine p_pure htab rfl rfl rfl rfl ?_
      refine ops_nil ?_
      refine then_normal ?_
      refine wpD_ret ?_
      have er19 := yes_eq hm; subst er19
      refine retX.of (s' := ⟨[(6, .v (.bool false))], [], []⟩) (WkS.perm (WkS.cons rfl (Wk.refl _) (WkS.nil)) (List.Perm.refl _) (List.Perm.refl _)) (retD_mk (hh := []) (.inl rfl) (resL_cons (resOne_tmp rfl) (resL_nil)) (List.nil_sublist _) (List.Sublist.refl _) ?_)
      exact ⟨rfl, rfl, rfl⟩
  · replace hm := yes_f hs6 hm
    refine wpD_draws 36 [] nlTn1_29 [0,1,2,3,4,5,6,7,8,9] nlTn1_27 (by kernel_rfl) (by kernel_rfl) (by kernel_rfl) (by rfl) (by rfl) (by kernel_rfl) ?_
    apply Exists.intro
    apply Exists.intro
    apply Exists.intro
    apply Exists.intro
    apply Exists.intro
    apply Exists.intro
    apply Exists.intro
    apply Exists.intro
    apply Exists.intro
    apply Exists.intro
    intro bs
    refine z_e rfl rfl (x_elemA htab rfl rfl rfl rfl rfl rfl (by decide) (by decide)) rfl rfl rfl rfl rfl rfl ?_
    refine z_eM rfl rfl (xm_load (d := .agg [.v (.int .i64 a2.g0.gOp), .v (.int .i64 a2.g0.gN), .v (.string a2.g0.gName), .lst 5 (a2.g0.gKids.map eTApiExpr) .no, .v (.int .i64 a2.g0.gAt)]) 2 htab rfl rfl rfl rfl rfl) rfl rfl rfl rfl rfl rfl ?_
    refine z_e rfl rfl (x_elemA htab rfl rfl rfl rfl rfl rfl (by decide) (by decide)) rfl rfl rfl rfl rfl rfl ?_
    refine z_eM rfl rfl (xm_load (d := .agg [.v (.int .i64 a2.g1.gOp), .v (.int .i64 a2.g1.gN), .v (.string a2.g1.gName), .lst 5 (a2.g1.gKids.map eTApiExpr) .no, .v (.int .i64 a2.g1.gAt)]) 2 htab rfl rfl rfl rfl rfl) rfl rfl rfl rfl rfl rfl ?_
    refine z_call rfl rfl (tree_Same_ok a2.g0 a2.g1 x4 q4) rfl rfl (WkL.cons (Wk.trans (Wk.agg (WkR.refl _)) (Wk.of_eq (eTApiExpr_eq a2.g0).symm)) (WkL.cons (Wk.trans (Wk.agg (WkR.refl _)) (Wk.of_eq (eTApiExpr_eq a2.g1).symm)) (WkL.refl _))) rfl rfl rfl rfl rfl rfl ?_
    refine z_e rfl rfl (x_elemA htab rfl rfl rfl rfl rfl rfl (by decide) (by decide)) rfl rfl rfl rfl rfl rfl ?_
    refine z_eM rfl rfl (xm_load (d := .agg [.v (.int .i64 a2.g0.gOp), .v (.int .i64 a2.g0.gN), .v (.string a2.g0.gName), .lst 5 (a2.g0.gKids.map eTApiExpr) .no, .v (.int .i64 a2.g0.gAt)]) 2 htab rfl rfl rfl rfl rfl) rfl rfl rfl rfl rfl rfl ?_
    refine z_e rfl rfl (x_elemA htab rfl rfl rfl rfl rfl rfl (by decide) (by decide)) rfl rfl rfl rfl rfl rfl ?_
    refine z_eM rfl rfl (xm_load (d := .agg [.v (.int .i64 a2.g1.gOp), .v (.int .i64 a2.g1.gN), .v (.string a2.g1.gName), .lst 5 (a2.g1.gKids.map eTApiExpr) .no, .v (.int .i64 a2.g1.gAt)]) 2 htab rfl rfl rfl rfl rfl) rfl rfl rfl rfl rfl rfl ?_
    refine z_call rfl rfl (r11_Same_ok a2.g0 a2.g1 x5 q5) rfl rfl (WkL.cons (Wk.trans (Wk.agg (WkR.refl _)) (Wk.of_eq (eTApiExpr_eq a2.g0).symm)) (WkL.cons (Wk.trans (Wk.agg (WkR.refl _)) (Wk.of_eq (eTApiExpr_eq a2.g1).symm)) (WkL.refl _))) rfl rfl rfl rfl rfl rfl ?_
    refine z_q rfl rfl (ex_pure htab rfl) rfl rfl rfl rfl rfl rfl ?_
    refine z_q rfl rfl (ex_pure htab rfl) rfl rfl rfl rfl rfl rfl ?_
    refine z_known (j := 18) (b' := false) rfl hs6 ?_
    refine z_skip rfl rfl rfl rfl ?_
    refine z_skip rfl rfl rfl rfl ?_
    refine z_skip rfl rfl rfl rfl ?_
    refine z_skip rfl rfl rfl rfl ?_
    refine z_skip rfl rfl rfl rfl ?_
    refine z_skip rfl rfl rfl rfl ?_
    refine z_skip rfl rfl rfl rfl ?_
    refine z_skip rfl rfl rfl rfl ?_
    refine z_skip rfl rfl rfl rfl ?_
    refine z_skip rfl rfl rfl rfl ?_
    refine z_skip rfl rfl rfl rfl ?_
    refine z_q rfl rfl (x_pickF rfl rfl rfl) rfl rfl rfl rfl rfl rfl ?_
    refine z_q rfl rfl (ex_pure htab rfl) rfl rfl rfl rfl rfl rfl ?_
    refine z_skip rfl rfl rfl rfl ?_
    refine z_skip rfl rfl rfl rfl ?_
    refine z_skip rfl rfl rfl rfl ?_
    refine z_skip rfl rfl rfl rfl ?_
    refine z_skip rfl rfl rfl rfl ?_
    refine z_skip rfl rfl rfl rfl ?_
    refine z_skip rfl rfl rfl rfl ?_
    refine z_q rfl rfl (x_pickF rfl rfl rfl) rfl rfl rfl rfl rfl rfl ?_
    refine z_q rfl rfl (ex_pure htab rfl) rfl rfl rfl rfl rfl rfl ?_
    refine z_skip rfl rfl rfl rfl ?_
    refine z_skip rfl rfl rfl rfl ?_
    refine z_nil rfl rfl (fun e he => by simp [isAl] at he) ?_
    refine p_skip rfl rfl rfl ?_
    refine p_pickF rfl rfl rfl rfl rfl rfl ?_
    refine p_pure htab rfl rfl rfl rfl ?_
    refine p_skip rfl rfl rfl ?_
    refine p_pickF rfl rfl rfl rfl rfl rfl ?_
    refine p_pure htab rfl rfl rfl rfl ?_
    refine ops_nil ?_
    refine then_normal ?_
    refine wpD_ret ?_
    have er20 := yes_eq hm; subst er20
    refine retX.of (s' := ⟨[(6, .v (.bool false))], [], []⟩) (WkS.perm (WkS.cons rfl (Wk.refl _) (WkS.nil)) (List.Perm.refl _) (List.Perm.refl _)) (retD_mk (hh := []) (.inl rfl) (resL_cons (resOne_tmp rfl) (resL_nil)) (List.nil_sublist _) (List.Sublist.refl _) ?_)
    exact ⟨rfl, rfl, rfl⟩
noncomputable def tree_bare_b (g0 : (List TApiExpr) → Option (List TApiExpr)) (a0 : List TApiExpr) : Option (List TApiExpr) :=
  (Option.bind (α := List TApiExpr) (loopM (fun (s22 : List TApiExpr × Int) => (bif (decide (s22.2 < (a0.length : Int))) then ((idx a0 s22.2).bind fun x37 => ((g0 x37.gKids).bind fun x39 => ((app 64 s22.1 ([(⟨x37.gOp, x37.gN, x37.gName, x39, (0 : Int)⟩ : TApiExpr)] : List TApiExpr)).bind fun x40 => some (.next (x40, (IntKind.i64.wrap (s22.2 + (1 : Int)))))))) else some (.done s22.1))) (([] : List TApiExpr), (0 : Int))) fun y21 => some y21)
set_option maxRecDepth 100000 in
set_option maxHeartbeats 2000000 in
theorem tree_bare_b_ok (g0 : (List TApiExpr) → Option (List TApiExpr)) (hg0 : ∀ (a0 : List TApiExpr) (r : List TApiExpr) (h0 : g0 a0 = some r), CallsD Try.prog 51 [.lst 5 (a0.map eTApiExpr) .no] [] [] (fun d h k => d = .lst 5 (r.map eTApiExpr) .no ∧ h = [] ∧ k = [])) (a0 : List TApiExpr) (r : List TApiExpr) (h0 : tree_bare_b g0 a0 = some r) : CallsD Try.prog 51 [.lst 5 (a0.map eTApiExpr) .no] [] [] (fun d h k => d = .lst 5 (r.map eTApiExpr) .no ∧ h = [] ∧ k = []) := by
  have hm := yes_of h0
  unfold tree_bare_b at hm
  clear h0
  refine enterX htab Try.func51 rfl rfl rfl rfl rfl (fun C => ?_)
  refine wpD_seq ?_
  refine wpD_region ?_
  refine p_pure htab rfl rfl rfl rfl ?_
  refine ops_nil ?_
  refine then_normal ?_
  refine wpD_seq ?_
  refine wpD_region ?_
  refine p_pure htab rfl rfl rfl rfl ?_
  refine ops_nil ?_
  refine then_normal ?_
  refine wpD_seq ?_
  refine wpD_seq ?_
  refine wpD_region ?_
  refine p_pure htab rfl rfl rfl rfl ?_
  refine p_lenL htab rfl rfl rfl rfl rfl rfl rfl (by first | exact map_len | rfl) ?_
  refine p_pure htab rfl rfl rfl rfl ?_
  refine ops_nil ?_
  refine then_normal ?_
  obtain ⟨y21, q21, ho21⟩ := yes_bind hm
  refine wpD_mid (Y := Value) (fun z21 => (⟨[(3, .lst 5 (y21.map eTApiExpr) (.cur z21))], [], [(5, z21)]⟩ : S)) ?_ ?_
  · clear hm; have hm := yes_of q21
    refine wpD_block ?_
    obtain ⟨u22, hl22, hq22⟩ := yes_m hm
    refine loop_M (Y := Value) hl22 (fun s22 z22 => (⟨[(3, .lst 5 (s22.1.map eTApiExpr) (.cur z22)), (6, .lst 5 (a0.map eTApiExpr) .no), (7, .v (.int .i64 (a0.length : Int))), (8, .v (.int .i64 s22.2))], [], [(5, z22)]⟩ : S)) ?_ ?_
    · skip
      refine WkX.tokN (i := 3) 5 rfl (fun w35 => ?_)
      exact WkX.of w35 (WkS.perm (WkS.cons rfl (Wk.refl _) (WkS.cons rfl (Wk.refl _) (WkS.cons rfl (Wk.refl _) (WkS.cons rfl (Wk.refl _) (WkS.nil))))) (List.Perm.refl _) (List.Perm.refl _))
    · intro G22 s22 z22 hm
      refine wpD_seq ?_
      refine wpD_region ?_
      refine p_pure htab rfl rfl rfl rfl ?_
      refine ops_nil ?_
      refine then_normal ?_
      refine wpD_seq ?_
      refine wpD_cond rfl (fun hc36 => ?_) (fun hc36 => ?_)
      · replace hm := yes_t hc36 hm
        refine wpD_skip ?_
        refine then_normal ?_
        refine wpD_seq ?_
        refine wpD_block ?_
        refine wpD_seq ?_
        refine wpD_region ?_
        obtain ⟨x37, q37, hm⟩ := yes_bind hm
        refine p_elem htab rfl rfl rfl rfl rfl rfl rfl rfl rfl rfl (idx_nonneg q37) (idx_map q37) ?_
        refine p_eq (i := 10) rfl (Wk.of_eq (congrArg D.el (eTApiExpr_eq x37))) ?_
        refine p_loadEl (d := .agg [.v (.int .i64 x37.gOp), .v (.int .i64 x37.gN), .v (.string x37.gName), .lst 5 (x37.gKids.map eTApiExpr) .no, .v (.int .i64 x37.gAt)]) htab rfl rfl rfl rfl rfl rfl rfl rfl ?_
        refine p_alloc htab rfl rfl rfl rfl rfl rfl rfl (fun b38 => ?_)
        refine p_store (ds' := [.v (.int .i64 x37.gOp), .v (.int .i64 x37.gN), .v (.string x37.gName), .lst 5 (x37.gKids.map eTApiExpr) .no, .v (.int .i64 x37.gAt)]) (h' := [(b38, Blk.cells [.v (.int .i64 x37.gOp), .v (.int .i64 x37.gN), .v (.string x37.gName), .lst 5 (x37.gKids.map eTApiExpr) .no, .v (.int .i64 x37.gAt)] 34)]) 0 htab rfl rfl rfl rfl rfl rfl rfl rfl rfl rfl rfl rfl ?_
        refine ops_nil ?_
        refine then_normal ?_
        refine wpD_seq ?_
        refine wpD_region ?_
        refine p_pure htab rfl rfl rfl rfl ?_
        refine p_store (ds' := [.v (.int .i64 x37.gOp), .v (.int .i64 x37.gN), .v (.string x37.gName), .lst 5 (x37.gKids.map eTApiExpr) .no, .v (.int .i64 (0 : Int))]) (h' := [(b38, Blk.cells [.v (.int .i64 x37.gOp), .v (.int .i64 x37.gN), .v (.string x37.gName), .lst 5 (x37.gKids.map eTApiExpr) .no, .v (.int .i64 (0 : Int))] 34)]) 0 htab rfl rfl rfl rfl rfl rfl rfl rfl rfl rfl rfl rfl ?_
        refine ops_nil ?_
        refine then_normal ?_
        refine wpD_seq ?_
        refine wpD_region ?_
        refine p_pure htab rfl rfl rfl rfl ?_
        refine p_load 0 htab rfl rfl rfl rfl rfl rfl rfl rfl ?_
        obtain ⟨x39, q39, hm⟩ := yes_bind hm
        refine p_call0 (hg0 x37.gKids x39 q39) rfl rfl rfl rfl rfl (WkL.refl _) ?_
        rintro _ rfl
        refine p_pure htab rfl rfl rfl rfl ?_
        refine p_store (ds' := [.v (.int .i64 x37.gOp), .v (.int .i64 x37.gN), .v (.string x37.gName), .lst 5 (x39.map eTApiExpr) .no, .v (.int .i64 (0 : Int))]) (h' := [(b38, Blk.cells [.v (.int .i64 x37.gOp), .v (.int .i64 x37.gN), .v (.string x37.gName), .lst 5 (x39.map eTApiExpr) .no, .v (.int .i64 (0 : Int))] 34)]) 0 htab rfl rfl rfl rfl rfl rfl rfl rfl rfl rfl rfl rfl ?_
        refine ops_nil ?_
        refine then_normal ?_
        refine wpD_region ?_
        refine p_pure htab rfl rfl rfl rfl ?_
        refine p_load (d := .agg [.v (.int .i64 x37.gOp), .v (.int .i64 x37.gN), .v (.string x37.gName), .lst 5 (x39.map eTApiExpr) .no, .v (.int .i64 (0 : Int))]) 0 htab rfl rfl rfl rfl rfl rfl rfl rfl ?_
        refine p_lit htab rfl rfl rfl rfl rfl rfl rfl rfl rfl rfl rfl rfl rfl rfl ?_
        refine p_eq (i := 19) (d' := .lst 5 (([(⟨x37.gOp, x37.gN, x37.gName, x39, (0 : Int)⟩ : TApiExpr)] : List TApiExpr).map eTApiExpr) .full) rfl (Wk.lst0 (.cons (WkC.trans (WkC.agg (WkR.refl _)) (WkC.of_eq (eTApiExpr_eq (⟨x37.gOp, x37.gN, x37.gName, x39, (0 : Int)⟩ : TApiExpr)).symm)) (.nil))) ?_
        obtain ⟨x40, q40, hm⟩ := yes_bind hm
        refine p_appC 0 htab rfl rfl rfl rfl rfl rfl rfl rfl rfl rfl rfl rfl rfl rfl rfl rfl rfl (app_bound q40) (fun v40 => ?_)
        refine p_mapD (i := 20) q40 rfl ?_
        refine p_pure htab rfl rfl rfl rfl ?_
        refine ops_nil ?_
        refine block_normal ?_
        refine then_normal ?_
        refine wpD_region ?_
        refine p_pure htab rfl rfl rfl rfl ?_
        refine p_pure htab rfl rfl rfl rfl ?_
        refine ops_nil ?_
        refine then_normal ⟨_, lp_next hm, ?_⟩
        exact WkX.of v40 (WkS.perm (WkS.cons rfl (Wk.refl _) (WkS.cons rfl (Wk.refl _) (WkS.cons rfl (Wk.refl _) (WkS.cons rfl (Wk.refl _) (WkS.nil))))) (List.Perm.refl _) (List.Perm.refl _))
      · replace hm := yes_f hc36 hm
        refine wpD_exit ?_
        refine then_exit ?_
        have e22 := lp_done hm; subst e22; clear hm; have hm := hq22
        refine then_exit ?_
        refine block_hit ?_
        have e21 := yes_eq hm; subst e21
        refine ⟨rfl, ?_⟩
        exact WkX.of z22 (WkS.perm (WkS.cons rfl (Wk.refl _) (WkS.nil)) (List.Perm.refl _) (List.Perm.refl _))
  · intro s21 hw21; clear hm; have hm := ho21; clear q21 ho21
    refine then_normal ?_
    refine wpD_wkX hw21 (fun z21 => ?_)
    refine wpD_seq ?_
    refine wpD_region ?_
    refine p_pure htab rfl rfl rfl rfl ?_
    refine p_pure htab rfl rfl rfl rfl ?_
    refine ops_nil ?_
    refine then_normal ?_
    refine wpD_ret ?_
    have er41 := yes_eq hm; subst er41
    refine retX.of (s' := ⟨[(2, .lst 5 (y21.map eTApiExpr) .no)], [], []⟩) (WkS.perm (WkS.cons rfl (Wk.no) (WkS.nil)) (List.Perm.refl _) (List.Perm.refl _)) (retD_mk (hh := []) (.inl rfl) (resL_cons (resOne_tmp rfl) (resL_nil)) (List.nil_sublist _) (List.Sublist.refl _) ?_)
    exact ⟨rfl, rfl, rfl⟩
noncomputable def tree_bare_g : Nat → ((List TApiExpr) → Option (List TApiExpr))
  | 0 => (fun _ => none)
  | n + 1 => (tree_bare_b ((tree_bare_g n)))
theorem tree_bare_g_ok : ∀ n, (∀ (a0 : List TApiExpr) (r : List TApiExpr) (h0 : (tree_bare_g n) a0 = some r), CallsD Try.prog 51 [.lst 5 (a0.map eTApiExpr) .no] [] [] (fun d h k => d = .lst 5 (r.map eTApiExpr) .no ∧ h = [] ∧ k = []))
  | 0 => fun _ _ h0 => by cases h0
  | n + 1 => by
    have ih := tree_bare_g_ok n
    exact tree_bare_b_ok (tree_bare_g n) ih
theorem tree_bare_g_le : ∀ n, (∀ (a0 : List TApiExpr), Le ((tree_bare_g n) a0) ((tree_bare_g (n + 1)) a0))
  | 0 => fun _ => Le.none _
  | n + 1 => by
    have ih := tree_bare_g_le n
    exact fun a0 => by show Le (tree_bare_b ((tree_bare_g n)) a0) (tree_bare_b ((tree_bare_g (n + 1))) a0); unfold tree_bare_b; repeat (first | exact Le.refl _ | exact ih _ | assumption | (refine Le.bind ?_ (fun _ => ?_)) | (refine Le.cond ?_ ?_) | (refine Le.loop (fun _ => ?_)) | (refine Le.elim (fun _ => ?_) (fun _ => ?_)))
noncomputable def tree_bare (a0 : List TApiExpr) : Option (List TApiExpr) := anyN fun n => (tree_bare_g n) a0
theorem tree_bare_of (a0 : List TApiExpr) {r : List TApiExpr} (n : Nat) (h : (tree_bare_g n) a0 = some r) : tree_bare a0 = some r := anyN_of (fun m => (tree_bare_g_le m) a0) h
theorem tree_bare_ok (a0 : List TApiExpr) (r : List TApiExpr) (h0 : tree_bare a0 = some r) : CallsD Try.prog 51 [.lst 5 (a0.map eTApiExpr) .no] [] [] (fun d h k => d = .lst 5 (r.map eTApiExpr) .no ∧ h = [] ∧ k = []) :=
  let ⟨n, hn⟩ := anyN_inv h0; (tree_bare_g_ok n) a0  r hn
abbrev nlTn1_30 : List (List Nat) := [[],[0],[0,1],[],[3],[0,1,2,3,4],[],[6],[0,1,2,3,4,5,6,7],[0,1,2,3,4,6,7],[0,1,2,3,4,5,6,7,8,9],[0,1,2,3,4,5,6,7,8,9,10],[0,1,2,3,4,5,6,7,8,9,10,11],[0,1,2,3,4,5,6,7,8,9,10,11,12],[0,1,2,3,4,5,6,7,8,9,10,11,12,13]]
noncomputable def tree_Bare_b (g0 : (List TApiStmt) → Option (List TApiStmt)) (a0 : List TApiStmt) : Option (List TApiStmt) :=
  (Option.bind (α := List TApiStmt) (loopM (fun (s28 : List TApiStmt × Int) => (bif (decide (s28.2 < (a0.length : Int))) then ((idx a0 s28.2).bind fun x47 => ((tree_bare x47.gExps).bind fun x49 => ((g0 x47.gKids).bind fun x50 => ((g0 x47.gElse).bind fun x51 => ((app 120 s28.1 ([(⟨x47.gOp, x47.gName, x47.gFunc, x49, x50, x51, (0 : Int)⟩ : TApiStmt)] : List TApiStmt)).bind fun x52 => some (.next (x52, (IntKind.i64.wrap (s28.2 + (1 : Int)))))))))) else some (.done s28.1))) (([] : List TApiStmt), (0 : Int))) fun y27 => some y27)
set_option maxRecDepth 100000 in
set_option maxHeartbeats 2000000 in
theorem tree_Bare_b_ok (g0 : (List TApiStmt) → Option (List TApiStmt)) (hg0 : ∀ (a0 : List TApiStmt) (r : List TApiStmt) (h0 : g0 a0 = some r), CallsD Try.prog 30 [.lst 7 (a0.map eTApiStmt) .no] [] [] (fun d h k => d = .lst 7 (r.map eTApiStmt) .no ∧ h = [] ∧ k = [])) (a0 : List TApiStmt) (r : List TApiStmt) (h0 : tree_Bare_b g0 a0 = some r) : CallsD Try.prog 30 [.lst 7 (a0.map eTApiStmt) .no] [] [] (fun d h k => d = .lst 7 (r.map eTApiStmt) .no ∧ h = [] ∧ k = []) := by
  have hm := yes_of h0
  unfold tree_Bare_b at hm
  clear h0
  refine enterX htab Try.func30 rfl rfl rfl rfl rfl (fun C => ?_)
  refine wpD_seq ?_
  refine wpD_region ?_
  refine p_pure htab rfl rfl rfl rfl ?_
  refine ops_nil ?_
  refine then_normal ?_
  refine wpD_seq ?_
  refine wpD_region ?_
  refine p_pure htab rfl rfl rfl rfl ?_
  refine ops_nil ?_
  refine then_normal ?_
  refine wpD_seq ?_
  refine wpD_seq ?_
  refine wpD_region ?_
  refine p_pure htab rfl rfl rfl rfl ?_
  refine p_lenL htab rfl rfl rfl rfl rfl rfl rfl (by first | exact map_len | rfl) ?_
  refine p_pure htab rfl rfl rfl rfl ?_
  refine ops_nil ?_
  refine then_normal ?_
  obtain ⟨y27, q27, ho27⟩ := yes_bind hm
  refine wpD_mid (Y := Value) (fun z27 => (⟨[(3, .lst 7 (y27.map eTApiStmt) (.cur z27))], [], [(7, z27)]⟩ : S)) ?_ ?_
  · clear hm; have hm := yes_of q27
    refine wpD_block ?_
    obtain ⟨u28, hl28, hq28⟩ := yes_m hm
    refine loop_M (Y := Value) hl28 (fun s28 z28 => (⟨[(3, .lst 7 (s28.1.map eTApiStmt) (.cur z28)), (6, .lst 7 (a0.map eTApiStmt) .no), (7, .v (.int .i64 (a0.length : Int))), (8, .v (.int .i64 s28.2))], [], [(7, z28)]⟩ : S)) ?_ ?_
    · skip
      refine WkX.tokN (i := 3) 7 rfl (fun w45 => ?_)
      exact WkX.of w45 (WkS.perm (WkS.cons rfl (Wk.refl _) (WkS.cons rfl (Wk.refl _) (WkS.cons rfl (Wk.refl _) (WkS.cons rfl (Wk.refl _) (WkS.nil))))) (List.Perm.refl _) (List.Perm.refl _))
    · intro G28 s28 z28 hm
      refine wpD_seq ?_
      refine wpD_region ?_
      refine p_pure htab rfl rfl rfl rfl ?_
      refine ops_nil ?_
      refine then_normal ?_
      refine wpD_seq ?_
      refine wpD_cond rfl (fun hc46 => ?_) (fun hc46 => ?_)
      · replace hm := yes_t hc46 hm
        refine wpD_skip ?_
        refine then_normal ?_
        refine wpD_seq ?_
        refine wpD_block ?_
        refine wpD_seq ?_
        refine wpD_region ?_
        obtain ⟨x47, q47, hm⟩ := yes_bind hm
        refine p_elem htab rfl rfl rfl rfl rfl rfl rfl rfl rfl rfl (idx_nonneg q47) (idx_map q47) ?_
        refine p_eq (i := 10) rfl (Wk.of_eq (congrArg D.el (eTApiStmt_eq x47))) ?_
        refine p_loadEl (d := .agg [.v (.int .i64 x47.gOp), .v (.string x47.gName), .v (.string x47.gFunc), .lst 5 (x47.gExps.map eTApiExpr) .no, .lst 7 (x47.gKids.map eTApiStmt) .no, .lst 7 (x47.gElse.map eTApiStmt) .no, .v (.int .i64 x47.gAt)]) htab rfl rfl rfl rfl rfl rfl rfl rfl ?_
        refine p_alloc htab rfl rfl rfl rfl rfl rfl rfl (fun b48 => ?_)
        refine p_store (ds' := [.v (.int .i64 x47.gOp), .v (.string x47.gName), .v (.string x47.gFunc), .lst 5 (x47.gExps.map eTApiExpr) .no, .lst 7 (x47.gKids.map eTApiStmt) .no, .lst 7 (x47.gElse.map eTApiStmt) .no, .v (.int .i64 x47.gAt)]) (h' := [(b48, Blk.cells [.v (.int .i64 x47.gOp), .v (.string x47.gName), .v (.string x47.gFunc), .lst 5 (x47.gExps.map eTApiExpr) .no, .lst 7 (x47.gKids.map eTApiStmt) .no, .lst 7 (x47.gElse.map eTApiStmt) .no, .v (.int .i64 x47.gAt)] 56)]) 0 htab rfl rfl rfl rfl rfl rfl rfl rfl rfl rfl rfl rfl ?_
        refine ops_nil ?_
        refine then_normal ?_
        refine wpD_seq ?_
        refine wpD_region ?_
        refine p_pure htab rfl rfl rfl rfl ?_
        refine p_store (ds' := [.v (.int .i64 x47.gOp), .v (.string x47.gName), .v (.string x47.gFunc), .lst 5 (x47.gExps.map eTApiExpr) .no, .lst 7 (x47.gKids.map eTApiStmt) .no, .lst 7 (x47.gElse.map eTApiStmt) .no, .v (.int .i64 (0 : Int))]) (h' := [(b48, Blk.cells [.v (.int .i64 x47.gOp), .v (.string x47.gName), .v (.string x47.gFunc), .lst 5 (x47.gExps.map eTApiExpr) .no, .lst 7 (x47.gKids.map eTApiStmt) .no, .lst 7 (x47.gElse.map eTApiStmt) .no, .v (.int .i64 (0 : Int))] 56)]) 0 htab rfl rfl rfl rfl rfl rfl rfl rfl rfl rfl rfl rfl ?_
        refine ops_nil ?_
        refine then_normal ?_
        refine wpD_seq ?_
        obtain ⟨x49, q49, hm⟩ := yes_bind hm
        obtain ⟨x50, q50, hm⟩ := yes_bind hm
        obtain ⟨x51, q51, hm⟩ := yes_bind hm
        refine wpD_draws 10 [] [[],[0],[0,1],[],[3],[0,1,2,3,4],[],[6],[0,1,2,3,4,5,6,7],[0,1,2,3,4,6,7]] [0,1,2,3,4,5,6,7,8,9] nlTn1_30 (by kernel_rfl) (by kernel_rfl) (by kernel_rfl) (by rfl) (by rfl) (by kernel_rfl) ?_
        apply Exists.intro
        apply Exists.intro
        apply Exists.intro
        apply Exists.intro
        apply Exists.intro
        apply Exists.intro
        apply Exists.intro
        apply Exists.intro
        apply Exists.intro
        apply Exists.intro
        intro bs
        refine z_e rfl rfl (ex_pure htab rfl) rfl rfl rfl rfl rfl rfl ?_
        refine z_eM rfl rfl (xm_load 0 htab rfl rfl rfl rfl rfl) rfl rfl rfl rfl rfl rfl ?_
        refine z_call rfl rfl (tree_bare_ok x47.gExps x49 q49) rfl rfl (WkL.refl _) rfl rfl rfl rfl rfl rfl ?_
        refine z_e rfl rfl (ex_pure htab rfl) rfl rfl rfl rfl rfl rfl ?_
        refine z_eM rfl rfl (xm_load 0 htab rfl rfl rfl rfl rfl) rfl rfl rfl rfl rfl rfl ?_
        refine z_call rfl rfl (hg0 x47.gKids x50 q50) rfl rfl (WkL.refl _) rfl rfl rfl rfl rfl rfl ?_
        refine z_e rfl rfl (ex_pure htab rfl) rfl rfl rfl rfl rfl rfl ?_
        refine z_eM rfl rfl (xm_load 0 htab rfl rfl rfl rfl rfl) rfl rfl rfl rfl rfl rfl ?_
        refine z_call rfl rfl (hg0 x47.gElse x51 q51) rfl rfl (WkL.refl _) rfl rfl rfl rfl rfl rfl ?_
        refine z_e rfl rfl (ex_pure htab rfl) rfl rfl rfl rfl rfl rfl ?_
        refine z_nil rfl rfl (fun e he => by simp [isAl] at he) ?_
        refine p_store (ds' := [.v (.int .i64 x47.gOp), .v (.string x47.gName), .v (.string x47.gFunc), .lst 5 (x49.map eTApiExpr) .no, .lst 7 (x47.gKids.map eTApiStmt) .no, .lst 7 (x47.gElse.map eTApiStmt) .no, .v (.int .i64 (0 : Int))]) (h' := [(b48, Blk.cells [.v (.int .i64 x47.gOp), .v (.string x47.gName), .v (.string x47.gFunc), .lst 5 (x49.map eTApiExpr) .no, .lst 7 (x47.gKids.map eTApiStmt) .no, .lst 7 (x47.gElse.map eTApiStmt) .no, .v (.int .i64 (0 : Int))] 56)]) 0 htab rfl rfl rfl rfl rfl rfl rfl rfl rfl rfl rfl rfl ?_
        refine p_pure htab rfl rfl rfl rfl ?_
        refine p_store (ds' := [.v (.int .i64 x47.gOp), .v (.string x47.gName), .v (.string x47.gFunc), .lst 5 (x49.map eTApiExpr) .no, .lst 7 (x50.map eTApiStmt) .no, .lst 7 (x47.gElse.map eTApiStmt) .no, .v (.int .i64 (0 : Int))]) (h' := [(b48, Blk.cells [.v (.int .i64 x47.gOp), .v (.string x47.gName), .v (.string x47.gFunc), .lst 5 (x49.map eTApiExpr) .no, .lst 7 (x50.map eTApiStmt) .no, .lst 7 (x47.gElse.map eTApiStmt) .no, .v (.int .i64 (0 : Int))] 56)]) 0 htab rfl rfl rfl rfl rfl rfl rfl rfl rfl rfl rfl rfl ?_
        refine p_pure htab rfl rfl rfl rfl ?_
        refine p_store (ds' := [.v (.int .i64 x47.gOp), .v (.string x47.gName), .v (.string x47.gFunc), .lst 5 (x49.map eTApiExpr) .no, .lst 7 (x50.map eTApiStmt) .no, .lst 7 (x51.map eTApiStmt) .no, .v (.int .i64 (0 : Int))]) (h' := [(b48, Blk.cells [.v (.int .i64 x47.gOp), .v (.string x47.gName), .v (.string x47.gFunc), .lst 5 (x49.map eTApiExpr) .no, .lst 7 (x50.map eTApiStmt) .no, .lst 7 (x51.map eTApiStmt) .no, .v (.int .i64 (0 : Int))] 56)]) 0 htab rfl rfl rfl rfl rfl rfl rfl rfl rfl rfl rfl rfl ?_
        refine ops_nil ?_
        refine then_normal ?_
        refine wpD_region ?_
        refine p_pure htab rfl rfl rfl rfl ?_
        refine p_load (d := .agg [.v (.int .i64 x47.gOp), .v (.string x47.gName), .v (.string x47.gFunc), .lst 5 (x49.map eTApiExpr) .no, .lst 7 (x50.map eTApiStmt) .no, .lst 7 (x51.map eTApiStmt) .no, .v (.int .i64 (0 : Int))]) 0 htab rfl rfl rfl rfl rfl rfl rfl rfl ?_
        refine p_lit htab rfl rfl rfl rfl rfl rfl rfl rfl rfl rfl rfl rfl rfl rfl ?_
        refine p_eq (i := 27) (d' := .lst 7 (([(⟨x47.gOp, x47.gName, x47.gFunc, x49, x50, x51, (0 : Int)⟩ : TApiStmt)] : List TApiStmt).map eTApiStmt) .full) rfl (Wk.lst0 (.cons (WkC.trans (WkC.agg (WkR.refl _)) (WkC.of_eq (eTApiStmt_eq (⟨x47.gOp, x47.gName, x47.gFunc, x49, x50, x51, (0 : Int)⟩ : TApiStmt)).symm)) (.nil))) ?_
        obtain ⟨x52, q52, hm⟩ := yes_bind hm
        refine p_appC 0 htab rfl rfl rfl rfl rfl rfl rfl rfl rfl rfl rfl rfl rfl rfl rfl rfl rfl (app_bound q52) (fun v52 => ?_)
        refine p_mapD (i := 28) q52 rfl ?_
        refine p_pure htab rfl rfl rfl rfl ?_
        refine ops_nil ?_
        refine block_normal ?_
        refine then_normal ?_
        refine wpD_region ?_
        refine p_pure htab rfl rfl rfl rfl ?_
        refine p_pure htab rfl rfl rfl rfl ?_
        refine ops_nil ?_
        refine then_normal ⟨_, lp_next hm, ?_⟩
        exact WkX.of v52 (WkS.perm (WkS.cons rfl (Wk.refl _) (WkS.cons rfl (Wk.refl _) (WkS.cons rfl (Wk.refl _) (WkS.cons rfl (Wk.refl _) (WkS.nil))))) (List.Perm.refl _) (List.Perm.refl _))
      · replace hm := yes_f hc46 hm
        refine wpD_exit ?_
        refine then_exit ?_
        have e28 := lp_done hm; subst e28; clear hm; have hm := hq28
        refine then_exit ?_
        refine block_hit ?_
        have e27 := yes_eq hm; subst e27
        refine ⟨rfl, ?_⟩
        exact WkX.of z28 (WkS.perm (WkS.cons rfl (Wk.refl _) (WkS.nil)) (List.Perm.refl _) (List.Perm.refl _))
  · intro s27 hw27; clear hm; have hm := ho27; clear q27 ho27
    refine then_normal ?_
    refine wpD_wkX hw27 (fun z27 => ?_)
    refine wpD_seq ?_
    refine wpD_region ?_
    refine p_pure htab rfl rfl rfl rfl ?_
    refine p_pure htab rfl rfl rfl rfl ?_
    refine ops_nil ?_
    refine then_normal ?_
    refine wpD_ret ?_
    have er53 := yes_eq hm; subst er53
    refine retX.of (s' := ⟨[(2, .lst 7 (y27.map eTApiStmt) .no)], [], []⟩) (WkS.perm (WkS.cons rfl (Wk.no) (WkS.nil)) (List.Perm.refl _) (List.Perm.refl _)) (retD_mk (hh := []) (.inl rfl) (resL_cons (resOne_tmp rfl) (resL_nil)) (List.nil_sublist _) (List.Sublist.refl _) ?_)
    exact ⟨rfl, rfl, rfl⟩
noncomputable def tree_Bare_g : Nat → ((List TApiStmt) → Option (List TApiStmt))
  | 0 => (fun _ => none)
  | n + 1 => (tree_Bare_b ((tree_Bare_g n)))
theorem tree_Bare_g_ok : ∀ n, (∀ (a0 : List TApiStmt) (r : List TApiStmt) (h0 : (tree_Bare_g n) a0 = some r), CallsD Try.prog 30 [.lst 7 (a0.map eTApiStmt) .no] [] [] (fun d h k => d = .lst 7 (r.map eTApiStmt) .no ∧ h = [] ∧ k = []))
  | 0 => fun _ _ h0 => by cases h0
  | n + 1 => by
    have ih := tree_Bare_g_ok n
    exact tree_Bare_b_ok (tree_Bare_g n) ih
theorem tree_Bare_g_le : ∀ n, (∀ (a0 : List TApiStmt), Le ((tree_Bare_g n) a0) ((tree_Bare_g (n + 1)) a0))
  | 0 => fun _ => Le.none _
  | n + 1 => by
    have ih := tree_Bare_g_le n
    exact fun a0 => by show Le (tree_Bare_b ((tree_Bare_g n)) a0) (tree_Bare_b ((tree_Bare_g (n + 1))) a0); unfold tree_Bare_b; repeat (first | exact Le.refl _ | exact ih _ | assumption | (refine Le.bind ?_ (fun _ => ?_)) | (refine Le.cond ?_ ?_) | (refine Le.loop (fun _ => ?_)) | (refine Le.elim (fun _ => ?_) (fun _ => ?_)))
noncomputable def tree_Bare (a0 : List TApiStmt) : Option (List TApiStmt) := anyN fun n => (tree_Bare_g n) a0
theorem tree_Bare_of (a0 : List TApiStmt) {r : List TApiStmt} (n : Nat) (h : (tree_Bare_g n) a0 = some r) : tree_Bare a0 = some r := anyN_of (fun m => (tree_Bare_g_le m) a0) h
theorem tree_Bare_ok (a0 : List TApiStmt) (r : List TApiStmt) (h0 : tree_Bare a0 = some r) : CallsD Try.prog 30 [.lst 7 (a0.map eTApiStmt) .no] [] [] (fun d h k => d = .lst 7 (r.map eTApiStmt) .no ∧ h = [] ∧ k = []) :=
  let ⟨n, hn⟩ := anyN_inv h0; (tree_Bare_g_ok n) a0  r hn
noncomputable def l11_nought (a0 : List TApiStmt) : Option (Bool) :=
  ((r11_Stmts a0).bind fun x2 => ((r11_Exprs a0).bind fun x4 => (Option.bind (α := (Unit) ⊕ (Bool)) (loopM (fun (s19 : Int) => (bif (decide (s19 < (x2.length : Int))) then ((idx x2 s19).bind fun x29 => (bif (x29.gAt != (0 : Int)) then some (.done (.inr false)) else some (.next (IntKind.i64.wrap (s19 + (1 : Int)))))) else some (.done (.inl ())))) (0 : Int)) (Sum.elim (fun y18 => (Option.bind (α := (Unit) ⊕ (Bool)) (loopM (fun (s46 : Int) => (bif (decide (s46 < (x4.length : Int))) then ((idx x4 s46).bind fun x56 => (bif (x56.gAt != (0 : Int)) then some (.done (.inr false)) else some (.next (IntKind.i64.wrap (s46 + (1 : Int)))))) else some (.done (.inl ())))) (0 : Int)) (Sum.elim (fun y45 => some true) (fun r => some r)))) (fun r => some r)))))
set_option maxRecDepth 100000 in
set_option maxHeartbeats 2000000 in
theorem l11_nought_ok (a0 : List TApiStmt) (r : Bool) (h0 : l11_nought a0 = some r) : CallsD Try.prog 31 [.lst 7 (a0.map eTApiStmt) .no] [] [] (fun d h k => d = .v (.bool r) ∧ h = [] ∧ k = []) := by
  have hm := yes_of h0
  unfold l11_nought at hm
  clear h0
  refine enterX htab Try.func31 rfl rfl rfl rfl rfl (fun C => ?_)
  refine wpD_seq ?_
  refine wpD_region ?_
  refine p_pure htab rfl rfl rfl rfl ?_
  refine ops_nil ?_
  refine then_normal ?_
  refine wpD_seq ?_
  refine wpD_region ?_
  refine p_pure htab rfl rfl rfl rfl ?_
  obtain ⟨x2, q2, hm⟩ := yes_bind hm
  refine p_callG (r11_Stmts_ok a0 x2 q2) rfl rfl rfl rfl rfl (WkL.refl _) (List.Perm.refl _) (List.Perm.refl _) ?_
  rintro _ _ _ ⟨w1, rfl, rfl, rfl⟩
  refine p_pure htab rfl rfl rfl rfl ?_
  obtain ⟨x4, q4, hm⟩ := yes_bind hm
  refine p_callG (r11_Exprs_ok a0 x4 q4) rfl rfl rfl rfl rfl (WkL.refl _) (List.Perm.refl _) (List.Perm.refl _) ?_
  rintro _ _ _ ⟨w3, rfl, rfl, rfl⟩
  refine p_pure htab rfl rfl rfl rfl ?_
  refine p_pure htab rfl rfl rfl rfl ?_
  refine ops_nil ?_
  refine then_normal ?_
  refine wpD_seq ?_
  refine wpD_seq ?_
  refine wpD_region ?_
  refine p_pure htab rfl rfl rfl rfl ?_
  refine ops_nil ?_
  refine then_normal ?_
  obtain ⟨x18, q18, ho18⟩ := yes_bind hm
  refine wpD_midX (τ := Unit) (Y := Unit) (fun y18 z18 => (⟨[(4, .lst 5 (x4.map eTApiExpr) (.cur w3))], [], [(5, w3)]⟩ : S)) x18 ?_ ?_
  · clear hm; have hm := yes_of q18
    refine wpD_block ?_
    obtain ⟨u19, hl19, hq19⟩ := yes_m hm
    refine loop_M (Y := Unit) hl19 (fun s19 z19 => (⟨[(3, .lst 7 (x2.map eTApiStmt) (.cur w1)), (4, .lst 5 (x4.map eTApiExpr) (.cur w3)), (5, .v (.int .i64 s19))], [], [(5, w3), (7, w1)]⟩ : S)) ?_ ?_
    · skip
      exact WkX.of () (WkS.perm (WkS.cons rfl (Wk.refl _) (WkS.cons rfl (Wk.refl _) (WkS.cons rfl (Wk.refl _) (WkS.nil)))) (List.Perm.refl _) (List.Perm.refl _))
    · intro G19 s19 z19 hm
      refine wpD_seq ?_
      refine wpD_seq ?_
      refine wpD_region ?_
      refine p_pure htab rfl rfl rfl rfl ?_
      refine p_pure htab rfl rfl rfl rfl ?_
      refine p_lenL htab rfl rfl rfl rfl rfl rfl rfl (by first | exact map_len | rfl) ?_
      refine p_pure htab rfl rfl rfl rfl ?_
      refine ops_nil ?_
      refine then_normal ?_
      refine wpD_cond rfl (fun hc28 => ?_) (fun hc28 => ?_)
      · replace hm := yes_t hc28 hm
        refine wpD_skip ?_
        refine then_normal ?_
        refine wpD_seq ?_
        refine wpD_block ?_
        refine wpD_seq ?_
        refine wpD_region ?_
        refine p_pure htab rfl rfl rfl rfl ?_
        refine p_pure htab rfl rfl rfl rfl ?_
        obtain ⟨x29, q29, hm⟩ := yes_bind hm
        refine p_elem htab rfl rfl rfl rfl rfl rfl rfl rfl rfl rfl (idx_nonneg q29) (idx_map q29) ?_
        refine p_eq (i := 19) rfl (Wk.of_eq (congrArg D.el (eTApiStmt_eq x29))) ?_
        refine p_pure htab rfl rfl rfl rfl ?_
        refine p_loadEl htab rfl rfl rfl rfl rfl rfl rfl rfl ?_
        refine p_pure htab rfl rfl rfl rfl ?_
        refine ops_nil ?_
        refine then_normal ?_
        refine wpD_cond rfl (fun hc30 => ?_) (fun hc30 => ?_)
        · replace hm := yes_t hc30 hm
          refine wpD_seq ?_
          refine wpD_region ?_
          refine p_pure htab rfl rfl rfl rfl ?_
          refine ops_nil ?_
          refine then_normal ?_
          refine wpD_ret ?_
          refine block_ret ?_
          refine then_ret ?_
          have e19 := lp_done hm; subst e19; clear hm; have hm := hq19
          refine then_ret ?_
          refine block_ret ?_
          have e18 := yes_eq hm; subst e18; refine midX_inr ?_; clear hm; have hm := ho18; simp only [Sum.elim_inr] at hm
          refine then_ret ?_
          have er31 := yes_eq hm; subst er31
          refine retX.of (s' := ⟨[(2, .v (.bool false))], [], []⟩) (WkS.perm (WkS.cons rfl (Wk.refl _) (WkS.nil)) (List.Perm.refl _) (List.Perm.refl _)) (retD_mk (hh := []) (.inl rfl) (resL_cons (resOne_tmp rfl) (resL_nil)) (List.nil_sublist _) (List.Sublist.refl _) ?_)
          exact ⟨rfl, rfl, rfl⟩
        · replace hm := yes_f hc30 hm
          refine wpD_skip ?_
          refine block_normal ?_
          refine then_normal ?_
          refine wpD_region ?_
          refine p_pure htab rfl rfl rfl rfl ?_
          refine p_pure htab rfl rfl rfl rfl ?_
          refine p_pure htab rfl rfl rfl rfl ?_
          refine ops_nil ?_
          refine then_normal ⟨_, lp_next hm, ?_⟩
          exact WkX.of () (WkS.perm (WkS.cons rfl (Wk.refl _) (WkS.cons rfl (Wk.refl _) (WkS.cons rfl (Wk.refl _) (WkS.nil)))) (List.Perm.refl _) (List.Perm.refl _))
      · replace hm := yes_f hc28 hm
        refine wpD_exit ?_
        refine then_exit ?_
        have e19 := lp_done hm; subst e19; clear hm; have hm := hq19
        refine then_exit ?_
        refine block_hit ?_
        have e18 := yes_eq hm; subst e18
        refine midX_inl ?_
        exact WkX.of () (WkS.perm (WkS.cons rfl (Wk.refl _) (WkS.nil)) (List.Perm.refl _) (List.Perm.refl _))
  · intro y18 s18 hx18 hw18; subst hx18; clear hm; have hm := ho18; simp only [Sum.elim_inl] at hm; clear q18 ho18
    refine then_normal ?_
    refine wpD_wkX hw18 (fun z18 => ?_)
    refine wpD_seq ?_
    refine wpD_seq ?_
    refine wpD_region ?_
    refine p_pure htab rfl rfl rfl rfl ?_
    refine ops_nil ?_
    refine then_normal ?_
    obtain ⟨x45, q45, ho45⟩ := yes_bind hm
    refine wpD_midX (τ := Unit) (Y := Unit) (fun y45 z45 => (⟨[], [], []⟩ : S)) x45 ?_ ?_
    · clear hm; have hm := yes_of q45
      refine wpD_block ?_
      obtain ⟨u46, hl46, hq46⟩ := yes_m hm
      refine loop_M (Y := Unit) hl46 (fun s46 z46 => (⟨[(4, .lst 5 (x4.map eTApiExpr) (.cur w3)), (6, .v (.int .i64 s46))], [], [(5, w3)]⟩ : S)) ?_ ?_
      · skip
        exact WkX.of () (WkS.perm (WkS.cons rfl (Wk.refl _) (WkS.cons rfl (Wk.refl _) (WkS.nil))) (List.Perm.refl _) (List.Perm.refl _))
      · intro G46 s46 z46 hm
        refine wpD_seq ?_
        refine wpD_seq ?_
        refine wpD_region ?_
        refine p_pure htab rfl rfl rfl rfl ?_
        refine p_pure htab rfl rfl rfl rfl ?_
        refine p_lenL htab rfl rfl rfl rfl rfl rfl rfl (by first | exact map_len | rfl) ?_
        refine p_pure htab rfl rfl rfl rfl ?_
        refine ops_nil ?_
        refine then_normal ?_
        refine wpD_cond rfl (fun hc55 => ?_) (fun hc55 => ?_)
        · replace hm := yes_t hc55 hm
          refine wpD_skip ?_
          refine then_normal ?_
          refine wpD_seq ?_
          refine wpD_block ?_
          refine wpD_seq ?_
          refine wpD_region ?_
          refine p_pure htab rfl rfl rfl rfl ?_
          refine p_pure htab rfl rfl rfl rfl ?_
          obtain ⟨x56, q56, hm⟩ := yes_bind hm
          refine p_elem htab rfl rfl rfl rfl rfl rfl rfl rfl rfl rfl (idx_nonneg q56) (idx_map q56) ?_
          refine p_eq (i := 31) rfl (Wk.of_eq (congrArg D.el (eTApiExpr_eq x56))) ?_
          refine p_pure htab rfl rfl rfl rfl ?_
          refine p_loadEl htab rfl rfl rfl rfl rfl rfl rfl rfl ?_
          refine p_pure htab rfl rfl rfl rfl ?_
          refine ops_nil ?_
          refine then_normal ?_
          refine wpD_cond rfl (fun hc57 => ?_) (fun hc57 => ?_)
          · replace hm := yes_t hc57 hm
            refine wpD_seq ?_
            refine wpD_region ?_
            refine p_pure htab rfl rfl rfl rfl ?_
            refine ops_nil ?_
            refine then_normal ?_
            refine wpD_ret ?_
            refine block_ret ?_
            refine then_ret ?_
            have e46 := lp_done hm; subst e46; clear hm; have hm := hq46
            refine then_ret ?_
            refine block_ret ?_
            have e45 := yes_eq hm; subst e45; refine midX_inr ?_; clear hm; have hm := ho45; simp only [Sum.elim_inr] at hm
            refine then_ret ?_
            have er58 := yes_eq hm; subst er58
            refine retX.of (s' := ⟨[(2, .v (.bool false))], [], []⟩) (WkS.perm (WkS.cons rfl (Wk.refl _) (WkS.nil)) (List.Perm.refl _) (List.Perm.refl _)) (retD_mk (hh := []) (.inl rfl) (resL_cons (resOne_tmp rfl) (resL_nil)) (List.nil_sublist _) (List.Sublist.refl _) ?_)
            exact ⟨rfl, rfl, rfl⟩
          · replace hm := yes_f hc57 hm
            refine wpD_skip ?_
            refine block_normal ?_
            refine then_normal ?_
            refine wpD_region ?_
            refine p_pure htab rfl rfl rfl rfl ?_
            refine p_pure htab rfl rfl rfl rfl ?_
            refine p_pure htab rfl rfl rfl rfl ?_
            refine ops_nil ?_
            refine then_normal ⟨_, lp_next hm, ?_⟩
            exact WkX.of () (WkS.perm (WkS.cons rfl (Wk.refl _) (WkS.cons rfl (Wk.refl _) (WkS.nil))) (List.Perm.refl _) (List.Perm.refl _))
        · replace hm := yes_f hc55 hm
          refine wpD_exit ?_
          refine then_exit ?_
          have e46 := lp_done hm; subst e46; clear hm; have hm := hq46
          refine then_exit ?_
          refine block_hit ?_
          have e45 := yes_eq hm; subst e45
          refine midX_inl ?_
          exact WkX.of () (WkS.perm (WkS.nil) (List.Perm.refl _) (List.Perm.refl _))
    · intro y45 s45 hx45 hw45; subst hx45; clear hm; have hm := ho45; simp only [Sum.elim_inl] at hm; clear q45 ho45
      refine then_normal ?_
      refine wpD_wkX hw45 (fun z45 => ?_)
      refine wpD_seq ?_
      refine wpD_region ?_
      refine p_pure htab rfl rfl rfl rfl ?_
      refine ops_nil ?_
      refine then_normal ?_
      refine wpD_ret ?_
      have er59 := yes_eq hm; subst er59
      refine retX.of (s' := ⟨[(2, .v (.bool true))], [], []⟩) (WkS.perm (WkS.cons rfl (Wk.refl _) (WkS.nil)) (List.Perm.refl _) (List.Perm.refl _)) (retD_mk (hh := []) (.inl rfl) (resL_cons (resOne_tmp rfl) (resL_nil)) (List.nil_sublist _) (List.Sublist.refl _) ?_)
      exact ⟨rfl, rfl, rfl⟩
noncomputable def l11_TreeBare (a0 : List TApiStmt) : Option (Bool) :=
  ((tree_Bare a0).bind fun x1 => ((r11_SameAll x1 a0 false).bind fun x2 => (bif x2 then ((l11_nought x1).bind fun x4 => (bif x4 then ((tree_SameAll x1 a0).bind fun x6 => (bif x6 then ((tree_Sizes x1).bind fun x8 => ((tree_Sizes a0).bind fun x9 => (bif (x8 == x9) then ((tree_Deeps x1).bind fun x11 => ((tree_Deeps a0).bind fun x12 => (bif (x11 == x12) then (l11_lives.bind fun x14 => some x14) else some false))) else some false))) else some false)) else some false)) else some false)))
set_option maxRecDepth 100000 in
set_option maxHeartbeats 2000000 in
theorem l11_TreeBare_ok (a0 : List TApiStmt) (r : Bool) (h0 : l11_TreeBare a0 = some r) : CallsD Try.prog 6 [.lst 7 (a0.map eTApiStmt) .no] [] [] (fun d h k => d = .v (.bool r) ∧ h = [] ∧ k = []) := by
  have hm := yes_of h0
  unfold l11_TreeBare at hm
  clear h0
  refine enterX htab Try.func6 rfl rfl rfl rfl rfl (fun C => ?_)
  refine wpD_seq ?_
  refine wpD_region ?_
  refine p_pure htab rfl rfl rfl rfl ?_
  refine ops_nil ?_
  refine then_normal ?_
  refine wpD_seq ?_
  refine wpD_region ?_
  refine p_pure htab rfl rfl rfl rfl ?_
  obtain ⟨x1, q1, hm⟩ := yes_bind hm
  refine p_call0 (tree_Bare_ok a0 x1 q1) rfl rfl rfl rfl rfl (WkL.refl _) ?_
  rintro _ rfl
  refine p_pure htab rfl rfl rfl rfl ?_
  refine ops_nil ?_
  refine then_normal ?_
  refine wpD_seq ?_
  refine wpD_region ?_
  refine p_pure htab rfl rfl rfl rfl ?_
  refine p_pure htab rfl rfl rfl rfl ?_
  obtain ⟨x2, q2, hm⟩ := yes_bind hm
  refine p_call0 (r11_SameAll_ok x1 a0 false x2 q2) rfl rfl rfl rfl rfl (WkL.refl _) ?_
  rintro _ rfl
  refine p_pure htab rfl rfl rfl rfl ?_
  refine p_split (i := 9) rfl (fun hg3 => ?_) (fun hg3 => ?_)
  · replace hm := yes_t hg3 hm
    refine p_pure htab rfl rfl rfl rfl ?_
    obtain ⟨x4, q4, hm⟩ := yes_bind hm
    refine p_call0 (l11_nought_ok x1 x4 q4) rfl rfl rfl rfl rfl (WkL.refl _) ?_
    rintro _ rfl
    refine p_pickT rfl rfl rfl rfl rfl rfl ?_
    refine p_pure htab rfl rfl rfl rfl ?_
    refine p_split (i := 13) rfl (fun hg5 => ?_) (fun hg5 => ?_)
    · replace hm := yes_t hg5 hm
      refine p_pure htab rfl rfl rfl rfl ?_
      refine p_pure htab rfl rfl rfl rfl ?_
      obtain ⟨x6, q6, hm⟩ := yes_bind hm
      refine p_call0 (tree_SameAll_ok x1 a0 x6 q6) rfl rfl rfl rfl rfl (WkL.refl _) ?_
      rintro _ rfl
      refine p_pickT rfl rfl rfl rfl rfl rfl ?_
      refine p_pure htab rfl rfl rfl rfl ?_
      refine p_split (i := 18) rfl (fun hg7 => ?_) (fun hg7 => ?_)
      · replace hm := yes_t hg7 hm
        refine p_pure htab rfl rfl rfl rfl ?_
        obtain ⟨x8, q8, hm⟩ := yes_bind hm
        refine p_call0 (tree_Sizes_ok x1 x8 q8) rfl rfl rfl rfl rfl (WkL.refl _) ?_
        rintro _ rfl
        refine p_pure htab rfl rfl rfl rfl ?_
        obtain ⟨x9, q9, hm⟩ := yes_bind hm
        refine p_call0 (tree_Sizes_ok a0 x9 q9) rfl rfl rfl rfl rfl (WkL.refl _) ?_
        rintro _ rfl
        refine p_pure htab rfl rfl rfl rfl ?_
        refine p_pickT rfl rfl rfl rfl rfl rfl ?_
        refine p_pure htab rfl rfl rfl rfl ?_
        refine p_split (i := 25) rfl (fun hg10 => ?_) (fun hg10 => ?_)
        · replace hm := yes_t hg10 hm
          refine p_pure htab rfl rfl rfl rfl ?_
          obtain ⟨x11, q11, hm⟩ := yes_bind hm
          refine p_call0 (tree_Deeps_ok x1 x11 q11) rfl rfl rfl rfl rfl (WkL.refl _) ?_
          rintro _ rfl
          refine p_pure htab rfl rfl rfl rfl ?_
          obtain ⟨x12, q12, hm⟩ := yes_bind hm
          refine p_call0 (tree_Deeps_ok a0 x12 q12) rfl rfl rfl rfl rfl (WkL.refl _) ?_
          rintro _ rfl
          refine p_pure htab rfl rfl rfl rfl ?_
          refine p_pickT rfl rfl rfl rfl rfl rfl ?_
          refine p_pure htab rfl rfl rfl rfl ?_
          refine p_split (i := 32) rfl (fun hg13 => ?_) (fun hg13 => ?_)
          · replace hm := yes_t hg13 hm
            obtain ⟨x14, q14, hm⟩ := yes_bind hm
            refine p_call0 (l11_lives_ok x14 q14) rfl rfl rfl rfl rfl (WkL.refl _) ?_
            rintro _ rfl
            refine p_pickT rfl rfl rfl rfl rfl rfl ?_
            refine p_pure htab rfl rfl rfl rfl ?_
            refine ops_nil ?_
            refine then_normal ?_
            refine wpD_ret ?_
            have er15 := yes_eq hm; subst er15
            refine retX.of (s' := ⟨[(2, .v (.bool x14))], [], []⟩) (WkS.perm (WkS.cons rfl (Wk.refl _) (WkS.nil)) (List.Perm.refl _) (List.Perm.refl _)) (retD_mk (hh := []) (.inl rfl) (resL_cons (resOne_tmp rfl) (resL_nil)) (List.nil_sublist _) (List.Sublist.refl _) ?_)
            exact ⟨rfl, rfl, rfl⟩
          · replace hm := yes_f hg13 hm
            refine p_skip rfl rfl rfl ?_
            refine p_pickF rfl rfl rfl rfl rfl rfl ?_
            refine p_pure htab rfl rfl rfl rfl ?_
            refine ops_nil ?_
            refine then_normal ?_
            refine wpD_ret ?_
            have er16 := yes_eq hm; subst er16
            refine retX.of (s' := ⟨[(2, .v (.bool false))], [], []⟩) (WkS.perm (WkS.cons rfl (Wk.refl _) (WkS.nil)) (List.Perm.refl _) (List.Perm.refl _)) (retD_mk (hh := []) (.inl rfl) (resL_cons (resOne_tmp rfl) (resL_nil)) (List.nil_sublist _) (List.Sublist.refl _) ?_)
            exact ⟨rfl, rfl, rfl⟩
        · replace hm := yes_f hg10 hm
          refine p_skip rfl rfl rfl ?_
          refine p_skip rfl rfl rfl ?_
          refine p_skip rfl rfl rfl ?_
          refine p_skip rfl rfl rfl ?_
          refine p_skip rfl rfl rfl ?_
          refine p_pickF rfl rfl rfl rfl rfl rfl ?_
          refine p_pure htab rfl rfl rfl rfl ?_
          refine p_skip rfl rfl rfl ?_
          refine p_pickF rfl rfl rfl rfl rfl rfl ?_
          refine p_pure htab rfl rfl rfl rfl ?_
          refine ops_nil ?_
          refine then_normal ?_
          refine wpD_ret ?_
          have er17 := yes_eq hm; subst er17
          refine retX.of (s' := ⟨[(2, .v (.bool false))], [], []⟩) (WkS.perm (WkS.cons rfl (Wk.refl _) (WkS.nil)) (List.Perm.refl _) (List.Perm.refl _)) (retD_mk (hh := []) (.inl rfl) (resL_cons (resOne_tmp rfl) (resL_nil)) (List.nil_sublist _) (List.Sublist.refl _) ?_)
          exact ⟨rfl, rfl, rfl⟩
      · replace hm := yes_f hg7 hm
        refine p_skip rfl rfl rfl ?_
        refine p_skip rfl rfl rfl ?_
        refine p_skip rfl rfl rfl ?_
        refine p_skip rfl rfl rfl ?_
        refine p_skip rfl rfl rfl ?_
        refine p_pickF rfl rfl rfl rfl rfl rfl ?_
        refine p_pure htab rfl rfl rfl rfl ?_
        refine p_skip rfl rfl rfl ?_
        refine p_skip rfl rfl rfl ?_
        refine p_skip rfl rfl rfl ?_
        refine p_skip rfl rfl rfl ?_
        refine p_skip rfl rfl rfl ?_
        refine p_pickF rfl rfl rfl rfl rfl rfl ?_
        refine p_pure htab rfl rfl rfl rfl ?_
        refine p_skip rfl rfl rfl ?_
        refine p_pickF rfl rfl rfl rfl rfl rfl ?_
        refine p_pure htab rfl rfl rfl rfl ?_
        refine ops_nil ?_
        refine then_normal ?_
        refine wpD_ret ?_
        have er18 := yes_eq hm; subst er18
        refine retX.of (s' := ⟨[(2, .v (.bool false))], [], []⟩) (WkS.perm (WkS.cons rfl (Wk.refl _) (WkS.nil)) (List.Perm.refl _) (List.Perm.refl _)) (retD_mk (hh := []) (.inl rfl) (resL_cons (resOne_tmp rfl) (resL_nil)) (List.nil_sublist _) (List.Sublist.refl _) ?_)
        exact ⟨rfl, rfl, rfl⟩
    · replace hm := yes_f hg5 hm
      refine p_skip rfl rfl rfl ?_
      refine p_skip rfl rfl rfl ?_
      refine p_skip rfl rfl rfl ?_
      refine p_pickF rfl rfl rfl rfl rfl rfl ?_
      refine p_pure htab rfl rfl rfl rfl ?_
      refine p_skip rfl rfl rfl ?_
      refine p_skip rfl rfl rfl ?_
      refine p_skip rfl rfl rfl ?_
      refine p_skip rfl rfl rfl ?_
      refine p_skip rfl rfl rfl ?_
      refine p_pickF rfl rfl rfl rfl rfl rfl ?_
      refine p_pure htab rfl rfl rfl rfl ?_
      refine p_skip rfl rfl rfl ?_
      refine p_skip rfl rfl rfl ?_
      refine p_skip rfl rfl rfl ?_
      refine p_skip rfl rfl rfl ?_
      refine p_skip rfl rfl rfl ?_
      refine p_pickF rfl rfl rfl rfl rfl rfl ?_
      refine p_pure htab rfl rfl rfl rfl ?_
      refine p_skip rfl rfl rfl ?_
      refine p_pickF rfl rfl rfl rfl rfl rfl ?_
      refine p_pure htab rfl rfl rfl rfl ?_
      refine ops_nil ?_
      refine then_normal ?_
      refine wpD_ret ?_
      have er19 := yes_eq hm; subst er19
      refine retX.of (s' := ⟨[(2, .v (.bool false))], [], []⟩) (WkS.perm (WkS.cons rfl (Wk.refl _) (WkS.nil)) (List.Perm.refl _) (List.Perm.refl _)) (retD_mk (hh := []) (.inl rfl) (resL_cons (resOne_tmp rfl) (resL_nil)) (List.nil_sublist _) (List.Sublist.refl _) ?_)
      exact ⟨rfl, rfl, rfl⟩
  · replace hm := yes_f hg3 hm
    refine p_skip rfl rfl rfl ?_
    refine p_skip rfl rfl rfl ?_
    refine p_pickF rfl rfl rfl rfl rfl rfl ?_
    refine p_pure htab rfl rfl rfl rfl ?_
    refine p_skip rfl rfl rfl ?_
    refine p_skip rfl rfl rfl ?_
    refine p_skip rfl rfl rfl ?_
    refine p_pickF rfl rfl rfl rfl rfl rfl ?_
    refine p_pure htab rfl rfl rfl rfl ?_
    refine p_skip rfl rfl rfl ?_
    refine p_skip rfl rfl rfl ?_
    refine p_skip rfl rfl rfl ?_
    refine p_skip rfl rfl rfl ?_
    refine p_skip rfl rfl rfl ?_
    refine p_pickF rfl rfl rfl rfl rfl rfl ?_
    refine p_pure htab rfl rfl rfl rfl ?_
    refine p_skip rfl rfl rfl ?_
    refine p_skip rfl rfl rfl ?_
    refine p_skip rfl rfl rfl ?_
    refine p_skip rfl rfl rfl ?_
    refine p_skip rfl rfl rfl ?_
    refine p_pickF rfl rfl rfl rfl rfl rfl ?_
    refine p_pure htab rfl rfl rfl rfl ?_
    refine p_skip rfl rfl rfl ?_
    refine p_pickF rfl rfl rfl rfl rfl rfl ?_
    refine p_pure htab rfl rfl rfl rfl ?_
    refine ops_nil ?_
    refine then_normal ?_
    refine wpD_ret ?_
    have er20 := yes_eq hm; subst er20
    refine retX.of (s' := ⟨[(2, .v (.bool false))], [], []⟩) (WkS.perm (WkS.cons rfl (Wk.refl _) (WkS.nil)) (List.Perm.refl _) (List.Perm.refl _)) (retD_mk (hh := []) (.inl rfl) (resL_cons (resOne_tmp rfl) (resL_nil)) (List.nil_sublist _) (List.Sublist.refl _) ?_)
    exact ⟨rfl, rfl, rfl⟩
end Go.Proofs.Ytphpnbdfngdinaa.Ab
