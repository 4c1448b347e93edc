/- Layer 18: what the functions compute. -/
import Derived.Test.YtpeimfcmhedjmaaCh1b
namespace Go.Proofs.Ytpeimfcmhedjmaa.Ab
open Go
set_option linter.all false
noncomputable def r11_SameFunc (a0 : TApiFunc) (a1 : TApiFunc) (a2 : Bool) : Option (Bool) :=
  (bif (decide (a0.gName = a1.gName)) then ((r11_vars a0.gParams a1.gParams).bind fun x4 => (bif x4 then ((r11_vars a0.gLocals a1.gLocals).bind fun x6 => (bif x6 then ((r11_SameAll a0.gBody a1.gBody a2).bind fun x8 => (bif x8 then (bif (!a2) then some true else some (a0.gAt == a1.gAt)) else some false)) else some false)) else some false)) else some false)
set_option maxRecDepth 100000 in
set_option maxHeartbeats 2000000 in
theorem r11_SameFunc_ok (a0 : TApiFunc) (a1 : TApiFunc) (a2 : Bool) (r : Bool) (h0 : r11_SameFunc a0 a1 a2 = some r) : CallsD Try.prog 36 [eTApiFunc a0, eTApiFunc a1, .v (.bool a2)] [] [] (fun d h k => d = .v (.bool r) ∧ h = [] ∧ k = []) := by
  have hm := yes_of h0
  unfold r11_SameFunc at hm
  clear h0
  refine enterX htab Try.func36 rfl rfl rfl rfl rfl (fun C => ?_)
  refine wpD_seq ?_
  refine wpD_region ?_
  refine p_box rfl rfl rfl rfl rfl rfl rfl (fun b1 => ?_)
  refine p_box rfl rfl rfl rfl rfl rfl rfl (fun b2 => ?_)
  refine p_pure htab rfl rfl rfl rfl ?_
  refine ops_nil ?_
  refine then_normal ?_
  refine wpD_seq ?_
  refine wpD_region ?_
  refine p_pure htab rfl rfl rfl rfl ?_
  refine p_load 0 htab rfl rfl rfl rfl rfl rfl rfl rfl ?_
  refine p_pure htab rfl rfl rfl rfl ?_
  refine p_load 1 htab rfl rfl rfl rfl rfl rfl rfl rfl ?_
  refine p_pure htab rfl rfl rfl rfl ?_
  refine p_pure htab rfl rfl rfl rfl ?_
  refine p_split (i := 12) rfl (fun hg3 => ?_) (fun hg3 => ?_)
  · replace hm := yes_t hg3 hm
    refine p_pure htab rfl rfl rfl rfl ?_
    refine p_load 0 htab rfl rfl rfl rfl rfl rfl rfl rfl ?_
    refine p_pure htab rfl rfl rfl rfl ?_
    refine p_load 1 htab rfl rfl rfl rfl rfl rfl rfl rfl ?_
    obtain ⟨x4, q4, hm⟩ := yes_bind hm
    refine p_call0 (r11_vars_ok a0.gParams a1.gParams x4 q4) rfl rfl rfl rfl rfl (WkL.refl _) ?_
    rintro _ rfl
    refine p_pickT rfl rfl rfl rfl rfl rfl ?_
    refine p_pure htab rfl rfl rfl rfl ?_
    refine p_split (i := 19) rfl (fun hg5 => ?_) (fun hg5 => ?_)
    · replace hm := yes_t hg5 hm
      refine p_pure htab rfl rfl rfl rfl ?_
      refine p_load 0 htab rfl rfl rfl rfl rfl rfl rfl rfl ?_
      refine p_pure htab rfl rfl rfl rfl ?_
      refine p_load 1 htab rfl rfl rfl rfl rfl rfl rfl rfl ?_
      obtain ⟨x6, q6, hm⟩ := yes_bind hm
      refine p_call0 (r11_vars_ok a0.gLocals a1.gLocals x6 q6) rfl rfl rfl rfl rfl (WkL.refl _) ?_
      rintro _ rfl
      refine p_pickT rfl rfl rfl rfl rfl rfl ?_
      refine p_pure htab rfl rfl rfl rfl ?_
      refine p_split (i := 26) rfl (fun hg7 => ?_) (fun hg7 => ?_)
      · replace hm := yes_t hg7 hm
        refine p_pure htab rfl rfl rfl rfl ?_
        refine p_load 0 htab rfl rfl rfl rfl rfl rfl rfl rfl ?_
        refine p_pure htab rfl rfl rfl rfl ?_
        refine p_load 1 htab rfl rfl rfl rfl rfl rfl rfl rfl ?_
        refine p_pure htab rfl rfl rfl rfl ?_
        obtain ⟨x8, q8, hm⟩ := yes_bind hm
        refine p_call0 (r11_SameAll_ok a0.gBody a1.gBody a2 x8 q8) rfl rfl rfl rfl rfl (WkL.refl _) ?_
        rintro _ rfl
        refine p_pickT rfl rfl rfl rfl rfl rfl ?_
        refine p_pure htab rfl rfl rfl rfl ?_
        refine p_split (i := 34) rfl (fun hg9 => ?_) (fun hg9 => ?_)
        · replace hm := yes_t hg9 hm
          refine p_pure htab rfl rfl rfl rfl ?_
          refine p_pure htab rfl rfl rfl rfl ?_
          refine p_pure htab rfl rfl rfl rfl ?_
          refine p_split (i := 37) rfl (fun hg10 => ?_) (fun hg10 => ?_)
          · replace hm := yes_t hg10 hm
            refine p_skip rfl rfl rfl ?_
            refine p_skip rfl rfl rfl ?_
            refine p_skip rfl rfl rfl ?_
            refine p_skip rfl rfl rfl ?_
            refine p_skip rfl rfl rfl ?_
            refine p_pickT rfl rfl rfl rfl rfl rfl ?_
            refine p_pickT rfl rfl rfl rfl rfl rfl ?_
            refine p_pure htab rfl rfl rfl rfl ?_
            refine ops_nil ?_
            refine then_normal ?_
            refine wpD_ret ?_
            have er11 := yes_eq hm; subst er11
            refine retX.of (s' := ⟨[(6, .v (.bool true))], [], []⟩) (WkS.perm (WkS.cons rfl (Wk.refl _) (WkS.nil)) (List.Perm.refl _) (List.Perm.refl _)) (retD_mk (hh := []) (.inl rfl) (resL_cons (resOne_tmp rfl) (resL_nil)) (List.nil_sublist _) (List.Sublist.refl _) ?_)
            exact ⟨rfl, rfl, rfl⟩
          · replace hm := yes_f hg10 hm
            refine p_pure htab rfl rfl rfl rfl ?_
            refine p_load 0 htab rfl rfl rfl rfl rfl rfl rfl rfl ?_
            refine p_pure htab rfl rfl rfl rfl ?_
            refine p_load 1 htab rfl rfl rfl rfl rfl rfl rfl rfl ?_
            refine p_pure htab rfl rfl rfl rfl ?_
            refine p_pickF rfl rfl rfl rfl rfl rfl ?_
            refine p_pickT rfl rfl rfl rfl rfl rfl ?_
            refine p_pure htab rfl rfl rfl rfl ?_
            refine ops_nil ?_
            refine then_normal ?_
            refine wpD_ret ?_
            have er12 := yes_eq hm; subst er12
            refine retX.of (s' := ⟨[(6, .v (.bool (a0.gAt == a1.gAt)))], [], []⟩) (WkS.perm (WkS.cons rfl (Wk.refl _) (WkS.nil)) (List.Perm.refl _) (List.Perm.refl _)) (retD_mk (hh := []) (.inl rfl) (resL_cons (resOne_tmp rfl) (resL_nil)) (List.nil_sublist _) (List.Sublist.refl _) ?_)
            exact ⟨rfl, rfl, rfl⟩
        · replace hm := yes_f hg9 hm
          refine p_skip rfl rfl rfl ?_
          refine p_skip rfl rfl rfl ?_
          refine p_skip rfl rfl rfl ?_
          refine p_skip rfl rfl rfl ?_
          refine p_skip rfl rfl rfl ?_
          refine p_skip rfl rfl rfl ?_
          refine p_skip rfl rfl rfl ?_
          refine p_skip rfl rfl rfl ?_
          refine p_skip rfl rfl rfl ?_
          refine p_pickF rfl rfl rfl rfl rfl rfl ?_
          refine p_pure htab rfl rfl rfl rfl ?_
          refine ops_nil ?_
          refine then_normal ?_
          refine wpD_ret ?_
          have er13 := yes_eq hm; subst er13
          refine retX.of (s' := ⟨[(6, .v (.bool false))], [], []⟩) (WkS.perm (WkS.cons rfl (Wk.refl _) (WkS.nil)) (List.Perm.refl _) (List.Perm.refl _)) (retD_mk (hh := []) (.inl rfl) (resL_cons (resOne_tmp rfl) (resL_nil)) (List.nil_sublist _) (List.Sublist.refl _) ?_)
          exact ⟨rfl, rfl, rfl⟩
      · replace hm := yes_f hg7 hm
        refine p_skip rfl rfl rfl ?_
        refine p_skip rfl rfl rfl ?_
        refine p_skip rfl rfl rfl ?_
        refine p_skip rfl rfl rfl ?_
        refine p_skip rfl rfl rfl ?_
        refine p_skip rfl rfl rfl ?_
        refine p_pickF rfl rfl rfl rfl rfl rfl ?_
        refine p_pure htab rfl rfl rfl rfl ?_
        refine p_skip rfl rfl rfl ?_
        refine p_skip rfl rfl rfl ?_
        refine p_skip rfl rfl rfl ?_
        refine p_skip rfl rfl rfl ?_
        refine p_skip rfl rfl rfl ?_
        refine p_skip rfl rfl rfl ?_
        refine p_skip rfl rfl rfl ?_
        refine p_skip rfl rfl rfl ?_
        refine p_skip rfl rfl rfl ?_
        refine p_pickF rfl rfl rfl rfl rfl rfl ?_
        refine p_pure htab rfl rfl rfl rfl ?_
        refine ops_nil ?_
        refine then_normal ?_
        refine wpD_ret ?_
        have er14 := yes_eq hm; subst er14
        refine retX.of (s' := ⟨[(6, .v (.bool false))], [], []⟩) (WkS.perm (WkS.cons rfl (Wk.refl _) (WkS.nil)) (List.Perm.refl _) (List.Perm.refl _)) (retD_mk (hh := []) (.inl rfl) (resL_cons (resOne_tmp rfl) (resL_nil)) (List.nil_sublist _) (List.Sublist.refl _) ?_)
        exact ⟨rfl, rfl, rfl⟩
    · replace hm := yes_f hg5 hm
      refine p_skip rfl rfl rfl ?_
      refine p_skip rfl rfl rfl ?_
      refine p_skip rfl rfl rfl ?_
      refine p_skip rfl rfl rfl ?_
      refine p_skip rfl rfl rfl ?_
      refine p_pickF rfl rfl rfl rfl rfl rfl ?_
      refine p_pure htab rfl rfl rfl rfl ?_
      refine p_skip rfl rfl rfl ?_
      refine p_skip rfl rfl rfl ?_
      refine p_skip rfl rfl rfl ?_
      refine p_skip rfl rfl rfl ?_
      refine p_skip rfl rfl rfl ?_
      refine p_skip rfl rfl rfl ?_
      refine p_pickF rfl rfl rfl rfl rfl rfl ?_
      refine p_pure htab rfl rfl rfl rfl ?_
      refine p_skip rfl rfl rfl ?_
      refine p_skip rfl rfl rfl ?_
      refine p_skip rfl rfl rfl ?_
      refine p_skip rfl rfl rfl ?_
      refine p_skip rfl rfl rfl ?_
      refine p_skip rfl rfl rfl ?_
      refine p_skip rfl rfl rfl ?_
      refine p_skip rfl rfl rfl ?_
      refine p_skip rfl rfl rfl ?_
      refine p_pickF rfl rfl rfl rfl rfl rfl ?_
      refine p_pure htab rfl rfl rfl rfl ?_
      refine ops_nil ?_
      refine then_normal ?_
      refine wpD_ret ?_
      have er15 := yes_eq hm; subst er15
      refine retX.of (s' := ⟨[(6, .v (.bool false))], [], []⟩) (WkS.perm (WkS.cons rfl (Wk.refl _) (WkS.nil)) (List.Perm.refl _) (List.Perm.refl _)) (retD_mk (hh := []) (.inl rfl) (resL_cons (resOne_tmp rfl) (resL_nil)) (List.nil_sublist _) (List.Sublist.refl _) ?_)
      exact ⟨rfl, rfl, rfl⟩
  · replace hm := yes_f hg3 hm
    refine p_skip rfl rfl rfl ?_
    refine p_skip rfl rfl rfl ?_
    refine p_skip rfl rfl rfl ?_
    refine p_skip rfl rfl rfl ?_
    refine p_skip rfl rfl rfl ?_
    refine p_pickF rfl rfl rfl rfl rfl rfl ?_
    refine p_pure htab rfl rfl rfl rfl ?_
    refine p_skip rfl rfl rfl ?_
    refine p_skip rfl rfl rfl ?_
    refine p_skip rfl rfl rfl ?_
    refine p_skip rfl rfl rfl ?_
    refine p_skip rfl rfl rfl ?_
    refine p_pickF rfl rfl rfl rfl rfl rfl ?_
    refine p_pure htab rfl rfl rfl rfl ?_
    refine p_skip rfl rfl rfl ?_
    refine p_skip rfl rfl rfl ?_
    refine p_skip rfl rfl rfl ?_
    refine p_skip rfl rfl rfl ?_
    refine p_skip rfl rfl rfl ?_
    refine p_skip rfl rfl rfl ?_
    refine p_pickF rfl rfl rfl rfl rfl rfl ?_
    refine p_pure htab rfl rfl rfl rfl ?_
    refine p_skip rfl rfl rfl ?_
    refine p_skip rfl rfl rfl ?_
    refine p_skip rfl rfl rfl ?_
    refine p_skip rfl rfl rfl ?_
    refine p_skip rfl rfl rfl ?_
    refine p_skip rfl rfl rfl ?_
    refine p_skip rfl rfl rfl ?_
    refine p_skip rfl rfl rfl ?_
    refine p_skip rfl rfl rfl ?_
    refine p_pickF rfl rfl rfl rfl rfl rfl ?_
    refine p_pure htab rfl rfl rfl rfl ?_
    refine ops_nil ?_
    refine then_normal ?_
    refine wpD_ret ?_
    have er16 := yes_eq hm; subst er16
    refine retX.of (s' := ⟨[(6, .v (.bool false))], [], []⟩) (WkS.perm (WkS.cons rfl (Wk.refl _) (WkS.nil)) (List.Perm.refl _) (List.Perm.refl _)) (retD_mk (hh := []) (.inl rfl) (resL_cons (resOne_tmp rfl) (resL_nil)) (List.nil_sublist _) (List.Sublist.refl _) ?_)
    exact ⟨rfl, rfl, rfl⟩
noncomputable def r18_Global (a0 : TApiProgram) (a1 : ByteArray) : Option (Int) :=
  (Option.bind (α := (Unit) ⊕ (Int)) (loopM (fun (s16 : Int) => (bif (decide (s16 < (a0.gGlobals.length : Int))) then ((idx a0.gGlobals s16).bind fun x26 => (bif (decide (x26.gName = a1)) then some (.done (.inr s16)) else some (.next (IntKind.i64.wrap (s16 + (1 : Int)))))) else some (.done (.inl ())))) (0 : Int)) (Sum.elim (fun y15 => some (-1 : Int)) (fun r => some r)))
set_option maxRecDepth 100000 in
set_option maxHeartbeats 2000000 in
theorem r18_Global_ok (a0 : TApiProgram) (a1 : ByteArray) (r : Int) (h0 : r18_Global a0 a1 = some r) : CallsD Try.prog 37 [eTApiProgram a0, .v (.string a1)] [] [] (fun d h k => d = .v (.int .i64 r) ∧ h = [] ∧ k = []) := by
  have hm := yes_of h0
  unfold r18_Global at hm
  clear h0
  refine enterX htab Try.func37 rfl rfl rfl rfl rfl (fun C => ?_)
  refine wpD_seq ?_
  refine wpD_region ?_
  refine p_box rfl rfl rfl rfl rfl rfl rfl (fun b1 => ?_)
  refine p_pure htab rfl rfl rfl rfl ?_
  refine ops_nil ?_
  refine then_normal ?_
  refine wpD_seq ?_
  refine wpD_seq ?_
  refine wpD_region ?_
  refine p_pure htab rfl rfl rfl rfl ?_
  refine ops_nil ?_
  refine then_normal ?_
  obtain ⟨x15, q15, ho15⟩ := yes_bind hm
  refine wpD_midX (τ := Unit) (Y := Unit) (fun y15 z15 => (⟨[], [(b1, Blk.cells [.lst 4 (a0.gGlobals.map eTApiGlobal) .no, .lst 5 (a0.gFuncs.map eTApiFunc) .no] 25)], []⟩ : S)) x15 ?_ ?_
  · clear hm; have hm := yes_of q15
    refine wpD_block ?_
    obtain ⟨u16, hl16, hq16⟩ := yes_m hm
    refine loop_M (Y := Unit) hl16 (fun s16 z16 => (⟨[(1, .v (.string a1)), (2, .ptr b1 0), (5, .v (.int .i64 s16))], [(b1, Blk.cells [.lst 4 (a0.gGlobals.map eTApiGlobal) .no, .lst 5 (a0.gFuncs.map eTApiFunc) .no] 25)], []⟩ : S)) ?_ ?_
    · skip
      exact WkX.of () (WkS.perm (WkS.cons rfl (Wk.refl _) (WkS.cons rfl (Wk.refl _) (WkS.cons rfl (Wk.refl _) (WkS.nil)))) (List.Perm.refl _) (List.Perm.refl _))
    · intro G16 s16 z16 hm
      refine wpD_seq ?_
      refine wpD_seq ?_
      refine wpD_region ?_
      refine p_pure htab rfl rfl rfl rfl ?_
      refine p_pure htab rfl rfl rfl rfl ?_
      refine p_load 0 htab rfl rfl rfl rfl rfl rfl rfl rfl ?_
      refine p_lenL htab rfl rfl rfl rfl rfl rfl rfl (by first | exact map_len | rfl) ?_
      refine p_pure htab rfl rfl rfl rfl ?_
      refine ops_nil ?_
      refine then_normal ?_
      refine wpD_cond rfl (fun hc25 => ?_) (fun hc25 => ?_)
      · replace hm := yes_t hc25 hm
        refine wpD_skip ?_
        refine then_normal ?_
        refine wpD_seq ?_
        refine wpD_block ?_
        refine wpD_seq ?_
        refine wpD_region ?_
        refine p_pure htab rfl rfl rfl rfl ?_
        refine p_load 0 htab rfl rfl rfl rfl rfl rfl rfl rfl ?_
        refine p_pure htab rfl rfl rfl rfl ?_
        obtain ⟨x26, q26, hm⟩ := yes_bind hm
        refine p_elem htab rfl rfl rfl rfl rfl rfl rfl rfl rfl rfl (idx_nonneg q26) (idx_map q26) ?_
        refine p_pure htab rfl rfl rfl rfl ?_
        refine p_loadEl htab rfl rfl rfl rfl rfl rfl rfl rfl ?_
        refine p_pure htab rfl rfl rfl rfl ?_
        refine p_pure htab rfl rfl rfl rfl ?_
        refine ops_nil ?_
        refine then_normal ?_
        refine wpD_cond rfl (fun hc27 => ?_) (fun hc27 => ?_)
        · replace hm := yes_t hc27 hm
          refine wpD_seq ?_
          refine wpD_region ?_
          refine p_pure htab rfl rfl rfl rfl ?_
          refine p_pure htab rfl rfl rfl rfl ?_
          refine ops_nil ?_
          refine then_normal ?_
          refine wpD_ret ?_
          refine block_ret ?_
          refine then_ret ?_
          have e16 := lp_done hm; subst e16; clear hm; have hm := hq16
          refine then_ret ?_
          refine block_ret ?_
          have e15 := yes_eq hm; subst e15; refine midX_inr ?_; clear hm; have hm := ho15; simp only [Sum.elim_inr] at hm
          refine then_ret ?_
          have er28 := yes_eq hm; subst er28
          refine retX.of (s' := ⟨[(4, .v (.int .i64 s16))], [], []⟩) (WkS.perm (WkS.cons rfl (Wk.refl _) (WkS.nil)) (List.Perm.refl _) (List.Perm.refl _)) (retD_mk (hh := []) (.inl rfl) (resL_cons (resOne_tmp rfl) (resL_nil)) (List.nil_sublist _) (List.Sublist.refl _) ?_)
          exact ⟨rfl, rfl, rfl⟩
        · replace hm := yes_f hc27 hm
          refine wpD_skip ?_
          refine block_normal ?_
          refine then_normal ?_
          refine wpD_region ?_
          refine p_pure htab rfl rfl rfl rfl ?_
          refine p_pure htab rfl rfl rfl rfl ?_
          refine p_pure htab rfl rfl rfl rfl ?_
          refine ops_nil ?_
          refine then_normal ⟨_, lp_next hm, ?_⟩
          exact WkX.of () (WkS.perm (WkS.cons rfl (Wk.refl _) (WkS.cons rfl (Wk.refl _) (WkS.cons rfl (Wk.refl _) (WkS.nil)))) (List.Perm.refl _) (List.Perm.refl _))
      · replace hm := yes_f hc25 hm
        refine wpD_exit ?_
        refine then_exit ?_
        have e16 := lp_done hm; subst e16; clear hm; have hm := hq16
        refine then_exit ?_
        refine block_hit ?_
        have e15 := yes_eq hm; subst e15
        refine midX_inl ?_
        exact WkX.of () (WkS.perm (WkS.nil) (List.Perm.refl _) (List.Perm.refl _))
  · intro y15 s15 hx15 hw15; subst hx15; clear hm; have hm := ho15; simp only [Sum.elim_inl] at hm; clear q15 ho15
    refine then_normal ?_
    refine wpD_wkX hw15 (fun z15 => ?_)
    refine wpD_seq ?_
    refine wpD_region ?_
    refine p_pure htab rfl rfl rfl rfl ?_
    refine ops_nil ?_
    refine then_normal ?_
    refine wpD_ret ?_
    have er29 := yes_eq hm; subst er29
    refine retX.of (s' := ⟨[(4, .v (.int .i64 (-1 : Int)))], [], []⟩) (WkS.perm (WkS.cons rfl (Wk.refl _) (WkS.nil)) (List.Perm.refl _) (List.Perm.refl _)) (retD_mk (hh := []) (.inl rfl) (resL_cons (resOne_tmp rfl) (resL_nil)) (List.nil_sublist _) (List.Sublist.refl _) ?_)
    exact ⟨rfl, rfl, rfl⟩
abbrev nlCh1_19 : List (List Nat) := [[],[0],[0,1],[0,1,2],[0,1,2,3],[0,1,2,3,4],[0,1,2,3,4,5],[0,1,2,3,4,5,6],[0,1,2,3,4,5,6,7],[0,1,2,3,4,5,6],[0,1,2,3,4,5,6,7,8,9],[0,1,2,3,4,5,6,7,8,9,10],[0,1,2,3,4,5,6],[0,1,2,3,4,5,6,12],[0,1,2,3,4,5,6],[0,1,2,3,4,5,6,12,13,14],[0,1,2,3,4,5,6,12,13,14,15],[0,1,2,3,4,5,6,7,8,9,10,11,12,13,14,15,16],[0,1,2,3,4,5,6,7,8,9,10,11,12,13,14,15,16,17],[0,1,2,3,4,5,6,7,8,9,10,11,12,13,14,15,16,17,18],[0,1,2,3,4,5,6,7,8,9,10,11,12,13,14,15,16,17,18,19]]
abbrev nlCh1_20 : List (List Nat) := [[],[0],[0,1],[0,1,2],[0,1,2,3],[0,1,2,3,4],[0,1,2,3,4,5],[0,1,2,3,4,5,6],[0,1,2,3,4,5,6,7],[0,1,2,3,4,5,6],[0,1,2,3,4,5,6,7,8,9],[0,1,2,3,4,5,6,7,8,9,10],[0,1,2,3,4,5,6,7,8,9,10,11],[0,1,2,3,4,5,6],[0,1,2,3,4,5,6,13],[0,1,2,3,4,5,6],[0,1,2,3,4,5,6,13,14,15],[0,1,2,3,4,5,6,13,14,15,16],[0,1,2,3,4,5,6,13,14,15,16,17],[0,1,2,3,4,5,6,7,8,9,10,11,12,13,14,15,16,17,18],[0,1,2,3,4,5,6,7,8,9,10,11,12,13,14,15,16,17,18,19],[0,1,2,3,4,5,6,7,8,9,10,11,12,13,14,15,16,17,18,19,20],[0,1,2,3,4,5,6,7,8,9,10,11,12,13,14,15,16,17,18,19,20,21],[0,1,2,3,4,5,6,7,8,9,10,11,12,13,14,15,16,17,18,19,20,21,22],[0,1,2,3,4,5,6,7,8,9,10,11,12,13,14,15,16,17,18,19,20,21],[0,1,2,3,4,5,6,7,8,9,10,11,12,13,14,15,16,17,18,19,20,21,22,23,24],[0,1,2,3,4,5,6,7,8,9,10,11,12,13,14,15,16,17,18,19,20,21,22,23,24,25],[0,1,2,3,4,5,6,7,8,9,10,11,12,13,14,15,16,17,18,19,20,21,22,23,24,25,26],[0,1,2,3,4,5,6,7,8,9,10,11,12,13,14,15,16,17,18,19,20,21],[0,1,2,3,4,5,6,7,8,9,10,11,12,13,14,15,16,17,18,19,20,21,28],[0,1,2,3,4,5,6,7,8,9,10,11,12,13,14,15,16,17,18,19,20,21],[0,1,2,3,4,5,6,7,8,9,10,11,12,13,14,15,16,17,18,19,20,21,28,29,30],[0,1,2,3,4,5,6,7,8,9,10,11,12,13,14,15,16,17,18,19,20,21,28,29,30,31],[0,1,2,3,4,5,6,7,8,9,10,11,12,13,14,15,16,17,18,19,20,21,28,29,30,31,32],[0,1,2,3,4,5,6,7,8,9,10,11,12,13,14,15,16,17,18,19,20,21,22,23,24,25,26,27,28,29,30,31,32,33],[0,1,2,3,4,5,6,7,8,9,10,11,12,13,14,15,16,17,18,19,20,21,22,23,24,25,26,27,28,29,30,31,32,33,34],[0,1,2,3,4,5,6,7,8,9,10,11,12,13,14,15,16,17,18,19,20,21,22,23,24,25,26,27,28,29,30,31,32,33,34,35]]
abbrev nlCh1_21 : List (List Nat) := [[],[],[],[],[],[],[],[],[7],[],[7,8],[7,8,10],[7,8,10,11],[],[13],[],[13,14],[13,14,16],[13,14,16,17],[7,8,10,11,13,14,16,17],[7,8,10,11,13,14,16,17],[7,8,10,11,13,14,16,17],[7,8,10,11,13,14,16,17],[7,8,10,11,13,14,16,17],[7,8,10,11,13,14,16,17],[7,8,10,11,13,14,16,17],[7,8,10,11,13,14,16,17],[7,8,10,11,13,14,16,17],[7,8,10,11,13,14,16,17],[7,8,10,11,13,14,16,17],[7,8,10,11,13,14,16,17],[7,8,10,11,13,14,16,17],[7,8,10,11,13,14,16,17],[7,8,10,11,13,14,16,17]]
abbrev nlCh1_22 : List (List Nat) := [[],[],[],[],[],[],[],[],[7],[],[7,8],[7,8,10],[7,8,10,11],[],[13],[],[13,14],[13,14,16],[13,14,16,17],[7,8,10,11,13,14,16,17],[7,8,10,11,13,14,16,17],[7,8,10,11,13,14,16,17],[7,8,10,11,13,14,16,17],[7,8,10,11,13,14,16,17,22],[7,8,10,11,13,14,16,17],[7,8,10,11,13,14,16,17,22,23],[7,8,10,11,13,14,16,17,22,23,25],[7,8,10,11,13,14,16,17,22,23,25,26],[7,8,10,11,13,14,16,17],[7,8,10,11,13,14,16,17,28],[7,8,10,11,13,14,16,17],[7,8,10,11,13,14,16,17,28,29],[7,8,10,11,13,14,16,17,28,29,31],[7,8,10,11,13,14,16,17,28,29,31,32]]
noncomputable def r18_other (a0 : TApiProgram) (a1 : TApiProgram) (a2 : ByteArray) (a3 : Bool) : Option (Bool) :=
  (bif a3 then ((r18_Func a0 a2).bind fun x12 => ((r18_Func a1 a2).bind fun x13 => (Option.bind (α := Bool) (bif (decide (x12 < (0 : Int))) then some true else (bif (decide (x13 < (0 : Int))) then some true else ((idx a0.gFuncs x12).bind fun x22 => ((idx a1.gFuncs x13).bind fun x23 => ((r11_SameFunc x22 x23 false).bind fun x24 => some (!x24)))))) fun y19 => some y19))) else ((r18_Global a0 a2).bind fun x26 => ((r18_Global a1 a2).bind fun x27 => (bif (decide (x26 < (0 : Int))) then some true else (bif (decide (x27 < (0 : Int))) then some true else ((idx a0.gGlobals x26).bind fun x32 => ((idx a1.gGlobals x27).bind fun x33 => (bif (!(x32.gPtr == x33.gPtr)) then some true else ((idx a0.gGlobals x26).bind fun x36 => ((idx a1.gGlobals x27).bind fun x37 => some (x36.gSize != x37.gSize)))))))))))
set_option maxRecDepth 100000 in
set_option maxHeartbeats 2000000 in
theorem r18_other_ok (a0 : TApiProgram) (a1 : TApiProgram) (a2 : ByteArray) (a3 : Bool) (r : Bool) (h0 : r18_other a0 a1 a2 a3 = some r) : CallsD Try.prog 20 [eTApiProgram a0, eTApiProgram a1, .v (.string a2), .v (.bool a3)] [] [] (fun d h k => d = .v (.bool r) ∧ h = [] ∧ k = []) := by
  have hm := yes_of h0
  unfold r18_other at hm
  clear h0
  refine enterX htab Try.func20 rfl rfl rfl rfl rfl (fun C => ?_)
  refine wpD_seq ?_
  refine wpD_region ?_
  refine p_box rfl rfl rfl rfl rfl rfl rfl (fun b1 => ?_)
  refine p_box rfl rfl rfl rfl rfl rfl rfl (fun b2 => ?_)
  refine p_pure htab rfl rfl rfl rfl ?_
  refine ops_nil ?_
  refine then_normal ?_
  refine wpD_seq ?_
  refine wpD_seq ?_
  refine wpD_region ?_
  refine p_pure htab rfl rfl rfl rfl ?_
  refine ops_nil ?_
  refine then_normal ?_
  refine wpD_cond rfl (fun hc11 => ?_) (fun hc11 => ?_)
  · replace hm := yes_t hc11 hm
    refine wpD_seq ?_
    obtain ⟨x12, q12, hm⟩ := yes_bind hm
    refine wpD_draws 5 [] [[],[],[0],[],[]] [0,2,3] [[],[],[0,1],[],[],[0,1,2,3,4],[0,1,2,3,4,5],[0,1,2,3,4,5,6]] (by kernel_rfl) (by kernel_rfl) (by kernel_rfl) (by rfl) (by rfl) (by kernel_rfl) ?_
    apply Exists.intro
    apply Exists.intro
    apply Exists.intro
    intro bs
    refine z_eM rfl rfl (xm_load (d := eTApiProgram a0) 0 htab rfl rfl rfl rfl rfl) rfl rfl rfl rfl rfl rfl ?_
    refine z_q rfl rfl (ex_pure htab rfl) rfl rfl rfl rfl rfl rfl ?_
    refine z_call rfl rfl (r18_Func_ok a0 a2 x12 q12) rfl rfl (WkL.refl _) rfl rfl rfl rfl rfl rfl ?_
    refine z_eM rfl rfl (xm_load (d := eTApiProgram a1) 1 htab rfl rfl rfl rfl rfl) rfl rfl rfl rfl rfl rfl ?_
    refine z_q rfl rfl (ex_pure htab rfl) rfl rfl rfl rfl rfl rfl ?_
    refine z_nil rfl rfl (fun e he => by simp [isAl] at he) ?_
    obtain ⟨x13, q13, hm⟩ := yes_bind hm
    refine p_call0 (r18_Func_ok a1 a2 x13 q13) rfl rfl rfl rfl rfl (WkL.refl _) ?_
    rintro _ rfl
    refine p_pure htab rfl rfl rfl rfl ?_
    refine p_pure htab rfl rfl rfl rfl ?_
    refine ops_nil ?_
    refine then_normal ?_
    refine wpD_seq ?_
    obtain ⟨y19, q19, ho19⟩ := yes_bind hm
    refine wpD_mid (Y := Unit) (fun z19 => (⟨[(8, .v (.bool y19))], [(b1, Blk.cells [.lst 4 (a0.gGlobals.map eTApiGlobal) .no, .lst 5 (a0.gFuncs.map eTApiFunc) .no] 25), (b2, Blk.cells [.lst 4 (a1.gGlobals.map eTApiGlobal) .no, .lst 5 (a1.gFuncs.map eTApiFunc) .no] 25)], []⟩ : S)) ?_ ?_
    · clear hm; have hm := yes_of q19
      refine bycB (decide (x12 < (0 : Int))) (fun hs20 => ?_) (fun hs20 => ?_)
      · replace hm := yes_t hs20 hm
        refine wpD_draws 17 [] [[],[],[],[],[],[],[],[],[],[],[],[],[],[],[],[],[]] [] nlCh1_19 (by kernel_rfl) (by kernel_rfl) (by kernel_rfl) (by rfl) (by rfl) (by kernel_rfl) ?_
        intro bs
        refine z_q rfl rfl (ex_pure htab rfl) rfl rfl rfl rfl rfl rfl ?_
        refine z_q rfl rfl (ex_pure htab rfl) rfl rfl rfl rfl rfl rfl ?_
        refine z_q rfl rfl (ex_pure htab rfl) rfl rfl rfl rfl rfl rfl ?_
        refine z_known (j := 22) (b' := true) rfl hs20 ?_
        refine z_skip rfl rfl rfl rfl ?_
        refine z_skip rfl rfl rfl rfl ?_
        refine z_q rfl rfl (x_pickT rfl rfl rfl) rfl rfl rfl rfl rfl rfl ?_
        refine z_q rfl rfl (ex_pure htab rfl) rfl rfl rfl rfl rfl rfl ?_
        refine z_skip rfl rfl rfl rfl ?_
        refine z_skip rfl rfl rfl rfl ?_
        refine z_skip rfl rfl rfl rfl ?_
        refine z_skip rfl rfl rfl rfl ?_
        refine z_skip rfl rfl rfl rfl ?_
        refine z_skip rfl rfl rfl rfl ?_
        refine z_skip rfl rfl rfl rfl ?_
        refine z_skip rfl rfl rfl rfl ?_
        refine z_skip rfl rfl rfl rfl ?_
        refine z_skip rfl rfl rfl rfl ?_
        refine z_nil rfl rfl (fun e he => by simp [isAl] at he) ?_
        refine p_skip rfl rfl rfl ?_
        refine p_skip rfl rfl rfl ?_
        refine p_pickT rfl rfl rfl rfl rfl rfl ?_
        refine p_pure htab rfl rfl rfl rfl ?_
        refine ops_nil ?_
        have e19 := yes_eq hm; subst e19
        refine ⟨rfl, ?_⟩
        exact WkX.of () (WkS.perm (WkS.cons rfl (Wk.refl _) (WkS.nil)) (List.Perm.refl _) (List.Perm.refl _))
      · replace hm := yes_f hs20 hm
        refine bycB (decide (x13 < (0 : Int))) (fun hs21 => ?_) (fun hs21 => ?_)
        · replace hm := yes_t hs21 hm
          refine wpD_draws 17 [] [[],[],[],[],[],[],[],[],[],[],[],[],[],[],[],[],[]] [] nlCh1_19 (by kernel_rfl) (by kernel_rfl) (by kernel_rfl) (by rfl) (by rfl) (by kernel_rfl) ?_
          intro bs
          refine z_q rfl rfl (ex_pure htab rfl) rfl rfl rfl rfl rfl rfl ?_
          refine z_q rfl rfl (ex_pure htab rfl) rfl rfl rfl rfl rfl rfl ?_
          refine z_q rfl rfl (ex_pure htab rfl) rfl rfl rfl rfl rfl rfl ?_
          refine z_known (j := 22) (b' := false) rfl hs20 ?_
          refine z_q rfl rfl (ex_pure htab rfl) rfl rfl rfl rfl rfl rfl ?_
          refine z_q rfl rfl (ex_pure htab rfl) rfl rfl rfl rfl rfl rfl ?_
          refine z_q rfl rfl (x_pickF rfl rfl rfl) rfl rfl rfl rfl rfl rfl ?_
          refine z_q rfl rfl (ex_pure htab rfl) rfl rfl rfl rfl rfl rfl ?_
          refine z_known (j := 26) (b' := true) rfl hs21 ?_
          refine z_skip rfl rfl rfl rfl ?_
          refine z_skip rfl rfl rfl rfl ?_
          refine z_skip rfl rfl rfl rfl ?_
          refine z_skip rfl rfl rfl rfl ?_
          refine z_skip rfl rfl rfl rfl ?_
          refine z_skip rfl rfl rfl rfl ?_
          refine z_skip rfl rfl rfl rfl ?_
          refine z_skip rfl rfl rfl rfl ?_
          refine z_skip rfl rfl rfl rfl ?_
          refine z_skip rfl rfl rfl rfl ?_
          refine z_nil rfl rfl (fun e he => by simp [isAl] at he) ?_
          refine p_skip rfl rfl rfl ?_
          refine p_skip rfl rfl rfl ?_
          refine p_pickT rfl rfl rfl rfl rfl rfl ?_
          refine p_pure htab rfl rfl rfl rfl ?_
          refine ops_nil ?_
          have e19 := yes_eq hm; subst e19
          refine ⟨rfl, ?_⟩
          exact WkX.of () (WkS.perm (WkS.cons rfl (Wk.refl _) (WkS.nil)) (List.Perm.refl _) (List.Perm.refl _))
        · replace hm := yes_f hs21 hm
          obtain ⟨x22, q22, hm⟩ := yes_bind hm
          obtain ⟨x23, q23, hm⟩ := yes_bind hm
          refine wpD_draws 17 [] [[],[],[],[],[],[],[],[],[7],[],[7,8],[7,8,10],[],[12],[],[12,13],[12,13,15]] [7,8,10,11,12,13,15,16] nlCh1_19 (by kernel_rfl) (by kernel_rfl) (by kernel_rfl) (by rfl) (by rfl) (by kernel_rfl) ?_
          apply Exists.intro
          apply Exists.intro
          apply Exists.intro
          apply Exists.intro
          apply Exists.intro
          apply Exists.intro
          apply Exists.intro
          apply Exists.intro
          intro bs
          refine z_q rfl rfl (ex_pure htab rfl) rfl rfl rfl rfl rfl rfl ?_
          refine z_q rfl rfl (ex_pure htab rfl) rfl rfl rfl rfl rfl rfl ?_
          refine z_q rfl rfl (ex_pure htab rfl) rfl rfl rfl rfl rfl rfl ?_
          refine z_known (j := 22) (b' := false) rfl hs20 ?_
          refine z_q rfl rfl (ex_pure htab rfl) rfl rfl rfl rfl rfl rfl ?_
          refine z_q rfl rfl (ex_pure htab rfl) rfl rfl rfl rfl rfl rfl ?_
          refine z_q rfl rfl (x_pickF rfl rfl rfl) rfl rfl rfl rfl rfl rfl ?_
          refine z_q rfl rfl (ex_pure htab rfl) rfl rfl rfl rfl rfl rfl ?_
          refine z_known (j := 26) (b' := false) rfl hs21 ?_
          refine z_e rfl rfl (ex_pure htab rfl) rfl rfl rfl rfl rfl rfl ?_
          refine z_eM rfl rfl (xm_load 0 htab rfl rfl rfl rfl rfl) rfl rfl rfl rfl rfl rfl ?_
          refine z_q rfl rfl (ex_pure htab rfl) rfl rfl rfl rfl rfl rfl ?_
          refine z_e rfl rfl (x_elem htab rfl rfl rfl rfl rfl rfl rfl (idx_nonneg q22) (idx_map q22)) rfl rfl rfl rfl rfl rfl ?_
          refine z_eM rfl rfl (xm_loadEl (d := eTApiFunc x22) htab rfl rfl rfl rfl rfl) rfl rfl rfl rfl rfl rfl ?_
          refine z_e rfl rfl (ex_pure htab rfl) rfl rfl rfl rfl rfl rfl ?_
          refine z_eM rfl rfl (xm_load 1 htab rfl rfl rfl rfl rfl) rfl rfl rfl rfl rfl rfl ?_
          refine z_q rfl rfl (ex_pure htab rfl) rfl rfl rfl rfl rfl rfl ?_
          refine z_e rfl rfl (x_elem htab rfl rfl rfl rfl rfl rfl rfl (idx_nonneg q23) (idx_map q23)) rfl rfl rfl rfl rfl rfl ?_
          refine z_eM rfl rfl (xm_loadEl (d := eTApiFunc x23) htab rfl rfl rfl rfl rfl) rfl rfl rfl rfl rfl rfl ?_
          refine z_nil rfl rfl (fun e he => by simp [isAl] at he) ?_
          obtain ⟨x24, q24, hm⟩ := yes_bind hm
          refine p_call0 (r11_SameFunc_ok x22 x23 false x24 q24) rfl rfl rfl rfl rfl (WkL.refl _) ?_
          rintro _ rfl
          refine p_pure htab rfl rfl rfl rfl ?_
          refine p_pickF rfl rfl rfl rfl rfl rfl ?_
          refine p_pure htab rfl rfl rfl rfl ?_
          refine ops_nil ?_
          have e19 := yes_eq hm; subst e19
          refine ⟨rfl, ?_⟩
          exact WkX.of () (WkS.perm (WkS.cons rfl (Wk.refl _) (WkS.nil)) (List.Perm.refl _) (List.Perm.refl _))
    · intro s19 hw19; clear hm; have hm := ho19; clear q19 ho19
      refine then_normal ?_
      refine wpD_wkX hw19 (fun z19 => ?_)
      refine wpD_ret ?_
      refine then_ret ?_
      have er25 := yes_eq hm; subst er25
      refine retX.of (s' := ⟨[(8, .v (.bool y19))], [], []⟩) (WkS.perm (WkS.cons rfl (Wk.refl _) (WkS.nil)) (List.Perm.refl _) (List.Perm.refl _)) (retD_mk (hh := []) (.inl rfl) (resL_cons (resOne_tmp rfl) (resL_nil)) (List.nil_sublist _) (List.Sublist.refl _) ?_)
      exact ⟨rfl, rfl, rfl⟩
  · replace hm := yes_f hc11 hm
    refine wpD_skip ?_
    refine then_normal ?_
    refine wpD_seq ?_
    obtain ⟨x26, q26, hm⟩ := yes_bind hm
    refine wpD_draws 5 [] [[],[],[0],[],[]] [0,2,3] [[],[],[0,1],[],[],[0,1,2,3,4],[0,1,2,3,4,5],[0,1,2,3,4,5,6]] (by kernel_rfl) (by kernel_rfl) (by kernel_rfl) (by rfl) (by rfl) (by kernel_rfl) ?_
    apply Exists.intro
    apply Exists.intro
    apply Exists.intro
    intro bs
    refine z_eM rfl rfl (xm_load (d := eTApiProgram a0) 0 htab rfl rfl rfl rfl rfl) rfl rfl rfl rfl rfl rfl ?_
    refine z_q rfl rfl (ex_pure htab rfl) rfl rfl rfl rfl rfl rfl ?_
    refine z_call rfl rfl (r18_Global_ok a0 a2 x26 q26) rfl rfl (WkL.refl _) rfl rfl rfl rfl rfl rfl ?_
    refine z_eM rfl rfl (xm_load (d := eTApiProgram a1) 1 htab rfl rfl rfl rfl rfl) rfl rfl rfl rfl rfl rfl ?_
    refine z_q rfl rfl (ex_pure htab rfl) rfl rfl rfl rfl rfl rfl ?_
    refine z_nil rfl rfl (fun e he => by simp [isAl] at he) ?_
    obtain ⟨x27, q27, hm⟩ := yes_bind hm
    refine p_call0 (r18_Global_ok a1 a2 x27 q27) rfl rfl rfl rfl rfl (WkL.refl _) ?_
    rintro _ rfl
    refine p_pure htab rfl rfl rfl rfl ?_
    refine p_pure htab rfl rfl rfl rfl ?_
    refine ops_nil ?_
    refine then_normal ?_
    refine wpD_seq ?_
    refine bycB (decide (x26 < (0 : Int))) (fun hs28 => ?_) (fun hs28 => ?_)
    · replace hm := yes_t hs28 hm
      refine wpD_draws 34 [] [[],[],[],[],[],[],[],[],[],[],[],[],[],[],[],[],[],[],[],[],[],[],[],[],[],[],[],[],[],[],[],[],[],[]] [] nlCh1_20 (by kernel_rfl) (by kernel_rfl) (by kernel_rfl) (by rfl) (by rfl) (by kernel_rfl) ?_
      intro bs
      refine z_q rfl rfl (ex_pure htab rfl) rfl rfl rfl rfl rfl rfl ?_
      refine z_q rfl rfl (ex_pure htab rfl) rfl rfl rfl rfl rfl rfl ?_
      refine z_q rfl rfl (ex_pure htab rfl) rfl rfl rfl rfl rfl rfl ?_
      refine z_known (j := 48) (b' := true) rfl hs28 ?_
      refine z_skip rfl rfl rfl rfl ?_
      refine z_skip rfl rfl rfl rfl ?_
      refine z_q rfl rfl (x_pickT rfl rfl rfl) rfl rfl rfl rfl rfl rfl ?_
      refine z_q rfl rfl (ex_pure htab rfl) rfl rfl rfl rfl rfl rfl ?_
      refine z_skip rfl rfl rfl rfl ?_
      refine z_skip rfl rfl rfl rfl ?_
      refine z_skip rfl rfl rfl rfl ?_
      refine z_skip rfl rfl rfl rfl ?_
      refine z_skip rfl rfl rfl rfl ?_
      refine z_skip rfl rfl rfl rfl ?_
      refine z_skip rfl rfl rfl rfl ?_
      refine z_skip rfl rfl rfl rfl ?_
      refine z_skip rfl rfl rfl rfl ?_
      refine z_skip rfl rfl rfl rfl ?_
      refine z_skip rfl rfl rfl rfl ?_
      refine z_skip rfl rfl rfl rfl ?_
      refine z_skip rfl rfl rfl rfl ?_
      refine z_q rfl rfl (x_pickT rfl rfl rfl) rfl rfl rfl rfl rfl rfl ?_
      refine z_q rfl rfl (ex_pure htab rfl) rfl rfl rfl rfl rfl rfl ?_
      refine z_skip rfl rfl rfl rfl ?_
      refine z_skip rfl rfl rfl rfl ?_
      refine z_skip rfl rfl rfl rfl ?_
      refine z_skip rfl rfl rfl rfl ?_
      refine z_skip rfl rfl rfl rfl ?_
      refine z_skip rfl rfl rfl rfl ?_
      refine z_skip rfl rfl rfl rfl ?_
      refine z_skip rfl rfl rfl rfl ?_
      refine z_skip rfl rfl rfl rfl ?_
      refine z_skip rfl rfl rfl rfl ?_
      refine z_skip rfl rfl rfl rfl ?_
      refine z_skip rfl rfl rfl rfl ?_
      refine z_nil rfl rfl (fun e he => by simp [isAl] at he) ?_
      refine p_skip rfl rfl rfl ?_
      refine p_pickT rfl rfl rfl rfl rfl rfl ?_
      refine p_pure htab rfl rfl rfl rfl ?_
      refine ops_nil ?_
      refine then_normal ?_
      refine wpD_ret ?_
      have er29 := yes_eq hm; subst er29
      refine retX.of (s' := ⟨[(8, .v (.bool true))], [], []⟩) (WkS.perm (WkS.cons rfl (Wk.refl _) (WkS.nil)) (List.Perm.refl _) (List.Perm.refl _)) (retD_mk (hh := []) (.inl rfl) (resL_cons (resOne_tmp rfl) (resL_nil)) (List.nil_sublist _) (List.Sublist.refl _) ?_)
      exact ⟨rfl, rfl, rfl⟩
    · replace hm := yes_f hs28 hm
      refine bycB (decide (x27 < (0 : Int))) (fun hs30 => ?_) (fun hs30 => ?_)
      · replace hm := yes_t hs30 hm
        refine wpD_draws 34 [] [[],[],[],[],[],[],[],[],[],[],[],[],[],[],[],[],[],[],[],[],[],[],[],[],[],[],[],[],[],[],[],[],[],[]] [] nlCh1_20 (by kernel_rfl) (by kernel_rfl) (by kernel_rfl) (by rfl) (by rfl) (by kernel_rfl) ?_
        intro bs
        refine z_q rfl rfl (ex_pure htab rfl) rfl rfl rfl rfl rfl rfl ?_
        refine z_q rfl rfl (ex_pure htab rfl) rfl rfl rfl rfl rfl rfl ?_
        refine z_q rfl rfl (ex_pure htab rfl) rfl rfl rfl rfl rfl rfl ?_
        refine z_known (j := 48) (b' := false) rfl hs28 ?_
        refine z_q rfl rfl (ex_pure htab rfl) rfl rfl rfl rfl rfl rfl ?_
        refine z_q rfl rfl (ex_pure htab rfl) rfl rfl rfl rfl rfl rfl ?_
        refine z_q rfl rfl (x_pickF rfl rfl rfl) rfl rfl rfl rfl rfl rfl ?_
        refine z_q rfl rfl (ex_pure htab rfl) rfl rfl rfl rfl rfl rfl ?_
        refine z_known (j := 52) (b' := true) rfl hs30 ?_
        refine z_skip rfl rfl rfl rfl ?_
        refine z_skip rfl rfl rfl rfl ?_
        refine z_skip rfl rfl rfl rfl ?_
        refine z_skip rfl rfl rfl rfl ?_
        refine z_skip rfl rfl rfl rfl ?_
        refine z_skip rfl rfl rfl rfl ?_
        refine z_skip rfl rfl rfl rfl ?_
        refine z_skip rfl rfl rfl rfl ?_
        refine z_skip rfl rfl rfl rfl ?_
        refine z_skip rfl rfl rfl rfl ?_
        refine z_skip rfl rfl rfl rfl ?_
        refine z_skip rfl rfl rfl rfl ?_
        refine z_skip rfl rfl rfl rfl ?_
        refine z_q rfl rfl (x_pickT rfl rfl rfl) rfl rfl rfl rfl rfl rfl ?_
        refine z_q rfl rfl (ex_pure htab rfl) rfl rfl rfl rfl rfl rfl ?_
        refine z_skip rfl rfl rfl rfl ?_
        refine z_skip rfl rfl rfl rfl ?_
        refine z_skip rfl rfl rfl rfl ?_
        refine z_skip rfl rfl rfl rfl ?_
        refine z_skip rfl rfl rfl rfl ?_
        refine z_skip rfl rfl rfl rfl ?_
        refine z_skip rfl rfl rfl rfl ?_
        refine z_skip rfl rfl rfl rfl ?_
        refine z_skip rfl rfl rfl rfl ?_
        refine z_skip rfl rfl rfl rfl ?_
        refine z_skip rfl rfl rfl rfl ?_
        refine z_skip rfl rfl rfl rfl ?_
        refine z_nil rfl rfl (fun e he => by simp [isAl] at he) ?_
        refine p_skip rfl rfl rfl ?_
        refine p_pickT rfl rfl rfl rfl rfl rfl ?_
        refine p_pure htab rfl rfl rfl rfl ?_
        refine ops_nil ?_
        refine then_normal ?_
        refine wpD_ret ?_
        have er31 := yes_eq hm; subst er31
        refine retX.of (s' := ⟨[(8, .v (.bool true))], [], []⟩) (WkS.perm (WkS.cons rfl (Wk.refl _) (WkS.nil)) (List.Perm.refl _) (List.Perm.refl _)) (retD_mk (hh := []) (.inl rfl) (resL_cons (resOne_tmp rfl) (resL_nil)) (List.nil_sublist _) (List.Sublist.refl _) ?_)
        exact ⟨rfl, rfl, rfl⟩
      · replace hm := yes_f hs30 hm
        obtain ⟨x32, q32, hm⟩ := yes_bind hm
        obtain ⟨x33, q33, hm⟩ := yes_bind hm
        refine bycB (!(x32.gPtr == x33.gPtr)) (fun hs34 => ?_) (fun hs34 => ?_)
        · replace hm := yes_t hs34 hm
          refine wpD_draws 34 [] nlCh1_21 [7,8,10,11,13,14,16,17] nlCh1_20 (by kernel_rfl) (by kernel_rfl) (by kernel_rfl) (by rfl) (by rfl) (by kernel_rfl) ?_
          apply Exists.intro
          apply Exists.intro
          apply Exists.intro
          apply Exists.intro
          apply Exists.intro
          apply Exists.intro
          apply Exists.intro
          apply Exists.intro
          intro bs
          refine z_q rfl rfl (ex_pure htab rfl) rfl rfl rfl rfl rfl rfl ?_
          refine z_q rfl rfl (ex_pure htab rfl) rfl rfl rfl rfl rfl rfl ?_
          refine z_q rfl rfl (ex_pure htab rfl) rfl rfl rfl rfl rfl rfl ?_
          refine z_known (j := 48) (b' := false) rfl hs28 ?_
          refine z_q rfl rfl (ex_pure htab rfl) rfl rfl rfl rfl rfl rfl ?_
          refine z_q rfl rfl (ex_pure htab rfl) rfl rfl rfl rfl rfl rfl ?_
          refine z_q rfl rfl (x_pickF rfl rfl rfl) rfl rfl rfl rfl rfl rfl ?_
          refine z_q rfl rfl (ex_pure htab rfl) rfl rfl rfl rfl rfl rfl ?_
          refine z_known (j := 52) (b' := false) rfl hs30 ?_
          refine z_e rfl rfl (ex_pure htab rfl) rfl rfl rfl rfl rfl rfl ?_
          refine z_eM rfl rfl (xm_load 0 htab rfl rfl rfl rfl rfl) rfl rfl rfl rfl rfl rfl ?_
          refine z_q rfl rfl (ex_pure htab rfl) rfl rfl rfl rfl rfl rfl ?_
          refine z_e rfl rfl (x_elem htab rfl rfl rfl rfl rfl rfl rfl (idx_nonneg q32) (idx_map q32)) rfl rfl rfl rfl rfl rfl ?_
          refine z_e rfl rfl (ex_pure htab rfl) rfl rfl rfl rfl rfl rfl ?_
          refine z_qM rfl rfl (xm_loadEl htab rfl rfl rfl rfl rfl) rfl rfl rfl rfl rfl rfl ?_
          refine z_e rfl rfl (ex_pure htab rfl) rfl rfl rfl rfl rfl rfl ?_
          refine z_eM rfl rfl (xm_load 1 htab rfl rfl rfl rfl rfl) rfl rfl rfl rfl rfl rfl ?_
          refine z_q rfl rfl (ex_pure htab rfl) rfl rfl rfl rfl rfl rfl ?_
          refine z_e rfl rfl (x_elem htab rfl rfl rfl rfl rfl rfl rfl (idx_nonneg q33) (idx_map q33)) rfl rfl rfl rfl rfl rfl ?_
          refine z_e rfl rfl (ex_pure htab rfl) rfl rfl rfl rfl rfl rfl ?_
          refine z_qM rfl rfl (xm_loadEl htab rfl rfl rfl rfl rfl) rfl rfl rfl rfl rfl rfl ?_
          refine z_q rfl rfl (ex_pure htab rfl) rfl rfl rfl rfl rfl rfl ?_
          refine z_q rfl rfl (x_pickF rfl rfl rfl) rfl rfl rfl rfl rfl rfl ?_
          refine z_q rfl rfl (ex_pure htab rfl) rfl rfl rfl rfl rfl rfl ?_
          refine z_known (j := 67) (b' := true) rfl hs34 ?_
          refine z_skip rfl rfl rfl rfl ?_
          refine z_skip rfl rfl rfl rfl ?_
          refine z_skip rfl rfl rfl rfl ?_
          refine z_skip rfl rfl rfl rfl ?_
          refine z_skip rfl rfl rfl rfl ?_
          refine z_skip rfl rfl rfl rfl ?_
          refine z_skip rfl rfl rfl rfl ?_
          refine z_skip rfl rfl rfl rfl ?_
          refine z_skip rfl rfl rfl rfl ?_
          refine z_skip rfl rfl rfl rfl ?_
          refine z_skip rfl rfl rfl rfl ?_
          refine z_skip rfl rfl rfl rfl ?_
          refine z_nil rfl rfl (fun e he => by simp [isAl] at he) ?_
          refine p_skip rfl rfl rfl ?_
          refine p_pickT rfl rfl rfl rfl rfl rfl ?_
          refine p_pure htab rfl rfl rfl rfl ?_
          refine ops_nil ?_
          refine then_normal ?_
          refine wpD_ret ?_
          have er35 := yes_eq hm; subst er35
          refine retX.of (s' := ⟨[(8, .v (.bool true))], [], []⟩) (WkS.perm (WkS.cons rfl (Wk.refl _) (WkS.nil)) (List.Perm.refl _) (List.Perm.refl _)) (retD_mk (hh := []) (.inl rfl) (resL_cons (resOne_tmp rfl) (resL_nil)) (List.nil_sublist _) (List.Sublist.refl _) ?_)
          exact ⟨rfl, rfl, rfl⟩
        · replace hm := yes_f hs34 hm
          obtain ⟨x36, q36, hm⟩ := yes_bind hm
          obtain ⟨x37, q37, hm⟩ := yes_bind hm
          refine wpD_draws 34 [] nlCh1_22 [7,8,10,11,13,14,16,17,22,23,25,26,28,29,31,32] nlCh1_20 (by kernel_rfl) (by kernel_rfl) (by kernel_rfl) (by rfl) (by rfl) (by kernel_rfl) ?_
          apply Exists.intro
          apply Exists.intro
          apply Exists.intro
          apply Exists.intro
          apply Exists.intro
          apply Exists.intro
          apply Exists.intro
          apply Exists.intro
          apply Exists.intro
          apply Exists.intro
          apply Exists.intro
          apply Exists.intro
          apply Exists.intro
          apply Exists.intro
          apply Exists.intro
          apply Exists.intro
          intro bs
          refine z_q rfl rfl (ex_pure htab rfl) rfl rfl rfl rfl rfl rfl ?_
          refine z_q rfl rfl (ex_pure htab rfl) rfl rfl rfl rfl rfl rfl ?_
          refine z_q rfl rfl (ex_pure htab rfl) rfl rfl rfl rfl rfl rfl ?_
          refine z_known (j := 48) (b' := false) rfl hs28 ?_
          refine z_q rfl rfl (ex_pure htab rfl) rfl rfl rfl rfl rfl rfl ?_
          refine z_q rfl rfl (ex_pure htab rfl) rfl rfl rfl rfl rfl rfl ?_
          refine z_q rfl rfl (x_pickF rfl rfl rfl) rfl rfl rfl rfl rfl rfl ?_
          refine z_q rfl rfl (ex_pure htab rfl) rfl rfl rfl rfl rfl rfl ?_
          refine z_known (j := 52) (b' := false) rfl hs30 ?_
          refine z_e rfl rfl (ex_pure htab rfl) rfl rfl rfl rfl rfl rfl ?_
          refine z_eM rfl rfl (xm_load 0 htab rfl rfl rfl rfl rfl) rfl rfl rfl rfl rfl rfl ?_
          refine z_q rfl rfl (ex_pure htab rfl) rfl rfl rfl rfl rfl rfl ?_
          refine z_e rfl rfl (x_elem htab rfl rfl rfl rfl rfl rfl rfl (idx_nonneg q32) (idx_map q32)) rfl rfl rfl rfl rfl rfl ?_
          refine z_e rfl rfl (ex_pure htab rfl) rfl rfl rfl rfl rfl rfl ?_
          refine z_qM rfl rfl (xm_loadEl htab rfl rfl rfl rfl rfl) rfl rfl rfl rfl rfl rfl ?_
          refine z_e rfl rfl (ex_pure htab rfl) rfl rfl rfl rfl rfl rfl ?_
          refine z_eM rfl rfl (xm_load 1 htab rfl rfl rfl rfl rfl) rfl rfl rfl rfl rfl rfl ?_
          refine z_q rfl rfl (ex_pure htab rfl) rfl rfl rfl rfl rfl rfl ?_
          refine z_e rfl rfl (x_elem htab rfl rfl rfl rfl rfl rfl rfl (idx_nonneg q33) (idx_map q33)) rfl rfl rfl rfl rfl rfl ?_
          refine z_e rfl rfl (ex_pure htab rfl) rfl rfl rfl rfl rfl rfl ?_
          refine z_qM rfl rfl (xm_loadEl htab rfl rfl rfl rfl rfl) rfl rfl rfl rfl rfl rfl ?_
          refine z_q rfl rfl (ex_pure htab rfl) rfl rfl rfl rfl rfl rfl ?_
          refine z_q rfl rfl (x_pickF rfl rfl rfl) rfl rfl rfl rfl rfl rfl ?_
          refine z_q rfl rfl (ex_pure htab rfl) rfl rfl rfl rfl rfl rfl ?_
          refine z_known (j := 67) (b' := false) rfl hs34 ?_
          refine z_e rfl rfl (ex_pure htab rfl) rfl rfl rfl rfl rfl rfl ?_
          refine z_eM rfl rfl (xm_load 0 htab rfl rfl rfl rfl rfl) rfl rfl rfl rfl rfl rfl ?_
          refine z_q rfl rfl (ex_pure htab rfl) rfl rfl rfl rfl rfl rfl ?_
          refine z_e rfl rfl (x_elem htab rfl rfl rfl rfl rfl rfl rfl (idx_nonneg q36) (idx_map q36)) rfl rfl rfl rfl rfl rfl ?_
          refine z_e rfl rfl (ex_pure htab rfl) rfl rfl rfl rfl rfl rfl ?_
          refine z_qM rfl rfl (xm_loadEl htab rfl rfl rfl rfl rfl) rfl rfl rfl rfl rfl rfl ?_
          refine z_e rfl rfl (ex_pure htab rfl) rfl rfl rfl rfl rfl rfl ?_
          refine z_eM rfl rfl (xm_load 1 htab rfl rfl rfl rfl rfl) rfl rfl rfl rfl rfl rfl ?_
          refine z_q rfl rfl (ex_pure htab rfl) rfl rfl rfl rfl rfl rfl ?_
          refine z_e rfl rfl (x_elem htab rfl rfl rfl rfl rfl rfl rfl (idx_nonneg q37) (idx_map q37)) rfl rfl rfl rfl rfl rfl ?_
          refine z_e rfl rfl (ex_pure htab rfl) rfl rfl rfl rfl rfl rfl ?_
          refine z_qM rfl rfl (xm_loadEl htab rfl rfl rfl rfl rfl) rfl rfl rfl rfl rfl rfl ?_
          refine z_nil rfl rfl (fun e he => by simp [isAl] at he) ?_
          refine p_pure htab rfl rfl rfl rfl ?_
          refine p_pickF rfl rfl rfl rfl rfl rfl ?_
          refine p_pure htab rfl rfl rfl rfl ?_
          refine ops_nil ?_
          refine then_normal ?_
          refine wpD_ret ?_
          have er38 := yes_eq hm; subst er38
          refine retX.of (s' := ⟨[(8, .v (.bool (x36.gSize != x37.gSize)))], [], []⟩) (WkS.perm (WkS.cons rfl (Wk.refl _) (WkS.nil)) (List.Perm.refl _) (List.Perm.refl _)) (retD_mk (hh := []) (.inl rfl) (resL_cons (resOne_tmp rfl) (resL_nil)) (List.nil_sublist _) (List.Sublist.refl _) ?_)
          exact ⟨rfl, rfl, rfl⟩
noncomputable def r07_Put (a0 : List ByteArray) (a1 : ByteArray) : Option (List ByteArray) :=
  (Option.bind (α := List ByteArray × Bool) (loopM (fun (s64 : List ByteArray × Bool × Int) => (bif (decide (s64.2.2 < (a0.length : Int))) then (bif (!s64.2.1) then ((idx a0 s64.2.2).bind fun x107 => (Option.bind (α := List ByteArray × Bool) (bif (ltB a1 x107 || a1.toList == x107.toList) then ((idx a0 s64.2.2).bind fun x114 => (Option.bind (α := List ByteArray) (bif (ltB a1 x114) then ((app 16 s64.1 ([a1] : List ByteArray)).bind fun x119 => some x119) else some s64.1) fun y117 => some (y117, true))) else some (s64.1, s64.2.1)) fun y112 => ((idx a0 s64.2.2).bind fun x120 => ((app 16 y112.1 ([x120] : List ByteArray)).bind fun x121 => some (.next (x121, y112.2, (IntKind.i64.wrap (s64.2.2 + (1 : Int))))))))) else ((idx a0 s64.2.2).bind fun x122 => ((app 16 s64.1 ([x122] : List ByteArray)).bind fun x123 => some (.next (x123, s64.2.1, (IntKind.i64.wrap (s64.2.2 + (1 : Int)))))))) else some (.done (s64.1, s64.2.1)))) (([] : List ByteArray), false, (0 : Int))) fun y63 => (bif (!y63.2) then ((app 16 y63.1 ([a1] : List ByteArray)).bind fun x125 => some x125) else some y63.1))
set_option maxRecDepth 100000 in
set_option maxHeartbeats 2000000 in
theorem r07_Put_ok (a0 : List ByteArray) (a1 : ByteArray) (r : List ByteArray) (h0 : r07_Put a0 a1 = some r) : CallsD Try.prog 21 [.lst 1 (a0.map eStr) .no, .v (.string a1)] [] [] (fun d h k => ∃ y0, d = .lst 1 (r.map eStr) (.cur y0) ∧ h = [] ∧ k = [(1, y0)]) := by
  have hm := yes_of h0
  unfold r07_Put at hm
  clear h0
  refine enterX htab Try.func21 rfl rfl rfl rfl rfl (fun C => ?_)
  refine wpD_seq ?_
  refine wpD_region ?_
  refine p_pure htab rfl rfl rfl rfl ?_
  refine ops_nil ?_
  refine then_normal ?_
  refine wpD_seq ?_
  refine wpD_region ?_
  refine p_pure htab rfl rfl rfl rfl ?_
  refine ops_nil ?_
  refine then_normal ?_
  refine wpD_seq ?_
  refine wpD_region ?_
  refine p_pure htab rfl rfl rfl rfl ?_
  refine ops_nil ?_
  refine then_normal ?_
  refine wpD_seq ?_
  refine wpD_seq ?_
  refine wpD_region ?_
  refine p_pure htab rfl rfl rfl rfl ?_
  refine ops_nil ?_
  refine then_normal ?_
  obtain ⟨y63, q63, ho63⟩ := yes_bind hm
  refine wpD_mid (Y := Value) (fun z63 => (⟨[(1, .v (.string a1)), (5, .lst 1 (y63.1.map eStr) (.cur z63)), (6, .v (.bool y63.2))], [], [(1, z63)]⟩ : S)) ?_ ?_
  · clear hm; have hm := yes_of q63
    refine wpD_block ?_
    obtain ⟨u64, hl64, hq64⟩ := yes_m hm
    refine loop_M (Y := Value) hl64 (fun s64 z64 => (⟨[(0, .lst 1 (a0.map eStr) .no), (1, .v (.string a1)), (5, .lst 1 (s64.1.map eStr) (.cur z64)), (6, .v (.bool s64.2.1)), (7, .v (.int .i64 s64.2.2))], [], [(1, z64)]⟩ : S)) ?_ ?_
    · skip
      refine WkX.tokN (i := 5) 1 rfl (fun w104 => ?_)
      exact WkX.of w104 (WkS.perm (WkS.cons rfl (Wk.refl _) (WkS.cons rfl (Wk.refl _) (WkS.cons rfl (Wk.refl _) (WkS.cons rfl (Wk.refl _) (WkS.cons rfl (Wk.refl _) (WkS.nil)))))) (List.Perm.refl _) (List.Perm.refl _))
    · intro G64 s64 z64 hm
      refine wpD_seq ?_
      refine wpD_seq ?_
      refine wpD_region ?_
      refine p_pure htab rfl rfl rfl rfl ?_
      refine p_pure htab rfl rfl rfl rfl ?_
      refine p_lenL htab rfl rfl rfl rfl rfl rfl rfl (by first | exact map_len | rfl) ?_
      refine p_pure htab rfl rfl rfl rfl ?_
      refine ops_nil ?_
      refine then_normal ?_
      refine wpD_cond rfl (fun hc105 => ?_) (fun hc105 => ?_)
      · replace hm := yes_t hc105 hm
        refine wpD_skip ?_
        refine then_normal ?_
        refine wpD_seq ?_
        refine wpD_block ?_
        refine wpD_seq ?_
        refine wpD_seq ?_
        refine wpD_region ?_
        refine p_pure htab rfl rfl rfl rfl ?_
        refine p_pure htab rfl rfl rfl rfl ?_
        refine p_pure htab rfl rfl rfl rfl ?_
        refine p_split (i := 16) rfl (fun hg106 => ?_) (fun hg106 => ?_)
        · replace hm := yes_t hg106 hm
          refine p_pure htab rfl rfl rfl rfl ?_
          refine p_pure htab rfl rfl rfl rfl ?_
          refine p_pure htab rfl rfl rfl rfl ?_
          obtain ⟨x107, q107, hm⟩ := yes_bind hm
          refine p_elem htab rfl rfl rfl rfl rfl rfl rfl rfl rfl rfl (idx_nonneg q107) (idx_map q107) ?_
          refine p_loadEl htab rfl rfl rfl rfl rfl rfl rfl rfl ?_
          refine p_ltS rfl rfl rfl rfl rfl rfl rfl ?_
          refine p_pickT rfl rfl rfl rfl rfl rfl ?_
          refine ops_nil ?_
          refine then_normal ?_
          obtain ⟨y112, q112, ho112⟩ := yes_bind hm
          refine wpD_mid (Y := Value) (fun z112 => (⟨[(0, .lst 1 (a0.map eStr) .no), (1, .v (.string a1)), (5, .lst 1 (y112.1.map eStr) (.cur z112)), (6, .v (.bool y112.2)), (7, .v (.int .i64 s64.2.2))], [], [(1, z112)]⟩ : S)) ?_ ?_
          · clear hm; have hm := yes_of q112
            refine wpD_cond rfl (fun hc113 => ?_) (fun hc113 => ?_)
            · replace hm := yes_t hc113 hm
              refine wpD_seq ?_
              refine wpD_seq ?_
              refine wpD_region ?_
              refine p_pure htab rfl rfl rfl rfl ?_
              refine p_pure htab rfl rfl rfl rfl ?_
              refine p_pure htab rfl rfl rfl rfl ?_
              obtain ⟨x114, q114, hm⟩ := yes_bind hm
              refine p_elem htab rfl rfl rfl rfl rfl rfl rfl rfl rfl rfl (idx_nonneg q114) (idx_map q114) ?_
              refine p_loadEl htab rfl rfl rfl rfl rfl rfl rfl rfl ?_
              refine p_ltS rfl rfl rfl rfl rfl rfl rfl ?_
              refine ops_nil ?_
              refine then_normal ?_
              obtain ⟨y117, q117, ho117⟩ := yes_bind hm
              refine wpD_mid (Y := Value) (fun z117 => (⟨[(0, .lst 1 (a0.map eStr) .no), (1, .v (.string a1)), (5, .lst 1 (y117.map eStr) (.cur z117)), (7, .v (.int .i64 s64.2.2))], [], [(1, z117)]⟩ : S)) ?_ ?_
              · clear hm; have hm := yes_of q117
                refine wpD_cond rfl (fun hc118 => ?_) (fun hc118 => ?_)
                · replace hm := yes_t hc118 hm
                  refine wpD_region ?_
                  refine p_pure htab rfl rfl rfl rfl ?_
                  refine p_pure htab rfl rfl rfl rfl ?_
                  refine p_lit htab rfl rfl rfl rfl rfl rfl rfl rfl rfl rfl rfl rfl rfl rfl ?_
                  refine p_eq (i := 32) (d' := .lst 1 (([a1] : List ByteArray).map eStr) .full) rfl (Wk.lst0 (.cons (WkC.refl _) (.nil))) ?_
                  obtain ⟨x119, q119, hm⟩ := yes_bind hm
                  refine p_appC 0 htab rfl rfl rfl rfl rfl rfl rfl rfl rfl rfl rfl rfl rfl rfl rfl rfl rfl (app_bound q119) (fun v119 => ?_)
                  refine p_mapD (i := 33) q119 rfl ?_
                  refine p_pure htab rfl rfl rfl rfl ?_
                  refine ops_nil ?_
                  have e117 := yes_eq hm; subst e117
                  refine ⟨rfl, ?_⟩
                  exact WkX.of v119 (WkS.perm (WkS.cons rfl (Wk.refl _) (WkS.cons rfl (Wk.refl _) (WkS.cons rfl (Wk.refl _) (WkS.cons rfl (Wk.refl _) (WkS.nil))))) (List.Perm.refl _) (List.Perm.refl _))
                · replace hm := yes_f hc118 hm
                  refine wpD_skip ?_
                  have e117 := yes_eq hm; subst e117
                  refine ⟨rfl, ?_⟩
                  exact WkX.of z64 (WkS.perm (WkS.cons rfl (Wk.refl _) (WkS.cons rfl (Wk.refl _) (WkS.cons rfl (Wk.refl _) (WkS.cons rfl (Wk.refl _) (WkS.nil))))) (List.Perm.refl _) (List.Perm.refl _))
              · intro s117 hw117; clear hm; have hm := ho117; clear q117 ho117
                refine then_normal ?_
                refine wpD_wkX hw117 (fun z117 => ?_)
                refine wpD_region ?_
                refine p_pure htab rfl rfl rfl rfl ?_
                refine ops_nil ?_
                have e112 := yes_eq hm; subst e112
                refine ⟨rfl, ?_⟩
                exact WkX.of z117 (WkS.perm (WkS.cons rfl (Wk.refl _) (WkS.cons rfl (Wk.refl _) (WkS.cons rfl (Wk.refl _) (WkS.cons rfl (Wk.refl _) (WkS.cons rfl (Wk.refl _) (WkS.nil)))))) (List.Perm.refl _) (List.Perm.refl _))
            · replace hm := yes_f hc113 hm
              refine wpD_skip ?_
              have e112 := yes_eq hm; subst e112
              refine ⟨rfl, ?_⟩
              exact WkX.of z64 (WkS.perm (WkS.cons rfl (Wk.refl _) (WkS.cons rfl (Wk.refl _) (WkS.cons rfl (Wk.refl _) (WkS.cons rfl (Wk.refl _) (WkS.cons rfl (Wk.refl _) (WkS.nil)))))) (List.Perm.refl _) (List.Perm.refl _))
          · intro s112 hw112; clear hm; have hm := ho112; clear q112 ho112
            refine then_normal ?_
            refine wpD_wkX hw112 (fun z112 => ?_)
            refine wpD_region ?_
            refine p_pure htab rfl rfl rfl rfl ?_
            refine p_pure htab rfl rfl rfl rfl ?_
            refine p_pure htab rfl rfl rfl rfl ?_
            obtain ⟨x120, q120, hm⟩ := yes_bind hm
            refine p_elem htab rfl rfl rfl rfl rfl rfl rfl rfl rfl rfl (idx_nonneg q120) (idx_map q120) ?_
            refine p_loadEl htab rfl rfl rfl rfl rfl rfl rfl rfl ?_
            refine p_lit htab rfl rfl rfl rfl rfl rfl rfl rfl rfl rfl rfl rfl rfl rfl ?_
            refine p_eq (i := 39) (d' := .lst 1 (([x120] : List ByteArray).map eStr) .full) rfl (Wk.lst0 (.cons (WkC.refl _) (.nil))) ?_
            obtain ⟨x121, q121, hm⟩ := yes_bind hm
            refine p_appC 0 htab rfl rfl rfl rfl rfl rfl rfl rfl rfl rfl rfl rfl rfl rfl rfl rfl rfl (app_bound q121) (fun v121 => ?_)
            refine p_mapD (i := 40) q121 rfl ?_
            refine p_pure htab rfl rfl rfl rfl ?_
            refine ops_nil ?_
            refine block_normal ?_
            refine then_normal ?_
            refine wpD_region ?_
            refine p_pure htab rfl rfl rfl rfl ?_
            refine p_pure htab rfl rfl rfl rfl ?_
            refine p_pure htab rfl rfl rfl rfl ?_
            refine ops_nil ?_
            refine then_normal ⟨_, lp_next hm, ?_⟩
            exact WkX.of v121 (WkS.perm (WkS.cons rfl (Wk.refl _) (WkS.cons rfl (Wk.refl _) (WkS.cons rfl (Wk.refl _) (WkS.cons rfl (Wk.refl _) (WkS.cons rfl (Wk.refl _) (WkS.nil)))))) (List.Perm.refl _) (List.Perm.refl _))
        · replace hm := yes_f hg106 hm
          refine p_skip rfl rfl rfl ?_
          refine p_skip rfl rfl rfl ?_
          refine p_skip rfl rfl rfl ?_
          refine p_skip rfl rfl rfl ?_
          refine p_skip rfl rfl rfl ?_
          refine p_skip rfl rfl rfl ?_
          refine p_pickF rfl rfl rfl rfl rfl rfl ?_
          refine ops_nil ?_
          refine then_normal ?_
          refine wpD_false rfl ?_
          refine wpD_skip ?_
          refine then_normal ?_
          refine wpD_region ?_
          refine p_pure htab rfl rfl rfl rfl ?_
          refine p_pure htab rfl rfl rfl rfl ?_
          refine p_pure htab rfl rfl rfl rfl ?_
          obtain ⟨x122, q122, hm⟩ := yes_bind hm
          refine p_elem htab rfl rfl rfl rfl rfl rfl rfl rfl rfl rfl (idx_nonneg q122) (idx_map q122) ?_
          refine p_loadEl htab rfl rfl rfl rfl rfl rfl rfl rfl ?_
          refine p_lit htab rfl rfl rfl rfl rfl rfl rfl rfl rfl rfl rfl rfl rfl rfl ?_
          refine p_eq (i := 39) (d' := .lst 1 (([x122] : List ByteArray).map eStr) .full) rfl (Wk.lst0 (.cons (WkC.refl _) (.nil))) ?_
          obtain ⟨x123, q123, hm⟩ := yes_bind hm
          refine p_appC 0 htab rfl rfl rfl rfl rfl rfl rfl rfl rfl rfl rfl rfl rfl rfl rfl rfl rfl (app_bound q123) (fun v123 => ?_)
          refine p_mapD (i := 40) q123 rfl ?_
          refine p_pure htab rfl rfl rfl rfl ?_
          refine ops_nil ?_
          refine block_normal ?_
          refine then_normal ?_
          refine wpD_region ?_
          refine p_pure htab rfl rfl rfl rfl ?_
          refine p_pure htab rfl rfl rfl rfl ?_
          refine p_pure htab rfl rfl rfl rfl ?_
          refine ops_nil ?_
          refine then_normal ⟨_, lp_next hm, ?_⟩
          exact WkX.of v123 (WkS.perm (WkS.cons rfl (Wk.refl _) (WkS.cons rfl (Wk.refl _) (WkS.cons rfl (Wk.refl _) (WkS.cons rfl (Wk.refl _) (WkS.cons rfl (Wk.refl _) (WkS.nil)))))) (List.Perm.refl _) (List.Perm.refl _))
      · replace hm := yes_f hc105 hm
        refine wpD_exit ?_
        refine then_exit ?_
        have e64 := lp_done hm; subst e64; clear hm; have hm := hq64
        refine then_exit ?_
        refine block_hit ?_
        have e63 := yes_eq hm; subst e63
        refine ⟨rfl, ?_⟩
        exact WkX.of z64 (WkS.perm (WkS.cons rfl (Wk.refl _) (WkS.cons rfl (Wk.refl _) (WkS.cons rfl (Wk.refl _) (WkS.nil)))) (List.Perm.refl _) (List.Perm.refl _))
  · intro s63 hw63; clear hm; have hm := ho63; clear q63 ho63
    refine then_normal ?_
    refine wpD_wkX hw63 (fun z63 => ?_)
    refine wpD_seq ?_
    refine wpD_seq ?_
    refine wpD_region ?_
    refine p_pure htab rfl rfl rfl rfl ?_
    refine p_pure htab rfl rfl rfl rfl ?_
    refine ops_nil ?_
    refine then_normal ?_
    refine wpD_cond rfl (fun hc124 => ?_) (fun hc124 => ?_)
    · replace hm := yes_t hc124 hm
      refine wpD_region ?_
      refine p_pure htab rfl rfl rfl rfl ?_
      refine p_pure htab rfl rfl rfl rfl ?_
      refine p_lit htab rfl rfl rfl rfl rfl rfl rfl rfl rfl rfl rfl rfl rfl rfl ?_
      refine p_eq (i := 45) (d' := .lst 1 (([a1] : List ByteArray).map eStr) .full) rfl (Wk.lst0 (.cons (WkC.refl _) (.nil))) ?_
      obtain ⟨x125, q125, hm⟩ := yes_bind hm
      refine p_appC 0 htab rfl rfl rfl rfl rfl rfl rfl rfl rfl rfl rfl rfl rfl rfl rfl rfl rfl (app_bound q125) (fun v125 => ?_)
      refine p_mapD (i := 46) q125 rfl ?_
      refine p_pure htab rfl rfl rfl rfl ?_
      refine ops_nil ?_
      refine then_normal ?_
      refine wpD_seq ?_
      refine wpD_region ?_
      refine p_pure htab rfl rfl rfl rfl ?_
      refine p_pure htab rfl rfl rfl rfl ?_
      refine ops_nil ?_
      refine then_normal ?_
      refine wpD_ret ?_
      have er126 := yes_eq hm; subst er126
      refine retX.of (s' := ⟨[(4, .lst 1 (x125.map eStr) (.cur v125))], [], [(1, v125)]⟩) (WkS.perm (WkS.cons rfl (Wk.refl _) (WkS.nil)) (List.Perm.refl _) (List.Perm.refl _)) (retD_mk (hh := []) (.inl rfl) (resL_cons (resOne_tmp rfl) (resL_nil)) (List.nil_sublist _) (List.Sublist.refl _) ?_)
      exact ⟨v125, rfl, rfl, rfl⟩
    · replace hm := yes_f hc124 hm
      refine wpD_skip ?_
      refine then_normal ?_
      refine wpD_seq ?_
      refine wpD_region ?_
      refine p_pure htab rfl rfl rfl rfl ?_
      refine p_pure htab rfl rfl rfl rfl ?_
      refine ops_nil ?_
      refine then_normal ?_
      refine wpD_ret ?_
      have er127 := yes_eq hm; subst er127
      refine retX.of (s' := ⟨[(4, .lst 1 (y63.1.map eStr) (.cur z63))], [], [(1, z63)]⟩) (WkS.perm (WkS.cons rfl (Wk.refl _) (WkS.nil)) (List.Perm.refl _) (List.Perm.refl _)) (retD_mk (hh := []) (.inl rfl) (resL_cons (resOne_tmp rfl) (resL_nil)) (List.nil_sublist _) (List.Sublist.refl _) ?_)
      exact ⟨z63, rfl, rfl, rfl⟩
theorem r07_Put_ok0 (a0 : List ByteArray) (a1 : ByteArray) (r : List ByteArray) (h0 : r07_Put a0 a1 = some r) : CallsD Try.prog 21 [.lst 1 (a0.map eStr) .no, .v (.string a1)] [] [] (fun d h k => d = .lst 1 (r.map eStr) .no ∧ h = [] ∧ k = []) :=
  (r07_Put_ok a0 a1 r h0).drop fun d h k ⟨y0, e, _, _⟩ => by subst e; exact Wk.no
noncomputable def r18_Of (a0 : TApiProgram) (a1 : TApiProgram) (a2 : Bool) : Option (List ByteArray) :=
  ((r18_all a0 a2).bind fun x4 => ((r18_all a1 a2).bind fun x10 => ((app 16 x4 x10).bind fun x11 => (Option.bind (α := List ByteArray) (loopM (fun (s39 : List ByteArray × Int) => (bif (decide (s39.2 < (x11.length : Int))) then ((idx x11 s39.2).bind fun x58 => ((r18_other a0 a1 x58 a2).bind fun x59 => (bif x59 then ((idx x11 s39.2).bind fun x61 => ((r07_Put s39.1 x61).bind fun x63 => some (.next (x63, (IntKind.i64.wrap (s39.2 + (1 : Int))))))) else some (.next (s39.1, (IntKind.i64.wrap (s39.2 + (1 : Int)))))))) else some (.done s39.1))) (([] : List ByteArray), (0 : Int))) fun y38 => some y38))))
set_option maxRecDepth 100000 in
set_option maxHeartbeats 2000000 in
theorem r18_Of_ok (a0 : TApiProgram) (a1 : TApiProgram) (a2 : Bool) (r : List ByteArray) (h0 : r18_Of a0 a1 a2 = some r) : CallsD Try.prog 10 [eTApiProgram a0, eTApiProgram a1, .v (.bool a2)] [] [] (fun d h k => ∃ y0, d = .lst 1 (r.map eStr) (.cur y0) ∧ h = [] ∧ k = [(1, y0)]) := by
  have hm := yes_of h0
  unfold r18_Of at hm
  clear h0
  refine enterX htab Try.func10 rfl rfl rfl rfl rfl (fun C => ?_)
  refine wpD_seq ?_
  refine wpD_region ?_
  refine p_box rfl rfl rfl rfl rfl rfl rfl (fun b1 => ?_)
  refine p_box rfl rfl rfl rfl rfl rfl rfl (fun b2 => ?_)
  refine p_pure htab rfl rfl rfl rfl ?_
  refine ops_nil ?_
  refine then_normal ?_
  refine wpD_seq ?_
  refine wpD_region ?_
  refine p_pure htab rfl rfl rfl rfl ?_
  refine ops_nil ?_
  refine then_normal ?_
  refine wpD_seq ?_
  obtain ⟨x4, q4, hm⟩ := yes_bind hm
  refine wpD_drawsT 5 [] [(2, 1)] [[],[],[0],[],[]] [0,2,3] [[],[],[0,1],[],[],[0,1,2,3,4],[0,1,2,3,4,5],[0,1,2,3,4,5,6]] (by kernel_rfl) (by kernel_rfl) (by kernel_rfl) (by rfl) (by rfl) (by kernel_rfl) ?_
  apply Exists.intro
  apply Exists.intro
  apply Exists.intro
  intro bs
  refine zt_eM rfl rfl (xm_load (d := eTApiProgram a0) 0 htab rfl rfl rfl rfl rfl) rfl rfl rfl rfl rfl rfl rfl ?_
  refine zt_q rfl rfl (ex_pure htab rfl) rfl rfl rfl rfl rfl rfl ?_
  refine zt_callT rfl rfl (r18_all_ok a0 a2 x4 q4) rfl rfl (WkL.refl _) rfl rfl rfl rfl rfl (by simp) (by decide) rfl ?_
  refine zt_eM rfl rfl (xm_load (d := eTApiProgram a1) 1 htab rfl rfl rfl rfl rfl) rfl rfl rfl rfl rfl rfl rfl ?_
  refine zt_q rfl rfl (ex_pure htab rfl) rfl rfl rfl rfl rfl rfl ?_
  refine zt_nil (k' := [(1, (bs 2))]) rfl (fun e he => by simp [isT] at he; subst he; rfl) rfl rfl (fun e he => by simp [isAl] at he) ?_
  obtain ⟨w8, hw8⟩ : ∃ y, bs 2 = y := ⟨_, rfl⟩
  simp only [hw8]
  clear hw8
  obtain ⟨x10, q10, hm⟩ := yes_bind hm
  refine p_callG (r18_all_ok a1 a2 x10 q10) rfl rfl rfl rfl rfl (WkL.refl _) (List.Perm.refl _) (List.Perm.refl _) ?_
  rintro _ _ _ ⟨w9, rfl, rfl, rfl⟩
  obtain ⟨x11, q11, hm⟩ := yes_bind hm
  refine p_appC 1 htab rfl rfl rfl rfl rfl rfl rfl rfl rfl rfl rfl rfl rfl rfl rfl rfl rfl (app_bound q11) (fun v11 => ?_)
  refine p_mapD (i := 16) q11 rfl ?_
  refine p_pure htab rfl rfl rfl rfl ?_
  refine ops_nil ?_
  refine then_normal ?_
  refine wpD_seq ?_
  refine wpD_seq ?_
  refine wpD_region ?_
  refine p_pure htab rfl rfl rfl rfl ?_
  refine ops_nil ?_
  refine then_normal ?_
  obtain ⟨y38, q38, ho38⟩ := yes_bind hm
  refine wpD_mid (Y := Value) (fun z38 => (⟨[(7, .lst 1 (y38.map eStr) (.cur z38))], [(b1, Blk.cells [.lst 4 (a0.gGlobals.map eTApiGlobal) .no, .lst 5 (a0.gFuncs.map eTApiFunc) .no] 25), (b2, Blk.cells [.lst 4 (a1.gGlobals.map eTApiGlobal) .no, .lst 5 (a1.gFuncs.map eTApiFunc) .no] 25)], [(1, z38)]⟩ : S)) ?_ ?_
  · clear hm; have hm := yes_of q38
    refine wpD_block ?_
    obtain ⟨u39, hl39, hq39⟩ := yes_m hm
    refine loop_M (Y := Value) hl39 (fun s39 z39 => (⟨[(2, .v (.bool a2)), (3, .ptr b1 0), (4, .ptr b2 0), (7, .lst 1 (s39.1.map eStr) (.cur z39)), (8, .lst 1 (x11.map eStr) (.cur v11)), (9, .v (.int .i64 s39.2))], [(b1, Blk.cells [.lst 4 (a0.gGlobals.map eTApiGlobal) .no, .lst 5 (a0.gFuncs.map eTApiFunc) .no] 25), (b2, Blk.cells [.lst 4 (a1.gGlobals.map eTApiGlobal) .no, .lst 5 (a1.gFuncs.map eTApiFunc) .no] 25)], [(1, z39), (1, v11)]⟩ : S)) ?_ ?_
    · skip
      refine WkX.tokN (i := 7) 1 rfl (fun w56 => ?_)
      exact WkX.of w56 (WkS.perm (WkS.cons rfl (Wk.refl _) (WkS.cons rfl (Wk.refl _) (WkS.cons rfl (Wk.refl _) (WkS.cons rfl (Wk.refl _) (WkS.cons rfl (Wk.refl _) (WkS.cons rfl (Wk.refl _) (WkS.nil))))))) (List.Perm.refl _) (List.Perm.refl _))
    · intro G39 s39 z39 hm
      refine wpD_seq ?_
      refine wpD_seq ?_
      refine wpD_region ?_
      refine p_pure htab rfl rfl rfl rfl ?_
      refine p_pure htab rfl rfl rfl rfl ?_
      refine p_lenL htab rfl rfl rfl rfl rfl rfl rfl (by first | exact map_len | rfl) ?_
      refine p_pure htab rfl rfl rfl rfl ?_
      refine ops_nil ?_
      refine then_normal ?_
      refine wpD_cond rfl (fun hc57 => ?_) (fun hc57 => ?_)
      · replace hm := yes_t hc57 hm
        refine wpD_skip ?_
        refine then_normal ?_
        refine wpD_seq ?_
        refine wpD_block ?_
        refine wpD_seq ?_
        obtain ⟨x58, q58, hm⟩ := yes_bind hm
        refine wpD_draws 7 [] [[],[],[],[],[2],[2,4],[]] [0,1,2,4] [[],[],[],[],[2,3],[2,3,4],[],[0,1,2,3,4,5,6]] (by kernel_rfl) (by kernel_rfl) (by kernel_rfl) (by rfl) (by rfl) (by kernel_rfl) ?_
        apply Exists.intro
        apply Exists.intro
        apply Exists.intro
        apply Exists.intro
        intro bs
        refine z_eM rfl rfl (xm_load (d := eTApiProgram a0) 0 htab rfl rfl rfl rfl rfl) rfl rfl rfl rfl rfl rfl ?_
        refine z_eM rfl rfl (xm_load (d := eTApiProgram a1) 1 htab rfl rfl rfl rfl rfl) rfl rfl rfl rfl rfl rfl ?_
        refine z_e rfl rfl (ex_pure htab rfl) rfl rfl rfl rfl rfl rfl ?_
        refine z_q rfl rfl (ex_pure htab rfl) rfl rfl rfl rfl rfl rfl ?_
        refine z_e rfl rfl (x_elem htab rfl rfl rfl rfl rfl rfl rfl (idx_nonneg q58) (idx_map q58)) rfl rfl rfl rfl rfl rfl ?_
        refine z_qM rfl rfl (xm_loadEl htab rfl rfl rfl rfl rfl) rfl rfl rfl rfl rfl rfl ?_
        refine z_q rfl rfl (ex_pure htab rfl) rfl rfl rfl rfl rfl rfl ?_
        refine z_nil rfl rfl (fun e he => by simp [isAl] at he) ?_
        obtain ⟨x59, q59, hm⟩ := yes_bind hm
        refine p_call0 (r18_other_ok a0 a1 x58 a2 x59 q59) rfl rfl rfl rfl rfl (WkL.refl _) ?_
        rintro _ rfl
        refine ops_nil ?_
        refine then_normal ?_
        refine wpD_cond rfl (fun hc60 => ?_) (fun hc60 => ?_)
        · replace hm := yes_t hc60 hm
          refine wpD_region ?_
          refine p_pure htab rfl rfl rfl rfl ?_
          refine p_pure htab rfl rfl rfl rfl ?_
          refine p_pure htab rfl rfl rfl rfl ?_
          obtain ⟨x61, q61, hm⟩ := yes_bind hm
          refine p_elem htab rfl rfl rfl rfl rfl rfl rfl rfl rfl rfl (idx_nonneg q61) (idx_map q61) ?_
          refine p_loadEl htab rfl rfl rfl rfl rfl rfl rfl rfl ?_
          obtain ⟨x63, q63, hm⟩ := yes_bind hm
          refine p_callG (r07_Put_ok s39.1 x61 x63 q63) rfl rfl rfl rfl rfl (WkL.cons (Wk.no) (WkL.cons (Wk.refl _) (WkL.refl _))) (List.Perm.refl _) (List.Perm.refl _) ?_
          rintro _ _ _ ⟨w62, rfl, rfl, rfl⟩
          refine p_pure htab rfl rfl rfl rfl ?_
          refine ops_nil ?_
          refine block_normal ?_
          refine then_normal ?_
          refine wpD_region ?_
          refine p_pure htab rfl rfl rfl rfl ?_
          refine p_pure htab rfl rfl rfl rfl ?_
          refine p_pure htab rfl rfl rfl rfl ?_
          refine ops_nil ?_
          refine then_normal ⟨_, lp_next hm, ?_⟩
          exact WkX.of w62 (WkS.perm (WkS.cons rfl (Wk.refl _) (WkS.cons rfl (Wk.refl _) (WkS.cons rfl (Wk.refl _) (WkS.cons rfl (Wk.refl _) (WkS.cons rfl (Wk.refl _) (WkS.cons rfl (Wk.refl _) (WkS.nil))))))) (List.Perm.refl _) ((perm_at (j := 0) rfl).trans (List.Perm.cons _ ((perm_at (j := 1) rfl).trans (List.Perm.cons _ (List.Perm.refl _))))))
        · replace hm := yes_f hc60 hm
          refine wpD_skip ?_
          refine block_normal ?_
          refine then_normal ?_
          refine wpD_region ?_
          refine p_pure htab rfl rfl rfl rfl ?_
          refine p_pure htab rfl rfl rfl rfl ?_
          refine p_pure htab rfl rfl rfl rfl ?_
          refine ops_nil ?_
          refine then_normal ⟨_, lp_next hm, ?_⟩
          exact WkX.of z39 (WkS.perm (WkS.cons rfl (Wk.refl _) (WkS.cons rfl (Wk.refl _) (WkS.cons rfl (Wk.refl _) (WkS.cons rfl (Wk.refl _) (WkS.cons rfl (Wk.refl _) (WkS.cons rfl (Wk.refl _) (WkS.nil))))))) (List.Perm.refl _) (List.Perm.refl _))
      · replace hm := yes_f hc57 hm
        refine wpD_exit ?_
        refine then_exit ?_
        have e39 := lp_done hm; subst e39; clear hm; have hm := hq39
        refine then_exit ?_
        refine block_hit ?_
        have e38 := yes_eq hm; subst e38
        refine ⟨rfl, ?_⟩
        exact WkX.of z39 (WkS.perm (WkS.cons rfl (Wk.refl _) (WkS.nil)) (List.Perm.refl _) (List.Perm.refl _))
  · intro s38 hw38; clear hm; have hm := ho38; clear q38 ho38
    refine then_normal ?_
    refine wpD_wkX hw38 (fun z38 => ?_)
    refine wpD_seq ?_
    refine wpD_region ?_
    refine p_pure htab rfl rfl rfl rfl ?_
    refine p_pure htab rfl rfl rfl rfl ?_
    refine ops_nil ?_
    refine then_normal ?_
    refine wpD_ret ?_
    have er64 := yes_eq hm; subst er64
    refine retX.of (s' := ⟨[(6, .lst 1 (y38.map eStr) (.cur z38))], [], [(1, z38)]⟩) (WkS.perm (WkS.cons rfl (Wk.refl _) (WkS.nil)) (List.Perm.refl _) (List.Perm.refl _)) (retD_mk (hh := []) (.inl rfl) (resL_cons (resOne_tmp rfl) (resL_nil)) (List.nil_sublist _) (List.Sublist.refl _) ?_)
    exact ⟨z38, rfl, rfl, rfl⟩
theorem r18_Of_ok0 (a0 : TApiProgram) (a1 : TApiProgram) (a2 : Bool) (r : List ByteArray) (h0 : r18_Of a0 a1 a2 = some r) : CallsD Try.prog 10 [eTApiProgram a0, eTApiProgram a1, .v (.bool a2)] [] [] (fun d h k => d = .lst 1 (r.map eStr) .no ∧ h = [] ∧ k = []) :=
  (r18_Of_ok a0 a1 a2 r h0).drop fun d h k ⟨y0, e, _, _⟩ => by subst e; exact Wk.no
abbrev nlCh1_23 : List (List Nat) := [[],[0],[],[],[2,3],[0,1,2,3,4],[0,1,2,3,4,5],[0,1,2,3,4,5,6],[0,1,2,3,4,5,6,7],[0,1,2,3,4,5,6],[0,1,2,3,4,5,6],[0,1,2,3,4,5,6,9,10],[0,1,2,3,4,5,6,7,8,9,10,11],[0,1,2,3,4,5,6,7,8,9,10,11,12],[0,1,2,3,4,5,6,7,8,9,10,11,12,13],[0,1,2,3,4,5,6,7,8,9,10,11,12,13,14],[0,1,2,3,4,5,6,7,8,9,10,11,12,13,14,15],[0,1,2,3,4,5,6,7,8,9,10,11,12,13,14,15,16]]
noncomputable def l18_ChangeOf (a0 : TApiProgram) (a1 : TApiProgram) : Option (Bool) :=
  (Option.bind (α := Bool) ((l18_few a0).bind fun x7 => (bif (!x7) then some true else ((l18_few a1).bind fun x9 => some (!x9)))) fun y6 => (bif y6 then (l18_lives.bind fun x13 => some x13) else ((change_Of a0 a1).bind fun x17 => ((r18_Of a0 a1 true).bind fun x20 => ((r11_Texts x17.gFuncs x20).bind fun x21 => (bif x21 then ((r18_Of a0 a1 false).bind fun x25 => ((r11_Texts x17.gGlobals x25).bind fun x34 => (bif x34 then (l18_lives.bind fun x36 => some x36) else some false))) else some false))))))
set_option maxRecDepth 100000 in
set_option maxHeartbeats 2000000 in
theorem l18_ChangeOf_ok (a0 : TApiProgram) (a1 : TApiProgram) (r : Bool) (h0 : l18_ChangeOf a0 a1 = some r) : CallsD Try.prog 3 [eTApiProgram a0, eTApiProgram a1] [] [] (fun d h k => d = .v (.bool r) ∧ h = [] ∧ k = []) := by
  have hm := yes_of h0
  unfold l18_ChangeOf at hm
  clear h0
  refine enterX htab Try.func3 rfl rfl rfl rfl rfl (fun C => ?_)
  refine wpD_seq ?_
  refine wpD_region ?_
  refine p_box rfl rfl rfl rfl rfl rfl rfl (fun b1 => ?_)
  refine p_box rfl rfl rfl rfl rfl rfl rfl (fun b2 => ?_)
  refine p_pure htab rfl rfl rfl rfl ?_
  refine ops_nil ?_
  refine then_normal ?_
  refine wpD_seq ?_
  refine wpD_seq ?_
  obtain ⟨y6, q6, ho6⟩ := yes_bind hm
  refine wpD_mid (Y := Unit) (fun z6 => (⟨[(2, .ptr b1 0), (3, .ptr b2 0), (13, .v (.bool y6))], [(b1, Blk.cells [.lst 4 (a0.gGlobals.map eTApiGlobal) .no, .lst 5 (a0.gFuncs.map eTApiFunc) .no] 25), (b2, Blk.cells [.lst 4 (a1.gGlobals.map eTApiGlobal) .no, .lst 5 (a1.gFuncs.map eTApiFunc) .no] 25)], []⟩ : S)) ?_ ?_
  · clear hm; have hm := yes_of q6
    refine wpD_region ?_
    refine p_load (d := eTApiProgram a0) 0 htab rfl rfl rfl rfl rfl rfl rfl rfl ?_
    obtain ⟨x7, q7, hm⟩ := yes_bind hm
    refine p_call0 (l18_few_ok a0 x7 q7) rfl rfl rfl rfl rfl (WkL.refl _) ?_
    rintro _ rfl
    refine p_pure htab rfl rfl rfl rfl ?_
    refine p_pure htab rfl rfl rfl rfl ?_
    refine p_split (i := 9) rfl (fun hg8 => ?_) (fun hg8 => ?_)
    · replace hm := yes_t hg8 hm
      refine p_skip rfl rfl rfl ?_
      refine p_skip rfl rfl rfl ?_
      refine p_skip rfl rfl rfl ?_
      refine p_pickT rfl rfl rfl rfl rfl rfl ?_
      refine ops_nil ?_
      have e6 := yes_eq hm; subst e6
      refine ⟨rfl, ?_⟩
      exact WkX.of () (WkS.perm (WkS.cons rfl (Wk.refl _) (WkS.cons rfl (Wk.refl _) (WkS.cons rfl (Wk.refl _) (WkS.nil)))) (List.Perm.refl _) (List.Perm.refl _))
    · replace hm := yes_f hg8 hm
      refine p_load (d := eTApiProgram a1) 1 htab rfl rfl rfl rfl rfl rfl rfl rfl ?_
      obtain ⟨x9, q9, hm⟩ := yes_bind hm
      refine p_call0 (l18_few_ok a1 x9 q9) rfl rfl rfl rfl rfl (WkL.refl _) ?_
      rintro _ rfl
      refine p_pure htab rfl rfl rfl rfl ?_
      refine p_pickF rfl rfl rfl rfl rfl rfl ?_
      refine ops_nil ?_
      have e6 := yes_eq hm; subst e6
      refine ⟨rfl, ?_⟩
      exact WkX.of () (WkS.perm (WkS.cons rfl (Wk.refl _) (WkS.cons rfl (Wk.refl _) (WkS.cons rfl (Wk.refl _) (WkS.nil)))) (List.Perm.refl _) (List.Perm.refl _))
  · intro s6 hw6; clear hm; have hm := ho6; clear q6 ho6
    refine then_normal ?_
    refine wpD_wkX hw6 (fun z6 => ?_)
    refine wpD_cond rfl (fun hc12 => ?_) (fun hc12 => ?_)
    · replace hm := yes_t hc12 hm
      refine wpD_seq ?_
      refine wpD_region ?_
      obtain ⟨x13, q13, hm⟩ := yes_bind hm
      refine p_call0 (l18_lives_ok x13 q13) rfl rfl rfl rfl rfl (WkL.refl _) ?_
      rintro _ rfl
      refine p_pure htab rfl rfl rfl rfl ?_
      refine ops_nil ?_
      refine then_normal ?_
      refine wpD_ret ?_
      refine then_ret ?_
      have er14 := yes_eq hm; subst er14
      refine retX.of (s' := ⟨[(4, .v (.bool x13))], [], []⟩) (WkS.perm (WkS.cons rfl (Wk.refl _) (WkS.nil)) (List.Perm.refl _) (List.Perm.refl _)) (retD_mk (hh := []) (.inl rfl) (resL_cons (resOne_tmp rfl) (resL_nil)) (List.nil_sublist _) (List.Sublist.refl _) ?_)
      exact ⟨rfl, rfl, rfl⟩
    · replace hm := yes_f hc12 hm
      refine wpD_skip ?_
      refine then_normal ?_
      refine wpD_seq ?_
      refine wpD_region ?_
      refine p_load (d := eTApiProgram a0) 0 htab rfl rfl rfl rfl rfl rfl rfl rfl ?_
      refine p_load (d := eTApiProgram a1) 1 htab rfl rfl rfl rfl rfl rfl rfl rfl ?_
      obtain ⟨x17, q17, hm⟩ := yes_bind hm
      refine p_callG (change_Of_ok a0 a1 x17 q17) rfl rfl rfl rfl rfl (WkL.refl _) (List.Perm.refl _) (List.Perm.refl _) ?_
      rintro _ _ _ ⟨w15, w16, rfl, rfl, rfl⟩
      refine p_alloc htab rfl rfl rfl rfl rfl rfl rfl (fun b18 => ?_)
      refine p_store (ds' := [.lst 1 (x17.gFuncs.map eStr) (.cur w15), .lst 1 (x17.gGlobals.map eStr) (.cur w16)]) (h' := [(b1, Blk.cells [.lst 4 (a0.gGlobals.map eTApiGlobal) .no, .lst 5 (a0.gFuncs.map eTApiFunc) .no] 25), (b2, Blk.cells [.lst 4 (a1.gGlobals.map eTApiGlobal) .no, .lst 5 (a1.gFuncs.map eTApiFunc) .no] 25), (b18, Blk.cells [.lst 1 (x17.gFuncs.map eStr) (.cur w15), .lst 1 (x17.gGlobals.map eStr) (.cur w16)] 30)]) 2 htab rfl rfl rfl rfl rfl rfl rfl rfl rfl rfl rfl rfl ?_
      refine ops_nil ?_
      refine then_normal ?_
      refine wpD_seq ?_
      obtain ⟨x20, q20, hm⟩ := yes_bind hm
      obtain ⟨x21, q21, hm⟩ := yes_bind hm
      refine bycB x21 (fun hs22 => ?_) (fun hs22 => ?_)
      · replace hm := yes_t hs22 hm
        obtain ⟨x25, q25, hm⟩ := yes_bind hm
        refine wpD_drawsT 12 [] [(4, 1), (11, 1)] [[],[0],[],[],[2,3],[0,1,2,3,4],[0,1,2,3,4,5],[0,1,2,3,4,5],[0,1,2,3,4,5,7],[0,1,2,3,4,5],[0,1,2,3,4,5],[0,1,2,3,4,5,9,10]] [0,1,2,3,4,5,7,8,9,10,11] nlCh1_23 (by kernel_rfl) (by kernel_rfl) (by kernel_rfl) (by rfl) (by rfl) (by kernel_rfl) ?_
        apply Exists.intro
        apply Exists.intro
        apply Exists.intro
        apply Exists.intro
        apply Exists.intro
        apply Exists.intro
        apply Exists.intro
        apply Exists.intro
        apply Exists.intro
        apply Exists.intro
        apply Exists.intro
        intro bs
        refine zt_e rfl rfl (ex_pure htab rfl) rfl rfl rfl rfl rfl rfl rfl ?_
        refine zt_eM rfl rfl (xm_load 2 htab rfl rfl rfl rfl rfl) rfl rfl rfl rfl rfl rfl rfl ?_
        refine zt_eM rfl rfl (xm_load (d := eTApiProgram a0) 0 htab rfl rfl rfl rfl rfl) rfl rfl rfl rfl rfl rfl rfl ?_
        refine zt_eM rfl rfl (xm_load (d := eTApiProgram a1) 1 htab rfl rfl rfl rfl rfl) rfl rfl rfl rfl rfl rfl rfl ?_
        refine zt_callT rfl rfl (r18_Of_ok a0 a1 true x20 q20) rfl rfl (WkL.refl _) rfl rfl rfl rfl rfl (by simp) (by decide) rfl ?_
        refine zt_call rfl rfl (r11_Texts_ok x17.gFuncs x20 x21 q21) rfl rfl (WkL.cons (Wk.no) (WkL.cons (Wk.no) (WkL.refl _))) rfl rfl rfl rfl rfl rfl rfl ?_
        refine zt_q rfl rfl (ex_pure htab rfl) rfl rfl rfl rfl rfl rfl ?_
        refine zt_known (j := 24) (b' := true) rfl hs22 ?_
        refine zt_e rfl rfl (ex_pure htab rfl) rfl rfl rfl rfl rfl rfl rfl ?_
        refine zt_eM rfl rfl (xm_load 2 htab rfl rfl rfl rfl rfl) rfl rfl rfl rfl rfl rfl rfl ?_
        refine zt_eM rfl rfl (xm_load (d := eTApiProgram a0) 0 htab rfl rfl rfl rfl rfl) rfl rfl rfl rfl rfl rfl rfl ?_
        refine zt_eM rfl rfl (xm_load (d := eTApiProgram a1) 1 htab rfl rfl rfl rfl rfl) rfl rfl rfl rfl rfl rfl rfl ?_
        refine zt_callT rfl rfl (r18_Of_ok a0 a1 false x25 q25) rfl rfl (WkL.refl _) rfl rfl rfl rfl rfl (by simp) (by decide) rfl ?_
        refine zt_nil (k' := [(1, w15), (1, w16), (1, (bs 4)), (1, (bs 11))]) rfl (fun e he => by simp [isT] at he; rcases he with rfl | rfl <;> rfl) rfl rfl (fun e he => by simp [isAl] at he) ?_
        obtain ⟨w32, hw32⟩ : ∃ y, bs 4 = y := ⟨_, rfl⟩
        obtain ⟨w33, hw33⟩ : ∃ y, bs 11 = y := ⟨_, rfl⟩
        simp only [hw32, hw33]
        clear hw32 hw33
        obtain ⟨x34, q34, hm⟩ := yes_bind hm
        refine p_call0 (r11_Texts_ok x17.gGlobals x25 x34 q34) rfl rfl rfl rfl rfl (WkL.cons (Wk.no) (WkL.cons (Wk.no) (WkL.refl _))) ?_
        rintro _ rfl
        refine p_pickT rfl rfl rfl rfl rfl rfl ?_
        refine p_pure htab rfl rfl rfl rfl ?_
        refine p_split (i := 32) rfl (fun hg35 => ?_) (fun hg35 => ?_)
        · replace hm := yes_t hg35 hm
          obtain ⟨x36, q36, hm⟩ := yes_bind hm
          refine p_call0 (l18_lives_ok x36 q36) rfl rfl rfl rfl rfl (WkL.refl _) ?_
          rintro _ rfl
          refine p_pickT rfl rfl rfl rfl rfl rfl ?_
          refine p_pure htab rfl rfl rfl rfl ?_
          refine ops_nil ?_
          refine then_normal ?_
          refine wpD_ret ?_
          have er37 := yes_eq hm; subst er37
          refine retX.of (s' := ⟨[(4, .v (.bool x36))], [], []⟩) (WkS.perm (WkS.cons rfl (Wk.refl _) (WkS.nil)) (List.Perm.refl _) (List.Perm.refl _)) (retD_mk (hh := []) (.inl rfl) (resL_cons (resOne_tmp rfl) (resL_nil)) (List.nil_sublist _) (List.Sublist.refl _) ?_)
          exact ⟨rfl, rfl, rfl⟩
        · replace hm := yes_f hg35 hm
          refine p_skip rfl rfl rfl ?_
          refine p_pickF rfl rfl rfl rfl rfl rfl ?_
          refine p_pure htab rfl rfl rfl rfl ?_
          refine ops_nil ?_
          refine then_normal ?_
          refine wpD_ret ?_
          have er38 := yes_eq hm; subst er38
          refine retX.of (s' := ⟨[(4, .v (.bool false))], [], []⟩) (WkS.perm (WkS.cons rfl (Wk.refl _) (WkS.nil)) (List.Perm.refl _) (List.Perm.refl _)) (retD_mk (hh := []) (.inl rfl) (resL_cons (resOne_tmp rfl) (resL_nil)) (List.nil_sublist _) (List.Sublist.refl _) ?_)
          exact ⟨rfl, rfl, rfl⟩
      · replace hm := yes_f hs22 hm
        refine wpD_drawsT 12 [] [(4, 1)] [[],[0],[],[],[2,3],[0,1,2,3,4],[0,1,2,3,4,5],[0,1,2,3,4,5],[0,1,2,3,4,5],[0,1,2,3,4,5],[0,1,2,3,4,5],[0,1,2,3,4,5]] [0,1,2,3,4,5] nlCh1_23 (by kernel_rfl) (by kernel_rfl) (by kernel_rfl) (by rfl) (by rfl) (by kernel_rfl) ?_
        apply Exists.intro
        apply Exists.intro
        apply Exists.intro
        apply Exists.intro
        apply Exists.intro
        apply Exists.intro
        intro bs
        refine zt_e rfl rfl (ex_pure htab rfl) rfl rfl rfl rfl rfl rfl rfl ?_
        refine zt_eM rfl rfl (xm_load 2 htab rfl rfl rfl rfl rfl) rfl rfl rfl rfl rfl rfl rfl ?_
        refine zt_eM rfl rfl (xm_load (d := eTApiProgram a0) 0 htab rfl rfl rfl rfl rfl) rfl rfl rfl rfl rfl rfl rfl ?_
        refine zt_eM rfl rfl (xm_load (d := eTApiProgram a1) 1 htab rfl rfl rfl rfl rfl) rfl rfl rfl rfl rfl rfl rfl ?_
        refine zt_callT rfl rfl (r18_Of_ok a0 a1 true x20 q20) rfl rfl (WkL.refl _) rfl rfl rfl rfl rfl (by simp) (by decide) rfl ?_
        refine zt_call rfl rfl (r11_Texts_ok x17.gFuncs x20 x21 q21) rfl rfl (WkL.cons (Wk.no) (WkL.cons (Wk.no) (WkL.refl _))) rfl rfl rfl rfl rfl rfl rfl ?_
        refine zt_q rfl rfl (ex_pure htab rfl) rfl rfl rfl rfl rfl rfl ?_
        refine zt_known (j := 24) (b' := false) rfl hs22 ?_
        refine zt_skip rfl rfl rfl rfl ?_
        refine zt_skip rfl rfl rfl rfl ?_
        refine zt_skip rfl rfl rfl rfl ?_
        refine zt_skip rfl rfl rfl rfl ?_
        refine zt_skip rfl rfl rfl rfl ?_
        refine zt_nil (k' := [(1, w15), (1, w16), (1, (bs 4))]) rfl (fun e he => by simp [isT] at he; subst he; rfl) rfl rfl (fun e he => by simp [isAl] at he) ?_
        obtain ⟨w43, hw43⟩ : ∃ y, bs 4 = y := ⟨_, rfl⟩
        simp only [hw43]
        clear hw43
        refine p_skip rfl rfl rfl ?_
        refine p_pickF rfl rfl rfl rfl rfl rfl ?_
        refine p_pure htab rfl rfl rfl rfl ?_
        refine p_skip rfl rfl rfl ?_
        refine p_pickF rfl rfl rfl rfl rfl rfl ?_
        refine p_pure htab rfl rfl rfl rfl ?_
        refine ops_nil ?_
        refine then_normal ?_
        refine wpD_ret ?_
        have er44 := yes_eq hm; subst er44
        refine retX.of (s' := ⟨[(4, .v (.bool false))], [], []⟩) (WkS.perm (WkS.cons rfl (Wk.refl _) (WkS.nil)) (List.Perm.refl _) (List.Perm.refl _)) (retD_mk (hh := []) (.inl rfl) (resL_cons (resOne_tmp rfl) (resL_nil)) (List.nil_sublist _) (List.Sublist.refl _) ?_)
        exact ⟨rfl, rfl, rfl⟩
structure TTreeBagString where
  gL : List ByteArray
def eTTreeBagString (x : TTreeBagString) : D := .agg [.lst 1 (x.gL.map eStr) .no]
noncomputable def tree_bag_string_add_r (m0 : TTreeBagString) (a1 : ByteArray) : Option (TTreeBagString) :=
  ((app 16 m0.gL ([a1] : List ByteArray)).bind fun x1 => some (⟨x1⟩ : TTreeBagString))
set_option maxRecDepth 100000 in
set_option maxHeartbeats 2000000 in
theorem tree_bag_string_add_r_ok (m0 : TTreeBagString) (a1 : ByteArray) (o0 : Nat) (T0 : TypeId) (z0_0 : Z3) (r : TTreeBagString) (h0 : tree_bag_string_add_r m0 a1 = some r) : CallsD Try.prog 40 [.ptr o0 0, .v (.string a1)] [(o0, Blk.cells [.v (SL z0_0)] T0), (0, Blk.row 1 (m0.gL.map eStr) (SL z0_0))] [] (fun d h k => ∃ y0, d = .tup [] ∧ h = [(o0, Blk.cells [.v (SL y0)] T0), (0, Blk.row 1 (r.gL.map eStr) (SL y0))] ∧ k = []) := by
  have hm := yes_of h0
  unfold tree_bag_string_add_r at hm
  clear h0
  refine enterX htab Try.func40 rfl rfl rfl rfl rfl (fun C => ?_)
  refine wpD_region ?_
  refine p_pure htab rfl rfl rfl rfl ?_
  refine p_pure htab rfl rfl rfl rfl ?_
  refine p_pure htab rfl rfl rfl rfl ?_
  refine p_pure htab rfl rfl rfl rfl ?_
  refine p_load 0 htab rfl rfl rfl rfl rfl rfl rfl rfl ?_
  refine p_pure htab rfl rfl rfl rfl ?_
  refine p_lit htab rfl rfl rfl rfl rfl rfl rfl rfl rfl rfl rfl rfl rfl rfl ?_
  refine p_eq (i := 10) (d' := .lst 1 (([a1] : List ByteArray).map eStr) .full) rfl (Wk.lst0 (.cons (WkC.refl _) (.nil))) ?_
  obtain ⟨x1, q1, hm⟩ := yes_bind hm
  refine p_appR2 1 htab rfl rfl rfl rfl rfl rfl rfl rfl rfl rfl rfl rfl rfl rfl rfl rfl (app_bound q1) (app_map q1) (fun v1 => ?_)
  refine p_pure htab rfl rfl rfl rfl ?_
  refine p_pure htab rfl rfl rfl rfl ?_
  refine p_store (ds' := [.v (SL v1)]) (h' := [(o0, Blk.cells [.v (SL v1)] T0), (0, Blk.row 1 (x1.map eStr) (SL v1))]) 0 htab rfl rfl rfl rfl rfl rfl rfl rfl rfl rfl rfl rfl ?_
  refine ops_nil ?_
  have er2 := yes_eq hm; subst er2
  refine retX.of (s' := ⟨[], [(o0, Blk.cells [.v (SL v1)] T0), (0, Blk.row 1 (x1.map eStr) (SL v1))], []⟩) (WkS.perm (WkS.nil) (List.Perm.refl _) (List.Perm.refl _)) (retD_mk (hh := [(o0, Blk.cells [.v (SL v1)] T0), (0, Blk.row 1 (x1.map eStr) (SL v1))]) (.inr rfl) (resL_nil) (List.Sublist.refl _) (List.Sublist.refl _) ?_)
  exact ⟨v1, rfl, rfl, rfl⟩
noncomputable def tree_Names_1_r (a0 : ByteArray) (m0 : TTreeBagString) : Option (TTreeBagString) :=
  (bif (!decide (a0 = (ByteArray.mk #[]))) then ((tree_bag_string_add_r m0 a0).bind fun x3 => some x3) else some m0)
set_option maxRecDepth 100000 in
set_option maxHeartbeats 2000000 in
theorem tree_Names_1_r_ok (a0 : ByteArray) (m0 : TTreeBagString) (o0 : Nat) (T0 : TypeId) (z0_0 : Z3) (r : TTreeBagString) (h0 : tree_Names_1_r a0 m0 = some r) : CallsD Try.prog 39 [.v (.string a0), .ptr o0 0] [(o0, Blk.cells [.v (SL z0_0)] T0), (0, Blk.row 1 (m0.gL.map eStr) (SL z0_0))] [] (fun d h k => ∃ y0, d = .tup [] ∧ h = [(o0, Blk.cells [.v (SL y0)] T0), (0, Blk.row 1 (r.gL.map eStr) (SL y0))] ∧ k = []) := by
  have hm := yes_of h0
  unfold tree_Names_1_r at hm
  clear h0
  refine enterX htab Try.func39 rfl rfl rfl rfl rfl (fun C => ?_)
  refine wpD_seq ?_
  refine wpD_region ?_
  refine p_pure htab rfl rfl rfl rfl ?_
  refine p_pure htab rfl rfl rfl rfl ?_
  refine ops_nil ?_
  refine then_normal ?_
  refine wpD_cond rfl (fun hc1 => ?_) (fun hc1 => ?_)
  · replace hm := yes_t hc1 hm
    refine wpD_region ?_
    refine p_pure htab rfl rfl rfl rfl ?_
    obtain ⟨x3, q3, hm⟩ := yes_bind hm
    refine p_callG (tree_bag_string_add_r_ok m0 a0 o0 T0 z0_0 x3 q3) rfl rfl rfl rfl rfl (WkL.refl _) (List.Perm.refl _) (List.Perm.refl _) ?_
    rintro _ _ _ ⟨w2, rfl, rfl, rfl⟩
    refine ops_nil ?_
    have er4 := yes_eq hm; subst er4
    refine retX.of (s' := ⟨[], [(o0, Blk.cells [.v (SL w2)] T0), (0, Blk.row 1 (x3.gL.map eStr) (SL w2))], []⟩) (WkS.perm (WkS.nil) (List.Perm.refl _) (List.Perm.refl _)) (retD_mk (hh := [(o0, Blk.cells [.v (SL w2)] T0), (0, Blk.row 1 (x3.gL.map eStr) (SL w2))]) (.inr rfl) (resL_nil) (List.Sublist.refl _) (List.Sublist.refl _) ?_)
    exact ⟨w2, rfl, rfl, rfl⟩
  · replace hm := yes_f hc1 hm
    refine wpD_skip ?_
    have er5 := yes_eq hm; subst er5
    refine retX.of (s' := ⟨[], [(o0, Blk.cells [.v (SL z0_0)] T0), (0, Blk.row 1 (m0.gL.map eStr) (SL z0_0))], []⟩) (WkS.perm (WkS.nil) (List.Perm.refl _) (List.Perm.refl _)) (retD_mk (hh := [(o0, Blk.cells [.v (SL z0_0)] T0), (0, Blk.row 1 (m0.gL.map eStr) (SL z0_0))]) (.inr rfl) (resL_nil) (List.Sublist.refl _) (List.Sublist.refl _) ?_)
    exact ⟨z0_0, rfl, rfl, rfl⟩
noncomputable def tree_Names_2_r (a0 : TApiStmt) (m1 : TTreeBagString) : Option (TTreeBagString) :=
  ((tree_Names_1_r a0.gName m1).bind fun x3 => some x3)
set_option maxRecDepth 100000 in
set_option maxHeartbeats 2000000 in
theorem tree_Names_2_r_ok (a0 : TApiStmt) (m1 : TTreeBagString) (o0 : Nat) (T0 : TypeId) (o1 : Nat) (T1 : TypeId) (z1_0 : Z3) (r : TTreeBagString) (h0 : tree_Names_2_r a0 m1 = some r) : CallsD Try.prog 42 [eTApiStmt a0, .ptr o0 0] [(o0, Blk.cells [.fn (.func 39) [] [.ptr o1 0]] T0), (o1, Blk.cells [.v (SL z1_0)] T1), (0, Blk.row 1 (m1.gL.map eStr) (SL z1_0))] [] (fun d h k => ∃ y0, d = .tup [] ∧ h = [(o0, Blk.cells [.fn (.func 39) [] [.ptr o1 0]] T0), (o1, Blk.cells [.v (SL y0)] T1), (0, Blk.row 1 (r.gL.map eStr) (SL y0))] ∧ k = []) := by
  have hm := yes_of h0
  unfold tree_Names_2_r at hm
  clear h0
  refine enterX htab Try.func42 rfl rfl rfl rfl rfl (fun C => ?_)
  refine w_eq (i := 0) rfl (Wk.of_eq (eTApiStmt_eq a0)) ?_
  refine wpD_seq ?_
  refine wpD_region ?_
  refine p_box rfl rfl rfl rfl rfl rfl rfl (fun b1 => ?_)
  refine ops_nil ?_
  refine then_normal ?_
  refine wpD_region ?_
  refine p_load 0 htab rfl rfl rfl rfl rfl rfl rfl rfl ?_
  refine p_pure htab rfl rfl rfl rfl ?_
  refine p_load 3 htab rfl rfl rfl rfl rfl rfl rfl rfl ?_
  obtain ⟨x3, q3, hm⟩ := yes_bind hm
  refine p_callV (tree_Names_1_r_ok a0.gName m1 o1 T1 z1_0 x3 q3) rfl rfl rfl rfl rfl rfl rfl (WkL.refl _) ((perm_at (j := 1) rfl).trans (List.Perm.cons _ ((perm_at (j := 1) rfl).trans (List.Perm.cons _ (List.Perm.refl _))))) (List.Perm.refl _) ?_
  rintro _ _ _ ⟨w2, rfl, rfl, rfl⟩
  refine ops_nil ?_
  have er4 := yes_eq hm; subst er4
  refine retX.of (s' := ⟨[], [(o0, Blk.cells [.fn (.func 39) [] [.ptr o1 0]] T0), (o1, Blk.cells [.v (SL w2)] T1), (0, Blk.row 1 (x3.gL.map eStr) (SL w2))], []⟩) (WkS.perm (WkS.nil) ((perm_at (j := 2) rfl).trans (List.Perm.cons _ ((perm_at (j := 0) rfl).trans (List.Perm.cons _ ((perm_at (j := 0) rfl).trans (List.Perm.cons _ (List.Perm.refl _))))))) (List.Perm.refl _)) (retD_mk (hh := [(o0, Blk.cells [.fn (.func 39) [] [.ptr o1 0]] T0), (o1, Blk.cells [.v (SL w2)] T1), (0, Blk.row 1 (x3.gL.map eStr) (SL w2))]) (.inr rfl) (resL_nil) (List.Sublist.refl _) (List.Sublist.refl _) ?_)
  exact ⟨w2, rfl, rfl, rfl⟩
noncomputable def tree_Names_3_r (a0 : TApiExpr) (m1 : TTreeBagString) : Option (TTreeBagString) :=
  ((tree_Names_1_r a0.gName m1).bind fun x3 => some x3)
set_option maxRecDepth 100000 in
set_option maxHeartbeats 2000000 in
theorem tree_Names_3_r_ok (a0 : TApiExpr) (m1 : TTreeBagString) (o0 : Nat) (T0 : TypeId) (o1 : Nat) (T1 : TypeId) (z1_0 : Z3) (r : TTreeBagString) (h0 : tree_Names_3_r a0 m1 = some r) : CallsD Try.prog 43 [eTApiExpr a0, .ptr o0 0] [(o0, Blk.cells [.fn (.func 39) [] [.ptr o1 0]] T0), (o1, Blk.cells [.v (SL z1_0)] T1), (0, Blk.row 1 (m1.gL.map eStr) (SL z1_0))] [] (fun d h k => ∃ y0, d = .tup [] ∧ h = [(o0, Blk.cells [.fn (.func 39) [] [.ptr o1 0]] T0), (o1, Blk.cells [.v (SL y0)] T1), (0, Blk.row 1 (r.gL.map eStr) (SL y0))] ∧ k = []) := by
  have hm := yes_of h0
  unfold tree_Names_3_r at hm
  clear h0
  refine enterX htab Try.func43 rfl rfl rfl rfl rfl (fun C => ?_)
  refine w_eq (i := 0) rfl (Wk.of_eq (eTApiExpr_eq a0)) ?_
  refine wpD_seq ?_
  refine wpD_region ?_
  refine p_box rfl rfl rfl rfl rfl rfl rfl (fun b1 => ?_)
  refine ops_nil ?_
  refine then_normal ?_
  refine wpD_region ?_
  refine p_load 0 htab rfl rfl rfl rfl rfl rfl rfl rfl ?_
  refine p_pure htab rfl rfl rfl rfl ?_
  refine p_load 3 htab rfl rfl rfl rfl rfl rfl rfl rfl ?_
  obtain ⟨x3, q3, hm⟩ := yes_bind hm
  refine p_callV (tree_Names_1_r_ok a0.gName m1 o1 T1 z1_0 x3 q3) rfl rfl rfl rfl rfl rfl rfl (WkL.refl _) ((perm_at (j := 1) rfl).trans (List.Perm.cons _ ((perm_at (j := 1) rfl).trans (List.Perm.cons _ (List.Perm.refl _))))) (List.Perm.refl _) ?_
  rintro _ _ _ ⟨w2, rfl, rfl, rfl⟩
  refine ops_nil ?_
  have er4 := yes_eq hm; subst er4
  refine retX.of (s' := ⟨[], [(o0, Blk.cells [.fn (.func 39) [] [.ptr o1 0]] T0), (o1, Blk.cells [.v (SL w2)] T1), (0, Blk.row 1 (x3.gL.map eStr) (SL w2))], []⟩) (WkS.perm (WkS.nil) ((perm_at (j := 2) rfl).trans (List.Perm.cons _ ((perm_at (j := 0) rfl).trans (List.Perm.cons _ ((perm_at (j := 0) rfl).trans (List.Perm.cons _ (List.Perm.refl _))))))) (List.Perm.refl _)) (retD_mk (hh := [(o0, Blk.cells [.fn (.func 39) [] [.ptr o1 0]] T0), (o1, Blk.cells [.v (SL w2)] T1), (0, Blk.row 1 (x3.gL.map eStr) (SL w2))]) (.inr rfl) (resL_nil) (List.Sublist.refl _) (List.Sublist.refl _) ?_)
  exact ⟨w2, rfl, rfl, rfl⟩
noncomputable def tree_walk_1_r_b (g0 : (TApiExpr) → (TTreeBagString) → Option (TTreeBagString)) (a0 : TApiExpr) (m2 : TTreeBagString) : Option (TTreeBagString) :=
  ((tree_Names_3_r a0 m2).bind fun x3 => (Option.bind (α := List ByteArray) (loopM (fun (s30 : Int × List ByteArray) => (bif (decide (s30.1 < (a0.gKids.length : Int))) then ((idx a0.gKids s30.1).bind fun x50 => ((g0 x50 (⟨s30.2⟩ : TTreeBagString)).bind fun x53 => some (.next ((IntKind.i64.wrap (s30.1 + (1 : Int))), x53.gL)))) else some (.done s30.2))) ((0 : Int), x3.gL)) fun y29 => some (⟨y29⟩ : TTreeBagString)))
set_option maxRecDepth 100000 in
set_option maxHeartbeats 2000000 in
theorem tree_walk_1_r_b_ok (g0 : (TApiExpr) → (TTreeBagString) → Option (TTreeBagString)) (hg0 : ∀ (a0 : TApiExpr) (m2 : TTreeBagString) (o0 : Nat) (T0 : TypeId) (o1 : Nat) (T1 : TypeId) (o2 : Nat) (T2 : TypeId) (z2_0 : Z3) (o3 : Nat) (T3 : TypeId) (r : TTreeBagString) (h0 : g0 a0 m2 = some r), CallsD Try.prog 63 [eTApiExpr a0, .ptr o0 0, .ptr o3 0] [(o0, Blk.cells [.fn (.func 43) [] [.ptr o1 0]] T0), (o1, Blk.cells [.fn (.func 39) [] [.ptr o2 0]] T1), (o2, Blk.cells [.v (SL z2_0)] T2), (o3, Blk.cells [.fn (.func 63) [] [.ptr o0 0, .ptr o3 0]] T3), (0, Blk.row 1 (m2.gL.map eStr) (SL z2_0))] [] (fun d h k => ∃ y0, d = .tup [] ∧ h = [(o0, Blk.cells [.fn (.func 43) [] [.ptr o1 0]] T0), (o1, Blk.cells [.fn (.func 39) [] [.ptr o2 0]] T1), (o2, Blk.cells [.v (SL y0)] T2), (o3, Blk.cells [.fn (.func 63) [] [.ptr o0 0, .ptr o3 0]] T3), (0, Blk.row 1 (r.gL.map eStr) (SL y0))] ∧ k = [])) (a0 : TApiExpr) (m2 : TTreeBagString) (o0 : Nat) (T0 : TypeId) (o1 : Nat) (T1 : TypeId) (o2 : Nat) (T2 : TypeId) (z2_0 : Z3) (o3 : Nat) (T3 : TypeId) (r : TTreeBagString) (h0 : tree_walk_1_r_b g0 a0 m2 = some r) : CallsD Try.prog 63 [eTApiExpr a0, .ptr o0 0, .ptr o3 0] [(o0, Blk.cells [.fn (.func 43) [] [.ptr o1 0]] T0), (o1, Blk.cells [.fn (.func 39) [] [.ptr o2 0]] T1), (o2, Blk.cells [.v (SL z2_0)] T2), (o3, Blk.cells [.fn (.func 63) [] [.ptr o0 0, .ptr o3 0]] T3), (0, Blk.row 1 (m2.gL.map eStr) (SL z2_0))] [] (fun d h k => ∃ y0, d = .tup [] ∧ h = [(o0, Blk.cells [.fn (.func 43) [] [.ptr o1 0]] T0), (o1, Blk.cells [.fn (.func 39) [] [.ptr o2 0]] T1), (o2, Blk.cells [.v (SL y0)] T2), (o3, Blk.cells [.fn (.func 63) [] [.ptr o0 0, .ptr o3 0]] T3), (0, Blk.row 1 (r.gL.map eStr) (SL y0))] ∧ k = []) := by
  have hm := yes_of h0
  unfold tree_walk_1_r_b at hm
  clear h0
  refine enterX htab Try.func63 rfl rfl rfl rfl rfl (fun C => ?_)
  refine w_eq (i := 0) rfl (Wk.of_eq (eTApiExpr_eq a0)) ?_
  refine wpD_seq ?_
  refine wpD_region ?_
  refine p_box rfl rfl rfl rfl rfl rfl rfl (fun b1 => ?_)
  refine ops_nil ?_
  refine then_normal ?_
  refine wpD_seq ?_
  refine wpD_region ?_
  refine p_load 0 htab rfl rfl rfl rfl rfl rfl rfl rfl ?_
  refine p_load (d := .agg [.v (.int .i64 a0.gOp), .v (.int .i64 a0.gN), .v (.string a0.gName), .lst 5 (a0.gKids.map eTApiExpr) .no, .v (.int .i64 a0.gAt)]) 5 htab rfl rfl rfl rfl rfl rfl rfl rfl ?_
  obtain ⟨x3, q3, hm⟩ := yes_bind hm
  refine p_callV (tree_Names_3_r_ok a0 m2 o1 T1 o2 T2 z2_0 x3 q3) rfl rfl rfl rfl rfl rfl rfl (WkL.cons (Wk.trans (Wk.agg (WkR.refl _)) (Wk.of_eq (eTApiExpr_eq a0).symm)) (WkL.cons (Wk.refl _) (WkL.refl _))) ((perm_at (j := 1) rfl).trans (List.Perm.cons _ ((perm_at (j := 1) rfl).trans (List.Perm.cons _ ((perm_at (j := 2) rfl).trans (List.Perm.cons _ (List.Perm.refl _))))))) (List.Perm.refl _) ?_
  rintro _ _ _ ⟨w2, rfl, rfl, rfl⟩
  refine ops_nil ?_
  refine then_normal ?_
  refine wpD_seq ?_
  refine wpD_region ?_
  refine p_pure htab rfl rfl rfl rfl ?_
  refine p_load 5 htab rfl rfl rfl rfl rfl rfl rfl rfl ?_
  refine p_lenL htab rfl rfl rfl rfl rfl rfl rfl (by first | exact map_len | rfl) ?_
  refine p_pure htab rfl rfl rfl rfl ?_
  refine ops_nil ?_
  refine then_normal ?_
  obtain ⟨y29, q29, ho29⟩ := yes_bind hm
  refine wpD_mid (Y := Z3) (fun z29 => (⟨[], [(0, Blk.row 1 (y29.map eStr) (SL z29)), (o1, Blk.cells [.fn (.func 39) [] [.ptr o2 0]] T1), (o2, Blk.cells [.v (SL z29)] T2), (o0, Blk.cells [.fn (.func 43) [] [.ptr o1 0]] T0), (o3, Blk.cells [.fn (.func 63) [] [.ptr o0 0, .ptr o3 0]] T3), (b1, Blk.cells [.v (.int .i64 a0.gOp), .v (.int .i64 a0.gN), .v (.string a0.gName), .lst 5 (a0.gKids.map eTApiExpr) .no, .v (.int .i64 a0.gAt)] 76)], []⟩ : S)) ?_ ?_
  · clear hm; have hm := yes_of q29
    refine wpD_block ?_
    obtain ⟨u30, hl30, hq30⟩ := yes_m hm
    refine loop_M (Y := Z3) hl30 (fun s30 z30 => (⟨[(2, .ptr o3 0), (10, .lst 5 (a0.gKids.map eTApiExpr) .no), (11, .v (.int .i64 (a0.gKids.length : Int))), (12, .v (.int .i64 s30.1))], [(0, Blk.row 1 (s30.2.map eStr) (SL z30)), (o1, Blk.cells [.fn (.func 39) [] [.ptr o2 0]] T1), (o2, Blk.cells [.v (SL z30)] T2), (o0, Blk.cells [.fn (.func 43) [] [.ptr o1 0]] T0), (o3, Blk.cells [.fn (.func 63) [] [.ptr o0 0, .ptr o3 0]] T3), (b1, Blk.cells [.v (.int .i64 a0.gOp), .v (.int .i64 a0.gN), .v (.string a0.gName), .lst 5 (a0.gKids.map eTApiExpr) .no, .v (.int .i64 a0.gAt)] 76)], []⟩ : S)) ?_ ?_
    · skip
      exact WkX.of w2 (WkS.perm (WkS.cons rfl (Wk.refl _) (WkS.cons rfl (Wk.refl _) (WkS.cons rfl (Wk.refl _) (WkS.cons rfl (Wk.refl _) (WkS.nil))))) ((perm_at (j := 2) rfl).trans (List.Perm.cons _ ((perm_at (j := 0) rfl).trans (List.Perm.cons _ ((perm_at (j := 0) rfl).trans (List.Perm.cons _ ((perm_at (j := 0) rfl).trans (List.Perm.cons _ ((perm_at (j := 0) rfl).trans (List.Perm.cons _ ((perm_at (j := 0) rfl).trans (List.Perm.cons _ (List.Perm.refl _))))))))))))) (List.Perm.refl _))
    · intro G30 s30 z30 hm
      refine wpD_seq ?_
      refine wpD_region ?_
      refine p_pure htab rfl rfl rfl rfl ?_
      refine ops_nil ?_
      refine then_normal ?_
      refine wpD_seq ?_
      refine wpD_cond rfl (fun hc49 => ?_) (fun hc49 => ?_)
      · replace hm := yes_t hc49 hm
        refine wpD_skip ?_
        refine then_normal ?_
        refine wpD_seq ?_
        refine wpD_block ?_
        refine wpD_seq ?_
        refine wpD_region ?_
        obtain ⟨x50, q50, hm⟩ := yes_bind hm
        refine p_elem htab rfl rfl rfl rfl rfl rfl rfl rfl rfl rfl (idx_nonneg q50) (idx_map q50) ?_
        refine p_eq (i := 14) rfl (Wk.of_eq (congrArg D.el (eTApiExpr_eq x50))) ?_
        refine p_loadEl (d := .agg [.v (.int .i64 x50.gOp), .v (.int .i64 x50.gN), .v (.string x50.gName), .lst 5 (x50.gKids.map eTApiExpr) .no, .v (.int .i64 x50.gAt)]) htab rfl rfl rfl rfl rfl rfl rfl rfl ?_
        refine p_alloc htab rfl rfl rfl rfl rfl rfl rfl (fun b51 => ?_)
        refine p_store (ds' := [.v (.int .i64 x50.gOp), .v (.int .i64 x50.gN), .v (.string x50.gName), .lst 5 (x50.gKids.map eTApiExpr) .no, .v (.int .i64 x50.gAt)]) (h' := [(0, Blk.row 1 (s30.2.map eStr) (SL z30)), (o1, Blk.cells [.fn (.func 39) [] [.ptr o2 0]] T1), (o2, Blk.cells [.v (SL z30)] T2), (o0, Blk.cells [.fn (.func 43) [] [.ptr o1 0]] T0), (o3, Blk.cells [.fn (.func 63) [] [.ptr o0 0, .ptr o3 0]] T3), (b1, Blk.cells [.v (.int .i64 a0.gOp), .v (.int .i64 a0.gN), .v (.string a0.gName), .lst 5 (a0.gKids.map eTApiExpr) .no, .v (.int .i64 a0.gAt)] 76), (b51, Blk.cells [.v (.int .i64 x50.gOp), .v (.int .i64 x50.gN), .v (.string x50.gName), .lst 5 (x50.gKids.map eTApiExpr) .no, .v (.int .i64 x50.gAt)] 76)]) 6 htab rfl rfl rfl rfl rfl rfl rfl rfl rfl rfl rfl rfl ?_
        refine ops_nil ?_
        refine then_normal ?_
        refine wpD_region ?_
        refine p_load 4 htab rfl rfl rfl rfl rfl rfl rfl rfl ?_
        refine p_load (d := .agg [.v (.int .i64 x50.gOp), .v (.int .i64 x50.gN), .v (.string x50.gName), .lst 5 (x50.gKids.map eTApiExpr) .no, .v (.int .i64 x50.gAt)]) 6 htab rfl rfl rfl rfl rfl rfl rfl rfl ?_
        obtain ⟨x53, q53, hm⟩ := yes_bind hm
        refine p_callV (hg0 x50 (⟨s30.2⟩ : TTreeBagString) o0 T0 o1 T1 o2 T2 z30 o3 T3 x53 q53) rfl rfl rfl rfl rfl rfl rfl (WkL.cons (Wk.trans (Wk.agg (WkR.refl _)) (Wk.of_eq (eTApiExpr_eq x50).symm)) (WkL.cons (Wk.refl _) (WkL.cons (Wk.refl _) (WkL.refl _)))) ((perm_at (j := 3) rfl).trans (List.Perm.cons _ ((perm_at (j := 1) rfl).trans (List.Perm.cons _ ((perm_at (j := 1) rfl).trans (List.Perm.cons _ ((perm_at (j := 1) rfl).trans (List.Perm.cons _ ((perm_at (j := 0) rfl).trans (List.Perm.cons _ (List.Perm.refl _))))))))))) (List.Perm.refl _) ?_
        rintro _ _ _ ⟨w52, rfl, rfl, rfl⟩
        refine ops_nil ?_
        refine block_normal ?_
        refine then_normal ?_
        refine wpD_region ?_
        refine p_pure htab rfl rfl rfl rfl ?_
        refine p_pure htab rfl rfl rfl rfl ?_
        refine ops_nil ?_
        refine then_normal ⟨_, lp_next hm, ?_⟩
        exact WkX.of w52 (WkS.perm (WkS.cons rfl (Wk.refl _) (WkS.cons rfl (Wk.refl _) (WkS.cons rfl (Wk.refl _) (WkS.cons rfl (Wk.refl _) (WkS.nil))))) ((perm_at (j := 4) rfl).trans (List.Perm.cons _ ((perm_at (j := 1) rfl).trans (List.Perm.cons _ ((perm_at (j := 1) rfl).trans (List.Perm.cons _ ((perm_at (j := 0) rfl).trans (List.Perm.cons _ ((perm_at (j := 0) rfl).trans (List.Perm.cons _ ((perm_at (j := 0) rfl).trans (List.Perm.cons _ (List.Perm.refl _))))))))))))) (List.Perm.refl _))
      · replace hm := yes_f hc49 hm
        refine wpD_exit ?_
        refine then_exit ?_
        have e30 := lp_done hm; subst e30; clear hm; have hm := hq30
        refine then_exit ?_
        refine block_hit ?_
        have e29 := yes_eq hm; subst e29
        refine ⟨rfl, ?_⟩
        exact WkX.of z30 (WkS.perm (WkS.nil) (List.Perm.refl _) (List.Perm.refl _))
  · intro s29 hw29; clear hm; have hm := ho29; clear q29 ho29
    refine retX.wkX hw29 (fun z29 => ?_)
    have er54 := yes_eq hm; subst er54
    refine retX.of (s' := ⟨[], [(o0, Blk.cells [.fn (.func 43) [] [.ptr o1 0]] T0), (o1, Blk.cells [.fn (.func 39) [] [.ptr o2 0]] T1), (o2, Blk.cells [.v (SL z29)] T2), (o3, Blk.cells [.fn (.func 63) [] [.ptr o0 0, .ptr o3 0]] T3), (0, Blk.row 1 (y29.map eStr) (SL z29))], []⟩) (WkS.perm (WkS.nil) ((perm_at (j := 3) rfl).trans (List.Perm.cons _ ((perm_at (j := 1) rfl).trans (List.Perm.cons _ ((perm_at (j := 1) rfl).trans (List.Perm.cons _ ((perm_at (j := 1) rfl).trans (List.Perm.cons _ ((perm_at (j := 0) rfl).trans (List.Perm.cons _ (List.Perm.refl _))))))))))) (List.Perm.refl _)) (retD_mk (hh := [(o0, Blk.cells [.fn (.func 43) [] [.ptr o1 0]] T0), (o1, Blk.cells [.fn (.func 39) [] [.ptr o2 0]] T1), (o2, Blk.cells [.v (SL z29)] T2), (o3, Blk.cells [.fn (.func 63) [] [.ptr o0 0, .ptr o3 0]] T3), (0, Blk.row 1 (y29.map eStr) (SL z29))]) (.inr rfl) (resL_nil) (List.Sublist.refl _) (List.Sublist.refl _) ?_)
    exact ⟨z29, rfl, rfl, rfl⟩
noncomputable def tree_walk_1_r_g : Nat → ((TApiExpr) → (TTreeBagString) → Option (TTreeBagString))
  | 0 => (fun _ _ => none)
  | n + 1 => (tree_walk_1_r_b ((tree_walk_1_r_g n)))
theorem tree_walk_1_r_g_ok : ∀ n, (∀ (a0 : TApiExpr) (m2 : TTreeBagString) (o0 : Nat) (T0 : TypeId) (o1 : Nat) (T1 : TypeId) (o2 : Nat) (T2 : TypeId) (z2_0 : Z3) (o3 : Nat) (T3 : TypeId) (r : TTreeBagString) (h0 : (tree_walk_1_r_g n) a0 m2 = some r), CallsD Try.prog 63 [eTApiExpr a0, .ptr o0 0, .ptr o3 0] [(o0, Blk.cells [.fn (.func 43) [] [.ptr o1 0]] T0), (o1, Blk.cells [.fn (.func 39) [] [.ptr o2 0]] T1), (o2, Blk.cells [.v (SL z2_0)] T2), (o3, Blk.cells [.fn (.func 63) [] [.ptr o0 0, .ptr o3 0]] T3), (0, Blk.row 1 (m2.gL.map eStr) (SL z2_0))] [] (fun d h k => ∃ y0, d = .tup [] ∧ h = [(o0, Blk.cells [.fn (.func 43) [] [.ptr o1 0]] T0), (o1, Blk.cells [.fn (.func 39) [] [.ptr o2 0]] T1), (o2, Blk.cells [.v (SL y0)] T2), (o3, Blk.cells [.fn (.func 63) [] [.ptr o0 0, .ptr o3 0]] T3), (0, Blk.row 1 (r.gL.map eStr) (SL y0))] ∧ k = []))
  | 0 => fun _ _ _ _ _ _ _ _ _ _ _ _ h0 => by cases h0
  | n + 1 => by
    have ih := tree_walk_1_r_g_ok n
    exact tree_walk_1_r_b_ok (tree_walk_1_r_g n) ih
theorem tree_walk_1_r_g_le : ∀ n, (∀ (a0 : TApiExpr) (m2 : TTreeBagString), Le ((tree_walk_1_r_g n) a0 m2) ((tree_walk_1_r_g (n + 1)) a0 m2))
  | 0 => fun _ _ => Le.none _
  | n + 1 => by
    have ih := tree_walk_1_r_g_le n
    exact fun a0 m2 => by show Le (tree_walk_1_r_b ((tree_walk_1_r_g n)) a0 m2) (tree_walk_1_r_b ((tree_walk_1_r_g (n + 1))) a0 m2); unfold tree_walk_1_r_b; repeat (first | exact Le.refl _ | exact ih _ _ | assumption | (refine Le.bind ?_ (fun _ => ?_)) | (refine Le.cond ?_ ?_) | (refine Le.loop (fun _ => ?_)) | (refine Le.elim (fun _ => ?_) (fun _ => ?_)))
noncomputable def tree_walk_1_r (a0 : TApiExpr) (m2 : TTreeBagString) : Option (TTreeBagString) := anyN fun n => (tree_walk_1_r_g n) a0 m2
theorem tree_walk_1_r_of (a0 : TApiExpr) (m2 : TTreeBagString) {r : TTreeBagString} (n : Nat) (h : (tree_walk_1_r_g n) a0 m2 = some r) : tree_walk_1_r a0 m2 = some r := anyN_of (fun m => (tree_walk_1_r_g_le m) a0 m2) h
theorem tree_walk_1_r_ok (a0 : TApiExpr) (m2 : TTreeBagString) (o0 : Nat) (T0 : TypeId) (o1 : Nat) (T1 : TypeId) (o2 : Nat) (T2 : TypeId) (z2_0 : Z3) (o3 : Nat) (T3 : TypeId) (r : TTreeBagString) (h0 : tree_walk_1_r a0 m2 = some r) : CallsD Try.prog 63 [eTApiExpr a0, .ptr o0 0, .ptr o3 0] [(o0, Blk.cells [.fn (.func 43) [] [.ptr o1 0]] T0), (o1, Blk.cells [.fn (.func 39) [] [.ptr o2 0]] T1), (o2, Blk.cells [.v (SL z2_0)] T2), (o3, Blk.cells [.fn (.func 63) [] [.ptr o0 0, .ptr o3 0]] T3), (0, Blk.row 1 (m2.gL.map eStr) (SL z2_0))] [] (fun d h k => ∃ y0, d = .tup [] ∧ h = [(o0, Blk.cells [.fn (.func 43) [] [.ptr o1 0]] T0), (o1, Blk.cells [.fn (.func 39) [] [.ptr o2 0]] T1), (o2, Blk.cells [.v (SL y0)] T2), (o3, Blk.cells [.fn (.func 63) [] [.ptr o0 0, .ptr o3 0]] T3), (0, Blk.row 1 (r.gL.map eStr) (SL y0))] ∧ k = []) :=
  let ⟨n, hn⟩ := anyN_inv h0; (tree_walk_1_r_g_ok n) a0 m2 o0 T0 o1 T1 o2 T2 z2_0 o3 T3 r hn
noncomputable def tree_walk_r_b (g0 : (List TApiStmt) → (TTreeBagString) → Option (TTreeBagString)) (a0 : List TApiStmt) (m1 : TTreeBagString) : Option (TTreeBagString) :=
  (Option.bind (α := List ByteArray) (loopM (fun (s242 : Int × List ByteArray) => (bif (decide (s242.1 < (a0.length : Int))) then ((idx a0 s242.1).bind fun x421 => ((tree_Names_2_r x421 (⟨s242.2⟩ : TTreeBagString)).bind fun x424 => (Option.bind (α := List ByteArray) (loopM (fun (s450 : Int × List ByteArray) => (bif (decide (s450.1 < (x421.gExps.length : Int))) then ((idx x421.gExps s450.1).bind fun x470 => ((tree_walk_1_r x470 (⟨s450.2⟩ : TTreeBagString)).bind fun x473 => some (.next ((IntKind.i64.wrap (s450.1 + (1 : Int))), x473.gL)))) else some (.done s450.2))) ((0 : Int), x424.gL)) fun y449 => ((g0 x421.gKids (⟨y449⟩ : TTreeBagString)).bind fun x475 => ((g0 x421.gElse x475).bind fun x477 => some (.next ((IntKind.i64.wrap (s242.1 + (1 : Int))), x477.gL))))))) else some (.done s242.2))) ((0 : Int), m1.gL)) fun y241 => some (⟨y241⟩ : TTreeBagString))
set_option maxRecDepth 100000 in
set_option maxHeartbeats 2000000 in
theorem tree_walk_r_b_ok (g0 : (List TApiStmt) → (TTreeBagString) → Option (TTreeBagString)) (hg0 : ∀ (a0 : List TApiStmt) (m1 : TTreeBagString) (o0 : Nat) (T0 : TypeId) (o1 : Nat) (T1 : TypeId) (z1_0 : Z3) (r : TTreeBagString) (h0 : g0 a0 m1 = some r), CallsD Try.prog 41 [.lst 7 (a0.map eTApiStmt) .no, .fn (.func 42) [] [.ptr o0 0], .fn (.func 43) [] [.ptr o0 0]] [(o0, Blk.cells [.fn (.func 39) [] [.ptr o1 0]] T0), (o1, Blk.cells [.v (SL z1_0)] T1), (0, Blk.row 1 (m1.gL.map eStr) (SL z1_0))] [] (fun d h k => ∃ y0, d = .tup [] ∧ h = [(o0, Blk.cells [.fn (.func 39) [] [.ptr o1 0]] T0), (o1, Blk.cells [.v (SL y0)] T1), (0, Blk.row 1 (r.gL.map eStr) (SL y0))] ∧ k = [])) (a0 : List TApiStmt) (m1 : TTreeBagString) (o0 : Nat) (T0 : TypeId) (o1 : Nat) (T1 : TypeId) (z1_0 : Z3) (r : TTreeBagString) (h0 : tree_walk_r_b g0 a0 m1 = some r) : CallsD Try.prog 41 [.lst 7 (a0.map eTApiStmt) .no, .fn (.func 42) [] [.ptr o0 0], .fn (.func 43) [] [.ptr o0 0]] [(o0, Blk.cells [.fn (.func 39) [] [.ptr o1 0]] T0), (o1, Blk.cells [.v (SL z1_0)] T1), (0, Blk.row 1 (m1.gL.map eStr) (SL z1_0))] [] (fun d h k => ∃ y0, d = .tup [] ∧ h = [(o0, Blk.cells [.fn (.func 39) [] [.ptr o1 0]] T0), (o1, Blk.cells [.v (SL y0)] T1), (0, Blk.row 1 (r.gL.map eStr) (SL y0))] ∧ k = []) := by
  have hm := yes_of h0
  unfold tree_walk_r_b at hm
  clear h0
  refine enterX htab Try.func41 rfl rfl rfl rfl rfl (fun C => ?_)
  refine wpD_seq ?_
  refine wpD_region ?_
  refine p_box rfl rfl rfl rfl rfl rfl rfl (fun b1 => ?_)
  refine ops_nil ?_
  refine then_normal ?_
  refine wpD_seq ?_
  refine wpD_region ?_
  refine p_alloc htab rfl rfl rfl rfl rfl rfl rfl (fun b2 => ?_)
  refine ops_nil ?_
  refine then_normal ?_
  refine wpD_seq ?_
  refine wpD_region ?_
  refine p_pure htab rfl rfl rfl rfl ?_
  refine p_store (ds' := [.fn (.func 63) [] [.ptr b1 0, .ptr b2 0]]) (h' := [(o0, Blk.cells [.fn (.func 39) [] [.ptr o1 0]] T0), (o1, Blk.cells [.v (SL z1_0)] T1), (0, Blk.row 1 (m1.gL.map eStr) (SL z1_0)), (b1, Blk.cells [.fn (.func 43) [] [.ptr o0 0]] 77), (b2, Blk.cells [.fn (.func 63) [] [.ptr b1 0, .ptr b2 0]] 77)]) 4 htab rfl rfl rfl rfl rfl rfl rfl rfl rfl rfl rfl rfl ?_
  refine ops_nil ?_
  refine then_normal ?_
  refine wpD_seq ?_
  refine wpD_region ?_
  refine p_pure htab rfl rfl rfl rfl ?_
  refine p_lenL htab rfl rfl rfl rfl rfl rfl rfl (by first | exact map_len | rfl) ?_
  refine p_pure htab rfl rfl rfl rfl ?_
  refine ops_nil ?_
  refine then_normal ?_
  obtain ⟨y241, q241, ho241⟩ := yes_bind hm
  refine wpD_mid (Y := Z3) (fun z241 => (⟨[], [(0, Blk.row 1 (y241.map eStr) (SL z241)), (o0, Blk.cells [.fn (.func 39) [] [.ptr o1 0]] T0), (o1, Blk.cells [.v (SL z241)] T1), (b1, Blk.cells [.fn (.func 43) [] [.ptr o0 0]] 77), (b2, Blk.cells [.fn (.func 63) [] [.ptr b1 0, .ptr b2 0]] 77)], []⟩ : S)) ?_ ?_
  · clear hm; have hm := yes_of q241
    refine wpD_block ?_
    obtain ⟨u242, hl242, hq242⟩ := yes_m hm
    refine loop_M (Y := Z3) hl242 (fun s242 z242 => (⟨[(1, .fn (.func 42) [] [.ptr o0 0]), (5, .ptr b1 0), (6, .ptr b2 0), (12, .lst 7 (a0.map eTApiStmt) .no), (13, .v (.int .i64 (a0.length : Int))), (14, .v (.int .i64 s242.1))], [(0, Blk.row 1 (s242.2.map eStr) (SL z242)), (o0, Blk.cells [.fn (.func 39) [] [.ptr o1 0]] T0), (o1, Blk.cells [.v (SL z242)] T1), (b1, Blk.cells [.fn (.func 43) [] [.ptr o0 0]] 77), (b2, Blk.cells [.fn (.func 63) [] [.ptr b1 0, .ptr b2 0]] 77)], []⟩ : S)) ?_ ?_
    · skip
      exact WkX.of z1_0 (WkS.perm (WkS.cons rfl (Wk.refl _) (WkS.cons rfl (Wk.refl _) (WkS.cons rfl (Wk.refl _) (WkS.cons rfl (Wk.refl _) (WkS.cons rfl (Wk.refl _) (WkS.cons rfl (Wk.refl _) (WkS.nil))))))) ((perm_at (j := 2) rfl).trans (List.Perm.cons _ ((perm_at (j := 0) rfl).trans (List.Perm.cons _ ((perm_at (j := 0) rfl).trans (List.Perm.cons _ ((perm_at (j := 0) rfl).trans (List.Perm.cons _ ((perm_at (j := 0) rfl).trans (List.Perm.cons _ (List.Perm.refl _))))))))))) (List.Perm.refl _))
    · intro G242 s242 z242 hm
      refine wpD_seq ?_
      refine wpD_region ?_
      refine p_pure htab rfl rfl rfl rfl ?_
      refine ops_nil ?_
      refine then_normal ?_
      refine wpD_seq ?_
      refine wpD_cond rfl (fun hc420 => ?_) (fun hc420 => ?_)
      · replace hm := yes_t hc420 hm
        refine wpD_skip ?_
        refine then_normal ?_
        refine wpD_seq ?_
        refine wpD_block ?_
        refine wpD_seq ?_
        refine wpD_region ?_
        obtain ⟨x421, q421, hm⟩ := yes_bind hm
        refine p_elem htab rfl rfl rfl rfl rfl rfl rfl rfl rfl rfl (idx_nonneg q421) (idx_map q421) ?_
        refine p_eq (i := 16) rfl (Wk.of_eq (congrArg D.el (eTApiStmt_eq x421))) ?_
        refine p_loadEl (d := .agg [.v (.int .i64 x421.gOp), .v (.string x421.gName), .v (.string x421.gFunc), .lst 5 (x421.gExps.map eTApiExpr) .no, .lst 7 (x421.gKids.map eTApiStmt) .no, .lst 7 (x421.gElse.map eTApiStmt) .no, .v (.int .i64 x421.gAt)]) htab rfl rfl rfl rfl rfl rfl rfl rfl ?_
        refine p_alloc htab rfl rfl rfl rfl rfl rfl rfl (fun b422 => ?_)
        refine p_store (ds' := [.v (.int .i64 x421.gOp), .v (.string x421.gName), .v (.string x421.gFunc), .lst 5 (x421.gExps.map eTApiExpr) .no, .lst 7 (x421.gKids.map eTApiStmt) .no, .lst 7 (x421.gElse.map eTApiStmt) .no, .v (.int .i64 x421.gAt)]) (h' := [(0, Blk.row 1 (s242.2.map eStr) (SL z242)), (o0, Blk.cells [.fn (.func 39) [] [.ptr o1 0]] T0), (o1, Blk.cells [.v (SL z242)] T1), (b1, Blk.cells [.fn (.func 43) [] [.ptr o0 0]] 77), (b2, Blk.cells [.fn (.func 63) [] [.ptr b1 0, .ptr b2 0]] 77), (b422, Blk.cells [.v (.int .i64 x421.gOp), .v (.string x421.gName), .v (.string x421.gFunc), .lst 5 (x421.gExps.map eTApiExpr) .no, .lst 7 (x421.gKids.map eTApiStmt) .no, .lst 7 (x421.gElse.map eTApiStmt) .no, .v (.int .i64 x421.gAt)] 73)]) 5 htab rfl rfl rfl rfl rfl rfl rfl rfl rfl rfl rfl rfl ?_
        refine ops_nil ?_
        refine then_normal ?_
        refine wpD_seq ?_
        refine wpD_region ?_
        refine p_pure htab rfl rfl rfl rfl ?_
        refine p_load (d := .agg [.v (.int .i64 x421.gOp), .v (.string x421.gName), .v (.string x421.gFunc), .lst 5 (x421.gExps.map eTApiExpr) .no, .lst 7 (x421.gKids.map eTApiStmt) .no, .lst 7 (x421.gElse.map eTApiStmt) .no, .v (.int .i64 x421.gAt)]) 5 htab rfl rfl rfl rfl rfl rfl rfl rfl ?_
        obtain ⟨x424, q424, hm⟩ := yes_bind hm
        refine p_callV (tree_Names_2_r_ok x421 (⟨s242.2⟩ : TTreeBagString) o0 T0 o1 T1 z242 x424 q424) rfl rfl rfl rfl rfl rfl rfl (WkL.cons (Wk.trans (Wk.agg (WkR.refl _)) (Wk.of_eq (eTApiStmt_eq x421).symm)) (WkL.cons (Wk.refl _) (WkL.refl _))) ((perm_at (j := 1) rfl).trans (List.Perm.cons _ ((perm_at (j := 1) rfl).trans (List.Perm.cons _ ((perm_at (j := 0) rfl).trans (List.Perm.cons _ (List.Perm.refl _))))))) (List.Perm.refl _) ?_
        rintro _ _ _ ⟨w423, rfl, rfl, rfl⟩
        refine ops_nil ?_
        refine then_normal ?_
        refine wpD_seq ?_
        refine wpD_seq ?_
        refine wpD_region ?_
        refine p_pure htab rfl rfl rfl rfl ?_
        refine p_load 5 htab rfl rfl rfl rfl rfl rfl rfl rfl ?_
        refine p_lenL htab rfl rfl rfl rfl rfl rfl rfl (by first | exact map_len | rfl) ?_
        refine p_pure htab rfl rfl rfl rfl ?_
        refine ops_nil ?_
        refine then_normal ?_
        obtain ⟨y449, q449, ho449⟩ := yes_bind hm
        refine wpD_mid (Y := Z3) (fun z449 => (⟨[(1, .fn (.func 42) [] [.ptr o0 0]), (5, .ptr b1 0), (6, .ptr b2 0), (8, .ptr b422 0), (12, .lst 7 (a0.map eTApiStmt) .no), (13, .v (.int .i64 (a0.length : Int))), (14, .v (.int .i64 s242.1))], [(0, Blk.row 1 (y449.map eStr) (SL z449)), (o0, Blk.cells [.fn (.func 39) [] [.ptr o1 0]] T0), (o1, Blk.cells [.v (SL z449)] T1), (b1, Blk.cells [.fn (.func 43) [] [.ptr o0 0]] 77), (b2, Blk.cells [.fn (.func 63) [] [.ptr b1 0, .ptr b2 0]] 77), (b422, Blk.cells [.v (.int .i64 x421.gOp), .v (.string x421.gName), .v (.string x421.gFunc), .lst 5 (x421.gExps.map eTApiExpr) .no, .lst 7 (x421.gKids.map eTApiStmt) .no, .lst 7 (x421.gElse.map eTApiStmt) .no, .v (.int .i64 x421.gAt)] 73)], []⟩ : S)) ?_ ?_
        · clear hm; have hm := yes_of q449
          refine wpD_block ?_
          obtain ⟨u450, hl450, hq450⟩ := yes_m hm
          refine loop_M (Y := Z3) hl450 (fun s450 z450 => (⟨[(1, .fn (.func 42) [] [.ptr o0 0]), (5, .ptr b1 0), (6, .ptr b2 0), (8, .ptr b422 0), (12, .lst 7 (a0.map eTApiStmt) .no), (13, .v (.int .i64 (a0.length : Int))), (14, .v (.int .i64 s242.1)), (22, .lst 5 (x421.gExps.map eTApiExpr) .no), (23, .v (.int .i64 (x421.gExps.length : Int))), (24, .v (.int .i64 s450.1))], [(0, Blk.row 1 (s450.2.map eStr) (SL z450)), (o0, Blk.cells [.fn (.func 39) [] [.ptr o1 0]] T0), (o1, Blk.cells [.v (SL z450)] T1), (b1, Blk.cells [.fn (.func 43) [] [.ptr o0 0]] 77), (b2, Blk.cells [.fn (.func 63) [] [.ptr b1 0, .ptr b2 0]] 77), (b422, Blk.cells [.v (.int .i64 x421.gOp), .v (.string x421.gName), .v (.string x421.gFunc), .lst 5 (x421.gExps.map eTApiExpr) .no, .lst 7 (x421.gKids.map eTApiStmt) .no, .lst 7 (x421.gElse.map eTApiStmt) .no, .v (.int .i64 x421.gAt)] 73)], []⟩ : S)) ?_ ?_
          · skip
            exact WkX.of w423 (WkS.perm (WkS.cons rfl (Wk.refl _) (WkS.cons rfl (Wk.refl _) (WkS.cons rfl (Wk.refl _) (WkS.cons rfl (Wk.refl _) (WkS.cons rfl (Wk.refl _) (WkS.cons rfl (Wk.refl _) (WkS.cons rfl (Wk.refl _) (WkS.cons rfl (Wk.refl _) (WkS.cons rfl (Wk.refl _) (WkS.cons rfl (Wk.refl _) (WkS.nil))))))))))) ((perm_at (j := 2) rfl).trans (List.Perm.cons _ ((perm_at (j := 0) rfl).trans (List.Perm.cons _ ((perm_at (j := 0) rfl).trans (List.Perm.cons _ ((perm_at (j := 0) rfl).trans (List.Perm.cons _ ((perm_at (j := 0) rfl).trans (List.Perm.cons _ ((perm_at (j := 0) rfl).trans (List.Perm.cons _ (List.Perm.refl _))))))))))))) (List.Perm.refl _))
          · intro G450 s450 z450 hm
            refine wpD_seq ?_
            refine wpD_region ?_
            refine p_pure htab rfl rfl rfl rfl ?_
            refine ops_nil ?_
            refine then_normal ?_
            refine wpD_seq ?_
            refine wpD_cond rfl (fun hc469 => ?_) (fun hc469 => ?_)
            · replace hm := yes_t hc469 hm
              refine wpD_skip ?_
              refine then_normal ?_
              refine wpD_seq ?_
              refine wpD_block ?_
              refine wpD_seq ?_
              refine wpD_region ?_
              obtain ⟨x470, q470, hm⟩ := yes_bind hm
              refine p_elem htab rfl rfl rfl rfl rfl rfl rfl rfl rfl rfl (idx_nonneg q470) (idx_map q470) ?_
              refine p_eq (i := 26) rfl (Wk.of_eq (congrArg D.el (eTApiExpr_eq x470))) ?_
              refine p_loadEl (d := .agg [.v (.int .i64 x470.gOp), .v (.int .i64 x470.gN), .v (.string x470.gName), .lst 5 (x470.gKids.map eTApiExpr) .no, .v (.int .i64 x470.gAt)]) htab rfl rfl rfl rfl rfl rfl rfl rfl ?_
              refine p_alloc htab rfl rfl rfl rfl rfl rfl rfl (fun b471 => ?_)
              refine p_store (ds' := [.v (.int .i64 x470.gOp), .v (.int .i64 x470.gN), .v (.string x470.gName), .lst 5 (x470.gKids.map eTApiExpr) .no, .v (.int .i64 x470.gAt)]) (h' := [(0, Blk.row 1 (s450.2.map eStr) (SL z450)), (o0, Blk.cells [.fn (.func 39) [] [.ptr o1 0]] T0), (o1, Blk.cells [.v (SL z450)] T1), (b1, Blk.cells [.fn (.func 43) [] [.ptr o0 0]] 77), (b2, Blk.cells [.fn (.func 63) [] [.ptr b1 0, .ptr b2 0]] 77), (b422, Blk.cells [.v (.int .i64 x421.gOp), .v (.string x421.gName), .v (.string x421.gFunc), .lst 5 (x421.gExps.map eTApiExpr) .no, .lst 7 (x421.gKids.map eTApiStmt) .no, .lst 7 (x421.gElse.map eTApiStmt) .no, .v (.int .i64 x421.gAt)] 73), (b471, Blk.cells [.v (.int .i64 x470.gOp), .v (.int .i64 x470.gN), .v (.string x470.gName), .lst 5 (x470.gKids.map eTApiExpr) .no, .v (.int .i64 x470.gAt)] 76)]) 6 htab rfl rfl rfl rfl rfl rfl rfl rfl rfl rfl rfl rfl ?_
              refine ops_nil ?_
              refine then_normal ?_
              refine wpD_region ?_
              refine p_load 4 htab rfl rfl rfl rfl rfl rfl rfl rfl ?_
              refine p_load (d := .agg [.v (.int .i64 x470.gOp), .v (.int .i64 x470.gN), .v (.string x470.gName), .lst 5 (x470.gKids.map eTApiExpr) .no, .v (.int .i64 x470.gAt)]) 6 htab rfl rfl rfl rfl rfl rfl rfl rfl ?_
              obtain ⟨x473, q473, hm⟩ := yes_bind hm
              refine p_callV (tree_walk_1_r_ok x470 (⟨s450.2⟩ : TTreeBagString) b1 77 o0 T0 o1 T1 z450 b2 77 x473 q473) rfl rfl rfl rfl rfl rfl rfl (WkL.cons (Wk.trans (Wk.agg (WkR.refl _)) (Wk.of_eq (eTApiExpr_eq x470).symm)) (WkL.cons (Wk.refl _) (WkL.cons (Wk.refl _) (WkL.refl _)))) ((perm_at (j := 3) rfl).trans (List.Perm.cons _ ((perm_at (j := 1) rfl).trans (List.Perm.cons _ ((perm_at (j := 1) rfl).trans (List.Perm.cons _ ((perm_at (j := 1) rfl).trans (List.Perm.cons _ ((perm_at (j := 0) rfl).trans (List.Perm.cons _ (List.Perm.refl _))))))))))) (List.Perm.refl _) ?_
              rintro _ _ _ ⟨w472, rfl, rfl, rfl⟩
              refine ops_nil ?_
              refine block_normal ?_
              refine then_normal ?_
              refine wpD_region ?_
              refine p_pure htab rfl rfl rfl rfl ?_
              refine p_pure htab rfl rfl rfl rfl ?_
              refine ops_nil ?_
              refine then_normal ⟨_, lp_next hm, ?_⟩
              exact WkX.of w472 (WkS.perm (WkS.cons rfl (Wk.refl _) (WkS.cons rfl (Wk.refl _) (WkS.cons rfl (Wk.refl _) (WkS.cons rfl (Wk.refl _) (WkS.cons rfl (Wk.refl _) (WkS.cons rfl (Wk.refl _) (WkS.cons rfl (Wk.refl _) (WkS.cons rfl (Wk.refl _) (WkS.cons rfl (Wk.refl _) (WkS.cons rfl (Wk.refl _) (WkS.nil))))))))))) ((perm_at (j := 4) rfl).trans (List.Perm.cons _ ((perm_at (j := 1) rfl).trans (List.Perm.cons _ ((perm_at (j := 1) rfl).trans (List.Perm.cons _ ((perm_at (j := 0) rfl).trans (List.Perm.cons _ ((perm_at (j := 0) rfl).trans (List.Perm.cons _ ((perm_at (j := 0) rfl).trans (List.Perm.cons _ (List.Perm.refl _))))))))))))) (List.Perm.refl _))
            · replace hm := yes_f hc469 hm
              refine wpD_exit ?_
              refine then_exit ?_
              have e450 := lp_done hm; subst e450; clear hm; have hm := hq450
              refine then_exit ?_
              refine block_hit ?_
              have e449 := yes_eq hm; subst e449
              refine ⟨rfl, ?_⟩
              exact WkX.of z450 (WkS.perm (WkS.cons rfl (Wk.refl _) (WkS.cons rfl (Wk.refl _) (WkS.cons rfl (Wk.refl _) (WkS.cons rfl (Wk.refl _) (WkS.cons rfl (Wk.refl _) (WkS.cons rfl (Wk.refl _) (WkS.cons rfl (Wk.refl _) (WkS.nil)))))))) (List.Perm.refl _) (List.Perm.refl _))
        · intro s449 hw449; clear hm; have hm := ho449; clear q449 ho449
          refine then_normal ?_
          refine wpD_wkX hw449 (fun z449 => ?_)
          refine wpD_seq ?_
          refine wpD_region ?_
          refine p_pure htab rfl rfl rfl rfl ?_
          refine p_load 5 htab rfl rfl rfl rfl rfl rfl rfl rfl ?_
          refine p_pure htab rfl rfl rfl rfl ?_
          refine p_load 3 htab rfl rfl rfl rfl rfl rfl rfl rfl ?_
          obtain ⟨x475, q475, hm⟩ := yes_bind hm
          refine p_callG (hg0 x421.gKids (⟨y449⟩ : TTreeBagString) o0 T0 o1 T1 z449 x475 q475) rfl rfl rfl rfl rfl (WkL.refl _) ((perm_at (j := 1) rfl).trans (List.Perm.cons _ ((perm_at (j := 1) rfl).trans (List.Perm.cons _ ((perm_at (j := 0) rfl).trans (List.Perm.cons _ (List.Perm.refl _))))))) (List.Perm.refl _) ?_
          rintro _ _ _ ⟨w474, rfl, rfl, rfl⟩
          refine ops_nil ?_
          refine then_normal ?_
          refine wpD_region ?_
          refine p_pure htab rfl rfl rfl rfl ?_
          refine p_load 5 htab rfl rfl rfl rfl rfl rfl rfl rfl ?_
          refine p_pure htab rfl rfl rfl rfl ?_
          refine p_load 3 htab rfl rfl rfl rfl rfl rfl rfl rfl ?_
          obtain ⟨x477, q477, hm⟩ := yes_bind hm
          refine p_callG (hg0 x421.gElse x475 o0 T0 o1 T1 w474 x477 q477) rfl rfl rfl rfl rfl (WkL.refl _) (List.Perm.refl _) (List.Perm.refl _) ?_
          rintro _ _ _ ⟨w476, rfl, rfl, rfl⟩
          refine ops_nil ?_
          refine block_normal ?_
          refine then_normal ?_
          refine wpD_region ?_
          refine p_pure htab rfl rfl rfl rfl ?_
          refine p_pure htab rfl rfl rfl rfl ?_
          refine ops_nil ?_
          refine then_normal ⟨_, lp_next hm, ?_⟩
          exact WkX.of w476 (WkS.perm (WkS.cons rfl (Wk.refl _) (WkS.cons rfl (Wk.refl _) (WkS.cons rfl (Wk.refl _) (WkS.cons rfl (Wk.refl _) (WkS.cons rfl (Wk.refl _) (WkS.cons rfl (Wk.refl _) (WkS.nil))))))) ((perm_at (j := 2) rfl).trans (List.Perm.cons _ ((perm_at (j := 0) rfl).trans (List.Perm.cons _ ((perm_at (j := 0) rfl).trans (List.Perm.cons _ ((perm_at (j := 0) rfl).trans (List.Perm.cons _ ((perm_at (j := 0) rfl).trans (List.Perm.cons _ (List.Perm.refl _))))))))))) (List.Perm.refl _))
      · replace hm := yes_f hc420 hm
        refine wpD_exit ?_
        refine then_exit ?_
        have e242 := lp_done hm; subst e242; clear hm; have hm := hq242
        refine then_exit ?_
        refine block_hit ?_
        have e241 := yes_eq hm; subst e241
        refine ⟨rfl, ?_⟩
        exact WkX.of z242 (WkS.perm (WkS.nil) (List.Perm.refl _) (List.Perm.refl _))
  · intro s241 hw241; clear hm; have hm := ho241; clear q241 ho241
    refine retX.wkX hw241 (fun z241 => ?_)
    have er478 := yes_eq hm; subst er478
    refine retX.of (s' := ⟨[], [(o0, Blk.cells [.fn (.func 39) [] [.ptr o1 0]] T0), (o1, Blk.cells [.v (SL z241)] T1), (0, Blk.row 1 (y241.map eStr) (SL z241))], []⟩) (WkS.perm (WkS.nil) ((perm_at (j := 1) rfl).trans (List.Perm.cons _ ((perm_at (j := 1) rfl).trans (List.Perm.cons _ ((perm_at (j := 0) rfl).trans (List.Perm.cons _ (List.Perm.refl _))))))) (List.Perm.refl _)) (retD_mk (hh := [(o0, Blk.cells [.fn (.func 39) [] [.ptr o1 0]] T0), (o1, Blk.cells [.v (SL z241)] T1), (0, Blk.row 1 (y241.map eStr) (SL z241))]) (.inr rfl) (resL_nil) (List.Sublist.refl _) (List.Sublist.refl _) ?_)
    exact ⟨z241, rfl, rfl, rfl⟩
noncomputable def tree_walk_r_g : Nat → ((List TApiStmt) → (TTreeBagString) → Option (TTreeBagString))
  | 0 => (fun _ _ => none)
  | n + 1 => (tree_walk_r_b ((tree_walk_r_g n)))
theorem tree_walk_r_g_ok : ∀ n, (∀ (a0 : List TApiStmt) (m1 : TTreeBagString) (o0 : Nat) (T0 : TypeId) (o1 : Nat) (T1 : TypeId) (z1_0 : Z3) (r : TTreeBagString) (h0 : (tree_walk_r_g n) a0 m1 = some r), CallsD Try.prog 41 [.lst 7 (a0.map eTApiStmt) .no, .fn (.func 42) [] [.ptr o0 0], .fn (.func 43) [] [.ptr o0 0]] [(o0, Blk.cells [.fn (.func 39) [] [.ptr o1 0]] T0), (o1, Blk.cells [.v (SL z1_0)] T1), (0, Blk.row 1 (m1.gL.map eStr) (SL z1_0))] [] (fun d h k => ∃ y0, d = .tup [] ∧ h = [(o0, Blk.cells [.fn (.func 39) [] [.ptr o1 0]] T0), (o1, Blk.cells [.v (SL y0)] T1), (0, Blk.row 1 (r.gL.map eStr) (SL y0))] ∧ k = []))
  | 0 => fun _ _ _ _ _ _ _ _ h0 => by cases h0
  | n + 1 => by
    have ih := tree_walk_r_g_ok n
    exact tree_walk_r_b_ok (tree_walk_r_g n) ih
theorem tree_walk_r_g_le : ∀ n, (∀ (a0 : List TApiStmt) (m1 : TTreeBagString), Le ((tree_walk_r_g n) a0 m1) ((tree_walk_r_g (n + 1)) a0 m1))
  | 0 => fun _ _ => Le.none _
  | n + 1 => by
    have ih := tree_walk_r_g_le n
    exact fun a0 m1 => by show Le (tree_walk_r_b ((tree_walk_r_g n)) a0 m1) (tree_walk_r_b ((tree_walk_r_g (n + 1))) a0 m1); unfold tree_walk_r_b; repeat (first | exact Le.refl _ | exact ih _ _ | assumption | (refine Le.bind ?_ (fun _ => ?_)) | (refine Le.cond ?_ ?_) | (refine Le.loop (fun _ => ?_)) | (refine Le.elim (fun _ => ?_) (fun _ => ?_)))
noncomputable def tree_walk_r (a0 : List TApiStmt) (m1 : TTreeBagString) : Option (TTreeBagString) := anyN fun n => (tree_walk_r_g n) a0 m1
theorem tree_walk_r_of (a0 : List TApiStmt) (m1 : TTreeBagString) {r : TTreeBagString} (n : Nat) (h : (tree_walk_r_g n) a0 m1 = some r) : tree_walk_r a0 m1 = some r := anyN_of (fun m => (tree_walk_r_g_le m) a0 m1) h
theorem tree_walk_r_ok (a0 : List TApiStmt) (m1 : TTreeBagString) (o0 : Nat) (T0 : TypeId) (o1 : Nat) (T1 : TypeId) (z1_0 : Z3) (r : TTreeBagString) (h0 : tree_walk_r a0 m1 = some r) : CallsD Try.prog 41 [.lst 7 (a0.map eTApiStmt) .no, .fn (.func 42) [] [.ptr o0 0], .fn (.func 43) [] [.ptr o0 0]] [(o0, Blk.cells [.fn (.func 39) [] [.ptr o1 0]] T0), (o1, Blk.cells [.v (SL z1_0)] T1), (0, Blk.row 1 (m1.gL.map eStr) (SL z1_0))] [] (fun d h k => ∃ y0, d = .tup [] ∧ h = [(o0, Blk.cells [.fn (.func 39) [] [.ptr o1 0]] T0), (o1, Blk.cells [.v (SL y0)] T1), (0, Blk.row 1 (r.gL.map eStr) (SL y0))] ∧ k = []) :=
  let ⟨n, hn⟩ := anyN_inv h0; (tree_walk_r_g_ok n) a0 m1 o0 T0 o1 T1 z1_0 r hn
noncomputable def tree_bag_string_all_r (m0 : TTreeBagString) : Option (List ByteArray × TTreeBagString) :=
  ((need (len62B m0.gL)).bind fun x1 => ((need (len62B (sortB m0.gL))).bind fun x3 => some ((compactB (sortB m0.gL)), (⟨[]⟩ : TTreeBagString))))
set_option maxRecDepth 100000 in
set_option maxHeartbeats 2000000 in
theorem tree_bag_string_all_r_ok (m0 : TTreeBagString) (o0 : Nat) (T0 : TypeId) (z0_0 : Z3) (r : List ByteArray × TTreeBagString) (h0 : tree_bag_string_all_r m0 = some r) : CallsD Try.prog 44 [.ptr o0 0] [(o0, Blk.cells [.v (SL z0_0)] T0), (0, Blk.row 1 (m0.gL.map eStr) (SL z0_0))] [] (fun d h k => ∃ y0, d = .v (SL y0) ∧ h = [(o0, Blk.cells [.any] T0), (0, Blk.row 1 (r.1.map eStr) (SL y0))] ∧ k = []) := by
  have hm := yes_of h0
  unfold tree_bag_string_all_r at hm
  clear h0
  refine enterX htab Try.func44 rfl rfl rfl rfl rfl (fun C => ?_)
  refine wpD_seq ?_
  refine wpD_region ?_
  refine p_pure htab rfl rfl rfl rfl ?_
  refine ops_nil ?_
  refine then_normal ?_
  refine wpD_seq ?_
  refine wpD_region ?_
  refine p_pure htab rfl rfl rfl rfl ?_
  refine p_pure htab rfl rfl rfl rfl ?_
  refine p_pure htab rfl rfl rfl rfl ?_
  refine p_load 0 htab rfl rfl rfl rfl rfl rfl rfl rfl ?_
  obtain ⟨x1, q1, hm⟩ := yes_bind hm
  refine p_callG (sortB_ok m0.gL z0_0 (need_ok q1)) rfl rfl rfl rfl rfl (WkL.refl _) ((perm_at (j := 1) rfl).trans (List.Perm.cons _ (List.Perm.refl _))) (List.Perm.refl _) ?_
  rintro _ _ _ ⟨rfl, rfl, rfl⟩
  refine ops_nil ?_
  refine then_normal ?_
  refine wpD_seq ?_
  refine wpD_region ?_
  refine p_pure htab rfl rfl rfl rfl ?_
  refine p_pure htab rfl rfl rfl rfl ?_
  refine p_pure htab rfl rfl rfl rfl ?_
  refine p_load 1 htab rfl rfl rfl rfl rfl rfl rfl rfl ?_
  obtain ⟨x3, q3, hm⟩ := yes_bind hm
  refine p_callG (compactB_ok (sortB m0.gL) z0_0 (need_ok q3)) rfl rfl rfl rfl rfl (WkL.refl _) (List.Perm.refl _) (List.Perm.refl _) ?_
  rintro _ _ _ ⟨w2, rfl, rfl, rfl⟩
  refine p_pure htab rfl rfl rfl rfl ?_
  refine ops_nil ?_
  refine then_normal ?_
  refine wpD_ret ?_
  have er4 := yes_eq hm; subst er4
  refine retX.wk (WkS.blk (ds' := [.any]) (h' := [(0, Blk.row 1 ((compactB (sortB m0.gL)).map eStr) (SL w2)), (o0, Blk.cells [.any] T0)]) 1 rfl (WkR.cons (WkC.any) rfl (WkR.nil)) rfl) ?_
  refine retX.of (s' := ⟨[(2, .v (SL w2))], [(o0, Blk.cells [.any] T0), (0, Blk.row 1 ((compactB (sortB m0.gL)).map eStr) (SL w2))], []⟩) (WkS.perm (WkS.cons rfl (Wk.refl _) (WkS.nil)) ((perm_at (j := 1) rfl).trans (List.Perm.cons _ ((perm_at (j := 0) rfl).trans (List.Perm.cons _ (List.Perm.refl _))))) (List.Perm.refl _)) (retD_mk (hh := [(o0, Blk.cells [.any] T0), (0, Blk.row 1 ((compactB (sortB m0.gL)).map eStr) (SL w2))]) (.inl rfl) (resL_cons (resOne_tmp rfl) (resL_nil)) (List.Sublist.refl _) (List.Sublist.refl _) ?_)
  exact ⟨w2, rfl, rfl, rfl⟩
noncomputable def slices_Index_string_string (a0 : List ByteArray) (a1 : ByteArray) : Option (Int) :=
  (Option.bind (α := (Unit) ⊕ (Int)) (loopM (fun (s15 : Int) => (bif (decide (s15 < (a0.length : Int))) then ((idx a0 s15).bind fun x25 => (bif (decide (a1 = x25)) then some (.done (.inr s15)) else some (.next (IntKind.i64.wrap (s15 + (1 : Int)))))) else some (.done (.inl ())))) (0 : Int)) (Sum.elim (fun y14 => some (-1 : Int)) (fun r => some r)))
set_option maxRecDepth 100000 in
set_option maxHeartbeats 2000000 in
theorem slices_Index_string_string_ok (a0 : List ByteArray) (a1 : ByteArray) (r : Int) (h0 : slices_Index_string_string a0 a1 = some r) : CallsD Try.prog 46 [.lst 1 (a0.map eStr) .no, .v (.string a1)] [] [] (fun d h k => d = .v (.int .i64 r) ∧ h = [] ∧ k = []) := by
  have hm := yes_of h0
  unfold slices_Index_string_string at hm
  clear h0
  refine enterX htab Try.func46 rfl rfl rfl rfl rfl (fun C => ?_)
  refine wpD_seq ?_
  refine wpD_region ?_
  refine p_pure htab rfl rfl rfl rfl ?_
  refine ops_nil ?_
  refine then_normal ?_
  refine wpD_seq ?_
  refine wpD_seq ?_
  refine wpD_region ?_
  refine p_pure htab rfl rfl rfl rfl ?_
  refine p_lenL htab rfl rfl rfl rfl rfl rfl rfl (by first | exact map_len | rfl) ?_
  refine p_pure htab rfl rfl rfl rfl ?_
  refine ops_nil ?_
  refine then_normal ?_
  obtain ⟨x14, q14, ho14⟩ := yes_bind hm
  refine wpD_midX (τ := Unit) (Y := Unit) (fun y14 z14 => (⟨[], [], []⟩ : S)) x14 ?_ ?_
  · clear hm; have hm := yes_of q14
    refine wpD_block ?_
    obtain ⟨u15, hl15, hq15⟩ := yes_m hm
    refine loop_M (Y := Unit) hl15 (fun s15 z15 => (⟨[(0, .lst 1 (a0.map eStr) .no), (1, .v (.string a1)), (7, .v (.int .i64 (a0.length : Int))), (8, .v (.int .i64 s15))], [], []⟩ : S)) ?_ ?_
    · skip
      exact WkX.of () (WkS.perm (WkS.cons rfl (Wk.refl _) (WkS.cons rfl (Wk.refl _) (WkS.cons rfl (Wk.refl _) (WkS.cons rfl (Wk.refl _) (WkS.nil))))) (List.Perm.refl _) (List.Perm.refl _))
    · intro G15 s15 z15 hm
      refine wpD_seq ?_
      refine wpD_region ?_
      refine p_pure htab rfl rfl rfl rfl ?_
      refine ops_nil ?_
      refine then_normal ?_
      refine wpD_seq ?_
      refine wpD_cond rfl (fun hc24 => ?_) (fun hc24 => ?_)
      · replace hm := yes_t hc24 hm
        refine wpD_skip ?_
        refine then_normal ?_
        refine wpD_seq ?_
        refine wpD_block ?_
        refine wpD_seq ?_
        refine wpD_region ?_
        refine p_pure htab rfl rfl rfl rfl ?_
        refine p_pure htab rfl rfl rfl rfl ?_
        refine ops_nil ?_
        refine then_normal ?_
        refine wpD_seq ?_
        refine wpD_region ?_
        refine p_pure htab rfl rfl rfl rfl ?_
        refine p_pure htab rfl rfl rfl rfl ?_
        refine p_pure htab rfl rfl rfl rfl ?_
        obtain ⟨x25, q25, hm⟩ := yes_bind hm
        refine p_elem htab rfl rfl rfl rfl rfl rfl rfl rfl rfl rfl (idx_nonneg q25) (idx_map q25) ?_
        refine p_loadEl htab rfl rfl rfl rfl rfl rfl rfl rfl ?_
        refine p_pure htab rfl rfl rfl rfl ?_
        refine ops_nil ?_
        refine then_normal ?_
        refine wpD_cond rfl (fun hc26 => ?_) (fun hc26 => ?_)
        · replace hm := yes_t hc26 hm
          refine wpD_seq ?_
          refine wpD_region ?_
          refine p_pure htab rfl rfl rfl rfl ?_
          refine p_pure htab rfl rfl rfl rfl ?_
          refine ops_nil ?_
          refine then_normal ?_
          refine wpD_ret ?_
          refine block_ret ?_
          refine then_ret ?_
          have e15 := lp_done hm; subst e15; clear hm; have hm := hq15
          refine then_ret ?_
          refine block_ret ?_
          have e14 := yes_eq hm; subst e14; refine midX_inr ?_; clear hm; have hm := ho14; simp only [Sum.elim_inr] at hm
          refine then_ret ?_
          have er27 := yes_eq hm; subst er27
          refine retX.of (s' := ⟨[(4, .v (.int .i64 s15))], [], []⟩) (WkS.perm (WkS.cons rfl (Wk.refl _) (WkS.nil)) (List.Perm.refl _) (List.Perm.refl _)) (retD_mk (hh := []) (.inl rfl) (resL_cons (resOne_tmp rfl) (resL_nil)) (List.nil_sublist _) (List.Sublist.refl _) ?_)
          exact ⟨rfl, rfl, rfl⟩
        · replace hm := yes_f hc26 hm
          refine wpD_skip ?_
          refine block_normal ?_
          refine then_normal ?_
          refine wpD_region ?_
          refine p_pure htab rfl rfl rfl rfl ?_
          refine p_pure htab rfl rfl rfl rfl ?_
          refine ops_nil ?_
          refine then_normal ⟨_, lp_next hm, ?_⟩
          exact WkX.of () (WkS.perm (WkS.cons rfl (Wk.refl _) (WkS.cons rfl (Wk.refl _) (WkS.cons rfl (Wk.refl _) (WkS.cons rfl (Wk.refl _) (WkS.nil))))) (List.Perm.refl _) (List.Perm.refl _))
      · replace hm := yes_f hc24 hm
        refine wpD_exit ?_
        refine then_exit ?_
        have e15 := lp_done hm; subst e15; clear hm; have hm := hq15
        refine then_exit ?_
        refine block_hit ?_
        have e14 := yes_eq hm; subst e14
        refine midX_inl ?_
        exact WkX.of () (WkS.perm (WkS.nil) (List.Perm.refl _) (List.Perm.refl _))
  · intro y14 s14 hx14 hw14; subst hx14; clear hm; have hm := ho14; simp only [Sum.elim_inl] at hm; clear q14 ho14
    refine then_normal ?_
    refine wpD_wkX hw14 (fun z14 => ?_)
    refine wpD_seq ?_
    refine wpD_region ?_
    refine p_pure htab rfl rfl rfl rfl ?_
    refine ops_nil ?_
    refine then_normal ?_
    refine wpD_ret ?_
    have er28 := yes_eq hm; subst er28
    refine retX.of (s' := ⟨[(4, .v (.int .i64 (-1 : Int)))], [], []⟩) (WkS.perm (WkS.cons rfl (Wk.refl _) (WkS.nil)) (List.Perm.refl _) (List.Perm.refl _)) (retD_mk (hh := []) (.inl rfl) (resL_cons (resOne_tmp rfl) (resL_nil)) (List.nil_sublist _) (List.Sublist.refl _) ?_)
    exact ⟨rfl, rfl, rfl⟩
noncomputable def slices_Contains_string_string (a0 : List ByteArray) (a1 : ByteArray) : Option (Bool) :=
  ((slices_Index_string_string a0 a1).bind fun x1 => some (decide ((0 : Int) ≤ x1)))
set_option maxRecDepth 100000 in
set_option maxHeartbeats 2000000 in
theorem slices_Contains_string_string_ok (a0 : List ByteArray) (a1 : ByteArray) (r : Bool) (h0 : slices_Contains_string_string a0 a1 = some r) : CallsD Try.prog 26 [.lst 1 (a0.map eStr) .no, .v (.string a1)] [] [] (fun d h k => d = .v (.bool r) ∧ h = [] ∧ k = []) := by
  have hm := yes_of h0
  unfold slices_Contains_string_string at hm
  clear h0
  refine enterX htab Try.func26 rfl rfl rfl rfl rfl (fun C => ?_)
  refine wpD_seq ?_
  refine wpD_region ?_
  refine p_pure htab rfl rfl rfl rfl ?_
  refine ops_nil ?_
  refine then_normal ?_
  refine wpD_seq ?_
  refine wpD_region ?_
  refine p_pure htab rfl rfl rfl rfl ?_
  refine p_pure htab rfl rfl rfl rfl ?_
  obtain ⟨x1, q1, hm⟩ := yes_bind hm
  refine p_call0 (slices_Index_string_string_ok a0 a1 x1 q1) rfl rfl rfl rfl rfl (WkL.refl _) ?_
  rintro _ rfl
  refine p_pure htab rfl rfl rfl rfl ?_
  refine p_pure htab rfl rfl rfl rfl ?_
  refine ops_nil ?_
  refine then_normal ?_
  refine wpD_ret ?_
  have er2 := yes_eq hm; subst er2
  refine retX.of (s' := ⟨[(4, .v (.bool (decide ((0 : Int) ≤ x1))))], [], []⟩) (WkS.perm (WkS.cons rfl (Wk.refl _) (WkS.nil)) (List.Perm.refl _) (List.Perm.refl _)) (retD_mk (hh := []) (.inl rfl) (resL_cons (resOne_tmp rfl) (resL_nil)) (List.nil_sublist _) (List.Sublist.refl _) ?_)
  exact ⟨rfl, rfl, rfl⟩
noncomputable def change_Touched_1 (a0 : ByteArray) (m0 : List ByteArray) : Option (Bool) :=
  ((slices_Contains_string_string m0 a0).bind fun x1 => some x1)
set_option maxRecDepth 100000 in
set_option maxHeartbeats 2000000 in
theorem change_Touched_1_ok (a0 : ByteArray) (m0 : List ByteArray) (o0 : Nat) (T0 : TypeId) (c0_0 : Cap) (r : Bool) (h0 : change_Touched_1 a0 m0 = some r) : CallsD Try.prog 25 [.v (.string a0), .ptr o0 0] [(o0, Blk.cells [.lst 1 (m0.map eStr) c0_0] T0)] [] (fun d h k => d = .v (.bool r) ∧ h = [(o0, Blk.cells [.lst 1 (m0.map eStr) c0_0] T0)] ∧ k = []) := by
  have hm := yes_of h0
  unfold change_Touched_1 at hm
  clear h0
  refine enterX htab Try.func25 rfl rfl rfl rfl rfl (fun C => ?_)
  refine wpD_seq ?_
  refine wpD_region ?_
  refine p_pure htab rfl rfl rfl rfl ?_
  refine ops_nil ?_
  refine then_normal ?_
  refine wpD_seq ?_
  refine wpD_region ?_
  refine p_load 0 htab rfl rfl rfl rfl rfl rfl rfl rfl ?_
  refine p_pure htab rfl rfl rfl rfl ?_
  obtain ⟨x1, q1, hm⟩ := yes_bind hm
  refine p_call0 (slices_Contains_string_string_ok m0 a0 x1 q1) rfl rfl rfl rfl rfl (WkL.cons (Wk.no) (WkL.cons (Wk.refl _) (WkL.refl _))) ?_
  rintro _ rfl
  refine p_pure htab rfl rfl rfl rfl ?_
  refine ops_nil ?_
  refine then_normal ?_
  refine wpD_ret ?_
  have er2 := yes_eq hm; subst er2
  refine retX.of (s' := ⟨[(3, .v (.bool x1))], [(o0, Blk.cells [.lst 1 (m0.map eStr) c0_0] T0)], []⟩) (WkS.perm (WkS.cons rfl (Wk.refl _) (WkS.nil)) (List.Perm.refl _) (List.Perm.refl _)) (retD_mk (hh := [(o0, Blk.cells [.lst 1 (m0.map eStr) c0_0] T0)]) (.inl rfl) (resL_cons (resOne_tmp rfl) (resL_nil)) (List.Sublist.refl _) (List.Sublist.refl _) ?_)
  exact ⟨rfl, rfl, rfl⟩
noncomputable def slices_IndexFunc_string_string (a0 : List ByteArray) (m0 : List ByteArray) : Option (Int) :=
  (Option.bind (α := (Unit) ⊕ (Int)) (loopM (fun (s18 : Int) => (bif (decide (s18 < (a0.length : Int))) then ((idx a0 s18).bind fun x30 => ((change_Touched_1 x30 m0).bind fun x31 => (bif x31 then some (.done (.inr s18)) else some (.next (IntKind.i64.wrap (s18 + (1 : Int))))))) else some (.done (.inl ())))) (0 : Int)) (Sum.elim (fun y17 => some (-1 : Int)) (fun r => some r)))
set_option maxRecDepth 100000 in
set_option maxHeartbeats 2000000 in
theorem slices_IndexFunc_string_string_ok (a0 : List ByteArray) (m0 : List ByteArray) (o0 : Nat) (T0 : TypeId) (c0_0 : Cap) (r : Int) (h0 : slices_IndexFunc_string_string a0 m0 = some r) : CallsD Try.prog 45 [.lst 1 (a0.map eStr) .no, .fn (.func 25) [] [.ptr o0 0]] [(o0, Blk.cells [.lst 1 (m0.map eStr) c0_0] T0)] [] (fun d h k => d = .v (.int .i64 r) ∧ h = [(o0, Blk.cells [.lst 1 (m0.map eStr) c0_0] T0)] ∧ k = []) := by
  have hm := yes_of h0
  unfold slices_IndexFunc_string_string at hm
  clear h0
  refine enterX htab Try.func45 rfl rfl rfl rfl rfl (fun C => ?_)
  refine wpD_seq ?_
  refine wpD_region ?_
  refine p_pure htab rfl rfl rfl rfl ?_
  refine ops_nil ?_
  refine then_normal ?_
  refine wpD_seq ?_
  refine wpD_seq ?_
  refine wpD_region ?_
  refine p_pure htab rfl rfl rfl rfl ?_
  refine p_lenL htab rfl rfl rfl rfl rfl rfl rfl (by first | exact map_len | rfl) ?_
  refine p_pure htab rfl rfl rfl rfl ?_
  refine ops_nil ?_
  refine then_normal ?_
  obtain ⟨x17, q17, ho17⟩ := yes_bind hm
  refine wpD_midX (τ := Unit) (Y := Unit) (fun y17 z17 => (⟨[], [(o0, Blk.cells [.lst 1 (m0.map eStr) c0_0] T0)], []⟩ : S)) x17 ?_ ?_
  · clear hm; have hm := yes_of q17
    refine wpD_block ?_
    obtain ⟨u18, hl18, hq18⟩ := yes_m hm
    refine loop_M (Y := Unit) hl18 (fun s18 z18 => (⟨[(0, .lst 1 (a0.map eStr) .no), (1, .fn (.func 25) [] [.ptr o0 0]), (7, .v (.int .i64 (a0.length : Int))), (8, .v (.int .i64 s18))], [(o0, Blk.cells [.lst 1 (m0.map eStr) c0_0] T0)], []⟩ : S)) ?_ ?_
    · skip
      exact WkX.of () (WkS.perm (WkS.cons rfl (Wk.refl _) (WkS.cons rfl (Wk.refl _) (WkS.cons rfl (Wk.refl _) (WkS.cons rfl (Wk.refl _) (WkS.nil))))) (List.Perm.refl _) (List.Perm.refl _))
    · intro G18 s18 z18 hm
      refine wpD_seq ?_
      refine wpD_region ?_
      refine p_pure htab rfl rfl rfl rfl ?_
      refine ops_nil ?_
      refine then_normal ?_
      refine wpD_seq ?_
      refine wpD_cond rfl (fun hc29 => ?_) (fun hc29 => ?_)
      · replace hm := yes_t hc29 hm
        refine wpD_skip ?_
        refine then_normal ?_
        refine wpD_seq ?_
        refine wpD_block ?_
        refine wpD_seq ?_
        refine wpD_region ?_
        refine p_pure htab rfl rfl rfl rfl ?_
        refine p_pure htab rfl rfl rfl rfl ?_
        refine ops_nil ?_
        refine then_normal ?_
        refine wpD_seq ?_
        refine wpD_region ?_
        refine p_pure htab rfl rfl rfl rfl ?_
        refine p_pure htab rfl rfl rfl rfl ?_
        refine p_pure htab rfl rfl rfl rfl ?_
        obtain ⟨x30, q30, hm⟩ := yes_bind hm
        refine p_elem htab rfl rfl rfl rfl rfl rfl rfl rfl rfl rfl (idx_nonneg q30) (idx_map q30) ?_
        refine p_loadEl htab rfl rfl rfl rfl rfl rfl rfl rfl ?_
        obtain ⟨x31, q31, hm⟩ := yes_bind hm
        refine p_callV (change_Touched_1_ok x30 m0 o0 T0 c0_0 x31 q31) rfl rfl rfl rfl rfl rfl rfl (WkL.refl _) (List.Perm.refl _) (List.Perm.refl _) ?_
        rintro _ _ _ ⟨rfl, rfl, rfl⟩
        refine ops_nil ?_
        refine then_normal ?_
        refine wpD_cond rfl (fun hc32 => ?_) (fun hc32 => ?_)
        · replace hm := yes_t hc32 hm
          refine wpD_seq ?_
          refine wpD_region ?_
          refine p_pure htab rfl rfl rfl rfl ?_
          refine p_pure htab rfl rfl rfl rfl ?_
          refine ops_nil ?_
          refine then_normal ?_
          refine wpD_ret ?_
          refine block_ret ?_
          refine then_ret ?_
          have e18 := lp_done hm; subst e18; clear hm; have hm := hq18
          refine then_ret ?_
          refine block_ret ?_
          have e17 := yes_eq hm; subst e17; refine midX_inr ?_; clear hm; have hm := ho17; simp only [Sum.elim_inr] at hm
          refine then_ret ?_
          have er33 := yes_eq hm; subst er33
          refine retX.of (s' := ⟨[(4, .v (.int .i64 s18))], [(o0, Blk.cells [.lst 1 (m0.map eStr) c0_0] T0)], []⟩) (WkS.perm (WkS.cons rfl (Wk.refl _) (WkS.nil)) (List.Perm.refl _) (List.Perm.refl _)) (retD_mk (hh := [(o0, Blk.cells [.lst 1 (m0.map eStr) c0_0] T0)]) (.inl rfl) (resL_cons (resOne_tmp rfl) (resL_nil)) (List.Sublist.refl _) (List.Sublist.refl _) ?_)
          exact ⟨rfl, rfl, rfl⟩
        · replace hm := yes_f hc32 hm
          refine wpD_skip ?_
          refine block_normal ?_
          refine then_normal ?_
          refine wpD_region ?_
          refine p_pure htab rfl rfl rfl rfl ?_
          refine p_pure htab rfl rfl rfl rfl ?_
          refine ops_nil ?_
          refine then_normal ⟨_, lp_next hm, ?_⟩
          exact WkX.of () (WkS.perm (WkS.cons rfl (Wk.refl _) (WkS.cons rfl (Wk.refl _) (WkS.cons rfl (Wk.refl _) (WkS.cons rfl (Wk.refl _) (WkS.nil))))) (List.Perm.refl _) (List.Perm.refl _))
      · replace hm := yes_f hc29 hm
        refine wpD_exit ?_
        refine then_exit ?_
        have e18 := lp_done hm; subst e18; clear hm; have hm := hq18
        refine then_exit ?_
        refine block_hit ?_
        have e17 := yes_eq hm; subst e17
        refine midX_inl ?_
        exact WkX.of () (WkS.perm (WkS.nil) (List.Perm.refl _) (List.Perm.refl _))
  · intro y17 s17 hx17 hw17; subst hx17; clear hm; have hm := ho17; simp only [Sum.elim_inl] at hm; clear q17 ho17
    refine then_normal ?_
    refine wpD_wkX hw17 (fun z17 => ?_)
    refine wpD_seq ?_
    refine wpD_region ?_
    refine p_pure htab rfl rfl rfl rfl ?_
    refine ops_nil ?_
    refine then_normal ?_
    refine wpD_ret ?_
    have er34 := yes_eq hm; subst er34
    refine retX.of (s' := ⟨[(4, .v (.int .i64 (-1 : Int)))], [(o0, Blk.cells [.lst 1 (m0.map eStr) c0_0] T0)], []⟩) (WkS.perm (WkS.cons rfl (Wk.refl _) (WkS.nil)) (List.Perm.refl _) (List.Perm.refl _)) (retD_mk (hh := [(o0, Blk.cells [.lst 1 (m0.map eStr) c0_0] T0)]) (.inl rfl) (resL_cons (resOne_tmp rfl) (resL_nil)) (List.Sublist.refl _) (List.Sublist.refl _) ?_)
    exact ⟨rfl, rfl, rfl⟩
noncomputable def slices_ContainsFunc_string_string (a0 : List ByteArray) (m0 : List ByteArray) : Option (Bool) :=
  ((slices_IndexFunc_string_string a0 m0).bind fun x1 => some (decide ((0 : Int) ≤ x1)))
set_option maxRecDepth 100000 in
set_option maxHeartbeats 2000000 in
theorem slices_ContainsFunc_string_string_ok (a0 : List ByteArray) (m0 : List ByteArray) (o0 : Nat) (T0 : TypeId) (c0_0 : Cap) (r : Bool) (h0 : slices_ContainsFunc_string_string a0 m0 = some r) : CallsD Try.prog 24 [.lst 1 (a0.map eStr) .no, .fn (.func 25) [] [.ptr o0 0]] [(o0, Blk.cells [.lst 1 (m0.map eStr) c0_0] T0)] [] (fun d h k => d = .v (.bool r) ∧ h = [(o0, Blk.cells [.lst 1 (m0.map eStr) c0_0] T0)] ∧ k = []) := by
  have hm := yes_of h0
  unfold slices_ContainsFunc_string_string at hm
  clear h0
  refine enterX htab Try.func24 rfl rfl rfl rfl rfl (fun C => ?_)
  refine wpD_seq ?_
  refine wpD_region ?_
  refine p_pure htab rfl rfl rfl rfl ?_
  refine ops_nil ?_
  refine then_normal ?_
  refine wpD_seq ?_
  refine wpD_region ?_
  refine p_pure htab rfl rfl rfl rfl ?_
  refine p_pure htab rfl rfl rfl rfl ?_
  obtain ⟨x1, q1, hm⟩ := yes_bind hm
  refine p_callG (slices_IndexFunc_string_string_ok a0 m0 o0 T0 c0_0 x1 q1) rfl rfl rfl rfl rfl (WkL.refl _) (List.Perm.refl _) (List.Perm.refl _) ?_
  rintro _ _ _ ⟨rfl, rfl, rfl⟩
  refine p_pure htab rfl rfl rfl rfl ?_
  refine p_pure htab rfl rfl rfl rfl ?_
  refine ops_nil ?_
  refine then_normal ?_
  refine wpD_ret ?_
  have er2 := yes_eq hm; subst er2
  refine retX.of (s' := ⟨[(4, .v (.bool (decide ((0 : Int) ≤ x1))))], [(o0, Blk.cells [.lst 1 (m0.map eStr) c0_0] T0)], []⟩) (WkS.perm (WkS.cons rfl (Wk.refl _) (WkS.nil)) (List.Perm.refl _) (List.Perm.refl _)) (retD_mk (hh := [(o0, Blk.cells [.lst 1 (m0.map eStr) c0_0] T0)]) (.inl rfl) (resL_cons (resOne_tmp rfl) (resL_nil)) (List.Sublist.refl _) (List.Sublist.refl _) ?_)
  exact ⟨rfl, rfl, rfl⟩
end Go.Proofs.Ytpeimfcmhedjmaa.Ab
