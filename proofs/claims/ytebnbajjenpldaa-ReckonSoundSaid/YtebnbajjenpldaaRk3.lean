/- Layer 4: the laws. -/
import Derived.Test.YtebnbajjenpldaaRk2
namespace Go.Proofs.Ytebnbajjenpldaa.Ab
open Go
set_option linter.all false
structure TSondagelaw04Case where
  gOp : Int
  gA : TApiSpan
  gB : TApiSpan
  gX : Int
  gY : Int
def eTSondagelaw04Case (x : TSondagelaw04Case) : D := .agg [.v (.int .i64 x.gOp), .v (.bool x.gA.gSome), .v (.int .i64 x.gA.gLo), .v (.int .i64 x.gA.gHi), .v (.bool x.gB.gSome), .v (.int .i64 x.gB.gLo), .v (.int .i64 x.gB.gHi), .v (.int .i64 x.gX), .v (.int .i64 x.gY)]
noncomputable def l04_lives : Option (Bool) :=
  ((span_Of (-2 : Int) (3 : Int)).bind fun x1 => ((span_Of (4 : Int) (5 : Int)).bind fun x2 => ((reckon_Do (7 : Int) x1 x2).bind fun x3 => ((span_Of (-10 : Int) (15 : Int)).bind fun x4 => (bif (x3.gSome == x4.gSome && (x3.gLo == x4.gLo && (x3.gHi == x4.gHi && true))) then ((span_One (9223372036854775807 : Int)).bind fun x6 => ((span_One (1 : Int)).bind fun x7 => ((reckon_Do (10 : Int) x6 x7).bind fun x8 => some (x8.gSome == true && (x8.gLo == (-9223372036854775808 : Int) && (x8.gHi == (-9223372036854775808 : Int) && true)))))) else some false)))))
set_option maxRecDepth 100000 in
set_option maxHeartbeats 2000000 in
theorem l04_lives_ok  (r : Bool) (h0 : l04_lives = some r) : CallsD Try.prog 11 [] [] [] (fun d h k => d = .v (.bool r) ∧ h = [] ∧ k = []) := by
  have hm := yes_of h0
  unfold l04_lives at hm
  clear h0
  refine enterX htab Try.func11 rfl rfl rfl rfl rfl (fun C => ?_)
  refine wpD_seq ?_
  refine wpD_region ?_
  refine p_pure htab rfl rfl rfl rfl ?_
  refine ops_nil ?_
  refine then_normal ?_
  refine wpD_seq ?_
  refine wpD_region ?_
  obtain ⟨x1, q1, hm⟩ := yes_bind hm
  refine p_call0 (span_Of_ok (-2 : Int) (3 : Int) x1 q1) rfl rfl rfl rfl rfl (WkL.refl _) ?_
  rintro _ rfl
  obtain ⟨x2, q2, hm⟩ := yes_bind hm
  refine p_call0 (span_Of_ok (4 : Int) (5 : Int) x2 q2) rfl rfl rfl rfl rfl (WkL.refl _) ?_
  rintro _ rfl
  obtain ⟨x3, q3, hm⟩ := yes_bind hm
  refine p_call0 (reckon_Do_ok (7 : Int) x1 x2 x3 q3) rfl rfl rfl rfl rfl (WkL.refl _) ?_
  rintro _ rfl
  obtain ⟨x4, q4, hm⟩ := yes_bind hm
  refine p_call0 (span_Of_ok (-10 : Int) (15 : Int) x4 q4) rfl rfl rfl rfl rfl (WkL.refl _) ?_
  rintro _ rfl
  refine p_eqS htab rfl rfl rfl rfl rfl eqt23 rfl rfl rfl rfl rfl ?_
  refine p_pure htab rfl rfl rfl rfl ?_
  refine p_split (i := 6) rfl (fun hg5 => ?_) (fun hg5 => ?_)
  · replace hm := yes_t hg5 hm
    obtain ⟨x6, q6, hm⟩ := yes_bind hm
    refine p_call0 (span_One_ok (9223372036854775807 : Int) x6 q6) rfl rfl rfl rfl rfl (WkL.refl _) ?_
    rintro _ rfl
    obtain ⟨x7, q7, hm⟩ := yes_bind hm
    refine p_call0 (span_One_ok (1 : Int) x7 q7) rfl rfl rfl rfl rfl (WkL.refl _) ?_
    rintro _ rfl
    obtain ⟨x8, q8, hm⟩ := yes_bind hm
    refine p_call0 (reckon_Do_ok (10 : Int) x6 x7 x8 q8) rfl rfl rfl rfl rfl (WkL.refl _) ?_
    rintro _ rfl
    refine p_build (r := [.v (.bool true), .v (.int .i64 (-9223372036854775808 : Int)), .v (.int .i64 (-9223372036854775808 : Int))]) htab rfl rfl rfl rfl rfl rfl rfl rfl rfl ?_
    refine p_eqS htab rfl rfl rfl rfl rfl eqt23 rfl rfl rfl rfl rfl ?_
    refine p_pickT rfl rfl rfl rfl rfl rfl ?_
    refine p_pure htab rfl rfl rfl rfl ?_
    refine ops_nil ?_
    refine then_normal ?_
    refine wpD_ret ?_
    have er9 := yes_eq hm; subst er9
    refine retX.of (s' := ⟨[(0, .v (.bool (x8.gSome == true && (x8.gLo == (-9223372036854775808 : Int) && (x8.gHi == (-9223372036854775808 : Int) && true)))))], [], []⟩) (WkS.perm (WkS.cons rfl (Wk.refl _) (WkS.nil)) (List.Perm.refl _) (List.Perm.refl _)) (retD_mk (hh := []) (.inl rfl) (resL_cons (resOne_tmp rfl) (resL_nil)) (List.nil_sublist _) (List.Sublist.refl _) ?_)
    exact ⟨rfl, rfl, rfl⟩
  · replace hm := yes_f hg5 hm
    refine p_skip rfl rfl rfl ?_
    refine p_skip rfl rfl rfl ?_
    refine p_skip rfl rfl rfl ?_
    refine p_skip rfl rfl rfl ?_
    refine p_skip rfl rfl rfl ?_
    refine p_pickF rfl rfl rfl rfl rfl rfl ?_
    refine p_pure htab rfl rfl rfl rfl ?_
    refine ops_nil ?_
    refine then_normal ?_
    refine wpD_ret ?_
    have er10 := yes_eq hm; subst er10
    refine retX.of (s' := ⟨[(0, .v (.bool false))], [], []⟩) (WkS.perm (WkS.cons rfl (Wk.refl _) (WkS.nil)) (List.Perm.refl _) (List.Perm.refl _)) (retD_mk (hh := []) (.inl rfl) (resL_cons (resOne_tmp rfl) (resL_nil)) (List.nil_sublist _) (List.Sublist.refl _) ?_)
    exact ⟨rfl, rfl, rfl⟩
noncomputable def l04_ReckonDoes (a0 : Int) (a1 : TApiSpan) (a2 : TApiSpan) : Option (Bool) :=
  ((reckon_Do a0 a1 a2).bind fun x3 => ((r04_Do a0 a1 a2).bind fun x4 => (bif (x3.gSome == x4.gSome && (x3.gLo == x4.gLo && (x3.gHi == x4.gHi && true))) then ((reckon_Traps a0 a2).bind fun x6 => (bif (a0 == (8 : Int)) then ((r03_Has a2 (0 : Int)).bind fun x8 => (bif (x6 == x8) then (l04_lives.bind fun x10 => some x10) else some false)) else (bif (a0 == (9 : Int)) then ((r03_Has a2 (0 : Int)).bind fun x14 => (bif (x6 == x14) then (l04_lives.bind fun x16 => some x16) else some false)) else (bif (x6 == false) then (l04_lives.bind fun x20 => some x20) else some false)))) else some false)))
set_option maxRecDepth 100000 in
set_option maxHeartbeats 2000000 in
theorem l04_ReckonDoes_ok (a0 : Int) (a1 : TApiSpan) (a2 : TApiSpan) (r : Bool) (h0 : l04_ReckonDoes a0 a1 a2 = some r) : CallsD Try.prog 3 [.v (.int .i64 a0), eTApiSpan a1, eTApiSpan a2] [] [] (fun d h k => d = .v (.bool r) ∧ h = [] ∧ k = []) := by
  have hm := yes_of h0
  unfold l04_ReckonDoes at hm
  clear h0
  refine enterX htab Try.func3 rfl rfl rfl rfl rfl (fun C => ?_)
  refine wpD_seq ?_
  refine wpD_region ?_
  refine p_box rfl rfl rfl rfl rfl rfl rfl (fun b1 => ?_)
  refine p_box rfl rfl rfl rfl rfl rfl rfl (fun b2 => ?_)
  refine p_pure htab rfl rfl rfl rfl ?_
  refine ops_nil ?_
  refine then_normal ?_
  refine wpD_seq ?_
  obtain ⟨x3, q3, hm⟩ := yes_bind hm
  obtain ⟨x4, q4, hm⟩ := yes_bind hm
  refine bycB (x3.gSome == x4.gSome && (x3.gLo == x4.gLo && (x3.gHi == x4.gHi && true))) (fun hs5 => ?_) (fun hs5 => ?_)
  · replace hm := yes_t hs5 hm
    obtain ⟨x6, q6, hm⟩ := yes_bind hm
    refine wpD_draws 15 [] [[],[],[],[1,2],[],[],[],[1,2,3,5,6],[1,2,3,5,6,7],[1,2,3,5,6,7],[1,2,3,5,6,7],[1,2,3,5,6,7],[1,2,3,5,6,7,11],[1,2,3,5,6,7],[1,2,3,5,6,7]] [1,2,3,5,6,7,11,12] [[],[],[],[0,1,2],[],[],[],[0,1,2,3,4,5,6],[0,1,2,3,4,5,6,7],[0,1,2,3,4,5,6,7,8],[0,1,2,3,4,5,6,7,8,9],[0,1,2,3,4,5,6,7,8,9],[0,1,2,3,4,5,6,7,8,9,10,11],[0,1,2,3,4,5,6,7,8,9],[0,1,2,3,4,5,6,7,8,9,13],[0,1,2,3,4,5,6,7,8,9,10,11,12,13,14],[0,1,2,3,4,5,6,7,8,9,10,11,12,13,14,15],[0,1,2,3,4,5,6,7,8,9,10,11,12,13,14,15,16],[0,1,2,3,4,5,6,7,8,9,10,11,12,13,14,15,16,17],[0,1,2,3,4,5,6,7,8,9,10,11,12,13,14,15,16,17,18],[0,1,2,3,4,5,6,7,8,9,10,11,12,13,14,15,16,17,18,19],[0,1,2,3,4,5,6,7,8,9,10,11,12,13,14,15,16,17,18,19,20],[0,1,2,3,4,5,6,7,8,9,10,11,12,13,14,15,16,17,18,19,20,21],[0,1,2,3,4,5,6,7,8,9,10,11,12,13,14,15,16,17,18,19,20,21,22],[0,1,2,3,4,5,6,7,8,9,10,11,12,13,14,15,16,17,18,19,20,21,22,23],[0,1,2,3,4,5,6,7,8,9,10,11,12,13,14,15,16,17,18,19,20,21,22,23,24],[0,1,2,3,4,5,6,7,8,9,10,11,12,13,14,15,16,17,18,19,20,21,22,23,24,25],[0,1,2,3,4,5,6,7,8,9,10,11,12,13,14,15,16,17,18,19,20,21,22,23,24,25,26],[0,1,2,3,4,5,6,7,8,9,10,11,12,13,14,15,16,17,18,19,20,21,22,23,24,25,26,27]] (by kernel_rfl) (by kernel_rfl) (by kernel_rfl) (by rfl) (by rfl) (by kernel_rfl) ?_
    apply Exists.intro
    apply Exists.intro
    apply Exists.intro
    apply Exists.intro
    apply Exists.intro
    apply Exists.intro
    apply Exists.intro
    apply Exists.intro
    intro bs
    refine z_q rfl rfl (ex_pure htab rfl) rfl rfl rfl rfl rfl rfl ?_
    refine z_eM rfl rfl (xm_load (d := eTApiSpan a1) 0 htab rfl rfl rfl rfl rfl) rfl rfl rfl rfl rfl rfl ?_
    refine z_eM rfl rfl (xm_load (d := eTApiSpan a2) 1 htab rfl rfl rfl rfl rfl) rfl rfl rfl rfl rfl rfl ?_
    refine z_call rfl rfl (reckon_Do_ok a0 a1 a2 x3 q3) rfl rfl (WkL.refl _) rfl rfl rfl rfl rfl rfl ?_
    refine z_q rfl rfl (ex_pure htab rfl) rfl rfl rfl rfl rfl rfl ?_
    refine z_eM rfl rfl (xm_load (d := eTApiSpan a1) 0 htab rfl rfl rfl rfl rfl) rfl rfl rfl rfl rfl rfl ?_
    refine z_eM rfl rfl (xm_load (d := eTApiSpan a2) 1 htab rfl rfl rfl rfl rfl) rfl rfl rfl rfl rfl rfl ?_
    refine z_call rfl rfl (r04_Do_ok a0 a1 a2 x4 q4) rfl rfl (WkL.refl _) rfl rfl rfl rfl rfl rfl ?_
    refine z_q rfl rfl (x_eqS htab rfl rfl eqt23 rfl rfl rfl rfl rfl) rfl rfl rfl rfl rfl rfl ?_
    refine z_q rfl rfl (ex_pure htab rfl) rfl rfl rfl rfl rfl rfl ?_
    refine z_known (j := 16) (b' := true) rfl hs5 ?_
    refine z_q rfl rfl (ex_pure htab rfl) rfl rfl rfl rfl rfl rfl ?_
    refine z_eM rfl rfl (xm_load (d := eTApiSpan a2) 1 htab rfl rfl rfl rfl rfl) rfl rfl rfl rfl rfl rfl ?_
    refine z_call rfl rfl (reckon_Traps_ok a0 a2 x6 q6) rfl rfl (WkL.refl _) rfl rfl rfl rfl rfl rfl ?_
    refine z_q rfl rfl (ex_pure htab rfl) rfl rfl rfl rfl rfl rfl ?_
    refine z_q rfl rfl (ex_pure htab rfl) rfl rfl rfl rfl rfl rfl ?_
    refine z_nil rfl rfl (fun e he => by simp [isAl] at he) ?_
    refine p_pure htab rfl rfl rfl rfl ?_
    refine p_split (i := 22) rfl (fun hg7 => ?_) (fun hg7 => ?_)
    · replace hm := yes_t hg7 hm
      refine p_skip rfl rfl rfl ?_
      refine p_skip rfl rfl rfl ?_
      refine p_pickT rfl rfl rfl rfl rfl rfl ?_
      refine p_pure htab rfl rfl rfl rfl ?_
      refine p_load (d := eTApiSpan a2) 1 htab rfl rfl rfl rfl rfl rfl rfl rfl ?_
      obtain ⟨x8, q8, hm⟩ := yes_bind hm
      refine p_call0 (r03_Has_ok a2 (0 : Int) x8 q8) rfl rfl rfl rfl rfl (WkL.refl _) ?_
      rintro _ rfl
      refine p_pickT rfl rfl rfl rfl rfl rfl ?_
      refine p_pure htab rfl rfl rfl rfl ?_
      refine p_pickT rfl rfl rfl rfl rfl rfl ?_
      refine p_pure htab rfl rfl rfl rfl ?_
      refine p_split (i := 32) rfl (fun hg9 => ?_) (fun hg9 => ?_)
      · replace hm := yes_t hg9 hm
        obtain ⟨x10, q10, hm⟩ := yes_bind hm
        refine p_call0 (l04_lives_ok  x10 q10) rfl rfl rfl rfl rfl (WkL.refl _) ?_
        rintro _ rfl
        refine p_pickT rfl rfl rfl rfl rfl rfl ?_
        refine p_pure htab rfl rfl rfl rfl ?_
        refine ops_nil ?_
        refine then_normal ?_
        refine wpD_ret ?_
        have er11 := yes_eq hm; subst er11
        refine retX.of (s' := ⟨[(6, .v (.bool x10))], [], []⟩) (WkS.perm (WkS.cons rfl (Wk.refl _) (WkS.nil)) (List.Perm.refl _) (List.Perm.refl _)) (retD_mk (hh := []) (.inl rfl) (resL_cons (resOne_tmp rfl) (resL_nil)) (List.nil_sublist _) (List.Sublist.refl _) ?_)
        exact ⟨rfl, rfl, rfl⟩
      · replace hm := yes_f hg9 hm
        refine p_skip rfl rfl rfl ?_
        refine p_pickF rfl rfl rfl rfl rfl rfl ?_
        refine p_pure htab rfl rfl rfl rfl ?_
        refine ops_nil ?_
        refine then_normal ?_
        refine wpD_ret ?_
        have er12 := yes_eq hm; subst er12
        refine retX.of (s' := ⟨[(6, .v (.bool false))], [], []⟩) (WkS.perm (WkS.cons rfl (Wk.refl _) (WkS.nil)) (List.Perm.refl _) (List.Perm.refl _)) (retD_mk (hh := []) (.inl rfl) (resL_cons (resOne_tmp rfl) (resL_nil)) (List.nil_sublist _) (List.Sublist.refl _) ?_)
        exact ⟨rfl, rfl, rfl⟩
    · replace hm := yes_f hg7 hm
      refine p_pure htab rfl rfl rfl rfl ?_
      refine p_pure htab rfl rfl rfl rfl ?_
      refine p_pickF rfl rfl rfl rfl rfl rfl ?_
      refine p_pure htab rfl rfl rfl rfl ?_
      refine p_split (i := 26) rfl (fun hg13 => ?_) (fun hg13 => ?_)
      · replace hm := yes_t hg13 hm
        refine p_load (d := eTApiSpan a2) 1 htab rfl rfl rfl rfl rfl rfl rfl rfl ?_
        obtain ⟨x14, q14, hm⟩ := yes_bind hm
        refine p_call0 (r03_Has_ok a2 (0 : Int) x14 q14) rfl rfl rfl rfl rfl (WkL.refl _) ?_
        rintro _ rfl
        refine p_pickT rfl rfl rfl rfl rfl rfl ?_
        refine p_pure htab rfl rfl rfl rfl ?_
        refine p_pickT rfl rfl rfl rfl rfl rfl ?_
        refine p_pure htab rfl rfl rfl rfl ?_
        refine p_split (i := 32) rfl (fun hg15 => ?_) (fun hg15 => ?_)
        · replace hm := yes_t hg15 hm
          obtain ⟨x16, q16, hm⟩ := yes_bind hm
          refine p_call0 (l04_lives_ok  x16 q16) rfl rfl rfl rfl rfl (WkL.refl _) ?_
          rintro _ rfl
          refine p_pickT rfl rfl rfl rfl rfl rfl ?_
          refine p_pure htab rfl rfl rfl rfl ?_
          refine ops_nil ?_
          refine then_normal ?_
          refine wpD_ret ?_
          have er17 := yes_eq hm; subst er17
          refine retX.of (s' := ⟨[(6, .v (.bool x16))], [], []⟩) (WkS.perm (WkS.cons rfl (Wk.refl _) (WkS.nil)) (List.Perm.refl _) (List.Perm.refl _)) (retD_mk (hh := []) (.inl rfl) (resL_cons (resOne_tmp rfl) (resL_nil)) (List.nil_sublist _) (List.Sublist.refl _) ?_)
          exact ⟨rfl, rfl, rfl⟩
        · replace hm := yes_f hg15 hm
          refine p_skip rfl rfl rfl ?_
          refine p_pickF rfl rfl rfl rfl rfl rfl ?_
          refine p_pure htab rfl rfl rfl rfl ?_
          refine ops_nil ?_
          refine then_normal ?_
          refine wpD_ret ?_
          have er18 := yes_eq hm; subst er18
          refine retX.of (s' := ⟨[(6, .v (.bool false))], [], []⟩) (WkS.perm (WkS.cons rfl (Wk.refl _) (WkS.nil)) (List.Perm.refl _) (List.Perm.refl _)) (retD_mk (hh := []) (.inl rfl) (resL_cons (resOne_tmp rfl) (resL_nil)) (List.nil_sublist _) (List.Sublist.refl _) ?_)
          exact ⟨rfl, rfl, rfl⟩
      · replace hm := yes_f hg13 hm
        refine p_skip rfl rfl rfl ?_
        refine p_skip rfl rfl rfl ?_
        refine p_pickF rfl rfl rfl rfl rfl rfl ?_
        refine p_pure htab rfl rfl rfl rfl ?_
        refine p_pickT rfl rfl rfl rfl rfl rfl ?_
        refine p_pure htab rfl rfl rfl rfl ?_
        refine p_split (i := 32) rfl (fun hg19 => ?_) (fun hg19 => ?_)
        · replace hm := yes_t hg19 hm
          obtain ⟨x20, q20, hm⟩ := yes_bind hm
          refine p_call0 (l04_lives_ok  x20 q20) rfl rfl rfl rfl rfl (WkL.refl _) ?_
          rintro _ rfl
          refine p_pickT rfl rfl rfl rfl rfl rfl ?_
          refine p_pure htab rfl rfl rfl rfl ?_
          refine ops_nil ?_
          refine then_normal ?_
          refine wpD_ret ?_
          have er21 := yes_eq hm; subst er21
          refine retX.of (s' := ⟨[(6, .v (.bool x20))], [], []⟩) (WkS.perm (WkS.cons rfl (Wk.refl _) (WkS.nil)) (List.Perm.refl _) (List.Perm.refl _)) (retD_mk (hh := []) (.inl rfl) (resL_cons (resOne_tmp rfl) (resL_nil)) (List.nil_sublist _) (List.Sublist.refl _) ?_)
          exact ⟨rfl, rfl, rfl⟩
        · replace hm := yes_f hg19 hm
          refine p_skip rfl rfl rfl ?_
          refine p_pickF rfl rfl rfl rfl rfl rfl ?_
          refine p_pure htab rfl rfl rfl rfl ?_
          refine ops_nil ?_
          refine then_normal ?_
          refine wpD_ret ?_
          have er22 := yes_eq hm; subst er22
          refine retX.of (s' := ⟨[(6, .v (.bool false))], [], []⟩) (WkS.perm (WkS.cons rfl (Wk.refl _) (WkS.nil)) (List.Perm.refl _) (List.Perm.refl _)) (retD_mk (hh := []) (.inl rfl) (resL_cons (resOne_tmp rfl) (resL_nil)) (List.nil_sublist _) (List.Sublist.refl _) ?_)
          exact ⟨rfl, rfl, rfl⟩
  · replace hm := yes_f hs5 hm
    refine wpD_draws 15 [] [[],[],[],[1,2],[],[],[],[1,2,3,5,6],[1,2,3,5,6,7],[1,2,3,5,6,7],[1,2,3,5,6,7],[1,2,3,5,6,7],[1,2,3,5,6,7],[1,2,3,5,6,7],[1,2,3,5,6,7]] [1,2,3,5,6,7] [[],[],[],[0,1,2],[],[],[],[0,1,2,3,4,5,6],[0,1,2,3,4,5,6,7],[0,1,2,3,4,5,6,7,8],[0,1,2,3,4,5,6,7,8,9],[0,1,2,3,4,5,6,7,8,9],[0,1,2,3,4,5,6,7,8,9,10,11],[0,1,2,3,4,5,6,7,8,9],[0,1,2,3,4,5,6,7,8,9,13],[0,1,2,3,4,5,6,7,8,9,10,11,12,13,14],[0,1,2,3,4,5,6,7,8,9,10,11,12,13,14,15],[0,1,2,3,4,5,6,7,8,9,10,11,12,13,14,15,16],[0,1,2,3,4,5,6,7,8,9,10,11,12,13,14,15,16,17],[0,1,2,3,4,5,6,7,8,9,10,11,12,13,14,15,16,17,18],[0,1,2,3,4,5,6,7,8,9,10,11,12,13,14,15,16,17,18,19],[0,1,2,3,4,5,6,7,8,9,10,11,12,13,14,15,16,17,18,19,20],[0,1,2,3,4,5,6,7,8,9,10,11,12,13,14,15,16,17,18,19,20,21],[0,1,2,3,4,5,6,7,8,9,10,11,12,13,14,15,16,17,18,19,20,21,22],[0,1,2,3,4,5,6,7,8,9,10,11,12,13,14,15,16,17,18,19,20,21,22,23],[0,1,2,3,4,5,6,7,8,9,10,11,12,13,14,15,16,17,18,19,20,21,22,23,24],[0,1,2,3,4,5,6,7,8,9,10,11,12,13,14,15,16,17,18,19,20,21,22,23,24,25],[0,1,2,3,4,5,6,7,8,9,10,11,12,13,14,15,16,17,18,19,20,21,22,23,24,25,26],[0,1,2,3,4,5,6,7,8,9,10,11,12,13,14,15,16,17,18,19,20,21,22,23,24,25,26,27]] (by kernel_rfl) (by kernel_rfl) (by kernel_rfl) (by rfl) (by rfl) (by kernel_rfl) ?_
    apply Exists.intro
    apply Exists.intro
    apply Exists.intro
    apply Exists.intro
    apply Exists.intro
    apply Exists.intro
    intro bs
    refine z_q rfl rfl (ex_pure htab rfl) rfl rfl rfl rfl rfl rfl ?_
    refine z_eM rfl rfl (xm_load (d := eTApiSpan a1) 0 htab rfl rfl rfl rfl rfl) rfl rfl rfl rfl rfl rfl ?_
    refine z_eM rfl rfl (xm_load (d := eTApiSpan a2) 1 htab rfl rfl rfl rfl rfl) rfl rfl rfl rfl rfl rfl ?_
    refine z_call rfl rfl (reckon_Do_ok a0 a1 a2 x3 q3) rfl rfl (WkL.refl _) rfl rfl rfl rfl rfl rfl ?_
    refine z_q rfl rfl (ex_pure htab rfl) rfl rfl rfl rfl rfl rfl ?_
    refine z_eM rfl rfl (xm_load (d := eTApiSpan a1) 0 htab rfl rfl rfl rfl rfl) rfl rfl rfl rfl rfl rfl ?_
    refine z_eM rfl rfl (xm_load (d := eTApiSpan a2) 1 htab rfl rfl rfl rfl rfl) rfl rfl rfl rfl rfl rfl ?_
    refine z_call rfl rfl (r04_Do_ok a0 a1 a2 x4 q4) rfl rfl (WkL.refl _) rfl rfl rfl rfl rfl rfl ?_
    refine z_q rfl rfl (x_eqS htab rfl rfl eqt23 rfl rfl rfl rfl rfl) rfl rfl rfl rfl rfl rfl ?_
    refine z_q rfl rfl (ex_pure htab rfl) rfl rfl rfl rfl rfl rfl ?_
    refine z_known (j := 16) (b' := false) rfl hs5 ?_
    refine z_skip rfl rfl rfl rfl ?_
    refine z_skip rfl rfl rfl rfl ?_
    refine z_skip rfl rfl rfl rfl ?_
    refine z_skip rfl rfl rfl rfl ?_
    refine z_skip rfl rfl rfl rfl ?_
    refine z_nil rfl rfl (fun e he => by simp [isAl] at he) ?_
    refine p_skip rfl rfl rfl ?_
    refine p_skip rfl rfl rfl ?_
    refine p_skip rfl rfl rfl ?_
    refine p_skip rfl rfl rfl ?_
    refine p_skip rfl rfl rfl ?_
    refine p_skip rfl rfl rfl ?_
    refine p_skip rfl rfl rfl ?_
    refine p_skip rfl rfl rfl ?_
    refine p_skip rfl rfl rfl ?_
    refine p_pickF rfl rfl rfl rfl rfl rfl ?_
    refine p_pure htab rfl rfl rfl rfl ?_
    refine p_skip rfl rfl rfl ?_
    refine p_pickF rfl rfl rfl rfl rfl rfl ?_
    refine p_pure htab rfl rfl rfl rfl ?_
    refine ops_nil ?_
    refine then_normal ?_
    refine wpD_ret ?_
    have er23 := yes_eq hm; subst er23
    refine retX.of (s' := ⟨[(6, .v (.bool false))], [], []⟩) (WkS.perm (WkS.cons rfl (Wk.refl _) (WkS.nil)) (List.Perm.refl _) (List.Perm.refl _)) (retD_mk (hh := []) (.inl rfl) (resL_cons (resOne_tmp rfl) (resL_nil)) (List.nil_sublist _) (List.Sublist.refl _) ?_)
    exact ⟨rfl, rfl, rfl⟩
noncomputable def l04_ReckonOnes (a0 : Int) (a1 : TApiSpan) (a2 : T2ApiWide) : Option (Bool) :=
  ((reckon_One a0 a1).bind fun x3 => ((r04_One a0 a1).bind fun x4 => (bif (x3.gSome == x4.gSome && (x3.gLo == x4.gLo && (x3.gHi == x4.gHi && true))) then ((reckon_Wrap a2.g0 a2.g1).bind fun x6 => ((r04_Wrap a2.g0 a2.g1).bind fun x7 => (bif (x6.gSome == x7.gSome && (x6.gLo == x7.gLo && (x6.gHi == x7.gHi && true))) then (l04_lives.bind fun x9 => some x9) else some false))) else some false)))
set_option maxRecDepth 100000 in
set_option maxHeartbeats 2000000 in
theorem l04_ReckonOnes_ok (a0 : Int) (a1 : TApiSpan) (a2 : T2ApiWide) (r : Bool) (h0 : l04_ReckonOnes a0 a1 a2 = some r) : CallsD Try.prog 4 [.v (.int .i64 a0), eTApiSpan a1, eT2ApiWide a2] [] [] (fun d h k => d = .v (.bool r) ∧ h = [] ∧ k = []) := by
  have hm := yes_of h0
  unfold l04_ReckonOnes at hm
  clear h0
  refine enterX htab Try.func4 rfl rfl rfl rfl rfl (fun C => ?_)
  refine wpD_seq ?_
  refine wpD_region ?_
  refine p_box rfl rfl rfl rfl rfl rfl rfl (fun b1 => ?_)
  refine p_box rfl rfl rfl rfl rfl rfl rfl (fun b2 => ?_)
  refine p_pure htab rfl rfl rfl rfl ?_
  refine ops_nil ?_
  refine then_normal ?_
  refine wpD_seq ?_
  obtain ⟨x3, q3, hm⟩ := yes_bind hm
  obtain ⟨x4, q4, hm⟩ := yes_bind hm
  refine bycB (x3.gSome == x4.gSome && (x3.gLo == x4.gLo && (x3.gHi == x4.gHi && true))) (fun hs5 => ?_) (fun hs5 => ?_)
  · replace hm := yes_t hs5 hm
    obtain ⟨x6, q6, hm⟩ := yes_bind hm
    refine wpD_draws 17 [] [[],[],[1],[],[],[1,2,4],[1,2,4,5],[1,2,4,5],[1,2,4,5],[1,2,4,5,8],[1,2,4,5],[1,2,4,5,10],[1,2,4,5,8,9,10,11],[1,2,4,5],[1,2,4,5,13],[1,2,4,5],[1,2,4,5,15]] [1,2,4,5,8,9,10,11,12,13,14,15,16] [[],[],[0,1],[],[],[0,1,2,3,4],[0,1,2,3,4,5],[0,1,2,3,4,5,6],[0,1,2,3,4,5,6,7],[0,1,2,3,4,5,6,7,8],[0,1,2,3,4,5,6,7],[0,1,2,3,4,5,6,7,10],[0,1,2,3,4,5,6,7,8,9,10,11],[0,1,2,3,4,5,6,7],[0,1,2,3,4,5,6,7,13],[0,1,2,3,4,5,6,7],[0,1,2,3,4,5,6,7,15],[0,1,2,3,4,5,6,7,8,9,10,11,12,13,14,15,16],[0,1,2,3,4,5,6,7,8,9,10,11,12,13,14,15,16,17],[0,1,2,3,4,5,6,7,8,9,10,11,12,13,14,15,16,17,18],[0,1,2,3,4,5,6,7,8,9,10,11,12,13,14,15,16,17,18,19],[0,1,2,3,4,5,6,7,8,9,10,11,12,13,14,15,16,17,18,19,20],[0,1,2,3,4,5,6,7,8,9,10,11,12,13,14,15,16,17,18,19,20,21],[0,1,2,3,4,5,6,7,8,9,10,11,12,13,14,15,16,17,18,19,20,21,22]] (by kernel_rfl) (by kernel_rfl) (by kernel_rfl) (by rfl) (by rfl) (by kernel_rfl) ?_
    apply Exists.intro
    apply Exists.intro
    apply Exists.intro
    apply Exists.intro
    apply Exists.intro
    apply Exists.intro
    apply Exists.intro
    apply Exists.intro
    apply Exists.intro
    apply Exists.intro
    apply Exists.intro
    apply Exists.intro
    apply Exists.intro
    intro bs
    refine z_q rfl rfl (ex_pure htab rfl) rfl rfl rfl rfl rfl rfl ?_
    refine z_eM rfl rfl (xm_load (d := eTApiSpan a1) 0 htab rfl rfl rfl rfl rfl) rfl rfl rfl rfl rfl rfl ?_
    refine z_call rfl rfl (reckon_One_ok a0 a1 x3 q3) rfl rfl (WkL.refl _) rfl rfl rfl rfl rfl rfl ?_
    refine z_q rfl rfl (ex_pure htab rfl) rfl rfl rfl rfl rfl rfl ?_
    refine z_eM rfl rfl (xm_load (d := eTApiSpan a1) 0 htab rfl rfl rfl rfl rfl) rfl rfl rfl rfl rfl rfl ?_
    refine z_call rfl rfl (r04_One_ok a0 a1 x4 q4) rfl rfl (WkL.refl _) rfl rfl rfl rfl rfl rfl ?_
    refine z_q rfl rfl (x_eqS htab rfl rfl eqt23 rfl rfl rfl rfl rfl) rfl rfl rfl rfl rfl rfl ?_
    refine z_q rfl rfl (ex_pure htab rfl) rfl rfl rfl rfl rfl rfl ?_
    refine z_known (j := 14) (b' := true) rfl hs5 ?_
    refine z_e rfl rfl (x_elemA htab rfl rfl rfl rfl rfl rfl (by decide) (by decide)) rfl rfl rfl rfl rfl rfl ?_
    refine z_eM rfl rfl (xm_load (d := eTApiWide a2.g0) 1 htab rfl rfl rfl rfl rfl) rfl rfl rfl rfl rfl rfl ?_
    refine z_e rfl rfl (x_elemA htab rfl rfl rfl rfl rfl rfl (by decide) (by decide)) rfl rfl rfl rfl rfl rfl ?_
    refine z_eM rfl rfl (xm_load (d := eTApiWide a2.g1) 1 htab rfl rfl rfl rfl rfl) rfl rfl rfl rfl rfl rfl ?_
    refine z_call rfl rfl (reckon_Wrap_ok a2.g0 a2.g1 x6 q6) rfl rfl (WkL.refl _) rfl rfl rfl rfl rfl rfl ?_
    refine z_e rfl rfl (x_elemA htab rfl rfl rfl rfl rfl rfl (by decide) (by decide)) rfl rfl rfl rfl rfl rfl ?_
    refine z_eM rfl rfl (xm_load (d := eTApiWide a2.g0) 1 htab rfl rfl rfl rfl rfl) rfl rfl rfl rfl rfl rfl ?_
    refine z_e rfl rfl (x_elemA htab rfl rfl rfl rfl rfl rfl (by decide) (by decide)) rfl rfl rfl rfl rfl rfl ?_
    refine z_eM rfl rfl (xm_load (d := eTApiWide a2.g1) 1 htab rfl rfl rfl rfl rfl) rfl rfl rfl rfl rfl rfl ?_
    refine z_nil rfl rfl (fun e he => by simp [isAl] at he) ?_
    obtain ⟨x7, q7, hm⟩ := yes_bind hm
    refine p_call0 (r04_Wrap_ok a2.g0 a2.g1 x7 q7) rfl rfl rfl rfl rfl (WkL.refl _) ?_
    rintro _ rfl
    refine p_eqS htab rfl rfl rfl rfl rfl eqt23 rfl rfl rfl rfl rfl ?_
    refine p_pickT rfl rfl rfl rfl rfl rfl ?_
    refine p_pure htab rfl rfl rfl rfl ?_
    refine p_split (i := 27) rfl (fun hg8 => ?_) (fun hg8 => ?_)
    · replace hm := yes_t hg8 hm
      obtain ⟨x9, q9, hm⟩ := yes_bind hm
      refine p_call0 (l04_lives_ok  x9 q9) rfl rfl rfl rfl rfl (WkL.refl _) ?_
      rintro _ rfl
      refine p_pickT rfl rfl rfl rfl rfl rfl ?_
      refine p_pure htab rfl rfl rfl rfl ?_
      refine ops_nil ?_
      refine then_normal ?_
      refine wpD_ret ?_
      have er10 := yes_eq hm; subst er10
      refine retX.of (s' := ⟨[(6, .v (.bool x9))], [], []⟩) (WkS.perm (WkS.cons rfl (Wk.refl _) (WkS.nil)) (List.Perm.refl _) (List.Perm.refl _)) (retD_mk (hh := []) (.inl rfl) (resL_cons (resOne_tmp rfl) (resL_nil)) (List.nil_sublist _) (List.Sublist.refl _) ?_)
      exact ⟨rfl, rfl, rfl⟩
    · replace hm := yes_f hg8 hm
      refine p_skip rfl rfl rfl ?_
      refine p_pickF rfl rfl rfl rfl rfl rfl ?_
      refine p_pure htab rfl rfl rfl rfl ?_
      refine ops_nil ?_
      refine then_normal ?_
      refine wpD_ret ?_
      have er11 := yes_eq hm; subst er11
      refine retX.of (s' := ⟨[(6, .v (.bool false))], [], []⟩) (WkS.perm (WkS.cons rfl (Wk.refl _) (WkS.nil)) (List.Perm.refl _) (List.Perm.refl _)) (retD_mk (hh := []) (.inl rfl) (resL_cons (resOne_tmp rfl) (resL_nil)) (List.nil_sublist _) (List.Sublist.refl _) ?_)
      exact ⟨rfl, rfl, rfl⟩
  · replace hm := yes_f hs5 hm
    refine wpD_draws 17 [] [[],[],[1],[],[],[1,2,4],[1,2,4,5],[1,2,4,5],[1,2,4,5],[1,2,4,5],[1,2,4,5],[1,2,4,5],[1,2,4,5],[1,2,4,5],[1,2,4,5],[1,2,4,5],[1,2,4,5]] [1,2,4,5] [[],[],[0,1],[],[],[0,1,2,3,4],[0,1,2,3,4,5],[0,1,2,3,4,5,6],[0,1,2,3,4,5,6,7],[0,1,2,3,4,5,6,7,8],[0,1,2,3,4,5,6,7],[0,1,2,3,4,5,6,7,10],[0,1,2,3,4,5,6,7,8,9,10,11],[0,1,2,3,4,5,6,7],[0,1,2,3,4,5,6,7,13],[0,1,2,3,4,5,6,7],[0,1,2,3,4,5,6,7,15],[0,1,2,3,4,5,6,7,8,9,10,11,12,13,14,15,16],[0,1,2,3,4,5,6,7,8,9,10,11,12,13,14,15,16,17],[0,1,2,3,4,5,6,7,8,9,10,11,12,13,14,15,16,17,18],[0,1,2,3,4,5,6,7,8,9,10,11,12,13,14,15,16,17,18,19],[0,1,2,3,4,5,6,7,8,9,10,11,12,13,14,15,16,17,18,19,20],[0,1,2,3,4,5,6,7,8,9,10,11,12,13,14,15,16,17,18,19,20,21],[0,1,2,3,4,5,6,7,8,9,10,11,12,13,14,15,16,17,18,19,20,21,22]] (by kernel_rfl) (by kernel_rfl) (by kernel_rfl) (by rfl) (by rfl) (by kernel_rfl) ?_
    apply Exists.intro
    apply Exists.intro
    apply Exists.intro
    apply Exists.intro
    intro bs
    refine z_q rfl rfl (ex_pure htab rfl) rfl rfl rfl rfl rfl rfl ?_
    refine z_eM rfl rfl (xm_load (d := eTApiSpan a1) 0 htab rfl rfl rfl rfl rfl) rfl rfl rfl rfl rfl rfl ?_
    refine z_call rfl rfl (reckon_One_ok a0 a1 x3 q3) rfl rfl (WkL.refl _) rfl rfl rfl rfl rfl rfl ?_
    refine z_q rfl rfl (ex_pure htab rfl) rfl rfl rfl rfl rfl rfl ?_
    refine z_eM rfl rfl (xm_load (d := eTApiSpan a1) 0 htab rfl rfl rfl rfl rfl) rfl rfl rfl rfl rfl rfl ?_
    refine z_call rfl rfl (r04_One_ok a0 a1 x4 q4) rfl rfl (WkL.refl _) rfl rfl rfl rfl rfl rfl ?_
    refine z_q rfl rfl (x_eqS htab rfl rfl eqt23 rfl rfl rfl rfl rfl) rfl rfl rfl rfl rfl rfl ?_
    refine z_q rfl rfl (ex_pure htab rfl) rfl rfl rfl rfl rfl rfl ?_
    refine z_known (j := 14) (b' := false) rfl hs5 ?_
    refine z_skip rfl rfl rfl rfl ?_
    refine z_skip rfl rfl rfl rfl ?_
    refine z_skip rfl rfl rfl rfl ?_
    refine z_skip rfl rfl rfl rfl ?_
    refine z_skip rfl rfl rfl rfl ?_
    refine z_skip rfl rfl rfl rfl ?_
    refine z_skip rfl rfl rfl rfl ?_
    refine z_skip rfl rfl rfl rfl ?_
    refine z_skip rfl rfl rfl rfl ?_
    refine z_nil rfl rfl (fun e he => by simp [isAl] at he) ?_
    refine p_skip rfl rfl rfl ?_
    refine p_skip rfl rfl rfl ?_
    refine p_pickF rfl rfl rfl rfl rfl rfl ?_
    refine p_pure htab rfl rfl rfl rfl ?_
    refine p_skip rfl rfl rfl ?_
    refine p_pickF rfl rfl rfl rfl rfl rfl ?_
    refine p_pure htab rfl rfl rfl rfl ?_
    refine ops_nil ?_
    refine then_normal ?_
    refine wpD_ret ?_
    have er12 := yes_eq hm; subst er12
    refine retX.of (s' := ⟨[(6, .v (.bool false))], [], []⟩) (WkS.perm (WkS.cons rfl (Wk.refl _) (WkS.nil)) (List.Perm.refl _) (List.Perm.refl _)) (retD_mk (hh := []) (.inl rfl) (resL_cons (resOne_tmp rfl) (resL_nil)) (List.nil_sublist _) (List.Sublist.refl _) ?_)
    exact ⟨rfl, rfl, rfl⟩
noncomputable def l04_within (a0 : TApiSpan) (a1 : Int) : Option (Int) :=
  ((r03_Has a0 a1).bind fun x2 => (bif x2 then some a1 else (bif ((bitI .and .i64 a1 (1 : Int)) == (0 : Int)) then some a0.gLo else some a0.gHi)))
set_option maxRecDepth 100000 in
set_option maxHeartbeats 2000000 in
theorem l04_within_ok (a0 : TApiSpan) (a1 : Int) (r : Int) (h0 : l04_within a0 a1 = some r) : CallsD Try.prog 21 [eTApiSpan a0, .v (.int .i64 a1)] [] [] (fun d h k => d = .v (.int .i64 r) ∧ h = [] ∧ k = []) := by
  have hm := yes_of h0
  unfold l04_within at hm
  clear h0
  refine enterX htab Try.func21 rfl rfl rfl rfl rfl (fun C => ?_)
  refine wpD_seq ?_
  refine wpD_region ?_
  refine p_box rfl rfl rfl rfl rfl rfl rfl (fun b1 => ?_)
  refine p_pure htab rfl rfl rfl rfl ?_
  refine ops_nil ?_
  refine then_normal ?_
  refine wpD_seq ?_
  refine wpD_seq ?_
  refine wpD_region ?_
  refine p_load (d := eTApiSpan a0) 0 htab rfl rfl rfl rfl rfl rfl rfl rfl ?_
  refine p_pure htab rfl rfl rfl rfl ?_
  obtain ⟨x2, q2, hm⟩ := yes_bind hm
  refine p_call0 (r03_Has_ok a0 a1 x2 q2) rfl rfl rfl rfl rfl (WkL.refl _) ?_
  rintro _ rfl
  refine ops_nil ?_
  refine then_normal ?_
  refine wpD_cond rfl (fun hc4 => ?_) (fun hc4 => ?_)
  · replace hm := yes_t hc4 hm
    refine wpD_seq ?_
    refine wpD_region ?_
    refine p_pure htab rfl rfl rfl rfl ?_
    refine p_pure htab rfl rfl rfl rfl ?_
    refine ops_nil ?_
    refine then_normal ?_
    refine wpD_ret ?_
    refine then_ret ?_
    have er5 := yes_eq hm; subst er5
    refine retX.of (s' := ⟨[(4, .v (.int .i64 a1))], [], []⟩) (WkS.perm (WkS.cons rfl (Wk.refl _) (WkS.nil)) (List.Perm.refl _) (List.Perm.refl _)) (retD_mk (hh := []) (.inl rfl) (resL_cons (resOne_tmp rfl) (resL_nil)) (List.nil_sublist _) (List.Sublist.refl _) ?_)
    exact ⟨rfl, rfl, rfl⟩
  · replace hm := yes_f hc4 hm
    refine wpD_skip ?_
    refine then_normal ?_
    refine wpD_seq ?_
    refine wpD_seq ?_
    refine wpD_region ?_
    refine p_pure htab rfl rfl rfl rfl ?_
    refine p_bit rfl rfl rfl rfl rfl rfl rfl ?_
    refine p_pure htab rfl rfl rfl rfl ?_
    refine ops_nil ?_
    refine then_normal ?_
    refine wpD_cond rfl (fun hc6 => ?_) (fun hc6 => ?_)
    · replace hm := yes_t hc6 hm
      refine wpD_seq ?_
      refine wpD_region ?_
      refine p_pure htab rfl rfl rfl rfl ?_
      refine p_load 0 htab rfl rfl rfl rfl rfl rfl rfl rfl ?_
      refine p_pure htab rfl rfl rfl rfl ?_
      refine ops_nil ?_
      refine then_normal ?_
      refine wpD_ret ?_
      refine then_ret ?_
      have er7 := yes_eq hm; subst er7
      refine retX.of (s' := ⟨[(4, .v (.int .i64 a0.gLo))], [], []⟩) (WkS.perm (WkS.cons rfl (Wk.refl _) (WkS.nil)) (List.Perm.refl _) (List.Perm.refl _)) (retD_mk (hh := []) (.inl rfl) (resL_cons (resOne_tmp rfl) (resL_nil)) (List.nil_sublist _) (List.Sublist.refl _) ?_)
      exact ⟨rfl, rfl, rfl⟩
    · replace hm := yes_f hc6 hm
      refine wpD_skip ?_
      refine then_normal ?_
      refine wpD_seq ?_
      refine wpD_region ?_
      refine p_pure htab rfl rfl rfl rfl ?_
      refine p_load 0 htab rfl rfl rfl rfl rfl rfl rfl rfl ?_
      refine p_pure htab rfl rfl rfl rfl ?_
      refine ops_nil ?_
      refine then_normal ?_
      refine wpD_ret ?_
      have er8 := yes_eq hm; subst er8
      refine retX.of (s' := ⟨[(4, .v (.int .i64 a0.gHi))], [], []⟩) (WkS.perm (WkS.cons rfl (Wk.refl _) (WkS.nil)) (List.Perm.refl _) (List.Perm.refl _)) (retD_mk (hh := []) (.inl rfl) (resL_cons (resOne_tmp rfl) (resL_nil)) (List.nil_sublist _) (List.Sublist.refl _) ?_)
      exact ⟨rfl, rfl, rfl⟩
noncomputable def l04_ReckonSound (a0 : TSondagelaw04Case) (a1 : TApiSpan) : Option (Bool) :=
  ((reckon_Do a0.gOp a0.gA a0.gB).bind fun x3 => (Option.bind (α := Bool) ((r03_None a0.gA).bind fun x9 => (bif x9 then some true else ((r03_None a0.gB).bind fun x11 => some x11))) fun y8 => (bif y8 then (Option.bind (α := Bool) (bif (!x3.gSome) then (l04_lives.bind fun x20 => some x20) else some false) fun y18 => some y18) else ((l04_within a0.gA a0.gX).bind fun x22 => ((l04_within a0.gB a0.gY).bind fun x23 => ((r02_Do a0.gOp x22 x23).bind fun x24 => ((r02_One a0.gOp x22).bind fun x25 => (Option.bind (α := Bool) (bif (x24.2 == (0 : Int)) then ((span_Has x3 x24.1).bind fun x37 => (bif (!x37) then some true else (bif (x25.2 == (0 : Int)) then ((reckon_One a0.gOp a0.gA).bind fun x40 => ((span_Has x40 x25.1).bind fun x41 => some (!x41))) else some false))) else (bif (x25.2 == (0 : Int)) then ((reckon_One a0.gOp a0.gA).bind fun x43 => ((span_Has x43 x25.1).bind fun x44 => some (!x44))) else some false)) fun y35 => (bif y35 then some false else ((span_Join a0.gA a1).bind fun x48 => ((reckon_Do a0.gOp x48 a0.gB).bind fun x50 => ((span_Leq x3 x50).bind fun x51 => (bif x51 then ((reckon_Do a0.gOp a0.gB a0.gA).bind fun x53 => ((reckon_Do a0.gOp a0.gB x48).bind fun x54 => ((span_Leq x53 x54).bind fun x55 => (bif x55 then ((reckon_One a0.gOp a0.gA).bind fun x57 => ((reckon_One a0.gOp x48).bind fun x58 => ((span_Leq x57 x58).bind fun x59 => (bif x59 then (l04_lives.bind fun x61 => some x61) else some false)))) else some false)))) else some false)))))))))))))
set_option maxRecDepth 100000 in
set_option maxHeartbeats 2000000 in
theorem l04_ReckonSound_ok (a0 : TSondagelaw04Case) (a1 : TApiSpan) (r : Bool) (h0 : l04_ReckonSound a0 a1 = some r) : CallsD Try.prog 6 [eTSondagelaw04Case a0, eTApiSpan a1] [] [] (fun d h k => d = .v (.bool r) ∧ h = [] ∧ k = []) := by
  have hm := yes_of h0
  unfold l04_ReckonSound at hm
  clear h0
  refine enterX htab Try.func6 rfl rfl rfl rfl rfl (fun C => ?_)
  refine wpD_seq ?_
  refine wpD_region ?_
  refine p_box rfl rfl rfl rfl rfl rfl rfl (fun b1 => ?_)
  refine p_box rfl rfl rfl rfl rfl rfl rfl (fun b2 => ?_)
  refine p_pure htab rfl rfl rfl rfl ?_
  refine ops_nil ?_
  refine then_normal ?_
  refine wpD_seq ?_
  refine wpD_region ?_
  refine p_pure htab rfl rfl rfl rfl ?_
  refine p_load 0 htab rfl rfl rfl rfl rfl rfl rfl rfl ?_
  refine p_pure htab rfl rfl rfl rfl ?_
  refine p_load (d := eTApiSpan a0.gA) 0 htab rfl rfl rfl rfl rfl rfl rfl rfl ?_
  refine p_pure htab rfl rfl rfl rfl ?_
  refine p_load (d := eTApiSpan a0.gB) 0 htab rfl rfl rfl rfl rfl rfl rfl rfl ?_
  obtain ⟨x3, q3, hm⟩ := yes_bind hm
  refine p_call0 (reckon_Do_ok a0.gOp a0.gA a0.gB x3 q3) rfl rfl rfl rfl rfl (WkL.refl _) ?_
  rintro _ rfl
  refine p_alloc htab rfl rfl rfl rfl rfl rfl rfl (fun b4 => ?_)
  refine p_store (ds' := [.v (.bool x3.gSome), .v (.int .i64 x3.gLo), .v (.int .i64 x3.gHi)]) (h' := [(b1, Blk.cells [.v (.int .i64 a0.gOp), .v (.bool a0.gA.gSome), .v (.int .i64 a0.gA.gLo), .v (.int .i64 a0.gA.gHi), .v (.bool a0.gB.gSome), .v (.int .i64 a0.gB.gLo), .v (.int .i64 a0.gB.gHi), .v (.int .i64 a0.gX), .v (.int .i64 a0.gY)] 43), (b2, Blk.cells [.v (.bool a1.gSome), .v (.int .i64 a1.gLo), .v (.int .i64 a1.gHi)] 23), (b4, Blk.cells [.v (.bool x3.gSome), .v (.int .i64 x3.gLo), .v (.int .i64 x3.gHi)] 23)]) 2 htab rfl rfl rfl rfl rfl rfl rfl rfl rfl rfl rfl rfl ?_
  refine ops_nil ?_
  refine then_normal ?_
  refine wpD_seq ?_
  refine wpD_seq ?_
  obtain ⟨y8, q8, ho8⟩ := yes_bind hm
  refine wpD_mid (Y := Unit) (fun z8 => (⟨[(2, .ptr b1 0), (3, .ptr b2 0), (5, .ptr b4 0), (27, .v (.bool y8))], [(b1, Blk.cells [.v (.int .i64 a0.gOp), .v (.bool a0.gA.gSome), .v (.int .i64 a0.gA.gLo), .v (.int .i64 a0.gA.gHi), .v (.bool a0.gB.gSome), .v (.int .i64 a0.gB.gLo), .v (.int .i64 a0.gB.gHi), .v (.int .i64 a0.gX), .v (.int .i64 a0.gY)] 43), (b2, Blk.cells [.v (.bool a1.gSome), .v (.int .i64 a1.gLo), .v (.int .i64 a1.gHi)] 23), (b4, Blk.cells [.v (.bool x3.gSome), .v (.int .i64 x3.gLo), .v (.int .i64 x3.gHi)] 23)], []⟩ : S)) ?_ ?_
  · clear hm; have hm := yes_of q8
    refine wpD_region ?_
    refine p_pure htab rfl rfl rfl rfl ?_
    refine p_load (d := eTApiSpan a0.gA) 0 htab rfl rfl rfl rfl rfl rfl rfl rfl ?_
    obtain ⟨x9, q9, hm⟩ := yes_bind hm
    refine p_call0 (r03_None_ok a0.gA x9 q9) rfl rfl rfl rfl rfl (WkL.refl _) ?_
    rintro _ rfl
    refine p_pure htab rfl rfl rfl rfl ?_
    refine p_split (i := 23) rfl (fun hg10 => ?_) (fun hg10 => ?_)
    · replace hm := yes_t hg10 hm
      refine p_skip rfl rfl rfl ?_
      refine p_skip rfl rfl rfl ?_
      refine p_skip rfl rfl rfl ?_
      refine p_pickT rfl rfl rfl rfl rfl rfl ?_
      refine ops_nil ?_
      have e8 := yes_eq hm; subst e8
      refine ⟨rfl, ?_⟩
      exact WkX.of () (WkS.perm (WkS.cons rfl (Wk.refl _) (WkS.cons rfl (Wk.refl _) (WkS.cons rfl (Wk.refl _) (WkS.cons rfl (Wk.refl _) (WkS.nil))))) (List.Perm.refl _) (List.Perm.refl _))
    · replace hm := yes_f hg10 hm
      refine p_pure htab rfl rfl rfl rfl ?_
      refine p_load (d := eTApiSpan a0.gB) 0 htab rfl rfl rfl rfl rfl rfl rfl rfl ?_
      obtain ⟨x11, q11, hm⟩ := yes_bind hm
      refine p_call0 (r03_None_ok a0.gB x11 q11) rfl rfl rfl rfl rfl (WkL.refl _) ?_
      rintro _ rfl
      refine p_pickF rfl rfl rfl rfl rfl rfl ?_
      refine ops_nil ?_
      have e8 := yes_eq hm; subst e8
      refine ⟨rfl, ?_⟩
      exact WkX.of () (WkS.perm (WkS.cons rfl (Wk.refl _) (WkS.cons rfl (Wk.refl _) (WkS.cons rfl (Wk.refl _) (WkS.cons rfl (Wk.refl _) (WkS.nil))))) (List.Perm.refl _) (List.Perm.refl _))
  · intro s8 hw8; clear hm; have hm := ho8; clear q8 ho8
    refine then_normal ?_
    refine wpD_wkX hw8 (fun z8 => ?_)
    refine wpD_cond rfl (fun hc15 => ?_) (fun hc15 => ?_)
    · replace hm := yes_t hc15 hm
      refine wpD_seq ?_
      obtain ⟨y18, q18, ho18⟩ := yes_bind hm
      refine wpD_mid (Y := Unit) (fun z18 => (⟨[(4, .v (.bool y18))], [(b1, Blk.cells [.v (.int .i64 a0.gOp), .v (.bool a0.gA.gSome), .v (.int .i64 a0.gA.gLo), .v (.int .i64 a0.gA.gHi), .v (.bool a0.gB.gSome), .v (.int .i64 a0.gB.gLo), .v (.int .i64 a0.gB.gHi), .v (.int .i64 a0.gX), .v (.int .i64 a0.gY)] 43), (b2, Blk.cells [.v (.bool a1.gSome), .v (.int .i64 a1.gLo), .v (.int .i64 a1.gHi)] 23), (b4, Blk.cells [.v (.bool x3.gSome), .v (.int .i64 x3.gLo), .v (.int .i64 x3.gHi)] 23)], []⟩ : S)) ?_ ?_
      · clear hm; have hm := yes_of q18
        refine wpD_region ?_
        refine p_pure htab rfl rfl rfl rfl ?_
        refine p_load 2 htab rfl rfl rfl rfl rfl rfl rfl rfl ?_
        refine p_pure htab rfl rfl rfl rfl ?_
        refine p_pure htab rfl rfl rfl rfl ?_
        refine p_split (i := 31) rfl (fun hg19 => ?_) (fun hg19 => ?_)
        · replace hm := yes_t hg19 hm
          obtain ⟨x20, q20, hm⟩ := yes_bind hm
          refine p_call0 (l04_lives_ok  x20 q20) rfl rfl rfl rfl rfl (WkL.refl _) ?_
          rintro _ rfl
          refine p_pickT rfl rfl rfl rfl rfl rfl ?_
          refine p_pure htab rfl rfl rfl rfl ?_
          refine ops_nil ?_
          have e18 := yes_eq hm; subst e18
          refine ⟨rfl, ?_⟩
          exact WkX.of () (WkS.perm (WkS.cons rfl (Wk.refl _) (WkS.nil)) (List.Perm.refl _) (List.Perm.refl _))
        · replace hm := yes_f hg19 hm
          refine p_skip rfl rfl rfl ?_
          refine p_pickF rfl rfl rfl rfl rfl rfl ?_
          refine p_pure htab rfl rfl rfl rfl ?_
          refine ops_nil ?_
          have e18 := yes_eq hm; subst e18
          refine ⟨rfl, ?_⟩
          exact WkX.of () (WkS.perm (WkS.cons rfl (Wk.refl _) (WkS.nil)) (List.Perm.refl _) (List.Perm.refl _))
      · intro s18 hw18; clear hm; have hm := ho18; clear q18 ho18
        refine then_normal ?_
        refine wpD_wkX hw18 (fun z18 => ?_)
        refine wpD_ret ?_
        refine then_ret ?_
        have er21 := yes_eq hm; subst er21
        refine retX.of (s' := ⟨[(4, .v (.bool y18))], [], []⟩) (WkS.perm (WkS.cons rfl (Wk.refl _) (WkS.nil)) (List.Perm.refl _) (List.Perm.refl _)) (retD_mk (hh := []) (.inl rfl) (resL_cons (resOne_tmp rfl) (resL_nil)) (List.nil_sublist _) (List.Sublist.refl _) ?_)
        exact ⟨rfl, rfl, rfl⟩
    · replace hm := yes_f hc15 hm
      refine wpD_skip ?_
      refine then_normal ?_
      refine wpD_seq ?_
      obtain ⟨x22, q22, hm⟩ := yes_bind hm
      refine wpD_draws 9 [] [[],[0],[],[2],[0,1,2],[],[5],[],[7]] [0,1,2,4,5,6,7] [[],[0],[],[2],[0,1,2,3],[],[5],[],[7],[0,1,2,3,4,5,6,7,8],[0,1,2,3,4,5,6,7,8,9],[0,1,2,3,4,5,6,7,8,9,10]] (by kernel_rfl) (by kernel_rfl) (by kernel_rfl) (by rfl) (by rfl) (by kernel_rfl) ?_
      apply Exists.intro
      apply Exists.intro
      apply Exists.intro
      apply Exists.intro
      apply Exists.intro
      apply Exists.intro
      apply Exists.intro
      intro bs
      refine z_e rfl rfl (ex_pure htab rfl) rfl rfl rfl rfl rfl rfl ?_
      refine z_eM rfl rfl (xm_load (d := eTApiSpan a0.gA) 0 htab rfl rfl rfl rfl rfl) rfl rfl rfl rfl rfl rfl ?_
      refine z_e rfl rfl (ex_pure htab rfl) rfl rfl rfl rfl rfl rfl ?_
      refine z_qM rfl rfl (xm_load 0 htab rfl rfl rfl rfl rfl) rfl rfl rfl rfl rfl rfl ?_
      refine z_call rfl rfl (l04_within_ok a0.gA a0.gX x22 q22) rfl rfl (WkL.refl _) rfl rfl rfl rfl rfl rfl ?_
      refine z_e rfl rfl (ex_pure htab rfl) rfl rfl rfl rfl rfl rfl ?_
      refine z_eM rfl rfl (xm_load (d := eTApiSpan a0.gB) 0 htab rfl rfl rfl rfl rfl) rfl rfl rfl rfl rfl rfl ?_
      refine z_e rfl rfl (ex_pure htab rfl) rfl rfl rfl rfl rfl rfl ?_
      refine z_qM rfl rfl (xm_load 0 htab rfl rfl rfl rfl rfl) rfl rfl rfl rfl rfl rfl ?_
      refine z_nil rfl rfl (fun e he => by simp [isAl] at he) ?_
      obtain ⟨x23, q23, hm⟩ := yes_bind hm
      refine p_call0 (l04_within_ok a0.gB a0.gY x23 q23) rfl rfl rfl rfl rfl (WkL.refl _) ?_
      rintro _ rfl
      refine p_pure htab rfl rfl rfl rfl ?_
      refine p_pure htab rfl rfl rfl rfl ?_
      refine ops_nil ?_
      refine then_normal ?_
      refine wpD_seq ?_
      refine wpD_region ?_
      refine p_pure htab rfl rfl rfl rfl ?_
      refine p_load 0 htab rfl rfl rfl rfl rfl rfl rfl rfl ?_
      refine p_pure htab rfl rfl rfl rfl ?_
      refine p_pure htab rfl rfl rfl rfl ?_
      obtain ⟨x24, q24, hm⟩ := yes_bind hm
      refine p_call0 (r02_Do_ok a0.gOp x22 x23 x24 q24) rfl rfl rfl rfl rfl (WkL.refl _) ?_
      rintro _ rfl
      refine p_pure htab rfl rfl rfl rfl ?_
      refine p_pure htab rfl rfl rfl rfl ?_
      refine p_pure htab rfl rfl rfl rfl ?_
      refine p_pure htab rfl rfl rfl rfl ?_
      refine p_pure htab rfl rfl rfl rfl ?_
      refine ops_nil ?_
      refine then_normal ?_
      refine wpD_seq ?_
      refine wpD_region ?_
      refine p_pure htab rfl rfl rfl rfl ?_
      refine p_load 0 htab rfl rfl rfl rfl rfl rfl rfl rfl ?_
      refine p_pure htab rfl rfl rfl rfl ?_
      obtain ⟨x25, q25, hm⟩ := yes_bind hm
      refine p_call0 (r02_One_ok a0.gOp x22 x25 q25) rfl rfl rfl rfl rfl (WkL.refl _) ?_
      rintro _ rfl
      refine p_pure htab rfl rfl rfl rfl ?_
      refine p_pure htab rfl rfl rfl rfl ?_
      refine p_pure htab rfl rfl rfl rfl ?_
      refine p_pure htab rfl rfl rfl rfl ?_
      refine p_pure htab rfl rfl rfl rfl ?_
      refine ops_nil ?_
      refine then_normal ?_
      refine wpD_seq ?_
      refine wpD_seq ?_
      obtain ⟨y35, q35, ho35⟩ := yes_bind hm
      refine wpD_mid (Y := Unit) (fun z35 => (⟨[(2, .ptr b1 0), (3, .ptr b2 0), (5, .ptr b4 0), (80, .v (.bool y35))], [(b1, Blk.cells [.v (.int .i64 a0.gOp), .v (.bool a0.gA.gSome), .v (.int .i64 a0.gA.gLo), .v (.int .i64 a0.gA.gHi), .v (.bool a0.gB.gSome), .v (.int .i64 a0.gB.gLo), .v (.int .i64 a0.gB.gHi), .v (.int .i64 a0.gX), .v (.int .i64 a0.gY)] 43), (b2, Blk.cells [.v (.bool a1.gSome), .v (.int .i64 a1.gLo), .v (.int .i64 a1.gHi)] 23), (b4, Blk.cells [.v (.bool x3.gSome), .v (.int .i64 x3.gLo), .v (.int .i64 x3.gHi)] 23)], []⟩ : S)) ?_ ?_
      · clear hm; have hm := yes_of q35
        refine wpD_region ?_
        refine p_pure htab rfl rfl rfl rfl ?_
        refine p_pure htab rfl rfl rfl rfl ?_
        refine p_pure htab rfl rfl rfl rfl ?_
        refine p_split (i := 61) rfl (fun hg36 => ?_) (fun hg36 => ?_)
        · replace hm := yes_t hg36 hm
          refine p_load (d := eTApiSpan x3) 2 htab rfl rfl rfl rfl rfl rfl rfl rfl ?_
          refine p_pure htab rfl rfl rfl rfl ?_
          obtain ⟨x37, q37, hm⟩ := yes_bind hm
          refine p_call0 (span_Has_ok x3 x24.1 x37 q37) rfl rfl rfl rfl rfl (WkL.refl _) ?_
          rintro _ rfl
          refine p_pure htab rfl rfl rfl rfl ?_
          refine p_pickT rfl rfl rfl rfl rfl rfl ?_
          refine p_pure htab rfl rfl rfl rfl ?_
          refine p_split (i := 67) rfl (fun hg38 => ?_) (fun hg38 => ?_)
          · replace hm := yes_t hg38 hm
            refine p_skip rfl rfl rfl ?_
            refine p_skip rfl rfl rfl ?_
            refine p_skip rfl rfl rfl ?_
            refine p_skip rfl rfl rfl ?_
            refine p_skip rfl rfl rfl ?_
            refine p_skip rfl rfl rfl ?_
            refine p_skip rfl rfl rfl ?_
            refine p_skip rfl rfl rfl ?_
            refine p_skip rfl rfl rfl ?_
            refine p_skip rfl rfl rfl ?_
            refine p_skip rfl rfl rfl ?_
            refine p_skip rfl rfl rfl ?_
            refine p_pickT rfl rfl rfl rfl rfl rfl ?_
            refine ops_nil ?_
            have e35 := yes_eq hm; subst e35
            refine ⟨rfl, ?_⟩
            exact WkX.of () (WkS.perm (WkS.cons rfl (Wk.refl _) (WkS.cons rfl (Wk.refl _) (WkS.cons rfl (Wk.refl _) (WkS.cons rfl (Wk.refl _) (WkS.nil))))) (List.Perm.refl _) (List.Perm.refl _))
          · replace hm := yes_f hg38 hm
            refine p_pure htab rfl rfl rfl rfl ?_
            refine p_pure htab rfl rfl rfl rfl ?_
            refine p_pure htab rfl rfl rfl rfl ?_
            refine p_split (i := 70) rfl (fun hg39 => ?_) (fun hg39 => ?_)
            · replace hm := yes_t hg39 hm
              refine p_pure htab rfl rfl rfl rfl ?_
              refine p_load 0 htab rfl rfl rfl rfl rfl rfl rfl rfl ?_
              refine p_pure htab rfl rfl rfl rfl ?_
              refine p_load (d := eTApiSpan a0.gA) 0 htab rfl rfl rfl rfl rfl rfl rfl rfl ?_
              obtain ⟨x40, q40, hm⟩ := yes_bind hm
              refine p_call0 (reckon_One_ok a0.gOp a0.gA x40 q40) rfl rfl rfl rfl rfl (WkL.refl _) ?_
              rintro _ rfl
              refine p_pure htab rfl rfl rfl rfl ?_
              obtain ⟨x41, q41, hm⟩ := yes_bind hm
              refine p_call0 (span_Has_ok x40 x25.1 x41 q41) rfl rfl rfl rfl rfl (WkL.refl _) ?_
              rintro _ rfl
              refine p_pure htab rfl rfl rfl rfl ?_
              refine p_pickT rfl rfl rfl rfl rfl rfl ?_
              refine p_pickF rfl rfl rfl rfl rfl rfl ?_
              refine ops_nil ?_
              have e35 := yes_eq hm; subst e35
              refine ⟨rfl, ?_⟩
              exact WkX.of () (WkS.perm (WkS.cons rfl (Wk.refl _) (WkS.cons rfl (Wk.refl _) (WkS.cons rfl (Wk.refl _) (WkS.cons rfl (Wk.refl _) (WkS.nil))))) (List.Perm.refl _) (List.Perm.refl _))
            · replace hm := yes_f hg39 hm
              refine p_skip rfl rfl rfl ?_
              refine p_skip rfl rfl rfl ?_
              refine p_skip rfl rfl rfl ?_
              refine p_skip rfl rfl rfl ?_
              refine p_skip rfl rfl rfl ?_
              refine p_skip rfl rfl rfl ?_
              refine p_skip rfl rfl rfl ?_
              refine p_skip rfl rfl rfl ?_
              refine p_pickF rfl rfl rfl rfl rfl rfl ?_
              refine p_pickF rfl rfl rfl rfl rfl rfl ?_
              refine ops_nil ?_
              have e35 := yes_eq hm; subst e35
              refine ⟨rfl, ?_⟩
              exact WkX.of () (WkS.perm (WkS.cons rfl (Wk.refl _) (WkS.cons rfl (Wk.refl _) (WkS.cons rfl (Wk.refl _) (WkS.cons rfl (Wk.refl _) (WkS.nil))))) (List.Perm.refl _) (List.Perm.refl _))
        · replace hm := yes_f hg36 hm
          refine p_skip rfl rfl rfl ?_
          refine p_skip rfl rfl rfl ?_
          refine p_skip rfl rfl rfl ?_
          refine p_skip rfl rfl rfl ?_
          refine p_pickF rfl rfl rfl rfl rfl rfl ?_
          refine p_pure htab rfl rfl rfl rfl ?_
          refine p_pure htab rfl rfl rfl rfl ?_
          refine p_pure htab rfl rfl rfl rfl ?_
          refine p_pure htab rfl rfl rfl rfl ?_
          refine p_split (i := 70) rfl (fun hg42 => ?_) (fun hg42 => ?_)
          · replace hm := yes_t hg42 hm
            refine p_pure htab rfl rfl rfl rfl ?_
            refine p_load 0 htab rfl rfl rfl rfl rfl rfl rfl rfl ?_
            refine p_pure htab rfl rfl rfl rfl ?_
            refine p_load (d := eTApiSpan a0.gA) 0 htab rfl rfl rfl rfl rfl rfl rfl rfl ?_
            obtain ⟨x43, q43, hm⟩ := yes_bind hm
            refine p_call0 (reckon_One_ok a0.gOp a0.gA x43 q43) rfl rfl rfl rfl rfl (WkL.refl _) ?_
            rintro _ rfl
            refine p_pure htab rfl rfl rfl rfl ?_
            obtain ⟨x44, q44, hm⟩ := yes_bind hm
            refine p_call0 (span_Has_ok x43 x25.1 x44 q44) rfl rfl rfl rfl rfl (WkL.refl _) ?_
            rintro _ rfl
            refine p_pure htab rfl rfl rfl rfl ?_
            refine p_pickT rfl rfl rfl rfl rfl rfl ?_
            refine p_pickF rfl rfl rfl rfl rfl rfl ?_
            refine ops_nil ?_
            have e35 := yes_eq hm; subst e35
            refine ⟨rfl, ?_⟩
            exact WkX.of () (WkS.perm (WkS.cons rfl (Wk.refl _) (WkS.cons rfl (Wk.refl _) (WkS.cons rfl (Wk.refl _) (WkS.cons rfl (Wk.refl _) (WkS.nil))))) (List.Perm.refl _) (List.Perm.refl _))
          · replace hm := yes_f hg42 hm
            refine p_skip rfl rfl rfl ?_
            refine p_skip rfl rfl rfl ?_
            refine p_skip rfl rfl rfl ?_
            refine p_skip rfl rfl rfl ?_
            refine p_skip rfl rfl rfl ?_
            refine p_skip rfl rfl rfl ?_
            refine p_skip rfl rfl rfl ?_
            refine p_skip rfl rfl rfl ?_
            refine p_pickF rfl rfl rfl rfl rfl rfl ?_
            refine p_pickF rfl rfl rfl rfl rfl rfl ?_
            refine ops_nil ?_
            have e35 := yes_eq hm; subst e35
            refine ⟨rfl, ?_⟩
            exact WkX.of () (WkS.perm (WkS.cons rfl (Wk.refl _) (WkS.cons rfl (Wk.refl _) (WkS.cons rfl (Wk.refl _) (WkS.cons rfl (Wk.refl _) (WkS.nil))))) (List.Perm.refl _) (List.Perm.refl _))
      · intro s35 hw35; clear hm; have hm := ho35; clear q35 ho35
        refine then_normal ?_
        refine wpD_wkX hw35 (fun z35 => ?_)
        refine wpD_cond rfl (fun hc46 => ?_) (fun hc46 => ?_)
        · replace hm := yes_t hc46 hm
          refine wpD_seq ?_
          refine wpD_region ?_
          refine p_pure htab rfl rfl rfl rfl ?_
          refine ops_nil ?_
          refine then_normal ?_
          refine wpD_ret ?_
          refine then_ret ?_
          have er47 := yes_eq hm; subst er47
          refine retX.of (s' := ⟨[(4, .v (.bool false))], [], []⟩) (WkS.perm (WkS.cons rfl (Wk.refl _) (WkS.nil)) (List.Perm.refl _) (List.Perm.refl _)) (retD_mk (hh := []) (.inl rfl) (resL_cons (resOne_tmp rfl) (resL_nil)) (List.nil_sublist _) (List.Sublist.refl _) ?_)
          exact ⟨rfl, rfl, rfl⟩
        · replace hm := yes_f hc46 hm
          refine wpD_skip ?_
          refine then_normal ?_
          refine wpD_seq ?_
          refine wpD_region ?_
          refine p_pure htab rfl rfl rfl rfl ?_
          refine p_load (d := eTApiSpan a0.gA) 0 htab rfl rfl rfl rfl rfl rfl rfl rfl ?_
          refine p_load (d := eTApiSpan a1) 1 htab rfl rfl rfl rfl rfl rfl rfl rfl ?_
          obtain ⟨x48, q48, hm⟩ := yes_bind hm
          refine p_call0 (span_Join_ok a0.gA a1 x48 q48) rfl rfl rfl rfl rfl (WkL.refl _) ?_
          rintro _ rfl
          refine p_alloc htab rfl rfl rfl rfl rfl rfl rfl (fun b49 => ?_)
          refine p_store (ds' := [.v (.bool x48.gSome), .v (.int .i64 x48.gLo), .v (.int .i64 x48.gHi)]) (h' := [(b1, Blk.cells [.v (.int .i64 a0.gOp), .v (.bool a0.gA.gSome), .v (.int .i64 a0.gA.gLo), .v (.int .i64 a0.gA.gHi), .v (.bool a0.gB.gSome), .v (.int .i64 a0.gB.gLo), .v (.int .i64 a0.gB.gHi), .v (.int .i64 a0.gX), .v (.int .i64 a0.gY)] 43), (b2, Blk.cells [.v (.bool a1.gSome), .v (.int .i64 a1.gLo), .v (.int .i64 a1.gHi)] 23), (b4, Blk.cells [.v (.bool x3.gSome), .v (.int .i64 x3.gLo), .v (.int .i64 x3.gHi)] 23), (b49, Blk.cells [.v (.bool x48.gSome), .v (.int .i64 x48.gLo), .v (.int .i64 x48.gHi)] 23)]) 3 htab rfl rfl rfl rfl rfl rfl rfl rfl rfl rfl rfl rfl ?_
          refine ops_nil ?_
          refine then_normal ?_
          refine wpD_seq ?_
          obtain ⟨x50, q50, hm⟩ := yes_bind hm
          obtain ⟨x51, q51, hm⟩ := yes_bind hm
          refine bycB x51 (fun hs52 => ?_) (fun hs52 => ?_)
          · replace hm := yes_t hs52 hm
            obtain ⟨x53, q53, hm⟩ := yes_bind hm
            obtain ⟨x54, q54, hm⟩ := yes_bind hm
            obtain ⟨x55, q55, hm⟩ := yes_bind hm
            refine bycB x55 (fun hs56 => ?_) (fun hs56 => ?_)
            · replace hm := yes_t hs56 hm
              obtain ⟨x57, q57, hm⟩ := yes_bind hm
              refine wpD_draws 33 [] [[],[],[1],[],[],[4],[1,3,4,5],[0,1,3,4,5,6],[0,1,3,4,5,6,7],[0,1,3,4,5,6,7],[0,1,3,4,5,6,7,9],[0,1,3,4,5,6,7],[0,1,3,4,5,6,7,11],[0,1,3,4,5,6,7],[0,1,3,4,5,6,7,13],[0,1,3,4,5,6,7,9,11,12,13,14],[0,1,3,4,5,6,7],[0,1,3,4,5,6,7,16],[0,1,3,4,5,6,7],[0,1,3,4,5,6,7,18],[0,1,3,4,5,6,7],[0,1,3,4,5,6,7,9,11,12,13,14,15,16,18,19,20],[0,1,3,4,5,6,7,9,11,12,13,14,15,16,18,19,20,21],[0,1,3,4,5,6,7,9,11,12,13,14,15,16,18,19,20,21,22],[0,1,3,4,5,6,7,9,11,12,13,14,15,16,18,19,20,21,22],[0,1,3,4,5,6,7,9,11,12,13,14,15,16,18,19,20,21,22],[0,1,3,4,5,6,7,9,11,12,13,14,15,16,18,19,20,21,22,25],[0,1,3,4,5,6,7,9,11,12,13,14,15,16,18,19,20,21,22],[0,1,3,4,5,6,7,9,11,12,13,14,15,16,18,19,20,21,22,27],[0,1,3,4,5,6,7,9,11,12,13,14,15,16,18,19,20,21,22,25,27,28],[0,1,3,4,5,6,7,9,11,12,13,14,15,16,18,19,20,21,22],[0,1,3,4,5,6,7,9,11,12,13,14,15,16,18,19,20,21,22,30],[0,1,3,4,5,6,7,9,11,12,13,14,15,16,18,19,20,21,22]] [0,1,3,4,5,6,7,9,11,12,13,14,15,16,18,19,20,21,22,25,27,28,29,30,32] [[],[],[1],[],[],[4],[1,2,3,4,5],[0,1,2,3,4,5,6],[0,1,2,3,4,5,6,7],[0,1,2,3,4,5,6,7,8],[0,1,2,3,4,5,6,7,8,9],[0,1,2,3,4,5,6,7,8],[0,1,2,3,4,5,6,7,8,11],[0,1,2,3,4,5,6,7,8],[0,1,2,3,4,5,6,7,8,13],[0,1,2,3,4,5,6,7,8,9,10,11,12,13,14],[0,1,2,3,4,5,6,7,8],[0,1,2,3,4,5,6,7,8,16],[0,1,2,3,4,5,6,7,8],[0,1,2,3,4,5,6,7,8,18],[0,1,2,3,4,5,6,7,8],[0,1,2,3,4,5,6,7,8,9,10,11,12,13,14,15,16,17,18,19,20],[0,1,2,3,4,5,6,7,8,9,10,11,12,13,14,15,16,17,18,19,20,21],[0,1,2,3,4,5,6,7,8,9,10,11,12,13,14,15,16,17,18,19,20,21,22],[0,1,2,3,4,5,6,7,8,9,10,11,12,13,14,15,16,17,18,19,20,21,22,23],[0,1,2,3,4,5,6,7,8,9,10,11,12,13,14,15,16,17,18,19,20,21,22,23,24],[0,1,2,3,4,5,6,7,8,9,10,11,12,13,14,15,16,17,18,19,20,21,22,23,24,25],[0,1,2,3,4,5,6,7,8,9,10,11,12,13,14,15,16,17,18,19,20,21,22,23,24],[0,1,2,3,4,5,6,7,8,9,10,11,12,13,14,15,16,17,18,19,20,21,22,23,24,27],[0,1,2,3,4,5,6,7,8,9,10,11,12,13,14,15,16,17,18,19,20,21,22,23,24,25,26,27,28],[0,1,2,3,4,5,6,7,8,9,10,11,12,13,14,15,16,17,18,19,20,21,22,23,24],[0,1,2,3,4,5,6,7,8,9,10,11,12,13,14,15,16,17,18,19,20,21,22,23,24,30],[0,1,2,3,4,5,6,7,8,9,10,11,12,13,14,15,16,17,18,19,20,21,22,23,24],[0,1,2,3,4,5,6,7,8,9,10,11,12,13,14,15,16,17,18,19,20,21,22,23,24,25,26,27,28,29,30,31,32],[0,1,2,3,4,5,6,7,8,9,10,11,12,13,14,15,16,17,18,19,20,21,22,23,24,25,26,27,28,29,30,31,32,33],[0,1,2,3,4,5,6,7,8,9,10,11,12,13,14,15,16,17,18,19,20,21,22,23,24,25,26,27,28,29,30,31,32,33,34],[0,1,2,3,4,5,6,7,8,9,10,11,12,13,14,15,16,17,18,19,20,21,22,23,24,25,26,27,28,29,30,31,32,33,34,35],[0,1,2,3,4,5,6,7,8,9,10,11,12,13,14,15,16,17,18,19,20,21,22,23,24,25,26,27,28,29,30,31,32,33,34,35,36],[0,1,2,3,4,5,6,7,8,9,10,11,12,13,14,15,16,17,18,19,20,21,22,23,24,25,26,27,28,29,30,31,32,33,34,35,36,37],[0,1,2,3,4,5,6,7,8,9,10,11,12,13,14,15,16,17,18,19,20,21,22,23,24,25,26,27,28,29,30,31,32,33,34,35,36,37,38]] (by kernel_rfl) (by kernel_rfl) (by kernel_rfl) (by rfl) (by rfl) (by kernel_rfl) ?_
              apply Exists.intro
              apply Exists.intro
              apply Exists.intro
              apply Exists.intro
              apply Exists.intro
              apply Exists.intro
              apply Exists.intro
              apply Exists.intro
              apply Exists.intro
              apply Exists.intro
              apply Exists.intro
              apply Exists.intro
              apply Exists.intro
              apply Exists.intro
              apply Exists.intro
              apply Exists.intro
              apply Exists.intro
              apply Exists.intro
              apply Exists.intro
              apply Exists.intro
              apply Exists.intro
              apply Exists.intro
              apply Exists.intro
              apply Exists.intro
              apply Exists.intro
              intro bs
              refine z_eM rfl rfl (xm_load (d := eTApiSpan x3) 2 htab rfl rfl rfl rfl rfl) rfl rfl rfl rfl rfl rfl ?_
              refine z_e rfl rfl (ex_pure htab rfl) rfl rfl rfl rfl rfl rfl ?_
              refine z_qM rfl rfl (xm_load 0 htab rfl rfl rfl rfl rfl) rfl rfl rfl rfl rfl rfl ?_
              refine z_eM rfl rfl (xm_load (d := eTApiSpan x48) 3 htab rfl rfl rfl rfl rfl) rfl rfl rfl rfl rfl rfl ?_
              refine z_e rfl rfl (ex_pure htab rfl) rfl rfl rfl rfl rfl rfl ?_
              refine z_eM rfl rfl (xm_load (d := eTApiSpan a0.gB) 0 htab rfl rfl rfl rfl rfl) rfl rfl rfl rfl rfl rfl ?_
              refine z_call rfl rfl (reckon_Do_ok a0.gOp x48 a0.gB x50 q50) rfl rfl (WkL.refl _) rfl rfl rfl rfl rfl rfl ?_
              refine z_call rfl rfl (span_Leq_ok x3 x50 x51 q51) rfl rfl (WkL.refl _) rfl rfl rfl rfl rfl rfl ?_
              refine z_q rfl rfl (ex_pure htab rfl) rfl rfl rfl rfl rfl rfl ?_
              refine z_known (j := 93) (b' := true) rfl hs52 ?_
              refine z_e rfl rfl (ex_pure htab rfl) rfl rfl rfl rfl rfl rfl ?_
              refine z_qM rfl rfl (xm_load 0 htab rfl rfl rfl rfl rfl) rfl rfl rfl rfl rfl rfl ?_
              refine z_e rfl rfl (ex_pure htab rfl) rfl rfl rfl rfl rfl rfl ?_
              refine z_eM rfl rfl (xm_load (d := eTApiSpan a0.gB) 0 htab rfl rfl rfl rfl rfl) rfl rfl rfl rfl rfl rfl ?_
              refine z_e rfl rfl (ex_pure htab rfl) rfl rfl rfl rfl rfl rfl ?_
              refine z_eM rfl rfl (xm_load (d := eTApiSpan a0.gA) 0 htab rfl rfl rfl rfl rfl) rfl rfl rfl rfl rfl rfl ?_
              refine z_call rfl rfl (reckon_Do_ok a0.gOp a0.gB a0.gA x53 q53) rfl rfl (WkL.refl _) rfl rfl rfl rfl rfl rfl ?_
              refine z_e rfl rfl (ex_pure htab rfl) rfl rfl rfl rfl rfl rfl ?_
              refine z_qM rfl rfl (xm_load 0 htab rfl rfl rfl rfl rfl) rfl rfl rfl rfl rfl rfl ?_
              refine z_e rfl rfl (ex_pure htab rfl) rfl rfl rfl rfl rfl rfl ?_
              refine z_eM rfl rfl (xm_load (d := eTApiSpan a0.gB) 0 htab rfl rfl rfl rfl rfl) rfl rfl rfl rfl rfl rfl ?_
              refine z_eM rfl rfl (xm_load (d := eTApiSpan x48) 3 htab rfl rfl rfl rfl rfl) rfl rfl rfl rfl rfl rfl ?_
              refine z_call rfl rfl (reckon_Do_ok a0.gOp a0.gB x48 x54 q54) rfl rfl (WkL.refl _) rfl rfl rfl rfl rfl rfl ?_
              refine z_call rfl rfl (span_Leq_ok x53 x54 x55 q55) rfl rfl (WkL.refl _) rfl rfl rfl rfl rfl rfl ?_
              refine z_q rfl rfl (x_pickT rfl rfl rfl) rfl rfl rfl rfl rfl rfl ?_
              refine z_q rfl rfl (ex_pure htab rfl) rfl rfl rfl rfl rfl rfl ?_
              refine z_known (j := 109) (b' := true) rfl hs56 ?_
              refine z_e rfl rfl (ex_pure htab rfl) rfl rfl rfl rfl rfl rfl ?_
              refine z_qM rfl rfl (xm_load 0 htab rfl rfl rfl rfl rfl) rfl rfl rfl rfl rfl rfl ?_
              refine z_e rfl rfl (ex_pure htab rfl) rfl rfl rfl rfl rfl rfl ?_
              refine z_eM rfl rfl (xm_load (d := eTApiSpan a0.gA) 0 htab rfl rfl rfl rfl rfl) rfl rfl rfl rfl rfl rfl ?_
              refine z_call rfl rfl (reckon_One_ok a0.gOp a0.gA x57 q57) rfl rfl (WkL.refl _) rfl rfl rfl rfl rfl rfl ?_
              refine z_e rfl rfl (ex_pure htab rfl) rfl rfl rfl rfl rfl rfl ?_
              refine z_qM rfl rfl (xm_load 0 htab rfl rfl rfl rfl rfl) rfl rfl rfl rfl rfl rfl ?_
              refine z_eM rfl rfl (xm_load (d := eTApiSpan x48) 3 htab rfl rfl rfl rfl rfl) rfl rfl rfl rfl rfl rfl ?_
              refine z_nil rfl rfl (fun e he => by simp [isAl] at he) ?_
              obtain ⟨x58, q58, hm⟩ := yes_bind hm
              refine p_call0 (reckon_One_ok a0.gOp x48 x58 q58) rfl rfl rfl rfl rfl (WkL.refl _) ?_
              rintro _ rfl
              obtain ⟨x59, q59, hm⟩ := yes_bind hm
              refine p_call0 (span_Leq_ok x57 x58 x59 q59) rfl rfl rfl rfl rfl (WkL.refl _) ?_
              rintro _ rfl
              refine p_pickT rfl rfl rfl rfl rfl rfl ?_
              refine p_pure htab rfl rfl rfl rfl ?_
              refine p_split (i := 121) rfl (fun hg60 => ?_) (fun hg60 => ?_)
              · replace hm := yes_t hg60 hm
                obtain ⟨x61, q61, hm⟩ := yes_bind hm
                refine p_call0 (l04_lives_ok  x61 q61) rfl rfl rfl rfl rfl (WkL.refl _) ?_
                rintro _ rfl
                refine p_pickT rfl rfl rfl rfl rfl rfl ?_
                refine p_pure htab rfl rfl rfl rfl ?_
                refine ops_nil ?_
                refine then_normal ?_
                refine wpD_ret ?_
                have er62 := yes_eq hm; subst er62
                refine retX.of (s' := ⟨[(4, .v (.bool x61))], [], []⟩) (WkS.perm (WkS.cons rfl (Wk.refl _) (WkS.nil)) (List.Perm.refl _) (List.Perm.refl _)) (retD_mk (hh := []) (.inl rfl) (resL_cons (resOne_tmp rfl) (resL_nil)) (List.nil_sublist _) (List.Sublist.refl _) ?_)
                exact ⟨rfl, rfl, rfl⟩
              · replace hm := yes_f hg60 hm
                refine p_skip rfl rfl rfl ?_
                refine p_pickF rfl rfl rfl rfl rfl rfl ?_
                refine p_pure htab rfl rfl rfl rfl ?_
                refine ops_nil ?_
                refine then_normal ?_
                refine wpD_ret ?_
                have er63 := yes_eq hm; subst er63
                refine retX.of (s' := ⟨[(4, .v (.bool false))], [], []⟩) (WkS.perm (WkS.cons rfl (Wk.refl _) (WkS.nil)) (List.Perm.refl _) (List.Perm.refl _)) (retD_mk (hh := []) (.inl rfl) (resL_cons (resOne_tmp rfl) (resL_nil)) (List.nil_sublist _) (List.Sublist.refl _) ?_)
                exact ⟨rfl, rfl, rfl⟩
            · replace hm := yes_f hs56 hm
              refine wpD_draws 33 [] [[],[],[1],[],[],[4],[1,3,4,5],[0,1,3,4,5,6],[0,1,3,4,5,6,7],[0,1,3,4,5,6,7],[0,1,3,4,5,6,7,9],[0,1,3,4,5,6,7],[0,1,3,4,5,6,7,11],[0,1,3,4,5,6,7],[0,1,3,4,5,6,7,13],[0,1,3,4,5,6,7,9,11,12,13,14],[0,1,3,4,5,6,7],[0,1,3,4,5,6,7,16],[0,1,3,4,5,6,7],[0,1,3,4,5,6,7,18],[0,1,3,4,5,6,7],[0,1,3,4,5,6,7,9,11,12,13,14,15,16,18,19,20],[0,1,3,4,5,6,7,9,11,12,13,14,15,16,18,19,20,21],[0,1,3,4,5,6,7,9,11,12,13,14,15,16,18,19,20,21,22],[0,1,3,4,5,6,7,9,11,12,13,14,15,16,18,19,20,21,22],[0,1,3,4,5,6,7,9,11,12,13,14,15,16,18,19,20,21,22],[0,1,3,4,5,6,7,9,11,12,13,14,15,16,18,19,20,21,22],[0,1,3,4,5,6,7,9,11,12,13,14,15,16,18,19,20,21,22],[0,1,3,4,5,6,7,9,11,12,13,14,15,16,18,19,20,21,22],[0,1,3,4,5,6,7,9,11,12,13,14,15,16,18,19,20,21,22],[0,1,3,4,5,6,7,9,11,12,13,14,15,16,18,19,20,21,22],[0,1,3,4,5,6,7,9,11,12,13,14,15,16,18,19,20,21,22],[0,1,3,4,5,6,7,9,11,12,13,14,15,16,18,19,20,21,22]] [0,1,3,4,5,6,7,9,11,12,13,14,15,16,18,19,20,21,22] [[],[],[1],[],[],[4],[1,2,3,4,5],[0,1,2,3,4,5,6],[0,1,2,3,4,5,6,7],[0,1,2,3,4,5,6,7,8],[0,1,2,3,4,5,6,7,8,9],[0,1,2,3,4,5,6,7,8],[0,1,2,3,4,5,6,7,8,11],[0,1,2,3,4,5,6,7,8],[0,1,2,3,4,5,6,7,8,13],[0,1,2,3,4,5,6,7,8,9,10,11,12,13,14],[0,1,2,3,4,5,6,7,8],[0,1,2,3,4,5,6,7,8,16],[0,1,2,3,4,5,6,7,8],[0,1,2,3,4,5,6,7,8,18],[0,1,2,3,4,5,6,7,8],[0,1,2,3,4,5,6,7,8,9,10,11,12,13,14,15,16,17,18,19,20],[0,1,2,3,4,5,6,7,8,9,10,11,12,13,14,15,16,17,18,19,20,21],[0,1,2,3,4,5,6,7,8,9,10,11,12,13,14,15,16,17,18,19,20,21,22],[0,1,2,3,4,5,6,7,8,9,10,11,12,13,14,15,16,17,18,19,20,21,22,23],[0,1,2,3,4,5,6,7,8,9,10,11,12,13,14,15,16,17,18,19,20,21,22,23,24],[0,1,2,3,4,5,6,7,8,9,10,11,12,13,14,15,16,17,18,19,20,21,22,23,24,25],[0,1,2,3,4,5,6,7,8,9,10,11,12,13,14,15,16,17,18,19,20,21,22,23,24],[0,1,2,3,4,5,6,7,8,9,10,11,12,13,14,15,16,17,18,19,20,21,22,23,24,27],[0,1,2,3,4,5,6,7,8,9,10,11,12,13,14,15,16,17,18,19,20,21,22,23,24,25,26,27,28],[0,1,2,3,4,5,6,7,8,9,10,11,12,13,14,15,16,17,18,19,20,21,22,23,24],[0,1,2,3,4,5,6,7,8,9,10,11,12,13,14,15,16,17,18,19,20,21,22,23,24,30],[0,1,2,3,4,5,6,7,8,9,10,11,12,13,14,15,16,17,18,19,20,21,22,23,24],[0,1,2,3,4,5,6,7,8,9,10,11,12,13,14,15,16,17,18,19,20,21,22,23,24,25,26,27,28,29,30,31,32],[0,1,2,3,4,5,6,7,8,9,10,11,12,13,14,15,16,17,18,19,20,21,22,23,24,25,26,27,28,29,30,31,32,33],[0,1,2,3,4,5,6,7,8,9,10,11,12,13,14,15,16,17,18,19,20,21,22,23,24,25,26,27,28,29,30,31,32,33,34],[0,1,2,3,4,5,6,7,8,9,10,11,12,13,14,15,16,17,18,19,20,21,22,23,24,25,26,27,28,29,30,31,32,33,34,35],[0,1,2,3,4,5,6,7,8,9,10,11,12,13,14,15,16,17,18,19,20,21,22,23,24,25,26,27,28,29,30,31,32,33,34,35,36],[0,1,2,3,4,5,6,7,8,9,10,11,12,13,14,15,16,17,18,19,20,21,22,23,24,25,26,27,28,29,30,31,32,33,34,35,36,37],[0,1,2,3,4,5,6,7,8,9,10,11,12,13,14,15,16,17,18,19,20,21,22,23,24,25,26,27,28,29,30,31,32,33,34,35,36,37,38]] (by kernel_rfl) (by kernel_rfl) (by kernel_rfl) (by rfl) (by rfl) (by kernel_rfl) ?_
              apply Exists.intro
              apply Exists.intro
              apply Exists.intro
              apply Exists.intro
              apply Exists.intro
              apply Exists.intro
              apply Exists.intro
              apply Exists.intro
              apply Exists.intro
              apply Exists.intro
              apply Exists.intro
              apply Exists.intro
              apply Exists.intro
              apply Exists.intro
              apply Exists.intro
              apply Exists.intro
              apply Exists.intro
              apply Exists.intro
              apply Exists.intro
              intro bs
              refine z_eM rfl rfl (xm_load (d := eTApiSpan x3) 2 htab rfl rfl rfl rfl rfl) rfl rfl rfl rfl rfl rfl ?_
              refine z_e rfl rfl (ex_pure htab rfl) rfl rfl rfl rfl rfl rfl ?_
              refine z_qM rfl rfl (xm_load 0 htab rfl rfl rfl rfl rfl) rfl rfl rfl rfl rfl rfl ?_
              refine z_eM rfl rfl (xm_load (d := eTApiSpan x48) 3 htab rfl rfl rfl rfl rfl) rfl rfl rfl rfl rfl rfl ?_
              refine z_e rfl rfl (ex_pure htab rfl) rfl rfl rfl rfl rfl rfl ?_
              refine z_eM rfl rfl (xm_load (d := eTApiSpan a0.gB) 0 htab rfl rfl rfl rfl rfl) rfl rfl rfl rfl rfl rfl ?_
              refine z_call rfl rfl (reckon_Do_ok a0.gOp x48 a0.gB x50 q50) rfl rfl (WkL.refl _) rfl rfl rfl rfl rfl rfl ?_
              refine z_call rfl rfl (span_Leq_ok x3 x50 x51 q51) rfl rfl (WkL.refl _) rfl rfl rfl rfl rfl rfl ?_
              refine z_q rfl rfl (ex_pure htab rfl) rfl rfl rfl rfl rfl rfl ?_
              refine z_known (j := 93) (b' := true) rfl hs52 ?_
              refine z_e rfl rfl (ex_pure htab rfl) rfl rfl rfl rfl rfl rfl ?_
              refine z_qM rfl rfl (xm_load 0 htab rfl rfl rfl rfl rfl) rfl rfl rfl rfl rfl rfl ?_
              refine z_e rfl rfl (ex_pure htab rfl) rfl rfl rfl rfl rfl rfl ?_
              refine z_eM rfl rfl (xm_load (d := eTApiSpan a0.gB) 0 htab rfl rfl rfl rfl rfl) rfl rfl rfl rfl rfl rfl ?_
              refine z_e rfl rfl (ex_pure htab rfl) rfl rfl rfl rfl rfl rfl ?_
              refine z_eM rfl rfl (xm_load (d := eTApiSpan a0.gA) 0 htab rfl rfl rfl rfl rfl) rfl rfl rfl rfl rfl rfl ?_
              refine z_call rfl rfl (reckon_Do_ok a0.gOp a0.gB a0.gA x53 q53) rfl rfl (WkL.refl _) rfl rfl rfl rfl rfl rfl ?_
              refine z_e rfl rfl (ex_pure htab rfl) rfl rfl rfl rfl rfl rfl ?_
              refine z_qM rfl rfl (xm_load 0 htab rfl rfl rfl rfl rfl) rfl rfl rfl rfl rfl rfl ?_
              refine z_e rfl rfl (ex_pure htab rfl) rfl rfl rfl rfl rfl rfl ?_
              refine z_eM rfl rfl (xm_load (d := eTApiSpan a0.gB) 0 htab rfl rfl rfl rfl rfl) rfl rfl rfl rfl rfl rfl ?_
              refine z_eM rfl rfl (xm_load (d := eTApiSpan x48) 3 htab rfl rfl rfl rfl rfl) rfl rfl rfl rfl rfl rfl ?_
              refine z_call rfl rfl (reckon_Do_ok a0.gOp a0.gB x48 x54 q54) rfl rfl (WkL.refl _) rfl rfl rfl rfl rfl rfl ?_
              refine z_call rfl rfl (span_Leq_ok x53 x54 x55 q55) rfl rfl (WkL.refl _) rfl rfl rfl rfl rfl rfl ?_
              refine z_q rfl rfl (x_pickT rfl rfl rfl) rfl rfl rfl rfl rfl rfl ?_
              refine z_q rfl rfl (ex_pure htab rfl) rfl rfl rfl rfl rfl rfl ?_
              refine z_known (j := 109) (b' := false) rfl hs56 ?_
              refine z_skip rfl rfl rfl rfl ?_
              refine z_skip rfl rfl rfl rfl ?_
              refine z_skip rfl rfl rfl rfl ?_
              refine z_skip rfl rfl rfl rfl ?_
              refine z_skip rfl rfl rfl rfl ?_
              refine z_skip rfl rfl rfl rfl ?_
              refine z_skip rfl rfl rfl rfl ?_
              refine z_skip rfl rfl rfl rfl ?_
              refine z_nil rfl rfl (fun e he => by simp [isAl] at he) ?_
              refine p_skip rfl rfl rfl ?_
              refine p_skip rfl rfl rfl ?_
              refine p_pickF rfl rfl rfl rfl rfl rfl ?_
              refine p_pure htab rfl rfl rfl rfl ?_
              refine p_skip rfl rfl rfl ?_
              refine p_pickF rfl rfl rfl rfl rfl rfl ?_
              refine p_pure htab rfl rfl rfl rfl ?_
              refine ops_nil ?_
              refine then_normal ?_
              refine wpD_ret ?_
              have er64 := yes_eq hm; subst er64
              refine retX.of (s' := ⟨[(4, .v (.bool false))], [], []⟩) (WkS.perm (WkS.cons rfl (Wk.refl _) (WkS.nil)) (List.Perm.refl _) (List.Perm.refl _)) (retD_mk (hh := []) (.inl rfl) (resL_cons (resOne_tmp rfl) (resL_nil)) (List.nil_sublist _) (List.Sublist.refl _) ?_)
              exact ⟨rfl, rfl, rfl⟩
          · replace hm := yes_f hs52 hm
            refine wpD_draws 33 [] [[],[],[1],[],[],[4],[1,3,4,5],[0,1,3,4,5,6],[0,1,3,4,5,6,7],[0,1,3,4,5,6,7],[0,1,3,4,5,6,7],[0,1,3,4,5,6,7],[0,1,3,4,5,6,7],[0,1,3,4,5,6,7],[0,1,3,4,5,6,7],[0,1,3,4,5,6,7],[0,1,3,4,5,6,7],[0,1,3,4,5,6,7],[0,1,3,4,5,6,7],[0,1,3,4,5,6,7],[0,1,3,4,5,6,7],[0,1,3,4,5,6,7],[0,1,3,4,5,6,7],[0,1,3,4,5,6,7],[0,1,3,4,5,6,7],[0,1,3,4,5,6,7],[0,1,3,4,5,6,7],[0,1,3,4,5,6,7],[0,1,3,4,5,6,7],[0,1,3,4,5,6,7],[0,1,3,4,5,6,7],[0,1,3,4,5,6,7],[0,1,3,4,5,6,7]] [0,1,3,4,5,6,7] [[],[],[1],[],[],[4],[1,2,3,4,5],[0,1,2,3,4,5,6],[0,1,2,3,4,5,6,7],[0,1,2,3,4,5,6,7,8],[0,1,2,3,4,5,6,7,8,9],[0,1,2,3,4,5,6,7,8],[0,1,2,3,4,5,6,7,8,11],[0,1,2,3,4,5,6,7,8],[0,1,2,3,4,5,6,7,8,13],[0,1,2,3,4,5,6,7,8,9,10,11,12,13,14],[0,1,2,3,4,5,6,7,8],[0,1,2,3,4,5,6,7,8,16],[0,1,2,3,4,5,6,7,8],[0,1,2,3,4,5,6,7,8,18],[0,1,2,3,4,5,6,7,8],[0,1,2,3,4,5,6,7,8,9,10,11,12,13,14,15,16,17,18,19,20],[0,1,2,3,4,5,6,7,8,9,10,11,12,13,14,15,16,17,18,19,20,21],[0,1,2,3,4,5,6,7,8,9,10,11,12,13,14,15,16,17,18,19,20,21,22],[0,1,2,3,4,5,6,7,8,9,10,11,12,13,14,15,16,17,18,19,20,21,22,23],[0,1,2,3,4,5,6,7,8,9,10,11,12,13,14,15,16,17,18,19,20,21,22,23,24],[0,1,2,3,4,5,6,7,8,9,10,11,12,13,14,15,16,17,18,19,20,21,22,23,24,25],[0,1,2,3,4,5,6,7,8,9,10,11,12,13,14,15,16,17,18,19,20,21,22,23,24],[0,1,2,3,4,5,6,7,8,9,10,11,12,13,14,15,16,17,18,19,20,21,22,23,24,27],[0,1,2,3,4,5,6,7,8,9,10,11,12,13,14,15,16,17,18,19,20,21,22,23,24,25,26,27,28],[0,1,2,3,4,5,6,7,8,9,10,11,12,13,14,15,16,17,18,19,20,21,22,23,24],[0,1,2,3,4,5,6,7,8,9,10,11,12,13,14,15,16,17,18,19,20,21,22,23,24,30],[0,1,2,3,4,5,6,7,8,9,10,11,12,13,14,15,16,17,18,19,20,21,22,23,24],[0,1,2,3,4,5,6,7,8,9,10,11,12,13,14,15,16,17,18,19,20,21,22,23,24,25,26,27,28,29,30,31,32],[0,1,2,3,4,5,6,7,8,9,10,11,12,13,14,15,16,17,18,19,20,21,22,23,24,25,26,27,28,29,30,31,32,33],[0,1,2,3,4,5,6,7,8,9,10,11,12,13,14,15,16,17,18,19,20,21,22,23,24,25,26,27,28,29,30,31,32,33,34],[0,1,2,3,4,5,6,7,8,9,10,11,12,13,14,15,16,17,18,19,20,21,22,23,24,25,26,27,28,29,30,31,32,33,34,35],[0,1,2,3,4,5,6,7,8,9,10,11,12,13,14,15,16,17,18,19,20,21,22,23,24,25,26,27,28,29,30,31,32,33,34,35,36],[0,1,2,3,4,5,6,7,8,9,10,11,12,13,14,15,16,17,18,19,20,21,22,23,24,25,26,27,28,29,30,31,32,33,34,35,36,37],[0,1,2,3,4,5,6,7,8,9,10,11,12,13,14,15,16,17,18,19,20,21,22,23,24,25,26,27,28,29,30,31,32,33,34,35,36,37,38]] (by kernel_rfl) (by kernel_rfl) (by kernel_rfl) (by rfl) (by rfl) (by kernel_rfl) ?_
            apply Exists.intro
            apply Exists.intro
            apply Exists.intro
            apply Exists.intro
            apply Exists.intro
            apply Exists.intro
            apply Exists.intro
            intro bs
            refine z_eM rfl rfl (xm_load (d := eTApiSpan x3) 2 htab rfl rfl rfl rfl rfl) rfl rfl rfl rfl rfl rfl ?_
            refine z_e rfl rfl (ex_pure htab rfl) rfl rfl rfl rfl rfl rfl ?_
            refine z_qM rfl rfl (xm_load 0 htab rfl rfl rfl rfl rfl) rfl rfl rfl rfl rfl rfl ?_
            refine z_eM rfl rfl (xm_load (d := eTApiSpan x48) 3 htab rfl rfl rfl rfl rfl) rfl rfl rfl rfl rfl rfl ?_
            refine z_e rfl rfl (ex_pure htab rfl) rfl rfl rfl rfl rfl rfl ?_
            refine z_eM rfl rfl (xm_load (d := eTApiSpan a0.gB) 0 htab rfl rfl rfl rfl rfl) rfl rfl rfl rfl rfl rfl ?_
            refine z_call rfl rfl (reckon_Do_ok a0.gOp x48 a0.gB x50 q50) rfl rfl (WkL.refl _) rfl rfl rfl rfl rfl rfl ?_
            refine z_call rfl rfl (span_Leq_ok x3 x50 x51 q51) rfl rfl (WkL.refl _) rfl rfl rfl rfl rfl rfl ?_
            refine z_q rfl rfl (ex_pure htab rfl) rfl rfl rfl rfl rfl rfl ?_
            refine z_known (j := 93) (b' := false) rfl hs52 ?_
            refine z_skip rfl rfl rfl rfl ?_
            refine z_skip rfl rfl rfl rfl ?_
            refine z_skip rfl rfl rfl rfl ?_
            refine z_skip rfl rfl rfl rfl ?_
            refine z_skip rfl rfl rfl rfl ?_
            refine z_skip rfl rfl rfl rfl ?_
            refine z_skip rfl rfl rfl rfl ?_
            refine z_skip rfl rfl rfl rfl ?_
            refine z_skip rfl rfl rfl rfl ?_
            refine z_skip rfl rfl rfl rfl ?_
            refine z_skip rfl rfl rfl rfl ?_
            refine z_skip rfl rfl rfl rfl ?_
            refine z_skip rfl rfl rfl rfl ?_
            refine z_skip rfl rfl rfl rfl ?_
            refine z_q rfl rfl (x_pickF rfl rfl rfl) rfl rfl rfl rfl rfl rfl ?_
            refine z_q rfl rfl (ex_pure htab rfl) rfl rfl rfl rfl rfl rfl ?_
            refine z_skip rfl rfl rfl rfl ?_
            refine z_skip rfl rfl rfl rfl ?_
            refine z_skip rfl rfl rfl rfl ?_
            refine z_skip rfl rfl rfl rfl ?_
            refine z_skip rfl rfl rfl rfl ?_
            refine z_skip rfl rfl rfl rfl ?_
            refine z_skip rfl rfl rfl rfl ?_
            refine z_skip rfl rfl rfl rfl ?_
            refine z_nil rfl rfl (fun e he => by simp [isAl] at he) ?_
            refine p_skip rfl rfl rfl ?_
            refine p_skip rfl rfl rfl ?_
            refine p_pickF rfl rfl rfl rfl rfl rfl ?_
            refine p_pure htab rfl rfl rfl rfl ?_
            refine p_skip rfl rfl rfl ?_
            refine p_pickF rfl rfl rfl rfl rfl rfl ?_
            refine p_pure htab rfl rfl rfl rfl ?_
            refine ops_nil ?_
            refine then_normal ?_
            refine wpD_ret ?_
            have er65 := yes_eq hm; subst er65
            refine retX.of (s' := ⟨[(4, .v (.bool false))], [], []⟩) (WkS.perm (WkS.cons rfl (Wk.refl _) (WkS.nil)) (List.Perm.refl _) (List.Perm.refl _)) (retD_mk (hh := []) (.inl rfl) (resL_cons (resOne_tmp rfl) (resL_nil)) (List.nil_sublist _) (List.Sublist.refl _) ?_)
            exact ⟨rfl, rfl, rfl⟩
noncomputable def l04_ReckonExact (a0 : Int) (a1 : Int) (a2 : Int) : Option (Bool) :=
  ((span_One a1).bind fun x1 => ((span_One a2).bind fun x2 => ((reckon_Do a0 x1 x2).bind fun x3 => ((r02_Do a0 a1 a2).bind fun x5 => (bif (x5.2 != (0 : Int)) then (Option.bind (α := Bool) (bif (x3.gSome == false && (x3.gLo == (0 : Int) && (x3.gHi == (0 : Int) && true))) then (l04_lives.bind fun x14 => some x14) else some false) fun y12 => some y12) else ((r02_One a0 a1).bind fun x16 => ((r03_Make x5.1 x5.1).bind fun x17 => (bif (x3.gSome == x17.gSome && (x3.gLo == x17.gLo && (x3.gHi == x17.gHi && true))) then (bif (x16.2 != (0 : Int)) then (l04_lives.bind fun x20 => some x20) else ((span_One a1).bind fun x22 => ((reckon_One a0 x22).bind fun x23 => ((r03_Make x16.1 x16.1).bind fun x24 => (bif (x23.gSome == x24.gSome && (x23.gLo == x24.gLo && (x23.gHi == x24.gHi && true))) then (l04_lives.bind fun x26 => some x26) else some false))))) else some false))))))))
set_option maxRecDepth 100000 in
set_option maxHeartbeats 2000000 in
theorem l04_ReckonExact_ok (a0 : Int) (a1 : Int) (a2 : Int) (r : Bool) (h0 : l04_ReckonExact a0 a1 a2 = some r) : CallsD Try.prog 5 [.v (.int .i64 a0), .v (.int .i64 a1), .v (.int .i64 a2)] [] [] (fun d h k => d = .v (.bool r) ∧ h = [] ∧ k = []) := by
  have hm := yes_of h0
  unfold l04_ReckonExact at hm
  clear h0
  refine enterX htab Try.func5 rfl rfl rfl rfl rfl (fun C => ?_)
  refine wpD_seq ?_
  refine wpD_region ?_
  refine p_pure htab rfl rfl rfl rfl ?_
  refine ops_nil ?_
  refine then_normal ?_
  refine wpD_seq ?_
  refine wpD_region ?_
  refine p_pure htab rfl rfl rfl rfl ?_
  refine p_pure htab rfl rfl rfl rfl ?_
  obtain ⟨x1, q1, hm⟩ := yes_bind hm
  refine p_call0 (span_One_ok a1 x1 q1) rfl rfl rfl rfl rfl (WkL.refl _) ?_
  rintro _ rfl
  refine p_pure htab rfl rfl rfl rfl ?_
  obtain ⟨x2, q2, hm⟩ := yes_bind hm
  refine p_call0 (span_One_ok a2 x2 q2) rfl rfl rfl rfl rfl (WkL.refl _) ?_
  rintro _ rfl
  obtain ⟨x3, q3, hm⟩ := yes_bind hm
  refine p_call0 (reckon_Do_ok a0 x1 x2 x3 q3) rfl rfl rfl rfl rfl (WkL.refl _) ?_
  rintro _ rfl
  refine p_alloc htab rfl rfl rfl rfl rfl rfl rfl (fun b4 => ?_)
  refine p_store (ds' := [.v (.bool x3.gSome), .v (.int .i64 x3.gLo), .v (.int .i64 x3.gHi)]) (h' := [(b4, Blk.cells [.v (.bool x3.gSome), .v (.int .i64 x3.gLo), .v (.int .i64 x3.gHi)] 23)]) 0 htab rfl rfl rfl rfl rfl rfl rfl rfl rfl rfl rfl rfl ?_
  refine ops_nil ?_
  refine then_normal ?_
  refine wpD_seq ?_
  refine wpD_region ?_
  refine p_pure htab rfl rfl rfl rfl ?_
  refine p_pure htab rfl rfl rfl rfl ?_
  refine p_pure htab rfl rfl rfl rfl ?_
  obtain ⟨x5, q5, hm⟩ := yes_bind hm
  refine p_call0 (r02_Do_ok a0 a1 a2 x5 q5) rfl rfl rfl rfl rfl (WkL.refl _) ?_
  rintro _ rfl
  refine p_pure htab rfl rfl rfl rfl ?_
  refine p_pure htab rfl rfl rfl rfl ?_
  refine p_pure htab rfl rfl rfl rfl ?_
  refine p_pure htab rfl rfl rfl rfl ?_
  refine p_pure htab rfl rfl rfl rfl ?_
  refine ops_nil ?_
  refine then_normal ?_
  refine wpD_seq ?_
  refine wpD_seq ?_
  refine wpD_region ?_
  refine p_pure htab rfl rfl rfl rfl ?_
  refine p_pure htab rfl rfl rfl rfl ?_
  refine ops_nil ?_
  refine then_normal ?_
  refine wpD_cond rfl (fun hc9 => ?_) (fun hc9 => ?_)
  · replace hm := yes_t hc9 hm
    refine wpD_seq ?_
    obtain ⟨y12, q12, ho12⟩ := yes_bind hm
    refine wpD_mid (Y := Unit) (fun z12 => (⟨[(6, .v (.bool y12))], [(b4, Blk.cells [.v (.bool x3.gSome), .v (.int .i64 x3.gLo), .v (.int .i64 x3.gHi)] 23)], []⟩ : S)) ?_ ?_
    · clear hm; have hm := yes_of q12
      refine wpD_region ?_
      refine p_load (d := eTApiSpan x3) 0 htab rfl rfl rfl rfl rfl rfl rfl rfl ?_
      refine p_build (r := [.v (.bool false), .v (.int .i64 (0 : Int)), .v (.int .i64 (0 : Int))]) htab rfl rfl rfl rfl rfl rfl rfl rfl rfl ?_
      refine p_eqS htab rfl rfl rfl rfl rfl eqt23 rfl rfl rfl rfl rfl ?_
      refine p_pure htab rfl rfl rfl rfl ?_
      refine p_split (i := 30) rfl (fun hg13 => ?_) (fun hg13 => ?_)
      · replace hm := yes_t hg13 hm
        obtain ⟨x14, q14, hm⟩ := yes_bind hm
        refine p_call0 (l04_lives_ok  x14 q14) rfl rfl rfl rfl rfl (WkL.refl _) ?_
        rintro _ rfl
        refine p_pickT rfl rfl rfl rfl rfl rfl ?_
        refine p_pure htab rfl rfl rfl rfl ?_
        refine ops_nil ?_
        have e12 := yes_eq hm; subst e12
        refine ⟨rfl, ?_⟩
        exact WkX.of () (WkS.perm (WkS.cons rfl (Wk.refl _) (WkS.nil)) (List.Perm.refl _) (List.Perm.refl _))
      · replace hm := yes_f hg13 hm
        refine p_skip rfl rfl rfl ?_
        refine p_pickF rfl rfl rfl rfl rfl rfl ?_
        refine p_pure htab rfl rfl rfl rfl ?_
        refine ops_nil ?_
        have e12 := yes_eq hm; subst e12
        refine ⟨rfl, ?_⟩
        exact WkX.of () (WkS.perm (WkS.cons rfl (Wk.refl _) (WkS.nil)) (List.Perm.refl _) (List.Perm.refl _))
    · intro s12 hw12; clear hm; have hm := ho12; clear q12 ho12
      refine then_normal ?_
      refine wpD_wkX hw12 (fun z12 => ?_)
      refine wpD_ret ?_
      refine then_ret ?_
      have er15 := yes_eq hm; subst er15
      refine retX.of (s' := ⟨[(6, .v (.bool y12))], [], []⟩) (WkS.perm (WkS.cons rfl (Wk.refl _) (WkS.nil)) (List.Perm.refl _) (List.Perm.refl _)) (retD_mk (hh := []) (.inl rfl) (resL_cons (resOne_tmp rfl) (resL_nil)) (List.nil_sublist _) (List.Sublist.refl _) ?_)
      exact ⟨rfl, rfl, rfl⟩
  · replace hm := yes_f hc9 hm
    refine wpD_skip ?_
    refine then_normal ?_
    refine wpD_seq ?_
    refine wpD_region ?_
    refine p_pure htab rfl rfl rfl rfl ?_
    refine p_pure htab rfl rfl rfl rfl ?_
    obtain ⟨x16, q16, hm⟩ := yes_bind hm
    refine p_call0 (r02_One_ok a0 a1 x16 q16) rfl rfl rfl rfl rfl (WkL.refl _) ?_
    rintro _ rfl
    refine p_pure htab rfl rfl rfl rfl ?_
    refine p_pure htab rfl rfl rfl rfl ?_
    refine p_pure htab rfl rfl rfl rfl ?_
    refine p_pure htab rfl rfl rfl rfl ?_
    refine p_pure htab rfl rfl rfl rfl ?_
    refine ops_nil ?_
    refine then_normal ?_
    refine wpD_seq ?_
    obtain ⟨x17, q17, hm⟩ := yes_bind hm
    refine bycB (x3.gSome == x17.gSome && (x3.gLo == x17.gLo && (x3.gHi == x17.gHi && true))) (fun hs18 => ?_) (fun hs18 => ?_)
    · replace hm := yes_t hs18 hm
      refine bycB (x16.2 != (0 : Int)) (fun hs19 => ?_) (fun hs19 => ?_)
      · replace hm := yes_t hs19 hm
        refine wpD_draws 15 [] [[],[],[],[],[0,3],[0,3],[0,3],[0,3],[0,3],[0,3],[0,3],[0,3],[0,3],[0,3],[0,3]] [0,3] [[],[],[],[1,2],[0,1,2,3],[0,1,2,3,4],[0,1,2,3,4,5],[0,1,2,3,4,5,6],[0,1,2,3,4,5,6,7],[0,1,2,3,4,5,6,7,8],[0,1,2,3,4,5,6,7,8],[0,1,2,3,4,5,6,7,8,10],[0,1,2,3,4,5,6,7,8,9,10,11],[0,1,2,3,4,5,6,7,8],[0,1,2,3,4,5,6,7,8],[0,1,2,3,4,5,6,7,8,9,10,11,12,13,14],[0,1,2,3,4,5,6,7,8,9,10,11,12,13,14,15],[0,1,2,3,4,5,6,7,8,9,10,11,12,13,14,15,16],[0,1,2,3,4,5,6,7,8,9,10,11,12,13,14,15,16,17],[0,1,2,3,4,5,6,7,8,9,10,11,12,13,14,15,16,17,18],[0,1,2,3,4,5,6,7,8,9,10,11,12,13,14,15,16,17,18,19],[0,1,2,3,4,5,6,7,8,9,10,11,12,13,14,15,16,17,18,19,20],[0,1,2,3,4,5,6,7,8,9,10,11,12,13,14,15,16,17,18,19,20,21]] (by kernel_rfl) (by kernel_rfl) (by kernel_rfl) (by rfl) (by rfl) (by kernel_rfl) ?_
        apply Exists.intro
        apply Exists.intro
        intro bs
        refine z_eM rfl rfl (xm_load (d := eTApiSpan x3) 0 htab rfl rfl rfl rfl rfl) rfl rfl rfl rfl rfl rfl ?_
        refine z_q rfl rfl (ex_pure htab rfl) rfl rfl rfl rfl rfl rfl ?_
        refine z_q rfl rfl (ex_pure htab rfl) rfl rfl rfl rfl rfl rfl ?_
        refine z_call rfl rfl (r03_Make_ok x5.1 x5.1 x17 q17) rfl rfl (WkL.refl _) rfl rfl rfl rfl rfl rfl ?_
        refine z_q rfl rfl (x_eqS htab rfl rfl eqt23 rfl rfl rfl rfl rfl) rfl rfl rfl rfl rfl rfl ?_
        refine z_q rfl rfl (ex_pure htab rfl) rfl rfl rfl rfl rfl rfl ?_
        refine z_known (j := 44) (b' := true) rfl hs18 ?_
        refine z_q rfl rfl (ex_pure htab rfl) rfl rfl rfl rfl rfl rfl ?_
        refine z_q rfl rfl (ex_pure htab rfl) rfl rfl rfl rfl rfl rfl ?_
        refine z_q rfl rfl (ex_pure htab rfl) rfl rfl rfl rfl rfl rfl ?_
        refine z_known (j := 47) (b' := true) rfl hs19 ?_
        refine z_skip rfl rfl rfl rfl ?_
        refine z_skip rfl rfl rfl rfl ?_
        refine z_skip rfl rfl rfl rfl ?_
        refine z_skip rfl rfl rfl rfl ?_
        refine z_skip rfl rfl rfl rfl ?_
        refine z_skip rfl rfl rfl rfl ?_
        refine z_nil rfl rfl (fun e he => by simp [isAl] at he) ?_
        refine p_skip rfl rfl rfl ?_
        refine p_skip rfl rfl rfl ?_
        refine p_pickT rfl rfl rfl rfl rfl rfl ?_
        refine p_pickT rfl rfl rfl rfl rfl rfl ?_
        refine p_pure htab rfl rfl rfl rfl ?_
        obtain ⟨x20, q20, hm⟩ := yes_bind hm
        refine p_call0 (l04_lives_ok  x20 q20) rfl rfl rfl rfl rfl (WkL.refl _) ?_
        rintro _ rfl
        refine p_pickT rfl rfl rfl rfl rfl rfl ?_
        refine p_pure htab rfl rfl rfl rfl ?_
        refine ops_nil ?_
        refine then_normal ?_
        refine wpD_ret ?_
        have er21 := yes_eq hm; subst er21
        refine retX.of (s' := ⟨[(6, .v (.bool x20))], [], []⟩) (WkS.perm (WkS.cons rfl (Wk.refl _) (WkS.nil)) (List.Perm.refl _) (List.Perm.refl _)) (retD_mk (hh := []) (.inl rfl) (resL_cons (resOne_tmp rfl) (resL_nil)) (List.nil_sublist _) (List.Sublist.refl _) ?_)
        exact ⟨rfl, rfl, rfl⟩
      · replace hm := yes_f hs19 hm
        obtain ⟨x22, q22, hm⟩ := yes_bind hm
        obtain ⟨x23, q23, hm⟩ := yes_bind hm
        refine wpD_draws 15 [] [[],[],[],[],[0,3],[0,3],[0,3],[0,3],[0,3],[0,3],[0,3],[0,3],[0,3,11],[0,3],[0,3]] [0,3,11,12] [[],[],[],[1,2],[0,1,2,3],[0,1,2,3,4],[0,1,2,3,4,5],[0,1,2,3,4,5,6],[0,1,2,3,4,5,6,7],[0,1,2,3,4,5,6,7,8],[0,1,2,3,4,5,6,7,8],[0,1,2,3,4,5,6,7,8,10],[0,1,2,3,4,5,6,7,8,9,10,11],[0,1,2,3,4,5,6,7,8],[0,1,2,3,4,5,6,7,8],[0,1,2,3,4,5,6,7,8,9,10,11,12,13,14],[0,1,2,3,4,5,6,7,8,9,10,11,12,13,14,15],[0,1,2,3,4,5,6,7,8,9,10,11,12,13,14,15,16],[0,1,2,3,4,5,6,7,8,9,10,11,12,13,14,15,16,17],[0,1,2,3,4,5,6,7,8,9,10,11,12,13,14,15,16,17,18],[0,1,2,3,4,5,6,7,8,9,10,11,12,13,14,15,16,17,18,19],[0,1,2,3,4,5,6,7,8,9,10,11,12,13,14,15,16,17,18,19,20],[0,1,2,3,4,5,6,7,8,9,10,11,12,13,14,15,16,17,18,19,20,21]] (by kernel_rfl) (by kernel_rfl) (by kernel_rfl) (by rfl) (by rfl) (by kernel_rfl) ?_
        apply Exists.intro
        apply Exists.intro
        apply Exists.intro
        apply Exists.intro
        intro bs
        refine z_eM rfl rfl (xm_load (d := eTApiSpan x3) 0 htab rfl rfl rfl rfl rfl) rfl rfl rfl rfl rfl rfl ?_
        refine z_q rfl rfl (ex_pure htab rfl) rfl rfl rfl rfl rfl rfl ?_
        refine z_q rfl rfl (ex_pure htab rfl) rfl rfl rfl rfl rfl rfl ?_
        refine z_call rfl rfl (r03_Make_ok x5.1 x5.1 x17 q17) rfl rfl (WkL.refl _) rfl rfl rfl rfl rfl rfl ?_
        refine z_q rfl rfl (x_eqS htab rfl rfl eqt23 rfl rfl rfl rfl rfl) rfl rfl rfl rfl rfl rfl ?_
        refine z_q rfl rfl (ex_pure htab rfl) rfl rfl rfl rfl rfl rfl ?_
        refine z_known (j := 44) (b' := true) rfl hs18 ?_
        refine z_q rfl rfl (ex_pure htab rfl) rfl rfl rfl rfl rfl rfl ?_
        refine z_q rfl rfl (ex_pure htab rfl) rfl rfl rfl rfl rfl rfl ?_
        refine z_q rfl rfl (ex_pure htab rfl) rfl rfl rfl rfl rfl rfl ?_
        refine z_known (j := 47) (b' := false) rfl hs19 ?_
        refine z_q rfl rfl (ex_pure htab rfl) rfl rfl rfl rfl rfl rfl ?_
        refine z_q rfl rfl (ex_pure htab rfl) rfl rfl rfl rfl rfl rfl ?_
        refine z_call rfl rfl (span_One_ok a1 x22 q22) rfl rfl (WkL.refl _) rfl rfl rfl rfl rfl rfl ?_
        refine z_call rfl rfl (reckon_One_ok a0 x22 x23 q23) rfl rfl (WkL.refl _) rfl rfl rfl rfl rfl rfl ?_
        refine z_q rfl rfl (ex_pure htab rfl) rfl rfl rfl rfl rfl rfl ?_
        refine z_q rfl rfl (ex_pure htab rfl) rfl rfl rfl rfl rfl rfl ?_
        refine z_nil rfl rfl (fun e he => by simp [isAl] at he) ?_
        obtain ⟨x24, q24, hm⟩ := yes_bind hm
        refine p_call0 (r03_Make_ok x16.1 x16.1 x24 q24) rfl rfl rfl rfl rfl (WkL.refl _) ?_
        rintro _ rfl
        refine p_eqS htab rfl rfl rfl rfl rfl eqt23 rfl rfl rfl rfl rfl ?_
        refine p_pickF rfl rfl rfl rfl rfl rfl ?_
        refine p_pickT rfl rfl rfl rfl rfl rfl ?_
        refine p_pure htab rfl rfl rfl rfl ?_
        refine p_split (i := 58) rfl (fun hg25 => ?_) (fun hg25 => ?_)
        · replace hm := yes_t hg25 hm
          obtain ⟨x26, q26, hm⟩ := yes_bind hm
          refine p_call0 (l04_lives_ok  x26 q26) rfl rfl rfl rfl rfl (WkL.refl _) ?_
          rintro _ rfl
          refine p_pickT rfl rfl rfl rfl rfl rfl ?_
          refine p_pure htab rfl rfl rfl rfl ?_
          refine ops_nil ?_
          refine then_normal ?_
          refine wpD_ret ?_
          have er27 := yes_eq hm; subst er27
          refine retX.of (s' := ⟨[(6, .v (.bool x26))], [], []⟩) (WkS.perm (WkS.cons rfl (Wk.refl _) (WkS.nil)) (List.Perm.refl _) (List.Perm.refl _)) (retD_mk (hh := []) (.inl rfl) (resL_cons (resOne_tmp rfl) (resL_nil)) (List.nil_sublist _) (List.Sublist.refl _) ?_)
          exact ⟨rfl, rfl, rfl⟩
        · replace hm := yes_f hg25 hm
          refine p_skip rfl rfl rfl ?_
          refine p_pickF rfl rfl rfl rfl rfl rfl ?_
          refine p_pure htab rfl rfl rfl rfl ?_
          refine ops_nil ?_
          refine then_normal ?_
          refine wpD_ret ?_
          have er28 := yes_eq hm; subst er28
          refine retX.of (s' := ⟨[(6, .v (.bool false))], [], []⟩) (WkS.perm (WkS.cons rfl (Wk.refl _) (WkS.nil)) (List.Perm.refl _) (List.Perm.refl _)) (retD_mk (hh := []) (.inl rfl) (resL_cons (resOne_tmp rfl) (resL_nil)) (List.nil_sublist _) (List.Sublist.refl _) ?_)
          exact ⟨rfl, rfl, rfl⟩
    · replace hm := yes_f hs18 hm
      refine wpD_draws 15 [] [[],[],[],[],[0,3],[0,3],[0,3],[0,3],[0,3],[0,3],[0,3],[0,3],[0,3],[0,3],[0,3]] [0,3] [[],[],[],[1,2],[0,1,2,3],[0,1,2,3,4],[0,1,2,3,4,5],[0,1,2,3,4,5,6],[0,1,2,3,4,5,6,7],[0,1,2,3,4,5,6,7,8],[0,1,2,3,4,5,6,7,8],[0,1,2,3,4,5,6,7,8,10],[0,1,2,3,4,5,6,7,8,9,10,11],[0,1,2,3,4,5,6,7,8],[0,1,2,3,4,5,6,7,8],[0,1,2,3,4,5,6,7,8,9,10,11,12,13,14],[0,1,2,3,4,5,6,7,8,9,10,11,12,13,14,15],[0,1,2,3,4,5,6,7,8,9,10,11,12,13,14,15,16],[0,1,2,3,4,5,6,7,8,9,10,11,12,13,14,15,16,17],[0,1,2,3,4,5,6,7,8,9,10,11,12,13,14,15,16,17,18],[0,1,2,3,4,5,6,7,8,9,10,11,12,13,14,15,16,17,18,19],[0,1,2,3,4,5,6,7,8,9,10,11,12,13,14,15,16,17,18,19,20],[0,1,2,3,4,5,6,7,8,9,10,11,12,13,14,15,16,17,18,19,20,21]] (by kernel_rfl) (by kernel_rfl) (by kernel_rfl) (by rfl) (by rfl) (by kernel_rfl) ?_
      apply Exists.intro
      apply Exists.intro
      intro bs
      refine z_eM rfl rfl (xm_load (d := eTApiSpan x3) 0 htab rfl rfl rfl rfl rfl) rfl rfl rfl rfl rfl rfl ?_
      refine z_q rfl rfl (ex_pure htab rfl) rfl rfl rfl rfl rfl rfl ?_
      refine z_q rfl rfl (ex_pure htab rfl) rfl rfl rfl rfl rfl rfl ?_
      refine z_call rfl rfl (r03_Make_ok x5.1 x5.1 x17 q17) rfl rfl (WkL.refl _) rfl rfl rfl rfl rfl rfl ?_
      refine z_q rfl rfl (x_eqS htab rfl rfl eqt23 rfl rfl rfl rfl rfl) rfl rfl rfl rfl rfl rfl ?_
      refine z_q rfl rfl (ex_pure htab rfl) rfl rfl rfl rfl rfl rfl ?_
      refine z_known (j := 44) (b' := false) rfl hs18 ?_
      refine z_skip rfl rfl rfl rfl ?_
      refine z_skip rfl rfl rfl rfl ?_
      refine z_skip rfl rfl rfl rfl ?_
      refine z_skip rfl rfl rfl rfl ?_
      refine z_skip rfl rfl rfl rfl ?_
      refine z_skip rfl rfl rfl rfl ?_
      refine z_skip rfl rfl rfl rfl ?_
      refine z_skip rfl rfl rfl rfl ?_
      refine z_skip rfl rfl rfl rfl ?_
      refine z_nil rfl rfl (fun e he => by simp [isAl] at he) ?_
      refine p_skip rfl rfl rfl ?_
      refine p_skip rfl rfl rfl ?_
      refine p_skip rfl rfl rfl ?_
      refine p_pickF rfl rfl rfl rfl rfl rfl ?_
      refine p_pure htab rfl rfl rfl rfl ?_
      refine p_skip rfl rfl rfl ?_
      refine p_pickF rfl rfl rfl rfl rfl rfl ?_
      refine p_pure htab rfl rfl rfl rfl ?_
      refine ops_nil ?_
      refine then_normal ?_
      refine wpD_ret ?_
      have er29 := yes_eq hm; subst er29
      refine retX.of (s' := ⟨[(6, .v (.bool false))], [], []⟩) (WkS.perm (WkS.cons rfl (Wk.refl _) (WkS.nil)) (List.Perm.refl _) (List.Perm.refl _)) (retD_mk (hh := []) (.inl rfl) (resL_cons (resOne_tmp rfl) (resL_nil)) (List.nil_sublist _) (List.Sublist.refl _) ?_)
      exact ⟨rfl, rfl, rfl⟩
end Go.Proofs.Ytebnbajjenpldaa.Ab
