/- Layer 12: what the functions compute. -/
import Derived.Test.YtbfbipcjdiipaaaPa1b
namespace Go.Proofs.Ytbfbipcjdiipaaa.Ab
open Go
set_option linter.all false
abbrev nlPa1_13 : List (List Nat) := [[],[0],[0,1],[0,1,2],[0,1,2,3],[0,1,2,3,4],[0,1,2,3,4,5],[0,1,2,3,4,5,6],[0,1,2,3,4,5,6,7],[0,1,2,3,4,5,6,7,8],[0,1,2,3,4,5,6,7,8,9],[0,1,2,3,4,5,6,7,8,9,10],[0,1,2,3,4,5,6,7,8,9,10,11],[0,1,2,3,4,5,6,7,8,9,10,11,12],[0,1,2,3,4,5,6,7,8,9,10,11,12,13],[0,1,2,3,4,5,6,7,8,9,10,11,12,13,14],[0,1,2,3,4,5,6,7,8,9,10,11,12,13,14,15],[0,1,2,3,4,5,6,7,8,9,10,11,12],[0,1,2,3,4,5,6,7,8,9,10,11,12,13,14,15,16,17],[0,1,2,3,4,5,6,7,8,9,10,11,12,13,14,15,16,17,18],[0,1,2,3,4,5,6,7,8,9,10,11,12,13,14,15,16,17,18,19],[0,1,2,3,4,5,6,7,8,9,10,11,12,13,14,15,16,17,18,19,20],[0,1,2,3,4,5,6,7,8,9,10,11,12,13,14,15,16,17,18,19,20,21],[0,1,2,3,4,5,6,7,8,9,10,11,12,13,14,15,16,17,18,19,20,21,22],[0,1,2,3,4,5,6,7,8,9,10,11,12,13,14,15,16,17,18,19,20,21,22,23],[0,1,2,3,4,5,6,7,8,9,10,11,12,13,14,15,16,17,18,19,20,21,22,23,24],[0,1,2,3,4,5,6,7,8,9,10,11,12,13,14,15,16,17,18,19,20,21,22,23,24,25],[0,1,2,3,4,5,6,7,8,9,10,11,12,13,14,15,16,17,18,19,20,21,22,23,24,25,26],[0,1,2,3,4,5,6,7,8,9,10,11,12,13,14,15,16,17,18,19,20,21,22,23,24,25,26,27],[0,1,2,3,4,5,6,7,8,9,10,11,12,13,14,15,16,17,18,19,20,21,22,23,24,25,26,27,28],[0,1,2,3,4,5,6,7,8,9,10,11,12,13,14,15,16,17,18,19,20,21,22,23,24,25,26,27,28,29],[0,1,2,3,4,5,6,7,8,9,10,11,12,13,14,15,16,17,18,19,20,21,22,23,24,25,26,27,28,29,30],[0,1,2,3,4,5,6,7,8,9,10,11,12,13,14,15,16,17,18,19,20,21,22,23,24,25,26,27,28,29,30,31],[0,1,2,3,4,5,6,7,8,9,10,11,12,13,14,15,16,17,18,19,20,21,22,23,24,25,26,27,28,29,30,31,32],[0,1,2,3,4,5,6,7,8,9,10,11,12,13,14,15,16,17,18,19,20,21,22,23,24,25,26,27,28,29,30,31,32,33],[0,1,2,3,4,5,6,7,8,9,10,11,12,13,14,15,16,17,18,19,20,21,22,23,24,25,26,27,28,29,30,31,32,33,34],[0,1,2,3,4,5,6,7,8,9,10,11,12,13,14,15,16,17,18,19,20,21,22,23,24,25,26,27,28,29,30,31,32,33,34,35],[0,1,2,3,4,5,6,7,8,9,10,11,12,13,14,15,16,17,18,19,20,21,22,23,24,25,26,27,28,29,30,31,32,33,34,35,36],[0,1,2,3,4,5,6,7,8,9,10,11,12,13,14,15,16,17,18,19,20,21,22,23,24,25,26,27,28,29,30,31,32,33,34,35,36,37],[0,1,2,3,4,5,6,7,8,9,10,11,12,13,14,15,16,17,18,19,20,21,22,23,24,25,26,27,28,29,30,31,32,33,34,35,36,37,38],[0,1,2,3,4,5,6,7,8,9,10,11,12,13,14,15,16,17,18,19,20,21,22,23,24,25,26,27,28,29,30,31,32,33,34,35,36,37,38,39],[0,1,2,3,4,5,6,7,8,9,10,11,12,13,14,15,16,17,18,19,20,21,22,23,24,25,26,27,28,29,30,31,32,33,34,35,36,37,38,39,40]]
noncomputable def l12_ParseAround (a0 : List UInt8) : Option (Bool) :=
  (bif (decide ((10000 : Int) < (a0.length : Int))) then (l12_lives.bind fun x4 => some x4) else ((parse_Text a0).bind fun x6 => ((catS (ByteArray.mk #[40]) (ByteArray.mk a0.toArray)).bind fun x8 => ((catS x8 (ByteArray.mk #[41])).bind fun x9 => ((parse_Text x9.data.toList).bind fun x10 => ((catS (ByteArray.mk #[45, 40]) (ByteArray.mk a0.toArray)).bind fun x12 => ((catS x12 (ByteArray.mk #[41])).bind fun x13 => ((parse_Text x13.data.toList).bind fun x14 => (bif (x6.2.2 != (0 : Int)) then (l12_lives.bind fun x19 => some x19) else (bif (x10.2.2 == (6 : Int)) then (l12_lives.bind fun x24 => some x24) else (Option.bind (α := Bool) (bif (x10.2.2 != (0 : Int)) then some true else ((r11_Same x6.1 x10.1).bind fun x30 => some (!x30))) fun y28 => (bif y28 then some false else (bif (x14.2.2 != (0 : Int)) then (bif (x14.2.2 == (0 : Int)) then (l12_lives.bind fun x36 => some x36) else (bif (x14.2.2 == (6 : Int)) then (l12_lives.bind fun x39 => some x39) else (bif (x14.2.2 == (5 : Int)) then ((r11_Deep x6.1).bind fun x42 => (bif (x42 == (24 : Int)) then (l12_lives.bind fun x44 => some x44) else some false)) else some false))) else (bif (x14.1.gOp == (5 : Int)) then (bif ((x14.1.gKids.length : Int) == (1 : Int)) then ((idx x14.1.gKids (0 : Int)).bind fun x50 => ((r11_Same x50 x6.1).bind fun x51 => (bif x51 then (bif (x14.2.2 == (0 : Int)) then (l12_lives.bind fun x54 => some x54) else (bif (x14.2.2 == (6 : Int)) then (l12_lives.bind fun x57 => some x57) else (bif (x14.2.2 == (5 : Int)) then ((r11_Deep x6.1).bind fun x60 => (bif (x60 == (24 : Int)) then (l12_lives.bind fun x62 => some x62) else some false)) else some false))) else some false))) else some false) else some false))))))))))))))
set_option maxRecDepth 100000 in
set_option maxHeartbeats 2000000 in
theorem l12_ParseAround_ok (a0 : List UInt8) (r : Bool) (h0 : l12_ParseAround a0 = some r) : CallsD Try.prog 3 [.lst 1 (a0.map byteD) .no] [] [] (fun d h k => d = .v (.bool r) ∧ h = [] ∧ k = []) := by
  have hm := yes_of h0
  unfold l12_ParseAround at hm
  clear h0
  refine enterX htab Try.func3 rfl rfl rfl rfl rfl (fun C => ?_)
  refine wpD_seq ?_
  refine wpD_region ?_
  refine p_pure htab rfl rfl rfl rfl ?_
  refine ops_nil ?_
  refine then_normal ?_
  refine wpD_seq ?_
  refine wpD_seq ?_
  refine wpD_region ?_
  refine p_pure htab rfl rfl rfl rfl ?_
  refine p_lenL htab rfl rfl rfl rfl rfl rfl rfl (by first | exact map_len | rfl) ?_
  refine p_pure htab rfl rfl rfl rfl ?_
  refine ops_nil ?_
  refine then_normal ?_
  refine wpD_cond rfl (fun hc3 => ?_) (fun hc3 => ?_)
  · replace hm := yes_t hc3 hm
    refine wpD_seq ?_
    refine wpD_region ?_
    obtain ⟨x4, q4, hm⟩ := yes_bind hm
    refine p_call0 (l12_lives_ok x4 q4) rfl rfl rfl rfl rfl (WkL.refl _) ?_
    rintro _ rfl
    refine p_pure htab rfl rfl rfl rfl ?_
    refine ops_nil ?_
    refine then_normal ?_
    refine wpD_ret ?_
    refine then_ret ?_
    have er5 := yes_eq hm; subst er5
    refine retX.of (s' := ⟨[(2, .v (.bool x4))], [], []⟩) (WkS.perm (WkS.cons rfl (Wk.refl _) (WkS.nil)) (List.Perm.refl _) (List.Perm.refl _)) (retD_mk (hh := []) (.inl rfl) (resL_cons (resOne_tmp rfl) (resL_nil)) (List.nil_sublist _) (List.Sublist.refl _) ?_)
    exact ⟨rfl, rfl, rfl⟩
  · replace hm := yes_f hc3 hm
    refine wpD_skip ?_
    refine then_normal ?_
    refine wpD_seq ?_
    refine wpD_region ?_
    refine p_pure htab rfl rfl rfl rfl ?_
    obtain ⟨x6, q6, hm⟩ := yes_bind hm
    refine p_call0 (parse_Text_ok a0 x6 q6) rfl rfl rfl rfl rfl (WkL.refl _) ?_
    rintro _ rfl
    refine p_pure htab rfl rfl rfl rfl ?_
    refine p_pure htab rfl rfl rfl rfl ?_
    refine p_eq (i := 19) rfl (Wk.of_eq (eTApiExpr_eq x6.1)) ?_
    refine p_pure htab rfl rfl rfl rfl ?_
    refine p_pure htab rfl rfl rfl rfl ?_
    refine p_alloc htab rfl rfl rfl rfl rfl rfl rfl (fun b7 => ?_)
    refine p_store (ds' := [.v (.int .i64 x6.1.gOp), .v (.int .i64 x6.1.gN), .v (.string x6.1.gName), .lst 5 (x6.1.gKids.map eTApiExpr) .no, .v (.int .i64 x6.1.gAt)]) (h' := [(b7, Blk.cells [.v (.int .i64 x6.1.gOp), .v (.int .i64 x6.1.gN), .v (.string x6.1.gName), .lst 5 (x6.1.gKids.map eTApiExpr) .no, .v (.int .i64 x6.1.gAt)] 26)]) 0 htab rfl rfl rfl rfl rfl rfl rfl rfl rfl rfl rfl rfl ?_
    refine p_pure htab rfl rfl rfl rfl ?_
    refine p_pure htab rfl rfl rfl rfl ?_
    refine ops_nil ?_
    refine then_normal ?_
    refine wpD_seq ?_
    refine wpD_region ?_
    refine p_pure htab rfl rfl rfl rfl ?_
    refine p_toStr htab rfl rfl rfl rfl rfl rfl rfl rfl rfl rfl rfl ?_
    obtain ⟨x8, q8, hm⟩ := yes_bind hm
    refine p_cat q8 rfl rfl rfl rfl rfl rfl ?_
    obtain ⟨x9, q9, hm⟩ := yes_bind hm
    refine p_cat q9 rfl rfl rfl rfl rfl rfl ?_
    refine p_ofStr htab rfl rfl rfl rfl rfl rfl rfl rfl rfl rfl rfl ?_
    obtain ⟨x10, q10, hm⟩ := yes_bind hm
    refine p_call0 (parse_Text_ok x9.data.toList x10 q10) rfl rfl rfl rfl rfl (WkL.refl _) ?_
    rintro _ rfl
    refine p_pure htab rfl rfl rfl rfl ?_
    refine p_pure htab rfl rfl rfl rfl ?_
    refine p_eq (i := 29) rfl (Wk.of_eq (eTApiExpr_eq x10.1)) ?_
    refine p_pure htab rfl rfl rfl rfl ?_
    refine p_pure htab rfl rfl rfl rfl ?_
    refine p_alloc htab rfl rfl rfl rfl rfl rfl rfl (fun b11 => ?_)
    refine p_store (ds' := [.v (.int .i64 x10.1.gOp), .v (.int .i64 x10.1.gN), .v (.string x10.1.gName), .lst 5 (x10.1.gKids.map eTApiExpr) .no, .v (.int .i64 x10.1.gAt)]) (h' := [(b7, Blk.cells [.v (.int .i64 x6.1.gOp), .v (.int .i64 x6.1.gN), .v (.string x6.1.gName), .lst 5 (x6.1.gKids.map eTApiExpr) .no, .v (.int .i64 x6.1.gAt)] 26), (b11, Blk.cells [.v (.int .i64 x10.1.gOp), .v (.int .i64 x10.1.gN), .v (.string x10.1.gName), .lst 5 (x10.1.gKids.map eTApiExpr) .no, .v (.int .i64 x10.1.gAt)] 26)]) 1 htab rfl rfl rfl rfl rfl rfl rfl rfl rfl rfl rfl rfl ?_
    refine p_pure htab rfl rfl rfl rfl ?_
    refine p_pure htab rfl rfl rfl rfl ?_
    refine ops_nil ?_
    refine then_normal ?_
    refine wpD_seq ?_
    refine wpD_region ?_
    refine p_pure htab rfl rfl rfl rfl ?_
    refine p_toStr htab rfl rfl rfl rfl rfl rfl rfl rfl rfl rfl rfl ?_
    obtain ⟨x12, q12, hm⟩ := yes_bind hm
    refine p_cat q12 rfl rfl rfl rfl rfl rfl ?_
    obtain ⟨x13, q13, hm⟩ := yes_bind hm
    refine p_cat q13 rfl rfl rfl rfl rfl rfl ?_
    refine p_ofStr htab rfl rfl rfl rfl rfl rfl rfl rfl rfl rfl rfl ?_
    obtain ⟨x14, q14, hm⟩ := yes_bind hm
    refine p_call0 (parse_Text_ok x13.data.toList x14 q14) rfl rfl rfl rfl rfl (WkL.refl _) ?_
    rintro _ rfl
    refine p_pure htab rfl rfl rfl rfl ?_
    refine p_pure htab rfl rfl rfl rfl ?_
    refine p_eq (i := 39) rfl (Wk.of_eq (eTApiExpr_eq x14.1)) ?_
    refine p_pure htab rfl rfl rfl rfl ?_
    refine p_pure htab rfl rfl rfl rfl ?_
    refine p_alloc htab rfl rfl rfl rfl rfl rfl rfl (fun b15 => ?_)
    refine p_store (ds' := [.v (.int .i64 x14.1.gOp), .v (.int .i64 x14.1.gN), .v (.string x14.1.gName), .lst 5 (x14.1.gKids.map eTApiExpr) .no, .v (.int .i64 x14.1.gAt)]) (h' := [(b7, Blk.cells [.v (.int .i64 x6.1.gOp), .v (.int .i64 x6.1.gN), .v (.string x6.1.gName), .lst 5 (x6.1.gKids.map eTApiExpr) .no, .v (.int .i64 x6.1.gAt)] 26), (b11, Blk.cells [.v (.int .i64 x10.1.gOp), .v (.int .i64 x10.1.gN), .v (.string x10.1.gName), .lst 5 (x10.1.gKids.map eTApiExpr) .no, .v (.int .i64 x10.1.gAt)] 26), (b15, Blk.cells [.v (.int .i64 x14.1.gOp), .v (.int .i64 x14.1.gN), .v (.string x14.1.gName), .lst 5 (x14.1.gKids.map eTApiExpr) .no, .v (.int .i64 x14.1.gAt)] 26)]) 2 htab rfl rfl rfl rfl rfl rfl rfl rfl rfl rfl rfl rfl ?_
    refine p_pure htab rfl rfl rfl rfl ?_
    refine p_pure htab rfl rfl rfl rfl ?_
    refine ops_nil ?_
    refine then_normal ?_
    refine wpD_seq ?_
    refine wpD_seq ?_
    refine wpD_region ?_
    refine p_pure htab rfl rfl rfl rfl ?_
    refine p_pure htab rfl rfl rfl rfl ?_
    refine ops_nil ?_
    refine then_normal ?_
    refine wpD_cond rfl (fun hc18 => ?_) (fun hc18 => ?_)
    · replace hm := yes_t hc18 hm
      refine wpD_seq ?_
      refine wpD_region ?_
      obtain ⟨x19, q19, hm⟩ := yes_bind hm
      refine p_call0 (l12_lives_ok x19 q19) rfl rfl rfl rfl rfl (WkL.refl _) ?_
      rintro _ rfl
      refine p_pure htab rfl rfl rfl rfl ?_
      refine ops_nil ?_
      refine then_normal ?_
      refine wpD_ret ?_
      refine then_ret ?_
      have er20 := yes_eq hm; subst er20
      refine retX.of (s' := ⟨[(2, .v (.bool x19))], [], []⟩) (WkS.perm (WkS.cons rfl (Wk.refl _) (WkS.nil)) (List.Perm.refl _) (List.Perm.refl _)) (retD_mk (hh := []) (.inl rfl) (resL_cons (resOne_tmp rfl) (resL_nil)) (List.nil_sublist _) (List.Sublist.refl _) ?_)
      exact ⟨rfl, rfl, rfl⟩
    · replace hm := yes_f hc18 hm
      refine wpD_skip ?_
      refine then_normal ?_
      refine wpD_seq ?_
      refine wpD_seq ?_
      refine wpD_region ?_
      refine p_pure htab rfl rfl rfl rfl ?_
      refine p_pure htab rfl rfl rfl rfl ?_
      refine ops_nil ?_
      refine then_normal ?_
      refine wpD_cond rfl (fun hc23 => ?_) (fun hc23 => ?_)
      · replace hm := yes_t hc23 hm
        refine wpD_seq ?_
        refine wpD_region ?_
        obtain ⟨x24, q24, hm⟩ := yes_bind hm
        refine p_call0 (l12_lives_ok x24 q24) rfl rfl rfl rfl rfl (WkL.refl _) ?_
        rintro _ rfl
        refine p_pure htab rfl rfl rfl rfl ?_
        refine ops_nil ?_
        refine then_normal ?_
        refine wpD_ret ?_
        refine then_ret ?_
        have er25 := yes_eq hm; subst er25
        refine retX.of (s' := ⟨[(2, .v (.bool x24))], [], []⟩) (WkS.perm (WkS.cons rfl (Wk.refl _) (WkS.nil)) (List.Perm.refl _) (List.Perm.refl _)) (retD_mk (hh := []) (.inl rfl) (resL_cons (resOne_tmp rfl) (resL_nil)) (List.nil_sublist _) (List.Sublist.refl _) ?_)
        exact ⟨rfl, rfl, rfl⟩
      · replace hm := yes_f hc23 hm
        refine wpD_skip ?_
        refine then_normal ?_
        refine wpD_seq ?_
        refine wpD_seq ?_
        obtain ⟨y28, q28, ho28⟩ := yes_bind hm
        refine wpD_mid (Y := Unit) (fun z28 => (⟨[(3, .ptr b7 0), (9, .ptr b15 0), (11, .v (.int .i64 x14.2.2)), (55, .v (.bool y28))], [(b7, Blk.cells [.v (.int .i64 x6.1.gOp), .v (.int .i64 x6.1.gN), .v (.string x6.1.gName), .lst 5 (x6.1.gKids.map eTApiExpr) .no, .v (.int .i64 x6.1.gAt)] 26), (b11, Blk.cells [.v (.int .i64 x10.1.gOp), .v (.int .i64 x10.1.gN), .v (.string x10.1.gName), .lst 5 (x10.1.gKids.map eTApiExpr) .no, .v (.int .i64 x10.1.gAt)] 26), (b15, Blk.cells [.v (.int .i64 x14.1.gOp), .v (.int .i64 x14.1.gN), .v (.string x14.1.gName), .lst 5 (x14.1.gKids.map eTApiExpr) .no, .v (.int .i64 x14.1.gAt)] 26)], []⟩ : S)) ?_ ?_
        · clear hm; have hm := yes_of q28
          refine wpD_region ?_
          refine p_pure htab rfl rfl rfl rfl ?_
          refine p_pure htab rfl rfl rfl rfl ?_
          refine p_pure htab rfl rfl rfl rfl ?_
          refine p_split (i := 50) rfl (fun hg29 => ?_) (fun hg29 => ?_)
          · replace hm := yes_t hg29 hm
            refine p_skip rfl rfl rfl ?_
            refine p_skip rfl rfl rfl ?_
            refine p_skip rfl rfl rfl ?_
            refine p_skip rfl rfl rfl ?_
            refine p_pickT rfl rfl rfl rfl rfl rfl ?_
            refine ops_nil ?_
            have e28 := yes_eq hm; subst e28
            refine ⟨rfl, ?_⟩
            exact WkX.of () (WkS.perm (WkS.cons rfl (Wk.refl _) (WkS.cons rfl (Wk.refl _) (WkS.cons rfl (Wk.refl _) (WkS.cons rfl (Wk.refl _) (WkS.nil))))) (List.Perm.refl _) (List.Perm.refl _))
          · replace hm := yes_f hg29 hm
            refine p_load (d := .agg [.v (.int .i64 x6.1.gOp), .v (.int .i64 x6.1.gN), .v (.string x6.1.gName), .lst 5 (x6.1.gKids.map eTApiExpr) .no, .v (.int .i64 x6.1.gAt)]) 0 htab rfl rfl rfl rfl rfl rfl rfl rfl ?_
            refine p_load (d := .agg [.v (.int .i64 x10.1.gOp), .v (.int .i64 x10.1.gN), .v (.string x10.1.gName), .lst 5 (x10.1.gKids.map eTApiExpr) .no, .v (.int .i64 x10.1.gAt)]) 1 htab rfl rfl rfl rfl rfl rfl rfl rfl ?_
            obtain ⟨x30, q30, hm⟩ := yes_bind hm
            refine p_call0 (r11_Same_ok x6.1 x10.1 x30 q30) rfl rfl rfl rfl rfl (WkL.cons (Wk.trans (Wk.agg (WkR.refl _)) (Wk.of_eq (eTApiExpr_eq x6.1).symm)) (WkL.cons (Wk.trans (Wk.agg (WkR.refl _)) (Wk.of_eq (eTApiExpr_eq x10.1).symm)) (WkL.refl _))) ?_
            rintro _ rfl
            refine p_pure htab rfl rfl rfl rfl ?_
            refine p_pickF rfl rfl rfl rfl rfl rfl ?_
            refine ops_nil ?_
            have e28 := yes_eq hm; subst e28
            refine ⟨rfl, ?_⟩
            exact WkX.of () (WkS.perm (WkS.cons rfl (Wk.refl _) (WkS.cons rfl (Wk.refl _) (WkS.cons rfl (Wk.refl _) (WkS.cons rfl (Wk.refl _) (WkS.nil))))) (List.Perm.refl _) (List.Perm.refl _))
        · intro s28 hw28; clear hm; have hm := ho28; clear q28 ho28
          refine then_normal ?_
          refine wpD_wkX hw28 (fun z28 => ?_)
          refine wpD_cond rfl (fun hc32 => ?_) (fun hc32 => ?_)
          · replace hm := yes_t hc32 hm
            refine wpD_seq ?_
            refine wpD_region ?_
            refine p_pure htab rfl rfl rfl rfl ?_
            refine ops_nil ?_
            refine then_normal ?_
            refine wpD_ret ?_
            refine then_ret ?_
            have er33 := yes_eq hm; subst er33
            refine retX.of (s' := ⟨[(2, .v (.bool false))], [], []⟩) (WkS.perm (WkS.cons rfl (Wk.refl _) (WkS.nil)) (List.Perm.refl _) (List.Perm.refl _)) (retD_mk (hh := []) (.inl rfl) (resL_cons (resOne_tmp rfl) (resL_nil)) (List.nil_sublist _) (List.Sublist.refl _) ?_)
            exact ⟨rfl, rfl, rfl⟩
          · replace hm := yes_f hc32 hm
            refine wpD_skip ?_
            refine then_normal ?_
            refine wpD_seq ?_
            refine bycB (x14.2.2 != (0 : Int)) (fun hs34 => ?_) (fun hs34 => ?_)
            · replace hm := yes_t hs34 hm
              refine wpD_draws 18 [] [[],[],[],[],[],[],[],[],[],[],[],[],[],[],[],[],[],[]] [] nlPa1_13 (by kernel_rfl) (by kernel_rfl) (by kernel_rfl) (by rfl) (by rfl) (by kernel_rfl) ?_
              intro bs
              refine z_q rfl rfl (ex_pure htab rfl) rfl rfl rfl rfl rfl rfl ?_
              refine z_q rfl rfl (ex_pure htab rfl) rfl rfl rfl rfl rfl rfl ?_
              refine z_q rfl rfl (ex_pure htab rfl) rfl rfl rfl rfl rfl rfl ?_
              refine z_known (j := 58) (b' := true) rfl hs34 ?_
              refine z_skip rfl rfl rfl rfl ?_
              refine z_skip rfl rfl rfl rfl ?_
              refine z_skip rfl rfl rfl rfl ?_
              refine z_skip rfl rfl rfl rfl ?_
              refine z_skip rfl rfl rfl rfl ?_
              refine z_skip rfl rfl rfl rfl ?_
              refine z_skip rfl rfl rfl rfl ?_
              refine z_skip rfl rfl rfl rfl ?_
              refine z_skip rfl rfl rfl rfl ?_
              refine z_skip rfl rfl rfl rfl ?_
              refine z_skip rfl rfl rfl rfl ?_
              refine z_skip rfl rfl rfl rfl ?_
              refine z_skip rfl rfl rfl rfl ?_
              refine z_skip rfl rfl rfl rfl ?_
              refine z_skip rfl rfl rfl rfl ?_
              refine z_nil rfl rfl (fun e he => by simp [isAl] at he) ?_
              refine p_skip rfl rfl rfl ?_
              refine p_skip rfl rfl rfl ?_
              refine p_pickT rfl rfl rfl rfl rfl rfl ?_
              refine p_pure htab rfl rfl rfl rfl ?_
              refine p_pure htab rfl rfl rfl rfl ?_
              refine p_pure htab rfl rfl rfl rfl ?_
              refine p_pure htab rfl rfl rfl rfl ?_
              refine p_split (i := 80) rfl (fun hg35 => ?_) (fun hg35 => ?_)
              · replace hm := yes_t hg35 hm
                refine p_skip rfl rfl rfl ?_
                refine p_skip rfl rfl rfl ?_
                refine p_pickT rfl rfl rfl rfl rfl rfl ?_
                refine p_pure htab rfl rfl rfl rfl ?_
                refine p_skip rfl rfl rfl ?_
                refine p_skip rfl rfl rfl ?_
                refine p_skip rfl rfl rfl ?_
                refine p_skip rfl rfl rfl ?_
                refine p_skip rfl rfl rfl ?_
                refine p_skip rfl rfl rfl ?_
                refine p_skip rfl rfl rfl ?_
                refine p_pickT rfl rfl rfl rfl rfl rfl ?_
                refine p_pickT rfl rfl rfl rfl rfl rfl ?_
                refine p_pure htab rfl rfl rfl rfl ?_
                obtain ⟨x36, q36, hm⟩ := yes_bind hm
                refine p_call0 (l12_lives_ok x36 q36) rfl rfl rfl rfl rfl (WkL.refl _) ?_
                rintro _ rfl
                refine p_pickT rfl rfl rfl rfl rfl rfl ?_
                refine p_pure htab rfl rfl rfl rfl ?_
                refine ops_nil ?_
                refine then_normal ?_
                refine wpD_ret ?_
                have er37 := yes_eq hm; subst er37
                refine retX.of (s' := ⟨[(2, .v (.bool x36))], [], []⟩) (WkS.perm (WkS.cons rfl (Wk.refl _) (WkS.nil)) (List.Perm.refl _) (List.Perm.refl _)) (retD_mk (hh := []) (.inl rfl) (resL_cons (resOne_tmp rfl) (resL_nil)) (List.nil_sublist _) (List.Sublist.refl _) ?_)
                exact ⟨rfl, rfl, rfl⟩
              · replace hm := yes_f hg35 hm
                refine p_pure htab rfl rfl rfl rfl ?_
                refine p_pure htab rfl rfl rfl rfl ?_
                refine p_pickF rfl rfl rfl rfl rfl rfl ?_
                refine p_pure htab rfl rfl rfl rfl ?_
                refine p_split (i := 84) rfl (fun hg38 => ?_) (fun hg38 => ?_)
                · replace hm := yes_t hg38 hm
                  refine p_skip rfl rfl rfl ?_
                  refine p_skip rfl rfl rfl ?_
                  refine p_skip rfl rfl rfl ?_
                  refine p_skip rfl rfl rfl ?_
                  refine p_skip rfl rfl rfl ?_
                  refine p_skip rfl rfl rfl ?_
                  refine p_skip rfl rfl rfl ?_
                  refine p_pickT rfl rfl rfl rfl rfl rfl ?_
                  refine p_pickT rfl rfl rfl rfl rfl rfl ?_
                  refine p_pure htab rfl rfl rfl rfl ?_
                  obtain ⟨x39, q39, hm⟩ := yes_bind hm
                  refine p_call0 (l12_lives_ok x39 q39) rfl rfl rfl rfl rfl (WkL.refl _) ?_
                  rintro _ rfl
                  refine p_pickT rfl rfl rfl rfl rfl rfl ?_
                  refine p_pure htab rfl rfl rfl rfl ?_
                  refine ops_nil ?_
                  refine then_normal ?_
                  refine wpD_ret ?_
                  have er40 := yes_eq hm; subst er40
                  refine retX.of (s' := ⟨[(2, .v (.bool x39))], [], []⟩) (WkS.perm (WkS.cons rfl (Wk.refl _) (WkS.nil)) (List.Perm.refl _) (List.Perm.refl _)) (retD_mk (hh := []) (.inl rfl) (resL_cons (resOne_tmp rfl) (resL_nil)) (List.nil_sublist _) (List.Sublist.refl _) ?_)
                  exact ⟨rfl, rfl, rfl⟩
                · replace hm := yes_f hg38 hm
                  refine p_pure htab rfl rfl rfl rfl ?_
                  refine p_pure htab rfl rfl rfl rfl ?_
                  refine p_pure htab rfl rfl rfl rfl ?_
                  refine p_split (i := 87) rfl (fun hg41 => ?_) (fun hg41 => ?_)
                  · replace hm := yes_t hg41 hm
                    refine p_load (d := .agg [.v (.int .i64 x6.1.gOp), .v (.int .i64 x6.1.gN), .v (.string x6.1.gName), .lst 5 (x6.1.gKids.map eTApiExpr) .no, .v (.int .i64 x6.1.gAt)]) 0 htab rfl rfl rfl rfl rfl rfl rfl rfl ?_
                    obtain ⟨x42, q42, hm⟩ := yes_bind hm
                    refine p_call0 (r11_Deep_ok x6.1 x42 q42) rfl rfl rfl rfl rfl (WkL.cons (Wk.trans (Wk.agg (WkR.refl _)) (Wk.of_eq (eTApiExpr_eq x6.1).symm)) (WkL.refl _)) ?_
                    rintro _ rfl
                    refine p_pure htab rfl rfl rfl rfl ?_
                    refine p_pickT rfl rfl rfl rfl rfl rfl ?_
                    refine p_pickF rfl rfl rfl rfl rfl rfl ?_
                    refine p_pickT rfl rfl rfl rfl rfl rfl ?_
                    refine p_pure htab rfl rfl rfl rfl ?_
                    refine p_split (i := 94) rfl (fun hg43 => ?_) (fun hg43 => ?_)
                    · replace hm := yes_t hg43 hm
                      obtain ⟨x44, q44, hm⟩ := yes_bind hm
                      refine p_call0 (l12_lives_ok x44 q44) rfl rfl rfl rfl rfl (WkL.refl _) ?_
                      rintro _ rfl
                      refine p_pickT rfl rfl rfl rfl rfl rfl ?_
                      refine p_pure htab rfl rfl rfl rfl ?_
                      refine ops_nil ?_
                      refine then_normal ?_
                      refine wpD_ret ?_
                      have er45 := yes_eq hm; subst er45
                      refine retX.of (s' := ⟨[(2, .v (.bool x44))], [], []⟩) (WkS.perm (WkS.cons rfl (Wk.refl _) (WkS.nil)) (List.Perm.refl _) (List.Perm.refl _)) (retD_mk (hh := []) (.inl rfl) (resL_cons (resOne_tmp rfl) (resL_nil)) (List.nil_sublist _) (List.Sublist.refl _) ?_)
                      exact ⟨rfl, rfl, rfl⟩
                    · replace hm := yes_f hg43 hm
                      refine p_skip rfl rfl rfl ?_
                      refine p_pickF rfl rfl rfl rfl rfl rfl ?_
                      refine p_pure htab rfl rfl rfl rfl ?_
                      refine ops_nil ?_
                      refine then_normal ?_
                      refine wpD_ret ?_
                      have er46 := yes_eq hm; subst er46
                      refine retX.of (s' := ⟨[(2, .v (.bool false))], [], []⟩) (WkS.perm (WkS.cons rfl (Wk.refl _) (WkS.nil)) (List.Perm.refl _) (List.Perm.refl _)) (retD_mk (hh := []) (.inl rfl) (resL_cons (resOne_tmp rfl) (resL_nil)) (List.nil_sublist _) (List.Sublist.refl _) ?_)
                      exact ⟨rfl, rfl, rfl⟩
                  · replace hm := yes_f hg41 hm
                    refine p_skip rfl rfl rfl ?_
                    refine p_skip rfl rfl rfl ?_
                    refine p_skip rfl rfl rfl ?_
                    refine p_pickF rfl rfl rfl rfl rfl rfl ?_
                    refine p_pickF rfl rfl rfl rfl rfl rfl ?_
                    refine p_pickT rfl rfl rfl rfl rfl rfl ?_
                    refine p_pure htab rfl rfl rfl rfl ?_
                    refine p_skip rfl rfl rfl ?_
                    refine p_pickF rfl rfl rfl rfl rfl rfl ?_
                    refine p_pure htab rfl rfl rfl rfl ?_
                    refine ops_nil ?_
                    refine then_normal ?_
                    refine wpD_ret ?_
                    have er47 := yes_eq hm; subst er47
                    refine retX.of (s' := ⟨[(2, .v (.bool false))], [], []⟩) (WkS.perm (WkS.cons rfl (Wk.refl _) (WkS.nil)) (List.Perm.refl _) (List.Perm.refl _)) (retD_mk (hh := []) (.inl rfl) (resL_cons (resOne_tmp rfl) (resL_nil)) (List.nil_sublist _) (List.Sublist.refl _) ?_)
                    exact ⟨rfl, rfl, rfl⟩
            · replace hm := yes_f hs34 hm
              refine bycB (x14.1.gOp == (5 : Int)) (fun hs48 => ?_) (fun hs48 => ?_)
              · replace hm := yes_t hs48 hm
                refine bycB ((x14.1.gKids.length : Int) == (1 : Int)) (fun hs49 => ?_) (fun hs49 => ?_)
                · replace hm := yes_t hs49 hm
                  obtain ⟨x50, q50, hm⟩ := yes_bind hm
                  refine wpD_draws 18 [] [[],[],[],[],[3],[3],[3],[3],[3,7],[3,7,8],[3,7,8],[3,7,8],[3,7,8],[3,7,8],[3,7,8,13],[3,7,8,13,14],[3,7,8,13,14,15],[3,7,8]] [3,7,8,13,14,15,16,17] nlPa1_13 (by kernel_rfl) (by kernel_rfl) (by kernel_rfl) (by rfl) (by rfl) (by kernel_rfl) ?_
                  apply Exists.intro
                  apply Exists.intro
                  apply Exists.intro
                  apply Exists.intro
                  apply Exists.intro
                  apply Exists.intro
                  apply Exists.intro
                  apply Exists.intro
                  intro bs
                  refine z_q rfl rfl (ex_pure htab rfl) rfl rfl rfl rfl rfl rfl ?_
                  refine z_q rfl rfl (ex_pure htab rfl) rfl rfl rfl rfl rfl rfl ?_
                  refine z_q rfl rfl (ex_pure htab rfl) rfl rfl rfl rfl rfl rfl ?_
                  refine z_known (j := 58) (b' := false) rfl hs34 ?_
                  refine z_e rfl rfl (ex_pure htab rfl) rfl rfl rfl rfl rfl rfl ?_
                  refine z_qM rfl rfl (xm_load 2 htab rfl rfl rfl rfl rfl) rfl rfl rfl rfl rfl rfl ?_
                  refine z_q rfl rfl (ex_pure htab rfl) rfl rfl rfl rfl rfl rfl ?_
                  refine z_q rfl rfl (ex_pure htab rfl) rfl rfl rfl rfl rfl rfl ?_
                  refine z_known (j := 62) (b' := true) rfl hs48 ?_
                  refine z_e rfl rfl (ex_pure htab rfl) rfl rfl rfl rfl rfl rfl ?_
                  refine z_eM rfl rfl (xm_load 2 htab rfl rfl rfl rfl rfl) rfl rfl rfl rfl rfl rfl ?_
                  refine z_q rfl rfl (x_lenL htab rfl rfl rfl rfl (by first | exact map_len | rfl)) rfl rfl rfl rfl rfl rfl ?_
                  refine z_q rfl rfl (ex_pure htab rfl) rfl rfl rfl rfl rfl rfl ?_
                  refine z_q rfl rfl (x_pickT rfl rfl rfl) rfl rfl rfl rfl rfl rfl ?_
                  refine z_q rfl rfl (ex_pure htab rfl) rfl rfl rfl rfl rfl rfl ?_
                  refine z_known (j := 68) (b' := true) rfl hs49 ?_
                  refine z_e rfl rfl (ex_pure htab rfl) rfl rfl rfl rfl rfl rfl ?_
                  refine z_eM rfl rfl (xm_load 2 htab rfl rfl rfl rfl rfl) rfl rfl rfl rfl rfl rfl ?_
                  refine z_e rfl rfl (Ex.wk (x_elem htab rfl rfl rfl rfl rfl rfl rfl (idx_nonneg q50) (idx_map q50)) (Wk.of_eq (congrArg D.el (eTApiExpr_eq x50)))) rfl rfl rfl rfl rfl rfl ?_
                  refine z_eM rfl rfl (xm_loadEl (d := .agg [.v (.int .i64 x50.gOp), .v (.int .i64 x50.gN), .v (.string x50.gName), .lst 5 (x50.gKids.map eTApiExpr) .no, .v (.int .i64 x50.gAt)]) htab rfl rfl rfl rfl rfl) rfl rfl rfl rfl rfl rfl ?_
                  refine z_eM rfl rfl (xm_load (d := .agg [.v (.int .i64 x6.1.gOp), .v (.int .i64 x6.1.gN), .v (.string x6.1.gName), .lst 5 (x6.1.gKids.map eTApiExpr) .no, .v (.int .i64 x6.1.gAt)]) 0 htab rfl rfl rfl rfl rfl) rfl rfl rfl rfl rfl rfl ?_
                  refine z_nil rfl rfl (fun e he => by simp [isAl] at he) ?_
                  obtain ⟨x51, q51, hm⟩ := yes_bind hm
                  refine p_call0 (r11_Same_ok x50 x6.1 x51 q51) rfl rfl rfl rfl rfl (WkL.cons (Wk.trans (Wk.agg (WkR.refl _)) (Wk.of_eq (eTApiExpr_eq x50).symm)) (WkL.cons (Wk.trans (Wk.agg (WkR.refl _)) (Wk.of_eq (eTApiExpr_eq x6.1).symm)) (WkL.refl _))) ?_
                  rintro _ rfl
                  refine p_pickT rfl rfl rfl rfl rfl rfl ?_
                  refine p_pickF rfl rfl rfl rfl rfl rfl ?_
                  refine p_pure htab rfl rfl rfl rfl ?_
                  refine p_split (i := 77) rfl (fun hg52 => ?_) (fun hg52 => ?_)
                  · replace hm := yes_t hg52 hm
                    refine p_pure htab rfl rfl rfl rfl ?_
                    refine p_pure htab rfl rfl rfl rfl ?_
                    refine p_pure htab rfl rfl rfl rfl ?_
                    refine p_split (i := 80) rfl (fun hg53 => ?_) (fun hg53 => ?_)
                    · replace hm := yes_t hg53 hm
                      refine p_skip rfl rfl rfl ?_
                      refine p_skip rfl rfl rfl ?_
                      refine p_pickT rfl rfl rfl rfl rfl rfl ?_
                      refine p_pure htab rfl rfl rfl rfl ?_
                      refine p_skip rfl rfl rfl ?_
                      refine p_skip rfl rfl rfl ?_
                      refine p_skip rfl rfl rfl ?_
                      refine p_skip rfl rfl rfl ?_
                      refine p_skip rfl rfl rfl ?_
                      refine p_skip rfl rfl rfl ?_
                      refine p_skip rfl rfl rfl ?_
                      refine p_pickT rfl rfl rfl rfl rfl rfl ?_
                      refine p_pickT rfl rfl rfl rfl rfl rfl ?_
                      refine p_pure htab rfl rfl rfl rfl ?_
                      obtain ⟨x54, q54, hm⟩ := yes_bind hm
                      refine p_call0 (l12_lives_ok x54 q54) rfl rfl rfl rfl rfl (WkL.refl _) ?_
                      rintro _ rfl
                      refine p_pickT rfl rfl rfl rfl rfl rfl ?_
                      refine p_pure htab rfl rfl rfl rfl ?_
                      refine ops_nil ?_
                      refine then_normal ?_
                      refine wpD_ret ?_
                      have er55 := yes_eq hm; subst er55
                      refine retX.of (s' := ⟨[(2, .v (.bool x54))], [], []⟩) (WkS.perm (WkS.cons rfl (Wk.refl _) (WkS.nil)) (List.Perm.refl _) (List.Perm.refl _)) (retD_mk (hh := []) (.inl rfl) (resL_cons (resOne_tmp rfl) (resL_nil)) (List.nil_sublist _) (List.Sublist.refl _) ?_)
                      exact ⟨rfl, rfl, rfl⟩
                    · replace hm := yes_f hg53 hm
                      refine p_pure htab rfl rfl rfl rfl ?_
                      refine p_pure htab rfl rfl rfl rfl ?_
                      refine p_pickF rfl rfl rfl rfl rfl rfl ?_
                      refine p_pure htab rfl rfl rfl rfl ?_
                      refine p_split (i := 84) rfl (fun hg56 => ?_) (fun hg56 => ?_)
                      · replace hm := yes_t hg56 hm
                        refine p_skip rfl rfl rfl ?_
                        refine p_skip rfl rfl rfl ?_
                        refine p_skip rfl rfl rfl ?_
                        refine p_skip rfl rfl rfl ?_
                        refine p_skip rfl rfl rfl ?_
                        refine p_skip rfl rfl rfl ?_
                        refine p_skip rfl rfl rfl ?_
                        refine p_pickT rfl rfl rfl rfl rfl rfl ?_
                        refine p_pickT rfl rfl rfl rfl rfl rfl ?_
                        refine p_pure htab rfl rfl rfl rfl ?_
                        obtain ⟨x57, q57, hm⟩ := yes_bind hm
                        refine p_call0 (l12_lives_ok x57 q57) rfl rfl rfl rfl rfl (WkL.refl _) ?_
                        rintro _ rfl
                        refine p_pickT rfl rfl rfl rfl rfl rfl ?_
                        refine p_pure htab rfl rfl rfl rfl ?_
                        refine ops_nil ?_
                        refine then_normal ?_
                        refine wpD_ret ?_
                        have er58 := yes_eq hm; subst er58
                        refine retX.of (s' := ⟨[(2, .v (.bool x57))], [], []⟩) (WkS.perm (WkS.cons rfl (Wk.refl _) (WkS.nil)) (List.Perm.refl _) (List.Perm.refl _)) (retD_mk (hh := []) (.inl rfl) (resL_cons (resOne_tmp rfl) (resL_nil)) (List.nil_sublist _) (List.Sublist.refl _) ?_)
                        exact ⟨rfl, rfl, rfl⟩
                      · replace hm := yes_f hg56 hm
                        refine p_pure htab rfl rfl rfl rfl ?_
                        refine p_pure htab rfl rfl rfl rfl ?_
                        refine p_pure htab rfl rfl rfl rfl ?_
                        refine p_split (i := 87) rfl (fun hg59 => ?_) (fun hg59 => ?_)
                        · replace hm := yes_t hg59 hm
                          refine p_load (d := .agg [.v (.int .i64 x6.1.gOp), .v (.int .i64 x6.1.gN), .v (.string x6.1.gName), .lst 5 (x6.1.gKids.map eTApiExpr) .no, .v (.int .i64 x6.1.gAt)]) 0 htab rfl rfl rfl rfl rfl rfl rfl rfl ?_
                          obtain ⟨x60, q60, hm⟩ := yes_bind hm
                          refine p_call0 (r11_Deep_ok x6.1 x60 q60) rfl rfl rfl rfl rfl (WkL.cons (Wk.trans (Wk.agg (WkR.refl _)) (Wk.of_eq (eTApiExpr_eq x6.1).symm)) (WkL.refl _)) ?_
                          rintro _ rfl
                          refine p_pure htab rfl rfl rfl rfl ?_
                          refine p_pickT rfl rfl rfl rfl rfl rfl ?_
                          refine p_pickF rfl rfl rfl rfl rfl rfl ?_
                          refine p_pickT rfl rfl rfl rfl rfl rfl ?_
                          refine p_pure htab rfl rfl rfl rfl ?_
                          refine p_split (i := 94) rfl (fun hg61 => ?_) (fun hg61 => ?_)
                          · replace hm := yes_t hg61 hm
                            obtain ⟨x62, q62, hm⟩ := yes_bind hm
                            refine p_call0 (l12_lives_ok x62 q62) rfl rfl rfl rfl rfl (WkL.refl _) ?_
                            rintro _ rfl
                            refine p_pickT rfl rfl rfl rfl rfl rfl ?_
                            refine p_pure htab rfl rfl rfl rfl ?_
                            refine ops_nil ?_
                            refine then_normal ?_
                            refine wpD_ret ?_
                            have er63 := yes_eq hm; subst er63
                            refine retX.of (s' := ⟨[(2, .v (.bool x62))], [], []⟩) (WkS.perm (WkS.cons rfl (Wk.refl _) (WkS.nil)) (List.Perm.refl _) (List.Perm.refl _)) (retD_mk (hh := []) (.inl rfl) (resL_cons (resOne_tmp rfl) (resL_nil)) (List.nil_sublist _) (List.Sublist.refl _) ?_)
                            exact ⟨rfl, rfl, rfl⟩
                          · replace hm := yes_f hg61 hm
                            refine p_skip rfl rfl rfl ?_
                            refine p_pickF rfl rfl rfl rfl rfl rfl ?_
                            refine p_pure htab rfl rfl rfl rfl ?_
                            refine ops_nil ?_
                            refine then_normal ?_
                            refine wpD_ret ?_
                            have er64 := yes_eq hm; subst er64
                            refine retX.of (s' := ⟨[(2, .v (.bool false))], [], []⟩) (WkS.perm (WkS.cons rfl (Wk.refl _) (WkS.nil)) (List.Perm.refl _) (List.Perm.refl _)) (retD_mk (hh := []) (.inl rfl) (resL_cons (resOne_tmp rfl) (resL_nil)) (List.nil_sublist _) (List.Sublist.refl _) ?_)
                            exact ⟨rfl, rfl, rfl⟩
                        · replace hm := yes_f hg59 hm
                          refine p_skip rfl rfl rfl ?_
                          refine p_skip rfl rfl rfl ?_
                          refine p_skip rfl rfl rfl ?_
                          refine p_pickF rfl rfl rfl rfl rfl rfl ?_
                          refine p_pickF rfl rfl rfl rfl rfl rfl ?_
                          refine p_pickT rfl rfl rfl rfl rfl rfl ?_
                          refine p_pure htab rfl rfl rfl rfl ?_
                          refine p_skip rfl rfl rfl ?_
                          refine p_pickF rfl rfl rfl rfl rfl rfl ?_
                          refine p_pure htab rfl rfl rfl rfl ?_
                          refine ops_nil ?_
                          refine then_normal ?_
                          refine wpD_ret ?_
                          have er65 := yes_eq hm; subst er65
                          refine retX.of (s' := ⟨[(2, .v (.bool false))], [], []⟩) (WkS.perm (WkS.cons rfl (Wk.refl _) (WkS.nil)) (List.Perm.refl _) (List.Perm.refl _)) (retD_mk (hh := []) (.inl rfl) (resL_cons (resOne_tmp rfl) (resL_nil)) (List.nil_sublist _) (List.Sublist.refl _) ?_)
                          exact ⟨rfl, rfl, rfl⟩
                  · replace hm := yes_f hg52 hm
                    refine p_skip rfl rfl rfl ?_
                    refine p_skip rfl rfl rfl ?_
                    refine p_skip rfl rfl rfl ?_
                    refine p_skip rfl rfl rfl ?_
                    refine p_skip rfl rfl rfl ?_
                    refine p_skip rfl rfl rfl ?_
                    refine p_skip rfl rfl rfl ?_
                    refine p_skip rfl rfl rfl ?_
                    refine p_skip rfl rfl rfl ?_
                    refine p_skip rfl rfl rfl ?_
                    refine p_skip rfl rfl rfl ?_
                    refine p_skip rfl rfl rfl ?_
                    refine p_skip rfl rfl rfl ?_
                    refine p_skip rfl rfl rfl ?_
                    refine p_skip rfl rfl rfl ?_
                    refine p_pickF rfl rfl rfl rfl rfl rfl ?_
                    refine p_pure htab rfl rfl rfl rfl ?_
                    refine p_skip rfl rfl rfl ?_
                    refine p_pickF rfl rfl rfl rfl rfl rfl ?_
                    refine p_pure htab rfl rfl rfl rfl ?_
                    refine ops_nil ?_
                    refine then_normal ?_
                    refine wpD_ret ?_
                    have er66 := yes_eq hm; subst er66
                    refine retX.of (s' := ⟨[(2, .v (.bool false))], [], []⟩) (WkS.perm (WkS.cons rfl (Wk.refl _) (WkS.nil)) (List.Perm.refl _) (List.Perm.refl _)) (retD_mk (hh := []) (.inl rfl) (resL_cons (resOne_tmp rfl) (resL_nil)) (List.nil_sublist _) (List.Sublist.refl _) ?_)
                    exact ⟨rfl, rfl, rfl⟩
                · replace hm := yes_f hs49 hm
                  refine wpD_draws 18 [] [[],[],[],[],[3],[3],[3],[3],[3,7],[3,7,8],[3,7,8],[3,7,8],[3,7,8],[3,7,8],[3,7,8],[3,7,8],[3,7,8],[3,7,8]] [3,7,8] nlPa1_13 (by kernel_rfl) (by kernel_rfl) (by kernel_rfl) (by rfl) (by rfl) (by kernel_rfl) ?_
                  apply Exists.intro
                  apply Exists.intro
                  apply Exists.intro
                  intro bs
                  refine z_q rfl rfl (ex_pure htab rfl) rfl rfl rfl rfl rfl rfl ?_
                  refine z_q rfl rfl (ex_pure htab rfl) rfl rfl rfl rfl rfl rfl ?_
                  refine z_q rfl rfl (ex_pure htab rfl) rfl rfl rfl rfl rfl rfl ?_
                  refine z_known (j := 58) (b' := false) rfl hs34 ?_
                  refine z_e rfl rfl (ex_pure htab rfl) rfl rfl rfl rfl rfl rfl ?_
                  refine z_qM rfl rfl (xm_load 2 htab rfl rfl rfl rfl rfl) rfl rfl rfl rfl rfl rfl ?_
                  refine z_q rfl rfl (ex_pure htab rfl) rfl rfl rfl rfl rfl rfl ?_
                  refine z_q rfl rfl (ex_pure htab rfl) rfl rfl rfl rfl rfl rfl ?_
                  refine z_known (j := 62) (b' := true) rfl hs48 ?_
                  refine z_e rfl rfl (ex_pure htab rfl) rfl rfl rfl rfl rfl rfl ?_
                  refine z_eM rfl rfl (xm_load 2 htab rfl rfl rfl rfl rfl) rfl rfl rfl rfl rfl rfl ?_
                  refine z_q rfl rfl (x_lenL htab rfl rfl rfl rfl (by first | exact map_len | rfl)) rfl rfl rfl rfl rfl rfl ?_
                  refine z_q rfl rfl (ex_pure htab rfl) rfl rfl rfl rfl rfl rfl ?_
                  refine z_q rfl rfl (x_pickT rfl rfl rfl) rfl rfl rfl rfl rfl rfl ?_
                  refine z_q rfl rfl (ex_pure htab rfl) rfl rfl rfl rfl rfl rfl ?_
                  refine z_known (j := 68) (b' := false) rfl hs49 ?_
                  refine z_skip rfl rfl rfl rfl ?_
                  refine z_skip rfl rfl rfl rfl ?_
                  refine z_skip rfl rfl rfl rfl ?_
                  refine z_skip rfl rfl rfl rfl ?_
                  refine z_skip rfl rfl rfl rfl ?_
                  refine z_nil rfl rfl (fun e he => by simp [isAl] at he) ?_
                  refine p_skip rfl rfl rfl ?_
                  refine p_pickF rfl rfl rfl rfl rfl rfl ?_
                  refine p_pickF rfl rfl rfl rfl rfl rfl ?_
                  refine p_pure htab rfl rfl rfl rfl ?_
                  refine p_skip rfl rfl rfl ?_
                  refine p_skip rfl rfl rfl ?_
                  refine p_skip rfl rfl rfl ?_
                  refine p_skip rfl rfl rfl ?_
                  refine p_skip rfl rfl rfl ?_
                  refine p_skip rfl rfl rfl ?_
                  refine p_skip rfl rfl rfl ?_
                  refine p_skip rfl rfl rfl ?_
                  refine p_skip rfl rfl rfl ?_
                  refine p_skip rfl rfl rfl ?_
                  refine p_skip rfl rfl rfl ?_
                  refine p_skip rfl rfl rfl ?_
                  refine p_skip rfl rfl rfl ?_
                  refine p_skip rfl rfl rfl ?_
                  refine p_skip rfl rfl rfl ?_
                  refine p_pickF rfl rfl rfl rfl rfl rfl ?_
                  refine p_pure htab rfl rfl rfl rfl ?_
                  refine p_skip rfl rfl rfl ?_
                  refine p_pickF rfl rfl rfl rfl rfl rfl ?_
                  refine p_pure htab rfl rfl rfl rfl ?_
                  refine ops_nil ?_
                  refine then_normal ?_
                  refine wpD_ret ?_
                  have er67 := yes_eq hm; subst er67
                  refine retX.of (s' := ⟨[(2, .v (.bool false))], [], []⟩) (WkS.perm (WkS.cons rfl (Wk.refl _) (WkS.nil)) (List.Perm.refl _) (List.Perm.refl _)) (retD_mk (hh := []) (.inl rfl) (resL_cons (resOne_tmp rfl) (resL_nil)) (List.nil_sublist _) (List.Sublist.refl _) ?_)
                  exact ⟨rfl, rfl, rfl⟩
              · replace hm := yes_f hs48 hm
                refine wpD_draws 18 [] [[],[],[],[],[3],[3],[3],[3],[3],[3],[3],[3],[3],[3],[3],[3],[3],[3]] [3] nlPa1_13 (by kernel_rfl) (by kernel_rfl) (by kernel_rfl) (by rfl) (by rfl) (by kernel_rfl) ?_
                apply Exists.intro
                intro bs
                refine z_q rfl rfl (ex_pure htab rfl) rfl rfl rfl rfl rfl rfl ?_
                refine z_q rfl rfl (ex_pure htab rfl) rfl rfl rfl rfl rfl rfl ?_
                refine z_q rfl rfl (ex_pure htab rfl) rfl rfl rfl rfl rfl rfl ?_
                refine z_known (j := 58) (b' := false) rfl hs34 ?_
                refine z_e rfl rfl (ex_pure htab rfl) rfl rfl rfl rfl rfl rfl ?_
                refine z_qM rfl rfl (xm_load 2 htab rfl rfl rfl rfl rfl) rfl rfl rfl rfl rfl rfl ?_
                refine z_q rfl rfl (ex_pure htab rfl) rfl rfl rfl rfl rfl rfl ?_
                refine z_q rfl rfl (ex_pure htab rfl) rfl rfl rfl rfl rfl rfl ?_
                refine z_known (j := 62) (b' := false) rfl hs48 ?_
                refine z_skip rfl rfl rfl rfl ?_
                refine z_skip rfl rfl rfl rfl ?_
                refine z_skip rfl rfl rfl rfl ?_
                refine z_skip rfl rfl rfl rfl ?_
                refine z_q rfl rfl (x_pickF rfl rfl rfl) rfl rfl rfl rfl rfl rfl ?_
                refine z_q rfl rfl (ex_pure htab rfl) rfl rfl rfl rfl rfl rfl ?_
                refine z_skip rfl rfl rfl rfl ?_
                refine z_skip rfl rfl rfl rfl ?_
                refine z_skip rfl rfl rfl rfl ?_
                refine z_skip rfl rfl rfl rfl ?_
                refine z_skip rfl rfl rfl rfl ?_
                refine z_nil rfl rfl (fun e he => by simp [isAl] at he) ?_
                refine p_skip rfl rfl rfl ?_
                refine p_pickF rfl rfl rfl rfl rfl rfl ?_
                refine p_pickF rfl rfl rfl rfl rfl rfl ?_
                refine p_pure htab rfl rfl rfl rfl ?_
                refine p_skip rfl rfl rfl ?_
                refine p_skip rfl rfl rfl ?_
                refine p_skip rfl rfl rfl ?_
                refine p_skip rfl rfl rfl ?_
                refine p_skip rfl rfl rfl ?_
                refine p_skip rfl rfl rfl ?_
                refine p_skip rfl rfl rfl ?_
                refine p_skip rfl rfl rfl ?_
                refine p_skip rfl rfl rfl ?_
                refine p_skip rfl rfl rfl ?_
                refine p_skip rfl rfl rfl ?_
                refine p_skip rfl rfl rfl ?_
                refine p_skip rfl rfl rfl ?_
                refine p_skip rfl rfl rfl ?_
                refine p_skip rfl rfl rfl ?_
                refine p_pickF rfl rfl rfl rfl rfl rfl ?_
                refine p_pure htab rfl rfl rfl rfl ?_
                refine p_skip rfl rfl rfl ?_
                refine p_pickF rfl rfl rfl rfl rfl rfl ?_
                refine p_pure htab rfl rfl rfl rfl ?_
                refine ops_nil ?_
                refine then_normal ?_
                refine wpD_ret ?_
                have er68 := yes_eq hm; subst er68
                refine retX.of (s' := ⟨[(2, .v (.bool false))], [], []⟩) (WkS.perm (WkS.cons rfl (Wk.refl _) (WkS.nil)) (List.Perm.refl _) (List.Perm.refl _)) (retD_mk (hh := []) (.inl rfl) (resL_cons (resOne_tmp rfl) (resL_nil)) (List.nil_sublist _) (List.Sublist.refl _) ?_)
                exact ⟨rfl, rfl, rfl⟩
end Go.Proofs.Ytbfbipcjdiipaaa.Ab
