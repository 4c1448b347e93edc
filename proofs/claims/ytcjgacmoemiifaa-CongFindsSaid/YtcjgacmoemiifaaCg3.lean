/- Layer 5, the laws. -/
import Derived.Test.YtcjgacmoemiifaaCg2
namespace Go.Proofs.Ytcjgacmoemiifaa.Ab
open Go
set_option linter.all false
noncomputable def l05_CongMakes (a0 : Int) (a1 : Int) (a2 : T2Uint64) : Option (Bool) :=
  ((r05_Clean (⟨true, a0, a1⟩ : TApiCong)).bind fun x2 => (Option.bind (α := Int) (bif (decide ((0 : Int) < a0)) then some x2.gR else some a1) fun y5 => ((cong_Of a0 a1).bind fun x7 => (bif (x7.gSome == x2.gSome && (x7.gM == x2.gM && (x7.gR == x2.gR && true))) then ((cong_One a1).bind fun x9 => ((r05_Clean (⟨true, (0 : Int), a1⟩ : TApiCong)).bind fun x10 => (bif (x9.gSome == x10.gSome && (x9.gM == x10.gM && (x9.gR == x10.gR && true))) then (cong_All.bind fun x12 => (bif (x12.gSome == true && (x12.gM == (1 : Int) && (x12.gR == (0 : Int) && true))) then ((cong_Mod a1 a0).bind fun x14 => (bif (x14 == y5) then ((cong_Gcd a2.g0 a2.g1).bind fun x16 => ((r05_Gcd a2.g0 a2.g1).bind fun x17 => (bif (x16 == x17) then (l05_lives.bind fun x19 => some x19) else some false))) else some false)) else some false)) else some false))) else some false))))
set_option maxRecDepth 100000 in
set_option maxHeartbeats 2000000 in
theorem l05_CongMakes_ok (a0 : Int) (a1 : Int) (a2 : T2Uint64) (r : Bool) (h0 : l05_CongMakes a0 a1 a2 = some r) : CallsD Try.prog 3 [.v (.int .i64 a0), .v (.int .i64 a1), eT2Uint64 a2] [] [] (fun d h k => d = .v (.bool r) ∧ h = [] ∧ k = []) := by
  have hm := yes_of h0
  unfold l05_CongMakes at hm
  clear h0
  refine enterX htab Try.func3 rfl rfl rfl rfl rfl (fun C => ?_)
  refine wpD_seq ?_
  refine wpD_region ?_
  refine p_box rfl rfl rfl rfl rfl rfl rfl (fun b1 => ?_)
  refine p_pure htab rfl rfl rfl rfl ?_
  refine ops_nil ?_
  refine then_normal ?_
  refine wpD_seq ?_
  refine wpD_region ?_
  refine p_pure htab rfl rfl rfl rfl ?_
  refine p_pure htab rfl rfl rfl rfl ?_
  refine p_build (r := [.v (.bool true), .v (.int .i64 a0), .v (.int .i64 a1)]) htab rfl rfl rfl rfl rfl rfl rfl rfl rfl ?_
  obtain ⟨x2, q2, hm⟩ := yes_bind hm
  refine p_call0 (r05_Clean_ok (⟨true, a0, a1⟩ : TApiCong) x2 q2) rfl rfl rfl rfl rfl (WkL.refl _) ?_
  rintro _ rfl
  refine p_alloc htab rfl rfl rfl rfl rfl rfl rfl (fun b3 => ?_)
  refine p_store (ds' := [.v (.bool x2.gSome), .v (.int .i64 x2.gM), .v (.int .i64 x2.gR)]) (h' := [(b1, Blk.cells [.v (.int .u64 a2.g0), .v (.int .u64 a2.g1)] 23), (b3, Blk.cells [.v (.bool x2.gSome), .v (.int .i64 x2.gM), .v (.int .i64 x2.gR)] 25)]) 1 htab rfl rfl rfl rfl rfl rfl rfl rfl rfl rfl rfl rfl ?_
  refine ops_nil ?_
  refine then_normal ?_
  refine wpD_seq ?_
  refine wpD_region ?_
  refine p_pure htab rfl rfl rfl rfl ?_
  refine p_pure htab rfl rfl rfl rfl ?_
  refine ops_nil ?_
  refine then_normal ?_
  refine wpD_seq ?_
  refine wpD_seq ?_
  refine wpD_region ?_
  refine p_pure htab rfl rfl rfl rfl ?_
  refine p_pure htab rfl rfl rfl rfl ?_
  refine ops_nil ?_
  refine then_normal ?_
  obtain ⟨y5, q5, ho5⟩ := yes_bind hm
  refine wpD_mid (Y := Unit) (fun z5 => (⟨[(0, .v (.int .i64 a0)), (1, .v (.int .i64 a1)), (5, .ptr b1 0), (7, .ptr b3 0), (8, .v (.int .i64 y5))], [(b1, Blk.cells [.v (.int .u64 a2.g0), .v (.int .u64 a2.g1)] 23), (b3, Blk.cells [.v (.bool x2.gSome), .v (.int .i64 x2.gM), .v (.int .i64 x2.gR)] 25)], []⟩ : S)) ?_ ?_
  · clear hm; have hm := yes_of q5
    refine wpD_cond rfl (fun hc6 => ?_) (fun hc6 => ?_)
    · replace hm := yes_t hc6 hm
      refine wpD_region ?_
      refine p_pure htab rfl rfl rfl rfl ?_
      refine p_load 1 htab rfl rfl rfl rfl rfl rfl rfl rfl ?_
      refine p_pure htab rfl rfl rfl rfl ?_
      refine ops_nil ?_
      have e5 := yes_eq hm; subst e5
      refine ⟨rfl, ?_⟩
      exact WkX.of () (WkS.perm (WkS.cons rfl (Wk.refl _) (WkS.cons rfl (Wk.refl _) (WkS.cons rfl (Wk.refl _) (WkS.cons rfl (Wk.refl _) (WkS.cons rfl (Wk.refl _) (WkS.nil)))))) (List.Perm.refl _) (List.Perm.refl _))
    · replace hm := yes_f hc6 hm
      refine wpD_skip ?_
      have e5 := yes_eq hm; subst e5
      refine ⟨rfl, ?_⟩
      exact WkX.of () (WkS.perm (WkS.cons rfl (Wk.refl _) (WkS.cons rfl (Wk.refl _) (WkS.cons rfl (Wk.refl _) (WkS.cons rfl (Wk.refl _) (WkS.cons rfl (Wk.refl _) (WkS.nil)))))) (List.Perm.refl _) (List.Perm.refl _))
  · intro s5 hw5; clear hm; have hm := ho5; clear q5 ho5
    refine then_normal ?_
    refine wpD_wkX hw5 (fun z5 => ?_)
    refine wpD_seq ?_
    obtain ⟨x7, q7, hm⟩ := yes_bind hm
    refine bycB (x7.gSome == x2.gSome && (x7.gM == x2.gM && (x7.gR == x2.gR && true))) (fun hs8 => ?_) (fun hs8 => ?_)
    · replace hm := yes_t hs8 hm
      obtain ⟨x9, q9, hm⟩ := yes_bind hm
      obtain ⟨x10, q10, hm⟩ := yes_bind hm
      refine bycB (x9.gSome == x10.gSome && (x9.gM == x10.gM && (x9.gR == x10.gR && true))) (fun hs11 => ?_) (fun hs11 => ?_)
      · replace hm := yes_t hs11 hm
        obtain ⟨x12, q12, hm⟩ := yes_bind hm
        refine bycB (x12.gSome == true && (x12.gM == (1 : Int) && (x12.gR == (0 : Int) && true))) (fun hs13 => ?_) (fun hs13 => ?_)
        · replace hm := yes_t hs13 hm
          obtain ⟨x14, q14, hm⟩ := yes_bind hm
          refine bycB (x14 == y5) (fun hs15 => ?_) (fun hs15 => ?_)
          · replace hm := yes_t hs15 hm
            obtain ⟨x16, q16, hm⟩ := yes_bind hm
            refine wpD_draws 35 [] [[],[],[],[],[2,3],[2,3],[2,3],[2,3],[2,3],[2,3],[2,3,7,9],[2,3,7,9,10],[2,3,7,9,10],[2,3,7,9,10],[2,3,7,9,10],[2,3,7,9,10],[2,3,7,9,10,14,15],[2,3,7,9,10,14,15],[2,3,7,9,10,14,15],[2,3,7,9,10,14,15],[2,3,7,9,10,14,15],[2,3,7,9,10,14,15],[2,3,7,9,10,14,15],[2,3,7,9,10,14,15,21],[2,3,7,9,10,14,15,21],[2,3,7,9,10,14,15,21],[2,3,7,9,10,14,15,21],[2,3,7,9,10,14,15,21,26],[2,3,7,9,10,14,15,21],[2,3,7,9,10,14,15,21,28],[2,3,7,9,10,14,15,21,26,28],[2,3,7,9,10,14,15,21],[2,3,7,9,10,14,15,21,31],[2,3,7,9,10,14,15,21],[2,3,7,9,10,14,15,21,33]] [2,3,7,9,10,14,15,21,26,28,30,31,33] [[],[],[0,1],[],[0,1,2,3],[0,1,2,3,4],[0,1,2,3,4,5],[0,1,2,3,4,5,6],[0,1,2,3,4,5],[0,1,2,3,4,5,8],[0,1,2,3,4,5,6,7,8,9],[0,1,2,3,4,5,6,7,8,9,10],[0,1,2,3,4,5,6,7,8,9,10,11],[0,1,2,3,4,5,6,7,8,9,10,11,12],[0,1,2,3,4,5,6,7,8,9,10,11,12,13],[0,1,2,3,4,5,6,7,8,9,10,11,12,13],[0,1,2,3,4,5,6,7,8,9,10,11,12,13,14,15],[0,1,2,3,4,5,6,7,8,9,10,11,12,13,14,15,16],[0,1,2,3,4,5,6,7,8,9,10,11,12,13,14,15,16,17],[0,1,2,3,4,5,6,7,8,9,10,11,12,13,14,15,16,17,18],[0,1,2,3,4,5,6,7,8,9,10,11,12,13,14,15,16,17,18],[0,1,2,3,4,5,6,7,8,9,10,11,12,13,14,15,16,17,18,19,20],[0,1,2,3,4,5,6,7,8,9,10,11,12,13,14,15,16,17,18],[0,1,2,3,4,5,6,7,8,9,10,11,12,13,14,15,16,17,18,19,20,21,22],[0,1,2,3,4,5,6,7,8,9,10,11,12,13,14,15,16,17,18,19,20,21,22,23],[0,1,2,3,4,5,6,7,8,9,10,11,12,13,14,15,16,17,18,19,20,21,22,23,24],[0,1,2,3,4,5,6,7,8,9,10,11,12,13,14,15,16,17,18,19,20,21,22,23,24,25],[0,1,2,3,4,5,6,7,8,9,10,11,12,13,14,15,16,17,18,19,20,21,22,23,24,25,26],[0,1,2,3,4,5,6,7,8,9,10,11,12,13,14,15,16,17,18,19,20,21,22,23,24,25],[0,1,2,3,4,5,6,7,8,9,10,11,12,13,14,15,16,17,18,19,20,21,22,23,24,25,28],[0,1,2,3,4,5,6,7,8,9,10,11,12,13,14,15,16,17,18,19,20,21,22,23,24,25,26,27,28,29],[0,1,2,3,4,5,6,7,8,9,10,11,12,13,14,15,16,17,18,19,20,21,22,23,24,25],[0,1,2,3,4,5,6,7,8,9,10,11,12,13,14,15,16,17,18,19,20,21,22,23,24,25,31],[0,1,2,3,4,5,6,7,8,9,10,11,12,13,14,15,16,17,18,19,20,21,22,23,24,25],[0,1,2,3,4,5,6,7,8,9,10,11,12,13,14,15,16,17,18,19,20,21,22,23,24,25,33],[0,1,2,3,4,5,6,7,8,9,10,11,12,13,14,15,16,17,18,19,20,21,22,23,24,25,26,27,28,29,30,31,32,33,34],[0,1,2,3,4,5,6,7,8,9,10,11,12,13,14,15,16,17,18,19,20,21,22,23,24,25,26,27,28,29,30,31,32,33,34,35],[0,1,2,3,4,5,6,7,8,9,10,11,12,13,14,15,16,17,18,19,20,21,22,23,24,25,26,27,28,29,30,31,32,33,34,35,36],[0,1,2,3,4,5,6,7,8,9,10,11,12,13,14,15,16,17,18,19,20,21,22,23,24,25,26,27,28,29,30,31,32,33,34,35,36,37],[0,1,2,3,4,5,6,7,8,9,10,11,12,13,14,15,16,17,18,19,20,21,22,23,24,25,26,27,28,29,30,31,32,33,34,35,36,37,38],[0,1,2,3,4,5,6,7,8,9,10,11,12,13,14,15,16,17,18,19,20,21,22,23,24,25,26,27,28,29,30,31,32,33,34,35,36,37,38,39],[0,1,2,3,4,5,6,7,8,9,10,11,12,13,14,15,16,17,18,19,20,21,22,23,24,25,26,27,28,29,30,31,32,33,34,35,36,37,38,39,40]] (by kernel_rfl) (by kernel_rfl) (by kernel_rfl) (by rfl) (by rfl) (by kernel_rfl) ?_
            apply Exists.intro
            apply Exists.intro
            apply Exists.intro
            apply Exists.intro
            apply Exists.intro
            apply Exists.intro
            apply Exists.intro
            apply Exists.intro
            apply Exists.intro
            apply Exists.intro
            apply Exists.intro
            apply Exists.intro
            apply Exists.intro
            intro bs
            refine z_q rfl rfl (ex_pure htab rfl) rfl rfl rfl rfl rfl rfl ?_
            refine z_q rfl rfl (ex_pure htab rfl) rfl rfl rfl rfl rfl rfl ?_
            refine z_call rfl rfl (cong_Of_ok a0 a1 x7 q7) rfl rfl (WkL.refl _) rfl rfl rfl rfl rfl rfl ?_
            refine z_eM rfl rfl (xm_load (d := eTApiCong x2) 1 htab rfl rfl rfl rfl rfl) rfl rfl rfl rfl rfl rfl ?_
            refine z_q rfl rfl (x_eqS htab rfl rfl eqt25 rfl rfl rfl rfl rfl) rfl rfl rfl rfl rfl rfl ?_
            refine z_q rfl rfl (ex_pure htab rfl) rfl rfl rfl rfl rfl rfl ?_
            refine z_known (j := 23) (b' := true) rfl hs8 ?_
            refine z_q rfl rfl (ex_pure htab rfl) rfl rfl rfl rfl rfl rfl ?_
            refine z_call rfl rfl (cong_One_ok a1 x9 q9) rfl rfl (WkL.refl _) rfl rfl rfl rfl rfl rfl ?_
            refine z_q rfl rfl (ex_pure htab rfl) rfl rfl rfl rfl rfl rfl ?_
            refine z_e rfl rfl (x_build (r := [.v (.bool true), .v (.int .i64 (0 : Int)), .v (.int .i64 a1)]) htab rfl rfl rfl rfl rfl rfl) rfl rfl rfl rfl rfl rfl ?_
            refine z_call rfl rfl (r05_Clean_ok (⟨true, (0 : Int), a1⟩ : TApiCong) x10 q10) rfl rfl (WkL.refl _) rfl rfl rfl rfl rfl rfl ?_
            refine z_q rfl rfl (x_eqS htab rfl rfl eqt25 rfl rfl rfl rfl rfl) rfl rfl rfl rfl rfl rfl ?_
            refine z_q rfl rfl (x_pickT rfl rfl rfl) rfl rfl rfl rfl rfl rfl ?_
            refine z_q rfl rfl (ex_pure htab rfl) rfl rfl rfl rfl rfl rfl ?_
            refine z_known (j := 31) (b' := true) rfl hs11 ?_
            refine z_call rfl rfl (cong_All_ok  x12 q12) rfl rfl (WkL.refl _) rfl rfl rfl rfl rfl rfl ?_
            refine z_e rfl rfl (x_build (r := [.v (.bool true), .v (.int .i64 (1 : Int)), .v (.int .i64 (0 : Int))]) htab rfl rfl rfl rfl rfl rfl) rfl rfl rfl rfl rfl rfl ?_
            refine z_q rfl rfl (x_eqS htab rfl rfl eqt25 rfl rfl rfl rfl rfl) rfl rfl rfl rfl rfl rfl ?_
            refine z_q rfl rfl (x_pickT rfl rfl rfl) rfl rfl rfl rfl rfl rfl ?_
            refine z_q rfl rfl (ex_pure htab rfl) rfl rfl rfl rfl rfl rfl ?_
            refine z_known (j := 36) (b' := true) rfl hs13 ?_
            refine z_q rfl rfl (ex_pure htab rfl) rfl rfl rfl rfl rfl rfl ?_
            refine z_q rfl rfl (ex_pure htab rfl) rfl rfl rfl rfl rfl rfl ?_
            refine z_call rfl rfl (cong_Mod_ok a1 a0 x14 q14) rfl rfl (WkL.refl _) rfl rfl rfl rfl rfl rfl ?_
            refine z_q rfl rfl (ex_pure htab rfl) rfl rfl rfl rfl rfl rfl ?_
            refine z_q rfl rfl (ex_pure htab rfl) rfl rfl rfl rfl rfl rfl ?_
            refine z_q rfl rfl (x_pickT rfl rfl rfl) rfl rfl rfl rfl rfl rfl ?_
            refine z_q rfl rfl (ex_pure htab rfl) rfl rfl rfl rfl rfl rfl ?_
            refine z_known (j := 43) (b' := true) rfl hs15 ?_
            refine z_e rfl rfl (x_elemA htab rfl rfl rfl rfl rfl rfl (by decide) (by decide)) rfl rfl rfl rfl rfl rfl ?_
            refine z_qM rfl rfl (xm_load 0 htab rfl rfl rfl rfl rfl) rfl rfl rfl rfl rfl rfl ?_
            refine z_e rfl rfl (x_elemA htab rfl rfl rfl rfl rfl rfl (by decide) (by decide)) rfl rfl rfl rfl rfl rfl ?_
            refine z_qM rfl rfl (xm_load 0 htab rfl rfl rfl rfl rfl) rfl rfl rfl rfl rfl rfl ?_
            refine z_call rfl rfl (cong_Gcd_ok a2.g0 a2.g1 x16 q16) rfl rfl (WkL.refl _) rfl rfl rfl rfl rfl rfl ?_
            refine z_e rfl rfl (x_elemA htab rfl rfl rfl rfl rfl rfl (by decide) (by decide)) rfl rfl rfl rfl rfl rfl ?_
            refine z_qM rfl rfl (xm_load 0 htab rfl rfl rfl rfl rfl) rfl rfl rfl rfl rfl rfl ?_
            refine z_e rfl rfl (x_elemA htab rfl rfl rfl rfl rfl rfl (by decide) (by decide)) rfl rfl rfl rfl rfl rfl ?_
            refine z_qM rfl rfl (xm_load 0 htab rfl rfl rfl rfl rfl) rfl rfl rfl rfl rfl rfl ?_
            refine z_nil rfl rfl (fun e he => by simp [isAl] at he) ?_
            obtain ⟨x17, q17, hm⟩ := yes_bind hm
            refine p_call0 (r05_Gcd_ok a2.g0 a2.g1 x17 q17) rfl rfl rfl rfl rfl (WkL.refl _) ?_
            rintro _ rfl
            refine p_pure htab rfl rfl rfl rfl ?_
            refine p_pickT rfl rfl rfl rfl rfl rfl ?_
            refine p_pure htab rfl rfl rfl rfl ?_
            refine p_split (i := 56) rfl (fun hg18 => ?_) (fun hg18 => ?_)
            · replace hm := yes_t hg18 hm
              obtain ⟨x19, q19, hm⟩ := yes_bind hm
              refine p_call0 (l05_lives_ok  x19 q19) rfl rfl rfl rfl rfl (WkL.refl _) ?_
              rintro _ rfl
              refine p_pickT rfl rfl rfl rfl rfl rfl ?_
              refine p_pure htab rfl rfl rfl rfl ?_
              refine ops_nil ?_
              refine then_normal ?_
              refine wpD_ret ?_
              have er20 := yes_eq hm; subst er20
              refine retX.of (s' := ⟨[(6, .v (.bool x19))], [], []⟩) (WkS.perm (WkS.cons rfl (Wk.refl _) (WkS.nil)) (List.Perm.refl _) (List.Perm.refl _)) (retD_mk (hh := []) (.inl rfl) (resL_cons (resOne_tmp rfl) (resL_nil)) (List.nil_sublist _) (List.Sublist.refl _) ?_)
              exact ⟨rfl, rfl, rfl⟩
            · replace hm := yes_f hg18 hm
              refine p_skip rfl rfl rfl ?_
              refine p_pickF rfl rfl rfl rfl rfl rfl ?_
              refine p_pure htab rfl rfl rfl rfl ?_
              refine ops_nil ?_
              refine then_normal ?_
              refine wpD_ret ?_
              have er21 := yes_eq hm; subst er21
              refine retX.of (s' := ⟨[(6, .v (.bool false))], [], []⟩) (WkS.perm (WkS.cons rfl (Wk.refl _) (WkS.nil)) (List.Perm.refl _) (List.Perm.refl _)) (retD_mk (hh := []) (.inl rfl) (resL_cons (resOne_tmp rfl) (resL_nil)) (List.nil_sublist _) (List.Sublist.refl _) ?_)
              exact ⟨rfl, rfl, rfl⟩
          · replace hm := yes_f hs15 hm
            refine wpD_draws 35 [] [[],[],[],[],[2,3],[2,3],[2,3],[2,3],[2,3],[2,3],[2,3,7,9],[2,3,7,9,10],[2,3,7,9,10],[2,3,7,9,10],[2,3,7,9,10],[2,3,7,9,10],[2,3,7,9,10,14,15],[2,3,7,9,10,14,15],[2,3,7,9,10,14,15],[2,3,7,9,10,14,15],[2,3,7,9,10,14,15],[2,3,7,9,10,14,15],[2,3,7,9,10,14,15],[2,3,7,9,10,14,15,21],[2,3,7,9,10,14,15,21],[2,3,7,9,10,14,15,21],[2,3,7,9,10,14,15,21],[2,3,7,9,10,14,15,21],[2,3,7,9,10,14,15,21],[2,3,7,9,10,14,15,21],[2,3,7,9,10,14,15,21],[2,3,7,9,10,14,15,21],[2,3,7,9,10,14,15,21],[2,3,7,9,10,14,15,21],[2,3,7,9,10,14,15,21]] [2,3,7,9,10,14,15,21] [[],[],[0,1],[],[0,1,2,3],[0,1,2,3,4],[0,1,2,3,4,5],[0,1,2,3,4,5,6],[0,1,2,3,4,5],[0,1,2,3,4,5,8],[0,1,2,3,4,5,6,7,8,9],[0,1,2,3,4,5,6,7,8,9,10],[0,1,2,3,4,5,6,7,8,9,10,11],[0,1,2,3,4,5,6,7,8,9,10,11,12],[0,1,2,3,4,5,6,7,8,9,10,11,12,13],[0,1,2,3,4,5,6,7,8,9,10,11,12,13],[0,1,2,3,4,5,6,7,8,9,10,11,12,13,14,15],[0,1,2,3,4,5,6,7,8,9,10,11,12,13,14,15,16],[0,1,2,3,4,5,6,7,8,9,10,11,12,13,14,15,16,17],[0,1,2,3,4,5,6,7,8,9,10,11,12,13,14,15,16,17,18],[0,1,2,3,4,5,6,7,8,9,10,11,12,13,14,15,16,17,18],[0,1,2,3,4,5,6,7,8,9,10,11,12,13,14,15,16,17,18,19,20],[0,1,2,3,4,5,6,7,8,9,10,11,12,13,14,15,16,17,18],[0,1,2,3,4,5,6,7,8,9,10,11,12,13,14,15,16,17,18,19,20,21,22],[0,1,2,3,4,5,6,7,8,9,10,11,12,13,14,15,16,17,18,19,20,21,22,23],[0,1,2,3,4,5,6,7,8,9,10,11,12,13,14,15,16,17,18,19,20,21,22,23,24],[0,1,2,3,4,5,6,7,8,9,10,11,12,13,14,15,16,17,18,19,20,21,22,23,24,25],[0,1,2,3,4,5,6,7,8,9,10,11,12,13,14,15,16,17,18,19,20,21,22,23,24,25,26],[0,1,2,3,4,5,6,7,8,9,10,11,12,13,14,15,16,17,18,19,20,21,22,23,24,25],[0,1,2,3,4,5,6,7,8,9,10,11,12,13,14,15,16,17,18,19,20,21,22,23,24,25,28],[0,1,2,3,4,5,6,7,8,9,10,11,12,13,14,15,16,17,18,19,20,21,22,23,24,25,26,27,28,29],[0,1,2,3,4,5,6,7,8,9,10,11,12,13,14,15,16,17,18,19,20,21,22,23,24,25],[0,1,2,3,4,5,6,7,8,9,10,11,12,13,14,15,16,17,18,19,20,21,22,23,24,25,31],[0,1,2,3,4,5,6,7,8,9,10,11,12,13,14,15,16,17,18,19,20,21,22,23,24,25],[0,1,2,3,4,5,6,7,8,9,10,11,12,13,14,15,16,17,18,19,20,21,22,23,24,25,33],[0,1,2,3,4,5,6,7,8,9,10,11,12,13,14,15,16,17,18,19,20,21,22,23,24,25,26,27,28,29,30,31,32,33,34],[0,1,2,3,4,5,6,7,8,9,10,11,12,13,14,15,16,17,18,19,20,21,22,23,24,25,26,27,28,29,30,31,32,33,34,35],[0,1,2,3,4,5,6,7,8,9,10,11,12,13,14,15,16,17,18,19,20,21,22,23,24,25,26,27,28,29,30,31,32,33,34,35,36],[0,1,2,3,4,5,6,7,8,9,10,11,12,13,14,15,16,17,18,19,20,21,22,23,24,25,26,27,28,29,30,31,32,33,34,35,36,37],[0,1,2,3,4,5,6,7,8,9,10,11,12,13,14,15,16,17,18,19,20,21,22,23,24,25,26,27,28,29,30,31,32,33,34,35,36,37,38],[0,1,2,3,4,5,6,7,8,9,10,11,12,13,14,15,16,17,18,19,20,21,22,23,24,25,26,27,28,29,30,31,32,33,34,35,36,37,38,39],[0,1,2,3,4,5,6,7,8,9,10,11,12,13,14,15,16,17,18,19,20,21,22,23,24,25,26,27,28,29,30,31,32,33,34,35,36,37,38,39,40]] (by kernel_rfl) (by kernel_rfl) (by kernel_rfl) (by rfl) (by rfl) (by kernel_rfl) ?_
            apply Exists.intro
            apply Exists.intro
            apply Exists.intro
            apply Exists.intro
            apply Exists.intro
            apply Exists.intro
            apply Exists.intro
            apply Exists.intro
            intro bs
            refine z_q rfl rfl (ex_pure htab rfl) rfl rfl rfl rfl rfl rfl ?_
            refine z_q rfl rfl (ex_pure htab rfl) rfl rfl rfl rfl rfl rfl ?_
            refine z_call rfl rfl (cong_Of_ok a0 a1 x7 q7) rfl rfl (WkL.refl _) rfl rfl rfl rfl rfl rfl ?_
            refine z_eM rfl rfl (xm_load (d := eTApiCong x2) 1 htab rfl rfl rfl rfl rfl) rfl rfl rfl rfl rfl rfl ?_
            refine z_q rfl rfl (x_eqS htab rfl rfl eqt25 rfl rfl rfl rfl rfl) rfl rfl rfl rfl rfl rfl ?_
            refine z_q rfl rfl (ex_pure htab rfl) rfl rfl rfl rfl rfl rfl ?_
            refine z_known (j := 23) (b' := true) rfl hs8 ?_
            refine z_q rfl rfl (ex_pure htab rfl) rfl rfl rfl rfl rfl rfl ?_
            refine z_call rfl rfl (cong_One_ok a1 x9 q9) rfl rfl (WkL.refl _) rfl rfl rfl rfl rfl rfl ?_
            refine z_q rfl rfl (ex_pure htab rfl) rfl rfl rfl rfl rfl rfl ?_
            refine z_e rfl rfl (x_build (r := [.v (.bool true), .v (.int .i64 (0 : Int)), .v (.int .i64 a1)]) htab rfl rfl rfl rfl rfl rfl) rfl rfl rfl rfl rfl rfl ?_
            refine z_call rfl rfl (r05_Clean_ok (⟨true, (0 : Int), a1⟩ : TApiCong) x10 q10) rfl rfl (WkL.refl _) rfl rfl rfl rfl rfl rfl ?_
            refine z_q rfl rfl (x_eqS htab rfl rfl eqt25 rfl rfl rfl rfl rfl) rfl rfl rfl rfl rfl rfl ?_
            refine z_q rfl rfl (x_pickT rfl rfl rfl) rfl rfl rfl rfl rfl rfl ?_
            refine z_q rfl rfl (ex_pure htab rfl) rfl rfl rfl rfl rfl rfl ?_
            refine z_known (j := 31) (b' := true) rfl hs11 ?_
            refine z_call rfl rfl (cong_All_ok  x12 q12) rfl rfl (WkL.refl _) rfl rfl rfl rfl rfl rfl ?_
            refine z_e rfl rfl (x_build (r := [.v (.bool true), .v (.int .i64 (1 : Int)), .v (.int .i64 (0 : Int))]) htab rfl rfl rfl rfl rfl rfl) rfl rfl rfl rfl rfl rfl ?_
            refine z_q rfl rfl (x_eqS htab rfl rfl eqt25 rfl rfl rfl rfl rfl) rfl rfl rfl rfl rfl rfl ?_
            refine z_q rfl rfl (x_pickT rfl rfl rfl) rfl rfl rfl rfl rfl rfl ?_
            refine z_q rfl rfl (ex_pure htab rfl) rfl rfl rfl rfl rfl rfl ?_
            refine z_known (j := 36) (b' := true) rfl hs13 ?_
            refine z_q rfl rfl (ex_pure htab rfl) rfl rfl rfl rfl rfl rfl ?_
            refine z_q rfl rfl (ex_pure htab rfl) rfl rfl rfl rfl rfl rfl ?_
            refine z_call rfl rfl (cong_Mod_ok a1 a0 x14 q14) rfl rfl (WkL.refl _) rfl rfl rfl rfl rfl rfl ?_
            refine z_q rfl rfl (ex_pure htab rfl) rfl rfl rfl rfl rfl rfl ?_
            refine z_q rfl rfl (ex_pure htab rfl) rfl rfl rfl rfl rfl rfl ?_
            refine z_q rfl rfl (x_pickT rfl rfl rfl) rfl rfl rfl rfl rfl rfl ?_
            refine z_q rfl rfl (ex_pure htab rfl) rfl rfl rfl rfl rfl rfl ?_
            refine z_known (j := 43) (b' := false) rfl hs15 ?_
            refine z_skip rfl rfl rfl rfl ?_
            refine z_skip rfl rfl rfl rfl ?_
            refine z_skip rfl rfl rfl rfl ?_
            refine z_skip rfl rfl rfl rfl ?_
            refine z_skip rfl rfl rfl rfl ?_
            refine z_skip rfl rfl rfl rfl ?_
            refine z_skip rfl rfl rfl rfl ?_
            refine z_skip rfl rfl rfl rfl ?_
            refine z_skip rfl rfl rfl rfl ?_
            refine z_nil rfl rfl (fun e he => by simp [isAl] at he) ?_
            refine p_skip rfl rfl rfl ?_
            refine p_skip rfl rfl rfl ?_
            refine p_pickF rfl rfl rfl rfl rfl rfl ?_
            refine p_pure htab rfl rfl rfl rfl ?_
            refine p_skip rfl rfl rfl ?_
            refine p_pickF rfl rfl rfl rfl rfl rfl ?_
            refine p_pure htab rfl rfl rfl rfl ?_
            refine ops_nil ?_
            refine then_normal ?_
            refine wpD_ret ?_
            have er22 := yes_eq hm; subst er22
            refine retX.of (s' := ⟨[(6, .v (.bool false))], [], []⟩) (WkS.perm (WkS.cons rfl (Wk.refl _) (WkS.nil)) (List.Perm.refl _) (List.Perm.refl _)) (retD_mk (hh := []) (.inl rfl) (resL_cons (resOne_tmp rfl) (resL_nil)) (List.nil_sublist _) (List.Sublist.refl _) ?_)
            exact ⟨rfl, rfl, rfl⟩
        · replace hm := yes_f hs13 hm
          refine wpD_draws 35 [] [[],[],[],[],[2,3],[2,3],[2,3],[2,3],[2,3],[2,3],[2,3,7,9],[2,3,7,9,10],[2,3,7,9,10],[2,3,7,9,10],[2,3,7,9,10],[2,3,7,9,10],[2,3,7,9,10,14,15],[2,3,7,9,10,14,15],[2,3,7,9,10,14,15],[2,3,7,9,10,14,15],[2,3,7,9,10,14,15],[2,3,7,9,10,14,15],[2,3,7,9,10,14,15],[2,3,7,9,10,14,15],[2,3,7,9,10,14,15],[2,3,7,9,10,14,15],[2,3,7,9,10,14,15],[2,3,7,9,10,14,15],[2,3,7,9,10,14,15],[2,3,7,9,10,14,15],[2,3,7,9,10,14,15],[2,3,7,9,10,14,15],[2,3,7,9,10,14,15],[2,3,7,9,10,14,15],[2,3,7,9,10,14,15]] [2,3,7,9,10,14,15] [[],[],[0,1],[],[0,1,2,3],[0,1,2,3,4],[0,1,2,3,4,5],[0,1,2,3,4,5,6],[0,1,2,3,4,5],[0,1,2,3,4,5,8],[0,1,2,3,4,5,6,7,8,9],[0,1,2,3,4,5,6,7,8,9,10],[0,1,2,3,4,5,6,7,8,9,10,11],[0,1,2,3,4,5,6,7,8,9,10,11,12],[0,1,2,3,4,5,6,7,8,9,10,11,12,13],[0,1,2,3,4,5,6,7,8,9,10,11,12,13],[0,1,2,3,4,5,6,7,8,9,10,11,12,13,14,15],[0,1,2,3,4,5,6,7,8,9,10,11,12,13,14,15,16],[0,1,2,3,4,5,6,7,8,9,10,11,12,13,14,15,16,17],[0,1,2,3,4,5,6,7,8,9,10,11,12,13,14,15,16,17,18],[0,1,2,3,4,5,6,7,8,9,10,11,12,13,14,15,16,17,18],[0,1,2,3,4,5,6,7,8,9,10,11,12,13,14,15,16,17,18,19,20],[0,1,2,3,4,5,6,7,8,9,10,11,12,13,14,15,16,17,18],[0,1,2,3,4,5,6,7,8,9,10,11,12,13,14,15,16,17,18,19,20,21,22],[0,1,2,3,4,5,6,7,8,9,10,11,12,13,14,15,16,17,18,19,20,21,22,23],[0,1,2,3,4,5,6,7,8,9,10,11,12,13,14,15,16,17,18,19,20,21,22,23,24],[0,1,2,3,4,5,6,7,8,9,10,11,12,13,14,15,16,17,18,19,20,21,22,23,24,25],[0,1,2,3,4,5,6,7,8,9,10,11,12,13,14,15,16,17,18,19,20,21,22,23,24,25,26],[0,1,2,3,4,5,6,7,8,9,10,11,12,13,14,15,16,17,18,19,20,21,22,23,24,25],[0,1,2,3,4,5,6,7,8,9,10,11,12,13,14,15,16,17,18,19,20,21,22,23,24,25,28],[0,1,2,3,4,5,6,7,8,9,10,11,12,13,14,15,16,17,18,19,20,21,22,23,24,25,26,27,28,29],[0,1,2,3,4,5,6,7,8,9,10,11,12,13,14,15,16,17,18,19,20,21,22,23,24,25],[0,1,2,3,4,5,6,7,8,9,10,11,12,13,14,15,16,17,18,19,20,21,22,23,24,25,31],[0,1,2,3,4,5,6,7,8,9,10,11,12,13,14,15,16,17,18,19,20,21,22,23,24,25],[0,1,2,3,4,5,6,7,8,9,10,11,12,13,14,15,16,17,18,19,20,21,22,23,24,25,33],[0,1,2,3,4,5,6,7,8,9,10,11,12,13,14,15,16,17,18,19,20,21,22,23,24,25,26,27,28,29,30,31,32,33,34],[0,1,2,3,4,5,6,7,8,9,10,11,12,13,14,15,16,17,18,19,20,21,22,23,24,25,26,27,28,29,30,31,32,33,34,35],[0,1,2,3,4,5,6,7,8,9,10,11,12,13,14,15,16,17,18,19,20,21,22,23,24,25,26,27,28,29,30,31,32,33,34,35,36],[0,1,2,3,4,5,6,7,8,9,10,11,12,13,14,15,16,17,18,19,20,21,22,23,24,25,26,27,28,29,30,31,32,33,34,35,36,37],[0,1,2,3,4,5,6,7,8,9,10,11,12,13,14,15,16,17,18,19,20,21,22,23,24,25,26,27,28,29,30,31,32,33,34,35,36,37,38],[0,1,2,3,4,5,6,7,8,9,10,11,12,13,14,15,16,17,18,19,20,21,22,23,24,25,26,27,28,29,30,31,32,33,34,35,36,37,38,39],[0,1,2,3,4,5,6,7,8,9,10,11,12,13,14,15,16,17,18,19,20,21,22,23,24,25,26,27,28,29,30,31,32,33,34,35,36,37,38,39,40]] (by kernel_rfl) (by kernel_rfl) (by kernel_rfl) (by rfl) (by rfl) (by kernel_rfl) ?_
          apply Exists.intro
          apply Exists.intro
          apply Exists.intro
          apply Exists.intro
          apply Exists.intro
          apply Exists.intro
          apply Exists.intro
          intro bs
          refine z_q rfl rfl (ex_pure htab rfl) rfl rfl rfl rfl rfl rfl ?_
          refine z_q rfl rfl (ex_pure htab rfl) rfl rfl rfl rfl rfl rfl ?_
          refine z_call rfl rfl (cong_Of_ok a0 a1 x7 q7) rfl rfl (WkL.refl _) rfl rfl rfl rfl rfl rfl ?_
          refine z_eM rfl rfl (xm_load (d := eTApiCong x2) 1 htab rfl rfl rfl rfl rfl) rfl rfl rfl rfl rfl rfl ?_
          refine z_q rfl rfl (x_eqS htab rfl rfl eqt25 rfl rfl rfl rfl rfl) rfl rfl rfl rfl rfl rfl ?_
          refine z_q rfl rfl (ex_pure htab rfl) rfl rfl rfl rfl rfl rfl ?_
          refine z_known (j := 23) (b' := true) rfl hs8 ?_
          refine z_q rfl rfl (ex_pure htab rfl) rfl rfl rfl rfl rfl rfl ?_
          refine z_call rfl rfl (cong_One_ok a1 x9 q9) rfl rfl (WkL.refl _) rfl rfl rfl rfl rfl rfl ?_
          refine z_q rfl rfl (ex_pure htab rfl) rfl rfl rfl rfl rfl rfl ?_
          refine z_e rfl rfl (x_build (r := [.v (.bool true), .v (.int .i64 (0 : Int)), .v (.int .i64 a1)]) htab rfl rfl rfl rfl rfl rfl) rfl rfl rfl rfl rfl rfl ?_
          refine z_call rfl rfl (r05_Clean_ok (⟨true, (0 : Int), a1⟩ : TApiCong) x10 q10) rfl rfl (WkL.refl _) rfl rfl rfl rfl rfl rfl ?_
          refine z_q rfl rfl (x_eqS htab rfl rfl eqt25 rfl rfl rfl rfl rfl) rfl rfl rfl rfl rfl rfl ?_
          refine z_q rfl rfl (x_pickT rfl rfl rfl) rfl rfl rfl rfl rfl rfl ?_
          refine z_q rfl rfl (ex_pure htab rfl) rfl rfl rfl rfl rfl rfl ?_
          refine z_known (j := 31) (b' := true) rfl hs11 ?_
          refine z_call rfl rfl (cong_All_ok  x12 q12) rfl rfl (WkL.refl _) rfl rfl rfl rfl rfl rfl ?_
          refine z_e rfl rfl (x_build (r := [.v (.bool true), .v (.int .i64 (1 : Int)), .v (.int .i64 (0 : Int))]) htab rfl rfl rfl rfl rfl rfl) rfl rfl rfl rfl rfl rfl ?_
          refine z_q rfl rfl (x_eqS htab rfl rfl eqt25 rfl rfl rfl rfl rfl) rfl rfl rfl rfl rfl rfl ?_
          refine z_q rfl rfl (x_pickT rfl rfl rfl) rfl rfl rfl rfl rfl rfl ?_
          refine z_q rfl rfl (ex_pure htab rfl) rfl rfl rfl rfl rfl rfl ?_
          refine z_known (j := 36) (b' := false) rfl hs13 ?_
          refine z_skip rfl rfl rfl rfl ?_
          refine z_skip rfl rfl rfl rfl ?_
          refine z_skip rfl rfl rfl rfl ?_
          refine z_skip rfl rfl rfl rfl ?_
          refine z_skip rfl rfl rfl rfl ?_
          refine z_q rfl rfl (x_pickF rfl rfl rfl) rfl rfl rfl rfl rfl rfl ?_
          refine z_q rfl rfl (ex_pure htab rfl) rfl rfl rfl rfl rfl rfl ?_
          refine z_skip rfl rfl rfl rfl ?_
          refine z_skip rfl rfl rfl rfl ?_
          refine z_skip rfl rfl rfl rfl ?_
          refine z_skip rfl rfl rfl rfl ?_
          refine z_skip rfl rfl rfl rfl ?_
          refine z_skip rfl rfl rfl rfl ?_
          refine z_skip rfl rfl rfl rfl ?_
          refine z_skip rfl rfl rfl rfl ?_
          refine z_skip rfl rfl rfl rfl ?_
          refine z_nil rfl rfl (fun e he => by simp [isAl] at he) ?_
          refine p_skip rfl rfl rfl ?_
          refine p_skip rfl rfl rfl ?_
          refine p_pickF rfl rfl rfl rfl rfl rfl ?_
          refine p_pure htab rfl rfl rfl rfl ?_
          refine p_skip rfl rfl rfl ?_
          refine p_pickF rfl rfl rfl rfl rfl rfl ?_
          refine p_pure htab rfl rfl rfl rfl ?_
          refine ops_nil ?_
          refine then_normal ?_
          refine wpD_ret ?_
          have er23 := yes_eq hm; subst er23
          refine retX.of (s' := ⟨[(6, .v (.bool false))], [], []⟩) (WkS.perm (WkS.cons rfl (Wk.refl _) (WkS.nil)) (List.Perm.refl _) (List.Perm.refl _)) (retD_mk (hh := []) (.inl rfl) (resL_cons (resOne_tmp rfl) (resL_nil)) (List.nil_sublist _) (List.Sublist.refl _) ?_)
          exact ⟨rfl, rfl, rfl⟩
      · replace hm := yes_f hs11 hm
        refine wpD_draws 35 [] [[],[],[],[],[2,3],[2,3],[2,3],[2,3],[2,3],[2,3],[2,3,7,9],[2,3,7,9,10],[2,3,7,9,10],[2,3,7,9,10],[2,3,7,9,10],[2,3,7,9,10],[2,3,7,9,10],[2,3,7,9,10],[2,3,7,9,10],[2,3,7,9,10],[2,3,7,9,10],[2,3,7,9,10],[2,3,7,9,10],[2,3,7,9,10],[2,3,7,9,10],[2,3,7,9,10],[2,3,7,9,10],[2,3,7,9,10],[2,3,7,9,10],[2,3,7,9,10],[2,3,7,9,10],[2,3,7,9,10],[2,3,7,9,10],[2,3,7,9,10],[2,3,7,9,10]] [2,3,7,9,10] [[],[],[0,1],[],[0,1,2,3],[0,1,2,3,4],[0,1,2,3,4,5],[0,1,2,3,4,5,6],[0,1,2,3,4,5],[0,1,2,3,4,5,8],[0,1,2,3,4,5,6,7,8,9],[0,1,2,3,4,5,6,7,8,9,10],[0,1,2,3,4,5,6,7,8,9,10,11],[0,1,2,3,4,5,6,7,8,9,10,11,12],[0,1,2,3,4,5,6,7,8,9,10,11,12,13],[0,1,2,3,4,5,6,7,8,9,10,11,12,13],[0,1,2,3,4,5,6,7,8,9,10,11,12,13,14,15],[0,1,2,3,4,5,6,7,8,9,10,11,12,13,14,15,16],[0,1,2,3,4,5,6,7,8,9,10,11,12,13,14,15,16,17],[0,1,2,3,4,5,6,7,8,9,10,11,12,13,14,15,16,17,18],[0,1,2,3,4,5,6,7,8,9,10,11,12,13,14,15,16,17,18],[0,1,2,3,4,5,6,7,8,9,10,11,12,13,14,15,16,17,18,19,20],[0,1,2,3,4,5,6,7,8,9,10,11,12,13,14,15,16,17,18],[0,1,2,3,4,5,6,7,8,9,10,11,12,13,14,15,16,17,18,19,20,21,22],[0,1,2,3,4,5,6,7,8,9,10,11,12,13,14,15,16,17,18,19,20,21,22,23],[0,1,2,3,4,5,6,7,8,9,10,11,12,13,14,15,16,17,18,19,20,21,22,23,24],[0,1,2,3,4,5,6,7,8,9,10,11,12,13,14,15,16,17,18,19,20,21,22,23,24,25],[0,1,2,3,4,5,6,7,8,9,10,11,12,13,14,15,16,17,18,19,20,21,22,23,24,25,26],[0,1,2,3,4,5,6,7,8,9,10,11,12,13,14,15,16,17,18,19,20,21,22,23,24,25],[0,1,2,3,4,5,6,7,8,9,10,11,12,13,14,15,16,17,18,19,20,21,22,23,24,25,28],[0,1,2,3,4,5,6,7,8,9,10,11,12,13,14,15,16,17,18,19,20,21,22,23,24,25,26,27,28,29],[0,1,2,3,4,5,6,7,8,9,10,11,12,13,14,15,16,17,18,19,20,21,22,23,24,25],[0,1,2,3,4,5,6,7,8,9,10,11,12,13,14,15,16,17,18,19,20,21,22,23,24,25,31],[0,1,2,3,4,5,6,7,8,9,10,11,12,13,14,15,16,17,18,19,20,21,22,23,24,25],[0,1,2,3,4,5,6,7,8,9,10,11,12,13,14,15,16,17,18,19,20,21,22,23,24,25,33],[0,1,2,3,4,5,6,7,8,9,10,11,12,13,14,15,16,17,18,19,20,21,22,23,24,25,26,27,28,29,30,31,32,33,34],[0,1,2,3,4,5,6,7,8,9,10,11,12,13,14,15,16,17,18,19,20,21,22,23,24,25,26,27,28,29,30,31,32,33,34,35],[0,1,2,3,4,5,6,7,8,9,10,11,12,13,14,15,16,17,18,19,20,21,22,23,24,25,26,27,28,29,30,31,32,33,34,35,36],[0,1,2,3,4,5,6,7,8,9,10,11,12,13,14,15,16,17,18,19,20,21,22,23,24,25,26,27,28,29,30,31,32,33,34,35,36,37],[0,1,2,3,4,5,6,7,8,9,10,11,12,13,14,15,16,17,18,19,20,21,22,23,24,25,26,27,28,29,30,31,32,33,34,35,36,37,38],[0,1,2,3,4,5,6,7,8,9,10,11,12,13,14,15,16,17,18,19,20,21,22,23,24,25,26,27,28,29,30,31,32,33,34,35,36,37,38,39],[0,1,2,3,4,5,6,7,8,9,10,11,12,13,14,15,16,17,18,19,20,21,22,23,24,25,26,27,28,29,30,31,32,33,34,35,36,37,38,39,40]] (by kernel_rfl) (by kernel_rfl) (by kernel_rfl) (by rfl) (by rfl) (by kernel_rfl) ?_
        apply Exists.intro
        apply Exists.intro
        apply Exists.intro
        apply Exists.intro
        apply Exists.intro
        intro bs
        refine z_q rfl rfl (ex_pure htab rfl) rfl rfl rfl rfl rfl rfl ?_
        refine z_q rfl rfl (ex_pure htab rfl) rfl rfl rfl rfl rfl rfl ?_
        refine z_call rfl rfl (cong_Of_ok a0 a1 x7 q7) rfl rfl (WkL.refl _) rfl rfl rfl rfl rfl rfl ?_
        refine z_eM rfl rfl (xm_load (d := eTApiCong x2) 1 htab rfl rfl rfl rfl rfl) rfl rfl rfl rfl rfl rfl ?_
        refine z_q rfl rfl (x_eqS htab rfl rfl eqt25 rfl rfl rfl rfl rfl) rfl rfl rfl rfl rfl rfl ?_
        refine z_q rfl rfl (ex_pure htab rfl) rfl rfl rfl rfl rfl rfl ?_
        refine z_known (j := 23) (b' := true) rfl hs8 ?_
        refine z_q rfl rfl (ex_pure htab rfl) rfl rfl rfl rfl rfl rfl ?_
        refine z_call rfl rfl (cong_One_ok a1 x9 q9) rfl rfl (WkL.refl _) rfl rfl rfl rfl rfl rfl ?_
        refine z_q rfl rfl (ex_pure htab rfl) rfl rfl rfl rfl rfl rfl ?_
        refine z_e rfl rfl (x_build (r := [.v (.bool true), .v (.int .i64 (0 : Int)), .v (.int .i64 a1)]) htab rfl rfl rfl rfl rfl rfl) rfl rfl rfl rfl rfl rfl ?_
        refine z_call rfl rfl (r05_Clean_ok (⟨true, (0 : Int), a1⟩ : TApiCong) x10 q10) rfl rfl (WkL.refl _) rfl rfl rfl rfl rfl rfl ?_
        refine z_q rfl rfl (x_eqS htab rfl rfl eqt25 rfl rfl rfl rfl rfl) rfl rfl rfl rfl rfl rfl ?_
        refine z_q rfl rfl (x_pickT rfl rfl rfl) rfl rfl rfl rfl rfl rfl ?_
        refine z_q rfl rfl (ex_pure htab rfl) rfl rfl rfl rfl rfl rfl ?_
        refine z_known (j := 31) (b' := false) rfl hs11 ?_
        refine z_skip rfl rfl rfl rfl ?_
        refine z_skip rfl rfl rfl rfl ?_
        refine z_skip rfl rfl rfl rfl ?_
        refine z_q rfl rfl (x_pickF rfl rfl rfl) rfl rfl rfl rfl rfl rfl ?_
        refine z_q rfl rfl (ex_pure htab rfl) rfl rfl rfl rfl rfl rfl ?_
        refine z_skip rfl rfl rfl rfl ?_
        refine z_skip rfl rfl rfl rfl ?_
        refine z_skip rfl rfl rfl rfl ?_
        refine z_skip rfl rfl rfl rfl ?_
        refine z_skip rfl rfl rfl rfl ?_
        refine z_q rfl rfl (x_pickF rfl rfl rfl) rfl rfl rfl rfl rfl rfl ?_
        refine z_q rfl rfl (ex_pure htab rfl) rfl rfl rfl rfl rfl rfl ?_
        refine z_skip rfl rfl rfl rfl ?_
        refine z_skip rfl rfl rfl rfl ?_
        refine z_skip rfl rfl rfl rfl ?_
        refine z_skip rfl rfl rfl rfl ?_
        refine z_skip rfl rfl rfl rfl ?_
        refine z_skip rfl rfl rfl rfl ?_
        refine z_skip rfl rfl rfl rfl ?_
        refine z_skip rfl rfl rfl rfl ?_
        refine z_skip rfl rfl rfl rfl ?_
        refine z_nil rfl rfl (fun e he => by simp [isAl] at he) ?_
        refine p_skip rfl rfl rfl ?_
        refine p_skip rfl rfl rfl ?_
        refine p_pickF rfl rfl rfl rfl rfl rfl ?_
        refine p_pure htab rfl rfl rfl rfl ?_
        refine p_skip rfl rfl rfl ?_
        refine p_pickF rfl rfl rfl rfl rfl rfl ?_
        refine p_pure htab rfl rfl rfl rfl ?_
        refine ops_nil ?_
        refine then_normal ?_
        refine wpD_ret ?_
        have er24 := yes_eq hm; subst er24
        refine retX.of (s' := ⟨[(6, .v (.bool false))], [], []⟩) (WkS.perm (WkS.cons rfl (Wk.refl _) (WkS.nil)) (List.Perm.refl _) (List.Perm.refl _)) (retD_mk (hh := []) (.inl rfl) (resL_cons (resOne_tmp rfl) (resL_nil)) (List.nil_sublist _) (List.Sublist.refl _) ?_)
        exact ⟨rfl, rfl, rfl⟩
    · replace hm := yes_f hs8 hm
      refine wpD_draws 35 [] [[],[],[],[],[2,3],[2,3],[2,3],[2,3],[2,3],[2,3],[2,3],[2,3],[2,3],[2,3],[2,3],[2,3],[2,3],[2,3],[2,3],[2,3],[2,3],[2,3],[2,3],[2,3],[2,3],[2,3],[2,3],[2,3],[2,3],[2,3],[2,3],[2,3],[2,3],[2,3],[2,3]] [2,3] [[],[],[0,1],[],[0,1,2,3],[0,1,2,3,4],[0,1,2,3,4,5],[0,1,2,3,4,5,6],[0,1,2,3,4,5],[0,1,2,3,4,5,8],[0,1,2,3,4,5,6,7,8,9],[0,1,2,3,4,5,6,7,8,9,10],[0,1,2,3,4,5,6,7,8,9,10,11],[0,1,2,3,4,5,6,7,8,9,10,11,12],[0,1,2,3,4,5,6,7,8,9,10,11,12,13],[0,1,2,3,4,5,6,7,8,9,10,11,12,13],[0,1,2,3,4,5,6,7,8,9,10,11,12,13,14,15],[0,1,2,3,4,5,6,7,8,9,10,11,12,13,14,15,16],[0,1,2,3,4,5,6,7,8,9,10,11,12,13,14,15,16,17],[0,1,2,3,4,5,6,7,8,9,10,11,12,13,14,15,16,17,18],[0,1,2,3,4,5,6,7,8,9,10,11,12,13,14,15,16,17,18],[0,1,2,3,4,5,6,7,8,9,10,11,12,13,14,15,16,17,18,19,20],[0,1,2,3,4,5,6,7,8,9,10,11,12,13,14,15,16,17,18],[0,1,2,3,4,5,6,7,8,9,10,11,12,13,14,15,16,17,18,19,20,21,22],[0,1,2,3,4,5,6,7,8,9,10,11,12,13,14,15,16,17,18,19,20,21,22,23],[0,1,2,3,4,5,6,7,8,9,10,11,12,13,14,15,16,17,18,19,20,21,22,23,24],[0,1,2,3,4,5,6,7,8,9,10,11,12,13,14,15,16,17,18,19,20,21,22,23,24,25],[0,1,2,3,4,5,6,7,8,9,10,11,12,13,14,15,16,17,18,19,20,21,22,23,24,25,26],[0,1,2,3,4,5,6,7,8,9,10,11,12,13,14,15,16,17,18,19,20,21,22,23,24,25],[0,1,2,3,4,5,6,7,8,9,10,11,12,13,14,15,16,17,18,19,20,21,22,23,24,25,28],[0,1,2,3,4,5,6,7,8,9,10,11,12,13,14,15,16,17,18,19,20,21,22,23,24,25,26,27,28,29],[0,1,2,3,4,5,6,7,8,9,10,11,12,13,14,15,16,17,18,19,20,21,22,23,24,25],[0,1,2,3,4,5,6,7,8,9,10,11,12,13,14,15,16,17,18,19,20,21,22,23,24,25,31],[0,1,2,3,4,5,6,7,8,9,10,11,12,13,14,15,16,17,18,19,20,21,22,23,24,25],[0,1,2,3,4,5,6,7,8,9,10,11,12,13,14,15,16,17,18,19,20,21,22,23,24,25,33],[0,1,2,3,4,5,6,7,8,9,10,11,12,13,14,15,16,17,18,19,20,21,22,23,24,25,26,27,28,29,30,31,32,33,34],[0,1,2,3,4,5,6,7,8,9,10,11,12,13,14,15,16,17,18,19,20,21,22,23,24,25,26,27,28,29,30,31,32,33,34,35],[0,1,2,3,4,5,6,7,8,9,10,11,12,13,14,15,16,17,18,19,20,21,22,23,24,25,26,27,28,29,30,31,32,33,34,35,36],[0,1,2,3,4,5,6,7,8,9,10,11,12,13,14,15,16,17,18,19,20,21,22,23,24,25,26,27,28,29,30,31,32,33,34,35,36,37],[0,1,2,3,4,5,6,7,8,9,10,11,12,13,14,15,16,17,18,19,20,21,22,23,24,25,26,27,28,29,30,31,32,33,34,35,36,37,38],[0,1,2,3,4,5,6,7,8,9,10,11,12,13,14,15,16,17,18,19,20,21,22,23,24,25,26,27,28,29,30,31,32,33,34,35,36,37,38,39],[0,1,2,3,4,5,6,7,8,9,10,11,12,13,14,15,16,17,18,19,20,21,22,23,24,25,26,27,28,29,30,31,32,33,34,35,36,37,38,39,40]] (by kernel_rfl) (by kernel_rfl) (by kernel_rfl) (by rfl) (by rfl) (by kernel_rfl) ?_
      apply Exists.intro
      apply Exists.intro
      intro bs
      refine z_q rfl rfl (ex_pure htab rfl) rfl rfl rfl rfl rfl rfl ?_
      refine z_q rfl rfl (ex_pure htab rfl) rfl rfl rfl rfl rfl rfl ?_
      refine z_call rfl rfl (cong_Of_ok a0 a1 x7 q7) rfl rfl (WkL.refl _) rfl rfl rfl rfl rfl rfl ?_
      refine z_eM rfl rfl (xm_load (d := eTApiCong x2) 1 htab rfl rfl rfl rfl rfl) rfl rfl rfl rfl rfl rfl ?_
      refine z_q rfl rfl (x_eqS htab rfl rfl eqt25 rfl rfl rfl rfl rfl) rfl rfl rfl rfl rfl rfl ?_
      refine z_q rfl rfl (ex_pure htab rfl) rfl rfl rfl rfl rfl rfl ?_
      refine z_known (j := 23) (b' := false) rfl hs8 ?_
      refine z_skip rfl rfl rfl rfl ?_
      refine z_skip rfl rfl rfl rfl ?_
      refine z_skip rfl rfl rfl rfl ?_
      refine z_skip rfl rfl rfl rfl ?_
      refine z_skip rfl rfl rfl rfl ?_
      refine z_skip rfl rfl rfl rfl ?_
      refine z_q rfl rfl (x_pickF rfl rfl rfl) rfl rfl rfl rfl rfl rfl ?_
      refine z_q rfl rfl (ex_pure htab rfl) rfl rfl rfl rfl rfl rfl ?_
      refine z_skip rfl rfl rfl rfl ?_
      refine z_skip rfl rfl rfl rfl ?_
      refine z_skip rfl rfl rfl rfl ?_
      refine z_q rfl rfl (x_pickF rfl rfl rfl) rfl rfl rfl rfl rfl rfl ?_
      refine z_q rfl rfl (ex_pure htab rfl) rfl rfl rfl rfl rfl rfl ?_
      refine z_skip rfl rfl rfl rfl ?_
      refine z_skip rfl rfl rfl rfl ?_
      refine z_skip rfl rfl rfl rfl ?_
      refine z_skip rfl rfl rfl rfl ?_
      refine z_skip rfl rfl rfl rfl ?_
      refine z_q rfl rfl (x_pickF rfl rfl rfl) rfl rfl rfl rfl rfl rfl ?_
      refine z_q rfl rfl (ex_pure htab rfl) rfl rfl rfl rfl rfl rfl ?_
      refine z_skip rfl rfl rfl rfl ?_
      refine z_skip rfl rfl rfl rfl ?_
      refine z_skip rfl rfl rfl rfl ?_
      refine z_skip rfl rfl rfl rfl ?_
      refine z_skip rfl rfl rfl rfl ?_
      refine z_skip rfl rfl rfl rfl ?_
      refine z_skip rfl rfl rfl rfl ?_
      refine z_skip rfl rfl rfl rfl ?_
      refine z_skip rfl rfl rfl rfl ?_
      refine z_nil rfl rfl (fun e he => by simp [isAl] at he) ?_
      refine p_skip rfl rfl rfl ?_
      refine p_skip rfl rfl rfl ?_
      refine p_pickF rfl rfl rfl rfl rfl rfl ?_
      refine p_pure htab rfl rfl rfl rfl ?_
      refine p_skip rfl rfl rfl ?_
      refine p_pickF rfl rfl rfl rfl rfl rfl ?_
      refine p_pure htab rfl rfl rfl rfl ?_
      refine ops_nil ?_
      refine then_normal ?_
      refine wpD_ret ?_
      have er25 := yes_eq hm; subst er25
      refine retX.of (s' := ⟨[(6, .v (.bool false))], [], []⟩) (WkS.perm (WkS.cons rfl (Wk.refl _) (WkS.nil)) (List.Perm.refl _) (List.Perm.refl _)) (retD_mk (hh := []) (.inl rfl) (resL_cons (resOne_tmp rfl) (resL_nil)) (List.nil_sublist _) (List.Sublist.refl _) ?_)
      exact ⟨rfl, rfl, rfl⟩
noncomputable def l05_CongClimbs (a0 : List TApiCong) : Option (Bool) :=
  (Option.bind (α := (Int × Bool × Int × Int) ⊕ (Bool)) (loopM (fun (s75 : Int × Int × Bool × Int × Int) => (bif (decide (s75.2.1 < (a0.length : Int))) then ((idx a0 s75.2.1).bind fun x123 => ((cong_Join (⟨s75.2.2.1, s75.2.2.2.1, s75.2.2.2.2⟩ : TApiCong) x123).bind fun x124 => (Option.bind (α := Bool) ((r05_Leq (⟨s75.2.2.1, s75.2.2.2.1, s75.2.2.2.2⟩ : TApiCong) x124).bind fun x134 => (bif (!x134) then some true else ((idx a0 s75.2.1).bind fun x136 => ((r05_Leq x136 x124).bind fun x137 => (bif (!x137) then some true else ((idx a0 s75.2.1).bind fun x139 => ((cong_Join x139 (⟨s75.2.2.1, s75.2.2.2.1, s75.2.2.2.2⟩ : TApiCong)).bind fun x140 => some (!(x140.gSome == x124.gSome && (x140.gM == x124.gM && (x140.gR == x124.gR && true))))))))))) fun y133 => (bif y133 then some (.done (.inr false)) else (Option.bind (α := Int) (bif (!(x124.gSome == s75.2.2.1 && (x124.gM == s75.2.2.2.1 && (x124.gR == s75.2.2.2.2 && true)))) then some (IntKind.i64.wrap (s75.1 + (1 : Int))) else some s75.1) fun y144 => some (.next (y144, (IntKind.i64.wrap (s75.2.1 + (1 : Int))), x124.gSome, x124.gM, x124.gR))))))) else some (.done (.inl (s75.1, s75.2.2.1, s75.2.2.2.1, s75.2.2.2.2))))) ((0 : Int), (0 : Int), false, (0 : Int), (0 : Int))) (Sum.elim (fun y74 => (bif (decide (y74.1 ≤ (65 : Int))) then (l05_lives.bind fun x147 => some x147) else some false)) (fun r => some r)))
set_option maxRecDepth 100000 in
set_option maxHeartbeats 2000000 in
theorem l05_CongClimbs_ok (a0 : List TApiCong) (r : Bool) (h0 : l05_CongClimbs a0 = some r) : CallsD Try.prog 5 [.lst 3 (a0.map eTApiCong) .no] [] [] (fun d h k => d = .v (.bool r) ∧ h = [] ∧ k = []) := by
  have hm := yes_of h0
  unfold l05_CongClimbs at hm
  clear h0
  refine enterX htab Try.func5 rfl rfl rfl rfl rfl (fun C => ?_)
  refine wpD_seq ?_
  refine wpD_region ?_
  refine p_pure htab rfl rfl rfl rfl ?_
  refine ops_nil ?_
  refine then_normal ?_
  refine wpD_seq ?_
  refine wpD_region ?_
  refine p_build (r := [.v (.bool false), .v (.int .i64 (0 : Int)), .v (.int .i64 (0 : Int))]) htab rfl rfl rfl rfl rfl rfl rfl rfl rfl ?_
  refine p_alloc htab rfl rfl rfl rfl rfl rfl rfl (fun b1 => ?_)
  refine p_store (ds' := [.v (.bool false), .v (.int .i64 (0 : Int)), .v (.int .i64 (0 : Int))]) (h' := [(b1, Blk.cells [.v (.bool false), .v (.int .i64 (0 : Int)), .v (.int .i64 (0 : Int))] 25)]) 0 htab rfl rfl rfl rfl rfl rfl rfl rfl rfl rfl rfl rfl ?_
  refine ops_nil ?_
  refine then_normal ?_
  refine wpD_seq ?_
  refine wpD_region ?_
  refine p_pure htab rfl rfl rfl rfl ?_
  refine ops_nil ?_
  refine then_normal ?_
  refine wpD_seq ?_
  refine wpD_seq ?_
  refine wpD_region ?_
  refine p_pure htab rfl rfl rfl rfl ?_
  refine ops_nil ?_
  refine then_normal ?_
  obtain ⟨x74, q74, ho74⟩ := yes_bind hm
  refine wpD_midX (τ := Int × Bool × Int × Int) (Y := Unit) (fun y74 z74 => (⟨[(4, .v (.int .i64 y74.1))], [(b1, Blk.cells [.v (.bool y74.2.1), .v (.int .i64 y74.2.2.1), .v (.int .i64 y74.2.2.2)] 25)], []⟩ : S)) x74 ?_ ?_
  · clear hm; have hm := yes_of q74
    refine wpD_block ?_
    obtain ⟨u75, hl75, hq75⟩ := yes_m hm
    refine loop_M (Y := Unit) hl75 (fun s75 z75 => (⟨[(0, .lst 3 (a0.map eTApiCong) .no), (3, .ptr b1 0), (4, .v (.int .i64 s75.1)), (5, .v (.int .i64 s75.2.1))], [(b1, Blk.cells [.v (.bool s75.2.2.1), .v (.int .i64 s75.2.2.2.1), .v (.int .i64 s75.2.2.2.2)] 25)], []⟩ : S)) ?_ ?_
    · skip
      exact WkX.of () (WkS.perm (WkS.cons rfl (Wk.refl _) (WkS.cons rfl (Wk.refl _) (WkS.cons rfl (Wk.refl _) (WkS.cons rfl (Wk.refl _) (WkS.nil))))) (List.Perm.refl _) (List.Perm.refl _))
    · intro G75 s75 z75 hm
      refine wpD_seq ?_
      refine wpD_seq ?_
      refine wpD_region ?_
      refine p_pure htab rfl rfl rfl rfl ?_
      refine p_pure htab rfl rfl rfl rfl ?_
      refine p_lenL htab rfl rfl rfl rfl rfl rfl rfl (by first | exact map_len | rfl) ?_
      refine p_pure htab rfl rfl rfl rfl ?_
      refine ops_nil ?_
      refine then_normal ?_
      refine wpD_cond rfl (fun hc122 => ?_) (fun hc122 => ?_)
      · replace hm := yes_t hc122 hm
        refine wpD_skip ?_
        refine then_normal ?_
        refine wpD_seq ?_
        refine wpD_block ?_
        refine wpD_seq ?_
        obtain ⟨x123, q123, hm⟩ := yes_bind hm
        obtain ⟨x124, q124, hm⟩ := yes_bind hm
        refine wpD_draws 7 [(6, [.v (.bool false), .v (.int .i64 (0 : Int)), .v (.int .i64 (0 : Int))], 25)] [[],[],[],[1],[1,3],[0,1,3,4],[]] [0,1,3,4,5,6] [[],[],[],[1,2],[1,2,3],[0,1,2,3,4],[],[0,1,2,3,4,5,6]] (by kernel_rfl) (by kernel_rfl) (by kernel_rfl) (by rfl) (by rfl) (by kernel_rfl) ?_
        apply Exists.intro
        apply Exists.intro
        apply Exists.intro
        apply Exists.intro
        apply Exists.intro
        refine ⟨.any, ?_⟩
        intro bs
        refine z_eM rfl rfl (xm_load (d := eTApiCong (⟨s75.2.2.1, s75.2.2.2.1, s75.2.2.2.2⟩ : TApiCong)) 0 htab rfl rfl rfl rfl rfl) rfl rfl rfl rfl rfl rfl ?_
        refine z_e rfl rfl (ex_pure htab rfl) rfl rfl rfl rfl rfl rfl ?_
        refine z_q rfl rfl (ex_pure htab rfl) rfl rfl rfl rfl rfl rfl ?_
        refine z_e rfl rfl (x_elem htab rfl rfl rfl rfl rfl rfl rfl (idx_nonneg q123) (idx_map q123)) rfl rfl rfl rfl rfl rfl ?_
        refine z_eM rfl rfl (xm_loadEl (d := eTApiCong x123) htab rfl rfl rfl rfl rfl) rfl rfl rfl rfl rfl rfl ?_
        refine z_call rfl rfl (cong_Join_ok (⟨s75.2.2.1, s75.2.2.2.1, s75.2.2.2.2⟩ : TApiCong) x123 x124 q124) rfl rfl (WkL.refl _) rfl rfl rfl rfl rfl rfl ?_
        refine z_alloc rfl htab rfl rfl rfl rfl rfl rfl rfl rfl (by simp [dOf, eI64]) (by simp) ?_
        refine z_nil rfl (by simp only [List.map_cons, List.map_nil]; exact rfl) (fun e he => by simp [isAl] at he; subst he; rfl) ?_
        obtain ⟨b125, hb125⟩ : ∃ b, bs 6 = b := ⟨_, rfl⟩
        simp only [hb125]
        clear hb125
        refine p_store (ds' := [.v (.bool x124.gSome), .v (.int .i64 x124.gM), .v (.int .i64 x124.gR)]) (h' := [(b1, Blk.cells [.v (.bool s75.2.2.1), .v (.int .i64 s75.2.2.2.1), .v (.int .i64 s75.2.2.2.2)] 25), (b125, Blk.cells [.v (.bool x124.gSome), .v (.int .i64 x124.gM), .v (.int .i64 x124.gR)] 25)]) 1 htab rfl rfl rfl rfl rfl rfl rfl rfl rfl rfl rfl rfl ?_
        refine ops_nil ?_
        refine then_normal ?_
        refine wpD_seq ?_
        refine wpD_seq ?_
        obtain ⟨y133, q133, ho133⟩ := yes_bind hm
        refine wpD_mid (Y := Unit) (fun z133 => (⟨[(0, .lst 3 (a0.map eTApiCong) .no), (3, .ptr b1 0), (4, .v (.int .i64 s75.1)), (5, .v (.int .i64 s75.2.1)), (6, .ptr b125 0), (42, .v (.bool y133))], [(b1, Blk.cells [.v (.bool s75.2.2.1), .v (.int .i64 s75.2.2.2.1), .v (.int .i64 s75.2.2.2.2)] 25), (b125, Blk.cells [.v (.bool x124.gSome), .v (.int .i64 x124.gM), .v (.int .i64 x124.gR)] 25)], []⟩ : S)) ?_ ?_
        · clear hm; have hm := yes_of q133
          obtain ⟨x134, q134, hm⟩ := yes_bind hm
          refine bycB (!x134) (fun hs135 => ?_) (fun hs135 => ?_)
          · replace hm := yes_t hs135 hm
            refine wpD_draws 21 [] [[],[],[0,1],[0,1,2],[0,1,2],[0,1,2],[0,1,2],[0,1,2],[0,1,2],[0,1,2],[0,1,2],[0,1,2],[0,1,2],[0,1,2],[0,1,2],[0,1,2],[0,1,2],[0,1,2],[0,1,2],[0,1,2],[0,1,2]] [0,1,2] [[],[],[0,1],[0,1,2],[0,1,2,3],[0,1,2,3,4],[0,1,2,3,4],[0,1,2,3,4,5,6],[0,1,2,3,4,5,6,7],[0,1,2,3,4],[0,1,2,3,4,5,6,7,8,9],[0,1,2,3,4,5,6,7,8,9,10],[0,1,2,3,4,5,6,7,8,9,10,11],[0,1,2,3,4,5,6,7,8,9,10,11,12],[0,1,2,3,4,5,6,7,8,9,10,11,12,13],[0,1,2,3,4,5,6,7,8,9,10,11,12,13],[0,1,2,3,4,5,6,7,8,9,10,11,12,13,14,15],[0,1,2,3,4,5,6,7,8,9,10,11,12,13,14,15,16],[0,1,2,3,4,5,6,7,8,9,10,11,12,13],[0,1,2,3,4,5,6,7,8,9,10,11,12,13,14,15,16,17,18],[0,1,2,3,4,5,6,7,8,9,10,11,12,13],[0,1,2,3,4,5,6,7,8,9,10,11,12,13,14,15,16,17,18,19,20],[0,1,2,3,4,5,6,7,8,9,10,11,12,13,14,15,16,17,18,19,20,21]] (by kernel_rfl) (by kernel_rfl) (by kernel_rfl) (by rfl) (by rfl) (by kernel_rfl) ?_
            apply Exists.intro
            apply Exists.intro
            apply Exists.intro
            intro bs
            refine z_eM rfl rfl (xm_load (d := eTApiCong (⟨s75.2.2.1, s75.2.2.2.1, s75.2.2.2.2⟩ : TApiCong)) 0 htab rfl rfl rfl rfl rfl) rfl rfl rfl rfl rfl rfl ?_
            refine z_eM rfl rfl (xm_load (d := eTApiCong x124) 1 htab rfl rfl rfl rfl rfl) rfl rfl rfl rfl rfl rfl ?_
            refine z_call rfl rfl (r05_Leq_ok (⟨s75.2.2.1, s75.2.2.2.1, s75.2.2.2.2⟩ : TApiCong) x124 x134 q134) rfl rfl (WkL.refl _) rfl rfl rfl rfl rfl rfl ?_
            refine z_q rfl rfl (ex_pure htab rfl) rfl rfl rfl rfl rfl rfl ?_
            refine z_q rfl rfl (ex_pure htab rfl) rfl rfl rfl rfl rfl rfl ?_
            refine z_known (j := 24) (b' := true) rfl hs135 ?_
            refine z_skip rfl rfl rfl rfl ?_
            refine z_skip rfl rfl rfl rfl ?_
            refine z_skip rfl rfl rfl rfl ?_
            refine z_skip rfl rfl rfl rfl ?_
            refine z_skip rfl rfl rfl rfl ?_
            refine z_skip rfl rfl rfl rfl ?_
            refine z_skip rfl rfl rfl rfl ?_
            refine z_q rfl rfl (x_pickT rfl rfl rfl) rfl rfl rfl rfl rfl rfl ?_
            refine z_q rfl rfl (ex_pure htab rfl) rfl rfl rfl rfl rfl rfl ?_
            refine z_skip rfl rfl rfl rfl ?_
            refine z_skip rfl rfl rfl rfl ?_
            refine z_skip rfl rfl rfl rfl ?_
            refine z_skip rfl rfl rfl rfl ?_
            refine z_skip rfl rfl rfl rfl ?_
            refine z_skip rfl rfl rfl rfl ?_
            refine z_skip rfl rfl rfl rfl ?_
            refine z_nil rfl rfl (fun e he => by simp [isAl] at he) ?_
            refine p_skip rfl rfl rfl ?_
            refine p_pickT rfl rfl rfl rfl rfl rfl ?_
            refine ops_nil ?_
            have e133 := yes_eq hm; subst e133
            refine ⟨rfl, ?_⟩
            exact WkX.of () (WkS.perm (WkS.cons rfl (Wk.refl _) (WkS.cons rfl (Wk.refl _) (WkS.cons rfl (Wk.refl _) (WkS.cons rfl (Wk.refl _) (WkS.cons rfl (Wk.refl _) (WkS.cons rfl (Wk.refl _) (WkS.nil))))))) (List.Perm.refl _) (List.Perm.refl _))
          · replace hm := yes_f hs135 hm
            obtain ⟨x136, q136, hm⟩ := yes_bind hm
            obtain ⟨x137, q137, hm⟩ := yes_bind hm
            refine bycB (!x137) (fun hs138 => ?_) (fun hs138 => ?_)
            · replace hm := yes_t hs138 hm
              refine wpD_draws 21 [] [[],[],[0,1],[0,1,2],[0,1,2],[0,1,2],[0,1,2],[0,1,2,5],[0,1,2,5,7],[0,1,2],[0,1,2,5,7,8,9],[0,1,2,5,7,8,9,10],[0,1,2,5,7,8,9,10],[0,1,2,5,7,8,9,10],[0,1,2,5,7,8,9,10],[0,1,2,5,7,8,9,10],[0,1,2,5,7,8,9,10],[0,1,2,5,7,8,9,10],[0,1,2,5,7,8,9,10],[0,1,2,5,7,8,9,10],[0,1,2,5,7,8,9,10]] [0,1,2,5,7,8,9,10] [[],[],[0,1],[0,1,2],[0,1,2,3],[0,1,2,3,4],[0,1,2,3,4],[0,1,2,3,4,5,6],[0,1,2,3,4,5,6,7],[0,1,2,3,4],[0,1,2,3,4,5,6,7,8,9],[0,1,2,3,4,5,6,7,8,9,10],[0,1,2,3,4,5,6,7,8,9,10,11],[0,1,2,3,4,5,6,7,8,9,10,11,12],[0,1,2,3,4,5,6,7,8,9,10,11,12,13],[0,1,2,3,4,5,6,7,8,9,10,11,12,13],[0,1,2,3,4,5,6,7,8,9,10,11,12,13,14,15],[0,1,2,3,4,5,6,7,8,9,10,11,12,13,14,15,16],[0,1,2,3,4,5,6,7,8,9,10,11,12,13],[0,1,2,3,4,5,6,7,8,9,10,11,12,13,14,15,16,17,18],[0,1,2,3,4,5,6,7,8,9,10,11,12,13],[0,1,2,3,4,5,6,7,8,9,10,11,12,13,14,15,16,17,18,19,20],[0,1,2,3,4,5,6,7,8,9,10,11,12,13,14,15,16,17,18,19,20,21]] (by kernel_rfl) (by kernel_rfl) (by kernel_rfl) (by rfl) (by rfl) (by kernel_rfl) ?_
              apply Exists.intro
              apply Exists.intro
              apply Exists.intro
              apply Exists.intro
              apply Exists.intro
              apply Exists.intro
              apply Exists.intro
              apply Exists.intro
              intro bs
              refine z_eM rfl rfl (xm_load (d := eTApiCong (⟨s75.2.2.1, s75.2.2.2.1, s75.2.2.2.2⟩ : TApiCong)) 0 htab rfl rfl rfl rfl rfl) rfl rfl rfl rfl rfl rfl ?_
              refine z_eM rfl rfl (xm_load (d := eTApiCong x124) 1 htab rfl rfl rfl rfl rfl) rfl rfl rfl rfl rfl rfl ?_
              refine z_call rfl rfl (r05_Leq_ok (⟨s75.2.2.1, s75.2.2.2.1, s75.2.2.2.2⟩ : TApiCong) x124 x134 q134) rfl rfl (WkL.refl _) rfl rfl rfl rfl rfl rfl ?_
              refine z_q rfl rfl (ex_pure htab rfl) rfl rfl rfl rfl rfl rfl ?_
              refine z_q rfl rfl (ex_pure htab rfl) rfl rfl rfl rfl rfl rfl ?_
              refine z_known (j := 24) (b' := false) rfl hs135 ?_
              refine z_e rfl rfl (ex_pure htab rfl) rfl rfl rfl rfl rfl rfl ?_
              refine z_q rfl rfl (ex_pure htab rfl) rfl rfl rfl rfl rfl rfl ?_
              refine z_e rfl rfl (x_elem htab rfl rfl rfl rfl rfl rfl rfl (idx_nonneg q136) (idx_map q136)) rfl rfl rfl rfl rfl rfl ?_
              refine z_eM rfl rfl (xm_loadEl (d := eTApiCong x136) htab rfl rfl rfl rfl rfl) rfl rfl rfl rfl rfl rfl ?_
              refine z_eM rfl rfl (xm_load (d := eTApiCong x124) 1 htab rfl rfl rfl rfl rfl) rfl rfl rfl rfl rfl rfl ?_
              refine z_call rfl rfl (r05_Leq_ok x136 x124 x137 q137) rfl rfl (WkL.refl _) rfl rfl rfl rfl rfl rfl ?_
              refine z_q rfl rfl (ex_pure htab rfl) rfl rfl rfl rfl rfl rfl ?_
              refine z_q rfl rfl (x_pickF rfl rfl rfl) rfl rfl rfl rfl rfl rfl ?_
              refine z_q rfl rfl (ex_pure htab rfl) rfl rfl rfl rfl rfl rfl ?_
              refine z_known (j := 33) (b' := true) rfl hs138 ?_
              refine z_skip rfl rfl rfl rfl ?_
              refine z_skip rfl rfl rfl rfl ?_
              refine z_skip rfl rfl rfl rfl ?_
              refine z_skip rfl rfl rfl rfl ?_
              refine z_skip rfl rfl rfl rfl ?_
              refine z_skip rfl rfl rfl rfl ?_
              refine z_skip rfl rfl rfl rfl ?_
              refine z_nil rfl rfl (fun e he => by simp [isAl] at he) ?_
              refine p_skip rfl rfl rfl ?_
              refine p_pickT rfl rfl rfl rfl rfl rfl ?_
              refine ops_nil ?_
              have e133 := yes_eq hm; subst e133
              refine ⟨rfl, ?_⟩
              exact WkX.of () (WkS.perm (WkS.cons rfl (Wk.refl _) (WkS.cons rfl (Wk.refl _) (WkS.cons rfl (Wk.refl _) (WkS.cons rfl (Wk.refl _) (WkS.cons rfl (Wk.refl _) (WkS.cons rfl (Wk.refl _) (WkS.nil))))))) (List.Perm.refl _) (List.Perm.refl _))
            · replace hm := yes_f hs138 hm
              obtain ⟨x139, q139, hm⟩ := yes_bind hm
              obtain ⟨x140, q140, hm⟩ := yes_bind hm
              refine wpD_draws 21 [] [[],[],[0,1],[0,1,2],[0,1,2],[0,1,2],[0,1,2],[0,1,2,5],[0,1,2,5,7],[0,1,2],[0,1,2,5,7,8,9],[0,1,2,5,7,8,9,10],[0,1,2,5,7,8,9,10],[0,1,2,5,7,8,9,10],[0,1,2,5,7,8,9,10],[0,1,2,5,7,8,9,10],[0,1,2,5,7,8,9,10,14],[0,1,2,5,7,8,9,10,14,16],[0,1,2,5,7,8,9,10],[0,1,2,5,7,8,9,10,14,16,17,18],[0,1,2,5,7,8,9,10]] [0,1,2,5,7,8,9,10,14,16,17,18,19,20] [[],[],[0,1],[0,1,2],[0,1,2,3],[0,1,2,3,4],[0,1,2,3,4],[0,1,2,3,4,5,6],[0,1,2,3,4,5,6,7],[0,1,2,3,4],[0,1,2,3,4,5,6,7,8,9],[0,1,2,3,4,5,6,7,8,9,10],[0,1,2,3,4,5,6,7,8,9,10,11],[0,1,2,3,4,5,6,7,8,9,10,11,12],[0,1,2,3,4,5,6,7,8,9,10,11,12,13],[0,1,2,3,4,5,6,7,8,9,10,11,12,13],[0,1,2,3,4,5,6,7,8,9,10,11,12,13,14,15],[0,1,2,3,4,5,6,7,8,9,10,11,12,13,14,15,16],[0,1,2,3,4,5,6,7,8,9,10,11,12,13],[0,1,2,3,4,5,6,7,8,9,10,11,12,13,14,15,16,17,18],[0,1,2,3,4,5,6,7,8,9,10,11,12,13],[0,1,2,3,4,5,6,7,8,9,10,11,12,13,14,15,16,17,18,19,20],[0,1,2,3,4,5,6,7,8,9,10,11,12,13,14,15,16,17,18,19,20,21]] (by kernel_rfl) (by kernel_rfl) (by kernel_rfl) (by rfl) (by rfl) (by kernel_rfl) ?_
              apply Exists.intro
              apply Exists.intro
              apply Exists.intro
              apply Exists.intro
              apply Exists.intro
              apply Exists.intro
              apply Exists.intro
              apply Exists.intro
              apply Exists.intro
              apply Exists.intro
              apply Exists.intro
              apply Exists.intro
              apply Exists.intro
              apply Exists.intro
              intro bs
              refine z_eM rfl rfl (xm_load (d := eTApiCong (⟨s75.2.2.1, s75.2.2.2.1, s75.2.2.2.2⟩ : TApiCong)) 0 htab rfl rfl rfl rfl rfl) rfl rfl rfl rfl rfl rfl ?_
              refine z_eM rfl rfl (xm_load (d := eTApiCong x124) 1 htab rfl rfl rfl rfl rfl) rfl rfl rfl rfl rfl rfl ?_
              refine z_call rfl rfl (r05_Leq_ok (⟨s75.2.2.1, s75.2.2.2.1, s75.2.2.2.2⟩ : TApiCong) x124 x134 q134) rfl rfl (WkL.refl _) rfl rfl rfl rfl rfl rfl ?_
              refine z_q rfl rfl (ex_pure htab rfl) rfl rfl rfl rfl rfl rfl ?_
              refine z_q rfl rfl (ex_pure htab rfl) rfl rfl rfl rfl rfl rfl ?_
              refine z_known (j := 24) (b' := false) rfl hs135 ?_
              refine z_e rfl rfl (ex_pure htab rfl) rfl rfl rfl rfl rfl rfl ?_
              refine z_q rfl rfl (ex_pure htab rfl) rfl rfl rfl rfl rfl rfl ?_
              refine z_e rfl rfl (x_elem htab rfl rfl rfl rfl rfl rfl rfl (idx_nonneg q136) (idx_map q136)) rfl rfl rfl rfl rfl rfl ?_
              refine z_eM rfl rfl (xm_loadEl (d := eTApiCong x136) htab rfl rfl rfl rfl rfl) rfl rfl rfl rfl rfl rfl ?_
              refine z_eM rfl rfl (xm_load (d := eTApiCong x124) 1 htab rfl rfl rfl rfl rfl) rfl rfl rfl rfl rfl rfl ?_
              refine z_call rfl rfl (r05_Leq_ok x136 x124 x137 q137) rfl rfl (WkL.refl _) rfl rfl rfl rfl rfl rfl ?_
              refine z_q rfl rfl (ex_pure htab rfl) rfl rfl rfl rfl rfl rfl ?_
              refine z_q rfl rfl (x_pickF rfl rfl rfl) rfl rfl rfl rfl rfl rfl ?_
              refine z_q rfl rfl (ex_pure htab rfl) rfl rfl rfl rfl rfl rfl ?_
              refine z_known (j := 33) (b' := false) rfl hs138 ?_
              refine z_e rfl rfl (ex_pure htab rfl) rfl rfl rfl rfl rfl rfl ?_
              refine z_q rfl rfl (ex_pure htab rfl) rfl rfl rfl rfl rfl rfl ?_
              refine z_e rfl rfl (x_elem htab rfl rfl rfl rfl rfl rfl rfl (idx_nonneg q139) (idx_map q139)) rfl rfl rfl rfl rfl rfl ?_
              refine z_eM rfl rfl (xm_loadEl (d := eTApiCong x139) htab rfl rfl rfl rfl rfl) rfl rfl rfl rfl rfl rfl ?_
              refine z_eM rfl rfl (xm_load (d := eTApiCong (⟨s75.2.2.1, s75.2.2.2.1, s75.2.2.2.2⟩ : TApiCong)) 0 htab rfl rfl rfl rfl rfl) rfl rfl rfl rfl rfl rfl ?_
              refine z_call rfl rfl (cong_Join_ok x139 (⟨s75.2.2.1, s75.2.2.2.1, s75.2.2.2.2⟩ : TApiCong) x140 q140) rfl rfl (WkL.refl _) rfl rfl rfl rfl rfl rfl ?_
              refine z_eM rfl rfl (xm_load (d := eTApiCong x124) 1 htab rfl rfl rfl rfl rfl) rfl rfl rfl rfl rfl rfl ?_
              refine z_nil rfl rfl (fun e he => by simp [isAl] at he) ?_
              refine p_eqS htab rfl rfl rfl rfl rfl eqt25 rfl rfl rfl rfl rfl ?_
              refine p_pickF rfl rfl rfl rfl rfl rfl ?_
              refine ops_nil ?_
              have e133 := yes_eq hm; subst e133
              refine ⟨rfl, ?_⟩
              exact WkX.of () (WkS.perm (WkS.cons rfl (Wk.refl _) (WkS.cons rfl (Wk.refl _) (WkS.cons rfl (Wk.refl _) (WkS.cons rfl (Wk.refl _) (WkS.cons rfl (Wk.refl _) (WkS.cons rfl (Wk.refl _) (WkS.nil))))))) (List.Perm.refl _) (List.Perm.refl _))
        · intro s133 hw133; clear hm; have hm := ho133; clear q133 ho133
          refine then_normal ?_
          refine wpD_wkX hw133 (fun z133 => ?_)
          refine wpD_cond rfl (fun hc141 => ?_) (fun hc141 => ?_)
          · replace hm := yes_t hc141 hm
            refine wpD_seq ?_
            refine wpD_region ?_
            refine p_pure htab rfl rfl rfl rfl ?_
            refine ops_nil ?_
            refine then_normal ?_
            refine wpD_ret ?_
            refine then_ret ?_
            refine block_ret ?_
            refine then_ret ?_
            have e75 := lp_done hm; subst e75; clear hm; have hm := hq75
            refine then_ret ?_
            refine block_ret ?_
            have e74 := yes_eq hm; subst e74; refine midX_inr ?_; clear hm; have hm := ho74; simp only [Sum.elim_inr] at hm
            refine then_ret ?_
            have er142 := yes_eq hm; subst er142
            refine retX.of (s' := ⟨[(2, .v (.bool false))], [], []⟩) (WkS.perm (WkS.cons rfl (Wk.refl _) (WkS.nil)) (List.Perm.refl _) (List.Perm.refl _)) (retD_mk (hh := []) (.inl rfl) (resL_cons (resOne_tmp rfl) (resL_nil)) (List.nil_sublist _) (List.Sublist.refl _) ?_)
            exact ⟨rfl, rfl, rfl⟩
          · replace hm := yes_f hc141 hm
            refine wpD_skip ?_
            refine then_normal ?_
            refine wpD_seq ?_
            refine wpD_seq ?_
            refine wpD_region ?_
            refine p_load (d := eTApiCong x124) 1 htab rfl rfl rfl rfl rfl rfl rfl rfl ?_
            refine p_load (d := eTApiCong (⟨s75.2.2.1, s75.2.2.2.1, s75.2.2.2.2⟩ : TApiCong)) 0 htab rfl rfl rfl rfl rfl rfl rfl rfl ?_
            refine p_eqS htab rfl rfl rfl rfl rfl eqt25 rfl rfl rfl rfl rfl ?_
            refine ops_nil ?_
            refine then_normal ?_
            obtain ⟨y144, q144, ho144⟩ := yes_bind hm
            refine wpD_mid (Y := Unit) (fun z144 => (⟨[(0, .lst 3 (a0.map eTApiCong) .no), (3, .ptr b1 0), (4, .v (.int .i64 y144)), (5, .v (.int .i64 s75.2.1)), (6, .ptr b125 0)], [(b1, Blk.cells [.v (.bool s75.2.2.1), .v (.int .i64 s75.2.2.2.1), .v (.int .i64 s75.2.2.2.2)] 25), (b125, Blk.cells [.v (.bool x124.gSome), .v (.int .i64 x124.gM), .v (.int .i64 x124.gR)] 25)], []⟩ : S)) ?_ ?_
            · clear hm; have hm := yes_of q144
              refine wpD_cond rfl (fun hc145 => ?_) (fun hc145 => ?_)
              · replace hm := yes_t hc145 hm
                refine wpD_region ?_
                refine p_pure htab rfl rfl rfl rfl ?_
                refine p_pure htab rfl rfl rfl rfl ?_
                refine p_pure htab rfl rfl rfl rfl ?_
                refine ops_nil ?_
                have e144 := yes_eq hm; subst e144
                refine ⟨rfl, ?_⟩
                exact WkX.of () (WkS.perm (WkS.cons rfl (Wk.refl _) (WkS.cons rfl (Wk.refl _) (WkS.cons rfl (Wk.refl _) (WkS.cons rfl (Wk.refl _) (WkS.cons rfl (Wk.refl _) (WkS.nil)))))) (List.Perm.refl _) (List.Perm.refl _))
              · replace hm := yes_f hc145 hm
                refine wpD_skip ?_
                have e144 := yes_eq hm; subst e144
                refine ⟨rfl, ?_⟩
                exact WkX.of () (WkS.perm (WkS.cons rfl (Wk.refl _) (WkS.cons rfl (Wk.refl _) (WkS.cons rfl (Wk.refl _) (WkS.cons rfl (Wk.refl _) (WkS.cons rfl (Wk.refl _) (WkS.nil)))))) (List.Perm.refl _) (List.Perm.refl _))
            · intro s144 hw144; clear hm; have hm := ho144; clear q144 ho144
              refine then_normal ?_
              refine wpD_wkX hw144 (fun z144 => ?_)
              refine wpD_region ?_
              refine p_load (d := eTApiCong x124) 1 htab rfl rfl rfl rfl rfl rfl rfl rfl ?_
              refine p_store (ds' := [.v (.bool x124.gSome), .v (.int .i64 x124.gM), .v (.int .i64 x124.gR)]) (h' := [(b1, Blk.cells [.v (.bool x124.gSome), .v (.int .i64 x124.gM), .v (.int .i64 x124.gR)] 25), (b125, Blk.cells [.v (.bool x124.gSome), .v (.int .i64 x124.gM), .v (.int .i64 x124.gR)] 25)]) 0 htab rfl rfl rfl rfl rfl rfl rfl rfl rfl rfl rfl rfl ?_
              refine ops_nil ?_
              refine block_normal ?_
              refine then_normal ?_
              refine wpD_region ?_
              refine p_pure htab rfl rfl rfl rfl ?_
              refine p_pure htab rfl rfl rfl rfl ?_
              refine p_pure htab rfl rfl rfl rfl ?_
              refine ops_nil ?_
              refine then_normal ⟨_, lp_next hm, ?_⟩
              exact WkX.of () (WkS.perm (WkS.cons rfl (Wk.refl _) (WkS.cons rfl (Wk.refl _) (WkS.cons rfl (Wk.refl _) (WkS.cons rfl (Wk.refl _) (WkS.nil))))) (List.Perm.refl _) (List.Perm.refl _))
      · replace hm := yes_f hc122 hm
        refine wpD_exit ?_
        refine then_exit ?_
        have e75 := lp_done hm; subst e75; clear hm; have hm := hq75
        refine then_exit ?_
        refine block_hit ?_
        have e74 := yes_eq hm; subst e74
        refine midX_inl ?_
        exact WkX.of () (WkS.perm (WkS.cons rfl (Wk.refl _) (WkS.nil)) (List.Perm.refl _) (List.Perm.refl _))
  · intro y74 s74 hx74 hw74; subst hx74; clear hm; have hm := ho74; simp only [Sum.elim_inl] at hm; clear q74 ho74
    refine then_normal ?_
    refine wpD_wkX hw74 (fun z74 => ?_)
    refine wpD_seq ?_
    refine wpD_region ?_
    refine p_pure htab rfl rfl rfl rfl ?_
    refine p_pure htab rfl rfl rfl rfl ?_
    refine p_pure htab rfl rfl rfl rfl ?_
    refine p_split (i := 51) rfl (fun hg146 => ?_) (fun hg146 => ?_)
    · replace hm := yes_t hg146 hm
      obtain ⟨x147, q147, hm⟩ := yes_bind hm
      refine p_call0 (l05_lives_ok  x147 q147) rfl rfl rfl rfl rfl (WkL.refl _) ?_
      rintro _ rfl
      refine p_pickT rfl rfl rfl rfl rfl rfl ?_
      refine p_pure htab rfl rfl rfl rfl ?_
      refine ops_nil ?_
      refine then_normal ?_
      refine wpD_ret ?_
      have er148 := yes_eq hm; subst er148
      refine retX.of (s' := ⟨[(2, .v (.bool x147))], [], []⟩) (WkS.perm (WkS.cons rfl (Wk.refl _) (WkS.nil)) (List.Perm.refl _) (List.Perm.refl _)) (retD_mk (hh := []) (.inl rfl) (resL_cons (resOne_tmp rfl) (resL_nil)) (List.nil_sublist _) (List.Sublist.refl _) ?_)
      exact ⟨rfl, rfl, rfl⟩
    · replace hm := yes_f hg146 hm
      refine p_skip rfl rfl rfl ?_
      refine p_pickF rfl rfl rfl rfl rfl rfl ?_
      refine p_pure htab rfl rfl rfl rfl ?_
      refine ops_nil ?_
      refine then_normal ?_
      refine wpD_ret ?_
      have er149 := yes_eq hm; subst er149
      refine retX.of (s' := ⟨[(2, .v (.bool false))], [], []⟩) (WkS.perm (WkS.cons rfl (Wk.refl _) (WkS.nil)) (List.Perm.refl _) (List.Perm.refl _)) (retD_mk (hh := []) (.inl rfl) (resL_cons (resOne_tmp rfl) (resL_nil)) (List.nil_sublist _) (List.Sublist.refl _) ?_)
      exact ⟨rfl, rfl, rfl⟩
end Go.Proofs.Ytcjgacmoemiifaa.Ab
