/- Layer 6: the law of soundness, as it is computed. -/
import Derived.Test.YtjbpfgknhpdkaaaRs2
import Derived.Test.YtjbpfgknhpdkaaaAb18
namespace Go.Proofs.Ytjbpfgknhpdkaaa.Ab
open Go
set_option linter.all false
noncomputable def l06_ResidueSound (a0 : TSondagelaw06Ints) : Option (Bool) :=
  (Option.bind (α := Bool) ((r05_Has a0.gC.gA a0.gX).bind fun x7 => (bif (!x7) then some true else ((r05_Has a0.gC.gB a0.gY).bind fun x9 => some (!x9)))) fun y6 => (bif y6 then (l06_lives.bind fun x13 => some x13) else ((r02_Do a0.gC.gOp a0.gX a0.gY).bind fun x15 => (Option.bind (α := Bool) (bif (x15.2 == (0 : Int)) then (bif a0.gTold then ((residue_Do a0.gC.gOp a0.gC.gA a0.gC.gB a0.gTold).bind fun x27 => ((r05_Has x27 x15.1).bind fun x28 => some (!x28))) else ((l06_wraps a0.gC.gOp a0.gX a0.gY).bind fun x29 => (bif (!x29) then ((residue_Do a0.gC.gOp a0.gC.gA a0.gC.gB a0.gTold).bind fun x31 => ((r05_Has x31 x15.1).bind fun x32 => some (!x32))) else some false))) else some false) fun y24 => (bif y24 then some false else ((r02_One a0.gC.gOp a0.gX).bind fun x36 => (bif (x36.2 != (0 : Int)) then (l06_lives.bind fun x38 => some x38) else (bif (!a0.gTold) then (bif (a0.gX == (-9223372036854775808 : Int)) then (l06_lives.bind fun x42 => some x42) else ((residue_One a0.gC.gOp a0.gC.gA a0.gTold).bind fun x44 => ((r05_Has x44 x36.1).bind fun x45 => (bif x45 then (l06_lives.bind fun x47 => some x47) else some false)))) else ((residue_One a0.gC.gOp a0.gC.gA a0.gTold).bind fun x50 => ((r05_Has x50 x36.1).bind fun x51 => (bif x51 then (l06_lives.bind fun x53 => some x53) else some false)))))))))))
set_option maxRecDepth 100000 in
set_option maxHeartbeats 2000000 in
theorem l06_ResidueSound_ok (a0 : TSondagelaw06Ints) (r : Bool) (h0 : l06_ResidueSound a0 = some r) : CallsD Try.prog 5 [eTSondagelaw06Ints a0] [] [] (fun d h k => d = .v (.bool r) ∧ h = [] ∧ k = []) := by
  have hm := yes_of h0
  unfold l06_ResidueSound at hm
  clear h0
  refine enterX htab Try.func5 rfl rfl rfl rfl rfl (fun C => ?_)
  refine wpD_seq ?_
  refine wpD_region ?_
  refine p_box rfl rfl rfl rfl rfl rfl rfl (fun b1 => ?_)
  refine p_pure htab rfl rfl rfl rfl ?_
  refine ops_nil ?_
  refine then_normal ?_
  refine wpD_seq ?_
  refine wpD_fills 12 [(8, [.v (.int .i64 (0 : Int)), .v (.bool false), .v (.int .i64 (0 : Int)), .v (.int .i64 (0 : Int)), .v (.bool false), .v (.int .i64 (0 : Int)), .v (.int .i64 (0 : Int))], 33)] [(8, 9, [.v (.int .i64 a0.gC.gOp), .v (.bool a0.gC.gA.gSome), .v (.int .i64 a0.gC.gA.gM), .v (.int .i64 a0.gC.gA.gR), .v (.bool a0.gC.gB.gSome), .v (.int .i64 a0.gC.gB.gM), .v (.int .i64 a0.gC.gB.gR)])] [[],[0],[],[2],[],[4],[],[6],[],[0,1,8],[0,1,2,8,9],[0,1,2,4,8,9]] [0,1,2,4,6,8,9] [[],[0],[],[2],[],[4],[],[6],[],[0,1,8],[0,1,2,3,8,9],[0,1,2,3,4,5,8,9,10],[0,1,2,3,4,5,6,7,8,9,10,11]] (by kernel_rfl) (by kernel_rfl) (by kernel_rfl) (by rfl) (by rfl) (by kernel_rfl) ?_
  apply Exists.intro
  apply Exists.intro
  apply Exists.intro
  apply Exists.intro
  apply Exists.intro
  refine ⟨.any, ?_⟩
  refine ⟨.any, ?_⟩
  intro bs
  refine zf_e rfl rfl (ex_pure htab rfl) rfl rfl rfl rfl rfl rfl rfl ?_
  refine zf_eM rfl rfl (xm_load (d := eTSondagelaw06Case a0.gC) 0 htab rfl rfl rfl rfl rfl) rfl rfl rfl rfl rfl rfl rfl ?_
  refine zf_e rfl rfl (ex_pure htab rfl) rfl rfl rfl rfl rfl rfl rfl ?_
  refine zf_qM rfl rfl (xm_load 0 htab rfl rfl rfl rfl rfl) rfl rfl rfl rfl rfl rfl ?_
  refine zf_e rfl rfl (ex_pure htab rfl) rfl rfl rfl rfl rfl rfl rfl ?_
  refine zf_qM rfl rfl (xm_load 0 htab rfl rfl rfl rfl rfl) rfl rfl rfl rfl rfl rfl ?_
  refine zf_e rfl rfl (ex_pure htab rfl) rfl rfl rfl rfl rfl rfl rfl ?_
  refine zf_qM rfl rfl (xm_load 0 htab rfl rfl rfl rfl rfl) rfl rfl rfl rfl rfl rfl ?_
  refine zf_alloc rfl htab rfl rfl rfl rfl rfl rfl rfl rfl rfl rfl (by simp [dOf, eI64]) (by simp) ?_
  refine zf_fill (e := 8) (zs := [.v (.int .i64 (0 : Int)), .v (.bool false), .v (.int .i64 (0 : Int)), .v (.int .i64 (0 : Int)), .v (.bool false), .v (.int .i64 (0 : Int)), .v (.int .i64 (0 : Int))]) (T' := 33) (ds' := [.v (.int .i64 a0.gC.gOp), .v (.bool a0.gC.gA.gSome), .v (.int .i64 a0.gC.gA.gM), .v (.int .i64 a0.gC.gA.gR), .v (.bool a0.gC.gB.gSome), .v (.int .i64 a0.gC.gB.gM), .v (.int .i64 a0.gC.gB.gR)]) htab rfl rfl rfl rfl rfl rfl rfl rfl rfl (by simp) (by simp) rfl rfl rfl rfl rfl rfl rfl rfl rfl ?_
  refine zf_q rfl rfl (ex_pure htab rfl) rfl rfl rfl rfl rfl rfl ?_
  refine zf_q rfl rfl (ex_pure htab rfl) rfl rfl rfl rfl rfl rfl ?_
  refine zf_nil (h' := [(b1, Blk.cells [.v (.int .i64 a0.gC.gOp), .v (.bool a0.gC.gA.gSome), .v (.int .i64 a0.gC.gA.gM), .v (.int .i64 a0.gC.gA.gR), .v (.bool a0.gC.gB.gSome), .v (.int .i64 a0.gC.gB.gM), .v (.int .i64 a0.gC.gB.gR), .v (.int .i64 a0.gX), .v (.int .i64 a0.gY), .v (.bool a0.gTold)] 35), (bs 8, Blk.cells [.v (.int .i64 a0.gC.gOp), .v (.bool a0.gC.gA.gSome), .v (.int .i64 a0.gC.gA.gM), .v (.int .i64 a0.gC.gA.gR), .v (.bool a0.gC.gB.gSome), .v (.int .i64 a0.gC.gB.gM), .v (.int .i64 a0.gC.gB.gR)] 33)]) rfl rfl rfl (fun e he => by simp [isAl] at he; subst he; rfl) ?_
  obtain ⟨b2, hb2⟩ : ∃ b, bs 8 = b := ⟨_, rfl⟩
  simp only [hb2]
  clear hb2
  refine p_pure htab rfl rfl rfl rfl ?_
  refine ops_nil ?_
  refine then_normal ?_
  refine wpD_seq ?_
  refine wpD_seq ?_
  obtain ⟨y6, q6, ho6⟩ := yes_bind hm
  refine wpD_mid (Y := Unit) (fun z6 => (⟨[(3, .ptr b2 0), (4, .v (.int .i64 a0.gX)), (5, .v (.int .i64 a0.gY)), (6, .v (.bool a0.gTold)), (30, .v (.bool y6))], [(b1, Blk.cells [.v (.int .i64 a0.gC.gOp), .v (.bool a0.gC.gA.gSome), .v (.int .i64 a0.gC.gA.gM), .v (.int .i64 a0.gC.gA.gR), .v (.bool a0.gC.gB.gSome), .v (.int .i64 a0.gC.gB.gM), .v (.int .i64 a0.gC.gB.gR), .v (.int .i64 a0.gX), .v (.int .i64 a0.gY), .v (.bool a0.gTold)] 35), (b2, Blk.cells [.v (.int .i64 a0.gC.gOp), .v (.bool a0.gC.gA.gSome), .v (.int .i64 a0.gC.gA.gM), .v (.int .i64 a0.gC.gA.gR), .v (.bool a0.gC.gB.gSome), .v (.int .i64 a0.gC.gB.gM), .v (.int .i64 a0.gC.gB.gR)] 33)], []⟩ : S)) ?_ ?_
  · clear hm; have hm := yes_of q6
    refine wpD_region ?_
    refine p_pure htab rfl rfl rfl rfl ?_
    refine p_load (d := eTApiCong a0.gC.gA) 1 htab rfl rfl rfl rfl rfl rfl rfl rfl ?_
    refine p_pure htab rfl rfl rfl rfl ?_
    obtain ⟨x7, q7, hm⟩ := yes_bind hm
    refine p_call0 (r05_Has_ok a0.gC.gA a0.gX x7 q7) rfl rfl rfl rfl rfl (WkL.refl _) ?_
    rintro _ rfl
    refine p_pure htab rfl rfl rfl rfl ?_
    refine p_pure htab rfl rfl rfl rfl ?_
    refine p_split (i := 24) rfl (fun hg8 => ?_) (fun hg8 => ?_)
    · replace hm := yes_t hg8 hm
      refine p_skip rfl rfl rfl ?_
      refine p_skip rfl rfl rfl ?_
      refine p_skip rfl rfl rfl ?_
      refine p_skip rfl rfl rfl ?_
      refine p_skip rfl rfl rfl ?_
      refine p_pickT rfl rfl rfl rfl rfl rfl ?_
      refine ops_nil ?_
      have e6 := yes_eq hm; subst e6
      refine ⟨rfl, ?_⟩
      exact WkX.of () (WkS.perm (WkS.cons rfl (Wk.refl _) (WkS.cons rfl (Wk.refl _) (WkS.cons rfl (Wk.refl _) (WkS.cons rfl (Wk.refl _) (WkS.cons rfl (Wk.refl _) (WkS.nil)))))) (List.Perm.refl _) (List.Perm.refl _))
    · replace hm := yes_f hg8 hm
      refine p_pure htab rfl rfl rfl rfl ?_
      refine p_load (d := eTApiCong a0.gC.gB) 1 htab rfl rfl rfl rfl rfl rfl rfl rfl ?_
      refine p_pure htab rfl rfl rfl rfl ?_
      obtain ⟨x9, q9, hm⟩ := yes_bind hm
      refine p_call0 (r05_Has_ok a0.gC.gB a0.gY x9 q9) rfl rfl rfl rfl rfl (WkL.refl _) ?_
      rintro _ rfl
      refine p_pure htab rfl rfl rfl rfl ?_
      refine p_pickF rfl rfl rfl rfl rfl rfl ?_
      refine ops_nil ?_
      have e6 := yes_eq hm; subst e6
      refine ⟨rfl, ?_⟩
      exact WkX.of () (WkS.perm (WkS.cons rfl (Wk.refl _) (WkS.cons rfl (Wk.refl _) (WkS.cons rfl (Wk.refl _) (WkS.cons rfl (Wk.refl _) (WkS.cons rfl (Wk.refl _) (WkS.nil)))))) (List.Perm.refl _) (List.Perm.refl _))
  · intro s6 hw6; clear hm; have hm := ho6; clear q6 ho6
    refine then_normal ?_
    refine wpD_wkX hw6 (fun z6 => ?_)
    refine wpD_cond rfl (fun hc12 => ?_) (fun hc12 => ?_)
    · replace hm := yes_t hc12 hm
      refine wpD_seq ?_
      refine wpD_region ?_
      obtain ⟨x13, q13, hm⟩ := yes_bind hm
      refine p_call0 (l06_lives_ok  x13 q13) rfl rfl rfl rfl rfl (WkL.refl _) ?_
      rintro _ rfl
      refine p_pure htab rfl rfl rfl rfl ?_
      refine ops_nil ?_
      refine then_normal ?_
      refine wpD_ret ?_
      refine then_ret ?_
      have er14 := yes_eq hm; subst er14
      refine retX.of (s' := ⟨[(2, .v (.bool x13))], [], []⟩) (WkS.perm (WkS.cons rfl (Wk.refl _) (WkS.nil)) (List.Perm.refl _) (List.Perm.refl _)) (retD_mk (hh := []) (.inl rfl) (resL_cons (resOne_tmp rfl) (resL_nil)) (List.nil_sublist _) (List.Sublist.refl _) ?_)
      exact ⟨rfl, rfl, rfl⟩
    · replace hm := yes_f hc12 hm
      refine wpD_skip ?_
      refine then_normal ?_
      refine wpD_seq ?_
      refine wpD_region ?_
      refine p_pure htab rfl rfl rfl rfl ?_
      refine p_load 1 htab rfl rfl rfl rfl rfl rfl rfl rfl ?_
      refine p_pure htab rfl rfl rfl rfl ?_
      refine p_pure htab rfl rfl rfl rfl ?_
      obtain ⟨x15, q15, hm⟩ := yes_bind hm
      refine p_call0 (r02_Do_ok a0.gC.gOp a0.gX a0.gY x15 q15) rfl rfl rfl rfl rfl (WkL.refl _) ?_
      rintro _ rfl
      refine p_pure htab rfl rfl rfl rfl ?_
      refine p_pure htab rfl rfl rfl rfl ?_
      refine p_pure htab rfl rfl rfl rfl ?_
      refine p_pure htab rfl rfl rfl rfl ?_
      refine p_pure htab rfl rfl rfl rfl ?_
      refine ops_nil ?_
      refine then_normal ?_
      refine wpD_seq ?_
      refine wpD_seq ?_
      obtain ⟨y24, q24, ho24⟩ := yes_bind hm
      refine wpD_mid (Y := Unit) (fun z24 => (⟨[(3, .ptr b2 0), (4, .v (.int .i64 a0.gX)), (6, .v (.bool a0.gTold)), (65, .v (.bool y24))], [(b1, Blk.cells [.v (.int .i64 a0.gC.gOp), .v (.bool a0.gC.gA.gSome), .v (.int .i64 a0.gC.gA.gM), .v (.int .i64 a0.gC.gA.gR), .v (.bool a0.gC.gB.gSome), .v (.int .i64 a0.gC.gB.gM), .v (.int .i64 a0.gC.gB.gR), .v (.int .i64 a0.gX), .v (.int .i64 a0.gY), .v (.bool a0.gTold)] 35), (b2, Blk.cells [.v (.int .i64 a0.gC.gOp), .v (.bool a0.gC.gA.gSome), .v (.int .i64 a0.gC.gA.gM), .v (.int .i64 a0.gC.gA.gR), .v (.bool a0.gC.gB.gSome), .v (.int .i64 a0.gC.gB.gM), .v (.int .i64 a0.gC.gB.gR)] 33)], []⟩ : S)) ?_ ?_
      · clear hm; have hm := yes_of q24
        refine wpD_region ?_
        refine p_pure htab rfl rfl rfl rfl ?_
        refine p_pure htab rfl rfl rfl rfl ?_
        refine p_pure htab rfl rfl rfl rfl ?_
        refine p_split (i := 42) rfl (fun hg25 => ?_) (fun hg25 => ?_)
        · replace hm := yes_t hg25 hm
          refine p_pure htab rfl rfl rfl rfl ?_
          refine p_pure htab rfl rfl rfl rfl ?_
          refine p_split (i := 44) rfl (fun hg26 => ?_) (fun hg26 => ?_)
          · replace hm := yes_t hg26 hm
            refine p_skip rfl rfl rfl ?_
            refine p_skip rfl rfl rfl ?_
            refine p_skip rfl rfl rfl ?_
            refine p_skip rfl rfl rfl ?_
            refine p_skip rfl rfl rfl ?_
            refine p_skip rfl rfl rfl ?_
            refine p_pickT rfl rfl rfl rfl rfl rfl ?_
            refine p_pickT rfl rfl rfl rfl rfl rfl ?_
            refine p_pure htab rfl rfl rfl rfl ?_
            refine p_pure htab rfl rfl rfl rfl ?_
            refine p_load 1 htab rfl rfl rfl rfl rfl rfl rfl rfl ?_
            refine p_pure htab rfl rfl rfl rfl ?_
            refine p_load (d := eTApiCong a0.gC.gA) 1 htab rfl rfl rfl rfl rfl rfl rfl rfl ?_
            refine p_pure htab rfl rfl rfl rfl ?_
            refine p_load (d := eTApiCong a0.gC.gB) 1 htab rfl rfl rfl rfl rfl rfl rfl rfl ?_
            refine p_pure htab rfl rfl rfl rfl ?_
            obtain ⟨x27, q27, hm⟩ := yes_bind hm
            refine p_call0 (residue_Do_ok a0.gC.gOp a0.gC.gA a0.gC.gB a0.gTold x27 q27) rfl rfl rfl rfl rfl (WkL.refl _) ?_
            rintro _ rfl
            refine p_pure htab rfl rfl rfl rfl ?_
            obtain ⟨x28, q28, hm⟩ := yes_bind hm
            refine p_call0 (r05_Has_ok x27 x15.1 x28 q28) rfl rfl rfl rfl rfl (WkL.refl _) ?_
            rintro _ rfl
            refine p_pure htab rfl rfl rfl rfl ?_
            refine p_pickT rfl rfl rfl rfl rfl rfl ?_
            refine ops_nil ?_
            have e24 := yes_eq hm; subst e24
            refine ⟨rfl, ?_⟩
            exact WkX.of () (WkS.perm (WkS.cons rfl (Wk.refl _) (WkS.cons rfl (Wk.refl _) (WkS.cons rfl (Wk.refl _) (WkS.cons rfl (Wk.refl _) (WkS.nil))))) (List.Perm.refl _) (List.Perm.refl _))
          · replace hm := yes_f hg26 hm
            refine p_pure htab rfl rfl rfl rfl ?_
            refine p_load 1 htab rfl rfl rfl rfl rfl rfl rfl rfl ?_
            refine p_pure htab rfl rfl rfl rfl ?_
            refine p_pure htab rfl rfl rfl rfl ?_
            obtain ⟨x29, q29, hm⟩ := yes_bind hm
            refine p_call0 (l06_wraps_ok a0.gC.gOp a0.gX a0.gY x29 q29) rfl rfl rfl rfl rfl (WkL.refl _) ?_
            rintro _ rfl
            refine p_pure htab rfl rfl rfl rfl ?_
            refine p_pickF rfl rfl rfl rfl rfl rfl ?_
            refine p_pickT rfl rfl rfl rfl rfl rfl ?_
            refine p_pure htab rfl rfl rfl rfl ?_
            refine p_split (i := 53) rfl (fun hg30 => ?_) (fun hg30 => ?_)
            · replace hm := yes_t hg30 hm
              refine p_pure htab rfl rfl rfl rfl ?_
              refine p_load 1 htab rfl rfl rfl rfl rfl rfl rfl rfl ?_
              refine p_pure htab rfl rfl rfl rfl ?_
              refine p_load (d := eTApiCong a0.gC.gA) 1 htab rfl rfl rfl rfl rfl rfl rfl rfl ?_
              refine p_pure htab rfl rfl rfl rfl ?_
              refine p_load (d := eTApiCong a0.gC.gB) 1 htab rfl rfl rfl rfl rfl rfl rfl rfl ?_
              refine p_pure htab rfl rfl rfl rfl ?_
              obtain ⟨x31, q31, hm⟩ := yes_bind hm
              refine p_call0 (residue_Do_ok a0.gC.gOp a0.gC.gA a0.gC.gB a0.gTold x31 q31) rfl rfl rfl rfl rfl (WkL.refl _) ?_
              rintro _ rfl
              refine p_pure htab rfl rfl rfl rfl ?_
              obtain ⟨x32, q32, hm⟩ := yes_bind hm
              refine p_call0 (r05_Has_ok x31 x15.1 x32 q32) rfl rfl rfl rfl rfl (WkL.refl _) ?_
              rintro _ rfl
              refine p_pure htab rfl rfl rfl rfl ?_
              refine p_pickT rfl rfl rfl rfl rfl rfl ?_
              refine ops_nil ?_
              have e24 := yes_eq hm; subst e24
              refine ⟨rfl, ?_⟩
              exact WkX.of () (WkS.perm (WkS.cons rfl (Wk.refl _) (WkS.cons rfl (Wk.refl _) (WkS.cons rfl (Wk.refl _) (WkS.cons rfl (Wk.refl _) (WkS.nil))))) (List.Perm.refl _) (List.Perm.refl _))
            · replace hm := yes_f hg30 hm
              refine p_skip rfl rfl rfl ?_
              refine p_skip rfl rfl rfl ?_
              refine p_skip rfl rfl rfl ?_
              refine p_skip rfl rfl rfl ?_
              refine p_skip rfl rfl rfl ?_
              refine p_skip rfl rfl rfl ?_
              refine p_skip rfl rfl rfl ?_
              refine p_skip rfl rfl rfl ?_
              refine p_skip rfl rfl rfl ?_
              refine p_skip rfl rfl rfl ?_
              refine p_skip rfl rfl rfl ?_
              refine p_pickF rfl rfl rfl rfl rfl rfl ?_
              refine ops_nil ?_
              have e24 := yes_eq hm; subst e24
              refine ⟨rfl, ?_⟩
              exact WkX.of () (WkS.perm (WkS.cons rfl (Wk.refl _) (WkS.cons rfl (Wk.refl _) (WkS.cons rfl (Wk.refl _) (WkS.cons rfl (Wk.refl _) (WkS.nil))))) (List.Perm.refl _) (List.Perm.refl _))
        · replace hm := yes_f hg25 hm
          refine p_skip rfl rfl rfl ?_
          refine p_skip rfl rfl rfl ?_
          refine p_skip rfl rfl rfl ?_
          refine p_skip rfl rfl rfl ?_
          refine p_skip rfl rfl rfl ?_
          refine p_skip rfl rfl rfl ?_
          refine p_skip rfl rfl rfl ?_
          refine p_skip rfl rfl rfl ?_
          refine p_skip rfl rfl rfl ?_
          refine p_pickF rfl rfl rfl rfl rfl rfl ?_
          refine p_pure htab rfl rfl rfl rfl ?_
          refine p_skip rfl rfl rfl ?_
          refine p_skip rfl rfl rfl ?_
          refine p_skip rfl rfl rfl ?_
          refine p_skip rfl rfl rfl ?_
          refine p_skip rfl rfl rfl ?_
          refine p_skip rfl rfl rfl ?_
          refine p_skip rfl rfl rfl ?_
          refine p_skip rfl rfl rfl ?_
          refine p_skip rfl rfl rfl ?_
          refine p_skip rfl rfl rfl ?_
          refine p_skip rfl rfl rfl ?_
          refine p_pickF rfl rfl rfl rfl rfl rfl ?_
          refine ops_nil ?_
          have e24 := yes_eq hm; subst e24
          refine ⟨rfl, ?_⟩
          exact WkX.of () (WkS.perm (WkS.cons rfl (Wk.refl _) (WkS.cons rfl (Wk.refl _) (WkS.cons rfl (Wk.refl _) (WkS.cons rfl (Wk.refl _) (WkS.nil))))) (List.Perm.refl _) (List.Perm.refl _))
      · intro s24 hw24; clear hm; have hm := ho24; clear q24 ho24
        refine then_normal ?_
        refine wpD_wkX hw24 (fun z24 => ?_)
        refine wpD_cond rfl (fun hc34 => ?_) (fun hc34 => ?_)
        · replace hm := yes_t hc34 hm
          refine wpD_seq ?_
          refine wpD_region ?_
          refine p_pure htab rfl rfl rfl rfl ?_
          refine ops_nil ?_
          refine then_normal ?_
          refine wpD_ret ?_
          refine then_ret ?_
          have er35 := yes_eq hm; subst er35
          refine retX.of (s' := ⟨[(2, .v (.bool false))], [], []⟩) (WkS.perm (WkS.cons rfl (Wk.refl _) (WkS.nil)) (List.Perm.refl _) (List.Perm.refl _)) (retD_mk (hh := []) (.inl rfl) (resL_cons (resOne_tmp rfl) (resL_nil)) (List.nil_sublist _) (List.Sublist.refl _) ?_)
          exact ⟨rfl, rfl, rfl⟩
        · replace hm := yes_f hc34 hm
          refine wpD_skip ?_
          refine then_normal ?_
          refine wpD_seq ?_
          refine wpD_region ?_
          refine p_pure htab rfl rfl rfl rfl ?_
          refine p_load 1 htab rfl rfl rfl rfl rfl rfl rfl rfl ?_
          refine p_pure htab rfl rfl rfl rfl ?_
          obtain ⟨x36, q36, hm⟩ := yes_bind hm
          refine p_call0 (r02_One_ok a0.gC.gOp a0.gX x36 q36) rfl rfl rfl rfl rfl (WkL.refl _) ?_
          rintro _ rfl
          refine p_pure htab rfl rfl rfl rfl ?_
          refine p_pure htab rfl rfl rfl rfl ?_
          refine p_pure htab rfl rfl rfl rfl ?_
          refine p_pure htab rfl rfl rfl rfl ?_
          refine p_pure htab rfl rfl rfl rfl ?_
          refine ops_nil ?_
          refine then_normal ?_
          refine wpD_seq ?_
          refine wpD_region ?_
          refine p_pure htab rfl rfl rfl rfl ?_
          refine p_pure htab rfl rfl rfl rfl ?_
          refine p_pure htab rfl rfl rfl rfl ?_
          refine p_split (i := 75) rfl (fun hg37 => ?_) (fun hg37 => ?_)
          · replace hm := yes_t hg37 hm
            refine p_skip rfl rfl rfl ?_
            refine p_skip rfl rfl rfl ?_
            refine p_skip rfl rfl rfl ?_
            refine p_skip rfl rfl rfl ?_
            refine p_skip rfl rfl rfl ?_
            refine p_skip rfl rfl rfl ?_
            refine p_pickT rfl rfl rfl rfl rfl rfl ?_
            refine p_pure htab rfl rfl rfl rfl ?_
            refine p_skip rfl rfl rfl ?_
            refine p_skip rfl rfl rfl ?_
            refine p_skip rfl rfl rfl ?_
            refine p_skip rfl rfl rfl ?_
            refine p_skip rfl rfl rfl ?_
            refine p_skip rfl rfl rfl ?_
            refine p_skip rfl rfl rfl ?_
            refine p_skip rfl rfl rfl ?_
            refine p_pickT rfl rfl rfl rfl rfl rfl ?_
            refine p_pure htab rfl rfl rfl rfl ?_
            obtain ⟨x38, q38, hm⟩ := yes_bind hm
            refine p_call0 (l06_lives_ok  x38 q38) rfl rfl rfl rfl rfl (WkL.refl _) ?_
            rintro _ rfl
            refine p_pickT rfl rfl rfl rfl rfl rfl ?_
            refine p_pure htab rfl rfl rfl rfl ?_
            refine ops_nil ?_
            refine then_normal ?_
            refine wpD_ret ?_
            have er39 := yes_eq hm; subst er39
            refine retX.of (s' := ⟨[(2, .v (.bool x38))], [], []⟩) (WkS.perm (WkS.cons rfl (Wk.refl _) (WkS.nil)) (List.Perm.refl _) (List.Perm.refl _)) (retD_mk (hh := []) (.inl rfl) (resL_cons (resOne_tmp rfl) (resL_nil)) (List.nil_sublist _) (List.Sublist.refl _) ?_)
            exact ⟨rfl, rfl, rfl⟩
          · replace hm := yes_f hg37 hm
            refine p_pure htab rfl rfl rfl rfl ?_
            refine p_pure htab rfl rfl rfl rfl ?_
            refine p_pure htab rfl rfl rfl rfl ?_
            refine p_split (i := 78) rfl (fun hg40 => ?_) (fun hg40 => ?_)
            · replace hm := yes_t hg40 hm
              refine p_pure htab rfl rfl rfl rfl ?_
              refine p_pure htab rfl rfl rfl rfl ?_
              refine p_pickT rfl rfl rfl rfl rfl rfl ?_
              refine p_pickF rfl rfl rfl rfl rfl rfl ?_
              refine p_pure htab rfl rfl rfl rfl ?_
              refine p_split (i := 83) rfl (fun hg41 => ?_) (fun hg41 => ?_)
              · replace hm := yes_t hg41 hm
                refine p_skip rfl rfl rfl ?_
                refine p_skip rfl rfl rfl ?_
                refine p_skip rfl rfl rfl ?_
                refine p_skip rfl rfl rfl ?_
                refine p_skip rfl rfl rfl ?_
                refine p_skip rfl rfl rfl ?_
                refine p_skip rfl rfl rfl ?_
                refine p_skip rfl rfl rfl ?_
                refine p_pickT rfl rfl rfl rfl rfl rfl ?_
                refine p_pure htab rfl rfl rfl rfl ?_
                obtain ⟨x42, q42, hm⟩ := yes_bind hm
                refine p_call0 (l06_lives_ok  x42 q42) rfl rfl rfl rfl rfl (WkL.refl _) ?_
                rintro _ rfl
                refine p_pickT rfl rfl rfl rfl rfl rfl ?_
                refine p_pure htab rfl rfl rfl rfl ?_
                refine ops_nil ?_
                refine then_normal ?_
                refine wpD_ret ?_
                have er43 := yes_eq hm; subst er43
                refine retX.of (s' := ⟨[(2, .v (.bool x42))], [], []⟩) (WkS.perm (WkS.cons rfl (Wk.refl _) (WkS.nil)) (List.Perm.refl _) (List.Perm.refl _)) (retD_mk (hh := []) (.inl rfl) (resL_cons (resOne_tmp rfl) (resL_nil)) (List.nil_sublist _) (List.Sublist.refl _) ?_)
                exact ⟨rfl, rfl, rfl⟩
              · replace hm := yes_f hg41 hm
                refine p_pure htab rfl rfl rfl rfl ?_
                refine p_load 1 htab rfl rfl rfl rfl rfl rfl rfl rfl ?_
                refine p_pure htab rfl rfl rfl rfl ?_
                refine p_load (d := eTApiCong a0.gC.gA) 1 htab rfl rfl rfl rfl rfl rfl rfl rfl ?_
                refine p_pure htab rfl rfl rfl rfl ?_
                obtain ⟨x44, q44, hm⟩ := yes_bind hm
                refine p_call0 (residue_One_ok a0.gC.gOp a0.gC.gA a0.gTold x44 q44) rfl rfl rfl rfl rfl (WkL.refl _) ?_
                rintro _ rfl
                refine p_pure htab rfl rfl rfl rfl ?_
                obtain ⟨x45, q45, hm⟩ := yes_bind hm
                refine p_call0 (r05_Has_ok x44 x36.1 x45 q45) rfl rfl rfl rfl rfl (WkL.refl _) ?_
                rintro _ rfl
                refine p_pickF rfl rfl rfl rfl rfl rfl ?_
                refine p_pure htab rfl rfl rfl rfl ?_
                refine p_split (i := 93) rfl (fun hg46 => ?_) (fun hg46 => ?_)
                · replace hm := yes_t hg46 hm
                  obtain ⟨x47, q47, hm⟩ := yes_bind hm
                  refine p_call0 (l06_lives_ok  x47 q47) rfl rfl rfl rfl rfl (WkL.refl _) ?_
                  rintro _ rfl
                  refine p_pickT rfl rfl rfl rfl rfl rfl ?_
                  refine p_pure htab rfl rfl rfl rfl ?_
                  refine ops_nil ?_
                  refine then_normal ?_
                  refine wpD_ret ?_
                  have er48 := yes_eq hm; subst er48
                  refine retX.of (s' := ⟨[(2, .v (.bool x47))], [], []⟩) (WkS.perm (WkS.cons rfl (Wk.refl _) (WkS.nil)) (List.Perm.refl _) (List.Perm.refl _)) (retD_mk (hh := []) (.inl rfl) (resL_cons (resOne_tmp rfl) (resL_nil)) (List.nil_sublist _) (List.Sublist.refl _) ?_)
                  exact ⟨rfl, rfl, rfl⟩
                · replace hm := yes_f hg46 hm
                  refine p_skip rfl rfl rfl ?_
                  refine p_pickF rfl rfl rfl rfl rfl rfl ?_
                  refine p_pure htab rfl rfl rfl rfl ?_
                  refine ops_nil ?_
                  refine then_normal ?_
                  refine wpD_ret ?_
                  have er49 := yes_eq hm; subst er49
                  refine retX.of (s' := ⟨[(2, .v (.bool false))], [], []⟩) (WkS.perm (WkS.cons rfl (Wk.refl _) (WkS.nil)) (List.Perm.refl _) (List.Perm.refl _)) (retD_mk (hh := []) (.inl rfl) (resL_cons (resOne_tmp rfl) (resL_nil)) (List.nil_sublist _) (List.Sublist.refl _) ?_)
                  exact ⟨rfl, rfl, rfl⟩
            · replace hm := yes_f hg40 hm
              refine p_skip rfl rfl rfl ?_
              refine p_skip rfl rfl rfl ?_
              refine p_pickF rfl rfl rfl rfl rfl rfl ?_
              refine p_pickF rfl rfl rfl rfl rfl rfl ?_
              refine p_pure htab rfl rfl rfl rfl ?_
              refine p_pure htab rfl rfl rfl rfl ?_
              refine p_load 1 htab rfl rfl rfl rfl rfl rfl rfl rfl ?_
              refine p_pure htab rfl rfl rfl rfl ?_
              refine p_load (d := eTApiCong a0.gC.gA) 1 htab rfl rfl rfl rfl rfl rfl rfl rfl ?_
              refine p_pure htab rfl rfl rfl rfl ?_
              obtain ⟨x50, q50, hm⟩ := yes_bind hm
              refine p_call0 (residue_One_ok a0.gC.gOp a0.gC.gA a0.gTold x50 q50) rfl rfl rfl rfl rfl (WkL.refl _) ?_
              rintro _ rfl
              refine p_pure htab rfl rfl rfl rfl ?_
              obtain ⟨x51, q51, hm⟩ := yes_bind hm
              refine p_call0 (r05_Has_ok x50 x36.1 x51 q51) rfl rfl rfl rfl rfl (WkL.refl _) ?_
              rintro _ rfl
              refine p_pickF rfl rfl rfl rfl rfl rfl ?_
              refine p_pure htab rfl rfl rfl rfl ?_
              refine p_split (i := 93) rfl (fun hg52 => ?_) (fun hg52 => ?_)
              · replace hm := yes_t hg52 hm
                obtain ⟨x53, q53, hm⟩ := yes_bind hm
                refine p_call0 (l06_lives_ok  x53 q53) rfl rfl rfl rfl rfl (WkL.refl _) ?_
                rintro _ rfl
                refine p_pickT rfl rfl rfl rfl rfl rfl ?_
                refine p_pure htab rfl rfl rfl rfl ?_
                refine ops_nil ?_
                refine then_normal ?_
                refine wpD_ret ?_
                have er54 := yes_eq hm; subst er54
                refine retX.of (s' := ⟨[(2, .v (.bool x53))], [], []⟩) (WkS.perm (WkS.cons rfl (Wk.refl _) (WkS.nil)) (List.Perm.refl _) (List.Perm.refl _)) (retD_mk (hh := []) (.inl rfl) (resL_cons (resOne_tmp rfl) (resL_nil)) (List.nil_sublist _) (List.Sublist.refl _) ?_)
                exact ⟨rfl, rfl, rfl⟩
              · replace hm := yes_f hg52 hm
                refine p_skip rfl rfl rfl ?_
                refine p_pickF rfl rfl rfl rfl rfl rfl ?_
                refine p_pure htab rfl rfl rfl rfl ?_
                refine ops_nil ?_
                refine then_normal ?_
                refine wpD_ret ?_
                have er55 := yes_eq hm; subst er55
                refine retX.of (s' := ⟨[(2, .v (.bool false))], [], []⟩) (WkS.perm (WkS.cons rfl (Wk.refl _) (WkS.nil)) (List.Perm.refl _) (List.Perm.refl _)) (retD_mk (hh := []) (.inl rfl) (resL_cons (resOne_tmp rfl) (resL_nil)) (List.nil_sublist _) (List.Sublist.refl _) ?_)
                exact ⟨rfl, rfl, rfl⟩
end Go.Proofs.Ytjbpfgknhpdkaaa.Ab
