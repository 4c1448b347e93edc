/- Layer 5, the laws, on. -/
import Derived.Test.YtcjgacmoemiifaaCg3
namespace Go.Proofs.Ytcjgacmoemiifaa.Ab
open Go
set_option linter.all false
noncomputable def l05_CongMeets (a0 : TApiCong) (a1 : TApiCong) (a2 : Int) : Option (Bool) :=
  ((cong_Meet a0 a1).bind fun x3 => ((r05_Clean a0).bind fun x5 => ((r05_Clean a1).bind fun x6 => (Option.bind (α := Bool) ((r05_Has a0 a2).bind fun x13 => (bif x13 then ((r05_Has a1 a2).bind fun x15 => some x15) else some false)) fun y12 => (Option.bind (α := Bool) (bif y12 then ((r05_Has x3 a2).bind fun x31 => (bif (!x31) then some true else ((r05_Clean x3).bind fun x33 => (bif (!(x3.gSome == x33.gSome && (x3.gM == x33.gM && (x3.gR == x33.gR && true)))) then some true else ((r05_Leq x3 a0).bind fun x35 => (bif (!x35) then ((r05_Leq x3 a1).bind fun x37 => some (!x37)) else some false)))))) else ((r05_Clean x3).bind fun x38 => (bif (!(x3.gSome == x38.gSome && (x3.gM == x38.gM && (x3.gR == x38.gR && true)))) then some true else ((r05_Leq x3 a0).bind fun x40 => (bif (!x40) then ((r05_Leq x3 a1).bind fun x42 => some (!x42)) else some false))))) fun y29 => (bif y29 then some false else (Option.bind (α := Bool) (bif (decide ((0 : Int) < x5.gM)) then some (decide ((0 : Int) < x6.gM)) else some false) fun y47 => (Option.bind (α := Bool) (bif y47 then ((r05_Gcd (IntKind.u64.wrap x5.gM) (IntKind.u64.wrap x6.gM)).bind fun x56 => ((need ((IntKind.i64.wrap x56) != 0)).bind fun x57 => ((need (pII x5.gM (IntKind.i64.wrap (x6.gM.tdiv (IntKind.i64.wrap x56))))).bind fun x58 => ((r01_Int (rMul x5.gM (IntKind.i64.wrap (x6.gM.tdiv (IntKind.i64.wrap x56))))).bind fun x59 => some x59.2)))) else some true) fun y54 => (bif (!y54) then (Option.bind (α := Bool) (bif (x3.gSome == x5.gSome && (x3.gM == x5.gM && (x3.gR == x5.gR && true))) then (l05_lives.bind fun x76 => some x76) else (bif (x3.gSome == x6.gSome && (x3.gM == x6.gM && (x3.gR == x6.gR && true))) then (l05_lives.bind fun x78 => some x78) else (bif (!x3.gSome) then (l05_lives.bind fun x80 => some x80) else some false))) fun y74 => some y74) else ((r05_Leq x3 a0).bind fun x82 => (bif x82 then ((r05_Leq x3 a1).bind fun x84 => (bif x84 then ((r05_Has x3 a2).bind fun x86 => (bif (x86 == y12) then (l05_lives.bind fun x88 => some x88) else some false)) else some false)) else some false)))))))))))
set_option maxRecDepth 100000 in
set_option maxHeartbeats 2000000 in
theorem l05_CongMeets_ok (a0 : TApiCong) (a1 : TApiCong) (a2 : Int) (r : Bool) (h0 : l05_CongMeets a0 a1 a2 = some r) : CallsD Try.prog 4 [eTApiCong a0, eTApiCong a1, .v (.int .i64 a2)] [] [] (fun d h k => d = .v (.bool r) ∧ h = [] ∧ k = []) := by
  have hm := yes_of h0
  unfold l05_CongMeets at hm
  clear h0
  refine enterX htab Try.func4 rfl rfl rfl rfl rfl (fun C => ?_)
  refine wpD_seq ?_
  refine wpD_region ?_
  refine p_box rfl rfl rfl rfl rfl rfl rfl (fun b1 => ?_)
  refine p_box rfl rfl rfl rfl rfl rfl rfl (fun b2 => ?_)
  refine p_pure htab rfl rfl rfl rfl ?_
  refine ops_nil ?_
  refine then_normal ?_
  refine wpD_seq ?_
  refine wpD_region ?_
  refine p_load (d := eTApiCong a0) 0 htab rfl rfl rfl rfl rfl rfl rfl rfl ?_
  refine p_load (d := eTApiCong a1) 1 htab rfl rfl rfl rfl rfl rfl rfl rfl ?_
  obtain ⟨x3, q3, hm⟩ := yes_bind hm
  refine p_call0 (cong_Meet_ok a0 a1 x3 q3) rfl rfl rfl rfl rfl (WkL.refl _) ?_
  rintro _ rfl
  refine p_alloc htab rfl rfl rfl rfl rfl rfl rfl (fun b4 => ?_)
  refine p_store (ds' := [.v (.bool x3.gSome), .v (.int .i64 x3.gM), .v (.int .i64 x3.gR)]) (h' := [(b1, Blk.cells [.v (.bool a0.gSome), .v (.int .i64 a0.gM), .v (.int .i64 a0.gR)] 25), (b2, Blk.cells [.v (.bool a1.gSome), .v (.int .i64 a1.gM), .v (.int .i64 a1.gR)] 25), (b4, Blk.cells [.v (.bool x3.gSome), .v (.int .i64 x3.gM), .v (.int .i64 x3.gR)] 25)]) 2 htab rfl rfl rfl rfl rfl rfl rfl rfl rfl rfl rfl rfl ?_
  refine ops_nil ?_
  refine then_normal ?_
  refine wpD_seq ?_
  obtain ⟨x5, q5, hm⟩ := yes_bind hm
  obtain ⟨x6, q6, hm⟩ := yes_bind hm
  refine wpD_draws 6 [(4, [.v (.bool false), .v (.int .i64 (0 : Int)), .v (.int .i64 (0 : Int))], 25), (5, [.v (.bool false), .v (.int .i64 (0 : Int)), .v (.int .i64 (0 : Int))], 25)] [[],[0],[],[0,1,2],[],[]] [0,1,2,3,4,5] [[],[0],[],[0,1,2],[],[],[0,1,2,3,4,5],[0,1,2,3,4,5,6]] (by kernel_rfl) (by kernel_rfl) (by kernel_rfl) (by rfl) (by rfl) (by kernel_rfl) ?_
  apply Exists.intro
  apply Exists.intro
  apply Exists.intro
  apply Exists.intro
  refine ⟨.any, ?_⟩
  refine ⟨.any, ?_⟩
  intro bs
  refine z_eM rfl rfl (xm_load (d := eTApiCong a0) 0 htab rfl rfl rfl rfl rfl) rfl rfl rfl rfl rfl rfl ?_
  refine z_call rfl rfl (r05_Clean_ok a0 x5 q5) rfl rfl (WkL.refl _) rfl rfl rfl rfl rfl rfl ?_
  refine z_eM rfl rfl (xm_load (d := eTApiCong a1) 1 htab rfl rfl rfl rfl rfl) rfl rfl rfl rfl rfl rfl ?_
  refine z_call rfl rfl (r05_Clean_ok a1 x6 q6) rfl rfl (WkL.refl _) rfl rfl rfl rfl rfl rfl ?_
  refine z_alloc rfl htab rfl rfl rfl rfl rfl rfl rfl rfl (by simp [dOf, eI64]) (by simp) ?_
  refine z_alloc rfl htab rfl rfl rfl rfl rfl rfl rfl rfl (by simp [dOf, eI64]) (by simp) ?_
  refine z_nil rfl (by simp only [List.map_cons, List.map_nil]; exact rfl) (fun e he => by simp [isAl] at he; rcases he with rfl | rfl <;> rfl) ?_
  obtain ⟨b7, hb7⟩ : ∃ b, bs 4 = b := ⟨_, rfl⟩
  obtain ⟨b8, hb8⟩ : ∃ b, bs 5 = b := ⟨_, rfl⟩
  simp only [hb7, hb8]
  clear hb7 hb8
  refine p_store (ds' := [.v (.bool x5.gSome), .v (.int .i64 x5.gM), .v (.int .i64 x5.gR)]) (h' := [(b1, Blk.cells [.v (.bool a0.gSome), .v (.int .i64 a0.gM), .v (.int .i64 a0.gR)] 25), (b2, Blk.cells [.v (.bool a1.gSome), .v (.int .i64 a1.gM), .v (.int .i64 a1.gR)] 25), (b4, Blk.cells [.v (.bool x3.gSome), .v (.int .i64 x3.gM), .v (.int .i64 x3.gR)] 25), (b7, Blk.cells [.v (.bool x5.gSome), .v (.int .i64 x5.gM), .v (.int .i64 x5.gR)] 25), (b8, Blk.cells [.v (.bool false), .v (.int .i64 (0 : Int)), .v (.int .i64 (0 : Int))] 25)]) 3 htab rfl rfl rfl rfl rfl rfl rfl rfl rfl rfl rfl rfl ?_
  refine p_store (ds' := [.v (.bool x6.gSome), .v (.int .i64 x6.gM), .v (.int .i64 x6.gR)]) (h' := [(b1, Blk.cells [.v (.bool a0.gSome), .v (.int .i64 a0.gM), .v (.int .i64 a0.gR)] 25), (b2, Blk.cells [.v (.bool a1.gSome), .v (.int .i64 a1.gM), .v (.int .i64 a1.gR)] 25), (b4, Blk.cells [.v (.bool x3.gSome), .v (.int .i64 x3.gM), .v (.int .i64 x3.gR)] 25), (b7, Blk.cells [.v (.bool x5.gSome), .v (.int .i64 x5.gM), .v (.int .i64 x5.gR)] 25), (b8, Blk.cells [.v (.bool x6.gSome), .v (.int .i64 x6.gM), .v (.int .i64 x6.gR)] 25)]) 4 htab rfl rfl rfl rfl rfl rfl rfl rfl rfl rfl rfl rfl ?_
  refine ops_nil ?_
  refine then_normal ?_
  refine wpD_seq ?_
  obtain ⟨y12, q12, ho12⟩ := yes_bind hm
  refine wpD_mid (Y := Unit) (fun z12 => (⟨[(2, .v (.int .i64 a2)), (3, .ptr b1 0), (4, .ptr b2 0), (7, .ptr b4 0), (8, .ptr b7 0), (9, .ptr b8 0), (10, .v (.bool y12))], [(b1, Blk.cells [.v (.bool a0.gSome), .v (.int .i64 a0.gM), .v (.int .i64 a0.gR)] 25), (b2, Blk.cells [.v (.bool a1.gSome), .v (.int .i64 a1.gM), .v (.int .i64 a1.gR)] 25), (b4, Blk.cells [.v (.bool x3.gSome), .v (.int .i64 x3.gM), .v (.int .i64 x3.gR)] 25), (b7, Blk.cells [.v (.bool x5.gSome), .v (.int .i64 x5.gM), .v (.int .i64 x5.gR)] 25), (b8, Blk.cells [.v (.bool x6.gSome), .v (.int .i64 x6.gM), .v (.int .i64 x6.gR)] 25)], []⟩ : S)) ?_ ?_
  · clear hm; have hm := yes_of q12
    refine wpD_region ?_
    refine p_load (d := eTApiCong a0) 0 htab rfl rfl rfl rfl rfl rfl rfl rfl ?_
    refine p_pure htab rfl rfl rfl rfl ?_
    obtain ⟨x13, q13, hm⟩ := yes_bind hm
    refine p_call0 (r05_Has_ok a0 a2 x13 q13) rfl rfl rfl rfl rfl (WkL.refl _) ?_
    rintro _ rfl
    refine p_pure htab rfl rfl rfl rfl ?_
    refine p_split (i := 24) rfl (fun hg14 => ?_) (fun hg14 => ?_)
    · replace hm := yes_t hg14 hm
      refine p_load (d := eTApiCong a1) 1 htab rfl rfl rfl rfl rfl rfl rfl rfl ?_
      refine p_pure htab rfl rfl rfl rfl ?_
      obtain ⟨x15, q15, hm⟩ := yes_bind hm
      refine p_call0 (r05_Has_ok a1 a2 x15 q15) rfl rfl rfl rfl rfl (WkL.refl _) ?_
      rintro _ rfl
      refine p_pickT rfl rfl rfl rfl rfl rfl ?_
      refine p_pure htab rfl rfl rfl rfl ?_
      refine ops_nil ?_
      have e12 := yes_eq hm; subst e12
      refine ⟨rfl, ?_⟩
      exact WkX.of () (WkS.perm (WkS.cons rfl (Wk.refl _) (WkS.cons rfl (Wk.refl _) (WkS.cons rfl (Wk.refl _) (WkS.cons rfl (Wk.refl _) (WkS.cons rfl (Wk.refl _) (WkS.cons rfl (Wk.refl _) (WkS.cons rfl (Wk.refl _) (WkS.nil)))))))) (List.Perm.refl _) (List.Perm.refl _))
    · replace hm := yes_f hg14 hm
      refine p_skip rfl rfl rfl ?_
      refine p_skip rfl rfl rfl ?_
      refine p_skip rfl rfl rfl ?_
      refine p_pickF rfl rfl rfl rfl rfl rfl ?_
      refine p_pure htab rfl rfl rfl rfl ?_
      refine ops_nil ?_
      have e12 := yes_eq hm; subst e12
      refine ⟨rfl, ?_⟩
      exact WkX.of () (WkS.perm (WkS.cons rfl (Wk.refl _) (WkS.cons rfl (Wk.refl _) (WkS.cons rfl (Wk.refl _) (WkS.cons rfl (Wk.refl _) (WkS.cons rfl (Wk.refl _) (WkS.cons rfl (Wk.refl _) (WkS.cons rfl (Wk.refl _) (WkS.nil)))))))) (List.Perm.refl _) (List.Perm.refl _))
  · intro s12 hw12; clear hm; have hm := ho12; clear q12 ho12
    refine then_normal ?_
    refine wpD_wkX hw12 (fun z12 => ?_)
    refine wpD_seq ?_
    refine wpD_seq ?_
    obtain ⟨y29, q29, ho29⟩ := yes_bind hm
    refine wpD_mid (Y := Unit) (fun z29 => (⟨[(2, .v (.int .i64 a2)), (3, .ptr b1 0), (4, .ptr b2 0), (7, .ptr b4 0), (8, .ptr b7 0), (9, .ptr b8 0), (10, .v (.bool y12)), (53, .v (.bool y29))], [(b1, Blk.cells [.v (.bool a0.gSome), .v (.int .i64 a0.gM), .v (.int .i64 a0.gR)] 25), (b2, Blk.cells [.v (.bool a1.gSome), .v (.int .i64 a1.gM), .v (.int .i64 a1.gR)] 25), (b4, Blk.cells [.v (.bool x3.gSome), .v (.int .i64 x3.gM), .v (.int .i64 x3.gR)] 25), (b7, Blk.cells [.v (.bool x5.gSome), .v (.int .i64 x5.gM), .v (.int .i64 x5.gR)] 25), (b8, Blk.cells [.v (.bool x6.gSome), .v (.int .i64 x6.gM), .v (.int .i64 x6.gR)] 25)], []⟩ : S)) ?_ ?_
    · clear hm; have hm := yes_of q29
      refine bycB y12 (fun hs30 => ?_) (fun hs30 => ?_)
      · replace hm := yes_t hs30 hm
        obtain ⟨x31, q31, hm⟩ := yes_bind hm
        refine bycB (!x31) (fun hs32 => ?_) (fun hs32 => ?_)
        · replace hm := yes_t hs32 hm
          refine wpD_draws 21 [] [[],[],[],[],[2],[2,4],[2,4],[2,4],[2,4],[2,4],[2,4],[2,4],[2,4],[2,4],[2,4],[2,4],[2,4],[2,4],[2,4],[2,4],[2,4]] [2,4] [[],[0],[0,1],[0,1],[0,1,2,3],[0,1,2,3,4],[0,1,2,3,4,5],[0,1,2,3,4,5,6],[0,1,2,3,4,5,6,7],[0,1,2,3,4,5,6,7],[0,1,2,3,4,5,6,7,9],[0,1,2,3,4,5,6,7,8,9,10],[0,1,2,3,4,5,6,7,8,9,10,11],[0,1,2,3,4,5,6,7,8,9,10,11,12],[0,1,2,3,4,5,6,7,8,9,10,11,12,13],[0,1,2,3,4,5,6,7,8,9,10,11,12,13],[0,1,2,3,4,5,6,7,8,9,10,11,12,13,14,15],[0,1,2,3,4,5,6,7,8,9,10,11,12,13,14,15,16],[0,1,2,3,4,5,6,7,8,9,10,11,12,13,14,15,16,17],[0,1,2,3,4,5,6,7,8,9,10,11,12,13,14,15,16,17,18],[0,1,2,3,4,5,6,7,8,9,10,11,12,13,14,15,16,17,18],[0,1,2,3,4,5,6,7,8,9,10,11,12,13,14,15,16,17,18,19,20],[0,1,2,3,4,5,6,7,8,9,10,11,12,13,14,15,16,17,18,19,20,21],[0,1,2,3,4,5,6,7,8,9,10,11,12,13,14,15,16,17,18,19,20,21,22],[0,1,2,3,4,5,6,7,8,9,10,11,12,13,14,15,16,17,18,19,20,21,22,23]] (by kernel_rfl) (by kernel_rfl) (by kernel_rfl) (by rfl) (by rfl) (by kernel_rfl) ?_
          apply Exists.intro
          apply Exists.intro
          intro bs
          refine z_q rfl rfl (ex_pure htab rfl) rfl rfl rfl rfl rfl rfl ?_
          refine z_q rfl rfl (ex_pure htab rfl) rfl rfl rfl rfl rfl rfl ?_
          refine z_known (j := 30) (b' := true) rfl hs30 ?_
          refine z_eM rfl rfl (xm_load (d := eTApiCong x3) 2 htab rfl rfl rfl rfl rfl) rfl rfl rfl rfl rfl rfl ?_
          refine z_q rfl rfl (ex_pure htab rfl) rfl rfl rfl rfl rfl rfl ?_
          refine z_call rfl rfl (r05_Has_ok x3 a2 x31 q31) rfl rfl (WkL.refl _) rfl rfl rfl rfl rfl rfl ?_
          refine z_q rfl rfl (ex_pure htab rfl) rfl rfl rfl rfl rfl rfl ?_
          refine z_q rfl rfl (x_pickT rfl rfl rfl) rfl rfl rfl rfl rfl rfl ?_
          refine z_q rfl rfl (ex_pure htab rfl) rfl rfl rfl rfl rfl rfl ?_
          refine z_known (j := 36) (b' := true) rfl hs32 ?_
          refine z_skip rfl rfl rfl rfl ?_
          refine z_skip rfl rfl rfl rfl ?_
          refine z_skip rfl rfl rfl rfl ?_
          refine z_skip rfl rfl rfl rfl ?_
          refine z_q rfl rfl (x_pickT rfl rfl rfl) rfl rfl rfl rfl rfl rfl ?_
          refine z_q rfl rfl (ex_pure htab rfl) rfl rfl rfl rfl rfl rfl ?_
          refine z_skip rfl rfl rfl rfl ?_
          refine z_skip rfl rfl rfl rfl ?_
          refine z_skip rfl rfl rfl rfl ?_
          refine z_skip rfl rfl rfl rfl ?_
          refine z_skip rfl rfl rfl rfl ?_
          refine z_skip rfl rfl rfl rfl ?_
          refine z_skip rfl rfl rfl rfl ?_
          refine z_nil rfl rfl (fun e he => by simp [isAl] at he) ?_
          refine p_skip rfl rfl rfl ?_
          refine p_skip rfl rfl rfl ?_
          refine p_skip rfl rfl rfl ?_
          refine p_pickT rfl rfl rfl rfl rfl rfl ?_
          refine ops_nil ?_
          have e29 := yes_eq hm; subst e29
          refine ⟨rfl, ?_⟩
          exact WkX.of () (WkS.perm (WkS.cons rfl (Wk.refl _) (WkS.cons rfl (Wk.refl _) (WkS.cons rfl (Wk.refl _) (WkS.cons rfl (Wk.refl _) (WkS.cons rfl (Wk.refl _) (WkS.cons rfl (Wk.refl _) (WkS.cons rfl (Wk.refl _) (WkS.cons rfl (Wk.refl _) (WkS.nil))))))))) (List.Perm.refl _) (List.Perm.refl _))
        · replace hm := yes_f hs32 hm
          obtain ⟨x33, q33, hm⟩ := yes_bind hm
          refine bycB (!(x3.gSome == x33.gSome && (x3.gM == x33.gM && (x3.gR == x33.gR && true)))) (fun hs34 => ?_) (fun hs34 => ?_)
          · replace hm := yes_t hs34 hm
            refine wpD_draws 21 [] [[],[],[],[],[2],[2,4],[2,4],[2,4],[2,4],[2,4],[2,4,9],[2,4,8,9,10],[2,4,8,9,10],[2,4,8,9,10],[2,4,8,9,10],[2,4,8,9,10],[2,4,8,9,10],[2,4,8,9,10],[2,4,8,9,10],[2,4,8,9,10],[2,4,8,9,10]] [2,4,8,9,10] [[],[0],[0,1],[0,1],[0,1,2,3],[0,1,2,3,4],[0,1,2,3,4,5],[0,1,2,3,4,5,6],[0,1,2,3,4,5,6,7],[0,1,2,3,4,5,6,7],[0,1,2,3,4,5,6,7,9],[0,1,2,3,4,5,6,7,8,9,10],[0,1,2,3,4,5,6,7,8,9,10,11],[0,1,2,3,4,5,6,7,8,9,10,11,12],[0,1,2,3,4,5,6,7,8,9,10,11,12,13],[0,1,2,3,4,5,6,7,8,9,10,11,12,13],[0,1,2,3,4,5,6,7,8,9,10,11,12,13,14,15],[0,1,2,3,4,5,6,7,8,9,10,11,12,13,14,15,16],[0,1,2,3,4,5,6,7,8,9,10,11,12,13,14,15,16,17],[0,1,2,3,4,5,6,7,8,9,10,11,12,13,14,15,16,17,18],[0,1,2,3,4,5,6,7,8,9,10,11,12,13,14,15,16,17,18],[0,1,2,3,4,5,6,7,8,9,10,11,12,13,14,15,16,17,18,19,20],[0,1,2,3,4,5,6,7,8,9,10,11,12,13,14,15,16,17,18,19,20,21],[0,1,2,3,4,5,6,7,8,9,10,11,12,13,14,15,16,17,18,19,20,21,22],[0,1,2,3,4,5,6,7,8,9,10,11,12,13,14,15,16,17,18,19,20,21,22,23]] (by kernel_rfl) (by kernel_rfl) (by kernel_rfl) (by rfl) (by rfl) (by kernel_rfl) ?_
            apply Exists.intro
            apply Exists.intro
            apply Exists.intro
            apply Exists.intro
            apply Exists.intro
            intro bs
            refine z_q rfl rfl (ex_pure htab rfl) rfl rfl rfl rfl rfl rfl ?_
            refine z_q rfl rfl (ex_pure htab rfl) rfl rfl rfl rfl rfl rfl ?_
            refine z_known (j := 30) (b' := true) rfl hs30 ?_
            refine z_eM rfl rfl (xm_load (d := eTApiCong x3) 2 htab rfl rfl rfl rfl rfl) rfl rfl rfl rfl rfl rfl ?_
            refine z_q rfl rfl (ex_pure htab rfl) rfl rfl rfl rfl rfl rfl ?_
            refine z_call rfl rfl (r05_Has_ok x3 a2 x31 q31) rfl rfl (WkL.refl _) rfl rfl rfl rfl rfl rfl ?_
            refine z_q rfl rfl (ex_pure htab rfl) rfl rfl rfl rfl rfl rfl ?_
            refine z_q rfl rfl (x_pickT rfl rfl rfl) rfl rfl rfl rfl rfl rfl ?_
            refine z_q rfl rfl (ex_pure htab rfl) rfl rfl rfl rfl rfl rfl ?_
            refine z_known (j := 36) (b' := false) rfl hs32 ?_
            refine z_eM rfl rfl (xm_load (d := eTApiCong x3) 2 htab rfl rfl rfl rfl rfl) rfl rfl rfl rfl rfl rfl ?_
            refine z_eM rfl rfl (xm_load (d := eTApiCong x3) 2 htab rfl rfl rfl rfl rfl) rfl rfl rfl rfl rfl rfl ?_
            refine z_call rfl rfl (r05_Clean_ok x3 x33 q33) rfl rfl (WkL.refl _) rfl rfl rfl rfl rfl rfl ?_
            refine z_q rfl rfl (x_eqS htab rfl rfl eqt25 rfl rfl rfl rfl rfl) rfl rfl rfl rfl rfl rfl ?_
            refine z_q rfl rfl (x_pickF rfl rfl rfl) rfl rfl rfl rfl rfl rfl ?_
            refine z_q rfl rfl (ex_pure htab rfl) rfl rfl rfl rfl rfl rfl ?_
            refine z_known (j := 42) (b' := true) rfl hs34 ?_
            refine z_skip rfl rfl rfl rfl ?_
            refine z_skip rfl rfl rfl rfl ?_
            refine z_skip rfl rfl rfl rfl ?_
            refine z_skip rfl rfl rfl rfl ?_
            refine z_skip rfl rfl rfl rfl ?_
            refine z_skip rfl rfl rfl rfl ?_
            refine z_skip rfl rfl rfl rfl ?_
            refine z_nil rfl rfl (fun e he => by simp [isAl] at he) ?_
            refine p_skip rfl rfl rfl ?_
            refine p_skip rfl rfl rfl ?_
            refine p_skip rfl rfl rfl ?_
            refine p_pickT rfl rfl rfl rfl rfl rfl ?_
            refine ops_nil ?_
            have e29 := yes_eq hm; subst e29
            refine ⟨rfl, ?_⟩
            exact WkX.of () (WkS.perm (WkS.cons rfl (Wk.refl _) (WkS.cons rfl (Wk.refl _) (WkS.cons rfl (Wk.refl _) (WkS.cons rfl (Wk.refl _) (WkS.cons rfl (Wk.refl _) (WkS.cons rfl (Wk.refl _) (WkS.cons rfl (Wk.refl _) (WkS.cons rfl (Wk.refl _) (WkS.nil))))))))) (List.Perm.refl _) (List.Perm.refl _))
          · replace hm := yes_f hs34 hm
            obtain ⟨x35, q35, hm⟩ := yes_bind hm
            refine bycB (!x35) (fun hs36 => ?_) (fun hs36 => ?_)
            · replace hm := yes_t hs36 hm
              refine wpD_draws 21 [] [[],[],[],[],[2],[2,4],[2,4],[2,4],[2,4],[2,4],[2,4,9],[2,4,8,9,10],[2,4,8,9,10],[2,4,8,9,10],[2,4,8,9,10],[2,4,8,9,10],[2,4,8,9,10,14,15],[2,4,8,9,10,14,15,16],[2,4,8,9,10,14,15,16],[2,4,8,9,10,14,15,16],[2,4,8,9,10,14,15,16]] [2,4,8,9,10,14,15,16,19,20] [[],[0],[0,1],[0,1],[0,1,2,3],[0,1,2,3,4],[0,1,2,3,4,5],[0,1,2,3,4,5,6],[0,1,2,3,4,5,6,7],[0,1,2,3,4,5,6,7],[0,1,2,3,4,5,6,7,9],[0,1,2,3,4,5,6,7,8,9,10],[0,1,2,3,4,5,6,7,8,9,10,11],[0,1,2,3,4,5,6,7,8,9,10,11,12],[0,1,2,3,4,5,6,7,8,9,10,11,12,13],[0,1,2,3,4,5,6,7,8,9,10,11,12,13],[0,1,2,3,4,5,6,7,8,9,10,11,12,13,14,15],[0,1,2,3,4,5,6,7,8,9,10,11,12,13,14,15,16],[0,1,2,3,4,5,6,7,8,9,10,11,12,13,14,15,16,17],[0,1,2,3,4,5,6,7,8,9,10,11,12,13,14,15,16,17,18],[0,1,2,3,4,5,6,7,8,9,10,11,12,13,14,15,16,17,18],[0,1,2,3,4,5,6,7,8,9,10,11,12,13,14,15,16,17,18,19,20],[0,1,2,3,4,5,6,7,8,9,10,11,12,13,14,15,16,17,18,19,20,21],[0,1,2,3,4,5,6,7,8,9,10,11,12,13,14,15,16,17,18,19,20,21,22],[0,1,2,3,4,5,6,7,8,9,10,11,12,13,14,15,16,17,18,19,20,21,22,23]] (by kernel_rfl) (by kernel_rfl) (by kernel_rfl) (by rfl) (by rfl) (by kernel_rfl) ?_
              apply Exists.intro
              apply Exists.intro
              apply Exists.intro
              apply Exists.intro
              apply Exists.intro
              apply Exists.intro
              apply Exists.intro
              apply Exists.intro
              apply Exists.intro
              apply Exists.intro
              intro bs
              refine z_q rfl rfl (ex_pure htab rfl) rfl rfl rfl rfl rfl rfl ?_
              refine z_q rfl rfl (ex_pure htab rfl) rfl rfl rfl rfl rfl rfl ?_
              refine z_known (j := 30) (b' := true) rfl hs30 ?_
              refine z_eM rfl rfl (xm_load (d := eTApiCong x3) 2 htab rfl rfl rfl rfl rfl) rfl rfl rfl rfl rfl rfl ?_
              refine z_q rfl rfl (ex_pure htab rfl) rfl rfl rfl rfl rfl rfl ?_
              refine z_call rfl rfl (r05_Has_ok x3 a2 x31 q31) rfl rfl (WkL.refl _) rfl rfl rfl rfl rfl rfl ?_
              refine z_q rfl rfl (ex_pure htab rfl) rfl rfl rfl rfl rfl rfl ?_
              refine z_q rfl rfl (x_pickT rfl rfl rfl) rfl rfl rfl rfl rfl rfl ?_
              refine z_q rfl rfl (ex_pure htab rfl) rfl rfl rfl rfl rfl rfl ?_
              refine z_known (j := 36) (b' := false) rfl hs32 ?_
              refine z_eM rfl rfl (xm_load (d := eTApiCong x3) 2 htab rfl rfl rfl rfl rfl) rfl rfl rfl rfl rfl rfl ?_
              refine z_eM rfl rfl (xm_load (d := eTApiCong x3) 2 htab rfl rfl rfl rfl rfl) rfl rfl rfl rfl rfl rfl ?_
              refine z_call rfl rfl (r05_Clean_ok x3 x33 q33) rfl rfl (WkL.refl _) rfl rfl rfl rfl rfl rfl ?_
              refine z_q rfl rfl (x_eqS htab rfl rfl eqt25 rfl rfl rfl rfl rfl) rfl rfl rfl rfl rfl rfl ?_
              refine z_q rfl rfl (x_pickF rfl rfl rfl) rfl rfl rfl rfl rfl rfl ?_
              refine z_q rfl rfl (ex_pure htab rfl) rfl rfl rfl rfl rfl rfl ?_
              refine z_known (j := 42) (b' := false) rfl hs34 ?_
              refine z_eM rfl rfl (xm_load (d := eTApiCong x3) 2 htab rfl rfl rfl rfl rfl) rfl rfl rfl rfl rfl rfl ?_
              refine z_eM rfl rfl (xm_load (d := eTApiCong a0) 0 htab rfl rfl rfl rfl rfl) rfl rfl rfl rfl rfl rfl ?_
              refine z_call rfl rfl (r05_Leq_ok x3 a0 x35 q35) rfl rfl (WkL.refl _) rfl rfl rfl rfl rfl rfl ?_
              refine z_q rfl rfl (ex_pure htab rfl) rfl rfl rfl rfl rfl rfl ?_
              refine z_q rfl rfl (ex_pure htab rfl) rfl rfl rfl rfl rfl rfl ?_
              refine z_known (j := 47) (b' := true) rfl hs36 ?_
              refine z_eM rfl rfl (xm_load (d := eTApiCong x3) 2 htab rfl rfl rfl rfl rfl) rfl rfl rfl rfl rfl rfl ?_
              refine z_eM rfl rfl (xm_load (d := eTApiCong a1) 1 htab rfl rfl rfl rfl rfl) rfl rfl rfl rfl rfl rfl ?_
              refine z_nil rfl rfl (fun e he => by simp [isAl] at he) ?_
              obtain ⟨x37, q37, hm⟩ := yes_bind hm
              refine p_call0 (r05_Leq_ok x3 a1 x37 q37) rfl rfl rfl rfl rfl (WkL.refl _) ?_
              rintro _ rfl
              refine p_pure htab rfl rfl rfl rfl ?_
              refine p_pickT rfl rfl rfl rfl rfl rfl ?_
              refine p_pickF rfl rfl rfl rfl rfl rfl ?_
              refine ops_nil ?_
              have e29 := yes_eq hm; subst e29
              refine ⟨rfl, ?_⟩
              exact WkX.of () (WkS.perm (WkS.cons rfl (Wk.refl _) (WkS.cons rfl (Wk.refl _) (WkS.cons rfl (Wk.refl _) (WkS.cons rfl (Wk.refl _) (WkS.cons rfl (Wk.refl _) (WkS.cons rfl (Wk.refl _) (WkS.cons rfl (Wk.refl _) (WkS.cons rfl (Wk.refl _) (WkS.nil))))))))) (List.Perm.refl _) (List.Perm.refl _))
            · replace hm := yes_f hs36 hm
              refine wpD_draws 21 [] [[],[],[],[],[2],[2,4],[2,4],[2,4],[2,4],[2,4],[2,4,9],[2,4,8,9,10],[2,4,8,9,10],[2,4,8,9,10],[2,4,8,9,10],[2,4,8,9,10],[2,4,8,9,10,14,15],[2,4,8,9,10,14,15,16],[2,4,8,9,10,14,15,16],[2,4,8,9,10,14,15,16],[2,4,8,9,10,14,15,16]] [2,4,8,9,10,14,15,16] [[],[0],[0,1],[0,1],[0,1,2,3],[0,1,2,3,4],[0,1,2,3,4,5],[0,1,2,3,4,5,6],[0,1,2,3,4,5,6,7],[0,1,2,3,4,5,6,7],[0,1,2,3,4,5,6,7,9],[0,1,2,3,4,5,6,7,8,9,10],[0,1,2,3,4,5,6,7,8,9,10,11],[0,1,2,3,4,5,6,7,8,9,10,11,12],[0,1,2,3,4,5,6,7,8,9,10,11,12,13],[0,1,2,3,4,5,6,7,8,9,10,11,12,13],[0,1,2,3,4,5,6,7,8,9,10,11,12,13,14,15],[0,1,2,3,4,5,6,7,8,9,10,11,12,13,14,15,16],[0,1,2,3,4,5,6,7,8,9,10,11,12,13,14,15,16,17],[0,1,2,3,4,5,6,7,8,9,10,11,12,13,14,15,16,17,18],[0,1,2,3,4,5,6,7,8,9,10,11,12,13,14,15,16,17,18],[0,1,2,3,4,5,6,7,8,9,10,11,12,13,14,15,16,17,18,19,20],[0,1,2,3,4,5,6,7,8,9,10,11,12,13,14,15,16,17,18,19,20,21],[0,1,2,3,4,5,6,7,8,9,10,11,12,13,14,15,16,17,18,19,20,21,22],[0,1,2,3,4,5,6,7,8,9,10,11,12,13,14,15,16,17,18,19,20,21,22,23]] (by kernel_rfl) (by kernel_rfl) (by kernel_rfl) (by rfl) (by rfl) (by kernel_rfl) ?_
              apply Exists.intro
              apply Exists.intro
              apply Exists.intro
              apply Exists.intro
              apply Exists.intro
              apply Exists.intro
              apply Exists.intro
              apply Exists.intro
              intro bs
              refine z_q rfl rfl (ex_pure htab rfl) rfl rfl rfl rfl rfl rfl ?_
              refine z_q rfl rfl (ex_pure htab rfl) rfl rfl rfl rfl rfl rfl ?_
              refine z_known (j := 30) (b' := true) rfl hs30 ?_
              refine z_eM rfl rfl (xm_load (d := eTApiCong x3) 2 htab rfl rfl rfl rfl rfl) rfl rfl rfl rfl rfl rfl ?_
              refine z_q rfl rfl (ex_pure htab rfl) rfl rfl rfl rfl rfl rfl ?_
              refine z_call rfl rfl (r05_Has_ok x3 a2 x31 q31) rfl rfl (WkL.refl _) rfl rfl rfl rfl rfl rfl ?_
              refine z_q rfl rfl (ex_pure htab rfl) rfl rfl rfl rfl rfl rfl ?_
              refine z_q rfl rfl (x_pickT rfl rfl rfl) rfl rfl rfl rfl rfl rfl ?_
              refine z_q rfl rfl (ex_pure htab rfl) rfl rfl rfl rfl rfl rfl ?_
              refine z_known (j := 36) (b' := false) rfl hs32 ?_
              refine z_eM rfl rfl (xm_load (d := eTApiCong x3) 2 htab rfl rfl rfl rfl rfl) rfl rfl rfl rfl rfl rfl ?_
              refine z_eM rfl rfl (xm_load (d := eTApiCong x3) 2 htab rfl rfl rfl rfl rfl) rfl rfl rfl rfl rfl rfl ?_
              refine z_call rfl rfl (r05_Clean_ok x3 x33 q33) rfl rfl (WkL.refl _) rfl rfl rfl rfl rfl rfl ?_
              refine z_q rfl rfl (x_eqS htab rfl rfl eqt25 rfl rfl rfl rfl rfl) rfl rfl rfl rfl rfl rfl ?_
              refine z_q rfl rfl (x_pickF rfl rfl rfl) rfl rfl rfl rfl rfl rfl ?_
              refine z_q rfl rfl (ex_pure htab rfl) rfl rfl rfl rfl rfl rfl ?_
              refine z_known (j := 42) (b' := false) rfl hs34 ?_
              refine z_eM rfl rfl (xm_load (d := eTApiCong x3) 2 htab rfl rfl rfl rfl rfl) rfl rfl rfl rfl rfl rfl ?_
              refine z_eM rfl rfl (xm_load (d := eTApiCong a0) 0 htab rfl rfl rfl rfl rfl) rfl rfl rfl rfl rfl rfl ?_
              refine z_call rfl rfl (r05_Leq_ok x3 a0 x35 q35) rfl rfl (WkL.refl _) rfl rfl rfl rfl rfl rfl ?_
              refine z_q rfl rfl (ex_pure htab rfl) rfl rfl rfl rfl rfl rfl ?_
              refine z_q rfl rfl (ex_pure htab rfl) rfl rfl rfl rfl rfl rfl ?_
              refine z_known (j := 47) (b' := false) rfl hs36 ?_
              refine z_skip rfl rfl rfl rfl ?_
              refine z_skip rfl rfl rfl rfl ?_
              refine z_nil rfl rfl (fun e he => by simp [isAl] at he) ?_
              refine p_skip rfl rfl rfl ?_
              refine p_skip rfl rfl rfl ?_
              refine p_pickF rfl rfl rfl rfl rfl rfl ?_
              refine p_pickF rfl rfl rfl rfl rfl rfl ?_
              refine ops_nil ?_
              have e29 := yes_eq hm; subst e29
              refine ⟨rfl, ?_⟩
              exact WkX.of () (WkS.perm (WkS.cons rfl (Wk.refl _) (WkS.cons rfl (Wk.refl _) (WkS.cons rfl (Wk.refl _) (WkS.cons rfl (Wk.refl _) (WkS.cons rfl (Wk.refl _) (WkS.cons rfl (Wk.refl _) (WkS.cons rfl (Wk.refl _) (WkS.cons rfl (Wk.refl _) (WkS.nil))))))))) (List.Perm.refl _) (List.Perm.refl _))
      · replace hm := yes_f hs30 hm
        obtain ⟨x38, q38, hm⟩ := yes_bind hm
        refine bycB (!(x3.gSome == x38.gSome && (x3.gM == x38.gM && (x3.gR == x38.gR && true)))) (fun hs39 => ?_) (fun hs39 => ?_)
        · replace hm := yes_t hs39 hm
          refine wpD_draws 21 [] [[],[],[],[],[],[],[],[],[],[],[9],[8,9,10],[8,9,10],[8,9,10],[8,9,10],[8,9,10],[8,9,10],[8,9,10],[8,9,10],[8,9,10],[8,9,10]] [8,9,10] [[],[0],[0,1],[0,1],[0,1,2,3],[0,1,2,3,4],[0,1,2,3,4,5],[0,1,2,3,4,5,6],[0,1,2,3,4,5,6,7],[0,1,2,3,4,5,6,7],[0,1,2,3,4,5,6,7,9],[0,1,2,3,4,5,6,7,8,9,10],[0,1,2,3,4,5,6,7,8,9,10,11],[0,1,2,3,4,5,6,7,8,9,10,11,12],[0,1,2,3,4,5,6,7,8,9,10,11,12,13],[0,1,2,3,4,5,6,7,8,9,10,11,12,13],[0,1,2,3,4,5,6,7,8,9,10,11,12,13,14,15],[0,1,2,3,4,5,6,7,8,9,10,11,12,13,14,15,16],[0,1,2,3,4,5,6,7,8,9,10,11,12,13,14,15,16,17],[0,1,2,3,4,5,6,7,8,9,10,11,12,13,14,15,16,17,18],[0,1,2,3,4,5,6,7,8,9,10,11,12,13,14,15,16,17,18],[0,1,2,3,4,5,6,7,8,9,10,11,12,13,14,15,16,17,18,19,20],[0,1,2,3,4,5,6,7,8,9,10,11,12,13,14,15,16,17,18,19,20,21],[0,1,2,3,4,5,6,7,8,9,10,11,12,13,14,15,16,17,18,19,20,21,22],[0,1,2,3,4,5,6,7,8,9,10,11,12,13,14,15,16,17,18,19,20,21,22,23]] (by kernel_rfl) (by kernel_rfl) (by kernel_rfl) (by rfl) (by rfl) (by kernel_rfl) ?_
          apply Exists.intro
          apply Exists.intro
          apply Exists.intro
          intro bs
          refine z_q rfl rfl (ex_pure htab rfl) rfl rfl rfl rfl rfl rfl ?_
          refine z_q rfl rfl (ex_pure htab rfl) rfl rfl rfl rfl rfl rfl ?_
          refine z_known (j := 30) (b' := false) rfl hs30 ?_
          refine z_skip rfl rfl rfl rfl ?_
          refine z_skip rfl rfl rfl rfl ?_
          refine z_skip rfl rfl rfl rfl ?_
          refine z_skip rfl rfl rfl rfl ?_
          refine z_q rfl rfl (x_pickF rfl rfl rfl) rfl rfl rfl rfl rfl rfl ?_
          refine z_q rfl rfl (ex_pure htab rfl) rfl rfl rfl rfl rfl rfl ?_
          refine z_eM rfl rfl (xm_load (d := eTApiCong x3) 2 htab rfl rfl rfl rfl rfl) rfl rfl rfl rfl rfl rfl ?_
          refine z_eM rfl rfl (xm_load (d := eTApiCong x3) 2 htab rfl rfl rfl rfl rfl) rfl rfl rfl rfl rfl rfl ?_
          refine z_call rfl rfl (r05_Clean_ok x3 x38 q38) rfl rfl (WkL.refl _) rfl rfl rfl rfl rfl rfl ?_
          refine z_q rfl rfl (x_eqS htab rfl rfl eqt25 rfl rfl rfl rfl rfl) rfl rfl rfl rfl rfl rfl ?_
          refine z_q rfl rfl (x_pickF rfl rfl rfl) rfl rfl rfl rfl rfl rfl ?_
          refine z_q rfl rfl (ex_pure htab rfl) rfl rfl rfl rfl rfl rfl ?_
          refine z_known (j := 42) (b' := true) rfl hs39 ?_
          refine z_skip rfl rfl rfl rfl ?_
          refine z_skip rfl rfl rfl rfl ?_
          refine z_skip rfl rfl rfl rfl ?_
          refine z_skip rfl rfl rfl rfl ?_
          refine z_skip rfl rfl rfl rfl ?_
          refine z_skip rfl rfl rfl rfl ?_
          refine z_skip rfl rfl rfl rfl ?_
          refine z_nil rfl rfl (fun e he => by simp [isAl] at he) ?_
          refine p_skip rfl rfl rfl ?_
          refine p_skip rfl rfl rfl ?_
          refine p_skip rfl rfl rfl ?_
          refine p_pickT rfl rfl rfl rfl rfl rfl ?_
          refine ops_nil ?_
          have e29 := yes_eq hm; subst e29
          refine ⟨rfl, ?_⟩
          exact WkX.of () (WkS.perm (WkS.cons rfl (Wk.refl _) (WkS.cons rfl (Wk.refl _) (WkS.cons rfl (Wk.refl _) (WkS.cons rfl (Wk.refl _) (WkS.cons rfl (Wk.refl _) (WkS.cons rfl (Wk.refl _) (WkS.cons rfl (Wk.refl _) (WkS.cons rfl (Wk.refl _) (WkS.nil))))))))) (List.Perm.refl _) (List.Perm.refl _))
        · replace hm := yes_f hs39 hm
          obtain ⟨x40, q40, hm⟩ := yes_bind hm
          refine bycB (!x40) (fun hs41 => ?_) (fun hs41 => ?_)
          · replace hm := yes_t hs41 hm
            refine wpD_draws 21 [] [[],[],[],[],[],[],[],[],[],[],[9],[8,9,10],[8,9,10],[8,9,10],[8,9,10],[8,9,10],[8,9,10,14,15],[8,9,10,14,15,16],[8,9,10,14,15,16],[8,9,10,14,15,16],[8,9,10,14,15,16]] [8,9,10,14,15,16,19,20] [[],[0],[0,1],[0,1],[0,1,2,3],[0,1,2,3,4],[0,1,2,3,4,5],[0,1,2,3,4,5,6],[0,1,2,3,4,5,6,7],[0,1,2,3,4,5,6,7],[0,1,2,3,4,5,6,7,9],[0,1,2,3,4,5,6,7,8,9,10],[0,1,2,3,4,5,6,7,8,9,10,11],[0,1,2,3,4,5,6,7,8,9,10,11,12],[0,1,2,3,4,5,6,7,8,9,10,11,12,13],[0,1,2,3,4,5,6,7,8,9,10,11,12,13],[0,1,2,3,4,5,6,7,8,9,10,11,12,13,14,15],[0,1,2,3,4,5,6,7,8,9,10,11,12,13,14,15,16],[0,1,2,3,4,5,6,7,8,9,10,11,12,13,14,15,16,17],[0,1,2,3,4,5,6,7,8,9,10,11,12,13,14,15,16,17,18],[0,1,2,3,4,5,6,7,8,9,10,11,12,13,14,15,16,17,18],[0,1,2,3,4,5,6,7,8,9,10,11,12,13,14,15,16,17,18,19,20],[0,1,2,3,4,5,6,7,8,9,10,11,12,13,14,15,16,17,18,19,20,21],[0,1,2,3,4,5,6,7,8,9,10,11,12,13,14,15,16,17,18,19,20,21,22],[0,1,2,3,4,5,6,7,8,9,10,11,12,13,14,15,16,17,18,19,20,21,22,23]] (by kernel_rfl) (by kernel_rfl) (by kernel_rfl) (by rfl) (by rfl) (by kernel_rfl) ?_
            apply Exists.intro
            apply Exists.intro
            apply Exists.intro
            apply Exists.intro
            apply Exists.intro
            apply Exists.intro
            apply Exists.intro
            apply Exists.intro
            intro bs
            refine z_q rfl rfl (ex_pure htab rfl) rfl rfl rfl rfl rfl rfl ?_
            refine z_q rfl rfl (ex_pure htab rfl) rfl rfl rfl rfl rfl rfl ?_
            refine z_known (j := 30) (b' := false) rfl hs30 ?_
            refine z_skip rfl rfl rfl rfl ?_
            refine z_skip rfl rfl rfl rfl ?_
            refine z_skip rfl rfl rfl rfl ?_
            refine z_skip rfl rfl rfl rfl ?_
            refine z_q rfl rfl (x_pickF rfl rfl rfl) rfl rfl rfl rfl rfl rfl ?_
            refine z_q rfl rfl (ex_pure htab rfl) rfl rfl rfl rfl rfl rfl ?_
            refine z_eM rfl rfl (xm_load (d := eTApiCong x3) 2 htab rfl rfl rfl rfl rfl) rfl rfl rfl rfl rfl rfl ?_
            refine z_eM rfl rfl (xm_load (d := eTApiCong x3) 2 htab rfl rfl rfl rfl rfl) rfl rfl rfl rfl rfl rfl ?_
            refine z_call rfl rfl (r05_Clean_ok x3 x38 q38) rfl rfl (WkL.refl _) rfl rfl rfl rfl rfl rfl ?_
            refine z_q rfl rfl (x_eqS htab rfl rfl eqt25 rfl rfl rfl rfl rfl) rfl rfl rfl rfl rfl rfl ?_
            refine z_q rfl rfl (x_pickF rfl rfl rfl) rfl rfl rfl rfl rfl rfl ?_
            refine z_q rfl rfl (ex_pure htab rfl) rfl rfl rfl rfl rfl rfl ?_
            refine z_known (j := 42) (b' := false) rfl hs39 ?_
            refine z_eM rfl rfl (xm_load (d := eTApiCong x3) 2 htab rfl rfl rfl rfl rfl) rfl rfl rfl rfl rfl rfl ?_
            refine z_eM rfl rfl (xm_load (d := eTApiCong a0) 0 htab rfl rfl rfl rfl rfl) rfl rfl rfl rfl rfl rfl ?_
            refine z_call rfl rfl (r05_Leq_ok x3 a0 x40 q40) rfl rfl (WkL.refl _) rfl rfl rfl rfl rfl rfl ?_
            refine z_q rfl rfl (ex_pure htab rfl) rfl rfl rfl rfl rfl rfl ?_
            refine z_q rfl rfl (ex_pure htab rfl) rfl rfl rfl rfl rfl rfl ?_
            refine z_known (j := 47) (b' := true) rfl hs41 ?_
            refine z_eM rfl rfl (xm_load (d := eTApiCong x3) 2 htab rfl rfl rfl rfl rfl) rfl rfl rfl rfl rfl rfl ?_
            refine z_eM rfl rfl (xm_load (d := eTApiCong a1) 1 htab rfl rfl rfl rfl rfl) rfl rfl rfl rfl rfl rfl ?_
            refine z_nil rfl rfl (fun e he => by simp [isAl] at he) ?_
            obtain ⟨x42, q42, hm⟩ := yes_bind hm
            refine p_call0 (r05_Leq_ok x3 a1 x42 q42) rfl rfl rfl rfl rfl (WkL.refl _) ?_
            rintro _ rfl
            refine p_pure htab rfl rfl rfl rfl ?_
            refine p_pickT rfl rfl rfl rfl rfl rfl ?_
            refine p_pickF rfl rfl rfl rfl rfl rfl ?_
            refine ops_nil ?_
            have e29 := yes_eq hm; subst e29
            refine ⟨rfl, ?_⟩
            exact WkX.of () (WkS.perm (WkS.cons rfl (Wk.refl _) (WkS.cons rfl (Wk.refl _) (WkS.cons rfl (Wk.refl _) (WkS.cons rfl (Wk.refl _) (WkS.cons rfl (Wk.refl _) (WkS.cons rfl (Wk.refl _) (WkS.cons rfl (Wk.refl _) (WkS.cons rfl (Wk.refl _) (WkS.nil))))))))) (List.Perm.refl _) (List.Perm.refl _))
          · replace hm := yes_f hs41 hm
            refine wpD_draws 21 [] [[],[],[],[],[],[],[],[],[],[],[9],[8,9,10],[8,9,10],[8,9,10],[8,9,10],[8,9,10],[8,9,10,14,15],[8,9,10,14,15,16],[8,9,10,14,15,16],[8,9,10,14,15,16],[8,9,10,14,15,16]] [8,9,10,14,15,16] [[],[0],[0,1],[0,1],[0,1,2,3],[0,1,2,3,4],[0,1,2,3,4,5],[0,1,2,3,4,5,6],[0,1,2,3,4,5,6,7],[0,1,2,3,4,5,6,7],[0,1,2,3,4,5,6,7,9],[0,1,2,3,4,5,6,7,8,9,10],[0,1,2,3,4,5,6,7,8,9,10,11],[0,1,2,3,4,5,6,7,8,9,10,11,12],[0,1,2,3,4,5,6,7,8,9,10,11,12,13],[0,1,2,3,4,5,6,7,8,9,10,11,12,13],[0,1,2,3,4,5,6,7,8,9,10,11,12,13,14,15],[0,1,2,3,4,5,6,7,8,9,10,11,12,13,14,15,16],[0,1,2,3,4,5,6,7,8,9,10,11,12,13,14,15,16,17],[0,1,2,3,4,5,6,7,8,9,10,11,12,13,14,15,16,17,18],[0,1,2,3,4,5,6,7,8,9,10,11,12,13,14,15,16,17,18],[0,1,2,3,4,5,6,7,8,9,10,11,12,13,14,15,16,17,18,19,20],[0,1,2,3,4,5,6,7,8,9,10,11,12,13,14,15,16,17,18,19,20,21],[0,1,2,3,4,5,6,7,8,9,10,11,12,13,14,15,16,17,18,19,20,21,22],[0,1,2,3,4,5,6,7,8,9,10,11,12,13,14,15,16,17,18,19,20,21,22,23]] (by kernel_rfl) (by kernel_rfl) (by kernel_rfl) (by rfl) (by rfl) (by kernel_rfl) ?_
            apply Exists.intro
            apply Exists.intro
            apply Exists.intro
            apply Exists.intro
            apply Exists.intro
            apply Exists.intro
            intro bs
            refine z_q rfl rfl (ex_pure htab rfl) rfl rfl rfl rfl rfl rfl ?_
            refine z_q rfl rfl (ex_pure htab rfl) rfl rfl rfl rfl rfl rfl ?_
            refine z_known (j := 30) (b' := false) rfl hs30 ?_
            refine z_skip rfl rfl rfl rfl ?_
            refine z_skip rfl rfl rfl rfl ?_
            refine z_skip rfl rfl rfl rfl ?_
            refine z_skip rfl rfl rfl rfl ?_
            refine z_q rfl rfl (x_pickF rfl rfl rfl) rfl rfl rfl rfl rfl rfl ?_
            refine z_q rfl rfl (ex_pure htab rfl) rfl rfl rfl rfl rfl rfl ?_
            refine z_eM rfl rfl (xm_load (d := eTApiCong x3) 2 htab rfl rfl rfl rfl rfl) rfl rfl rfl rfl rfl rfl ?_
            refine z_eM rfl rfl (xm_load (d := eTApiCong x3) 2 htab rfl rfl rfl rfl rfl) rfl rfl rfl rfl rfl rfl ?_
            refine z_call rfl rfl (r05_Clean_ok x3 x38 q38) rfl rfl (WkL.refl _) rfl rfl rfl rfl rfl rfl ?_
            refine z_q rfl rfl (x_eqS htab rfl rfl eqt25 rfl rfl rfl rfl rfl) rfl rfl rfl rfl rfl rfl ?_
            refine z_q rfl rfl (x_pickF rfl rfl rfl) rfl rfl rfl rfl rfl rfl ?_
            refine z_q rfl rfl (ex_pure htab rfl) rfl rfl rfl rfl rfl rfl ?_
            refine z_known (j := 42) (b' := false) rfl hs39 ?_
            refine z_eM rfl rfl (xm_load (d := eTApiCong x3) 2 htab rfl rfl rfl rfl rfl) rfl rfl rfl rfl rfl rfl ?_
            refine z_eM rfl rfl (xm_load (d := eTApiCong a0) 0 htab rfl rfl rfl rfl rfl) rfl rfl rfl rfl rfl rfl ?_
            refine z_call rfl rfl (r05_Leq_ok x3 a0 x40 q40) rfl rfl (WkL.refl _) rfl rfl rfl rfl rfl rfl ?_
            refine z_q rfl rfl (ex_pure htab rfl) rfl rfl rfl rfl rfl rfl ?_
            refine z_q rfl rfl (ex_pure htab rfl) rfl rfl rfl rfl rfl rfl ?_
            refine z_known (j := 47) (b' := false) rfl hs41 ?_
            refine z_skip rfl rfl rfl rfl ?_
            refine z_skip rfl rfl rfl rfl ?_
            refine z_nil rfl rfl (fun e he => by simp [isAl] at he) ?_
            refine p_skip rfl rfl rfl ?_
            refine p_skip rfl rfl rfl ?_
            refine p_pickF rfl rfl rfl rfl rfl rfl ?_
            refine p_pickF rfl rfl rfl rfl rfl rfl ?_
            refine ops_nil ?_
            have e29 := yes_eq hm; subst e29
            refine ⟨rfl, ?_⟩
            exact WkX.of () (WkS.perm (WkS.cons rfl (Wk.refl _) (WkS.cons rfl (Wk.refl _) (WkS.cons rfl (Wk.refl _) (WkS.cons rfl (Wk.refl _) (WkS.cons rfl (Wk.refl _) (WkS.cons rfl (Wk.refl _) (WkS.cons rfl (Wk.refl _) (WkS.cons rfl (Wk.refl _) (WkS.nil))))))))) (List.Perm.refl _) (List.Perm.refl _))
    · intro s29 hw29; clear hm; have hm := ho29; clear q29 ho29
      refine then_normal ?_
      refine wpD_wkX hw29 (fun z29 => ?_)
      refine wpD_cond rfl (fun hc44 => ?_) (fun hc44 => ?_)
      · replace hm := yes_t hc44 hm
        refine wpD_seq ?_
        refine wpD_region ?_
        refine p_pure htab rfl rfl rfl rfl ?_
        refine ops_nil ?_
        refine then_normal ?_
        refine wpD_ret ?_
        refine then_ret ?_
        have er45 := yes_eq hm; subst er45
        refine retX.of (s' := ⟨[(6, .v (.bool false))], [], []⟩) (WkS.perm (WkS.cons rfl (Wk.refl _) (WkS.nil)) (List.Perm.refl _) (List.Perm.refl _)) (retD_mk (hh := []) (.inl rfl) (resL_cons (resOne_tmp rfl) (resL_nil)) (List.nil_sublist _) (List.Sublist.refl _) ?_)
        exact ⟨rfl, rfl, rfl⟩
      · replace hm := yes_f hc44 hm
        refine wpD_skip ?_
        refine then_normal ?_
        refine wpD_seq ?_
        refine wpD_region ?_
        refine p_pure htab rfl rfl rfl rfl ?_
        refine ops_nil ?_
        refine then_normal ?_
        refine wpD_seq ?_
        refine wpD_seq ?_
        obtain ⟨y47, q47, ho47⟩ := yes_bind hm
        refine wpD_mid (Y := Unit) (fun z47 => (⟨[(2, .v (.int .i64 a2)), (3, .ptr b1 0), (4, .ptr b2 0), (7, .ptr b4 0), (8, .ptr b7 0), (9, .ptr b8 0), (10, .v (.bool y12)), (11, .v (.bool true)), (61, .v (.bool y47))], [(b1, Blk.cells [.v (.bool a0.gSome), .v (.int .i64 a0.gM), .v (.int .i64 a0.gR)] 25), (b2, Blk.cells [.v (.bool a1.gSome), .v (.int .i64 a1.gM), .v (.int .i64 a1.gR)] 25), (b4, Blk.cells [.v (.bool x3.gSome), .v (.int .i64 x3.gM), .v (.int .i64 x3.gR)] 25), (b7, Blk.cells [.v (.bool x5.gSome), .v (.int .i64 x5.gM), .v (.int .i64 x5.gR)] 25), (b8, Blk.cells [.v (.bool x6.gSome), .v (.int .i64 x6.gM), .v (.int .i64 x6.gR)] 25)], []⟩ : S)) ?_ ?_
        · clear hm; have hm := yes_of q47
          refine wpD_region ?_
          refine p_pure htab rfl rfl rfl rfl ?_
          refine p_load 3 htab rfl rfl rfl rfl rfl rfl rfl rfl ?_
          refine p_pure htab rfl rfl rfl rfl ?_
          refine p_pure htab rfl rfl rfl rfl ?_
          refine p_split (i := 57) rfl (fun hg48 => ?_) (fun hg48 => ?_)
          · replace hm := yes_t hg48 hm
            refine p_pure htab rfl rfl rfl rfl ?_
            refine p_load 4 htab rfl rfl rfl rfl rfl rfl rfl rfl ?_
            refine p_pure htab rfl rfl rfl rfl ?_
            refine p_pickT rfl rfl rfl rfl rfl rfl ?_
            refine ops_nil ?_
            have e47 := yes_eq hm; subst e47
            refine ⟨rfl, ?_⟩
            exact WkX.of () (WkS.perm (WkS.cons rfl (Wk.refl _) (WkS.cons rfl (Wk.refl _) (WkS.cons rfl (Wk.refl _) (WkS.cons rfl (Wk.refl _) (WkS.cons rfl (Wk.refl _) (WkS.cons rfl (Wk.refl _) (WkS.cons rfl (Wk.refl _) (WkS.cons rfl (Wk.refl _) (WkS.cons rfl (Wk.refl _) (WkS.nil)))))))))) (List.Perm.refl _) (List.Perm.refl _))
          · replace hm := yes_f hg48 hm
            refine p_skip rfl rfl rfl ?_
            refine p_skip rfl rfl rfl ?_
            refine p_skip rfl rfl rfl ?_
            refine p_pickF rfl rfl rfl rfl rfl rfl ?_
            refine ops_nil ?_
            have e47 := yes_eq hm; subst e47
            refine ⟨rfl, ?_⟩
            exact WkX.of () (WkS.perm (WkS.cons rfl (Wk.refl _) (WkS.cons rfl (Wk.refl _) (WkS.cons rfl (Wk.refl _) (WkS.cons rfl (Wk.refl _) (WkS.cons rfl (Wk.refl _) (WkS.cons rfl (Wk.refl _) (WkS.cons rfl (Wk.refl _) (WkS.cons rfl (Wk.refl _) (WkS.cons rfl (Wk.refl _) (WkS.nil)))))))))) (List.Perm.refl _) (List.Perm.refl _))
        · intro s47 hw47; clear hm; have hm := ho47; clear q47 ho47
          refine then_normal ?_
          refine wpD_wkX hw47 (fun z47 => ?_)
          obtain ⟨y54, q54, ho54⟩ := yes_bind hm
          refine wpD_mid (Y := Unit) (fun z54 => (⟨[(2, .v (.int .i64 a2)), (3, .ptr b1 0), (4, .ptr b2 0), (7, .ptr b4 0), (8, .ptr b7 0), (9, .ptr b8 0), (10, .v (.bool y12)), (11, .v (.bool y54))], [(b1, Blk.cells [.v (.bool a0.gSome), .v (.int .i64 a0.gM), .v (.int .i64 a0.gR)] 25), (b2, Blk.cells [.v (.bool a1.gSome), .v (.int .i64 a1.gM), .v (.int .i64 a1.gR)] 25), (b4, Blk.cells [.v (.bool x3.gSome), .v (.int .i64 x3.gM), .v (.int .i64 x3.gR)] 25), (b7, Blk.cells [.v (.bool x5.gSome), .v (.int .i64 x5.gM), .v (.int .i64 x5.gR)] 25), (b8, Blk.cells [.v (.bool x6.gSome), .v (.int .i64 x6.gM), .v (.int .i64 x6.gR)] 25)], []⟩ : S)) ?_ ?_
          · clear hm; have hm := yes_of q54
            refine wpD_cond rfl (fun hc55 => ?_) (fun hc55 => ?_)
            · replace hm := yes_t hc55 hm
              refine wpD_seq ?_
              obtain ⟨x56, q56, hm⟩ := yes_bind hm
              obtain ⟨x57, q57, hm⟩ := yes_bind hm
              obtain ⟨x58, q58, hm⟩ := yes_bind hm
              obtain ⟨x59, q59, hm⟩ := yes_bind hm
              refine wpD_draws 19 [] [[],[0],[],[2],[],[4],[4],[],[7],[7],[4,7],[4,7,10],[2,4,7,10],[0,2,4,7,10],[0,2,4,7,10,13],[0,2,4,7,10,13,14],[0,2,4,7,10,13,14,15],[0,2,4,7,10,13,14,15],[0,2,4,7,10,13,14,15]] [0,2,4,7,10,13,14,15] [[],[0],[],[2],[],[4],[4,5],[],[7],[7,8],[4,5,6,7,8,9],[4,5,6,7,8,9,10],[2,3,4,5,6,7,8,9,10,11],[0,1,2,3,4,5,6,7,8,9,10,11,12],[0,1,2,3,4,5,6,7,8,9,10,11,12,13],[0,1,2,3,4,5,6,7,8,9,10,11,12,13,14],[0,1,2,3,4,5,6,7,8,9,10,11,12,13,14,15],[0,1,2,3,4,5,6,7,8,9,10,11,12,13,14,15],[0,1,2,3,4,5,6,7,8,9,10,11,12,13,14,15,16],[0,1,2,3,4,5,6,7,8,9,10,11,12,13,14,15,16,17,18]] (by kernel_rfl) (by kernel_rfl) (by kernel_rfl) (by rfl) (by rfl) (by kernel_rfl) ?_
              apply Exists.intro
              apply Exists.intro
              apply Exists.intro
              apply Exists.intro
              apply Exists.intro
              apply Exists.intro
              apply Exists.intro
              apply Exists.intro
              intro bs
              refine z_e rfl rfl (ex_pure htab rfl) rfl rfl rfl rfl rfl rfl ?_
              refine z_qM rfl rfl (xm_load 3 htab rfl rfl rfl rfl rfl) rfl rfl rfl rfl rfl rfl ?_
              refine z_e rfl rfl (ex_pure htab rfl) rfl rfl rfl rfl rfl rfl ?_
              refine z_qM rfl rfl (xm_load 4 htab rfl rfl rfl rfl rfl) rfl rfl rfl rfl rfl rfl ?_
              refine z_e rfl rfl (ex_pure htab rfl) rfl rfl rfl rfl rfl rfl ?_
              refine z_qM rfl rfl (xm_load 3 htab rfl rfl rfl rfl rfl) rfl rfl rfl rfl rfl rfl ?_
              refine z_q rfl rfl (ex_pure htab rfl) rfl rfl rfl rfl rfl rfl ?_
              refine z_e rfl rfl (ex_pure htab rfl) rfl rfl rfl rfl rfl rfl ?_
              refine z_qM rfl rfl (xm_load 4 htab rfl rfl rfl rfl rfl) rfl rfl rfl rfl rfl rfl ?_
              refine z_q rfl rfl (ex_pure htab rfl) rfl rfl rfl rfl rfl rfl ?_
              refine z_call rfl rfl (r05_Gcd_ok (IntKind.u64.wrap x5.gM) (IntKind.u64.wrap x6.gM) x56 q56) rfl rfl (WkL.refl _) rfl rfl rfl rfl rfl rfl ?_
              refine z_q rfl rfl (ex_pure htab rfl) rfl rfl rfl rfl rfl rfl ?_
              refine z_q rfl rfl (x_div rfl rfl rfl rfl (by simpa using need_ok q57)) rfl rfl rfl rfl rfl rfl ?_
              refine z_call rfl rfl (rMul_ok x5.gM (IntKind.i64.wrap (x6.gM.tdiv (IntKind.i64.wrap x56))) (need_ok q58)) rfl rfl (WkL.refl _) rfl rfl rfl rfl rfl rfl ?_
              refine z_call rfl rfl (r01_Int_ok (rMul x5.gM (IntKind.i64.wrap (x6.gM.tdiv (IntKind.i64.wrap x56)))) x59 q59) rfl rfl (WkL.refl _) rfl rfl rfl rfl rfl rfl ?_
              refine z_e rfl rfl (ex_pure htab rfl) rfl rfl rfl rfl rfl rfl ?_
              refine z_q rfl rfl (ex_pure htab rfl) rfl rfl rfl rfl rfl rfl ?_
              refine z_q rfl rfl (ex_pure htab rfl) rfl rfl rfl rfl rfl rfl ?_
              refine z_q rfl rfl (ex_pure htab rfl) rfl rfl rfl rfl rfl rfl ?_
              refine z_nil rfl rfl (fun e he => by simp [isAl] at he) ?_
              refine p_pure htab rfl rfl rfl rfl ?_
              refine ops_nil ?_
              refine then_normal ?_
              refine wpD_region ?_
              refine p_pure htab rfl rfl rfl rfl ?_
              refine p_pure htab rfl rfl rfl rfl ?_
              refine ops_nil ?_
              have e54 := yes_eq hm; subst e54
              refine ⟨rfl, ?_⟩
              exact WkX.of () (WkS.perm (WkS.cons rfl (Wk.refl _) (WkS.cons rfl (Wk.refl _) (WkS.cons rfl (Wk.refl _) (WkS.cons rfl (Wk.refl _) (WkS.cons rfl (Wk.refl _) (WkS.cons rfl (Wk.refl _) (WkS.cons rfl (Wk.refl _) (WkS.cons rfl (Wk.refl _) (WkS.nil))))))))) (List.Perm.refl _) (List.Perm.refl _))
            · replace hm := yes_f hc55 hm
              refine wpD_skip ?_
              have e54 := yes_eq hm; subst e54
              refine ⟨rfl, ?_⟩
              exact WkX.of () (WkS.perm (WkS.cons rfl (Wk.refl _) (WkS.cons rfl (Wk.refl _) (WkS.cons rfl (Wk.refl _) (WkS.cons rfl (Wk.refl _) (WkS.cons rfl (Wk.refl _) (WkS.cons rfl (Wk.refl _) (WkS.cons rfl (Wk.refl _) (WkS.cons rfl (Wk.refl _) (WkS.nil))))))))) (List.Perm.refl _) (List.Perm.refl _))
          · intro s54 hw54; clear hm; have hm := ho54; clear q54 ho54
            refine then_normal ?_
            refine wpD_wkX hw54 (fun z54 => ?_)
            refine wpD_seq ?_
            refine wpD_seq ?_
            refine wpD_region ?_
            refine p_pure htab rfl rfl rfl rfl ?_
            refine p_pure htab rfl rfl rfl rfl ?_
            refine ops_nil ?_
            refine then_normal ?_
            refine wpD_cond rfl (fun hc67 => ?_) (fun hc67 => ?_)
            · replace hm := yes_t hc67 hm
              refine wpD_seq ?_
              obtain ⟨y74, q74, ho74⟩ := yes_bind hm
              refine wpD_mid (Y := Unit) (fun z74 => (⟨[(6, .v (.bool y74))], [(b1, Blk.cells [.v (.bool a0.gSome), .v (.int .i64 a0.gM), .v (.int .i64 a0.gR)] 25), (b2, Blk.cells [.v (.bool a1.gSome), .v (.int .i64 a1.gM), .v (.int .i64 a1.gR)] 25), (b4, Blk.cells [.v (.bool x3.gSome), .v (.int .i64 x3.gM), .v (.int .i64 x3.gR)] 25), (b7, Blk.cells [.v (.bool x5.gSome), .v (.int .i64 x5.gM), .v (.int .i64 x5.gR)] 25), (b8, Blk.cells [.v (.bool x6.gSome), .v (.int .i64 x6.gM), .v (.int .i64 x6.gR)] 25)], []⟩ : S)) ?_ ?_
              · clear hm; have hm := yes_of q74
                refine wpD_region ?_
                refine p_load (d := eTApiCong x3) 2 htab rfl rfl rfl rfl rfl rfl rfl rfl ?_
                refine p_load (d := eTApiCong x5) 3 htab rfl rfl rfl rfl rfl rfl rfl rfl ?_
                refine p_eqS htab rfl rfl rfl rfl rfl eqt25 rfl rfl rfl rfl rfl ?_
                refine p_pure htab rfl rfl rfl rfl ?_
                refine p_split (i := 86) rfl (fun hg75 => ?_) (fun hg75 => ?_)
                · replace hm := yes_t hg75 hm
                  refine p_skip rfl rfl rfl ?_
                  refine p_skip rfl rfl rfl ?_
                  refine p_skip rfl rfl rfl ?_
                  refine p_pickT rfl rfl rfl rfl rfl rfl ?_
                  refine p_pure htab rfl rfl rfl rfl ?_
                  refine p_skip rfl rfl rfl ?_
                  refine p_skip rfl rfl rfl ?_
                  refine p_skip rfl rfl rfl ?_
                  refine p_pickT rfl rfl rfl rfl rfl rfl ?_
                  refine p_pure htab rfl rfl rfl rfl ?_
                  obtain ⟨x76, q76, hm⟩ := yes_bind hm
                  refine p_call0 (l05_lives_ok  x76 q76) rfl rfl rfl rfl rfl (WkL.refl _) ?_
                  rintro _ rfl
                  refine p_pickT rfl rfl rfl rfl rfl rfl ?_
                  refine p_pure htab rfl rfl rfl rfl ?_
                  refine ops_nil ?_
                  have e74 := yes_eq hm; subst e74
                  refine ⟨rfl, ?_⟩
                  exact WkX.of () (WkS.perm (WkS.cons rfl (Wk.refl _) (WkS.nil)) (List.Perm.refl _) (List.Perm.refl _))
                · replace hm := yes_f hg75 hm
                  refine p_load (d := eTApiCong x3) 2 htab rfl rfl rfl rfl rfl rfl rfl rfl ?_
                  refine p_load (d := eTApiCong x6) 4 htab rfl rfl rfl rfl rfl rfl rfl rfl ?_
                  refine p_eqS htab rfl rfl rfl rfl rfl eqt25 rfl rfl rfl rfl rfl ?_
                  refine p_pickF rfl rfl rfl rfl rfl rfl ?_
                  refine p_pure htab rfl rfl rfl rfl ?_
                  refine p_split (i := 91) rfl (fun hg77 => ?_) (fun hg77 => ?_)
                  · replace hm := yes_t hg77 hm
                    refine p_skip rfl rfl rfl ?_
                    refine p_skip rfl rfl rfl ?_
                    refine p_skip rfl rfl rfl ?_
                    refine p_pickT rfl rfl rfl rfl rfl rfl ?_
                    refine p_pure htab rfl rfl rfl rfl ?_
                    obtain ⟨x78, q78, hm⟩ := yes_bind hm
                    refine p_call0 (l05_lives_ok  x78 q78) rfl rfl rfl rfl rfl (WkL.refl _) ?_
                    rintro _ rfl
                    refine p_pickT rfl rfl rfl rfl rfl rfl ?_
                    refine p_pure htab rfl rfl rfl rfl ?_
                    refine ops_nil ?_
                    have e74 := yes_eq hm; subst e74
                    refine ⟨rfl, ?_⟩
                    exact WkX.of () (WkS.perm (WkS.cons rfl (Wk.refl _) (WkS.nil)) (List.Perm.refl _) (List.Perm.refl _))
                  · replace hm := yes_f hg77 hm
                    refine p_pure htab rfl rfl rfl rfl ?_
                    refine p_load 2 htab rfl rfl rfl rfl rfl rfl rfl rfl ?_
                    refine p_pure htab rfl rfl rfl rfl ?_
                    refine p_pickF rfl rfl rfl rfl rfl rfl ?_
                    refine p_pure htab rfl rfl rfl rfl ?_
                    refine p_split (i := 96) rfl (fun hg79 => ?_) (fun hg79 => ?_)
                    · replace hm := yes_t hg79 hm
                      obtain ⟨x80, q80, hm⟩ := yes_bind hm
                      refine p_call0 (l05_lives_ok  x80 q80) rfl rfl rfl rfl rfl (WkL.refl _) ?_
                      rintro _ rfl
                      refine p_pickT rfl rfl rfl rfl rfl rfl ?_
                      refine p_pure htab rfl rfl rfl rfl ?_
                      refine ops_nil ?_
                      have e74 := yes_eq hm; subst e74
                      refine ⟨rfl, ?_⟩
                      exact WkX.of () (WkS.perm (WkS.cons rfl (Wk.refl _) (WkS.nil)) (List.Perm.refl _) (List.Perm.refl _))
                    · replace hm := yes_f hg79 hm
                      refine p_skip rfl rfl rfl ?_
                      refine p_pickF rfl rfl rfl rfl rfl rfl ?_
                      refine p_pure htab rfl rfl rfl rfl ?_
                      refine ops_nil ?_
                      have e74 := yes_eq hm; subst e74
                      refine ⟨rfl, ?_⟩
                      exact WkX.of () (WkS.perm (WkS.cons rfl (Wk.refl _) (WkS.nil)) (List.Perm.refl _) (List.Perm.refl _))
              · intro s74 hw74; clear hm; have hm := ho74; clear q74 ho74
                refine then_normal ?_
                refine wpD_wkX hw74 (fun z74 => ?_)
                refine wpD_ret ?_
                refine then_ret ?_
                have er81 := yes_eq hm; subst er81
                refine retX.of (s' := ⟨[(6, .v (.bool y74))], [], []⟩) (WkS.perm (WkS.cons rfl (Wk.refl _) (WkS.nil)) (List.Perm.refl _) (List.Perm.refl _)) (retD_mk (hh := []) (.inl rfl) (resL_cons (resOne_tmp rfl) (resL_nil)) (List.nil_sublist _) (List.Sublist.refl _) ?_)
                exact ⟨rfl, rfl, rfl⟩
            · replace hm := yes_f hc67 hm
              refine wpD_skip ?_
              refine then_normal ?_
              refine wpD_seq ?_
              refine wpD_region ?_
              refine p_load (d := eTApiCong x3) 2 htab rfl rfl rfl rfl rfl rfl rfl rfl ?_
              refine p_load (d := eTApiCong a0) 0 htab rfl rfl rfl rfl rfl rfl rfl rfl ?_
              obtain ⟨x82, q82, hm⟩ := yes_bind hm
              refine p_call0 (r05_Leq_ok x3 a0 x82 q82) rfl rfl rfl rfl rfl (WkL.refl _) ?_
              rintro _ rfl
              refine p_pure htab rfl rfl rfl rfl ?_
              refine p_split (i := 102) rfl (fun hg83 => ?_) (fun hg83 => ?_)
              · replace hm := yes_t hg83 hm
                refine p_load (d := eTApiCong x3) 2 htab rfl rfl rfl rfl rfl rfl rfl rfl ?_
                refine p_load (d := eTApiCong a1) 1 htab rfl rfl rfl rfl rfl rfl rfl rfl ?_
                obtain ⟨x84, q84, hm⟩ := yes_bind hm
                refine p_call0 (r05_Leq_ok x3 a1 x84 q84) rfl rfl rfl rfl rfl (WkL.refl _) ?_
                rintro _ rfl
                refine p_pickT rfl rfl rfl rfl rfl rfl ?_
                refine p_pure htab rfl rfl rfl rfl ?_
                refine p_split (i := 107) rfl (fun hg85 => ?_) (fun hg85 => ?_)
                · replace hm := yes_t hg85 hm
                  refine p_load (d := eTApiCong x3) 2 htab rfl rfl rfl rfl rfl rfl rfl rfl ?_
                  refine p_pure htab rfl rfl rfl rfl ?_
                  obtain ⟨x86, q86, hm⟩ := yes_bind hm
                  refine p_call0 (r05_Has_ok x3 a2 x86 q86) rfl rfl rfl rfl rfl (WkL.refl _) ?_
                  rintro _ rfl
                  refine p_pure htab rfl rfl rfl rfl ?_
                  refine p_pure htab rfl rfl rfl rfl ?_
                  refine p_pickT rfl rfl rfl rfl rfl rfl ?_
                  refine p_pure htab rfl rfl rfl rfl ?_
                  refine p_split (i := 114) rfl (fun hg87 => ?_) (fun hg87 => ?_)
                  · replace hm := yes_t hg87 hm
                    obtain ⟨x88, q88, hm⟩ := yes_bind hm
                    refine p_call0 (l05_lives_ok  x88 q88) rfl rfl rfl rfl rfl (WkL.refl _) ?_
                    rintro _ rfl
                    refine p_pickT rfl rfl rfl rfl rfl rfl ?_
                    refine p_pure htab rfl rfl rfl rfl ?_
                    refine ops_nil ?_
                    refine then_normal ?_
                    refine wpD_ret ?_
                    have er89 := yes_eq hm; subst er89
                    refine retX.of (s' := ⟨[(6, .v (.bool x88))], [], []⟩) (WkS.perm (WkS.cons rfl (Wk.refl _) (WkS.nil)) (List.Perm.refl _) (List.Perm.refl _)) (retD_mk (hh := []) (.inl rfl) (resL_cons (resOne_tmp rfl) (resL_nil)) (List.nil_sublist _) (List.Sublist.refl _) ?_)
                    exact ⟨rfl, rfl, rfl⟩
                  · replace hm := yes_f hg87 hm
                    refine p_skip rfl rfl rfl ?_
                    refine p_pickF rfl rfl rfl rfl rfl rfl ?_
                    refine p_pure htab rfl rfl rfl rfl ?_
                    refine ops_nil ?_
                    refine then_normal ?_
                    refine wpD_ret ?_
                    have er90 := yes_eq hm; subst er90
                    refine retX.of (s' := ⟨[(6, .v (.bool false))], [], []⟩) (WkS.perm (WkS.cons rfl (Wk.refl _) (WkS.nil)) (List.Perm.refl _) (List.Perm.refl _)) (retD_mk (hh := []) (.inl rfl) (resL_cons (resOne_tmp rfl) (resL_nil)) (List.nil_sublist _) (List.Sublist.refl _) ?_)
                    exact ⟨rfl, rfl, rfl⟩
                · replace hm := yes_f hg85 hm
                  refine p_skip rfl rfl rfl ?_
                  refine p_skip rfl rfl rfl ?_
                  refine p_skip rfl rfl rfl ?_
                  refine p_skip rfl rfl rfl ?_
                  refine p_skip rfl rfl rfl ?_
                  refine p_pickF rfl rfl rfl rfl rfl rfl ?_
                  refine p_pure htab rfl rfl rfl rfl ?_
                  refine p_skip rfl rfl rfl ?_
                  refine p_pickF rfl rfl rfl rfl rfl rfl ?_
                  refine p_pure htab rfl rfl rfl rfl ?_
                  refine ops_nil ?_
                  refine then_normal ?_
                  refine wpD_ret ?_
                  have er91 := yes_eq hm; subst er91
                  refine retX.of (s' := ⟨[(6, .v (.bool false))], [], []⟩) (WkS.perm (WkS.cons rfl (Wk.refl _) (WkS.nil)) (List.Perm.refl _) (List.Perm.refl _)) (retD_mk (hh := []) (.inl rfl) (resL_cons (resOne_tmp rfl) (resL_nil)) (List.nil_sublist _) (List.Sublist.refl _) ?_)
                  exact ⟨rfl, rfl, rfl⟩
              · replace hm := yes_f hg83 hm
                refine p_skip rfl rfl rfl ?_
                refine p_skip rfl rfl rfl ?_
                refine p_skip rfl rfl rfl ?_
                refine p_pickF rfl rfl rfl rfl rfl rfl ?_
                refine p_pure htab rfl rfl rfl rfl ?_
                refine p_skip rfl rfl rfl ?_
                refine p_skip rfl rfl rfl ?_
                refine p_skip rfl rfl rfl ?_
                refine p_skip rfl rfl rfl ?_
                refine p_skip rfl rfl rfl ?_
                refine p_pickF rfl rfl rfl rfl rfl rfl ?_
                refine p_pure htab rfl rfl rfl rfl ?_
                refine p_skip rfl rfl rfl ?_
                refine p_pickF rfl rfl rfl rfl rfl rfl ?_
                refine p_pure htab rfl rfl rfl rfl ?_
                refine ops_nil ?_
                refine then_normal ?_
                refine wpD_ret ?_
                have er92 := yes_eq hm; subst er92
                refine retX.of (s' := ⟨[(6, .v (.bool false))], [], []⟩) (WkS.perm (WkS.cons rfl (Wk.refl _) (WkS.nil)) (List.Perm.refl _) (List.Perm.refl _)) (retD_mk (hh := []) (.inl rfl) (resL_cons (resOne_tmp rfl) (resL_nil)) (List.nil_sublist _) (List.Sublist.refl _) ?_)
                exact ⟨rfl, rfl, rfl⟩
noncomputable def l05_CongFinds (a0 : TApiCong) (a1 : TApiCong) (a2 : Int) : Option (Bool) :=
  ((cong_Meet (⟨a0.gSome, a0.gM, a2⟩ : TApiCong) (⟨a1.gSome, a1.gM, a2⟩ : TApiCong)).bind fun x5 => (Option.bind (α := Bool) (bif a0.gSome then (bif a1.gSome then ((r05_Has x5 a2).bind fun x15 => (bif (!x15) then some true else ((r05_Leq (⟨true, (0 : Int), a2⟩ : TApiCong) x5).bind fun x17 => some (!x17)))) else some false) else some false) fun y12 => (bif y12 then some false else (bif a0.gSome then (bif (x5.gSome == a1.gSome) then ((cong_Meet a0 a0).bind fun x23 => ((r05_Leq x23 a0).bind fun x24 => (bif x24 then ((cong_Meet a0 a0).bind fun x26 => ((cong_Same x26 a0).bind fun x27 => (bif x27 then (l05_lives.bind fun x29 => some x29) else some false))) else some false))) else some false) else (bif (x5.gSome == false) then ((cong_Meet a0 a0).bind fun x35 => ((r05_Leq x35 a0).bind fun x36 => (bif x36 then ((cong_Meet a0 a0).bind fun x38 => ((cong_Same x38 a0).bind fun x39 => (bif x39 then (l05_lives.bind fun x41 => some x41) else some false))) else some false))) else some false)))))
set_option maxRecDepth 100000 in
set_option maxHeartbeats 2000000 in
theorem l05_CongFinds_ok (a0 : TApiCong) (a1 : TApiCong) (a2 : Int) (r : Bool) (h0 : l05_CongFinds a0 a1 a2 = some r) : CallsD Try.prog 6 [eTApiCong a0, eTApiCong a1, .v (.int .i64 a2)] [] [] (fun d h k => d = .v (.bool r) ∧ h = [] ∧ k = []) := by
  have hm := yes_of h0
  unfold l05_CongFinds at hm
  clear h0
  refine enterX htab Try.func6 rfl rfl rfl rfl rfl (fun C => ?_)
  refine wpD_seq ?_
  refine wpD_region ?_
  refine p_box rfl rfl rfl rfl rfl rfl rfl (fun b1 => ?_)
  refine p_box rfl rfl rfl rfl rfl rfl rfl (fun b2 => ?_)
  refine p_pure htab rfl rfl rfl rfl ?_
  refine ops_nil ?_
  refine then_normal ?_
  refine wpD_seq ?_
  refine wpD_region ?_
  refine p_pure htab rfl rfl rfl rfl ?_
  refine p_load 0 htab rfl rfl rfl rfl rfl rfl rfl rfl ?_
  refine p_pure htab rfl rfl rfl rfl ?_
  refine p_load 0 htab rfl rfl rfl rfl rfl rfl rfl rfl ?_
  refine p_pure htab rfl rfl rfl rfl ?_
  refine p_build (r := [.v (.bool a0.gSome), .v (.int .i64 a0.gM), .v (.int .i64 a2)]) htab rfl rfl rfl rfl rfl rfl rfl rfl rfl ?_
  refine p_alloc htab rfl rfl rfl rfl rfl rfl rfl (fun b3 => ?_)
  refine p_store (ds' := [.v (.bool a0.gSome), .v (.int .i64 a0.gM), .v (.int .i64 a2)]) (h' := [(b1, Blk.cells [.v (.bool a0.gSome), .v (.int .i64 a0.gM), .v (.int .i64 a0.gR)] 25), (b2, Blk.cells [.v (.bool a1.gSome), .v (.int .i64 a1.gM), .v (.int .i64 a1.gR)] 25), (b3, Blk.cells [.v (.bool a0.gSome), .v (.int .i64 a0.gM), .v (.int .i64 a2)] 25)]) 2 htab rfl rfl rfl rfl rfl rfl rfl rfl rfl rfl rfl rfl ?_
  refine ops_nil ?_
  refine then_normal ?_
  refine wpD_seq ?_
  refine wpD_region ?_
  refine p_pure htab rfl rfl rfl rfl ?_
  refine p_load 1 htab rfl rfl rfl rfl rfl rfl rfl rfl ?_
  refine p_pure htab rfl rfl rfl rfl ?_
  refine p_load 1 htab rfl rfl rfl rfl rfl rfl rfl rfl ?_
  refine p_pure htab rfl rfl rfl rfl ?_
  refine p_build (r := [.v (.bool a1.gSome), .v (.int .i64 a1.gM), .v (.int .i64 a2)]) htab rfl rfl rfl rfl rfl rfl rfl rfl rfl ?_
  refine p_alloc htab rfl rfl rfl rfl rfl rfl rfl (fun b4 => ?_)
  refine p_store (ds' := [.v (.bool a1.gSome), .v (.int .i64 a1.gM), .v (.int .i64 a2)]) (h' := [(b1, Blk.cells [.v (.bool a0.gSome), .v (.int .i64 a0.gM), .v (.int .i64 a0.gR)] 25), (b2, Blk.cells [.v (.bool a1.gSome), .v (.int .i64 a1.gM), .v (.int .i64 a1.gR)] 25), (b3, Blk.cells [.v (.bool a0.gSome), .v (.int .i64 a0.gM), .v (.int .i64 a2)] 25), (b4, Blk.cells [.v (.bool a1.gSome), .v (.int .i64 a1.gM), .v (.int .i64 a2)] 25)]) 3 htab rfl rfl rfl rfl rfl rfl rfl rfl rfl rfl rfl rfl ?_
  refine ops_nil ?_
  refine then_normal ?_
  refine wpD_seq ?_
  refine wpD_region ?_
  refine p_load (d := eTApiCong (⟨a0.gSome, a0.gM, a2⟩ : TApiCong)) 2 htab rfl rfl rfl rfl rfl rfl rfl rfl ?_
  refine p_load (d := eTApiCong (⟨a1.gSome, a1.gM, a2⟩ : TApiCong)) 3 htab rfl rfl rfl rfl rfl rfl rfl rfl ?_
  obtain ⟨x5, q5, hm⟩ := yes_bind hm
  refine p_call0 (cong_Meet_ok (⟨a0.gSome, a0.gM, a2⟩ : TApiCong) (⟨a1.gSome, a1.gM, a2⟩ : TApiCong) x5 q5) rfl rfl rfl rfl rfl (WkL.refl _) ?_
  rintro _ rfl
  refine p_alloc htab rfl rfl rfl rfl rfl rfl rfl (fun b6 => ?_)
  refine p_store (ds' := [.v (.bool x5.gSome), .v (.int .i64 x5.gM), .v (.int .i64 x5.gR)]) (h' := [(b1, Blk.cells [.v (.bool a0.gSome), .v (.int .i64 a0.gM), .v (.int .i64 a0.gR)] 25), (b2, Blk.cells [.v (.bool a1.gSome), .v (.int .i64 a1.gM), .v (.int .i64 a1.gR)] 25), (b3, Blk.cells [.v (.bool a0.gSome), .v (.int .i64 a0.gM), .v (.int .i64 a2)] 25), (b4, Blk.cells [.v (.bool a1.gSome), .v (.int .i64 a1.gM), .v (.int .i64 a2)] 25), (b6, Blk.cells [.v (.bool x5.gSome), .v (.int .i64 x5.gM), .v (.int .i64 x5.gR)] 25)]) 4 htab rfl rfl rfl rfl rfl rfl rfl rfl rfl rfl rfl rfl ?_
  refine ops_nil ?_
  refine then_normal ?_
  refine wpD_seq ?_
  refine wpD_seq ?_
  obtain ⟨y12, q12, ho12⟩ := yes_bind hm
  refine wpD_mid (Y := Unit) (fun z12 => (⟨[(3, .ptr b1 0), (4, .ptr b2 0), (9, .ptr b6 0), (43, .v (.bool y12))], [(b1, Blk.cells [.v (.bool a0.gSome), .v (.int .i64 a0.gM), .v (.int .i64 a0.gR)] 25), (b2, Blk.cells [.v (.bool a1.gSome), .v (.int .i64 a1.gM), .v (.int .i64 a1.gR)] 25), (b3, Blk.cells [.v (.bool a0.gSome), .v (.int .i64 a0.gM), .v (.int .i64 a2)] 25), (b4, Blk.cells [.v (.bool a1.gSome), .v (.int .i64 a1.gM), .v (.int .i64 a2)] 25), (b6, Blk.cells [.v (.bool x5.gSome), .v (.int .i64 x5.gM), .v (.int .i64 x5.gR)] 25)], []⟩ : S)) ?_ ?_
  · clear hm; have hm := yes_of q12
    refine wpD_region ?_
    refine p_pure htab rfl rfl rfl rfl ?_
    refine p_load 0 htab rfl rfl rfl rfl rfl rfl rfl rfl ?_
    refine p_pure htab rfl rfl rfl rfl ?_
    refine p_split (i := 27) rfl (fun hg13 => ?_) (fun hg13 => ?_)
    · replace hm := yes_t hg13 hm
      refine p_pure htab rfl rfl rfl rfl ?_
      refine p_load 1 htab rfl rfl rfl rfl rfl rfl rfl rfl ?_
      refine p_pickT rfl rfl rfl rfl rfl rfl ?_
      refine p_pure htab rfl rfl rfl rfl ?_
      refine p_split (i := 31) rfl (fun hg14 => ?_) (fun hg14 => ?_)
      · replace hm := yes_t hg14 hm
        refine p_load (d := eTApiCong x5) 4 htab rfl rfl rfl rfl rfl rfl rfl rfl ?_
        refine p_pure htab rfl rfl rfl rfl ?_
        obtain ⟨x15, q15, hm⟩ := yes_bind hm
        refine p_call0 (r05_Has_ok x5 a2 x15 q15) rfl rfl rfl rfl rfl (WkL.refl _) ?_
        rintro _ rfl
        refine p_pure htab rfl rfl rfl rfl ?_
        refine p_pure htab rfl rfl rfl rfl ?_
        refine p_split (i := 36) rfl (fun hg16 => ?_) (fun hg16 => ?_)
        · replace hm := yes_t hg16 hm
          refine p_skip rfl rfl rfl ?_
          refine p_skip rfl rfl rfl ?_
          refine p_skip rfl rfl rfl ?_
          refine p_skip rfl rfl rfl ?_
          refine p_skip rfl rfl rfl ?_
          refine p_pickT rfl rfl rfl rfl rfl rfl ?_
          refine p_pickT rfl rfl rfl rfl rfl rfl ?_
          refine ops_nil ?_
          have e12 := yes_eq hm; subst e12
          refine ⟨rfl, ?_⟩
          exact WkX.of () (WkS.perm (WkS.cons rfl (Wk.refl _) (WkS.cons rfl (Wk.refl _) (WkS.cons rfl (Wk.refl _) (WkS.cons rfl (Wk.refl _) (WkS.nil))))) (List.Perm.refl _) (List.Perm.refl _))
        · replace hm := yes_f hg16 hm
          refine p_pure htab rfl rfl rfl rfl ?_
          refine p_build (r := [.v (.bool true), .v (.int .i64 (0 : Int)), .v (.int .i64 a2)]) htab rfl rfl rfl rfl rfl rfl rfl rfl rfl ?_
          refine p_load (d := eTApiCong x5) 4 htab rfl rfl rfl rfl rfl rfl rfl rfl ?_
          obtain ⟨x17, q17, hm⟩ := yes_bind hm
          refine p_call0 (r05_Leq_ok (⟨true, (0 : Int), a2⟩ : TApiCong) x5 x17 q17) rfl rfl rfl rfl rfl (WkL.refl _) ?_
          rintro _ rfl
          refine p_pure htab rfl rfl rfl rfl ?_
          refine p_pickF rfl rfl rfl rfl rfl rfl ?_
          refine p_pickT rfl rfl rfl rfl rfl rfl ?_
          refine ops_nil ?_
          have e12 := yes_eq hm; subst e12
          refine ⟨rfl, ?_⟩
          exact WkX.of () (WkS.perm (WkS.cons rfl (Wk.refl _) (WkS.cons rfl (Wk.refl _) (WkS.cons rfl (Wk.refl _) (WkS.cons rfl (Wk.refl _) (WkS.nil))))) (List.Perm.refl _) (List.Perm.refl _))
      · replace hm := yes_f hg14 hm
        refine p_skip rfl rfl rfl ?_
        refine p_skip rfl rfl rfl ?_
        refine p_skip rfl rfl rfl ?_
        refine p_skip rfl rfl rfl ?_
        refine p_skip rfl rfl rfl ?_
        refine p_skip rfl rfl rfl ?_
        refine p_skip rfl rfl rfl ?_
        refine p_skip rfl rfl rfl ?_
        refine p_skip rfl rfl rfl ?_
        refine p_skip rfl rfl rfl ?_
        refine p_skip rfl rfl rfl ?_
        refine p_pickF rfl rfl rfl rfl rfl rfl ?_
        refine ops_nil ?_
        have e12 := yes_eq hm; subst e12
        refine ⟨rfl, ?_⟩
        exact WkX.of () (WkS.perm (WkS.cons rfl (Wk.refl _) (WkS.cons rfl (Wk.refl _) (WkS.cons rfl (Wk.refl _) (WkS.cons rfl (Wk.refl _) (WkS.nil))))) (List.Perm.refl _) (List.Perm.refl _))
    · replace hm := yes_f hg13 hm
      refine p_skip rfl rfl rfl ?_
      refine p_skip rfl rfl rfl ?_
      refine p_pickF rfl rfl rfl rfl rfl rfl ?_
      refine p_pure htab rfl rfl rfl rfl ?_
      refine p_skip rfl rfl rfl ?_
      refine p_skip rfl rfl rfl ?_
      refine p_skip rfl rfl rfl ?_
      refine p_skip rfl rfl rfl ?_
      refine p_skip rfl rfl rfl ?_
      refine p_skip rfl rfl rfl ?_
      refine p_skip rfl rfl rfl ?_
      refine p_skip rfl rfl rfl ?_
      refine p_skip rfl rfl rfl ?_
      refine p_skip rfl rfl rfl ?_
      refine p_skip rfl rfl rfl ?_
      refine p_pickF rfl rfl rfl rfl rfl rfl ?_
      refine ops_nil ?_
      have e12 := yes_eq hm; subst e12
      refine ⟨rfl, ?_⟩
      exact WkX.of () (WkS.perm (WkS.cons rfl (Wk.refl _) (WkS.cons rfl (Wk.refl _) (WkS.cons rfl (Wk.refl _) (WkS.cons rfl (Wk.refl _) (WkS.nil))))) (List.Perm.refl _) (List.Perm.refl _))
  · intro s12 hw12; clear hm; have hm := ho12; clear q12 ho12
    refine then_normal ?_
    refine wpD_wkX hw12 (fun z12 => ?_)
    refine wpD_cond rfl (fun hc19 => ?_) (fun hc19 => ?_)
    · replace hm := yes_t hc19 hm
      refine wpD_seq ?_
      refine wpD_region ?_
      refine p_pure htab rfl rfl rfl rfl ?_
      refine ops_nil ?_
      refine then_normal ?_
      refine wpD_ret ?_
      refine then_ret ?_
      have er20 := yes_eq hm; subst er20
      refine retX.of (s' := ⟨[(6, .v (.bool false))], [], []⟩) (WkS.perm (WkS.cons rfl (Wk.refl _) (WkS.nil)) (List.Perm.refl _) (List.Perm.refl _)) (retD_mk (hh := []) (.inl rfl) (resL_cons (resOne_tmp rfl) (resL_nil)) (List.nil_sublist _) (List.Sublist.refl _) ?_)
      exact ⟨rfl, rfl, rfl⟩
    · replace hm := yes_f hc19 hm
      refine wpD_skip ?_
      refine then_normal ?_
      refine wpD_seq ?_
      refine bycB a0.gSome (fun hs21 => ?_) (fun hs21 => ?_)
      · replace hm := yes_t hs21 hm
        refine bycB (x5.gSome == a1.gSome) (fun hs22 => ?_) (fun hs22 => ?_)
        · replace hm := yes_t hs22 hm
          obtain ⟨x23, q23, hm⟩ := yes_bind hm
          obtain ⟨x24, q24, hm⟩ := yes_bind hm
          refine bycB x24 (fun hs25 => ?_) (fun hs25 => ?_)
          · replace hm := yes_t hs25 hm
            obtain ⟨x26, q26, hm⟩ := yes_bind hm
            refine wpD_draws 21 [] [[],[0],[],[2],[2],[2],[2,5],[2,5],[0,2,5],[0,2,5],[0,2,5],[0,2,5],[0,2,5,10,11],[0,2,5],[0,2,5,10,11,12,13],[0,2,5,10,11,12,13,14],[0,2,5,10,11,12,13,14],[0,2,5,10,11,12,13,14],[0,2,5,10,11,12,13,14],[0,2,5,10,11,12,13,14,17,18],[0,2,5,10,11,12,13,14]] [0,2,5,10,11,12,13,14,17,18,19,20] [[],[0],[],[2],[2,3],[2,3,4],[2,3,4,5],[2,3,4,5,6],[0,1,2,3,4,5,6,7],[0,1,2,3,4,5,6,7,8],[0,1,2,3,4,5,6,7,8,9],[0,1,2,3,4,5,6,7,8,9],[0,1,2,3,4,5,6,7,8,9,10,11],[0,1,2,3,4,5,6,7,8,9],[0,1,2,3,4,5,6,7,8,9,10,11,12,13],[0,1,2,3,4,5,6,7,8,9,10,11,12,13,14],[0,1,2,3,4,5,6,7,8,9,10,11,12,13,14,15],[0,1,2,3,4,5,6,7,8,9,10,11,12,13,14,15,16],[0,1,2,3,4,5,6,7,8,9,10,11,12,13,14,15,16],[0,1,2,3,4,5,6,7,8,9,10,11,12,13,14,15,16,17,18],[0,1,2,3,4,5,6,7,8,9,10,11,12,13,14,15,16],[0,1,2,3,4,5,6,7,8,9,10,11,12,13,14,15,16,17,18,19,20],[0,1,2,3,4,5,6,7,8,9,10,11,12,13,14,15,16,17,18,19,20,21],[0,1,2,3,4,5,6,7,8,9,10,11,12,13,14,15,16,17,18,19,20,21,22],[0,1,2,3,4,5,6,7,8,9,10,11,12,13,14,15,16,17,18,19,20,21,22,23],[0,1,2,3,4,5,6,7,8,9,10,11,12,13,14,15,16,17,18,19,20,21,22,23,24],[0,1,2,3,4,5,6,7,8,9,10,11,12,13,14,15,16,17,18,19,20,21,22,23,24,25]] (by kernel_rfl) (by kernel_rfl) (by kernel_rfl) (by rfl) (by rfl) (by kernel_rfl) ?_
            apply Exists.intro
            apply Exists.intro
            apply Exists.intro
            apply Exists.intro
            apply Exists.intro
            apply Exists.intro
            apply Exists.intro
            apply Exists.intro
            apply Exists.intro
            apply Exists.intro
            apply Exists.intro
            apply Exists.intro
            intro bs
            refine z_e rfl rfl (ex_pure htab rfl) rfl rfl rfl rfl rfl rfl ?_
            refine z_qM rfl rfl (xm_load 4 htab rfl rfl rfl rfl rfl) rfl rfl rfl rfl rfl rfl ?_
            refine z_e rfl rfl (ex_pure htab rfl) rfl rfl rfl rfl rfl rfl ?_
            refine z_qM rfl rfl (xm_load 0 htab rfl rfl rfl rfl rfl) rfl rfl rfl rfl rfl rfl ?_
            refine z_q rfl rfl (ex_pure htab rfl) rfl rfl rfl rfl rfl rfl ?_
            refine z_known (j := 48) (b' := true) rfl hs21 ?_
            refine z_e rfl rfl (ex_pure htab rfl) rfl rfl rfl rfl rfl rfl ?_
            refine z_qM rfl rfl (xm_load 1 htab rfl rfl rfl rfl rfl) rfl rfl rfl rfl rfl rfl ?_
            refine z_q rfl rfl (x_pickT rfl rfl rfl) rfl rfl rfl rfl rfl rfl ?_
            refine z_q rfl rfl (ex_pure htab rfl) rfl rfl rfl rfl rfl rfl ?_
            refine z_q rfl rfl (ex_pure htab rfl) rfl rfl rfl rfl rfl rfl ?_
            refine z_known (j := 53) (b' := true) rfl hs22 ?_
            refine z_eM rfl rfl (xm_load (d := eTApiCong a0) 0 htab rfl rfl rfl rfl rfl) rfl rfl rfl rfl rfl rfl ?_
            refine z_eM rfl rfl (xm_load (d := eTApiCong a0) 0 htab rfl rfl rfl rfl rfl) rfl rfl rfl rfl rfl rfl ?_
            refine z_call rfl rfl (cong_Meet_ok a0 a0 x23 q23) rfl rfl (WkL.refl _) rfl rfl rfl rfl rfl rfl ?_
            refine z_eM rfl rfl (xm_load (d := eTApiCong a0) 0 htab rfl rfl rfl rfl rfl) rfl rfl rfl rfl rfl rfl ?_
            refine z_call rfl rfl (r05_Leq_ok x23 a0 x24 q24) rfl rfl (WkL.refl _) rfl rfl rfl rfl rfl rfl ?_
            refine z_q rfl rfl (x_pickT rfl rfl rfl) rfl rfl rfl rfl rfl rfl ?_
            refine z_q rfl rfl (ex_pure htab rfl) rfl rfl rfl rfl rfl rfl ?_
            refine z_known (j := 60) (b' := true) rfl hs25 ?_
            refine z_eM rfl rfl (xm_load (d := eTApiCong a0) 0 htab rfl rfl rfl rfl rfl) rfl rfl rfl rfl rfl rfl ?_
            refine z_eM rfl rfl (xm_load (d := eTApiCong a0) 0 htab rfl rfl rfl rfl rfl) rfl rfl rfl rfl rfl rfl ?_
            refine z_call rfl rfl (cong_Meet_ok a0 a0 x26 q26) rfl rfl (WkL.refl _) rfl rfl rfl rfl rfl rfl ?_
            refine z_eM rfl rfl (xm_load (d := eTApiCong a0) 0 htab rfl rfl rfl rfl rfl) rfl rfl rfl rfl rfl rfl ?_
            refine z_nil rfl rfl (fun e he => by simp [isAl] at he) ?_
            obtain ⟨x27, q27, hm⟩ := yes_bind hm
            refine p_call0 (cong_Same_ok x26 a0 x27 q27) rfl rfl rfl rfl rfl (WkL.refl _) ?_
            rintro _ rfl
            refine p_pickT rfl rfl rfl rfl rfl rfl ?_
            refine p_pure htab rfl rfl rfl rfl ?_
            refine p_split (i := 67) rfl (fun hg28 => ?_) (fun hg28 => ?_)
            · replace hm := yes_t hg28 hm
              obtain ⟨x29, q29, hm⟩ := yes_bind hm
              refine p_call0 (l05_lives_ok  x29 q29) rfl rfl rfl rfl rfl (WkL.refl _) ?_
              rintro _ rfl
              refine p_pickT rfl rfl rfl rfl rfl rfl ?_
              refine p_pure htab rfl rfl rfl rfl ?_
              refine ops_nil ?_
              refine then_normal ?_
              refine wpD_ret ?_
              have er30 := yes_eq hm; subst er30
              refine retX.of (s' := ⟨[(6, .v (.bool x29))], [], []⟩) (WkS.perm (WkS.cons rfl (Wk.refl _) (WkS.nil)) (List.Perm.refl _) (List.Perm.refl _)) (retD_mk (hh := []) (.inl rfl) (resL_cons (resOne_tmp rfl) (resL_nil)) (List.nil_sublist _) (List.Sublist.refl _) ?_)
              exact ⟨rfl, rfl, rfl⟩
            · replace hm := yes_f hg28 hm
              refine p_skip rfl rfl rfl ?_
              refine p_pickF rfl rfl rfl rfl rfl rfl ?_
              refine p_pure htab rfl rfl rfl rfl ?_
              refine ops_nil ?_
              refine then_normal ?_
              refine wpD_ret ?_
              have er31 := yes_eq hm; subst er31
              refine retX.of (s' := ⟨[(6, .v (.bool false))], [], []⟩) (WkS.perm (WkS.cons rfl (Wk.refl _) (WkS.nil)) (List.Perm.refl _) (List.Perm.refl _)) (retD_mk (hh := []) (.inl rfl) (resL_cons (resOne_tmp rfl) (resL_nil)) (List.nil_sublist _) (List.Sublist.refl _) ?_)
              exact ⟨rfl, rfl, rfl⟩
          · replace hm := yes_f hs25 hm
            refine wpD_draws 21 [] [[],[0],[],[2],[2],[2],[2,5],[2,5],[0,2,5],[0,2,5],[0,2,5],[0,2,5],[0,2,5,10,11],[0,2,5],[0,2,5,10,11,12,13],[0,2,5,10,11,12,13,14],[0,2,5,10,11,12,13,14],[0,2,5,10,11,12,13,14],[0,2,5,10,11,12,13,14],[0,2,5,10,11,12,13,14],[0,2,5,10,11,12,13,14]] [0,2,5,10,11,12,13,14] [[],[0],[],[2],[2,3],[2,3,4],[2,3,4,5],[2,3,4,5,6],[0,1,2,3,4,5,6,7],[0,1,2,3,4,5,6,7,8],[0,1,2,3,4,5,6,7,8,9],[0,1,2,3,4,5,6,7,8,9],[0,1,2,3,4,5,6,7,8,9,10,11],[0,1,2,3,4,5,6,7,8,9],[0,1,2,3,4,5,6,7,8,9,10,11,12,13],[0,1,2,3,4,5,6,7,8,9,10,11,12,13,14],[0,1,2,3,4,5,6,7,8,9,10,11,12,13,14,15],[0,1,2,3,4,5,6,7,8,9,10,11,12,13,14,15,16],[0,1,2,3,4,5,6,7,8,9,10,11,12,13,14,15,16],[0,1,2,3,4,5,6,7,8,9,10,11,12,13,14,15,16,17,18],[0,1,2,3,4,5,6,7,8,9,10,11,12,13,14,15,16],[0,1,2,3,4,5,6,7,8,9,10,11,12,13,14,15,16,17,18,19,20],[0,1,2,3,4,5,6,7,8,9,10,11,12,13,14,15,16,17,18,19,20,21],[0,1,2,3,4,5,6,7,8,9,10,11,12,13,14,15,16,17,18,19,20,21,22],[0,1,2,3,4,5,6,7,8,9,10,11,12,13,14,15,16,17,18,19,20,21,22,23],[0,1,2,3,4,5,6,7,8,9,10,11,12,13,14,15,16,17,18,19,20,21,22,23,24],[0,1,2,3,4,5,6,7,8,9,10,11,12,13,14,15,16,17,18,19,20,21,22,23,24,25]] (by kernel_rfl) (by kernel_rfl) (by kernel_rfl) (by rfl) (by rfl) (by kernel_rfl) ?_
            apply Exists.intro
            apply Exists.intro
            apply Exists.intro
            apply Exists.intro
            apply Exists.intro
            apply Exists.intro
            apply Exists.intro
            apply Exists.intro
            intro bs
            refine z_e rfl rfl (ex_pure htab rfl) rfl rfl rfl rfl rfl rfl ?_
            refine z_qM rfl rfl (xm_load 4 htab rfl rfl rfl rfl rfl) rfl rfl rfl rfl rfl rfl ?_
            refine z_e rfl rfl (ex_pure htab rfl) rfl rfl rfl rfl rfl rfl ?_
            refine z_qM rfl rfl (xm_load 0 htab rfl rfl rfl rfl rfl) rfl rfl rfl rfl rfl rfl ?_
            refine z_q rfl rfl (ex_pure htab rfl) rfl rfl rfl rfl rfl rfl ?_
            refine z_known (j := 48) (b' := true) rfl hs21 ?_
            refine z_e rfl rfl (ex_pure htab rfl) rfl rfl rfl rfl rfl rfl ?_
            refine z_qM rfl rfl (xm_load 1 htab rfl rfl rfl rfl rfl) rfl rfl rfl rfl rfl rfl ?_
            refine z_q rfl rfl (x_pickT rfl rfl rfl) rfl rfl rfl rfl rfl rfl ?_
            refine z_q rfl rfl (ex_pure htab rfl) rfl rfl rfl rfl rfl rfl ?_
            refine z_q rfl rfl (ex_pure htab rfl) rfl rfl rfl rfl rfl rfl ?_
            refine z_known (j := 53) (b' := true) rfl hs22 ?_
            refine z_eM rfl rfl (xm_load (d := eTApiCong a0) 0 htab rfl rfl rfl rfl rfl) rfl rfl rfl rfl rfl rfl ?_
            refine z_eM rfl rfl (xm_load (d := eTApiCong a0) 0 htab rfl rfl rfl rfl rfl) rfl rfl rfl rfl rfl rfl ?_
            refine z_call rfl rfl (cong_Meet_ok a0 a0 x23 q23) rfl rfl (WkL.refl _) rfl rfl rfl rfl rfl rfl ?_
            refine z_eM rfl rfl (xm_load (d := eTApiCong a0) 0 htab rfl rfl rfl rfl rfl) rfl rfl rfl rfl rfl rfl ?_
            refine z_call rfl rfl (r05_Leq_ok x23 a0 x24 q24) rfl rfl (WkL.refl _) rfl rfl rfl rfl rfl rfl ?_
            refine z_q rfl rfl (x_pickT rfl rfl rfl) rfl rfl rfl rfl rfl rfl ?_
            refine z_q rfl rfl (ex_pure htab rfl) rfl rfl rfl rfl rfl rfl ?_
            refine z_known (j := 60) (b' := false) rfl hs25 ?_
            refine z_skip rfl rfl rfl rfl ?_
            refine z_skip rfl rfl rfl rfl ?_
            refine z_skip rfl rfl rfl rfl ?_
            refine z_skip rfl rfl rfl rfl ?_
            refine z_nil rfl rfl (fun e he => by simp [isAl] at he) ?_
            refine p_skip rfl rfl rfl ?_
            refine p_pickF rfl rfl rfl rfl rfl rfl ?_
            refine p_pure htab rfl rfl rfl rfl ?_
            refine p_skip rfl rfl rfl ?_
            refine p_pickF rfl rfl rfl rfl rfl rfl ?_
            refine p_pure htab rfl rfl rfl rfl ?_
            refine ops_nil ?_
            refine then_normal ?_
            refine wpD_ret ?_
            have er32 := yes_eq hm; subst er32
            refine retX.of (s' := ⟨[(6, .v (.bool false))], [], []⟩) (WkS.perm (WkS.cons rfl (Wk.refl _) (WkS.nil)) (List.Perm.refl _) (List.Perm.refl _)) (retD_mk (hh := []) (.inl rfl) (resL_cons (resOne_tmp rfl) (resL_nil)) (List.nil_sublist _) (List.Sublist.refl _) ?_)
            exact ⟨rfl, rfl, rfl⟩
        · replace hm := yes_f hs22 hm
          refine wpD_draws 21 [] [[],[0],[],[2],[2],[2],[2,5],[2,5],[0,2,5],[0,2,5],[0,2,5],[0,2,5],[0,2,5],[0,2,5],[0,2,5],[0,2,5],[0,2,5],[0,2,5],[0,2,5],[0,2,5],[0,2,5]] [0,2,5] [[],[0],[],[2],[2,3],[2,3,4],[2,3,4,5],[2,3,4,5,6],[0,1,2,3,4,5,6,7],[0,1,2,3,4,5,6,7,8],[0,1,2,3,4,5,6,7,8,9],[0,1,2,3,4,5,6,7,8,9],[0,1,2,3,4,5,6,7,8,9,10,11],[0,1,2,3,4,5,6,7,8,9],[0,1,2,3,4,5,6,7,8,9,10,11,12,13],[0,1,2,3,4,5,6,7,8,9,10,11,12,13,14],[0,1,2,3,4,5,6,7,8,9,10,11,12,13,14,15],[0,1,2,3,4,5,6,7,8,9,10,11,12,13,14,15,16],[0,1,2,3,4,5,6,7,8,9,10,11,12,13,14,15,16],[0,1,2,3,4,5,6,7,8,9,10,11,12,13,14,15,16,17,18],[0,1,2,3,4,5,6,7,8,9,10,11,12,13,14,15,16],[0,1,2,3,4,5,6,7,8,9,10,11,12,13,14,15,16,17,18,19,20],[0,1,2,3,4,5,6,7,8,9,10,11,12,13,14,15,16,17,18,19,20,21],[0,1,2,3,4,5,6,7,8,9,10,11,12,13,14,15,16,17,18,19,20,21,22],[0,1,2,3,4,5,6,7,8,9,10,11,12,13,14,15,16,17,18,19,20,21,22,23],[0,1,2,3,4,5,6,7,8,9,10,11,12,13,14,15,16,17,18,19,20,21,22,23,24],[0,1,2,3,4,5,6,7,8,9,10,11,12,13,14,15,16,17,18,19,20,21,22,23,24,25]] (by kernel_rfl) (by kernel_rfl) (by kernel_rfl) (by rfl) (by rfl) (by kernel_rfl) ?_
          apply Exists.intro
          apply Exists.intro
          apply Exists.intro
          intro bs
          refine z_e rfl rfl (ex_pure htab rfl) rfl rfl rfl rfl rfl rfl ?_
          refine z_qM rfl rfl (xm_load 4 htab rfl rfl rfl rfl rfl) rfl rfl rfl rfl rfl rfl ?_
          refine z_e rfl rfl (ex_pure htab rfl) rfl rfl rfl rfl rfl rfl ?_
          refine z_qM rfl rfl (xm_load 0 htab rfl rfl rfl rfl rfl) rfl rfl rfl rfl rfl rfl ?_
          refine z_q rfl rfl (ex_pure htab rfl) rfl rfl rfl rfl rfl rfl ?_
          refine z_known (j := 48) (b' := true) rfl hs21 ?_
          refine z_e rfl rfl (ex_pure htab rfl) rfl rfl rfl rfl rfl rfl ?_
          refine z_qM rfl rfl (xm_load 1 htab rfl rfl rfl rfl rfl) rfl rfl rfl rfl rfl rfl ?_
          refine z_q rfl rfl (x_pickT rfl rfl rfl) rfl rfl rfl rfl rfl rfl ?_
          refine z_q rfl rfl (ex_pure htab rfl) rfl rfl rfl rfl rfl rfl ?_
          refine z_q rfl rfl (ex_pure htab rfl) rfl rfl rfl rfl rfl rfl ?_
          refine z_known (j := 53) (b' := false) rfl hs22 ?_
          refine z_skip rfl rfl rfl rfl ?_
          refine z_skip rfl rfl rfl rfl ?_
          refine z_skip rfl rfl rfl rfl ?_
          refine z_skip rfl rfl rfl rfl ?_
          refine z_skip rfl rfl rfl rfl ?_
          refine z_q rfl rfl (x_pickF rfl rfl rfl) rfl rfl rfl rfl rfl rfl ?_
          refine z_q rfl rfl (ex_pure htab rfl) rfl rfl rfl rfl rfl rfl ?_
          refine z_skip rfl rfl rfl rfl ?_
          refine z_skip rfl rfl rfl rfl ?_
          refine z_skip rfl rfl rfl rfl ?_
          refine z_skip rfl rfl rfl rfl ?_
          refine z_nil rfl rfl (fun e he => by simp [isAl] at he) ?_
          refine p_skip rfl rfl rfl ?_
          refine p_pickF rfl rfl rfl rfl rfl rfl ?_
          refine p_pure htab rfl rfl rfl rfl ?_
          refine p_skip rfl rfl rfl ?_
          refine p_pickF rfl rfl rfl rfl rfl rfl ?_
          refine p_pure htab rfl rfl rfl rfl ?_
          refine ops_nil ?_
          refine then_normal ?_
          refine wpD_ret ?_
          have er33 := yes_eq hm; subst er33
          refine retX.of (s' := ⟨[(6, .v (.bool false))], [], []⟩) (WkS.perm (WkS.cons rfl (Wk.refl _) (WkS.nil)) (List.Perm.refl _) (List.Perm.refl _)) (retD_mk (hh := []) (.inl rfl) (resL_cons (resOne_tmp rfl) (resL_nil)) (List.nil_sublist _) (List.Sublist.refl _) ?_)
          exact ⟨rfl, rfl, rfl⟩
      · replace hm := yes_f hs21 hm
        refine bycB (x5.gSome == false) (fun hs34 => ?_) (fun hs34 => ?_)
        · replace hm := yes_t hs34 hm
          obtain ⟨x35, q35, hm⟩ := yes_bind hm
          obtain ⟨x36, q36, hm⟩ := yes_bind hm
          refine bycB x36 (fun hs37 => ?_) (fun hs37 => ?_)
          · replace hm := yes_t hs37 hm
            obtain ⟨x38, q38, hm⟩ := yes_bind hm
            refine wpD_draws 21 [] [[],[0],[],[2],[2],[2],[2],[2],[0,2],[0,2],[0,2],[0,2],[0,2,10,11],[0,2],[0,2,10,11,12,13],[0,2,10,11,12,13,14],[0,2,10,11,12,13,14],[0,2,10,11,12,13,14],[0,2,10,11,12,13,14],[0,2,10,11,12,13,14,17,18],[0,2,10,11,12,13,14]] [0,2,10,11,12,13,14,17,18,19,20] [[],[0],[],[2],[2,3],[2,3,4],[2,3,4,5],[2,3,4,5,6],[0,1,2,3,4,5,6,7],[0,1,2,3,4,5,6,7,8],[0,1,2,3,4,5,6,7,8,9],[0,1,2,3,4,5,6,7,8,9],[0,1,2,3,4,5,6,7,8,9,10,11],[0,1,2,3,4,5,6,7,8,9],[0,1,2,3,4,5,6,7,8,9,10,11,12,13],[0,1,2,3,4,5,6,7,8,9,10,11,12,13,14],[0,1,2,3,4,5,6,7,8,9,10,11,12,13,14,15],[0,1,2,3,4,5,6,7,8,9,10,11,12,13,14,15,16],[0,1,2,3,4,5,6,7,8,9,10,11,12,13,14,15,16],[0,1,2,3,4,5,6,7,8,9,10,11,12,13,14,15,16,17,18],[0,1,2,3,4,5,6,7,8,9,10,11,12,13,14,15,16],[0,1,2,3,4,5,6,7,8,9,10,11,12,13,14,15,16,17,18,19,20],[0,1,2,3,4,5,6,7,8,9,10,11,12,13,14,15,16,17,18,19,20,21],[0,1,2,3,4,5,6,7,8,9,10,11,12,13,14,15,16,17,18,19,20,21,22],[0,1,2,3,4,5,6,7,8,9,10,11,12,13,14,15,16,17,18,19,20,21,22,23],[0,1,2,3,4,5,6,7,8,9,10,11,12,13,14,15,16,17,18,19,20,21,22,23,24],[0,1,2,3,4,5,6,7,8,9,10,11,12,13,14,15,16,17,18,19,20,21,22,23,24,25]] (by kernel_rfl) (by kernel_rfl) (by kernel_rfl) (by rfl) (by rfl) (by kernel_rfl) ?_
            apply Exists.intro
            apply Exists.intro
            apply Exists.intro
            apply Exists.intro
            apply Exists.intro
            apply Exists.intro
            apply Exists.intro
            apply Exists.intro
            apply Exists.intro
            apply Exists.intro
            apply Exists.intro
            intro bs
            refine z_e rfl rfl (ex_pure htab rfl) rfl rfl rfl rfl rfl rfl ?_
            refine z_qM rfl rfl (xm_load 4 htab rfl rfl rfl rfl rfl) rfl rfl rfl rfl rfl rfl ?_
            refine z_e rfl rfl (ex_pure htab rfl) rfl rfl rfl rfl rfl rfl ?_
            refine z_qM rfl rfl (xm_load 0 htab rfl rfl rfl rfl rfl) rfl rfl rfl rfl rfl rfl ?_
            refine z_q rfl rfl (ex_pure htab rfl) rfl rfl rfl rfl rfl rfl ?_
            refine z_known (j := 48) (b' := false) rfl hs21 ?_
            refine z_skip rfl rfl rfl rfl ?_
            refine z_skip rfl rfl rfl rfl ?_
            refine z_q rfl rfl (x_pickF rfl rfl rfl) rfl rfl rfl rfl rfl rfl ?_
            refine z_q rfl rfl (ex_pure htab rfl) rfl rfl rfl rfl rfl rfl ?_
            refine z_q rfl rfl (ex_pure htab rfl) rfl rfl rfl rfl rfl rfl ?_
            refine z_known (j := 53) (b' := true) rfl hs34 ?_
            refine z_eM rfl rfl (xm_load (d := eTApiCong a0) 0 htab rfl rfl rfl rfl rfl) rfl rfl rfl rfl rfl rfl ?_
            refine z_eM rfl rfl (xm_load (d := eTApiCong a0) 0 htab rfl rfl rfl rfl rfl) rfl rfl rfl rfl rfl rfl ?_
            refine z_call rfl rfl (cong_Meet_ok a0 a0 x35 q35) rfl rfl (WkL.refl _) rfl rfl rfl rfl rfl rfl ?_
            refine z_eM rfl rfl (xm_load (d := eTApiCong a0) 0 htab rfl rfl rfl rfl rfl) rfl rfl rfl rfl rfl rfl ?_
            refine z_call rfl rfl (r05_Leq_ok x35 a0 x36 q36) rfl rfl (WkL.refl _) rfl rfl rfl rfl rfl rfl ?_
            refine z_q rfl rfl (x_pickT rfl rfl rfl) rfl rfl rfl rfl rfl rfl ?_
            refine z_q rfl rfl (ex_pure htab rfl) rfl rfl rfl rfl rfl rfl ?_
            refine z_known (j := 60) (b' := true) rfl hs37 ?_
            refine z_eM rfl rfl (xm_load (d := eTApiCong a0) 0 htab rfl rfl rfl rfl rfl) rfl rfl rfl rfl rfl rfl ?_
            refine z_eM rfl rfl (xm_load (d := eTApiCong a0) 0 htab rfl rfl rfl rfl rfl) rfl rfl rfl rfl rfl rfl ?_
            refine z_call rfl rfl (cong_Meet_ok a0 a0 x38 q38) rfl rfl (WkL.refl _) rfl rfl rfl rfl rfl rfl ?_
            refine z_eM rfl rfl (xm_load (d := eTApiCong a0) 0 htab rfl rfl rfl rfl rfl) rfl rfl rfl rfl rfl rfl ?_
            refine z_nil rfl rfl (fun e he => by simp [isAl] at he) ?_
            obtain ⟨x39, q39, hm⟩ := yes_bind hm
            refine p_call0 (cong_Same_ok x38 a0 x39 q39) rfl rfl rfl rfl rfl (WkL.refl _) ?_
            rintro _ rfl
            refine p_pickT rfl rfl rfl rfl rfl rfl ?_
            refine p_pure htab rfl rfl rfl rfl ?_
            refine p_split (i := 67) rfl (fun hg40 => ?_) (fun hg40 => ?_)
            · replace hm := yes_t hg40 hm
              obtain ⟨x41, q41, hm⟩ := yes_bind hm
              refine p_call0 (l05_lives_ok  x41 q41) rfl rfl rfl rfl rfl (WkL.refl _) ?_
              rintro _ rfl
              refine p_pickT rfl rfl rfl rfl rfl rfl ?_
              refine p_pure htab rfl rfl rfl rfl ?_
              refine ops_nil ?_
              refine then_normal ?_
              refine wpD_ret ?_
              have er42 := yes_eq hm; subst er42
              refine retX.of (s' := ⟨[(6, .v (.bool x41))], [], []⟩) (WkS.perm (WkS.cons rfl (Wk.refl _) (WkS.nil)) (List.Perm.refl _) (List.Perm.refl _)) (retD_mk (hh := []) (.inl rfl) (resL_cons (resOne_tmp rfl) (resL_nil)) (List.nil_sublist _) (List.Sublist.refl _) ?_)
              exact ⟨rfl, rfl, rfl⟩
            · replace hm := yes_f hg40 hm
              refine p_skip rfl rfl rfl ?_
              refine p_pickF rfl rfl rfl rfl rfl rfl ?_
              refine p_pure htab rfl rfl rfl rfl ?_
              refine ops_nil ?_
              refine then_normal ?_
              refine wpD_ret ?_
              have er43 := yes_eq hm; subst er43
              refine retX.of (s' := ⟨[(6, .v (.bool false))], [], []⟩) (WkS.perm (WkS.cons rfl (Wk.refl _) (WkS.nil)) (List.Perm.refl _) (List.Perm.refl _)) (retD_mk (hh := []) (.inl rfl) (resL_cons (resOne_tmp rfl) (resL_nil)) (List.nil_sublist _) (List.Sublist.refl _) ?_)
              exact ⟨rfl, rfl, rfl⟩
          · replace hm := yes_f hs37 hm
            refine wpD_draws 21 [] [[],[0],[],[2],[2],[2],[2],[2],[0,2],[0,2],[0,2],[0,2],[0,2,10,11],[0,2],[0,2,10,11,12,13],[0,2,10,11,12,13,14],[0,2,10,11,12,13,14],[0,2,10,11,12,13,14],[0,2,10,11,12,13,14],[0,2,10,11,12,13,14],[0,2,10,11,12,13,14]] [0,2,10,11,12,13,14] [[],[0],[],[2],[2,3],[2,3,4],[2,3,4,5],[2,3,4,5,6],[0,1,2,3,4,5,6,7],[0,1,2,3,4,5,6,7,8],[0,1,2,3,4,5,6,7,8,9],[0,1,2,3,4,5,6,7,8,9],[0,1,2,3,4,5,6,7,8,9,10,11],[0,1,2,3,4,5,6,7,8,9],[0,1,2,3,4,5,6,7,8,9,10,11,12,13],[0,1,2,3,4,5,6,7,8,9,10,11,12,13,14],[0,1,2,3,4,5,6,7,8,9,10,11,12,13,14,15],[0,1,2,3,4,5,6,7,8,9,10,11,12,13,14,15,16],[0,1,2,3,4,5,6,7,8,9,10,11,12,13,14,15,16],[0,1,2,3,4,5,6,7,8,9,10,11,12,13,14,15,16,17,18],[0,1,2,3,4,5,6,7,8,9,10,11,12,13,14,15,16],[0,1,2,3,4,5,6,7,8,9,10,11,12,13,14,15,16,17,18,19,20],[0,1,2,3,4,5,6,7,8,9,10,11,12,13,14,15,16,17,18,19,20,21],[0,1,2,3,4,5,6,7,8,9,10,11,12,13,14,15,16,17,18,19,20,21,22],[0,1,2,3,4,5,6,7,8,9,10,11,12,13,14,15,16,17,18,19,20,21,22,23],[0,1,2,3,4,5,6,7,8,9,10,11,12,13,14,15,16,17,18,19,20,21,22,23,24],[0,1,2,3,4,5,6,7,8,9,10,11,12,13,14,15,16,17,18,19,20,21,22,23,24,25]] (by kernel_rfl) (by kernel_rfl) (by kernel_rfl) (by rfl) (by rfl) (by kernel_rfl) ?_
            apply Exists.intro
            apply Exists.intro
            apply Exists.intro
            apply Exists.intro
            apply Exists.intro
            apply Exists.intro
            apply Exists.intro
            intro bs
            refine z_e rfl rfl (ex_pure htab rfl) rfl rfl rfl rfl rfl rfl ?_
            refine z_qM rfl rfl (xm_load 4 htab rfl rfl rfl rfl rfl) rfl rfl rfl rfl rfl rfl ?_
            refine z_e rfl rfl (ex_pure htab rfl) rfl rfl rfl rfl rfl rfl ?_
            refine z_qM rfl rfl (xm_load 0 htab rfl rfl rfl rfl rfl) rfl rfl rfl rfl rfl rfl ?_
            refine z_q rfl rfl (ex_pure htab rfl) rfl rfl rfl rfl rfl rfl ?_
            refine z_known (j := 48) (b' := false) rfl hs21 ?_
            refine z_skip rfl rfl rfl rfl ?_
            refine z_skip rfl rfl rfl rfl ?_
            refine z_q rfl rfl (x_pickF rfl rfl rfl) rfl rfl rfl rfl rfl rfl ?_
            refine z_q rfl rfl (ex_pure htab rfl) rfl rfl rfl rfl rfl rfl ?_
            refine z_q rfl rfl (ex_pure htab rfl) rfl rfl rfl rfl rfl rfl ?_
            refine z_known (j := 53) (b' := true) rfl hs34 ?_
            refine z_eM rfl rfl (xm_load (d := eTApiCong a0) 0 htab rfl rfl rfl rfl rfl) rfl rfl rfl rfl rfl rfl ?_
            refine z_eM rfl rfl (xm_load (d := eTApiCong a0) 0 htab rfl rfl rfl rfl rfl) rfl rfl rfl rfl rfl rfl ?_
            refine z_call rfl rfl (cong_Meet_ok a0 a0 x35 q35) rfl rfl (WkL.refl _) rfl rfl rfl rfl rfl rfl ?_
            refine z_eM rfl rfl (xm_load (d := eTApiCong a0) 0 htab rfl rfl rfl rfl rfl) rfl rfl rfl rfl rfl rfl ?_
            refine z_call rfl rfl (r05_Leq_ok x35 a0 x36 q36) rfl rfl (WkL.refl _) rfl rfl rfl rfl rfl rfl ?_
            refine z_q rfl rfl (x_pickT rfl rfl rfl) rfl rfl rfl rfl rfl rfl ?_
            refine z_q rfl rfl (ex_pure htab rfl) rfl rfl rfl rfl rfl rfl ?_
            refine z_known (j := 60) (b' := false) rfl hs37 ?_
            refine z_skip rfl rfl rfl rfl ?_
            refine z_skip rfl rfl rfl rfl ?_
            refine z_skip rfl rfl rfl rfl ?_
            refine z_skip rfl rfl rfl rfl ?_
            refine z_nil rfl rfl (fun e he => by simp [isAl] at he) ?_
            refine p_skip rfl rfl rfl ?_
            refine p_pickF rfl rfl rfl rfl rfl rfl ?_
            refine p_pure htab rfl rfl rfl rfl ?_
            refine p_skip rfl rfl rfl ?_
            refine p_pickF rfl rfl rfl rfl rfl rfl ?_
            refine p_pure htab rfl rfl rfl rfl ?_
            refine ops_nil ?_
            refine then_normal ?_
            refine wpD_ret ?_
            have er44 := yes_eq hm; subst er44
            refine retX.of (s' := ⟨[(6, .v (.bool false))], [], []⟩) (WkS.perm (WkS.cons rfl (Wk.refl _) (WkS.nil)) (List.Perm.refl _) (List.Perm.refl _)) (retD_mk (hh := []) (.inl rfl) (resL_cons (resOne_tmp rfl) (resL_nil)) (List.nil_sublist _) (List.Sublist.refl _) ?_)
            exact ⟨rfl, rfl, rfl⟩
        · replace hm := yes_f hs34 hm
          refine wpD_draws 21 [] [[],[0],[],[2],[2],[2],[2],[2],[0,2],[0,2],[0,2],[0,2],[0,2],[0,2],[0,2],[0,2],[0,2],[0,2],[0,2],[0,2],[0,2]] [0,2] [[],[0],[],[2],[2,3],[2,3,4],[2,3,4,5],[2,3,4,5,6],[0,1,2,3,4,5,6,7],[0,1,2,3,4,5,6,7,8],[0,1,2,3,4,5,6,7,8,9],[0,1,2,3,4,5,6,7,8,9],[0,1,2,3,4,5,6,7,8,9,10,11],[0,1,2,3,4,5,6,7,8,9],[0,1,2,3,4,5,6,7,8,9,10,11,12,13],[0,1,2,3,4,5,6,7,8,9,10,11,12,13,14],[0,1,2,3,4,5,6,7,8,9,10,11,12,13,14,15],[0,1,2,3,4,5,6,7,8,9,10,11,12,13,14,15,16],[0,1,2,3,4,5,6,7,8,9,10,11,12,13,14,15,16],[0,1,2,3,4,5,6,7,8,9,10,11,12,13,14,15,16,17,18],[0,1,2,3,4,5,6,7,8,9,10,11,12,13,14,15,16],[0,1,2,3,4,5,6,7,8,9,10,11,12,13,14,15,16,17,18,19,20],[0,1,2,3,4,5,6,7,8,9,10,11,12,13,14,15,16,17,18,19,20,21],[0,1,2,3,4,5,6,7,8,9,10,11,12,13,14,15,16,17,18,19,20,21,22],[0,1,2,3,4,5,6,7,8,9,10,11,12,13,14,15,16,17,18,19,20,21,22,23],[0,1,2,3,4,5,6,7,8,9,10,11,12,13,14,15,16,17,18,19,20,21,22,23,24],[0,1,2,3,4,5,6,7,8,9,10,11,12,13,14,15,16,17,18,19,20,21,22,23,24,25]] (by kernel_rfl) (by kernel_rfl) (by kernel_rfl) (by rfl) (by rfl) (by kernel_rfl) ?_
          apply Exists.intro
          apply Exists.intro
          intro bs
          refine z_e rfl rfl (ex_pure htab rfl) rfl rfl rfl rfl rfl rfl ?_
          refine z_qM rfl rfl (xm_load 4 htab rfl rfl rfl rfl rfl) rfl rfl rfl rfl rfl rfl ?_
          refine z_e rfl rfl (ex_pure htab rfl) rfl rfl rfl rfl rfl rfl ?_
          refine z_qM rfl rfl (xm_load 0 htab rfl rfl rfl rfl rfl) rfl rfl rfl rfl rfl rfl ?_
          refine z_q rfl rfl (ex_pure htab rfl) rfl rfl rfl rfl rfl rfl ?_
          refine z_known (j := 48) (b' := false) rfl hs21 ?_
          refine z_skip rfl rfl rfl rfl ?_
          refine z_skip rfl rfl rfl rfl ?_
          refine z_q rfl rfl (x_pickF rfl rfl rfl) rfl rfl rfl rfl rfl rfl ?_
          refine z_q rfl rfl (ex_pure htab rfl) rfl rfl rfl rfl rfl rfl ?_
          refine z_q rfl rfl (ex_pure htab rfl) rfl rfl rfl rfl rfl rfl ?_
          refine z_known (j := 53) (b' := false) rfl hs34 ?_
          refine z_skip rfl rfl rfl rfl ?_
          refine z_skip rfl rfl rfl rfl ?_
          refine z_skip rfl rfl rfl rfl ?_
          refine z_skip rfl rfl rfl rfl ?_
          refine z_skip rfl rfl rfl rfl ?_
          refine z_q rfl rfl (x_pickF rfl rfl rfl) rfl rfl rfl rfl rfl rfl ?_
          refine z_q rfl rfl (ex_pure htab rfl) rfl rfl rfl rfl rfl rfl ?_
          refine z_skip rfl rfl rfl rfl ?_
          refine z_skip rfl rfl rfl rfl ?_
          refine z_skip rfl rfl rfl rfl ?_
          refine z_skip rfl rfl rfl rfl ?_
          refine z_nil rfl rfl (fun e he => by simp [isAl] at he) ?_
          refine p_skip rfl rfl rfl ?_
          refine p_pickF rfl rfl rfl rfl rfl rfl ?_
          refine p_pure htab rfl rfl rfl rfl ?_
          refine p_skip rfl rfl rfl ?_
          refine p_pickF rfl rfl rfl rfl rfl rfl ?_
          refine p_pure htab rfl rfl rfl rfl ?_
          refine ops_nil ?_
          refine then_normal ?_
          refine wpD_ret ?_
          have er45 := yes_eq hm; subst er45
          refine retX.of (s' := ⟨[(6, .v (.bool false))], [], []⟩) (WkS.perm (WkS.cons rfl (Wk.refl _) (WkS.nil)) (List.Perm.refl _) (List.Perm.refl _)) (retD_mk (hh := []) (.inl rfl) (resL_cons (resOne_tmp rfl) (resL_nil)) (List.nil_sublist _) (List.Sublist.refl _) ?_)
          exact ⟨rfl, rfl, rfl⟩
end Go.Proofs.Ytcjgacmoemiifaa.Ab
