/- The texts that evalFramesUpto_holds leans on, part 5. -/
import Derived.Test.YtocmdafncmlaaaaEf4
namespace Go.Proofs.Ytocmdafncmlaaaa.Ab
open Go
set_option linter.all false
noncomputable def wrap_Do (a0 : Int) (a1 : Int) (a2 : Int) : Option (Int × Int) :=
  ((wrap_Exact a0 a1 a2).bind fun x1 => (bif x1.2 then ((need (pW x1.1)).bind fun x6 => some ((wLow x1.1), (0 : Int))) else (Option.bind (α := Bool) (bif (a0 == (8 : Int)) then some true else some (a0 == (9 : Int))) fun y9 => (bif y9 then ((wrap_parts a0 a1 a2).bind fun x14 => some (x14.1, x14.2)) else ((wrap_holds a0 a1 a2).bind fun x16 => (bif (!x16.2) then some ((0 : Int), (2 : Int)) else ((wrap_truth x16.1).bind fun x20 => some (x20, (0 : Int)))))))))
set_option maxRecDepth 100000 in
set_option maxHeartbeats 2000000 in
theorem wrap_Do_ok (a0 : Int) (a1 : Int) (a2 : Int) (r : Int × Int) (h0 : wrap_Do a0 a1 a2 = some r) : CallsD Try.prog 39 [.v (.int .i64 a0), .v (.int .i64 a1), .v (.int .i64 a2)] [] [] (fun d h k => d = .tup [.v (.int .i64 r.1), .v (.int .i64 r.2)] ∧ h = [] ∧ k = []) := by
  have hm := yes_of h0
  unfold wrap_Do at hm
  clear h0
  refine enterX htab Try.func39 rfl rfl rfl rfl rfl (fun C => ?_)
  refine wpD_sr ?_
  refine pu ?_
  refine pu ?_
  refine ops_nt ?_
  refine wpD_seq ?_
  refine wpD_sr ?_
  iterate 3 refine pu ?_
  obtain ⟨x1, q1, hm⟩ := yes_bind hm
  refine p_call0 (wrap_Exact_ok a0 a1 a2 x1 q1) rfl rfl rfl rfl rfl Wl ?_
  rintro _ rfl
  iterate 3 refine pu ?_
  refine p_alloc htab rfl rfl rfl rfl rfl rfl rfl (fun b2 => ?_)
  refine pS0 (ds' := [.v (.int .i64 x1.1.gHi), .v (.int .u64 x1.1.gLo)]) ?_
  refine pu ?_
  refine ops_n2 ?_
  refine pu ?_
  refine ops_nt ?_
  refine wpD_cond rfl (fun hc5 => ?_) (fun hc5 => ?_)
  ·replace hm := yes_t hc5 hm
   refine wpD_sr ?_
   refine p_load (d := eTApiWide x1.1) 0 htab rfl rfl rfl rfl rfl rfl rfl rfl ?_
   obtain ⟨x6, q6, hm⟩ := yes_bind hm
   refine p_call0 (wLow_ok x1.1 (need_ok q6)) rfl rfl rfl rfl rfl Wl ?_
   rintro _ rfl
   refine pu ?_
   refine pu ?_
   refine ops_nt ?_
   refine wpD_ret ?_
   refine then_ret ?_
   have er7 := yes_eq hm; subst er7
   refine rP (t' := [(6, .v (.int .i64 (wLow x1.1))), (7, .v (.int .i64 (0 : Int)))]) [] [] 0 (wC (wC wN)) (lT (lT lN)) ?_
   exact ⟨rfl, rfl, rfl⟩
  ·replace hm := yes_f hc5 hm
   refine wpD_skip ?_
   refine then_normal ?_
   refine wpD_seq ?_
   refine wpD_seq ?_
   obtain ⟨y9, q9, ho9⟩ := yes_bind hm
   refine wpD_mid (Y := Unit) (fun z9 => (⟨[(0, .v (.int .i64 a0)), (1, .v (.int .i64 a1)), (2, .v (.int .i64 a2)), (27, .v (.bool y9))], [], []⟩ : S)) ?_ ?_
   ·clear hm; have hm := yes_of q9
    refine wpD_region ?_
    iterate 3 refine pu ?_
    refine p_split (i := 24) rfl (fun hg10 => ?_) (fun hg10 => ?_)
    ·replace hm := yes_t hg10 hm
     refine pK ?_
     refine pK ?_
     refine p_pickT rfl rfl rfl rfl rfl rfl ?_
     refine ops_nil ?_
     have e9 := yes_eq hm; subst e9
     refine ⟨rfl, ?_⟩
     exact WkX.of () (WkS.perm (WkS.cons rfl (Wk.refl _) (WkS.cons rfl (Wk.refl _) (WkS.cons rfl (Wk.refl _) (WkS.cons rfl (Wk.refl _) (WkS.nil))))) Pf Pf)
    ·replace hm := yes_f hg10 hm
     refine pu ?_
     refine pu ?_
     refine p_pickF rfl rfl rfl rfl rfl rfl ?_
     refine ops_nil ?_
     have e9 := yes_eq hm; subst e9
     refine ⟨rfl, ?_⟩
     exact WkX.of () (WkS.perm (WkS.cons rfl (Wk.refl _) (WkS.cons rfl (Wk.refl _) (WkS.cons rfl (Wk.refl _) (WkS.cons rfl (Wk.refl _) (WkS.nil))))) Pf Pf)
   ·intro s9 hw9; clear hm; have hm := ho9; clear q9 ho9
    refine then_normal ?_
    refine wpD_wkX hw9 (fun z9 => ?_)
    refine wpD_cond rfl (fun hc13 => ?_) (fun hc13 => ?_)
    ·replace hm := yes_t hc13 hm
     refine wpD_sr ?_
     iterate 3 refine pu ?_
     obtain ⟨x14, q14, hm⟩ := yes_bind hm
     refine p_call0 (wrap_parts_ok a0 a1 a2 x14 q14) rfl rfl rfl rfl rfl Wl ?_
     rintro _ rfl
     iterate 4 refine pu ?_
     refine ops_nt ?_
     refine wpD_ret ?_
     refine then_ret ?_
     have er15 := yes_eq hm; subst er15
     refine rP (t' := [(6, .v (.int .i64 x14.1)), (7, .v (.int .i64 x14.2))]) [] [] 0 (wC (wC wN)) (lT (lT lN)) ?_
     exact ⟨rfl, rfl, rfl⟩
    ·replace hm := yes_f hc13 hm
     refine wpD_skip ?_
     refine then_normal ?_
     refine wpD_sr ?_
     iterate 3 refine pu ?_
     obtain ⟨x16, q16, hm⟩ := yes_bind hm
     refine p_call0 (wrap_holds_ok a0 a1 a2 x16 q16) rfl rfl rfl rfl rfl Wl ?_
     rintro _ rfl
     iterate 5 refine pu ?_
     refine ops_nt ?_
     refine wpD_seq ?_
     refine wpD_sr ?_
     refine pu ?_
     refine pu ?_
     refine ops_nt ?_
     refine wpD_cond rfl (fun hc18 => ?_) (fun hc18 => ?_)
     ·replace hm := yes_t hc18 hm
      refine wpD_sr ?_
      refine pu ?_
      refine pu ?_
      refine ops_nt ?_
      refine wpD_ret ?_
      refine then_ret ?_
      have er19 := yes_eq hm; subst er19
      refine rP (t' := [(6, .v (.int .i64 (0 : Int))), (7, .v (.int .i64 (2 : Int)))]) [] [] 0 (wC (wC wN)) (lT (lT lN)) ?_
      exact ⟨rfl, rfl, rfl⟩
     ·replace hm := yes_f hc18 hm
      refine wpD_skip ?_
      refine then_normal ?_
      refine wpD_sr ?_
      refine pu ?_
      obtain ⟨x20, q20, hm⟩ := yes_bind hm
      refine p_call0 (wrap_truth_ok x16.1 x20 q20) rfl rfl rfl rfl rfl Wl ?_
      rintro _ rfl
      refine pu ?_
      refine pu ?_
      refine ops_nt ?_
      refine wpD_ret ?_
      have er21 := yes_eq hm; subst er21
      refine rP (t' := [(6, .v (.int .i64 x20)), (7, .v (.int .i64 (0 : Int)))]) [] [] 0 (wC (wC wN)) (lT (lT lN)) ?_
      exact ⟨rfl, rfl, rfl⟩
noncomputable def eval_two (a0 : Int) (a1 : TApiWord) (a2 : TApiWord) : Option (TApiWord × Int) :=
  (Option.bind (α := (Int) ⊕ (TApiWord × Int)) (Option.bind (α := (Int) ⊕ (TApiWord × Int)) (bif (!(a1.gPtr == a2.gPtr)) then some (.inr ((⟨false, (0 : Int), (⟨ByteArray.empty, (0 : Int)⟩ : TApiCell)⟩ : TApiWord), (9 : Int))) else (bif (!a1.gPtr) then ((wrap_Do a0 a1.gN a2.gN).bind fun x74 => ((eval_num x74.1 x74.2).bind fun x75 => some (.inr (x75.1, x75.2)))) else (Option.bind (α := Bool) (bif (a0 != (14 : Int)) then some (a0 != (15 : Int)) else some false) fun y78 => (bif y78 then some (.inr ((⟨false, (0 : Int), (⟨ByteArray.empty, (0 : Int)⟩ : TApiCell)⟩ : TApiWord), (9 : Int))) else (bif (a1.gPtr == a2.gPtr && (a1.gN == a2.gN && ((decide (a1.gTo.gName = a2.gTo.gName) && (a1.gTo.gAt == a2.gTo.gAt && true)) && true))) then some (.inl (1 : Int)) else some (.inl (0 : Int))))))) (Sum.elim (fun y70 => (Option.bind (α := Int) (bif (a0 == (15 : Int)) then some (IntKind.i64.wrap ((1 : Int) - y70)) else some y70) fun y84 => some (.inl y84))) (fun r => some (.inr r)))) (Sum.elim (fun y60 => ((eval_num y60 (0 : Int)).bind fun x86 => some (x86.1, x86.2))) (fun r => some r)))
set_option maxRecDepth 100000 in
set_option maxHeartbeats 2000000 in
theorem eval_two_ok (a0 : Int) (a1 : TApiWord) (a2 : TApiWord) (r : TApiWord × Int) (h0 : eval_two a0 a1 a2 = some r) : CallsD Try.prog 31 [.v (.int .i64 a0), eTApiWord a1, eTApiWord a2] [] [] (fun d h k => d = .tup [eTApiWord r.1, .v (.int .i64 r.2)] ∧ h = [] ∧ k = []) := by
  have hm := yes_of h0
  unfold eval_two at hm
  clear h0
  refine enterX htab Try.func31 rfl rfl rfl rfl rfl (fun C => ?_)
  refine wpD_sr ?_
  refine p_box rfl rfl rfl rfl rfl rfl rfl (fun b1 => ?_)
  refine p_box rfl rfl rfl rfl rfl rfl rfl (fun b2 => ?_)
  refine p_alloc htab rfl rfl rfl rfl rfl rfl rfl (fun b3 => ?_)
  refine pu ?_
  refine ops_n2 ?_
  refine pu ?_
  refine ops_nt ?_
  refine wpD_seq ?_
  obtain ⟨x60, q60, ho60⟩ := yes_bind hm
  refine wpD_midX (τ := Int) (Y := Unit) (fun y60 z60 => (⟨[(6, .ptr b3 0), (8, .v (.int .i64 y60))], [(b3, Blk.cells [.v (.bool false), .v (.int .i64 (0 : Int)), .v (.string ByteArray.empty), .v (.int .i64 (0 : Int))] 45)], []⟩ : S)) x60 ?_ ?_
  ·clear hm; have hm := yes_of q60
   refine wpD_block ?_
   refine wpD_seq ?_
   obtain ⟨x70, q70, ho70⟩ := yes_bind hm
   refine wpD_midX (τ := Int) (Y := Unit) (fun y70 z70 => (⟨[(0, .v (.int .i64 a0)), (6, .ptr b3 0), (8, .v (.int .i64 y70))], [(b3, Blk.cells [.v (.bool false), .v (.int .i64 (0 : Int)), .v (.string ByteArray.empty), .v (.int .i64 (0 : Int))] 45)], []⟩ : S)) x70 ?_ ?_
   ·clear hm; have hm := yes_of q70
    refine wpD_block ?_
    refine wpD_seq ?_
    refine wpD_block ?_
    refine wpD_seq ?_
    refine wpD_block ?_
    refine wpD_seq ?_
    refine wpD_block ?_
    refine wpD_seq ?_
    refine wpD_block ?_
    refine wpD_seq ?_
    refine wpD_seq ?_
    refine wpD_sr ?_
    refine pu ?_
    refine pL 0 ?_
    refine pu ?_
    refine pL 1 ?_
    refine pu ?_
    refine pu ?_
    refine ops_nt ?_
    refine wpD_cond rfl (fun hc71 => ?_) (fun hc71 => ?_)
    ·replace hm := yes_t hc71 hm
     refine wpD_exit ?_
     refine then_exit ?_
     refine then_exit ?_
     refine block_hit ?_
     refine then_normal ?_
     refine wpD_seq ?_
     refine wpD_sr ?_
     refine p_build (r := [.v (.bool false), .v (.int .i64 (0 : Int)), .v (.string ByteArray.empty), .v (.int .i64 (0 : Int))]) htab rfl rfl rfl rfl rfl rfl rfl rfl rfl ?_
     refine pS2 (ds' := [.v (.bool false), .v (.int .i64 (0 : Int)), .v (.string ByteArray.empty), .v (.int .i64 (0 : Int))]) ?_
     refine pu ?_
     refine ops_nt ?_
     refine wpD_ret ?_
     refine then_ret ?_
     refine block_ret ?_
     refine then_ret ?_
     refine block_ret ?_
     refine then_ret ?_
     refine block_ret ?_
     refine then_ret ?_
     refine block_ret ?_
     have e70 := yes_eq hm; subst e70; refine midX_inr ?_; clear hm; have hm := ho70; simp only [Sum.elim_inr] at hm
     refine then_ret ?_
     refine block_ret ?_
     have e60 := yes_eq hm; subst e60; refine midX_inr ?_; clear hm; have hm := ho60; simp only [Sum.elim_inr] at hm
     refine then_ret ?_
     have er72 := yes_eq hm; subst er72
     refine rP (t' := [(6, .ptr b3 0), (7, .v (.int .i64 (9 : Int)))]) [2] [] 0 (wC (wC wN)) (lC 0 (lT lN)) ?_
     exact ⟨rfl, rfl, rfl⟩
    ·replace hm := yes_f hc71 hm
     refine wpD_skip ?_
     refine then_normal ?_
     refine wpD_seq ?_
     refine wpD_sr ?_
     refine pu ?_
     refine pL 0 ?_
     refine pu ?_
     refine pu ?_
     refine ops_nt ?_
     refine wpD_cond rfl (fun hc73 => ?_) (fun hc73 => ?_)
     ·replace hm := yes_t hc73 hm
      refine wpD_exit ?_
      refine then_exit ?_
      refine then_exit ?_
      refine block_miss rfl ?_
      refine then_exit ?_
      refine block_hit ?_
      refine then_normal ?_
      refine wpD_seq ?_
      refine wpD_sr ?_
      refine pu ?_
      refine pu ?_
      refine pL 0 ?_
      refine pu ?_
      refine pL 1 ?_
      obtain ⟨x74, q74, hm⟩ := yes_bind hm
      refine p_call0 (wrap_Do_ok a0 a1.gN a2.gN x74 q74) rfl rfl rfl rfl rfl Wl ?_
      rintro _ rfl
      refine pu ?_
      refine pu ?_
      obtain ⟨x75, q75, hm⟩ := yes_bind hm
      refine p_call0 (eval_num_ok x74.1 x74.2 x75 q75) rfl rfl rfl rfl rfl Wl ?_
      rintro _ rfl
      refine pu ?_
      refine pu ?_
      refine pS2 (ds' := [.v (.bool x75.1.gPtr), .v (.int .i64 x75.1.gN), .v (.string x75.1.gTo.gName), .v (.int .i64 x75.1.gTo.gAt)]) ?_
      refine pu ?_
      refine ops_nt ?_
      refine wpD_ret ?_
      refine then_ret ?_
      refine block_ret ?_
      refine then_ret ?_
      refine block_ret ?_
      refine then_ret ?_
      refine block_ret ?_
      have e70 := yes_eq hm; subst e70; refine midX_inr ?_; clear hm; have hm := ho70; simp only [Sum.elim_inr] at hm
      refine then_ret ?_
      refine block_ret ?_
      have e60 := yes_eq hm; subst e60; refine midX_inr ?_; clear hm; have hm := ho60; simp only [Sum.elim_inr] at hm
      refine then_ret ?_
      have er76 := yes_eq hm; subst er76
      refine rP (t' := [(6, .ptr b3 0), (7, .v (.int .i64 x75.2))]) [2] [] 0 (wC (wC wN)) (lC 0 (lT lN)) ?_
      exact ⟨rfl, rfl, rfl⟩
     ·replace hm := yes_f hc73 hm
      refine wpD_skip ?_
      refine then_normal ?_
      refine wpD_seq ?_
      refine wpD_seq ?_
      obtain ⟨y78, q78, ho78⟩ := yes_bind hm
      refine wpD_mid (Y := Unit) (fun z78 => (⟨[(0, .v (.int .i64 a0)), (4, .ptr b1 0), (5, .ptr b2 0), (6, .ptr b3 0), (8, .v (.int .i64 (0 : Int))), (19, .v (.bool y78))], [(b1, Blk.cells [.v (.bool a1.gPtr), .v (.int .i64 a1.gN), .v (.string a1.gTo.gName), .v (.int .i64 a1.gTo.gAt)] 45), (b2, Blk.cells [.v (.bool a2.gPtr), .v (.int .i64 a2.gN), .v (.string a2.gTo.gName), .v (.int .i64 a2.gTo.gAt)] 45), (b3, Blk.cells [.v (.bool false), .v (.int .i64 (0 : Int)), .v (.string ByteArray.empty), .v (.int .i64 (0 : Int))] 45)], []⟩ : S)) ?_ ?_
      ·clear hm; have hm := yes_of q78
       refine wpD_region ?_
       iterate 3 refine pu ?_
       refine p_split (i := 22) rfl (fun hg79 => ?_) (fun hg79 => ?_)
       ·replace hm := yes_t hg79 hm
        refine pu ?_
        refine pu ?_
        refine p_pickT rfl rfl rfl rfl rfl rfl ?_
        refine pu ?_
        refine ops_nil ?_
        have e78 := yes_eq hm; subst e78
        refine ⟨rfl, ?_⟩
        exact WkX.of () (WkS.perm (WkS.cons rfl (Wk.refl _) (WkS.cons rfl (Wk.refl _) (WkS.cons rfl (Wk.refl _) (WkS.cons rfl (Wk.refl _) (WkS.cons rfl (Wk.refl _) (WkS.cons rfl (Wk.refl _) (WkS.nil))))))) Pf Pf)
       ·replace hm := yes_f hg79 hm
        refine pK ?_
        refine pK ?_
        refine p_pickF rfl rfl rfl rfl rfl rfl ?_
        refine pu ?_
        refine ops_nil ?_
        have e78 := yes_eq hm; subst e78
        refine ⟨rfl, ?_⟩
        exact WkX.of () (WkS.perm (WkS.cons rfl (Wk.refl _) (WkS.cons rfl (Wk.refl _) (WkS.cons rfl (Wk.refl _) (WkS.cons rfl (Wk.refl _) (WkS.cons rfl (Wk.refl _) (WkS.cons rfl (Wk.refl _) (WkS.nil))))))) Pf Pf)
      ·intro s78 hw78; clear hm; have hm := ho78; clear q78 ho78
       refine then_normal ?_
       refine wpD_wkX hw78 (fun z78 => ?_)
       refine wpD_cond rfl (fun hc80 => ?_) (fun hc80 => ?_)
       ·replace hm := yes_t hc80 hm
        refine wpD_exit ?_
        refine then_exit ?_
        refine then_exit ?_
        refine block_miss rfl ?_
        refine then_exit ?_
        refine block_miss rfl ?_
        refine then_exit ?_
        refine block_hit ?_
        refine then_normal ?_
        refine wpD_seq ?_
        refine wpD_sr ?_
        refine p_build (r := [.v (.bool false), .v (.int .i64 (0 : Int)), .v (.string ByteArray.empty), .v (.int .i64 (0 : Int))]) htab rfl rfl rfl rfl rfl rfl rfl rfl rfl ?_
        refine pS2 (ds' := [.v (.bool false), .v (.int .i64 (0 : Int)), .v (.string ByteArray.empty), .v (.int .i64 (0 : Int))]) ?_
        refine pu ?_
        refine ops_nt ?_
        refine wpD_ret ?_
        refine then_ret ?_
        refine block_ret ?_
        refine then_ret ?_
        refine block_ret ?_
        have e70 := yes_eq hm; subst e70; refine midX_inr ?_; clear hm; have hm := ho70; simp only [Sum.elim_inr] at hm
        refine then_ret ?_
        refine block_ret ?_
        have e60 := yes_eq hm; subst e60; refine midX_inr ?_; clear hm; have hm := ho60; simp only [Sum.elim_inr] at hm
        refine then_ret ?_
        have er81 := yes_eq hm; subst er81
        refine rP (t' := [(6, .ptr b3 0), (7, .v (.int .i64 (9 : Int)))]) [2] [] 0 (wC (wC wN)) (lC 0 (lT lN)) ?_
        exact ⟨rfl, rfl, rfl⟩
       ·replace hm := yes_f hc80 hm
        refine wpD_skip ?_
        refine then_normal ?_
        refine wpD_sr ?_
        refine p_load (d := eTApiWord a1) 0 htab rfl rfl rfl rfl rfl rfl rfl rfl ?_
        refine p_load (d := eTApiWord a2) 1 htab rfl rfl rfl rfl rfl rfl rfl rfl ?_
        refine p_eqC eqn45 htab rfl rfl rfl rfl rfl eqs45 eqg45 rfl rfl rfl rfl ?_
        refine pu ?_
        refine ops_nt ?_
        refine wpD_cond rfl (fun hc82 => ?_) (fun hc82 => ?_)
        ·replace hm := yes_t hc82 hm
         refine wpD_exit ?_
         refine then_exit ?_
         refine block_miss rfl ?_
         refine then_exit ?_
         refine block_miss rfl ?_
         refine then_exit ?_
         refine block_miss rfl ?_
         refine then_exit ?_
         refine block_hit ?_
         refine then_normal ?_
         refine wpD_region ?_
         refine pu ?_
         refine ops_nil ?_
         refine block_normal ?_
         have e70 := yes_eq hm; subst e70
         refine midX_inl ?_
         exact WkX.of () (WkS.perm (WkS.cons rfl (Wk.refl _) (WkS.cons rfl (Wk.refl _) (WkS.cons rfl (Wk.refl _) (WkS.nil)))) ((perm_at (j := 2) rfl).trans (List.Perm.cons _ Pf)) Pf)
        ·replace hm := yes_f hc82 hm
         refine wpD_skip ?_
         refine then_normal ?_
         refine wpD_exit ?_
         refine block_miss rfl ?_
         refine then_exit ?_
         refine block_miss rfl ?_
         refine then_exit ?_
         refine block_miss rfl ?_
         refine then_exit ?_
         refine block_miss rfl ?_
         refine then_exit ?_
         refine block_hit ?_
         have e70 := yes_eq hm; subst e70
         refine midX_inl ?_
         exact WkX.of () (WkS.perm (WkS.cons rfl (Wk.refl _) (WkS.cons rfl (Wk.refl _) (WkS.cons rfl (Wk.refl _) (WkS.nil)))) ((perm_at (j := 2) rfl).trans (List.Perm.cons _ Pf)) Pf)
   ·intro y70 s70 hx70 hw70; subst hx70; clear hm; have hm := ho70; simp only [Sum.elim_inl] at hm; clear q70 ho70
    refine then_normal ?_
    refine wpD_wkX hw70 (fun z70 => ?_)
    refine wpD_seq ?_
    refine wpD_sr ?_
    refine pu ?_
    refine pu ?_
    refine ops_nt ?_
    obtain ⟨y84, q84, ho84⟩ := yes_bind hm
    refine wpD_mid (Y := Unit) (fun z84 => (⟨[(6, .ptr b3 0), (8, .v (.int .i64 y84))], [(b3, Blk.cells [.v (.bool false), .v (.int .i64 (0 : Int)), .v (.string ByteArray.empty), .v (.int .i64 (0 : Int))] 45)], []⟩ : S)) ?_ ?_
    ·clear hm; have hm := yes_of q84
     refine wpD_cond rfl (fun hc85 => ?_) (fun hc85 => ?_)
     ·replace hm := yes_t hc85 hm
      refine wpD_region ?_
      iterate 3 refine pu ?_
      refine ops_nil ?_
      have e84 := yes_eq hm; subst e84
      refine ⟨rfl, ?_⟩
      exact WkX.of () (WkS.perm (WkS.cons rfl (Wk.refl _) (WkS.cons rfl (Wk.refl _) (WkS.nil))) Pf Pf)
     ·replace hm := yes_f hc85 hm
      refine wpD_skip ?_
      have e84 := yes_eq hm; subst e84
      refine ⟨rfl, ?_⟩
      exact WkX.of () (WkS.perm (WkS.cons rfl (Wk.refl _) (WkS.cons rfl (Wk.refl _) (WkS.nil))) Pf Pf)
    ·intro s84 hw84; clear hm; have hm := ho84; clear q84 ho84
     refine then_normal ?_
     refine wpD_wkX hw84 (fun z84 => ?_)
     refine wpD_exit ?_
     refine block_hit ?_
     have e60 := yes_eq hm; subst e60
     refine midX_inl ?_
     exact WkX.of () (WkS.perm (WkS.cons rfl (Wk.refl _) (WkS.cons rfl (Wk.refl _) (WkS.nil))) Pf Pf)
  ·intro y60 s60 hx60 hw60; subst hx60; clear hm; have hm := ho60; simp only [Sum.elim_inl] at hm; clear q60 ho60
   refine then_normal ?_
   refine wpD_wkX hw60 (fun z60 => ?_)
   refine wpD_sr ?_
   refine pu ?_
   obtain ⟨x86, q86, hm⟩ := yes_bind hm
   refine p_call0 (eval_num_ok y60 (0 : Int) x86 q86) rfl rfl rfl rfl rfl Wl ?_
   rintro _ rfl
   refine pu ?_
   refine pu ?_
   refine pS0 (ds' := [.v (.bool x86.1.gPtr), .v (.int .i64 x86.1.gN), .v (.string x86.1.gTo.gName), .v (.int .i64 x86.1.gTo.gAt)]) ?_
   refine pu ?_
   refine ops_nt ?_
   refine wpD_ret ?_
   have er87 := yes_eq hm; subst er87
   refine rP (t' := [(6, .ptr b3 0), (7, .v (.int .i64 x86.2))]) [0] [] 0 (wC (wC wN)) (lC 0 (lT lN)) ?_
   exact ⟨rfl, rfl, rfl⟩
noncomputable def eval_room_expr_b (g0 : (TApiExpr) → (TMemMem) → (TEvalFrame) → Option (TApiWord × Int)) (a1 : TApiExpr) (m0 : TMemMem) (m1 : TEvalFrame) : Option (TApiWord × Int) :=
  ((eval_needs a1.gOp).bind fun x4 => (Option.bind (α := Bool) (bif (decide (x4 < (0 : Int))) then some true else some ((a1.gKids.length : Int) != x4)) fun y6 => (bif y6 then some ((⟨false, (0 : Int), (⟨ByteArray.empty, (0 : Int)⟩ : TApiCell)⟩ : TApiWord), (2 : Int)) else (Option.bind (α := (Bool × Int × ByteArray × Int × Bool × Int × ByteArray × Int) ⊕ (TApiWord × Int)) (loopM (fun (s53 : Int × Bool × Int × ByteArray × Int × Bool × Int × ByteArray × Int) => (bif (decide (s53.1 < (a1.gKids.length : Int))) then ((idx a1.gKids s53.1).bind fun x85 => ((g0 x85 m0 m1).bind fun x87 => (bif (x87.2 != (0 : Int)) then some (.done (.inr ((⟨false, (0 : Int), (⟨ByteArray.empty, (0 : Int)⟩ : TApiCell)⟩ : TApiWord), x87.2))) else ((need (inA s53.1 2)).bind fun x91 => some (.next ((IntKind.i64.wrap (s53.1 + (1 : Int))), (putG s53.1 0 x87.1.gPtr s53.2.1), (putG s53.1 0 x87.1.gN s53.2.2.1), (putG s53.1 0 x87.1.gTo.gName s53.2.2.2.1), (putG s53.1 0 x87.1.gTo.gAt s53.2.2.2.2.1), (putG s53.1 1 x87.1.gPtr s53.2.2.2.2.2.1), (putG s53.1 1 x87.1.gN s53.2.2.2.2.2.2.1), (putG s53.1 1 x87.1.gTo.gName s53.2.2.2.2.2.2.2.1), (putG s53.1 1 x87.1.gTo.gAt s53.2.2.2.2.2.2.2.2))))))) else some (.done (.inl (s53.2.1, s53.2.2.1, s53.2.2.2.1, s53.2.2.2.2.1, s53.2.2.2.2.2.1, s53.2.2.2.2.2.2.1, s53.2.2.2.2.2.2.2.1, s53.2.2.2.2.2.2.2.2))))) ((0 : Int), false, (0 : Int), ByteArray.empty, (0 : Int), false, (0 : Int), ByteArray.empty, (0 : Int))) (Sum.elim (fun y52 => (bif (x4 == (0 : Int)) then ((eval_room_leaf a1 m0 m1).bind fun x101 => some (x101.1, x101.2)) else (bif (x4 == (1 : Int)) then ((eval_room_one a1 (⟨y52.1, y52.2.1, (⟨y52.2.2.1, y52.2.2.2.1⟩ : TApiCell)⟩ : TApiWord) m0 m1).bind fun x106 => some (x106.1, x106.2)) else ((eval_two a1.gOp (⟨y52.1, y52.2.1, (⟨y52.2.2.1, y52.2.2.2.1⟩ : TApiCell)⟩ : TApiWord) (⟨y52.2.2.2.2.1, y52.2.2.2.2.2.1, (⟨y52.2.2.2.2.2.2.1, y52.2.2.2.2.2.2.2⟩ : TApiCell)⟩ : TApiWord)).bind fun x108 => some (x108.1, x108.2))))) (fun r => some r))))))
set_option maxRecDepth 100000 in
set_option maxHeartbeats 2000000 in
theorem eval_room_expr_b_ok (g0 : (TApiExpr) → (TMemMem) → (TEvalFrame) → Option (TApiWord × Int)) (hg0 : ∀ (a1 : TApiExpr) (m0 : TMemMem) (m1 : TEvalFrame) (o0 : Nat) (T0 : TypeId) (z0_0 : Nat) (z0_1 : Nat) (c0_2 : Cap) (o1 : Nat) (T1 : TypeId) (c1_0 : Cap) (c1_1 : Cap) (r : TApiWord × Int) (h0 : g0 a1 m0 m1 = some r), CallsD Try.prog 23 [.agg [.ptr o0 0, .ptr o1 0], eTApiExpr a1] [(o0, Blk.cells [.v (.map (some z0_0)), .v (.map (some z0_1)), .lst 2 (m0.gCells.map eTApiCell) c0_2] T0), (o1, Blk.cells [.lst 2 (m1.gVars.map eTApiVar) c1_0, .lst 4 (m1.gWords.map eTApiWord) c1_1] T1), (z0_0, Blk.mp (m0.gSizes.map fun p => ((fun s : ByteArray => Value.string s) p.1, eI64 p.2))), (z0_1, Blk.mp (m0.gWords.map fun p => ((fun a => Value.agg (kcTApiCell a).toArray) p.1, eTApiWord p.2)))] [] (fun d h k => d = .tup [eTApiWord r.1, .v (.int .i64 r.2)] ∧ h = [(o0, Blk.cells [.v (.map (some z0_0)), .v (.map (some z0_1)), .lst 2 (m0.gCells.map eTApiCell) c0_2] T0), (o1, Blk.cells [.lst 2 (m1.gVars.map eTApiVar) c1_0, .lst 4 (m1.gWords.map eTApiWord) c1_1] T1), (z0_0, Blk.mp (m0.gSizes.map fun p => ((fun s : ByteArray => Value.string s) p.1, eI64 p.2))), (z0_1, Blk.mp (m0.gWords.map fun p => ((fun a => Value.agg (kcTApiCell a).toArray) p.1, eTApiWord p.2)))] ∧ k = [])) (a1 : TApiExpr) (m0 : TMemMem) (m1 : TEvalFrame) (o0 : Nat) (T0 : TypeId) (z0_0 : Nat) (z0_1 : Nat) (c0_2 : Cap) (o1 : Nat) (T1 : TypeId) (c1_0 : Cap) (c1_1 : Cap) (r : TApiWord × Int) (h0 : eval_room_expr_b g0 a1 m0 m1 = some r) : CallsD Try.prog 23 [.agg [.ptr o0 0, .ptr o1 0], eTApiExpr a1] [(o0, Blk.cells [.v (.map (some z0_0)), .v (.map (some z0_1)), .lst 2 (m0.gCells.map eTApiCell) c0_2] T0), (o1, Blk.cells [.lst 2 (m1.gVars.map eTApiVar) c1_0, .lst 4 (m1.gWords.map eTApiWord) c1_1] T1), (z0_0, Blk.mp (m0.gSizes.map fun p => ((fun s : ByteArray => Value.string s) p.1, eI64 p.2))), (z0_1, Blk.mp (m0.gWords.map fun p => ((fun a => Value.agg (kcTApiCell a).toArray) p.1, eTApiWord p.2)))] [] (fun d h k => d = .tup [eTApiWord r.1, .v (.int .i64 r.2)] ∧ h = [(o0, Blk.cells [.v (.map (some z0_0)), .v (.map (some z0_1)), .lst 2 (m0.gCells.map eTApiCell) c0_2] T0), (o1, Blk.cells [.lst 2 (m1.gVars.map eTApiVar) c1_0, .lst 4 (m1.gWords.map eTApiWord) c1_1] T1), (z0_0, Blk.mp (m0.gSizes.map fun p => ((fun s : ByteArray => Value.string s) p.1, eI64 p.2))), (z0_1, Blk.mp (m0.gWords.map fun p => ((fun a => Value.agg (kcTApiCell a).toArray) p.1, eTApiWord p.2)))] ∧ k = []) := by
  have hm := yes_of h0
  unfold eval_room_expr_b at hm
  clear h0
  refine enterX htab Try.func23 rfl rfl rfl rfl rfl (fun C => ?_)
  refine w_eq (i := 1) rfl (Wk.of_eq (eTApiExpr_eq a1)) ?_
  refine wpD_sr ?_
  refine p_box rfl rfl rfl rfl rfl rfl rfl (fun b1 => ?_)
  refine p_box rfl rfl rfl rfl rfl rfl rfl (fun b2 => ?_)
  refine p_alloc htab rfl rfl rfl rfl rfl rfl rfl (fun b3 => ?_)
  refine pu ?_
  refine ops_n2 ?_
  refine pu ?_
  refine pL 5 ?_
  obtain ⟨x4, q4, hm⟩ := yes_bind hm
  refine p_call0 (eval_needs_ok a1.gOp x4 q4) rfl rfl rfl rfl rfl Wl ?_
  rintro _ rfl
  refine pu ?_
  refine ops_nt ?_
  refine wpD_seq ?_
  refine wpD_seq ?_
  obtain ⟨y6, q6, ho6⟩ := yes_bind hm
  refine wpD_mid (Y := Unit) (fun z6 => (⟨[(2, .ptr b1 0), (3, .ptr b2 0), (4, .ptr b3 0), (6, .v (.int .i64 x4)), (23, .v (.bool y6))], [(o0, Blk.cells [.v (.map (some z0_0)), .v (.map (some z0_1)), .lst 2 (m0.gCells.map eTApiCell) c0_2] T0), (o1, Blk.cells [.lst 2 (m1.gVars.map eTApiVar) c1_0, .lst 4 (m1.gWords.map eTApiWord) c1_1] T1), (z0_0, Blk.mp (m0.gSizes.map fun p => ((fun s : ByteArray => Value.string s) p.1, eI64 p.2))), (z0_1, Blk.mp (m0.gWords.map fun p => ((fun a => Value.agg (kcTApiCell a).toArray) p.1, eTApiWord p.2))), (b1, Blk.cells [.ptr o0 0, .ptr o1 0] 90), (b2, Blk.cells [.v (.int .i64 a1.gOp), .v (.int .i64 a1.gN), .v (.string a1.gName), .lst 5 (a1.gKids.map eTApiExpr) .no, .v (.int .i64 a1.gAt)] 72), (b3, Blk.cells [.v (.bool false), .v (.int .i64 (0 : Int)), .v (.string ByteArray.empty), .v (.int .i64 (0 : Int))] 45)], []⟩ : S)) ?_ ?_
  ·clear hm; have hm := yes_of q6
   refine wpD_region ?_
   iterate 3 refine pu ?_
   refine p_split (i := 17) rfl (fun hg7 => ?_) (fun hg7 => ?_)
   ·replace hm := yes_t hg7 hm
    iterate 5 refine pK ?_
    refine p_pickT rfl rfl rfl rfl rfl rfl ?_
    refine ops_nil ?_
    have e6 := yes_eq hm; subst e6
    refine ⟨rfl, ?_⟩
    exact WkX.of () (WkS.perm (WkS.cons rfl (Wk.refl _) (WkS.cons rfl (Wk.refl _) (WkS.cons rfl (Wk.refl _) (WkS.cons rfl (Wk.refl _) (WkS.cons rfl (Wk.refl _) (WkS.nil)))))) Pf Pf)
   ·replace hm := yes_f hg7 hm
    refine pu ?_
    refine pL 5 ?_
    refine p_lenL htab rfl rfl rfl rfl rfl rfl rfl (by first | exact map_len | rfl) ?_
    refine pu ?_
    refine pu ?_
    refine p_pickF rfl rfl rfl rfl rfl rfl ?_
    refine ops_nil ?_
    have e6 := yes_eq hm; subst e6
    refine ⟨rfl, ?_⟩
    exact WkX.of () (WkS.perm (WkS.cons rfl (Wk.refl _) (WkS.cons rfl (Wk.refl _) (WkS.cons rfl (Wk.refl _) (WkS.cons rfl (Wk.refl _) (WkS.cons rfl (Wk.refl _) (WkS.nil)))))) Pf Pf)
  ·intro s6 hw6; clear hm; have hm := ho6; clear q6 ho6
   refine then_normal ?_
   refine wpD_wkX hw6 (fun z6 => ?_)
   refine wpD_cond rfl (fun hc9 => ?_) (fun hc9 => ?_)
   ·replace hm := yes_t hc9 hm
    refine wpD_sr ?_
    refine p_build (r := [.v (.bool false), .v (.int .i64 (0 : Int)), .v (.string ByteArray.empty), .v (.int .i64 (0 : Int))]) htab rfl rfl rfl rfl rfl rfl rfl rfl rfl ?_
    refine pS6 (ds' := [.v (.bool false), .v (.int .i64 (0 : Int)), .v (.string ByteArray.empty), .v (.int .i64 (0 : Int))]) ?_
    refine pu ?_
    refine ops_nt ?_
    refine wpD_ret ?_
    refine then_ret ?_
    have er10 := yes_eq hm; subst er10
    refine rP (t' := [(4, .ptr b3 0), (5, .v (.int .i64 (2 : Int)))]) [0,0,0,0,2] [] 4 (wC (wC wN)) (lC 4 (lT lN)) ?_
    exact ⟨rfl, rfl, rfl⟩
   ·replace hm := yes_f hc9 hm
    refine wpD_skip ?_
    refine then_normal ?_
    refine wpD_sr ?_
    refine p_alloc htab rfl rfl rfl rfl rfl rfl rfl (fun b11 => ?_)
    refine ops_nt ?_
    refine wpD_seq ?_
    refine wpD_sr ?_
    refine pu ?_
    refine pL 5 ?_
    refine p_lenL htab rfl rfl rfl rfl rfl rfl rfl (by first | exact map_len | rfl) ?_
    refine pu ?_
    refine ops_nt ?_
    obtain ⟨x52, q52, ho52⟩ := yes_bind hm
    refine wpD_midX (τ := Bool × Int × ByteArray × Int × Bool × Int × ByteArray × Int) (Y := Unit) (fun y52 z52 => (⟨[(2, .ptr b1 0), (3, .ptr b2 0), (4, .ptr b3 0), (6, .v (.int .i64 x4)), (7, .ptr b11 0)], [(o0, Blk.cells [.v (.map (some z0_0)), .v (.map (some z0_1)), .lst 2 (m0.gCells.map eTApiCell) c0_2] T0), (o1, Blk.cells [.lst 2 (m1.gVars.map eTApiVar) c1_0, .lst 4 (m1.gWords.map eTApiWord) c1_1] T1), (z0_0, Blk.mp (m0.gSizes.map fun p => ((fun s : ByteArray => Value.string s) p.1, eI64 p.2))), (z0_1, Blk.mp (m0.gWords.map fun p => ((fun a => Value.agg (kcTApiCell a).toArray) p.1, eTApiWord p.2))), (b1, Blk.cells [.ptr o0 0, .ptr o1 0] 90), (b2, Blk.cells [.v (.int .i64 a1.gOp), .v (.int .i64 a1.gN), .v (.string a1.gName), .lst 5 (a1.gKids.map eTApiExpr) .no, .v (.int .i64 a1.gAt)] 72), (b3, Blk.cells [.v (.bool false), .v (.int .i64 (0 : Int)), .v (.string ByteArray.empty), .v (.int .i64 (0 : Int))] 45), (b11, Blk.cells [.v (.bool y52.1), .v (.int .i64 y52.2.1), .v (.string y52.2.2.1), .v (.int .i64 y52.2.2.2.1), .v (.bool y52.2.2.2.2.1), .v (.int .i64 y52.2.2.2.2.2.1), .v (.string y52.2.2.2.2.2.2.1), .v (.int .i64 y52.2.2.2.2.2.2.2)] 100)], []⟩ : S)) x52 ?_ ?_
    ·clear hm; have hm := yes_of q52
     refine wpD_block ?_
     obtain ⟨u53, hl53, hq53⟩ := yes_m hm
     refine loop_M (Y := Unit) hl53 (fun s53 z53 => (⟨[(2, .ptr b1 0), (3, .ptr b2 0), (4, .ptr b3 0), (6, .v (.int .i64 x4)), (7, .ptr b11 0), (26, .lst 5 (a1.gKids.map eTApiExpr) .no), (27, .v (.int .i64 (a1.gKids.length : Int))), (28, .v (.int .i64 s53.1))], [(o0, Blk.cells [.v (.map (some z0_0)), .v (.map (some z0_1)), .lst 2 (m0.gCells.map eTApiCell) c0_2] T0), (o1, Blk.cells [.lst 2 (m1.gVars.map eTApiVar) c1_0, .lst 4 (m1.gWords.map eTApiWord) c1_1] T1), (z0_0, Blk.mp (m0.gSizes.map fun p => ((fun s : ByteArray => Value.string s) p.1, eI64 p.2))), (z0_1, Blk.mp (m0.gWords.map fun p => ((fun a => Value.agg (kcTApiCell a).toArray) p.1, eTApiWord p.2))), (b1, Blk.cells [.ptr o0 0, .ptr o1 0] 90), (b2, Blk.cells [.v (.int .i64 a1.gOp), .v (.int .i64 a1.gN), .v (.string a1.gName), .lst 5 (a1.gKids.map eTApiExpr) .no, .v (.int .i64 a1.gAt)] 72), (b3, Blk.cells [.v (.bool false), .v (.int .i64 (0 : Int)), .v (.string ByteArray.empty), .v (.int .i64 (0 : Int))] 45), (b11, Blk.cells [.v (.bool s53.2.1), .v (.int .i64 s53.2.2.1), .v (.string s53.2.2.2.1), .v (.int .i64 s53.2.2.2.2.1), .v (.bool s53.2.2.2.2.2.1), .v (.int .i64 s53.2.2.2.2.2.2.1), .v (.string s53.2.2.2.2.2.2.2.1), .v (.int .i64 s53.2.2.2.2.2.2.2.2)] 100)], []⟩ : S)) ?_ ?_
     ·skip
      exact WkX.of () (WkS.perm (WkS.cons rfl (Wk.refl _) (WkS.cons rfl (Wk.refl _) (WkS.cons rfl (Wk.refl _) (WkS.cons rfl (Wk.refl _) (WkS.cons rfl (Wk.refl _) (WkS.cons rfl (Wk.refl _) (WkS.cons rfl (Wk.refl _) (WkS.cons rfl (Wk.refl _) (WkS.nil))))))))) Pf Pf)
     ·intro G53 s53 z53 hm
      refine wpD_sr ?_
      refine pu ?_
      refine ops_nt ?_
      refine wpD_seq ?_
      refine wpD_cond rfl (fun hc84 => ?_) (fun hc84 => ?_)
      ·replace hm := yes_t hc84 hm
       refine wpD_skip ?_
       refine then_normal ?_
       refine wpD_seq ?_
       refine wpD_block ?_
       refine wpD_sr ?_
       refine pu ?_
       obtain ⟨x85, q85, hm⟩ := yes_bind hm
       refine p_elem htab rfl rfl rfl rfl rfl rfl rfl rfl rfl rfl (idx_nonneg q85) (idx_map q85) ?_
       refine p_eq (i := 31) rfl (Wk.of_eq (congrArg D.el (eTApiExpr_eq x85))) ?_
       refine p_loadEl (d := .agg [.v (.int .i64 x85.gOp), .v (.int .i64 x85.gN), .v (.string x85.gName), .lst 5 (x85.gKids.map eTApiExpr) .no, .v (.int .i64 x85.gAt)]) htab rfl rfl rfl rfl rfl rfl rfl rfl ?_
       refine p_alloc htab rfl rfl rfl rfl rfl rfl rfl (fun b86 => ?_)
       refine pu ?_
       refine pS8 (ds' := [.v (.int .i64 x85.gOp), .v (.int .i64 x85.gN), .v (.string x85.gName), .lst 5 (x85.gKids.map eTApiExpr) .no, .v (.int .i64 x85.gAt)]) ?_
       refine ops_n2 ?_
       refine p_load (d := .agg [.ptr o0 0, .ptr o1 0]) 4 htab rfl rfl rfl rfl rfl rfl rfl rfl ?_
       refine p_load (d := .agg [.v (.int .i64 x85.gOp), .v (.int .i64 x85.gN), .v (.string x85.gName), .lst 5 (x85.gKids.map eTApiExpr) .no, .v (.int .i64 x85.gAt)]) 8 htab rfl rfl rfl rfl rfl rfl rfl rfl ?_
       obtain ⟨x87, q87, hm⟩ := yes_bind hm
       refine p_callG (hg0 x85 m0 m1 o0 T0 z0_0 z0_1 c0_2 o1 T1 c1_0 c1_1 x87 q87) rfl rfl rfl rfl rfl (WkL.cons (Wk.refl _) (WkL.cons (Wk.trans (Wk.agg (WkR.refl _)) (Wk.of_eq (eTApiExpr_eq x85).symm)) Wl)) Pf Pf ?_
       rintro _ _ _ ⟨rfl, rfl, rfl⟩
       iterate 3 refine pu ?_
       refine p_alloc htab rfl rfl rfl rfl rfl rfl rfl (fun b88 => ?_)
       refine pS9 (ds' := [.v (.bool x87.1.gPtr), .v (.int .i64 x87.1.gN), .v (.string x87.1.gTo.gName), .v (.int .i64 x87.1.gTo.gAt)]) ?_
       refine pu ?_
       refine ops_nt ?_
       refine wpD_seq ?_
       refine wpD_sr ?_
       refine pu ?_
       refine pu ?_
       refine ops_nt ?_
       refine wpD_cond rfl (fun hc89 => ?_) (fun hc89 => ?_)
       ·replace hm := yes_t hc89 hm
        refine wpD_sr ?_
        refine p_build (r := [.v (.bool false), .v (.int .i64 (0 : Int)), .v (.string ByteArray.empty), .v (.int .i64 (0 : Int))]) htab rfl rfl rfl rfl rfl rfl rfl rfl rfl ?_
        refine pu ?_
        refine pS6 (ds' := [.v (.bool false), .v (.int .i64 (0 : Int)), .v (.string ByteArray.empty), .v (.int .i64 (0 : Int))]) ?_
        refine pu ?_
        refine ops_nt ?_
        refine wpD_ret ?_
        refine then_ret ?_
        refine block_ret ?_
        refine then_ret ?_
        have e53 := lp_done hm; subst e53; clear hm; have hm := hq53
        refine then_ret ?_
        refine block_ret ?_
        have e52 := yes_eq hm; subst e52; refine midX_inr ?_; clear hm; have hm := ho52; simp only [Sum.elim_inr] at hm
        refine then_ret ?_
        have er90 := yes_eq hm; subst er90
        refine rP (t' := [(4, .ptr b3 0), (5, .v (.int .i64 x87.2))]) [0,0,0,0,2] [] 4 (wC (wC wN)) (lC 4 (lT lN)) ?_
        exact ⟨rfl, rfl, rfl⟩
       ·replace hm := yes_f hc89 hm
        refine wpD_skip ?_
        refine then_normal ?_
        refine wpD_region ?_
        refine pu ?_
        refine p_load (d := eTApiWord x87.1) 9 htab rfl rfl rfl rfl rfl rfl rfl rfl ?_
        obtain ⟨x91, q91, hm⟩ := yes_bind hm
        refine p_elemA htab rfl rfl rfl rfl rfl rfl rfl rfl rfl (inA_lo q91) (inA_hi q91) ?_
        refine p_store (ds' := [.v (.bool (putG s53.1 0 x87.1.gPtr s53.2.1)), .v (.int .i64 (putG s53.1 0 x87.1.gN s53.2.2.1)), .v (.string (putG s53.1 0 x87.1.gTo.gName s53.2.2.2.1)), .v (.int .i64 (putG s53.1 0 x87.1.gTo.gAt s53.2.2.2.2.1)), .v (.bool (putG s53.1 1 x87.1.gPtr s53.2.2.2.2.2.1)), .v (.int .i64 (putG s53.1 1 x87.1.gN s53.2.2.2.2.2.2.1)), .v (.string (putG s53.1 1 x87.1.gTo.gName s53.2.2.2.2.2.2.2.1)), .v (.int .i64 (putG s53.1 1 x87.1.gTo.gAt s53.2.2.2.2.2.2.2.2))]) (h' := [(o0, Blk.cells [.v (.map (some z0_0)), .v (.map (some z0_1)), .lst 2 (m0.gCells.map eTApiCell) c0_2] T0), (o1, Blk.cells [.lst 2 (m1.gVars.map eTApiVar) c1_0, .lst 4 (m1.gWords.map eTApiWord) c1_1] T1), (z0_0, Blk.mp (m0.gSizes.map fun p => ((fun s : ByteArray => Value.string s) p.1, eI64 p.2))), (z0_1, Blk.mp (m0.gWords.map fun p => ((fun a => Value.agg (kcTApiCell a).toArray) p.1, eTApiWord p.2))), (b1, Blk.cells [.ptr o0 0, .ptr o1 0] 90), (b2, Blk.cells [.v (.int .i64 a1.gOp), .v (.int .i64 a1.gN), .v (.string a1.gName), .lst 5 (a1.gKids.map eTApiExpr) .no, .v (.int .i64 a1.gAt)] 72), (b3, Blk.cells [.v (.bool false), .v (.int .i64 (0 : Int)), .v (.string ByteArray.empty), .v (.int .i64 (0 : Int))] 45), (b11, Blk.cells [.v (.bool (putG s53.1 0 x87.1.gPtr s53.2.1)), .v (.int .i64 (putG s53.1 0 x87.1.gN s53.2.2.1)), .v (.string (putG s53.1 0 x87.1.gTo.gName s53.2.2.2.1)), .v (.int .i64 (putG s53.1 0 x87.1.gTo.gAt s53.2.2.2.2.1)), .v (.bool (putG s53.1 1 x87.1.gPtr s53.2.2.2.2.2.1)), .v (.int .i64 (putG s53.1 1 x87.1.gN s53.2.2.2.2.2.2.1)), .v (.string (putG s53.1 1 x87.1.gTo.gName s53.2.2.2.2.2.2.2.1)), .v (.int .i64 (putG s53.1 1 x87.1.gTo.gAt s53.2.2.2.2.2.2.2.2))] 100), (b86, Blk.cells [.v (.int .i64 x85.gOp), .v (.int .i64 x85.gN), .v (.string x85.gName), .lst 5 (x85.gKids.map eTApiExpr) .no, .v (.int .i64 x85.gAt)] 72), (b88, Blk.cells [.v (.bool x87.1.gPtr), .v (.int .i64 x87.1.gN), .v (.string x87.1.gTo.gName), .v (.int .i64 x87.1.gTo.gAt)] 45)]) 7 htab rfl rfl rfl rfl rfl rfl rfl rfl rfl (ble_atM (n := 2) (m := 4) (inA_lo q91) (inA_hi q91) (Nat.le_of_ble_eq_true rfl)) (lay_two (F := fun j_ => [.v (.bool (putG j_ 0 x87.1.gPtr s53.2.1)), .v (.int .i64 (putG j_ 0 x87.1.gN s53.2.2.1)), .v (.string (putG j_ 0 x87.1.gTo.gName s53.2.2.2.1)), .v (.int .i64 (putG j_ 0 x87.1.gTo.gAt s53.2.2.2.2.1)), .v (.bool (putG j_ 1 x87.1.gPtr s53.2.2.2.2.2.1)), .v (.int .i64 (putG j_ 1 x87.1.gN s53.2.2.2.2.2.2.1)), .v (.string (putG j_ 1 x87.1.gTo.gName s53.2.2.2.2.2.2.2.1)), .v (.int .i64 (putG j_ 1 x87.1.gTo.gAt s53.2.2.2.2.2.2.2.2))]) (L := fun j_ => lay [.v (.bool s53.2.1), .v (.int .i64 s53.2.2.1), .v (.string s53.2.2.2.1), .v (.int .i64 s53.2.2.2.2.1), .v (.bool s53.2.2.2.2.2.1), .v (.int .i64 s53.2.2.2.2.2.2.1), .v (.string s53.2.2.2.2.2.2.2.1), .v (.int .i64 s53.2.2.2.2.2.2.2.2)] (0 + j_.toNat * 4) [.v (.bool x87.1.gPtr), .v (.int .i64 x87.1.gN), .v (.string x87.1.gTo.gName), .v (.int .i64 x87.1.gTo.gAt)]) (inA_lo q91) (inA_hi q91) rfl rfl) rfl ?_
        refine ops_nil ?_
        refine block_normal ?_
        refine then_normal ?_
        refine wpD_region ?_
        refine pu ?_
        refine pu ?_
        refine ops_nil ?_
        refine then_normal ⟨_, lp_next hm, ?_⟩
        exact WkX.of () (WkS.perm (WkS.cons rfl (Wk.refl _) (WkS.cons rfl (Wk.refl _) (WkS.cons rfl (Wk.refl _) (WkS.cons rfl (Wk.refl _) (WkS.cons rfl (Wk.refl _) (WkS.cons rfl (Wk.refl _) (WkS.cons rfl (Wk.refl _) (WkS.cons rfl (Wk.refl _) (WkS.nil))))))))) Pf Pf)
      ·replace hm := yes_f hc84 hm
       refine wpD_exit ?_
       refine then_exit ?_
       have e53 := lp_done hm; subst e53; clear hm; have hm := hq53
       refine then_exit ?_
       refine block_hit ?_
       have e52 := yes_eq hm; subst e52
       refine midX_inl ?_
       exact WkX.of () (WkS.perm (WkS.cons rfl (Wk.refl _) (WkS.cons rfl (Wk.refl _) (WkS.cons rfl (Wk.refl _) (WkS.cons rfl (Wk.refl _) (WkS.cons rfl (Wk.refl _) (WkS.nil)))))) Pf Pf)
    ·intro y52 s52 hx52 hw52; subst hx52; clear hm; have hm := ho52; simp only [Sum.elim_inl] at hm; clear q52 ho52
     refine then_normal ?_
     refine wpD_wkX hw52 (fun z52 => ?_)
     refine wpD_seq ?_
     refine wpD_sr ?_
     refine pu ?_
     refine ops_nt ?_
     refine wpD_block ?_
     refine wpD_sr ?_
     refine pu ?_
     refine pu ?_
     refine ops_nt ?_
     refine wpD_cond rfl (fun hc100 => ?_) (fun hc100 => ?_)
     ·replace hm := yes_t hc100 hm
      refine wpD_sr ?_
      refine p_load (d := .agg [.ptr o0 0, .ptr o1 0]) 4 htab rfl rfl rfl rfl rfl rfl rfl rfl ?_
      refine p_load (d := .agg [.v (.int .i64 a1.gOp), .v (.int .i64 a1.gN), .v (.string a1.gName), .lst 5 (a1.gKids.map eTApiExpr) .no, .v (.int .i64 a1.gAt)]) 5 htab rfl rfl rfl rfl rfl rfl rfl rfl ?_
      obtain ⟨x101, q101, hm⟩ := yes_bind hm
      refine p_callG (eval_room_leaf_ok a1 m0 m1 o0 T0 z0_0 z0_1 c0_2 o1 T1 c1_0 c1_1 x101 q101) rfl rfl rfl rfl rfl (WkL.cons (Wk.refl _) (WkL.cons (Wk.trans (Wk.agg (WkR.refl _)) (Wk.of_eq (eTApiExpr_eq a1).symm)) Wl)) Pf Pf ?_
      rintro _ _ _ ⟨rfl, rfl, rfl⟩
      refine pu ?_
      refine pu ?_
      refine pS6 (ds' := [.v (.bool x101.1.gPtr), .v (.int .i64 x101.1.gN), .v (.string x101.1.gTo.gName), .v (.int .i64 x101.1.gTo.gAt)]) ?_
      refine pu ?_
      refine ops_nt ?_
      refine wpD_ret ?_
      refine block_ret ?_
      refine then_ret ?_
      have er102 := yes_eq hm; subst er102
      refine rP (t' := [(4, .ptr b3 0), (5, .v (.int .i64 x101.2))]) [0,0,0,0,2] [] 4 (wC (wC wN)) (lC 4 (lT lN)) ?_
      exact ⟨rfl, rfl, rfl⟩
     ·replace hm := yes_f hc100 hm
      refine wpD_sr ?_
      refine pu ?_
      refine pu ?_
      refine ops_nt ?_
      refine wpD_cond rfl (fun hc105 => ?_) (fun hc105 => ?_)
      ·replace hm := yes_t hc105 hm
       refine wpD_sr ?_
       refine p_load (d := .agg [.ptr o0 0, .ptr o1 0]) 4 htab rfl rfl rfl rfl rfl rfl rfl rfl ?_
       refine p_load (d := .agg [.v (.int .i64 a1.gOp), .v (.int .i64 a1.gN), .v (.string a1.gName), .lst 5 (a1.gKids.map eTApiExpr) .no, .v (.int .i64 a1.gAt)]) 5 htab rfl rfl rfl rfl rfl rfl rfl rfl ?_
       refine p_elemA htab rfl rfl rfl rfl rfl rfl rfl rfl rfl (by decide) (by decide) ?_
       refine p_load (d := eTApiWord (⟨y52.1, y52.2.1, (⟨y52.2.2.1, y52.2.2.2.1⟩ : TApiCell)⟩ : TApiWord)) 7 htab rfl rfl rfl rfl rfl rfl rfl rfl ?_
       obtain ⟨x106, q106, hm⟩ := yes_bind hm
       refine p_callG (eval_room_one_ok a1 (⟨y52.1, y52.2.1, (⟨y52.2.2.1, y52.2.2.2.1⟩ : TApiCell)⟩ : TApiWord) m0 m1 o0 T0 z0_0 z0_1 c0_2 o1 T1 c1_0 c1_1 x106 q106) rfl rfl rfl rfl rfl (WkL.cons (Wk.refl _) (WkL.cons (Wk.trans (Wk.agg (WkR.refl _)) (Wk.of_eq (eTApiExpr_eq a1).symm)) (WkL.cons (Wk.refl _) Wl))) Pf Pf ?_
       rintro _ _ _ ⟨rfl, rfl, rfl⟩
       refine pu ?_
       refine pu ?_
       refine pS6 (ds' := [.v (.bool x106.1.gPtr), .v (.int .i64 x106.1.gN), .v (.string x106.1.gTo.gName), .v (.int .i64 x106.1.gTo.gAt)]) ?_
       refine pu ?_
       refine ops_nt ?_
       refine wpD_ret ?_
       refine block_ret ?_
       refine then_ret ?_
       have er107 := yes_eq hm; subst er107
       refine rP (t' := [(4, .ptr b3 0), (5, .v (.int .i64 x106.2))]) [0,0,0,0,2] [] 4 (wC (wC wN)) (lC 4 (lT lN)) ?_
       exact ⟨rfl, rfl, rfl⟩
      ·replace hm := yes_f hc105 hm
       refine wpD_skip ?_
       refine block_normal ?_
       refine then_normal ?_
       refine wpD_sr ?_
       refine pu ?_
       refine pL 5 ?_
       refine p_elemA htab rfl rfl rfl rfl rfl rfl rfl rfl rfl (by decide) (by decide) ?_
       refine p_load (d := eTApiWord (⟨y52.1, y52.2.1, (⟨y52.2.2.1, y52.2.2.2.1⟩ : TApiCell)⟩ : TApiWord)) 7 htab rfl rfl rfl rfl rfl rfl rfl rfl ?_
       refine p_elemA htab rfl rfl rfl rfl rfl rfl rfl rfl rfl (by decide) (by decide) ?_
       refine p_load (d := eTApiWord (⟨y52.2.2.2.2.1, y52.2.2.2.2.2.1, (⟨y52.2.2.2.2.2.2.1, y52.2.2.2.2.2.2.2⟩ : TApiCell)⟩ : TApiWord)) 7 htab rfl rfl rfl rfl rfl rfl rfl rfl ?_
       obtain ⟨x108, q108, hm⟩ := yes_bind hm
       refine p_call0 (eval_two_ok a1.gOp (⟨y52.1, y52.2.1, (⟨y52.2.2.1, y52.2.2.2.1⟩ : TApiCell)⟩ : TApiWord) (⟨y52.2.2.2.2.1, y52.2.2.2.2.2.1, (⟨y52.2.2.2.2.2.2.1, y52.2.2.2.2.2.2.2⟩ : TApiCell)⟩ : TApiWord) x108 q108) rfl rfl rfl rfl rfl Wl ?_
       rintro _ rfl
       refine pu ?_
       refine pu ?_
       refine pS6 (ds' := [.v (.bool x108.1.gPtr), .v (.int .i64 x108.1.gN), .v (.string x108.1.gTo.gName), .v (.int .i64 x108.1.gTo.gAt)]) ?_
       refine pu ?_
       refine ops_nt ?_
       refine wpD_ret ?_
       have er109 := yes_eq hm; subst er109
       refine rP (t' := [(4, .ptr b3 0), (5, .v (.int .i64 x108.2))]) [0,0,0,0,2] [] 4 (wC (wC wN)) (lC 4 (lT lN)) ?_
       exact ⟨rfl, rfl, rfl⟩
noncomputable def eval_room_expr_g : Nat → ((TApiExpr) → (TMemMem) → (TEvalFrame) → Option (TApiWord × Int))
  | 0 => (fun _ _ _ => none)
  | n + 1 => (eval_room_expr_b ((eval_room_expr_g n)))
theorem eval_room_expr_g_ok : ∀ n, (∀ (a1 : TApiExpr) (m0 : TMemMem) (m1 : TEvalFrame) (o0 : Nat) (T0 : TypeId) (z0_0 : Nat) (z0_1 : Nat) (c0_2 : Cap) (o1 : Nat) (T1 : TypeId) (c1_0 : Cap) (c1_1 : Cap) (r : TApiWord × Int) (h0 : (eval_room_expr_g n) a1 m0 m1 = some r), CallsD Try.prog 23 [.agg [.ptr o0 0, .ptr o1 0], eTApiExpr a1] [(o0, Blk.cells [.v (.map (some z0_0)), .v (.map (some z0_1)), .lst 2 (m0.gCells.map eTApiCell) c0_2] T0), (o1, Blk.cells [.lst 2 (m1.gVars.map eTApiVar) c1_0, .lst 4 (m1.gWords.map eTApiWord) c1_1] T1), (z0_0, Blk.mp (m0.gSizes.map fun p => ((fun s : ByteArray => Value.string s) p.1, eI64 p.2))), (z0_1, Blk.mp (m0.gWords.map fun p => ((fun a => Value.agg (kcTApiCell a).toArray) p.1, eTApiWord p.2)))] [] (fun d h k => d = .tup [eTApiWord r.1, .v (.int .i64 r.2)] ∧ h = [(o0, Blk.cells [.v (.map (some z0_0)), .v (.map (some z0_1)), .lst 2 (m0.gCells.map eTApiCell) c0_2] T0), (o1, Blk.cells [.lst 2 (m1.gVars.map eTApiVar) c1_0, .lst 4 (m1.gWords.map eTApiWord) c1_1] T1), (z0_0, Blk.mp (m0.gSizes.map fun p => ((fun s : ByteArray => Value.string s) p.1, eI64 p.2))), (z0_1, Blk.mp (m0.gWords.map fun p => ((fun a => Value.agg (kcTApiCell a).toArray) p.1, eTApiWord p.2)))] ∧ k = []))
  | 0 => fun _ _ _ _ _ _ _ _ _ _ _ _ _ h0 => by cases h0
  | n + 1 => by
    have ih := eval_room_expr_g_ok n
    exact eval_room_expr_b_ok (eval_room_expr_g n) ih
theorem eval_room_expr_g_le : ∀ n, (∀ (a1 : TApiExpr) (m0 : TMemMem) (m1 : TEvalFrame), Le ((eval_room_expr_g n) a1 m0 m1) ((eval_room_expr_g (n + 1)) a1 m0 m1))
  | 0 => fun _ _ _ => Le.none _
  | n + 1 => by
    have ih := eval_room_expr_g_le n
    exact fun a1 m0 m1 => by show Le (eval_room_expr_b ((eval_room_expr_g n)) a1 m0 m1) (eval_room_expr_b ((eval_room_expr_g (n + 1))) a1 m0 m1); unfold eval_room_expr_b; repeat (first | exact Le.refl _ | exact ih _ _ _ | assumption | (refine Le.bind ?_ (fun _ => ?_)) | (refine Le.cond ?_ ?_) | (refine Le.loop (fun _ => ?_)) | (refine Le.elim (fun _ => ?_) (fun _ => ?_)))
noncomputable def eval_room_expr (a1 : TApiExpr) (m0 : TMemMem) (m1 : TEvalFrame) : Option (TApiWord × Int) := anyN fun n => (eval_room_expr_g n) a1 m0 m1
theorem eval_room_expr_of (a1 : TApiExpr) (m0 : TMemMem) (m1 : TEvalFrame) {r : TApiWord × Int} (n : Nat) (h : (eval_room_expr_g n) a1 m0 m1 = some r) : eval_room_expr a1 m0 m1 = some r := anyN_of (fun m => (eval_room_expr_g_le m) a1 m0 m1) h
theorem eval_room_expr_ok (a1 : TApiExpr) (m0 : TMemMem) (m1 : TEvalFrame) (o0 : Nat) (T0 : TypeId) (z0_0 : Nat) (z0_1 : Nat) (c0_2 : Cap) (o1 : Nat) (T1 : TypeId) (c1_0 : Cap) (c1_1 : Cap) (r : TApiWord × Int) (h0 : eval_room_expr a1 m0 m1 = some r) : CallsD Try.prog 23 [.agg [.ptr o0 0, .ptr o1 0], eTApiExpr a1] [(o0, Blk.cells [.v (.map (some z0_0)), .v (.map (some z0_1)), .lst 2 (m0.gCells.map eTApiCell) c0_2] T0), (o1, Blk.cells [.lst 2 (m1.gVars.map eTApiVar) c1_0, .lst 4 (m1.gWords.map eTApiWord) c1_1] T1), (z0_0, Blk.mp (m0.gSizes.map fun p => ((fun s : ByteArray => Value.string s) p.1, eI64 p.2))), (z0_1, Blk.mp (m0.gWords.map fun p => ((fun a => Value.agg (kcTApiCell a).toArray) p.1, eTApiWord p.2)))] [] (fun d h k => d = .tup [eTApiWord r.1, .v (.int .i64 r.2)] ∧ h = [(o0, Blk.cells [.v (.map (some z0_0)), .v (.map (some z0_1)), .lst 2 (m0.gCells.map eTApiCell) c0_2] T0), (o1, Blk.cells [.lst 2 (m1.gVars.map eTApiVar) c1_0, .lst 4 (m1.gWords.map eTApiWord) c1_1] T1), (z0_0, Blk.mp (m0.gSizes.map fun p => ((fun s : ByteArray => Value.string s) p.1, eI64 p.2))), (z0_1, Blk.mp (m0.gWords.map fun p => ((fun a => Value.agg (kcTApiCell a).toArray) p.1, eTApiWord p.2)))] ∧ k = []) :=
  let ⟨n, hn⟩ := anyN_inv h0; (eval_room_expr_g_ok n) a1 m0 m1 o0 T0 z0_0 z0_1 c0_2 o1 T1 c1_0 c1_1 r hn
noncomputable def eval_Expr (m0 : TMemMem) (m1 : TEvalFrame) (a2 : TApiExpr) : Option (TApiWord × Int) :=
  ((eval_room_expr a2 m0 m1).bind fun x3 => some (x3.1, x3.2))
set_option maxRecDepth 100000 in
set_option maxHeartbeats 2000000 in
theorem eval_Expr_ok (m0 : TMemMem) (m1 : TEvalFrame) (a2 : TApiExpr) (o0 : Nat) (T0 : TypeId) (z0_0 : Nat) (z0_1 : Nat) (c0_2 : Cap) (o1 : Nat) (T1 : TypeId) (c1_0 : Cap) (c1_1 : Cap) (r : TApiWord × Int) (h0 : eval_Expr m0 m1 a2 = some r) : CallsD Try.prog 16 [.ptr o0 0, .ptr o1 0, eTApiExpr a2] [(o0, Blk.cells [.v (.map (some z0_0)), .v (.map (some z0_1)), .lst 2 (m0.gCells.map eTApiCell) c0_2] T0), (o1, Blk.cells [.lst 2 (m1.gVars.map eTApiVar) c1_0, .lst 4 (m1.gWords.map eTApiWord) c1_1] T1), (z0_0, Blk.mp (m0.gSizes.map fun p => ((fun s : ByteArray => Value.string s) p.1, eI64 p.2))), (z0_1, Blk.mp (m0.gWords.map fun p => ((fun a => Value.agg (kcTApiCell a).toArray) p.1, eTApiWord p.2)))] [] (fun d h k => d = .tup [eTApiWord r.1, .v (.int .i64 r.2)] ∧ h = [(o0, Blk.cells [.v (.map (some z0_0)), .v (.map (some z0_1)), .lst 2 (m0.gCells.map eTApiCell) c0_2] T0), (o1, Blk.cells [.lst 2 (m1.gVars.map eTApiVar) c1_0, .lst 4 (m1.gWords.map eTApiWord) c1_1] T1), (z0_0, Blk.mp (m0.gSizes.map fun p => ((fun s : ByteArray => Value.string s) p.1, eI64 p.2))), (z0_1, Blk.mp (m0.gWords.map fun p => ((fun a => Value.agg (kcTApiCell a).toArray) p.1, eTApiWord p.2)))] ∧ k = []) := by
  have hm := yes_of h0
  unfold eval_Expr at hm
  clear h0
  refine enterX htab Try.func16 rfl rfl rfl rfl rfl (fun C => ?_)
  refine w_eq (i := 2) rfl (Wk.of_eq (eTApiExpr_eq a2)) ?_
  refine wpD_sr ?_
  refine p_box rfl rfl rfl rfl rfl rfl rfl (fun b1 => ?_)
  refine p_alloc htab rfl rfl rfl rfl rfl rfl rfl (fun b2 => ?_)
  refine pu ?_
  refine ops_n2 ?_
  refine pu ?_
  refine pu ?_
  refine p_build (r := [.ptr o0 0, .ptr o1 0]) htab rfl rfl rfl rfl rfl rfl rfl rfl rfl ?_
  refine p_load (d := .agg [.v (.int .i64 a2.gOp), .v (.int .i64 a2.gN), .v (.string a2.gName), .lst 5 (a2.gKids.map eTApiExpr) .no, .v (.int .i64 a2.gAt)]) 4 htab rfl rfl rfl rfl rfl rfl rfl rfl ?_
  obtain ⟨x3, q3, hm⟩ := yes_bind hm
  refine p_callG (eval_room_expr_ok a2 m0 m1 o0 T0 z0_0 z0_1 c0_2 o1 T1 c1_0 c1_1 x3 q3) rfl rfl rfl rfl rfl (WkL.cons (Wk.refl _) (WkL.cons (Wk.trans (Wk.agg (WkR.refl _)) (Wk.of_eq (eTApiExpr_eq a2).symm)) Wl)) Pf Pf ?_
  rintro _ _ _ ⟨rfl, rfl, rfl⟩
  refine pu ?_
  refine pu ?_
  refine pS5 (ds' := [.v (.bool x3.1.gPtr), .v (.int .i64 x3.1.gN), .v (.string x3.1.gTo.gName), .v (.int .i64 x3.1.gTo.gAt)]) ?_
  refine pu ?_
  refine ops_nt ?_
  refine wpD_ret ?_
  have er4 := yes_eq hm; subst er4
  refine rP (t' := [(6, .ptr b2 0), (7, .v (.int .i64 x3.2))]) [0,0,0,0,1] [] 4 (wC (wC wN)) (lC 4 (lT lN)) ?_
  exact ⟨rfl, rfl, rfl⟩
noncomputable def l20_lives : Option (Bool) :=
  ((mem_New (⟨([(⟨(ByteArray.mk #[97]), false, (2 : Int), (0 : Int)⟩ : TApiGlobal)] : List TApiGlobal), []⟩ : TApiProgram)).bind fun x5 => ((mem_Mem_Set x5 (⟨(ByteArray.mk #[97]), (1 : Int)⟩ : TApiCell) (⟨false, (7 : Int), (⟨ByteArray.empty, (0 : Int)⟩ : TApiCell)⟩ : TApiWord)).bind fun x8 => ((eval_New (⟨ByteArray.empty, (0 : Int), [], ([(⟨(ByteArray.mk #[120]), false⟩ : TApiVar)] : List TApiVar), (1 : Int)⟩ : TApiGraph) ([(⟨false, (5 : Int), (⟨ByteArray.empty, (0 : Int)⟩ : TApiCell)⟩ : TApiWord)] : List TApiWord)).bind fun x12 => ((eval_Expr x8.2 x12 (⟨(10 : Int), (0 : Int), ByteArray.empty, ([(⟨(3 : Int), (0 : Int), (ByteArray.mk #[97]), ([(⟨(1 : Int), (1 : Int), ByteArray.empty, [], (0 : Int)⟩ : TApiExpr)] : List TApiExpr), (0 : Int)⟩ : TApiExpr), (⟨(2 : Int), (0 : Int), (ByteArray.mk #[120]), [], (0 : Int)⟩ : TApiExpr)] : List TApiExpr), (0 : Int)⟩ : TApiExpr)).bind fun x13 => (bif (x13.2 == (0 : Int)) then some (x13.1.gPtr == false && (x13.1.gN == (12 : Int) && ((decide (x13.1.gTo.gName = ByteArray.empty) && (x13.1.gTo.gAt == (0 : Int) && true)) && true))) else some false)))))
set_option maxRecDepth 100000 in
set_option maxHeartbeats 2000000 in
theorem l20_lives_ok  (r : Bool) (h0 : l20_lives = some r) : CallsD Try.prog 4 [] [] [] (fun d h k => d = .v (.bool r) ∧ h = [] ∧ k = []) := by
  have hm := yes_of h0
  unfold l20_lives at hm
  clear h0
  refine enterX htab Try.func4 rfl rfl rfl rfl rfl (fun C => ?_)
  refine wpD_sr ?_
  refine pu ?_
  refine ops_n2 ?_
  refine p_build (r := [.v (.string (ByteArray.mk #[97])), .v (.bool false), .v (.int .i64 (2 : Int)), .v (.int .i64 (0 : Int))]) htab rfl rfl rfl rfl rfl rfl rfl rfl rfl ?_
  refine p_lit htab rfl rfl rfl rfl rfl rfl rfl rfl rfl rfl rfl rfl rfl rfl ?_
  refine p_eq (i := 6) (d' := .lst 4 (([(⟨(ByteArray.mk #[97]), false, (2 : Int), (0 : Int)⟩ : TApiGlobal)] : List TApiGlobal).map eTApiGlobal) .full) rfl (Wk.lst0 (.cons (WkC.refl _) (.nil))) ?_
  refine p_build (r := [.lst 4 (([(⟨(ByteArray.mk #[97]), false, (2 : Int), (0 : Int)⟩ : TApiGlobal)] : List TApiGlobal).map eTApiGlobal) .full, .lst 1 [] .full]) htab rfl rfl rfl rfl rfl rfl rfl rfl rfl ?_
  obtain ⟨x5, q5, hm⟩ := yes_bind hm
  refine p_callG (mem_New_ok (⟨([(⟨(ByteArray.mk #[97]), false, (2 : Int), (0 : Int)⟩ : TApiGlobal)] : List TApiGlobal), []⟩ : TApiProgram) x5 q5) rfl rfl rfl rfl rfl (WkL.cons (Wk.agg (rO (WkR.cons (WkC.nil) rfl WkR.nil))) Wl) Pf Pf ?_
  rintro _ _ _ ⟨w1, w2, w3, w4, rfl, rfl, rfl⟩
  refine pu ?_
  refine ops_n2 ?_
  refine pu ?_
  refine p_build (r := [.v (.string (ByteArray.mk #[97])), .v (.int .i64 (1 : Int))]) htab rfl rfl rfl rfl rfl rfl rfl rfl rfl ?_
  refine p_build (r := [.v (.bool false), .v (.int .i64 (7 : Int)), .v (.string ByteArray.empty), .v (.int .i64 (0 : Int))]) htab rfl rfl rfl rfl rfl rfl rfl rfl rfl ?_
  obtain ⟨x8, q8, hm⟩ := yes_bind hm
  refine pG (mem_Mem_Set_ok x5 (⟨(ByteArray.mk #[97]), (1 : Int)⟩ : TApiCell) (⟨false, (7 : Int), (⟨ByteArray.empty, (0 : Int)⟩ : TApiCell)⟩ : TApiWord) w1 87 w2 w3 (.cur w4) x8 q8) Wl Pf Pf ?_
  rintro _ _ _ ⟨w6, w7, rfl, rfl, rfl⟩
  refine ops_n2 ?_
  refine p_build (r := [.v (.string (ByteArray.mk #[120])), .v (.bool false)]) htab rfl rfl rfl rfl rfl rfl rfl rfl rfl ?_
  refine p_lit htab rfl rfl rfl rfl rfl rfl rfl rfl rfl rfl rfl rfl rfl rfl ?_
  refine p_eq (i := 14) (d' := .lst 2 (([(⟨(ByteArray.mk #[120]), false⟩ : TApiVar)] : List TApiVar).map eTApiVar) .full) rfl (Wk.lst0 (.cons (WkC.refl _) (.nil))) ?_
  refine p_build (r := [.v (.string ByteArray.empty), .v (.int .i64 (0 : Int)), .lst 1 [] .full, .lst 2 (([(⟨(ByteArray.mk #[120]), false⟩ : TApiVar)] : List TApiVar).map eTApiVar) .full, .v (.int .i64 (1 : Int))]) htab rfl rfl rfl rfl rfl rfl rfl rfl rfl ?_
  refine p_build (r := [.v (.bool false), .v (.int .i64 (5 : Int)), .v (.string ByteArray.empty), .v (.int .i64 (0 : Int))]) htab rfl rfl rfl rfl rfl rfl rfl rfl rfl ?_
  refine p_lit htab rfl rfl rfl rfl rfl rfl rfl rfl rfl rfl rfl rfl rfl rfl ?_
  refine p_eq (i := 17) (d' := .lst 4 (([(⟨false, (5 : Int), (⟨ByteArray.empty, (0 : Int)⟩ : TApiCell)⟩ : TApiWord)] : List TApiWord).map eTApiWord) .full) rfl (Wk.lst0 (.cons (WkC.refl _) (.nil))) ?_
  obtain ⟨x12, q12, hm⟩ := yes_bind hm
  refine p_callG (eval_New_ok (⟨ByteArray.empty, (0 : Int), [], ([(⟨(ByteArray.mk #[120]), false⟩ : TApiVar)] : List TApiVar), (1 : Int)⟩ : TApiGraph) ([(⟨false, (5 : Int), (⟨ByteArray.empty, (0 : Int)⟩ : TApiCell)⟩ : TApiWord)] : List TApiWord) x12 q12) rfl rfl rfl rfl rfl (WkL.cons (Wk.agg (rC (rC (WkR.cons (WkC.nil) rfl (rO (rC WkR.nil)))))) (WkL.cons (Wk.no) Wl)) Pf Pf ?_
  rintro _ _ _ ⟨w9, w10, w11, rfl, rfl, rfl⟩
  refine pu ?_
  refine ops_n2 ?_
  refine pu ?_
  refine pu ?_
  refine p_build (r := [.v (.int .i64 (1 : Int)), .v (.int .i64 (1 : Int)), .v (.string ByteArray.empty), .lst 1 [] .full, .v (.int .i64 (0 : Int))]) htab rfl rfl rfl rfl rfl rfl rfl rfl rfl ?_
  refine p_lit htab rfl rfl rfl rfl rfl rfl rfl rfl rfl rfl rfl rfl rfl rfl ?_
  refine p_eq (i := 23) (d' := .lst 5 (([(⟨(1 : Int), (1 : Int), ByteArray.empty, [], (0 : Int)⟩ : TApiExpr)] : List TApiExpr).map eTApiExpr) .full) rfl (Wk.lst0 (.cons (WkC.trans (WkC.agg (rC (rC (rC (WkR.cons (WkC.nil) rfl (rC WkR.nil)))))) (WkC.of_eq (eTApiExpr_eq (⟨(1 : Int), (1 : Int), ByteArray.empty, [], (0 : Int)⟩ : TApiExpr)).symm)) (.nil))) ?_
  refine p_build (r := [.v (.int .i64 (3 : Int)), .v (.int .i64 (0 : Int)), .v (.string (ByteArray.mk #[97])), .lst 5 (([(⟨(1 : Int), (1 : Int), ByteArray.empty, [], (0 : Int)⟩ : TApiExpr)] : List TApiExpr).map eTApiExpr) .full, .v (.int .i64 (0 : Int))]) htab rfl rfl rfl rfl rfl rfl rfl rfl rfl ?_
  refine p_build (r := [.v (.int .i64 (2 : Int)), .v (.int .i64 (0 : Int)), .v (.string (ByteArray.mk #[120])), .lst 1 [] .full, .v (.int .i64 (0 : Int))]) htab rfl rfl rfl rfl rfl rfl rfl rfl rfl ?_
  refine p_lit htab rfl rfl rfl rfl rfl rfl rfl rfl rfl rfl rfl rfl rfl rfl ?_
  refine p_eq (i := 26) (d' := .lst 5 (([(⟨(3 : Int), (0 : Int), (ByteArray.mk #[97]), ([(⟨(1 : Int), (1 : Int), ByteArray.empty, [], (0 : Int)⟩ : TApiExpr)] : List TApiExpr), (0 : Int)⟩ : TApiExpr), (⟨(2 : Int), (0 : Int), (ByteArray.mk #[120]), [], (0 : Int)⟩ : TApiExpr)] : List TApiExpr).map eTApiExpr) .full) rfl (Wk.lst0 (.cons (WkC.trans (WkC.agg (rC (rC (rC (rO (rC WkR.nil)))))) (WkC.of_eq (eTApiExpr_eq (⟨(3 : Int), (0 : Int), (ByteArray.mk #[97]), ([(⟨(1 : Int), (1 : Int), ByteArray.empty, [], (0 : Int)⟩ : TApiExpr)] : List TApiExpr), (0 : Int)⟩ : TApiExpr)).symm)) (.cons (WkC.trans (WkC.agg (rC (rC (rC (WkR.cons (WkC.nil) rfl (rC WkR.nil)))))) (WkC.of_eq (eTApiExpr_eq (⟨(2 : Int), (0 : Int), (ByteArray.mk #[120]), [], (0 : Int)⟩ : TApiExpr)).symm)) (.nil)))) ?_
  refine p_build (r := [.v (.int .i64 (10 : Int)), .v (.int .i64 (0 : Int)), .v (.string ByteArray.empty), .lst 5 (([(⟨(3 : Int), (0 : Int), (ByteArray.mk #[97]), ([(⟨(1 : Int), (1 : Int), ByteArray.empty, [], (0 : Int)⟩ : TApiExpr)] : List TApiExpr), (0 : Int)⟩ : TApiExpr), (⟨(2 : Int), (0 : Int), (ByteArray.mk #[120]), [], (0 : Int)⟩ : TApiExpr)] : List TApiExpr).map eTApiExpr) .full, .v (.int .i64 (0 : Int))]) htab rfl rfl rfl rfl rfl rfl rfl rfl rfl ?_
  obtain ⟨x13, q13, hm⟩ := yes_bind hm
  refine p_callG (eval_Expr_ok x8.2 x12 (⟨(10 : Int), (0 : Int), ByteArray.empty, ([(⟨(3 : Int), (0 : Int), (ByteArray.mk #[97]), ([(⟨(1 : Int), (1 : Int), ByteArray.empty, [], (0 : Int)⟩ : TApiExpr)] : List TApiExpr), (0 : Int)⟩ : TApiExpr), (⟨(2 : Int), (0 : Int), (ByteArray.mk #[120]), [], (0 : Int)⟩ : TApiExpr)] : List TApiExpr), (0 : Int)⟩ : TApiExpr) w1 87 w6 w7 (.cur w4) w9 81 (.cur w10) (.cur w11) x13 q13) rfl rfl rfl rfl rfl (WkL.cons (Wk.refl _) (WkL.cons (Wk.refl _) (WkL.cons (Wk.trans (Wk.agg (rC (rC (rC (rO (rC WkR.nil)))))) (Wk.of_eq (eTApiExpr_eq (⟨(10 : Int), (0 : Int), ByteArray.empty, ([(⟨(3 : Int), (0 : Int), (ByteArray.mk #[97]), ([(⟨(1 : Int), (1 : Int), ByteArray.empty, [], (0 : Int)⟩ : TApiExpr)] : List TApiExpr), (0 : Int)⟩ : TApiExpr), (⟨(2 : Int), (0 : Int), (ByteArray.mk #[120]), [], (0 : Int)⟩ : TApiExpr)] : List TApiExpr), (0 : Int)⟩ : TApiExpr)).symm)) Wl))) ((perm_at (j := 1) rfl).trans (List.Perm.cons _ ((perm_at (j := 0) rfl).trans (List.Perm.cons _ ((perm_at (j := 0) rfl).trans (List.Perm.cons _ ((perm_at (j := 0) rfl).trans (List.Perm.cons _ Pf)))))))) Pf ?_
  rintro _ _ _ ⟨rfl, rfl, rfl⟩
  iterate 3 refine pu ?_
  refine p_alloc htab rfl rfl rfl rfl rfl rfl rfl (fun b14 => ?_)
  refine pS4 (ds' := [.v (.bool x13.1.gPtr), .v (.int .i64 x13.1.gN), .v (.string x13.1.gTo.gName), .v (.int .i64 x13.1.gTo.gAt)]) ?_
  refine pu ?_
  refine ops_n2 ?_
  iterate 3 refine pu ?_
  refine p_split (i := 33) rfl (fun hg15 => ?_) (fun hg15 => ?_)
  ·replace hm := yes_t hg15 hm
   refine p_load (d := eTApiWord x13.1) 4 htab rfl rfl rfl rfl rfl rfl rfl rfl ?_
   refine p_build (r := [.v (.bool false), .v (.int .i64 (12 : Int)), .v (.string ByteArray.empty), .v (.int .i64 (0 : Int))]) htab rfl rfl rfl rfl rfl rfl rfl rfl rfl ?_
   refine p_eqC eqn45 htab rfl rfl rfl rfl rfl eqs45 eqg45 rfl rfl rfl rfl ?_
   refine p_pickT rfl rfl rfl rfl rfl rfl ?_
   refine pu ?_
   refine ops_nt ?_
   refine wpD_ret ?_
   have er16 := yes_eq hm; subst er16
   refine rP (t' := [(0, .v (.bool (x13.1.gPtr == false && (x13.1.gN == (12 : Int) && ((decide (x13.1.gTo.gName = ByteArray.empty) && (x13.1.gTo.gAt == (0 : Int) && true)) && true)))))]) [] [] 0 (wC wN) (lT lN) ?_
   exact ⟨rfl, rfl, rfl⟩
  ·replace hm := yes_f hg15 hm
   iterate 3 refine pK ?_
   refine p_pickF rfl rfl rfl rfl rfl rfl ?_
   refine pu ?_
   refine ops_nt ?_
   refine wpD_ret ?_
   have er17 := yes_eq hm; subst er17
   refine rP (t' := [(0, .v (.bool false))]) [] [] 0 (wC wN) (lT lN) ?_
   exact ⟨rfl, rfl, rfl⟩
noncomputable def r17_kind (a0 : Int) : Option (Int) :=
  (bif (a0 == (1 : Int)) then some (1 : Int) else (bif (a0 == (2 : Int)) then some (2 : Int) else (bif (a0 == (3 : Int)) then some (3 : Int) else (bif (a0 == (4 : Int)) then some (4 : Int) else (bif (a0 == (5 : Int)) then some (5 : Int) else (bif (a0 == (9 : Int)) then some (9 : Int) else some (0 : Int)))))))
set_option maxRecDepth 100000 in
set_option maxHeartbeats 2000000 in
theorem r17_kind_ok (a0 : Int) (r : Int) (h0 : r17_kind a0 = some r) : CallsD Try.prog 32 [.v (.int .i64 a0)] [] [] (fun d h k => d = .v (.int .i64 r) ∧ h = [] ∧ k = []) := by
  have hm := yes_of h0
  unfold r17_kind at hm
  clear h0
  refine enterX htab Try.func32 rfl rfl rfl rfl rfl (fun C => ?_)
  refine wpD_sr ?_
  refine pu ?_
  refine ops_nt ?_
  refine wpD_seq ?_
  refine wpD_sr ?_
  refine pu ?_
  refine ops_nt ?_
  refine wpD_block ?_
  refine wpD_sr ?_
  refine pu ?_
  refine pu ?_
  refine ops_nt ?_
  refine wpD_cond rfl (fun hc1 => ?_) (fun hc1 => ?_)
  ·replace hm := yes_t hc1 hm
   refine wpD_sr ?_
   refine pu ?_
   refine ops_nt ?_
   refine wpD_ret ?_
   refine block_ret ?_
   refine then_ret ?_
   have er2 := yes_eq hm; subst er2
   refine rP (t' := [(2, .v (.int .i64 (1 : Int)))]) [] [] 0 (wC wN) (lT lN) ?_
   exact ⟨rfl, rfl, rfl⟩
  ·replace hm := yes_f hc1 hm
   refine wpD_sr ?_
   refine pu ?_
   refine pu ?_
   refine ops_nt ?_
   refine wpD_cond rfl (fun hc3 => ?_) (fun hc3 => ?_)
   ·replace hm := yes_t hc3 hm
    refine wpD_sr ?_
    refine pu ?_
    refine ops_nt ?_
    refine wpD_ret ?_
    refine block_ret ?_
    refine then_ret ?_
    have er4 := yes_eq hm; subst er4
    refine rP (t' := [(2, .v (.int .i64 (2 : Int)))]) [] [] 0 (wC wN) (lT lN) ?_
    exact ⟨rfl, rfl, rfl⟩
   ·replace hm := yes_f hc3 hm
    refine wpD_sr ?_
    refine pu ?_
    refine pu ?_
    refine ops_nt ?_
    refine wpD_cond rfl (fun hc5 => ?_) (fun hc5 => ?_)
    ·replace hm := yes_t hc5 hm
     refine wpD_sr ?_
     refine pu ?_
     refine ops_nt ?_
     refine wpD_ret ?_
     refine block_ret ?_
     refine then_ret ?_
     have er6 := yes_eq hm; subst er6
     refine rP (t' := [(2, .v (.int .i64 (3 : Int)))]) [] [] 0 (wC wN) (lT lN) ?_
     exact ⟨rfl, rfl, rfl⟩
    ·replace hm := yes_f hc5 hm
     refine wpD_sr ?_
     refine pu ?_
     refine pu ?_
     refine ops_nt ?_
     refine wpD_cond rfl (fun hc7 => ?_) (fun hc7 => ?_)
     ·replace hm := yes_t hc7 hm
      refine wpD_sr ?_
      refine pu ?_
      refine ops_nt ?_
      refine wpD_ret ?_
      refine block_ret ?_
      refine then_ret ?_
      have er8 := yes_eq hm; subst er8
      refine rP (t' := [(2, .v (.int .i64 (4 : Int)))]) [] [] 0 (wC wN) (lT lN) ?_
      exact ⟨rfl, rfl, rfl⟩
     ·replace hm := yes_f hc7 hm
      refine wpD_sr ?_
      refine pu ?_
      refine pu ?_
      refine ops_nt ?_
      refine wpD_cond rfl (fun hc9 => ?_) (fun hc9 => ?_)
      ·replace hm := yes_t hc9 hm
       refine wpD_sr ?_
       refine pu ?_
       refine ops_nt ?_
       refine wpD_ret ?_
       refine block_ret ?_
       refine then_ret ?_
       have er10 := yes_eq hm; subst er10
       refine rP (t' := [(2, .v (.int .i64 (5 : Int)))]) [] [] 0 (wC wN) (lT lN) ?_
       exact ⟨rfl, rfl, rfl⟩
      ·replace hm := yes_f hc9 hm
       refine wpD_sr ?_
       refine pu ?_
       refine pu ?_
       refine ops_nt ?_
       refine wpD_cond rfl (fun hc11 => ?_) (fun hc11 => ?_)
       ·replace hm := yes_t hc11 hm
        refine wpD_sr ?_
        refine pu ?_
        refine ops_nt ?_
        refine wpD_ret ?_
        refine block_ret ?_
        refine then_ret ?_
        have er12 := yes_eq hm; subst er12
        refine rP (t' := [(2, .v (.int .i64 (9 : Int)))]) [] [] 0 (wC wN) (lT lN) ?_
        exact ⟨rfl, rfl, rfl⟩
       ·replace hm := yes_f hc11 hm
        refine wpD_skip ?_
        refine block_normal ?_
        refine then_normal ?_
        refine wpD_sr ?_
        refine pu ?_
        refine ops_nt ?_
        refine wpD_ret ?_
        have er13 := yes_eq hm; subst er13
        refine rP (t' := [(2, .v (.int .i64 (0 : Int)))]) [] [] 0 (wC wN) (lT lN) ?_
        exact ⟨rfl, rfl, rfl⟩
structure TSondageref17Made where
  gNodes : Int
  gAt : Int
  gEdges : List TApiEdge
  gPlaces : List Int
def eTSondageref17Made (x : TSondageref17Made) : D := .agg [.v (.int .i64 x.gNodes), .v (.int .i64 x.gAt), .lst 6 (x.gEdges.map eTApiEdge) .no, .lst 1 (x.gPlaces.map eI64) .no]
noncomputable def r17_with (a0 : TSondageref17Made) (a1 : Int) (a2 : Int) (a3 : Int) (a4 : TApiStmt) : Option (TSondageref17Made) :=
  ((app 80 ([] : List TApiEdge) a0.gEdges).bind fun x5 => ((app 80 x5 ([(⟨a1, a2, a3, a4.gName, a4.gFunc, a4.gExps⟩ : TApiEdge)] : List TApiEdge)).bind fun x6 => some (⟨a0.gNodes, a0.gAt, x6, a0.gPlaces⟩ : TSondageref17Made)))
set_option maxRecDepth 100000 in
set_option maxHeartbeats 2000000 in
theorem r17_with_ok (a0 : TSondageref17Made) (a1 : Int) (a2 : Int) (a3 : Int) (a4 : TApiStmt) (r : TSondageref17Made) (h0 : r17_with a0 a1 a2 a3 a4 = some r) : CallsD Try.prog 18 [eTSondageref17Made a0, .v (.int .i64 a1), .v (.int .i64 a2), .v (.int .i64 a3), eTApiStmt a4] [] [] (fun d h k => ∃ y0, d = .agg [.v (.int .i64 r.gNodes), .v (.int .i64 r.gAt), .lst 6 (r.gEdges.map eTApiEdge) (.cur y0), .lst 1 (r.gPlaces.map eI64) .no] ∧ h = [] ∧ k = [(6, y0)]) := by
  have hm := yes_of h0
  unfold r17_with at hm
  clear h0
  refine enterX htab Try.func18 rfl rfl rfl rfl rfl (fun C => ?_)
  refine w_eq (i := 4) rfl (Wk.of_eq (eTApiStmt_eq a4)) ?_
  refine wpD_sr ?_
  refine p_box rfl rfl rfl rfl rfl rfl rfl (fun b1 => ?_)
  refine p_box rfl rfl rfl rfl rfl rfl rfl (fun b2 => ?_)
  refine p_alloc htab rfl rfl rfl rfl rfl rfl rfl (fun b3 => ?_)
  refine ops_n2 ?_
  iterate 4 refine pu ?_
  refine pL 1 ?_
  refine pu ?_
  refine pL 1 ?_
  refine pu ?_
  refine pL 1 ?_
  refine p_build (r := [.v (.int .i64 a1), .v (.int .i64 a2), .v (.int .i64 a3), .v (.string a4.gName), .v (.string a4.gFunc), .lst 5 (a4.gExps.map eTApiExpr) .no]) htab rfl rfl rfl rfl rfl rfl rfl rfl rfl ?_
  refine p_alloc htab rfl rfl rfl rfl rfl rfl rfl (fun b4 => ?_)
  refine pS3 (ds' := [.v (.int .i64 a1), .v (.int .i64 a2), .v (.int .i64 a3), .v (.string a4.gName), .v (.string a4.gFunc), .lst 5 (a4.gExps.map eTApiExpr) .no]) ?_
  refine ops_nt ?_
  refine wpD_seq ?_
  obtain ⟨x5, q5, hm⟩ := yes_bind hm
  refine wpD_appF 5 [] [[],[0],[0,1],[],[3]] [0,1,2,3,4] [[],[0],[0,1],[],[3],[0,1,2,3,4],[0,1,2,3,4,5],[0,1,2,3,4,5,6]] 2 6 (by kernel_rfl) (by kernel_rfl) (by kernel_rfl) (by rfl) (by rfl) (by kernel_rfl) ?_
  iterate 3 apply Exists.intro
  refine ⟨.any, ?_⟩
  apply Exists.intro
  apply Exists.intro
  intro bs v5
  refine zh_e rfl rfl (ex_pure htab rfl) rfl rfl rfl rfl rfl rfl rfl rfl ?_
  refine zh_M rfl rfl (fun _ => xm_load 0 htab rfl rfl rfl rfl rfl) (offB rfl) rfl rfl rfl rfl rfl rfl rfl rfl ?_
  refine zh_app htab rfl rfl rfl rfl rfl rfl rfl rfl (rep_of0 rfl) rfl (app_kF rfl) Pf rfl rfl rfl rfl rfl rfl rfl rfl rfl (by simpa using app_bound (e := eTApiEdge) q5) (by simpa using app_map (e := eTApiEdge) q5) ?_
  refine zh_M rfl rfl (fun _ => xm_load (d := eTApiEdge (⟨a1, a2, a3, a4.gName, a4.gFunc, a4.gExps⟩ : TApiEdge)) 3 htab rfl rfl rfl rfl rfl) (fun _ => xm_load (d := eTApiEdge (⟨a1, a2, a3, a4.gName, a4.gFunc, a4.gExps⟩ : TApiEdge)) 3 htab rfl rfl rfl rfl rfl) rfl rfl rfl rfl rfl rfl rfl rfl ?_
  refine zh_E rfl rfl (ExE.wk (x_lit htab rfl rfl rfl rfl rfl rfl rfl rfl rfl rfl rfl) (show Wk _ (.lst 6 (([(⟨a1, a2, a3, a4.gName, a4.gFunc, a4.gExps⟩ : TApiEdge)] : List TApiEdge).map eTApiEdge) .full) from Wk.lst0 (.cons (WkC.refl _) (.nil)))) rfl rfl rfl rfl rfl rfl rfl rfl ?_
  refine zh_nil rfl rfl rfl rfl (fun e he => by simp [isAl] at he) ?_
  obtain ⟨x6, q6, hm⟩ := yes_bind hm
  refine p_appC 0 htab rfl rfl rfl rfl rfl rfl rfl rfl rfl rfl rfl rfl rfl rfl rfl rfl rfl (app_bound q6) (fun v6 => ?_)
  refine p_mapD (i := 27) q6 rfl ?_
  refine pu ?_
  refine pS0 (ds' := [.v (.int .i64 a0.gNodes), .v (.int .i64 a0.gAt), .lst 6 (x6.map eTApiEdge) (.cur v6), .lst 1 (a0.gPlaces.map eI64) .no]) ?_
  refine ops_n2 ?_
  refine p_load (d := .agg [.v (.int .i64 a0.gNodes), .v (.int .i64 a0.gAt), .lst 6 (x6.map eTApiEdge) (.cur v6), .lst 1 (a0.gPlaces.map eI64) .no]) 0 htab rfl rfl rfl rfl rfl rfl rfl rfl ?_
  refine pS2 (ds' := [.v (.int .i64 a0.gNodes), .v (.int .i64 a0.gAt), .lst 6 (x6.map eTApiEdge) (.cur v6), .lst 1 (a0.gPlaces.map eI64) .no]) ?_
  refine ops_nt ?_
  refine wpD_ret ?_
  have er7 := yes_eq hm; subst er7
  refine rP (t' := [(10, .ptr b3 0)]) [2] [0] 0 (wC wN) (lC 0 lN) ?_
  exact ⟨v6, rfl, rfl, rfl⟩
theorem r17_with_ok0 (a0 : TSondageref17Made) (a1 : Int) (a2 : Int) (a3 : Int) (a4 : TApiStmt) (r : TSondageref17Made) (h0 : r17_with a0 a1 a2 a3 a4 = some r) : CallsD Try.prog 18 [eTSondageref17Made a0, .v (.int .i64 a1), .v (.int .i64 a2), .v (.int .i64 a3), eTApiStmt a4] [] [] (fun d h k => d = eTSondageref17Made r ∧ h = [] ∧ k = []) :=
  (r17_with_ok a0 a1 a2 a3 a4 r h0).drop fun d h k ⟨y0, e, _, _⟩ => by subst e; exact Wk.agg (WkR.cons (WkC.refl _) rfl (WkR.cons (WkC.refl _) rfl (WkR.cons (WkC.no) rfl (WkR.cons (WkC.refl _) rfl (WkR.nil)))))
noncomputable def r17_All_b (g0 : (TSondageref17Made) → (List TApiStmt) → Option (TSondageref17Made)) (g1 : (TSondageref17Made) → (TApiStmt) → Option (TSondageref17Made)) (a0 : TSondageref17Made) (a1 : List TApiStmt) : Option (TSondageref17Made) :=
  (Option.bind (α := Int × Int × List TApiEdge × List Int) (loopM (fun (s17 : Int × Int × Int × List TApiEdge × List Int) => (bif (decide (s17.1 < (a1.length : Int))) then ((idx a1 s17.1).bind fun x27 => ((g1 (⟨s17.2.1, s17.2.2.1, s17.2.2.2.1, s17.2.2.2.2⟩ : TSondageref17Made) x27).bind fun x28 => some (.next ((IntKind.i64.wrap (s17.1 + (1 : Int))), x28.gNodes, x28.gAt, x28.gEdges, x28.gPlaces)))) else some (.done (s17.2.1, s17.2.2.1, s17.2.2.2.1, s17.2.2.2.2)))) ((0 : Int), a0.gNodes, a0.gAt, a0.gEdges, a0.gPlaces)) fun y16 => some (⟨y16.1, y16.2.1, y16.2.2.1, y16.2.2.2⟩ : TSondageref17Made))
set_option maxRecDepth 100000 in
set_option maxHeartbeats 2000000 in
theorem r17_All_b_ok (g0 : (TSondageref17Made) → (List TApiStmt) → Option (TSondageref17Made)) (g1 : (TSondageref17Made) → (TApiStmt) → Option (TSondageref17Made)) (hg0 : ∀ (a0 : TSondageref17Made) (a1 : List TApiStmt) (r : TSondageref17Made) (h0 : g0 a0 a1 = some r), CallsD Try.prog 17 [eTSondageref17Made a0, .lst 7 (a1.map eTApiStmt) .no] [] [] (fun d h k => d = eTSondageref17Made r ∧ h = [] ∧ k = [])) (hg1 : ∀ (a0 : TSondageref17Made) (a1 : TApiStmt) (r : TSondageref17Made) (h0 : g1 a0 a1 = some r), CallsD Try.prog 24 [eTSondageref17Made a0, eTApiStmt a1] [] [] (fun d h k => d = eTSondageref17Made r ∧ h = [] ∧ k = [])) (a0 : TSondageref17Made) (a1 : List TApiStmt) (r : TSondageref17Made) (h0 : r17_All_b g0 g1 a0 a1 = some r) : CallsD Try.prog 17 [eTSondageref17Made a0, .lst 7 (a1.map eTApiStmt) .no] [] [] (fun d h k => d = eTSondageref17Made r ∧ h = [] ∧ k = []) := by
  have hm := yes_of h0
  unfold r17_All_b at hm
  clear h0
  refine enterX htab Try.func17 rfl rfl rfl rfl rfl (fun C => ?_)
  refine wpD_sr ?_
  refine p_box rfl rfl rfl rfl rfl rfl rfl (fun b1 => ?_)
  refine p_alloc htab rfl rfl rfl rfl rfl rfl rfl (fun b2 => ?_)
  refine ops_nt ?_
  refine wpD_seq ?_
  refine wpD_sr ?_
  refine pu ?_
  refine ops_nt ?_
  obtain ⟨y16, q16, ho16⟩ := yes_bind hm
  refine wpD_mid (Y := Unit) (fun z16 => (⟨[(2, .ptr b1 0), (4, .ptr b2 0)], [(b1, Blk.cells [.v (.int .i64 y16.1), .v (.int .i64 y16.2.1), .lst 6 (y16.2.2.1.map eTApiEdge) .no, .lst 1 (y16.2.2.2.map eI64) .no] 74), (b2, Blk.cells [.v (.int .i64 (0 : Int)), .v (.int .i64 (0 : Int)), .lst 1 [] .full, .lst 1 [] .full] 74)], []⟩ : S)) ?_ ?_
  ·clear hm; have hm := yes_of q16
   refine wpD_block ?_
   obtain ⟨u17, hl17, hq17⟩ := yes_m hm
   refine loop_M (Y := Unit) hl17 (fun s17 z17 => (⟨[(1, .lst 7 (a1.map eTApiStmt) .no), (2, .ptr b1 0), (4, .ptr b2 0), (5, .v (.int .i64 s17.1))], [(b1, Blk.cells [.v (.int .i64 s17.2.1), .v (.int .i64 s17.2.2.1), .lst 6 (s17.2.2.2.1.map eTApiEdge) .no, .lst 1 (s17.2.2.2.2.map eI64) .no] 74), (b2, Blk.cells [.v (.int .i64 (0 : Int)), .v (.int .i64 (0 : Int)), .lst 1 [] .full, .lst 1 [] .full] 74)], []⟩ : S)) ?_ ?_
   ·skip
    exact WkX.of () (WkS.perm (WkS.cons rfl (Wk.refl _) (WkS.cons rfl (Wk.refl _) (WkS.cons rfl (Wk.refl _) (WkS.cons rfl (Wk.refl _) (WkS.nil))))) Pf Pf)
   ·intro G17 s17 z17 hm
    refine wpD_seq ?_
    refine wpD_sr ?_
    refine pu ?_
    refine pu ?_
    refine p_lenL htab rfl rfl rfl rfl rfl rfl rfl (by first | exact map_len | rfl) ?_
    refine pu ?_
    refine ops_nt ?_
    refine wpD_cond rfl (fun hc26 => ?_) (fun hc26 => ?_)
    ·replace hm := yes_t hc26 hm
     refine wpD_skip ?_
     refine then_normal ?_
     refine wpD_seq ?_
     refine wpD_block ?_
     obtain ⟨x27, q27, hm⟩ := yes_bind hm
     refine wpD_draws 5 [] [[],[],[],[1],[1,3]] [0,1,3,4] [[],[],[],[1,2],[1,2,3],[0,1,2,3,4],[0,1,2,3,4,5]] (by kernel_rfl) (by kernel_rfl) (by kernel_rfl) (by rfl) (by rfl) (by kernel_rfl) ?_
     iterate 4 apply Exists.intro
     intro bs
     refine z_eM rfl rfl (xm_load (d := eTSondageref17Made (⟨s17.2.1, s17.2.2.1, s17.2.2.2.1, s17.2.2.2.2⟩ : TSondageref17Made)) 0 htab rfl rfl rfl rfl rfl) rfl rfl rfl rfl rfl rfl ?_
     refine zep ?_
     refine zqp ?_
     refine z_e rfl rfl (Ex.wk (x_elem htab rfl rfl rfl rfl rfl rfl rfl (idx_nonneg q27) (idx_map q27)) (Wk.of_eq (congrArg D.el (eTApiStmt_eq x27)))) rfl rfl rfl rfl rfl rfl ?_
     refine z_eM rfl rfl (xm_loadEl (d := .agg [.v (.int .i64 x27.gOp), .v (.string x27.gName), .v (.string x27.gFunc), .lst 5 (x27.gExps.map eTApiExpr) .no, .lst 7 (x27.gKids.map eTApiStmt) .no, .lst 7 (x27.gElse.map eTApiStmt) .no, .v (.int .i64 x27.gAt)]) htab rfl rfl rfl rfl rfl) rfl rfl rfl rfl rfl rfl ?_
     refine z_nil rfl rfl (fun e he => by simp [isAl] at he) ?_
     obtain ⟨x28, q28, hm⟩ := yes_bind hm
     refine p_call0 (hg1 (⟨s17.2.1, s17.2.2.1, s17.2.2.2.1, s17.2.2.2.2⟩ : TSondageref17Made) x27 x28 q28) rfl rfl rfl rfl rfl (WkL.cons (Wk.refl _) (WkL.cons (Wk.trans (Wk.agg (WkR.refl _)) (Wk.of_eq (eTApiStmt_eq x27).symm)) Wl)) ?_
     rintro _ rfl
     refine pS0 (ds' := [.v (.int .i64 x28.gNodes), .v (.int .i64 x28.gAt), .lst 6 (x28.gEdges.map eTApiEdge) .no, .lst 1 (x28.gPlaces.map eI64) .no]) ?_
     refine ops_nil ?_
     refine block_normal ?_
     refine then_normal ?_
     refine wpD_region ?_
     iterate 3 refine pu ?_
     refine ops_nil ?_
     refine then_normal ⟨_, lp_next hm, ?_⟩
     exact WkX.of () (WkS.perm (WkS.cons rfl (Wk.refl _) (WkS.cons rfl (Wk.refl _) (WkS.cons rfl (Wk.refl _) (WkS.cons rfl (Wk.refl _) (WkS.nil))))) Pf Pf)
    ·replace hm := yes_f hc26 hm
     refine wpD_exit ?_
     refine then_exit ?_
     have e17 := lp_done hm; subst e17; clear hm; have hm := hq17
     refine then_exit ?_
     refine block_hit ?_
     have e16 := yes_eq hm; subst e16
     refine ⟨rfl, ?_⟩
     exact WkX.of () (WkS.perm (WkS.cons rfl (Wk.refl _) (WkS.cons rfl (Wk.refl _) (WkS.nil))) Pf Pf)
  ·intro s16 hw16; clear hm; have hm := ho16; clear q16 ho16
   refine then_normal ?_
   refine wpD_wkX hw16 (fun z16 => ?_)
   refine wpD_sr ?_
   refine p_load (d := eTSondageref17Made (⟨y16.1, y16.2.1, y16.2.2.1, y16.2.2.2⟩ : TSondageref17Made)) 0 htab rfl rfl rfl rfl rfl rfl rfl rfl ?_
   refine pS1 (ds' := [.v (.int .i64 y16.1), .v (.int .i64 y16.2.1), .lst 6 (y16.2.2.1.map eTApiEdge) .no, .lst 1 (y16.2.2.2.map eI64) .no]) ?_
   refine ops_nt ?_
   refine wpD_ret ?_
   have er29 := yes_eq hm; subst er29
   refine rP (t' := [(4, .ptr b2 0)]) [1] [] 0 (wC wN) (lC 0 lN) ?_
   exact ⟨rfl, rfl, rfl⟩
noncomputable def r17_one_b (g0 : (TSondageref17Made) → (List TApiStmt) → Option (TSondageref17Made)) (g1 : (TSondageref17Made) → (TApiStmt) → Option (TSondageref17Made)) (a0 : TSondageref17Made) (a1 : TApiStmt) : Option (TSondageref17Made) :=
  ((app 8 ([] : List Int) a0.gPlaces).bind fun x4 => ((app 8 x4 ([a0.gAt] : List Int)).bind fun x5 => ((r17_kind a1.gOp).bind fun x7 => (bif (x7 != (0 : Int)) then ((r17_kind a1.gOp).bind fun x13 => ((r17_with (⟨(IntKind.i64.wrap (a0.gNodes + (1 : Int))), a0.gNodes, a0.gEdges, x5⟩ : TSondageref17Made) a0.gAt a0.gNodes x13 a1).bind fun x15 => some x15)) else (bif (a1.gOp == (8 : Int)) then ((r17_with (⟨(IntKind.i64.wrap (a0.gNodes + (1 : Int))), a0.gNodes, a0.gEdges, x5⟩ : TSondageref17Made) a0.gAt (1 : Int) (8 : Int) (⟨(0 : Int), ByteArray.empty, ByteArray.empty, a1.gExps, [], [], (0 : Int)⟩ : TApiStmt)).bind fun x19 => some x19) else (bif (a1.gOp == (6 : Int)) then ((r17_with (⟨(IntKind.i64.wrap (a0.gNodes + (2 : Int))), a0.gAt, a0.gEdges, x5⟩ : TSondageref17Made) a0.gAt a0.gNodes (6 : Int) (⟨(0 : Int), ByteArray.empty, ByteArray.empty, a1.gExps, [], [], (0 : Int)⟩ : TApiStmt)).bind fun x23 => ((r17_with x23 a0.gAt (IntKind.i64.wrap (a0.gNodes + (1 : Int))) (7 : Int) (⟨(0 : Int), ByteArray.empty, ByteArray.empty, a1.gExps, [], [], (0 : Int)⟩ : TApiStmt)).bind fun x28 => ((g0 (⟨x28.gNodes, a0.gNodes, x28.gEdges, x28.gPlaces⟩ : TSondageref17Made) a1.gKids).bind fun x29 => ((r17_with (⟨(IntKind.i64.wrap (x29.gNodes + (1 : Int))), x29.gAt, x29.gEdges, x29.gPlaces⟩ : TSondageref17Made) x29.gAt x29.gNodes (0 : Int) (⟨(0 : Int), ByteArray.empty, ByteArray.empty, [], [], [], (0 : Int)⟩ : TApiStmt)).bind fun x31 => ((g0 (⟨x31.gNodes, (IntKind.i64.wrap (a0.gNodes + (1 : Int))), x31.gEdges, x31.gPlaces⟩ : TSondageref17Made) a1.gElse).bind fun x32 => ((r17_with x32 x32.gAt x29.gNodes (0 : Int) (⟨(0 : Int), ByteArray.empty, ByteArray.empty, [], [], [], (0 : Int)⟩ : TApiStmt)).bind fun x34 => some (⟨x34.gNodes, x29.gNodes, x34.gEdges, x34.gPlaces⟩ : TSondageref17Made))))))) else (bif (a1.gOp == (7 : Int)) then ((r17_with (⟨(IntKind.i64.wrap (a0.gNodes + (3 : Int))), a0.gAt, a0.gEdges, x5⟩ : TSondageref17Made) a0.gAt a0.gNodes (0 : Int) (⟨(0 : Int), ByteArray.empty, ByteArray.empty, [], [], [], (0 : Int)⟩ : TApiStmt)).bind fun x38 => ((r17_with x38 a0.gNodes (IntKind.i64.wrap (a0.gNodes + (1 : Int))) (6 : Int) (⟨(0 : Int), ByteArray.empty, ByteArray.empty, a1.gExps, [], [], (0 : Int)⟩ : TApiStmt)).bind fun x40 => ((r17_with x40 a0.gNodes (IntKind.i64.wrap (a0.gNodes + (2 : Int))) (7 : Int) (⟨(0 : Int), ByteArray.empty, ByteArray.empty, a1.gExps, [], [], (0 : Int)⟩ : TApiStmt)).bind fun x45 => ((g0 (⟨x45.gNodes, (IntKind.i64.wrap (a0.gNodes + (1 : Int))), x45.gEdges, x45.gPlaces⟩ : TSondageref17Made) a1.gKids).bind fun x46 => ((r17_with x46 x46.gAt a0.gNodes (0 : Int) (⟨(0 : Int), ByteArray.empty, ByteArray.empty, [], [], [], (0 : Int)⟩ : TApiStmt)).bind fun x48 => some (⟨x48.gNodes, (IntKind.i64.wrap (a0.gNodes + (2 : Int))), x48.gEdges, x48.gPlaces⟩ : TSondageref17Made)))))) else some (⟨a0.gNodes, a0.gAt, a0.gEdges, x5⟩ : TSondageref17Made))))))))
set_option maxRecDepth 100000 in
set_option maxHeartbeats 2000000 in
theorem r17_one_b_ok (g0 : (TSondageref17Made) → (List TApiStmt) → Option (TSondageref17Made)) (g1 : (TSondageref17Made) → (TApiStmt) → Option (TSondageref17Made)) (hg0 : ∀ (a0 : TSondageref17Made) (a1 : List TApiStmt) (r : TSondageref17Made) (h0 : g0 a0 a1 = some r), CallsD Try.prog 17 [eTSondageref17Made a0, .lst 7 (a1.map eTApiStmt) .no] [] [] (fun d h k => d = eTSondageref17Made r ∧ h = [] ∧ k = [])) (hg1 : ∀ (a0 : TSondageref17Made) (a1 : TApiStmt) (r : TSondageref17Made) (h0 : g1 a0 a1 = some r), CallsD Try.prog 24 [eTSondageref17Made a0, eTApiStmt a1] [] [] (fun d h k => d = eTSondageref17Made r ∧ h = [] ∧ k = [])) (a0 : TSondageref17Made) (a1 : TApiStmt) (r : TSondageref17Made) (h0 : r17_one_b g0 g1 a0 a1 = some r) : CallsD Try.prog 24 [eTSondageref17Made a0, eTApiStmt a1] [] [] (fun d h k => d = eTSondageref17Made r ∧ h = [] ∧ k = []) := by
  have hm := yes_of h0
  unfold r17_one_b at hm
  clear h0
  refine enterX htab Try.func24 rfl rfl rfl rfl rfl (fun C => ?_)
  refine w_eq (i := 1) rfl (Wk.of_eq (eTApiStmt_eq a1)) ?_
  refine wpD_sr ?_
  refine p_box rfl rfl rfl rfl rfl rfl rfl (fun b1 => ?_)
  refine p_box rfl rfl rfl rfl rfl rfl rfl (fun b2 => ?_)
  refine p_alloc htab rfl rfl rfl rfl rfl rfl rfl (fun b3 => ?_)
  refine ops_nt ?_
  refine wpD_seq ?_
  obtain ⟨x4, q4, hm⟩ := yes_bind hm
  refine wpD_appF 6 [] [[],[0],[0,1],[],[3],[3,4]] [0,1,2,3,4,5] [[],[0],[0,1],[],[3],[3,4],[0,1,2,3,4,5],[0,1,2,3,4,5,6],[0,1,2,3,4,5,6,7]] 2 1 (by kernel_rfl) (by kernel_rfl) (by kernel_rfl) (by rfl) (by rfl) (by kernel_rfl) ?_
  iterate 3 apply Exists.intro
  refine ⟨.any, ?_⟩
  iterate 3 apply Exists.intro
  intro bs v4
  refine zh_e rfl rfl (ex_pure htab rfl) rfl rfl rfl rfl rfl rfl rfl rfl ?_
  refine zh_M rfl rfl (fun _ => xm_load 0 htab rfl rfl rfl rfl rfl) (offB rfl) rfl rfl rfl rfl rfl rfl rfl rfl ?_
  refine zh_app htab rfl rfl rfl rfl rfl rfl rfl rfl (rep_of0 rfl) rfl (app_kF rfl) Pf rfl rfl rfl rfl rfl rfl rfl rfl rfl (by simpa using app_bound (e := eI64) q4) (by simpa using app_map (e := eI64) q4) ?_
  refine zh_e rfl rfl (ex_pure htab rfl) rfl rfl rfl rfl rfl rfl rfl rfl ?_
  refine zh_M rfl rfl (fun _ => xm_load 0 htab rfl rfl rfl rfl rfl) (fun _ => xm_load 0 htab rfl rfl rfl rfl rfl) rfl rfl rfl rfl rfl rfl rfl rfl ?_
  refine zh_E rfl rfl (ExE.wk (x_lit htab rfl rfl rfl rfl rfl rfl rfl rfl rfl rfl rfl) (show Wk _ (.lst 1 (([a0.gAt] : List Int).map eI64) .full) from Wk.lst0 (.cons (WkC.refl _) (.nil)))) rfl rfl rfl rfl rfl rfl rfl rfl ?_
  refine zh_nil rfl rfl rfl rfl (fun e he => by simp [isAl] at he) ?_
  obtain ⟨x5, q5, hm⟩ := yes_bind hm
  refine p_appC 0 htab rfl rfl rfl rfl rfl rfl rfl rfl rfl rfl rfl rfl rfl rfl rfl rfl rfl (app_bound q5) (fun v5 => ?_)
  refine p_mapD (i := 15) q5 rfl ?_
  refine pu ?_
  refine pS0 (ds' := [.v (.int .i64 a0.gNodes), .v (.int .i64 a0.gAt), .lst 6 (a0.gEdges.map eTApiEdge) .no, .lst 1 (x5.map eI64) (.cur v5)]) ?_
  refine ops_nt ?_
  refine wpD_seq ?_
  refine wpD_draws 5 [] [[],[0],[],[2],[0]] [0,2] [[],[0],[],[2],[0,1],[0,1,2,3,4]] (by kernel_rfl) (by kernel_rfl) (by kernel_rfl) (by rfl) (by rfl) (by kernel_rfl) ?_
  apply Exists.intro
  apply Exists.intro
  intro bs
  refine zep ?_
  refine z_qM rfl rfl (xm_load 0 htab rfl rfl rfl rfl rfl) rfl rfl rfl rfl rfl rfl ?_
  refine zep ?_
  refine z_qM rfl rfl (xm_load 0 htab rfl rfl rfl rfl rfl) rfl rfl rfl rfl rfl rfl ?_
  refine zqp ?_
  refine z_nil rfl rfl (fun e he => by simp [isAl] at he) ?_
  refine pu ?_
  refine ops_n2 ?_
  refine pu ?_
  refine pL 1 ?_
  refine p_build (r := [.v (.int .i64 (0 : Int)), .v (.string ByteArray.empty), .v (.string ByteArray.empty), .lst 5 (a1.gExps.map eTApiExpr) .no, .lst 1 [] .full, .lst 1 [] .full, .v (.int .i64 (0 : Int))]) htab rfl rfl rfl rfl rfl rfl rfl rfl rfl ?_
  refine p_alloc htab rfl rfl rfl rfl rfl rfl rfl (fun b6 => ?_)
  refine pS3 (ds' := [.v (.int .i64 (0 : Int)), .v (.string ByteArray.empty), .v (.string ByteArray.empty), .lst 5 (a1.gExps.map eTApiExpr) .no, .lst 1 [] .full, .lst 1 [] .full, .v (.int .i64 (0 : Int))]) ?_
  refine ops_nt ?_
  refine wpD_seq ?_
  refine wpD_sr ?_
  refine pu ?_
  refine pL 1 ?_
  obtain ⟨x7, q7, hm⟩ := yes_bind hm
  refine p_call0 (r17_kind_ok a1.gOp x7 q7) rfl rfl rfl rfl rfl Wl ?_
  rintro _ rfl
  refine pu ?_
  refine ops_nt ?_
  refine wpD_cond rfl (fun hc12 => ?_) (fun hc12 => ?_)
  ·replace hm := yes_t hc12 hm
   refine wpD_sr ?_
   iterate 3 refine pu ?_
   refine pS0 (ds' := [.v (.int .i64 (IntKind.i64.wrap (a0.gNodes + (1 : Int)))), .v (.int .i64 a0.gAt), .lst 6 (a0.gEdges.map eTApiEdge) .no, .lst 1 (x5.map eI64) (.cur v5)]) ?_
   refine ops_n2 ?_
   refine pu ?_
   refine pu ?_
   refine pS0 (ds' := [.v (.int .i64 (IntKind.i64.wrap (a0.gNodes + (1 : Int)))), .v (.int .i64 a0.gNodes), .lst 6 (a0.gEdges.map eTApiEdge) .no, .lst 1 (x5.map eI64) (.cur v5)]) ?_
   refine ops_nt ?_
   refine wpD_seq ?_
   obtain ⟨x13, q13, hm⟩ := yes_bind hm
   refine wpD_draws 7 [] [[],[],[],[],[3],[3],[]] [0,3,5,6] [[],[],[],[],[3],[3,4],[],[0,1,2,3,4,5,6],[0,1,2,3,4,5,6,7]] (by kernel_rfl) (by kernel_rfl) (by kernel_rfl) (by rfl) (by rfl) (by kernel_rfl) ?_
   iterate 4 apply Exists.intro
   intro bs
   refine z_eM rfl rfl (xm_load (d := .agg [.v (.int .i64 (IntKind.i64.wrap (a0.gNodes + (1 : Int)))), .v (.int .i64 a0.gNodes), .lst 6 (a0.gEdges.map eTApiEdge) .no, .lst 1 (x5.map eI64) (.cur v5)]) 0 htab rfl rfl rfl rfl rfl) rfl rfl rfl rfl rfl rfl ?_
   refine zqp ?_
   refine zqp ?_
   refine zep ?_
   refine z_qM rfl rfl (xm_load 1 htab rfl rfl rfl rfl rfl) rfl rfl rfl rfl rfl rfl ?_
   refine z_call rfl rfl (r17_kind_ok a1.gOp x13 q13) rfl rfl Wl rfl rfl rfl rfl rfl rfl ?_
   refine z_eM rfl rfl (xm_load (d := .agg [.v (.int .i64 a1.gOp), .v (.string a1.gName), .v (.string a1.gFunc), .lst 5 (a1.gExps.map eTApiExpr) .no, .lst 7 (a1.gKids.map eTApiStmt) .no, .lst 7 (a1.gElse.map eTApiStmt) .no, .v (.int .i64 a1.gAt)]) 1 htab rfl rfl rfl rfl rfl) rfl rfl rfl rfl rfl rfl ?_
   refine z_nil rfl rfl (fun e he => by simp [isAl] at he) ?_
   obtain ⟨x15, q15, hm⟩ := yes_bind hm
   refine p_callG (r17_with_ok (⟨(IntKind.i64.wrap (a0.gNodes + (1 : Int))), a0.gNodes, a0.gEdges, x5⟩ : TSondageref17Made) a0.gAt a0.gNodes x13 a1 x15 q15) rfl rfl rfl rfl rfl (WkL.cons (Wk.agg (rC (rC (rC (rO WkR.nil))))) (WkL.cons (Wk.refl _) (WkL.cons (Wk.refl _) (WkL.cons (Wk.refl _) (WkL.cons (Wk.trans (Wk.agg (WkR.refl _)) (Wk.of_eq (eTApiStmt_eq a1).symm)) Wl))))) Pf Pf ?_
   rintro _ _ _ ⟨w14, rfl, rfl, rfl⟩
   refine pS2 (ds' := [.v (.int .i64 x15.gNodes), .v (.int .i64 x15.gAt), .lst 6 (x15.gEdges.map eTApiEdge) (.cur w14), .lst 1 (x15.gPlaces.map eI64) .no]) ?_
   refine ops_nt ?_
   refine wpD_ret ?_
   refine then_ret ?_
   have er16 := yes_eq hm; subst er16
   refine retX.wk (WkS.bl2 (ds' := [.v (.int .i64 x15.gNodes), .v (.int .i64 x15.gAt), .lst 6 (x15.gEdges.map eTApiEdge) .no, .lst 1 (x15.gPlaces.map eI64) .no]) (rC (rC (rO (rC WkR.nil))))) ?_
   refine rP (t' := [(4, .ptr b3 0)]) [2] [] 0 (wC wN) (lC 0 lN) ?_
   exact ⟨rfl, rfl, rfl⟩
  ·replace hm := yes_f hc12 hm
   refine wpD_skip ?_
   refine then_normal ?_
   refine wpD_seq ?_
   refine wpD_sr ?_
   refine pu ?_
   refine pL 1 ?_
   refine ops_nt ?_
   refine wpD_block ?_
   refine wpD_sr ?_
   refine pu ?_
   refine pu ?_
   refine ops_nt ?_
   refine wpD_cond rfl (fun hc17 => ?_) (fun hc17 => ?_)
   ·replace hm := yes_t hc17 hm
    refine wpD_sr ?_
    iterate 3 refine pu ?_
    refine pS0 (ds' := [.v (.int .i64 (IntKind.i64.wrap (a0.gNodes + (1 : Int)))), .v (.int .i64 a0.gAt), .lst 6 (a0.gEdges.map eTApiEdge) .no, .lst 1 (x5.map eI64) (.cur v5)]) ?_
    refine ops_n2 ?_
    refine pu ?_
    refine pu ?_
    refine pS0 (ds' := [.v (.int .i64 (IntKind.i64.wrap (a0.gNodes + (1 : Int)))), .v (.int .i64 a0.gNodes), .lst 6 (a0.gEdges.map eTApiEdge) .no, .lst 1 (x5.map eI64) (.cur v5)]) ?_
    refine ops_n2 ?_
    refine p_load (d := .agg [.v (.int .i64 (IntKind.i64.wrap (a0.gNodes + (1 : Int)))), .v (.int .i64 a0.gNodes), .lst 6 (a0.gEdges.map eTApiEdge) .no, .lst 1 (x5.map eI64) (.cur v5)]) 0 htab rfl rfl rfl rfl rfl rfl rfl rfl ?_
    refine pu ?_
    refine p_load (d := .agg [.v (.int .i64 (0 : Int)), .v (.string ByteArray.empty), .v (.string ByteArray.empty), .lst 5 (a1.gExps.map eTApiExpr) .no, .lst 1 [] .full, .lst 1 [] .full, .v (.int .i64 (0 : Int))]) 3 htab rfl rfl rfl rfl rfl rfl rfl rfl ?_
    obtain ⟨x19, q19, hm⟩ := yes_bind hm
    refine p_callG (r17_with_ok (⟨(IntKind.i64.wrap (a0.gNodes + (1 : Int))), a0.gNodes, a0.gEdges, x5⟩ : TSondageref17Made) a0.gAt (1 : Int) (8 : Int) (⟨(0 : Int), ByteArray.empty, ByteArray.empty, a1.gExps, [], [], (0 : Int)⟩ : TApiStmt) x19 q19) rfl rfl rfl rfl rfl (WkL.cons (Wk.agg (rC (rC (rC (rO WkR.nil))))) (WkL.cons (Wk.refl _) (WkL.cons (Wk.refl _) (WkL.cons (Wk.refl _) (WkL.cons (Wk.trans (Wk.agg (rC (rC (rC (rC (WkR.cons (WkC.nil) rfl (WkR.cons (WkC.nil) rfl (rC WkR.nil)))))))) (Wk.of_eq (eTApiStmt_eq (⟨(0 : Int), ByteArray.empty, ByteArray.empty, a1.gExps, [], [], (0 : Int)⟩ : TApiStmt)).symm)) Wl))))) Pf Pf ?_
    rintro _ _ _ ⟨w18, rfl, rfl, rfl⟩
    refine pS2 (ds' := [.v (.int .i64 x19.gNodes), .v (.int .i64 x19.gAt), .lst 6 (x19.gEdges.map eTApiEdge) (.cur w18), .lst 1 (x19.gPlaces.map eI64) .no]) ?_
    refine ops_nt ?_
    refine wpD_ret ?_
    refine block_ret ?_
    refine then_ret ?_
    have er20 := yes_eq hm; subst er20
    refine retX.wk (WkS.bl2 (ds' := [.v (.int .i64 x19.gNodes), .v (.int .i64 x19.gAt), .lst 6 (x19.gEdges.map eTApiEdge) .no, .lst 1 (x19.gPlaces.map eI64) .no]) (rC (rC (rO (rC WkR.nil))))) ?_
    refine rP (t' := [(4, .ptr b3 0)]) [2] [] 0 (wC wN) (lC 0 lN) ?_
    exact ⟨rfl, rfl, rfl⟩
   ·replace hm := yes_f hc17 hm
    refine wpD_sr ?_
    refine pu ?_
    refine pu ?_
    refine ops_nt ?_
    refine wpD_cond rfl (fun hc21 => ?_) (fun hc21 => ?_)
    ·replace hm := yes_t hc21 hm
     refine wpD_sr ?_
     iterate 3 refine pu ?_
     refine pS0 (ds' := [.v (.int .i64 (IntKind.i64.wrap (a0.gNodes + (2 : Int)))), .v (.int .i64 a0.gAt), .lst 6 (a0.gEdges.map eTApiEdge) .no, .lst 1 (x5.map eI64) (.cur v5)]) ?_
     refine ops_nt ?_
     refine wpD_seq ?_
     obtain ⟨x23, q23, hm⟩ := yes_bind hm
     refine wpD_draws 9 [] [[],[],[],[],[0,3],[],[],[],[]] [0,3,4,8] [[],[],[],[],[0,1,2,3],[],[],[6],[],[0,1,2,3,4,5,6,7,8],[0,1,2,3,4,5,6,7,8,9]] (by kernel_rfl) (by kernel_rfl) (by kernel_rfl) (by rfl) (by rfl) (by kernel_rfl) ?_
     iterate 4 apply Exists.intro
     intro bs
     refine z_eM rfl rfl (xm_load (d := .agg [.v (.int .i64 (IntKind.i64.wrap (a0.gNodes + (2 : Int)))), .v (.int .i64 a0.gAt), .lst 6 (a0.gEdges.map eTApiEdge) .no, .lst 1 (x5.map eI64) (.cur v5)]) 0 htab rfl rfl rfl rfl rfl) rfl rfl rfl rfl rfl rfl ?_
     refine zqp ?_
     refine zqp ?_
     refine z_eM rfl rfl (xm_load (d := .agg [.v (.int .i64 (0 : Int)), .v (.string ByteArray.empty), .v (.string ByteArray.empty), .lst 5 (a1.gExps.map eTApiExpr) .no, .lst 1 [] .full, .lst 1 [] .full, .v (.int .i64 (0 : Int))]) 3 htab rfl rfl rfl rfl rfl) rfl rfl rfl rfl rfl rfl ?_
     refine z_call rfl rfl (r17_with_ok0 (⟨(IntKind.i64.wrap (a0.gNodes + (2 : Int))), a0.gAt, a0.gEdges, x5⟩ : TSondageref17Made) a0.gAt a0.gNodes (6 : Int) (⟨(0 : Int), ByteArray.empty, ByteArray.empty, a1.gExps, [], [], (0 : Int)⟩ : TApiStmt) x23 q23) rfl rfl (WkL.cons (Wk.agg (rC (rC (rC (rO WkR.nil))))) (WkL.cons (Wk.refl _) (WkL.cons (Wk.refl _) (WkL.cons (Wk.refl _) (WkL.cons (Wk.trans (Wk.agg (rC (rC (rC (rC (WkR.cons (WkC.nil) rfl (WkR.cons (WkC.nil) rfl (rC WkR.nil)))))))) (Wk.of_eq (eTApiStmt_eq (⟨(0 : Int), ByteArray.empty, ByteArray.empty, a1.gExps, [], [], (0 : Int)⟩ : TApiStmt)).symm)) Wl))))) rfl rfl rfl rfl rfl rfl ?_
     iterate 3 refine zqp ?_
     refine z_eM rfl rfl (xm_load (d := .agg [.v (.int .i64 (0 : Int)), .v (.string ByteArray.empty), .v (.string ByteArray.empty), .lst 5 (a1.gExps.map eTApiExpr) .no, .lst 1 [] .full, .lst 1 [] .full, .v (.int .i64 (0 : Int))]) 3 htab rfl rfl rfl rfl rfl) rfl rfl rfl rfl rfl rfl ?_
     refine z_nil rfl rfl (fun e he => by simp [isAl] at he) ?_
     obtain ⟨x28, q28, hm⟩ := yes_bind hm
     refine p_callG (r17_with_ok x23 a0.gAt (IntKind.i64.wrap (a0.gNodes + (1 : Int))) (7 : Int) (⟨(0 : Int), ByteArray.empty, ByteArray.empty, a1.gExps, [], [], (0 : Int)⟩ : TApiStmt) x28 q28) rfl rfl rfl rfl rfl (WkL.cons (Wk.refl _) (WkL.cons (Wk.refl _) (WkL.cons (Wk.refl _) (WkL.cons (Wk.refl _) (WkL.cons (Wk.trans (Wk.agg (rC (rC (rC (rC (WkR.cons (WkC.nil) rfl (WkR.cons (WkC.nil) rfl (rC WkR.nil)))))))) (Wk.of_eq (eTApiStmt_eq (⟨(0 : Int), ByteArray.empty, ByteArray.empty, a1.gExps, [], [], (0 : Int)⟩ : TApiStmt)).symm)) Wl))))) Pf Pf ?_
     rintro _ _ _ ⟨w27, rfl, rfl, rfl⟩
     refine pS0 (ds' := [.v (.int .i64 x28.gNodes), .v (.int .i64 x28.gAt), .lst 6 (x28.gEdges.map eTApiEdge) (.cur w27), .lst 1 (x28.gPlaces.map eI64) .no]) ?_
     refine ops_n2 ?_
     refine pu ?_
     refine pu ?_
     refine pS0 (ds' := [.v (.int .i64 x28.gNodes), .v (.int .i64 a0.gNodes), .lst 6 (x28.gEdges.map eTApiEdge) (.cur w27), .lst 1 (x28.gPlaces.map eI64) .no]) ?_
     refine ops_n2 ?_
     refine p_load (d := .agg [.v (.int .i64 x28.gNodes), .v (.int .i64 a0.gNodes), .lst 6 (x28.gEdges.map eTApiEdge) (.cur w27), .lst 1 (x28.gPlaces.map eI64) .no]) 0 htab rfl rfl rfl rfl rfl rfl rfl rfl ?_
     refine pu ?_
     refine pL 1 ?_
     obtain ⟨x29, q29, hm⟩ := yes_bind hm
     refine p_call0 (hg0 (⟨x28.gNodes, a0.gNodes, x28.gEdges, x28.gPlaces⟩ : TSondageref17Made) a1.gKids x29 q29) rfl rfl rfl rfl rfl (WkL.cons (Wk.agg (rC (rC (rO (rC WkR.nil))))) (WkL.cons (Wk.refl _) Wl)) ?_
     rintro _ rfl
     refine pS0 (ds' := [.v (.int .i64 x29.gNodes), .v (.int .i64 x29.gAt), .lst 6 (x29.gEdges.map eTApiEdge) .no, .lst 1 (x29.gPlaces.map eI64) .no]) ?_
     refine ops_n2 ?_
     refine pu ?_
     refine pL 0 ?_
     refine pu ?_
     refine ops_n2 ?_
     iterate 3 refine pu ?_
     refine pS0 (ds' := [.v (.int .i64 (IntKind.i64.wrap (x29.gNodes + (1 : Int)))), .v (.int .i64 x29.gAt), .lst 6 (x29.gEdges.map eTApiEdge) .no, .lst 1 (x29.gPlaces.map eI64) .no]) ?_
     refine ops_n2 ?_
     refine p_load (d := eTSondageref17Made (⟨(IntKind.i64.wrap (x29.gNodes + (1 : Int))), x29.gAt, x29.gEdges, x29.gPlaces⟩ : TSondageref17Made)) 0 htab rfl rfl rfl rfl rfl rfl rfl rfl ?_
     refine pu ?_
     refine pL 0 ?_
     refine pu ?_
     refine p_build (r := [.v (.int .i64 (0 : Int)), .v (.string ByteArray.empty), .v (.string ByteArray.empty), .lst 1 [] .full, .lst 1 [] .full, .lst 1 [] .full, .v (.int .i64 (0 : Int))]) htab rfl rfl rfl rfl rfl rfl rfl rfl rfl ?_
     obtain ⟨x31, q31, hm⟩ := yes_bind hm
     refine p_callG (r17_with_ok (⟨(IntKind.i64.wrap (x29.gNodes + (1 : Int))), x29.gAt, x29.gEdges, x29.gPlaces⟩ : TSondageref17Made) x29.gAt x29.gNodes (0 : Int) (⟨(0 : Int), ByteArray.empty, ByteArray.empty, [], [], [], (0 : Int)⟩ : TApiStmt) x31 q31) rfl rfl rfl rfl rfl (WkL.cons (Wk.refl _) (WkL.cons (Wk.refl _) (WkL.cons (Wk.refl _) (WkL.cons (Wk.refl _) (WkL.cons (Wk.trans (Wk.agg (rC (rC (rC (WkR.cons (WkC.nil) rfl (WkR.cons (WkC.nil) rfl (WkR.cons (WkC.nil) rfl (rC WkR.nil)))))))) (Wk.of_eq (eTApiStmt_eq (⟨(0 : Int), ByteArray.empty, ByteArray.empty, [], [], [], (0 : Int)⟩ : TApiStmt)).symm)) Wl))))) Pf Pf ?_
     rintro _ _ _ ⟨w30, rfl, rfl, rfl⟩
     refine pS0 (ds' := [.v (.int .i64 x31.gNodes), .v (.int .i64 x31.gAt), .lst 6 (x31.gEdges.map eTApiEdge) (.cur w30), .lst 1 (x31.gPlaces.map eI64) .no]) ?_
     refine ops_n2 ?_
     iterate 3 refine pu ?_
     refine pS0 (ds' := [.v (.int .i64 x31.gNodes), .v (.int .i64 (IntKind.i64.wrap (a0.gNodes + (1 : Int)))), .lst 6 (x31.gEdges.map eTApiEdge) (.cur w30), .lst 1 (x31.gPlaces.map eI64) .no]) ?_
     refine ops_n2 ?_
     refine p_load (d := .agg [.v (.int .i64 x31.gNodes), .v (.int .i64 (IntKind.i64.wrap (a0.gNodes + (1 : Int)))), .lst 6 (x31.gEdges.map eTApiEdge) (.cur w30), .lst 1 (x31.gPlaces.map eI64) .no]) 0 htab rfl rfl rfl rfl rfl rfl rfl rfl ?_
     refine pu ?_
     refine pL 1 ?_
     obtain ⟨x32, q32, hm⟩ := yes_bind hm
     refine p_call0 (hg0 (⟨x31.gNodes, (IntKind.i64.wrap (a0.gNodes + (1 : Int))), x31.gEdges, x31.gPlaces⟩ : TSondageref17Made) a1.gElse x32 q32) rfl rfl rfl rfl rfl (WkL.cons (Wk.agg (rC (rC (rO (rC WkR.nil))))) (WkL.cons (Wk.refl _) Wl)) ?_
     rintro _ rfl
     refine pS0 (ds' := [.v (.int .i64 x32.gNodes), .v (.int .i64 x32.gAt), .lst 6 (x32.gEdges.map eTApiEdge) .no, .lst 1 (x32.gPlaces.map eI64) .no]) ?_
     refine ops_n2 ?_
     refine p_load (d := eTSondageref17Made x32) 0 htab rfl rfl rfl rfl rfl rfl rfl rfl ?_
     refine pu ?_
     refine pL 0 ?_
     refine pu ?_
     refine p_build (r := [.v (.int .i64 (0 : Int)), .v (.string ByteArray.empty), .v (.string ByteArray.empty), .lst 1 [] .full, .lst 1 [] .full, .lst 1 [] .full, .v (.int .i64 (0 : Int))]) htab rfl rfl rfl rfl rfl rfl rfl rfl rfl ?_
     obtain ⟨x34, q34, hm⟩ := yes_bind hm
     refine p_callG (r17_with_ok x32 x32.gAt x29.gNodes (0 : Int) (⟨(0 : Int), ByteArray.empty, ByteArray.empty, [], [], [], (0 : Int)⟩ : TApiStmt) x34 q34) rfl rfl rfl rfl rfl (WkL.cons (Wk.refl _) (WkL.cons (Wk.refl _) (WkL.cons (Wk.refl _) (WkL.cons (Wk.refl _) (WkL.cons (Wk.trans (Wk.agg (rC (rC (rC (WkR.cons (WkC.nil) rfl (WkR.cons (WkC.nil) rfl (WkR.cons (WkC.nil) rfl (rC WkR.nil)))))))) (Wk.of_eq (eTApiStmt_eq (⟨(0 : Int), ByteArray.empty, ByteArray.empty, [], [], [], (0 : Int)⟩ : TApiStmt)).symm)) Wl))))) Pf Pf ?_
     rintro _ _ _ ⟨w33, rfl, rfl, rfl⟩
     refine pS0 (ds' := [.v (.int .i64 x34.gNodes), .v (.int .i64 x34.gAt), .lst 6 (x34.gEdges.map eTApiEdge) (.cur w33), .lst 1 (x34.gPlaces.map eI64) .no]) ?_
     refine ops_nt ?_
     refine wpD_region ?_
     refine pu ?_
     refine pu ?_
     refine pS0 (ds' := [.v (.int .i64 x34.gNodes), .v (.int .i64 x29.gNodes), .lst 6 (x34.gEdges.map eTApiEdge) (.cur w33), .lst 1 (x34.gPlaces.map eI64) .no]) ?_
     refine ops_nil ?_
     refine block_normal ?_
     refine then_normal ?_
     refine wpD_sr ?_
     refine p_load (d := .agg [.v (.int .i64 x34.gNodes), .v (.int .i64 x29.gNodes), .lst 6 (x34.gEdges.map eTApiEdge) (.cur w33), .lst 1 (x34.gPlaces.map eI64) .no]) 0 htab rfl rfl rfl rfl rfl rfl rfl rfl ?_
     refine pS2 (ds' := [.v (.int .i64 x34.gNodes), .v (.int .i64 x29.gNodes), .lst 6 (x34.gEdges.map eTApiEdge) (.cur w33), .lst 1 (x34.gPlaces.map eI64) .no]) ?_
     refine ops_nt ?_
     refine wpD_ret ?_
     have er35 := yes_eq hm; subst er35
     refine retX.wk (WkS.bl2 (ds' := [.v (.int .i64 x34.gNodes), .v (.int .i64 x29.gNodes), .lst 6 (x34.gEdges.map eTApiEdge) .no, .lst 1 (x34.gPlaces.map eI64) .no]) (rC (rC (rO (rC WkR.nil))))) ?_
     refine rP (t' := [(4, .ptr b3 0)]) [2] [] 0 (wC wN) (lC 0 lN) ?_
     exact ⟨rfl, rfl, rfl⟩
    ·replace hm := yes_f hc21 hm
     refine wpD_sr ?_
     refine pu ?_
     refine pu ?_
     refine ops_nt ?_
     refine wpD_cond rfl (fun hc36 => ?_) (fun hc36 => ?_)
     ·replace hm := yes_t hc36 hm
      refine wpD_sr ?_
      iterate 3 refine pu ?_
      refine pS0 (ds' := [.v (.int .i64 (IntKind.i64.wrap (a0.gNodes + (3 : Int)))), .v (.int .i64 a0.gAt), .lst 6 (a0.gEdges.map eTApiEdge) .no, .lst 1 (x5.map eI64) (.cur v5)]) ?_
      refine ops_n2 ?_
      refine p_load (d := .agg [.v (.int .i64 (IntKind.i64.wrap (a0.gNodes + (3 : Int)))), .v (.int .i64 a0.gAt), .lst 6 (a0.gEdges.map eTApiEdge) .no, .lst 1 (x5.map eI64) (.cur v5)]) 0 htab rfl rfl rfl rfl rfl rfl rfl rfl ?_
      refine pu ?_
      refine pu ?_
      refine p_build (r := [.v (.int .i64 (0 : Int)), .v (.string ByteArray.empty), .v (.string ByteArray.empty), .lst 1 [] .full, .lst 1 [] .full, .lst 1 [] .full, .v (.int .i64 (0 : Int))]) htab rfl rfl rfl rfl rfl rfl rfl rfl rfl ?_
      obtain ⟨x38, q38, hm⟩ := yes_bind hm
      refine p_callG (r17_with_ok (⟨(IntKind.i64.wrap (a0.gNodes + (3 : Int))), a0.gAt, a0.gEdges, x5⟩ : TSondageref17Made) a0.gAt a0.gNodes (0 : Int) (⟨(0 : Int), ByteArray.empty, ByteArray.empty, [], [], [], (0 : Int)⟩ : TApiStmt) x38 q38) rfl rfl rfl rfl rfl (WkL.cons (Wk.agg (rC (rC (rC (rO WkR.nil))))) (WkL.cons (Wk.refl _) (WkL.cons (Wk.refl _) (WkL.cons (Wk.refl _) (WkL.cons (Wk.trans (Wk.agg (rC (rC (rC (WkR.cons (WkC.nil) rfl (WkR.cons (WkC.nil) rfl (WkR.cons (WkC.nil) rfl (rC WkR.nil)))))))) (Wk.of_eq (eTApiStmt_eq (⟨(0 : Int), ByteArray.empty, ByteArray.empty, [], [], [], (0 : Int)⟩ : TApiStmt)).symm)) Wl))))) Pf Pf ?_
      rintro _ _ _ ⟨w37, rfl, rfl, rfl⟩
      refine pS0 (ds' := [.v (.int .i64 x38.gNodes), .v (.int .i64 x38.gAt), .lst 6 (x38.gEdges.map eTApiEdge) (.cur w37), .lst 1 (x38.gPlaces.map eI64) .no]) ?_
      refine ops_nt ?_
      refine wpD_seq ?_
      obtain ⟨x40, q40, hm⟩ := yes_bind hm
      refine wpD_draws 10 [] [[],[],[],[],[],[0,4],[],[],[],[]] [0,4,5,9] [[],[],[],[2],[],[0,1,2,3,4],[],[],[7],[],[0,1,2,3,4,5,6,7,8,9],[0,1,2,3,4,5,6,7,8,9,10]] (by kernel_rfl) (by kernel_rfl) (by kernel_rfl) (by rfl) (by rfl) (by kernel_rfl) ?_
      iterate 4 apply Exists.intro
      intro bs
      refine z_eM rfl rfl (xm_load (d := .agg [.v (.int .i64 x38.gNodes), .v (.int .i64 x38.gAt), .lst 6 (x38.gEdges.map eTApiEdge) (.cur w37), .lst 1 (x38.gPlaces.map eI64) .no]) 0 htab rfl rfl rfl rfl rfl) rfl rfl rfl rfl rfl rfl ?_
      iterate 3 refine zqp ?_
      refine z_eM rfl rfl (xm_load (d := .agg [.v (.int .i64 (0 : Int)), .v (.string ByteArray.empty), .v (.string ByteArray.empty), .lst 5 (a1.gExps.map eTApiExpr) .no, .lst 1 [] .full, .lst 1 [] .full, .v (.int .i64 (0 : Int))]) 3 htab rfl rfl rfl rfl rfl) rfl rfl rfl rfl rfl rfl ?_
      refine z_call rfl rfl (r17_with_ok0 x38 a0.gNodes (IntKind.i64.wrap (a0.gNodes + (1 : Int))) (6 : Int) (⟨(0 : Int), ByteArray.empty, ByteArray.empty, a1.gExps, [], [], (0 : Int)⟩ : TApiStmt) x40 q40) rfl rfl (WkL.cons (Wk.agg (rC (rC (rO (rC WkR.nil))))) (WkL.cons (Wk.refl _) (WkL.cons (Wk.refl _) (WkL.cons (Wk.refl _) (WkL.cons (Wk.trans (Wk.agg (rC (rC (rC (rC (WkR.cons (WkC.nil) rfl (WkR.cons (WkC.nil) rfl (rC WkR.nil)))))))) (Wk.of_eq (eTApiStmt_eq (⟨(0 : Int), ByteArray.empty, ByteArray.empty, a1.gExps, [], [], (0 : Int)⟩ : TApiStmt)).symm)) Wl))))) rfl rfl rfl rfl rfl rfl ?_
      iterate 3 refine zqp ?_
      refine z_eM rfl rfl (xm_load (d := .agg [.v (.int .i64 (0 : Int)), .v (.string ByteArray.empty), .v (.string ByteArray.empty), .lst 5 (a1.gExps.map eTApiExpr) .no, .lst 1 [] .full, .lst 1 [] .full, .v (.int .i64 (0 : Int))]) 3 htab rfl rfl rfl rfl rfl) rfl rfl rfl rfl rfl rfl ?_
      refine z_nil rfl rfl (fun e he => by simp [isAl] at he) ?_
      obtain ⟨x45, q45, hm⟩ := yes_bind hm
      refine p_callG (r17_with_ok x40 a0.gNodes (IntKind.i64.wrap (a0.gNodes + (2 : Int))) (7 : Int) (⟨(0 : Int), ByteArray.empty, ByteArray.empty, a1.gExps, [], [], (0 : Int)⟩ : TApiStmt) x45 q45) rfl rfl rfl rfl rfl (WkL.cons (Wk.refl _) (WkL.cons (Wk.refl _) (WkL.cons (Wk.refl _) (WkL.cons (Wk.refl _) (WkL.cons (Wk.trans (Wk.agg (rC (rC (rC (rC (WkR.cons (WkC.nil) rfl (WkR.cons (WkC.nil) rfl (rC WkR.nil)))))))) (Wk.of_eq (eTApiStmt_eq (⟨(0 : Int), ByteArray.empty, ByteArray.empty, a1.gExps, [], [], (0 : Int)⟩ : TApiStmt)).symm)) Wl))))) Pf Pf ?_
      rintro _ _ _ ⟨w44, rfl, rfl, rfl⟩
      refine pS0 (ds' := [.v (.int .i64 x45.gNodes), .v (.int .i64 x45.gAt), .lst 6 (x45.gEdges.map eTApiEdge) (.cur w44), .lst 1 (x45.gPlaces.map eI64) .no]) ?_
      refine ops_n2 ?_
      iterate 3 refine pu ?_
      refine pS0 (ds' := [.v (.int .i64 x45.gNodes), .v (.int .i64 (IntKind.i64.wrap (a0.gNodes + (1 : Int)))), .lst 6 (x45.gEdges.map eTApiEdge) (.cur w44), .lst 1 (x45.gPlaces.map eI64) .no]) ?_
      refine ops_n2 ?_
      refine p_load (d := .agg [.v (.int .i64 x45.gNodes), .v (.int .i64 (IntKind.i64.wrap (a0.gNodes + (1 : Int)))), .lst 6 (x45.gEdges.map eTApiEdge) (.cur w44), .lst 1 (x45.gPlaces.map eI64) .no]) 0 htab rfl rfl rfl rfl rfl rfl rfl rfl ?_
      refine pu ?_
      refine pL 1 ?_
      obtain ⟨x46, q46, hm⟩ := yes_bind hm
      refine p_call0 (hg0 (⟨x45.gNodes, (IntKind.i64.wrap (a0.gNodes + (1 : Int))), x45.gEdges, x45.gPlaces⟩ : TSondageref17Made) a1.gKids x46 q46) rfl rfl rfl rfl rfl (WkL.cons (Wk.agg (rC (rC (rO (rC WkR.nil))))) (WkL.cons (Wk.refl _) Wl)) ?_
      rintro _ rfl
      refine pS0 (ds' := [.v (.int .i64 x46.gNodes), .v (.int .i64 x46.gAt), .lst 6 (x46.gEdges.map eTApiEdge) .no, .lst 1 (x46.gPlaces.map eI64) .no]) ?_
      refine ops_n2 ?_
      refine p_load (d := eTSondageref17Made x46) 0 htab rfl rfl rfl rfl rfl rfl rfl rfl ?_
      refine pu ?_
      refine pL 0 ?_
      refine pu ?_
      refine p_build (r := [.v (.int .i64 (0 : Int)), .v (.string ByteArray.empty), .v (.string ByteArray.empty), .lst 1 [] .full, .lst 1 [] .full, .lst 1 [] .full, .v (.int .i64 (0 : Int))]) htab rfl rfl rfl rfl rfl rfl rfl rfl rfl ?_
      obtain ⟨x48, q48, hm⟩ := yes_bind hm
      refine p_callG (r17_with_ok x46 x46.gAt a0.gNodes (0 : Int) (⟨(0 : Int), ByteArray.empty, ByteArray.empty, [], [], [], (0 : Int)⟩ : TApiStmt) x48 q48) rfl rfl rfl rfl rfl (WkL.cons (Wk.refl _) (WkL.cons (Wk.refl _) (WkL.cons (Wk.refl _) (WkL.cons (Wk.refl _) (WkL.cons (Wk.trans (Wk.agg (rC (rC (rC (WkR.cons (WkC.nil) rfl (WkR.cons (WkC.nil) rfl (WkR.cons (WkC.nil) rfl (rC WkR.nil)))))))) (Wk.of_eq (eTApiStmt_eq (⟨(0 : Int), ByteArray.empty, ByteArray.empty, [], [], [], (0 : Int)⟩ : TApiStmt)).symm)) Wl))))) Pf Pf ?_
      rintro _ _ _ ⟨w47, rfl, rfl, rfl⟩
      refine pS0 (ds' := [.v (.int .i64 x48.gNodes), .v (.int .i64 x48.gAt), .lst 6 (x48.gEdges.map eTApiEdge) (.cur w47), .lst 1 (x48.gPlaces.map eI64) .no]) ?_
      refine ops_nt ?_
      refine wpD_region ?_
      iterate 3 refine pu ?_
      refine pS0 (ds' := [.v (.int .i64 x48.gNodes), .v (.int .i64 (IntKind.i64.wrap (a0.gNodes + (2 : Int)))), .lst 6 (x48.gEdges.map eTApiEdge) (.cur w47), .lst 1 (x48.gPlaces.map eI64) .no]) ?_
      refine ops_nil ?_
      refine block_normal ?_
      refine then_normal ?_
      refine wpD_sr ?_
      refine p_load (d := .agg [.v (.int .i64 x48.gNodes), .v (.int .i64 (IntKind.i64.wrap (a0.gNodes + (2 : Int)))), .lst 6 (x48.gEdges.map eTApiEdge) (.cur w47), .lst 1 (x48.gPlaces.map eI64) .no]) 0 htab rfl rfl rfl rfl rfl rfl rfl rfl ?_
      refine pS2 (ds' := [.v (.int .i64 x48.gNodes), .v (.int .i64 (IntKind.i64.wrap (a0.gNodes + (2 : Int)))), .lst 6 (x48.gEdges.map eTApiEdge) (.cur w47), .lst 1 (x48.gPlaces.map eI64) .no]) ?_
      refine ops_nt ?_
      refine wpD_ret ?_
      have er49 := yes_eq hm; subst er49
      refine retX.wk (WkS.bl2 (ds' := [.v (.int .i64 x48.gNodes), .v (.int .i64 (IntKind.i64.wrap (a0.gNodes + (2 : Int)))), .lst 6 (x48.gEdges.map eTApiEdge) .no, .lst 1 (x48.gPlaces.map eI64) .no]) (rC (rC (rO (rC WkR.nil))))) ?_
      refine rP (t' := [(4, .ptr b3 0)]) [2] [] 0 (wC wN) (lC 0 lN) ?_
      exact ⟨rfl, rfl, rfl⟩
     ·replace hm := yes_f hc36 hm
      refine wpD_skip ?_
      refine block_normal ?_
      refine then_normal ?_
      refine wpD_sr ?_
      refine p_load (d := .agg [.v (.int .i64 a0.gNodes), .v (.int .i64 a0.gAt), .lst 6 (a0.gEdges.map eTApiEdge) .no, .lst 1 (x5.map eI64) (.cur v5)]) 0 htab rfl rfl rfl rfl rfl rfl rfl rfl ?_
      refine pS2 (ds' := [.v (.int .i64 a0.gNodes), .v (.int .i64 a0.gAt), .lst 6 (a0.gEdges.map eTApiEdge) .no, .lst 1 (x5.map eI64) (.cur v5)]) ?_
      refine ops_nt ?_
      refine wpD_ret ?_
      have er50 := yes_eq hm; subst er50
      refine retX.wk (WkS.bl2 (ds' := [.v (.int .i64 a0.gNodes), .v (.int .i64 a0.gAt), .lst 6 (a0.gEdges.map eTApiEdge) .no, .lst 1 (x5.map eI64) .no]) (rC (rC (rC (rO WkR.nil))))) ?_
      refine rP (t' := [(4, .ptr b3 0)]) [2] [] 0 (wC wN) (lC 0 lN) ?_
      exact ⟨rfl, rfl, rfl⟩
noncomputable def r17_All_g : Nat → ((TSondageref17Made) → (List TApiStmt) → Option (TSondageref17Made)) × ((TSondageref17Made) → (TApiStmt) → Option (TSondageref17Made))
  | 0 => (fun _ _ => none, fun _ _ => none)
  | n + 1 => (r17_All_b ((r17_All_g n).1) ((r17_All_g n).2), r17_one_b ((r17_All_g n).1) ((r17_All_g n).2))
theorem r17_All_g_ok : ∀ n, (∀ (a0 : TSondageref17Made) (a1 : List TApiStmt) (r : TSondageref17Made) (h0 : (r17_All_g n).1 a0 a1 = some r), CallsD Try.prog 17 [eTSondageref17Made a0, .lst 7 (a1.map eTApiStmt) .no] [] [] (fun d h k => d = eTSondageref17Made r ∧ h = [] ∧ k = [])) ∧ (∀ (a0 : TSondageref17Made) (a1 : TApiStmt) (r : TSondageref17Made) (h0 : (r17_All_g n).2 a0 a1 = some r), CallsD Try.prog 24 [eTSondageref17Made a0, eTApiStmt a1] [] [] (fun d h k => d = eTSondageref17Made r ∧ h = [] ∧ k = []))
  | 0 => ⟨(fun _ _ _ h0 => by cases h0), (fun _ _ _ h0 => by cases h0)⟩
  | n + 1 => by
    have ih := r17_All_g_ok n
    exact ⟨r17_All_b_ok ((r17_All_g n).1) ((r17_All_g n).2) (ih.1) (ih.2), r17_one_b_ok ((r17_All_g n).1) ((r17_All_g n).2) (ih.1) (ih.2)⟩
theorem r17_All_g_le : ∀ n, (∀ (a0 : TSondageref17Made) (a1 : List TApiStmt), Le ((r17_All_g n).1 a0 a1) ((r17_All_g (n + 1)).1 a0 a1)) ∧ (∀ (a0 : TSondageref17Made) (a1 : TApiStmt), Le ((r17_All_g n).2 a0 a1) ((r17_All_g (n + 1)).2 a0 a1))
  | 0 => ⟨fun _ _ => Le.none _, fun _ _ => Le.none _⟩
  | n + 1 => by
    have ih := r17_All_g_le n
    exact ⟨fun a0 a1 => by show Le (r17_All_b ((r17_All_g n).1) ((r17_All_g n).2) a0 a1) (r17_All_b ((r17_All_g (n + 1)).1) ((r17_All_g (n + 1)).2) a0 a1); unfold r17_All_b; repeat (first | exact Le.refl _ | exact ih.1 _ _ | exact ih.2 _ _ | assumption | (refine Le.bind ?_ (fun _ => ?_)) | (refine Le.cond ?_ ?_) | (refine Le.loop (fun _ => ?_)) | (refine Le.elim (fun _ => ?_) (fun _ => ?_))), fun a0 a1 => by show Le (r17_one_b ((r17_All_g n).1) ((r17_All_g n).2) a0 a1) (r17_one_b ((r17_All_g (n + 1)).1) ((r17_All_g (n + 1)).2) a0 a1); unfold r17_one_b; repeat (first | exact Le.refl _ | exact ih.1 _ _ | exact ih.2 _ _ | assumption | (refine Le.bind ?_ (fun _ => ?_)) | (refine Le.cond ?_ ?_) | (refine Le.loop (fun _ => ?_)) | (refine Le.elim (fun _ => ?_) (fun _ => ?_)))⟩
noncomputable def r17_All (a0 : TSondageref17Made) (a1 : List TApiStmt) : Option (TSondageref17Made) := anyN fun n => (r17_All_g n).1 a0 a1
theorem r17_All_of (a0 : TSondageref17Made) (a1 : List TApiStmt) {r : TSondageref17Made} (n : Nat) (h : (r17_All_g n).1 a0 a1 = some r) : r17_All a0 a1 = some r := anyN_of (fun m => (r17_All_g_le m).1 a0 a1) h
theorem r17_All_ok (a0 : TSondageref17Made) (a1 : List TApiStmt) (r : TSondageref17Made) (h0 : r17_All a0 a1 = some r) : CallsD Try.prog 17 [eTSondageref17Made a0, .lst 7 (a1.map eTApiStmt) .no] [] [] (fun d h k => d = eTSondageref17Made r ∧ h = [] ∧ k = []) :=
  let ⟨n, hn⟩ := anyN_inv h0; (r17_All_g_ok n).1 a0 a1  r hn
noncomputable def eval_Frame_place_w (m0 : TEvalFrame) (a1 : ByteArray) : Option (Int) :=
  ((slices_IndexFunc_api_Var_api_Var m0.gVars a1).bind fun x2 => some x2)
set_option maxRecDepth 100000 in
set_option maxHeartbeats 2000000 in
theorem eval_Frame_place_w_ok (m0 : TEvalFrame) (a1 : ByteArray) (o0 : Nat) (T0 : TypeId) (c0_0 : Cap) (z0_1 : Z3) (r : Int) (h0 : eval_Frame_place_w m0 a1 = some r) : CallsD Try.prog 20 [.ptr o0 0, .v (.string a1)] [(o0, Blk.cells [.lst 2 (m0.gVars.map eTApiVar) c0_0, .v (SL z0_1)] T0), (0, Blk.row 4 (m0.gWords.map eTApiWord) (SL z0_1))] [] (fun d h k => d = .v (.int .i64 r) ∧ h = [(o0, Blk.cells [.lst 2 (m0.gVars.map eTApiVar) c0_0, .v (SL z0_1)] T0), (0, Blk.row 4 (m0.gWords.map eTApiWord) (SL z0_1))] ∧ k = []) := by
  have hm := yes_of h0
  unfold eval_Frame_place_w at hm
  clear h0
  refine enterX htab Try.func20 rfl rfl rfl rfl rfl (fun C => ?_)
  refine wpD_sr ?_
  refine p_box rfl rfl rfl rfl rfl rfl rfl (fun b1 => ?_)
  refine pu ?_
  refine ops_nt ?_
  refine wpD_seq ?_
  refine wpD_sr ?_
  refine pu ?_
  refine p_eqP htab rfl rfl rfl rfl rfl rfl rfl rfl rfl rfl ?_
  refine ops_nt ?_
  refine wpD_false rfl ?_
  refine wpD_skip ?_
  refine then_normal ?_
  refine wpD_sr ?_
  iterate 3 refine pu ?_
  refine pL 0 ?_
  refine pu ?_
  obtain ⟨x2, q2, hm⟩ := yes_bind hm
  refine p_callG (slices_IndexFunc_api_Var_api_Var_ok m0.gVars a1 b1 9 x2 q2) rfl rfl rfl rfl rfl (WkL.cons (Wk.no) (WkL.cons (Wk.refl _) Wl)) ((perm_at (j := 2) rfl).trans (List.Perm.cons _ Pf)) Pf ?_
  rintro _ _ _ ⟨rfl, rfl, rfl⟩
  refine pu ?_
  refine ops_nt ?_
  refine wpD_ret ?_
  have er3 := yes_eq hm; subst er3
  refine rP (t' := [(4, .v (.int .i64 x2))]) [1,1] [] 2 (wC wN) (lT lN) ?_
  exact ⟨rfl, rfl, rfl⟩
abbrev nlEv1_1 : List (List Nat) := [[],[0],[0,1],[0,1,2],[0,1,2,3],[0,1,2,3,4],[0,1,2,3,4,5],[0,1,2],[0,1,2,3,4,5,6,7],[0,1,2,3,4,5,6,7,8],[0,1,2,3,4,5,6,7,8,9],[0,1,2],[0,1,2,11],[0,1,2,3,4,5,6,7,8,9,10,11,12],[0,1,2,3,4,5,6,7,8,9,10,11,12,13]]
noncomputable def eval_Frame_Set (m0 : TEvalFrame) (a1 : ByteArray) (a2 : TApiWord) : Option (Bool × TEvalFrame) :=
  ((eval_Frame_place_w m0 a1).bind fun x2 => (Option.bind (α := Bool) (bif (decide (x2 < (0 : Int))) then some true else ((idx m0.gVars x2).bind fun x7 => some (!(x7.gPtr == a2.gPtr)))) fun y5 => (bif y5 then some (false, m0) else ((idx m0.gWords x2).bind fun x11 => some (true, (⟨m0.gVars, (m0.gWords.set x2.toNat a2)⟩ : TEvalFrame))))))
set_option maxRecDepth 100000 in
set_option maxHeartbeats 2000000 in
theorem eval_Frame_Set_ok (m0 : TEvalFrame) (a1 : ByteArray) (a2 : TApiWord) (o0 : Nat) (T0 : TypeId) (c0_0 : Cap) (z0_1 : Z3) (r : Bool × TEvalFrame) (h0 : eval_Frame_Set m0 a1 a2 = some r) : CallsD Try.prog 8 [.ptr o0 0, .v (.string a1), eTApiWord a2] [(o0, Blk.cells [.lst 2 (m0.gVars.map eTApiVar) c0_0, .v (SL z0_1)] T0), (0, Blk.row 4 (m0.gWords.map eTApiWord) (SL z0_1))] [] (fun d h k => ∃ y0, d = .v (.bool r.1) ∧ h = [(o0, Blk.cells [.lst 2 (r.2.gVars.map eTApiVar) c0_0, .v (SL y0)] T0), (0, Blk.row 4 (r.2.gWords.map eTApiWord) (SL y0))] ∧ k = []) := by
  have hm := yes_of h0
  unfold eval_Frame_Set at hm
  clear h0
  refine enterX htab Try.func8 rfl rfl rfl rfl rfl (fun C => ?_)
  refine wpD_sr ?_
  refine p_box rfl rfl rfl rfl rfl rfl rfl (fun b1 => ?_)
  refine pu ?_
  refine ops_n2 ?_
  refine pu ?_
  refine pu ?_
  obtain ⟨x2, q2, hm⟩ := yes_bind hm
  refine pG (eval_Frame_place_w_ok m0 a1 o0 T0 c0_0 z0_1 x2 q2) Wl Pf Pf ?_
  rintro _ _ _ ⟨rfl, rfl, rfl⟩
  refine pu ?_
  refine ops_nt ?_
  refine wpD_seq ?_
  refine wpD_seq ?_
  obtain ⟨y5, q5, ho5⟩ := yes_bind hm
  refine wpD_mid (Y := Unit) (fun z5 => (⟨[(0, .ptr o0 0), (5, .ptr b1 0), (7, .v (.int .i64 x2)), (25, .v (.bool y5))], [(o0, Blk.cells [.lst 2 (m0.gVars.map eTApiVar) c0_0, .v (SL z0_1)] T0), (0, Blk.row 4 (m0.gWords.map eTApiWord) (SL z0_1)), (b1, Blk.cells [.v (.bool a2.gPtr), .v (.int .i64 a2.gN), .v (.string a2.gTo.gName), .v (.int .i64 a2.gTo.gAt)] 45)], []⟩ : S)) ?_ ?_
  ·clear hm; have hm := yes_of q5
   refine bycB (decide (x2 < (0 : Int))) (fun hs6 => ?_) (fun hs6 => ?_)
   ·replace hm := yes_t hs6 hm
    refine wpD_draws 13 [] [[],[],[],[],[],[],[],[],[],[],[],[],[]] [] nlEv1_1 (by kernel_rfl) (by kernel_rfl) (by kernel_rfl) (by rfl) (by rfl) (by kernel_rfl) ?_
    intro bs
    iterate 3 refine zqp ?_
    refine z_known (j := 13) (b' := true) rfl hs6 ?_
    iterate 10 refine zK ?_
    refine z_nil rfl rfl (fun e he => by simp [isAl] at he) ?_
    refine pK ?_
    refine p_pickT rfl rfl rfl rfl rfl rfl ?_
    refine ops_nil ?_
    have e5 := yes_eq hm; subst e5
    refine ⟨rfl, ?_⟩
    exact WkX.of () (WkS.perm (WkS.cons rfl (Wk.refl _) (WkS.cons rfl (Wk.refl _) (WkS.cons rfl (Wk.refl _) (WkS.cons rfl (Wk.refl _) (WkS.nil))))) Pf Pf)
   ·replace hm := yes_f hs6 hm
    obtain ⟨x7, q7, hm⟩ := yes_bind hm
    refine wpD_draws 13 [] [[],[],[],[],[3],[3,4],[3,4,5],[],[3,4,5,6],[3,4,5,6,8],[3,4,5,6,8,9],[],[11]] [3,4,5,6,8,9,11] nlEv1_1 (by kernel_rfl) (by kernel_rfl) (by kernel_rfl) (by rfl) (by rfl) (by kernel_rfl) ?_
    iterate 7 apply Exists.intro
    intro bs
    iterate 3 refine zqp ?_
    refine z_known (j := 13) (b' := false) rfl hs6 ?_
    iterate 3 refine zep ?_
    refine z_eM rfl rfl (xm_load 0 htab rfl rfl rfl rfl rfl) rfl rfl rfl rfl rfl rfl ?_
    refine zqp ?_
    refine z_e rfl rfl (x_elem htab rfl rfl rfl rfl rfl rfl rfl (idx_nonneg q7) (idx_map q7)) rfl rfl rfl rfl rfl rfl ?_
    refine zep ?_
    refine z_qM rfl rfl (xm_loadEl htab rfl rfl rfl rfl rfl) rfl rfl rfl rfl rfl rfl ?_
    refine zep ?_
    refine z_qM rfl rfl (xm_load 2 htab rfl rfl rfl rfl rfl) rfl rfl rfl rfl rfl rfl ?_
    refine z_nil rfl rfl (fun e he => by simp [isAl] at he) ?_
    refine pu ?_
    refine p_pickF rfl rfl rfl rfl rfl rfl ?_
    refine ops_nil ?_
    have e5 := yes_eq hm; subst e5
    refine ⟨rfl, ?_⟩
    exact WkX.of () (WkS.perm (WkS.cons rfl (Wk.refl _) (WkS.cons rfl (Wk.refl _) (WkS.cons rfl (Wk.refl _) (WkS.cons rfl (Wk.refl _) (WkS.nil))))) Pf Pf)
  ·intro s5 hw5; clear hm; have hm := ho5; clear q5 ho5
   refine then_normal ?_
   refine wpD_wkX hw5 (fun z5 => ?_)
   refine wpD_cond rfl (fun hc9 => ?_) (fun hc9 => ?_)
   ·replace hm := yes_t hc9 hm
    refine wpD_sr ?_
    refine pu ?_
    refine ops_nt ?_
    refine wpD_ret ?_
    refine then_ret ?_
    have er10 := yes_eq hm; subst er10
    refine rP (t' := [(6, .v (.bool false))]) [0,0] [] 2 (wC wN) (lT lN) ?_
    exact ⟨z0_1, rfl, rfl, rfl⟩
   ·replace hm := yes_f hc9 hm
    refine wpD_skip ?_
    refine then_normal ?_
    refine wpD_seq ?_
    refine wpD_draws 6 [] [[],[0],[0,1],[0,1,2],[],[]] [0,1,2,3,5] [[],[0],[0,1],[0,1,2],[],[],[0,1,2,3,4,5],[0,1,2,3,4,5,6]] (by kernel_rfl) (by kernel_rfl) (by kernel_rfl) (by rfl) (by rfl) (by kernel_rfl) ?_
    iterate 5 apply Exists.intro
    intro bs
    iterate 3 refine zep ?_
    refine z_eM rfl rfl (xm_load 0 htab rfl rfl rfl rfl rfl) rfl rfl rfl rfl rfl rfl ?_
    refine zqp ?_
    refine z_eM rfl rfl (xm_load (d := eTApiWord a2) 2 htab rfl rfl rfl rfl rfl) rfl rfl rfl rfl rfl rfl ?_
    refine z_nil rfl rfl (fun e he => by simp [isAl] at he) ?_
    obtain ⟨x11, q11, hm⟩ := yes_bind hm
    refine p_elemR 1 htab rfl rfl rfl rfl rfl rfl rfl rfl rfl rfl rfl (idx_nonneg q11) (idx_map q11) ?_
    refine p_storeR (d := eTApiWord a2) 1 htab rfl rfl rfl rfl rfl rfl rfl rfl rfl rfl (idx_mlt q11) (set_map (e := eTApiWord)) ?_
    refine ops_n2 ?_
    refine pu ?_
    refine ops_nt ?_
    refine wpD_ret ?_
    have er12 := yes_eq hm; subst er12
    refine rP (t' := [(6, .v (.bool true))]) [0,0] [] 2 (wC wN) (lT lN) ?_
    exact ⟨z0_1, rfl, rfl, rfl⟩
noncomputable def r17_with_r (a0 : TSondageref17Made) (a1 : Int) (a2 : Int) (a3 : Int) (a4 : TApiStmt) : Option (TSondageref17Made) :=
  ((app 80 ([] : List TApiEdge) a0.gEdges).bind fun x5 => ((app 80 x5 ([(⟨a1, a2, a3, a4.gName, a4.gFunc, a4.gExps⟩ : TApiEdge)] : List TApiEdge)).bind fun x6 => some (⟨a0.gNodes, a0.gAt, x6, a0.gPlaces⟩ : TSondageref17Made)))
set_option maxRecDepth 100000 in
set_option maxHeartbeats 2000000 in
theorem r17_with_r_ok (a0 : TSondageref17Made) (a1 : Int) (a2 : Int) (a3 : Int) (a4 : TApiStmt) (r : TSondageref17Made) (h0 : r17_with_r a0 a1 a2 a3 a4 = some r) : CallsD Try.prog 18 [eTSondageref17Made a0, .v (.int .i64 a1), .v (.int .i64 a2), .v (.int .i64 a3), eTApiStmt a4] [] [] (fun d h k => ∃ y0, d = .agg [.v (.int .i64 r.gNodes), .v (.int .i64 r.gAt), .v (SL y0), .lst 1 (r.gPlaces.map eI64) .no] ∧ h = [(0, Blk.row 6 (r.gEdges.map eTApiEdge) (SL y0))] ∧ k = []) := by
  have hm := yes_of h0
  unfold r17_with_r at hm
  clear h0
  refine enterX htab Try.func18 rfl rfl rfl rfl rfl (fun C => ?_)
  refine w_eq (i := 4) rfl (Wk.of_eq (eTApiStmt_eq a4)) ?_
  refine wpD_sr ?_
  refine p_box rfl rfl rfl rfl rfl rfl rfl (fun b1 => ?_)
  refine p_box rfl rfl rfl rfl rfl rfl rfl (fun b2 => ?_)
  refine p_alloc htab rfl rfl rfl rfl rfl rfl rfl (fun b3 => ?_)
  refine ops_n2 ?_
  iterate 4 refine pu ?_
  refine pL 1 ?_
  refine pu ?_
  refine pL 1 ?_
  refine pu ?_
  refine pL 1 ?_
  refine p_build (r := [.v (.int .i64 a1), .v (.int .i64 a2), .v (.int .i64 a3), .v (.string a4.gName), .v (.string a4.gFunc), .lst 5 (a4.gExps.map eTApiExpr) .no]) htab rfl rfl rfl rfl rfl rfl rfl rfl rfl ?_
  refine p_alloc htab rfl rfl rfl rfl rfl rfl rfl (fun b4 => ?_)
  refine pS3 (ds' := [.v (.int .i64 a1), .v (.int .i64 a2), .v (.int .i64 a3), .v (.string a4.gName), .v (.string a4.gFunc), .lst 5 (a4.gExps.map eTApiExpr) .no]) ?_
  refine ops_nt ?_
  refine wpD_seq ?_
  obtain ⟨x5, q5, hm⟩ := yes_bind hm
  refine wpD_heavy 5 [] [[],[0],[0,1],[],[3]] [0,1,2,3,4] [[],[0],[0,1],[],[3],[0,1,2,3,4],[0,1,2,3,4,5],[0,1,2,3,4,5,6]] ⟨2, fun v5 => [(0, Blk.row 6 (x5.map eTApiEdge) (SL (toZ v5))), (b1, Blk.cells [.v (.int .i64 a0.gNodes), .v (.int .i64 a0.gAt), .lst 6 (a0.gEdges.map eTApiEdge) .no, .lst 1 (a0.gPlaces.map eI64) .no] 74), (b2, Blk.cells [.v (.int .i64 a4.gOp), .v (.string a4.gName), .v (.string a4.gFunc), .lst 5 (a4.gExps.map eTApiExpr) .no, .lst 7 (a4.gKids.map eTApiStmt) .no, .lst 7 (a4.gElse.map eTApiStmt) .no, .v (.int .i64 a4.gAt)] 78), (b3, Blk.cells [.v (.int .i64 (0 : Int)), .v (.int .i64 (0 : Int)), .lst 1 [] .full, .lst 1 [] .full] 74), (b4, Blk.cells [.v (.int .i64 a1), .v (.int .i64 a2), .v (.int .i64 a3), .v (.string a4.gName), .v (.string a4.gFunc), .lst 5 (a4.gExps.map eTApiExpr) .no] 94)], fun _ => [], fun v5 => .v (SL (toZ v5))⟩ (by kernel_rfl) (by kernel_rfl) (by kernel_rfl) (by rfl) (by rfl) (by kernel_rfl) ?_
  apply Exists.intro
  apply Exists.intro
  refine ⟨.any, ?_⟩
  apply Exists.intro
  apply Exists.intro
  intro bs v5
  refine zh_e rfl rfl (ex_pure htab rfl) rfl rfl rfl rfl rfl rfl rfl rfl ?_
  refine zh_M rfl rfl (fun _ => xm_load 0 htab rfl rfl rfl rfl rfl) (offB rfl) rfl rfl rfl rfl rfl rfl rfl rfl ?_
  refine zh_app0R htab rfl rfl rfl rfl rfl rfl rfl rfl rfl rfl rfl rfl rfl rfl rfl rfl rfl rfl rfl (by simpa using app_bound (e := eTApiEdge) q5) (by simpa using app_map (e := eTApiEdge) q5) rfl ?_
  refine zh_M rfl rfl (fun _ => xm_load (d := eTApiEdge (⟨a1, a2, a3, a4.gName, a4.gFunc, a4.gExps⟩ : TApiEdge)) 3 htab rfl rfl rfl rfl rfl) (fun _ => xm_load (d := eTApiEdge (⟨a1, a2, a3, a4.gName, a4.gFunc, a4.gExps⟩ : TApiEdge)) 4 htab rfl rfl rfl rfl rfl) rfl rfl rfl rfl rfl rfl rfl rfl ?_
  refine zh_E rfl rfl (ExE.wk (x_lit htab rfl rfl rfl rfl rfl rfl rfl rfl rfl rfl rfl) (show Wk _ (.lst 6 (([(⟨a1, a2, a3, a4.gName, a4.gFunc, a4.gExps⟩ : TApiEdge)] : List TApiEdge).map eTApiEdge) .full) from Wk.lst0 (.cons (WkC.refl _) (.nil)))) rfl rfl rfl rfl rfl rfl rfl rfl ?_
  refine zh_nil rfl rfl rfl rfl (fun e he => by simp [isAl] at he) ?_
  obtain ⟨x6, q6, hm⟩ := yes_bind hm
  refine p_appR2 0 htab rfl rfl rfl rfl rfl rfl rfl rfl rfl rfl rfl rfl rfl rfl rfl rfl (app_bound q6) (app_map q6) (fun v6 => ?_)
  refine pu ?_
  refine pS1 (ds' := [.v (.int .i64 a0.gNodes), .v (.int .i64 a0.gAt), .v (SL v6), .lst 1 (a0.gPlaces.map eI64) .no]) ?_
  refine ops_n2 ?_
  refine p_load (d := .agg [.v (.int .i64 a0.gNodes), .v (.int .i64 a0.gAt), .v (SL v6), .lst 1 (a0.gPlaces.map eI64) .no]) 1 htab rfl rfl rfl rfl rfl rfl rfl rfl ?_
  refine pS3 (ds' := [.v (.int .i64 a0.gNodes), .v (.int .i64 a0.gAt), .v (SL v6), .lst 1 (a0.gPlaces.map eI64) .no]) ?_
  refine ops_nt ?_
  refine wpD_ret ?_
  have er7 := yes_eq hm; subst er7
  refine rP (t' := [(10, .ptr b3 0)]) [0,2] [] 1 (wC wN) (lC 1 lN) ?_
  exact ⟨v6, rfl, rfl, rfl⟩
noncomputable def r17_Graph_r (a0 : TApiFunc) : Option (TApiGraph × List Int) :=
  ((r17_All (⟨(2 : Int), (0 : Int), [], []⟩ : TSondageref17Made) a0.gBody).bind fun x3 => ((r17_with_r x3 x3.gAt (1 : Int) (8 : Int) (⟨(0 : Int), ByteArray.empty, ByteArray.empty, ([(⟨(1 : Int), (0 : Int), ByteArray.empty, [], (0 : Int)⟩ : TApiExpr)] : List TApiExpr), [], [], (0 : Int)⟩ : TApiStmt)).bind fun x6 => ((app 24 ([] : List TApiVar) a0.gParams).bind fun x7 => ((app 24 x7 a0.gLocals).bind fun x8 => some ((⟨a0.gName, x6.gNodes, x6.gEdges, x8, (a0.gParams.length : Int)⟩ : TApiGraph), x6.gPlaces)))))
set_option maxRecDepth 100000 in
set_option maxHeartbeats 2000000 in
theorem r17_Graph_r_ok (a0 : TApiFunc) (r : TApiGraph × List Int) (h0 : r17_Graph_r a0 = some r) : CallsD Try.prog 5 [eTApiFunc a0] [] [] (fun d h k => ∃ y0 y1, d = .tup [.agg [.v (.string r.1.gFunc), .v (.int .i64 r.1.gNodes), .v (SL y0), .v (SL y1), .v (.int .i64 r.1.gMany)], .lst 1 (r.2.map eI64) .no] ∧ h = [(0, Blk.row 6 (r.1.gEdges.map eTApiEdge) (SL y0)), (0, Blk.row 2 (r.1.gVars.map eTApiVar) (SL y1))] ∧ k = []) := by
  have hm := yes_of h0
  unfold r17_Graph_r at hm
  clear h0
  refine enterX htab Try.func5 rfl rfl rfl rfl rfl (fun C => ?_)
  refine wpD_sr ?_
  refine p_box rfl rfl rfl rfl rfl rfl rfl (fun b1 => ?_)
  refine p_alloc htab rfl rfl rfl rfl rfl rfl rfl (fun b2 => ?_)
  refine pu ?_
  refine ops_n2 ?_
  refine p_build (r := [.v (.int .i64 (2 : Int)), .v (.int .i64 (0 : Int)), .lst 1 [] .full, .lst 1 [] .full]) htab rfl rfl rfl rfl rfl rfl rfl rfl rfl ?_
  refine pu ?_
  refine pL 0 ?_
  obtain ⟨x3, q3, hm⟩ := yes_bind hm
  refine p_call0 (r17_All_ok (⟨(2 : Int), (0 : Int), [], []⟩ : TSondageref17Made) a0.gBody x3 q3) rfl rfl rfl rfl rfl (WkL.cons (Wk.agg (rC (rC (WkR.cons (WkC.nil) rfl (WkR.cons (WkC.nil) rfl WkR.nil))))) (WkL.cons (Wk.refl _) Wl)) ?_
  rintro _ rfl
  refine p_alloc htab rfl rfl rfl rfl rfl rfl rfl (fun b4 => ?_)
  refine pS2 (ds' := [.v (.int .i64 x3.gNodes), .v (.int .i64 x3.gAt), .lst 6 (x3.gEdges.map eTApiEdge) .no, .lst 1 (x3.gPlaces.map eI64) .no]) ?_
  refine ops_n2 ?_
  refine p_load (d := eTSondageref17Made x3) 2 htab rfl rfl rfl rfl rfl rfl rfl rfl ?_
  refine pu ?_
  refine pL 2 ?_
  refine p_build (r := [.v (.int .i64 (1 : Int)), .v (.int .i64 (0 : Int)), .v (.string ByteArray.empty), .lst 1 [] .full, .v (.int .i64 (0 : Int))]) htab rfl rfl rfl rfl rfl rfl rfl rfl rfl ?_
  refine p_lit htab rfl rfl rfl rfl rfl rfl rfl rfl rfl rfl rfl rfl rfl rfl ?_
  refine p_eq (i := 14) (d' := .lst 5 (([(⟨(1 : Int), (0 : Int), ByteArray.empty, [], (0 : Int)⟩ : TApiExpr)] : List TApiExpr).map eTApiExpr) .full) rfl (Wk.lst0 (.cons (WkC.trans (WkC.agg (rC (rC (rC (WkR.cons (WkC.nil) rfl (rC WkR.nil)))))) (WkC.of_eq (eTApiExpr_eq (⟨(1 : Int), (0 : Int), ByteArray.empty, [], (0 : Int)⟩ : TApiExpr)).symm)) (.nil))) ?_
  refine p_build (r := [.v (.int .i64 (0 : Int)), .v (.string ByteArray.empty), .v (.string ByteArray.empty), .lst 5 (([(⟨(1 : Int), (0 : Int), ByteArray.empty, [], (0 : Int)⟩ : TApiExpr)] : List TApiExpr).map eTApiExpr) .full, .lst 1 [] .full, .lst 1 [] .full, .v (.int .i64 (0 : Int))]) htab rfl rfl rfl rfl rfl rfl rfl rfl rfl ?_
  obtain ⟨x6, q6, hm⟩ := yes_bind hm
  refine p_callG (r17_with_r_ok x3 x3.gAt (1 : Int) (8 : Int) (⟨(0 : Int), ByteArray.empty, ByteArray.empty, ([(⟨(1 : Int), (0 : Int), ByteArray.empty, [], (0 : Int)⟩ : TApiExpr)] : List TApiExpr), [], [], (0 : Int)⟩ : TApiStmt) x6 q6) rfl rfl rfl rfl rfl (WkL.cons (Wk.refl _) (WkL.cons (Wk.refl _) (WkL.cons (Wk.refl _) (WkL.cons (Wk.refl _) (WkL.cons (Wk.trans (Wk.agg (rC (rC (rC (rO (WkR.cons (WkC.nil) rfl (WkR.cons (WkC.nil) rfl (rC WkR.nil)))))))) (Wk.of_eq (eTApiStmt_eq (⟨(0 : Int), ByteArray.empty, ByteArray.empty, ([(⟨(1 : Int), (0 : Int), ByteArray.empty, [], (0 : Int)⟩ : TApiExpr)] : List TApiExpr), [], [], (0 : Int)⟩ : TApiStmt)).symm)) Wl))))) Pf Pf ?_
  rintro _ _ _ ⟨w5, rfl, rfl, rfl⟩
  refine pS3 (ds' := [.v (.int .i64 x6.gNodes), .v (.int .i64 x6.gAt), .v (SL w5), .lst 1 (x6.gPlaces.map eI64) .no]) ?_
  refine ops_n2 ?_
  refine pu ?_
  refine ops_n2 ?_
  refine pu ?_
  refine pu ?_
  refine pL 1 ?_
  obtain ⟨x7, q7, hm⟩ := yes_bind hm
  refine p_app0R htab rfl rfl rfl rfl rfl rfl rfl rfl rfl rfl rfl rfl rfl rfl rfl (by simpa using app_bound (e := eTApiVar) q7) (by simpa using app_map (e := eTApiVar) q7) (fun v7 => ?_)
  refine pu ?_
  refine ops_n2 ?_
  refine pu ?_
  refine pu ?_
  refine pL 2 ?_
  obtain ⟨x8, q8, hm⟩ := yes_bind hm
  refine p_appR2 0 htab rfl rfl rfl rfl rfl rfl rfl rfl rfl rfl rfl rfl rfl rfl rfl rfl (app_bound q8) (app_map q8) (fun v8 => ?_)
  refine pu ?_
  refine ops_nt ?_
  refine wpD_seq ?_
  refine wpD_store 14 [] [[],[0],[],[2],[],[4],[],[],[7],[7,8],[0,1,2,3,4,5,6,7,8],[],[11],[0,1,2,3,4,5,6,7,8,10]] [0,1,2,3,4,5,6,7,8,10,11,12,13] [[],[0],[],[2],[],[4],[],[],[7],[7,8],[0,1,2,3,4,5,6,7,8,9],[],[11],[0,1,2,3,4,5,6,7,8,9,10],[0,1,2,3,4,5,6,7,8,9,10,11,12,13]] 13 (by kernel_rfl) (by kernel_rfl) (by kernel_rfl) (by rfl) (by rfl) (by kernel_rfl) ?_
  refine ⟨[(0, Blk.row 2 (x8.map eTApiVar) (SL v8)), (0, Blk.row 6 (x6.gEdges.map eTApiEdge) (SL w5)), (b1, Blk.cells [.v (.string a0.gName), .lst 2 (a0.gParams.map eTApiVar) .no, .lst 2 (a0.gLocals.map eTApiVar) .no, .lst 7 (a0.gBody.map eTApiStmt) .no, .v (.int .i64 a0.gAt)] 25), (b2, Blk.cells [.v (.string a0.gName), .v (.int .i64 x6.gNodes), .v (SL w5), .v (SL v8), .v (.int .i64 (a0.gParams.length : Int))] 33), (b4, Blk.cells [.v (.int .i64 x6.gNodes), .v (.int .i64 x6.gAt), .v (SL w5), .lst 1 (x6.gPlaces.map eI64) .no] 74)], ?_⟩
  iterate 12 apply Exists.intro
  refine ⟨.any, ?_⟩
  intro bs v9
  refine zh_e rfl rfl (ex_pure htab rfl) rfl rfl rfl rfl rfl rfl rfl rfl ?_
  refine zh_M rfl rfl (fun _ => xm_load 2 htab rfl rfl rfl rfl rfl) (offB rfl) rfl rfl rfl rfl rfl rfl rfl rfl ?_
  refine zh_e rfl rfl (ex_pure htab rfl) rfl rfl rfl rfl rfl rfl rfl rfl ?_
  refine zh_M rfl rfl (fun _ => xm_load 4 htab rfl rfl rfl rfl rfl) (offB rfl) rfl rfl rfl rfl rfl rfl rfl rfl ?_
  refine zh_e rfl rfl (ex_pure htab rfl) rfl rfl rfl rfl rfl rfl rfl rfl ?_
  refine zh_M rfl rfl (fun _ => xm_load 4 htab rfl rfl rfl rfl rfl) (offB rfl) rfl rfl rfl rfl rfl rfl rfl rfl ?_
  refine zh_e rfl rfl (ex_pure htab rfl) rfl rfl rfl rfl rfl rfl rfl rfl ?_
  refine zh_e rfl rfl (ex_pure htab rfl) rfl rfl rfl rfl rfl rfl rfl rfl ?_
  refine zh_M rfl rfl (fun _ => xm_load 2 htab rfl rfl rfl rfl rfl) (offB rfl) rfl rfl rfl rfl rfl rfl rfl rfl ?_
  refine zh_q rfl rfl (x_lenL htab rfl rfl rfl rfl (by first | exact map_len | rfl)) rfl rfl rfl rfl rfl rfl ?_
  refine zh_e rfl rfl (x_build (r := [.v (.string a0.gName), .v (.int .i64 x6.gNodes), .v (SL w5), .v (SL v8), .v (.int .i64 (a0.gParams.length : Int))]) htab rfl rfl rfl rfl rfl rfl) rfl rfl rfl rfl rfl rfl rfl rfl ?_
  refine zh_e rfl rfl (ex_pure htab rfl) rfl rfl rfl rfl rfl rfl rfl rfl ?_
  refine zh_M rfl rfl (fun _ => xm_load 4 htab rfl rfl rfl rfl rfl) (fun _ => xm_load 4 htab rfl rfl rfl rfl rfl) rfl rfl rfl rfl rfl rfl rfl rfl ?_
  refine zh_store 3 htab rfl rfl rfl rfl rfl rfl rfl rfl rfl rfl rfl rfl rfl rfl rfl rfl ?_
  refine zh_nil rfl rfl rfl rfl (fun e he => by simp [isAl] at he) ?_
  refine pu ?_
  refine ops_nt ?_
  refine wpD_ret ?_
  have er10 := yes_eq hm; subst er10
  refine rP (t' := [(2, .ptr b2 0), (3, .lst 1 (x6.gPlaces.map eI64) .no)]) [1,0,1] [] 2 (wC (wC wN)) (lC 2 (lT lN)) ?_
  exact ⟨w5, v8, rfl, rfl, rfl⟩
noncomputable def eval_New_r (a0 : TApiGraph) (a1 : List TApiWord) : Option (TEvalFrame) :=
  ((slices_Clone_api_Var_api_Var a0.gVars).bind fun x3 => (Option.bind (α := List TApiWord) (loopM (fun (s64 : Int × List TApiWord) => (bif (decide (s64.1 < (a0.gVars.length : Int))) then ((idx a0.gVars s64.1).bind fun x109 => (Option.bind (α := Bool) (bif (decide (s64.1 < (a1.length : Int))) then some (decide (s64.1 < a0.gMany)) else some false) fun y113 => (Option.bind (α := Bool × Int × ByteArray × Int) (bif y113 then ((idx a1 s64.1).bind fun x119 => some (x119.gPtr, x119.gN, x119.gTo.gName, x119.gTo.gAt)) else some (x109.gPtr, (0 : Int), ByteArray.empty, (0 : Int))) fun y117 => ((app 40 s64.2 ([(⟨y117.1, y117.2.1, (⟨y117.2.2.1, y117.2.2.2⟩ : TApiCell)⟩ : TApiWord)] : List TApiWord)).bind fun x120 => some (.next ((IntKind.i64.wrap (s64.1 + (1 : Int))), x120)))))) else some (.done s64.2))) ((0 : Int), ([] : List TApiWord))) fun y63 => some (⟨x3, y63⟩ : TEvalFrame)))
set_option maxRecDepth 100000 in
set_option maxHeartbeats 2000000 in
theorem eval_New_r_ok (a0 : TApiGraph) (a1 : List TApiWord) (r : TEvalFrame) (h0 : eval_New_r a0 a1 = some r) : CallsD Try.prog 6 [eTApiGraph a0, .lst 4 (a1.map eTApiWord) .no] [] [] (fun d h k => ∃ y0 y1 y2, d = .ptr y0 0 ∧ h = [(y0, Blk.cells [.v (SL y1), .v (SL y2)] 81), (0, Blk.row 2 (r.gVars.map eTApiVar) (SL y1)), (0, Blk.row 4 (r.gWords.map eTApiWord) (SL y2))] ∧ k = []) := by
  have hm := yes_of h0
  unfold eval_New_r at hm
  clear h0
  refine enterX htab Try.func6 rfl rfl rfl rfl rfl (fun C => ?_)
  refine wpD_sr ?_
  refine p_box rfl rfl rfl rfl rfl rfl rfl (fun b1 => ?_)
  refine pu ?_
  refine ops_n2 ?_
  refine pu ?_
  refine pL 0 ?_
  obtain ⟨x3, q3, hm⟩ := yes_bind hm
  refine pG (slices_Clone_api_Var_api_Var_row_ok a0.gVars x3 q3) Wl Pf Pf ?_
  rintro _ _ _ ⟨w2, rfl, rfl, rfl⟩
  refine p_build (r := [.v (SL w2), .lst 1 [] .full]) htab rfl rfl rfl rfl rfl rfl rfl rfl rfl ?_
  refine p_box rfl rfl rfl rfl rfl rfl rfl (fun b4 => ?_)
  refine pu ?_
  refine ops_nt ?_
  refine wpD_seq ?_
  refine wpD_sr ?_
  refine pu ?_
  refine pL 1 ?_
  refine p_lenL htab rfl rfl rfl rfl rfl rfl rfl (by first | exact map_len | rfl) ?_
  refine pu ?_
  refine ops_nt ?_
  obtain ⟨y63, q63, ho63⟩ := yes_bind hm
  refine wpD_mid (Y := Z3) (fun z63 => (⟨[(5, .ptr b4 0)], [(0, Blk.row 4 (y63.map eTApiWord) (SL z63)), (0, Blk.row 2 (x3.map eTApiVar) (SL w2)), (b4, Blk.cells [.v (SL w2), .v (SL z63)] 81)], []⟩ : S)) ?_ ?_
  ·clear hm; have hm := yes_of q63
   refine wpD_block ?_
   obtain ⟨u64, hl64, hq64⟩ := yes_m hm
   refine loop_M (Y := Z3) hl64 (fun s64 z64 => (⟨[(1, .lst 4 (a1.map eTApiWord) .no), (2, .ptr b1 0), (5, .ptr b4 0), (15, .lst 2 (a0.gVars.map eTApiVar) .no), (16, .v (.int .i64 (a0.gVars.length : Int))), (17, .v (.int .i64 s64.1))], [(0, Blk.row 4 (s64.2.map eTApiWord) (SL z64)), (0, Blk.row 2 (x3.map eTApiVar) (SL w2)), (b1, Blk.cells [.v (.string a0.gFunc), .v (.int .i64 a0.gNodes), .lst 6 (a0.gEdges.map eTApiEdge) .no, .lst 2 (a0.gVars.map eTApiVar) .no, .v (.int .i64 a0.gMany)] 33), (b4, Blk.cells [.v (SL w2), .v (SL z64)] 81)], []⟩ : S)) ?_ ?_
   ·skip
    refine WkX.rowC (off := 1) 4 2 rfl rfl (fun w107 => ?_)
    exact WkX.of w107 (WkS.perm (WkS.cons rfl (Wk.refl _) (WkS.cons rfl (Wk.refl _) (WkS.cons rfl (Wk.refl _) (WkS.cons rfl (Wk.refl _) (WkS.cons rfl (Wk.refl _) (WkS.cons rfl (Wk.refl _) (WkS.nil))))))) Pf Pf)
   ·intro G64 s64 z64 hm
    refine wpD_sr ?_
    refine pu ?_
    refine ops_nt ?_
    refine wpD_seq ?_
    refine wpD_cond rfl (fun hc108 => ?_) (fun hc108 => ?_)
    ·replace hm := yes_t hc108 hm
     refine wpD_skip ?_
     refine then_normal ?_
     refine wpD_seq ?_
     refine wpD_block ?_
     refine wpD_sr ?_
     refine pu ?_
     obtain ⟨x109, q109, hm⟩ := yes_bind hm
     refine p_elem htab rfl rfl rfl rfl rfl rfl rfl rfl rfl rfl (idx_nonneg q109) (idx_map q109) ?_
     refine p_loadEl (d := eTApiVar x109) htab rfl rfl rfl rfl rfl rfl rfl rfl ?_
     refine p_alloc htab rfl rfl rfl rfl rfl rfl rfl (fun b110 => ?_)
     refine pu ?_
     refine pS4 (ds' := [.v (.string x109.gName), .v (.bool x109.gPtr)]) ?_
     refine ops_n2 ?_
     refine pu ?_
     refine pL 4 ?_
     refine p_build (r := [.v (.bool x109.gPtr), .v (.int .i64 (0 : Int)), .v (.string ByteArray.empty), .v (.int .i64 (0 : Int))]) htab rfl rfl rfl rfl rfl rfl rfl rfl rfl ?_
     refine p_alloc htab rfl rfl rfl rfl rfl rfl rfl (fun b111 => ?_)
     refine pS5 (ds' := [.v (.bool x109.gPtr), .v (.int .i64 (0 : Int)), .v (.string ByteArray.empty), .v (.int .i64 (0 : Int))]) ?_
     refine ops_nt ?_
     refine wpD_seq ?_
     refine wpD_seq ?_
     obtain ⟨y113, q113, ho113⟩ := yes_bind hm
     refine wpD_mid (Y := Unit) (fun z113 => (⟨[(1, .lst 4 (a1.map eTApiWord) .no), (2, .ptr b1 0), (5, .ptr b4 0), (6, .v (.int .i64 s64.1)), (8, .ptr b111 0), (15, .lst 2 (a0.gVars.map eTApiVar) .no), (16, .v (.int .i64 (a0.gVars.length : Int))), (17, .v (.int .i64 s64.1)), (34, .v (.bool y113))], [(0, Blk.row 4 (s64.2.map eTApiWord) (SL z64)), (0, Blk.row 2 (x3.map eTApiVar) (SL w2)), (b1, Blk.cells [.v (.string a0.gFunc), .v (.int .i64 a0.gNodes), .lst 6 (a0.gEdges.map eTApiEdge) .no, .lst 2 (a0.gVars.map eTApiVar) .no, .v (.int .i64 a0.gMany)] 33), (b4, Blk.cells [.v (SL w2), .v (SL z64)] 81), (b111, Blk.cells [.v (.bool x109.gPtr), .v (.int .i64 (0 : Int)), .v (.string ByteArray.empty), .v (.int .i64 (0 : Int))] 45)], []⟩ : S)) ?_ ?_
     ·clear hm; have hm := yes_of q113
      refine wpD_region ?_
      refine pu ?_
      refine pu ?_
      refine p_lenL htab rfl rfl rfl rfl rfl rfl rfl (by first | exact map_len | rfl) ?_
      refine pu ?_
      refine pu ?_
      refine p_split (i := 29) rfl (fun hg114 => ?_) (fun hg114 => ?_)
      ·replace hm := yes_t hg114 hm
       refine pu ?_
       refine pu ?_
       refine pL 2 ?_
       refine pu ?_
       refine p_pickT rfl rfl rfl rfl rfl rfl ?_
       refine ops_nil ?_
       have e113 := yes_eq hm; subst e113
       refine ⟨rfl, ?_⟩
       exact WkX.of () (WkS.perm (WkS.cons rfl (Wk.refl _) (WkS.cons rfl (Wk.refl _) (WkS.cons rfl (Wk.refl _) (WkS.cons rfl (Wk.refl _) (WkS.cons rfl (Wk.refl _) (WkS.cons rfl (Wk.refl _) (WkS.cons rfl (Wk.refl _) (WkS.cons rfl (Wk.refl _) (WkS.cons rfl (Wk.refl _) (WkS.nil)))))))))) ((perm_at (j := 0) rfl).trans (List.Perm.cons _ ((perm_at (j := 0) rfl).trans (List.Perm.cons _ ((perm_at (j := 0) rfl).trans (List.Perm.cons _ ((perm_at (j := 0) rfl).trans (List.Perm.cons _ ((perm_at (j := 1) rfl).trans (List.Perm.cons _ Pf)))))))))) Pf)
      ·replace hm := yes_f hg114 hm
       iterate 4 refine pK ?_
       refine p_pickF rfl rfl rfl rfl rfl rfl ?_
       refine ops_nil ?_
       have e113 := yes_eq hm; subst e113
       refine ⟨rfl, ?_⟩
       exact WkX.of () (WkS.perm (WkS.cons rfl (Wk.refl _) (WkS.cons rfl (Wk.refl _) (WkS.cons rfl (Wk.refl _) (WkS.cons rfl (Wk.refl _) (WkS.cons rfl (Wk.refl _) (WkS.cons rfl (Wk.refl _) (WkS.cons rfl (Wk.refl _) (WkS.cons rfl (Wk.refl _) (WkS.cons rfl (Wk.refl _) (WkS.nil)))))))))) ((perm_at (j := 0) rfl).trans (List.Perm.cons _ ((perm_at (j := 0) rfl).trans (List.Perm.cons _ ((perm_at (j := 0) rfl).trans (List.Perm.cons _ ((perm_at (j := 0) rfl).trans (List.Perm.cons _ ((perm_at (j := 1) rfl).trans (List.Perm.cons _ Pf)))))))))) Pf)
     ·intro s113 hw113; clear hm; have hm := ho113; clear q113 ho113
      refine then_normal ?_
      refine wpD_wkX hw113 (fun z113 => ?_)
      obtain ⟨y117, q117, ho117⟩ := yes_bind hm
      refine wpD_mid (Y := Unit) (fun z117 => (⟨[(1, .lst 4 (a1.map eTApiWord) .no), (2, .ptr b1 0), (5, .ptr b4 0), (8, .ptr b111 0), (15, .lst 2 (a0.gVars.map eTApiVar) .no), (16, .v (.int .i64 (a0.gVars.length : Int))), (17, .v (.int .i64 s64.1))], [(0, Blk.row 4 (s64.2.map eTApiWord) (SL z64)), (0, Blk.row 2 (x3.map eTApiVar) (SL w2)), (b1, Blk.cells [.v (.string a0.gFunc), .v (.int .i64 a0.gNodes), .lst 6 (a0.gEdges.map eTApiEdge) .no, .lst 2 (a0.gVars.map eTApiVar) .no, .v (.int .i64 a0.gMany)] 33), (b4, Blk.cells [.v (SL w2), .v (SL z64)] 81), (b111, Blk.cells [.v (.bool y117.1), .v (.int .i64 y117.2.1), .v (.string y117.2.2.1), .v (.int .i64 y117.2.2.2)] 45)], []⟩ : S)) ?_ ?_
      ·clear hm; have hm := yes_of q117
       refine wpD_cond rfl (fun hc118 => ?_) (fun hc118 => ?_)
       ·replace hm := yes_t hc118 hm
        refine wpD_region ?_
        refine pu ?_
        refine pu ?_
        obtain ⟨x119, q119, hm⟩ := yes_bind hm
        refine p_elem htab rfl rfl rfl rfl rfl rfl rfl rfl rfl rfl (idx_nonneg q119) (idx_map q119) ?_
        refine p_loadEl (d := eTApiWord x119) htab rfl rfl rfl rfl rfl rfl rfl rfl ?_
        refine pS4 (ds' := [.v (.bool x119.gPtr), .v (.int .i64 x119.gN), .v (.string x119.gTo.gName), .v (.int .i64 x119.gTo.gAt)]) ?_
        refine ops_nil ?_
        have e117 := yes_eq hm; subst e117
        refine ⟨rfl, ?_⟩
        exact WkX.of () (WkS.perm (WkS.cons rfl (Wk.refl _) (WkS.cons rfl (Wk.refl _) (WkS.cons rfl (Wk.refl _) (WkS.cons rfl (Wk.refl _) (WkS.cons rfl (Wk.refl _) (WkS.cons rfl (Wk.refl _) (WkS.cons rfl (Wk.refl _) (WkS.nil)))))))) Pf Pf)
       ·replace hm := yes_f hc118 hm
        refine wpD_skip ?_
        have e117 := yes_eq hm; subst e117
        refine ⟨rfl, ?_⟩
        exact WkX.of () (WkS.perm (WkS.cons rfl (Wk.refl _) (WkS.cons rfl (Wk.refl _) (WkS.cons rfl (Wk.refl _) (WkS.cons rfl (Wk.refl _) (WkS.cons rfl (Wk.refl _) (WkS.cons rfl (Wk.refl _) (WkS.cons rfl (Wk.refl _) (WkS.nil)))))))) Pf Pf)
      ·intro s117 hw117; clear hm; have hm := ho117; clear q117 ho117
       refine then_normal ?_
       refine wpD_wkX hw117 (fun z117 => ?_)
       obtain ⟨x120, q120, hm⟩ := yes_bind hm
       refine wpD_heavy 8 [] [[],[],[1],[1,2],[1,2,3],[],[5],[1,2,3,4,5,6]] [0,1,2,3,4,5,6,7] [[],[],[1],[1,2],[1,2,3],[],[5],[1,2,3,4,5,6],[0,1,2,3,4,5,6,7],[0,1,2,3,4,5,6,7,8],[0,1,2,3,4,5,6,7,8,9]] ⟨7, fun v120 => [(0, Blk.row 4 (x120.map eTApiWord) (SL (toZ v120))), (0, Blk.row 2 (x3.map eTApiVar) (SL w2)), (b1, Blk.cells [.v (.string a0.gFunc), .v (.int .i64 a0.gNodes), .lst 6 (a0.gEdges.map eTApiEdge) .no, .lst 2 (a0.gVars.map eTApiVar) .no, .v (.int .i64 a0.gMany)] 33), (b4, Blk.cells [.v (SL w2), .v (SL z64)] 81), (b111, Blk.cells [.v (.bool y117.1), .v (.int .i64 y117.2.1), .v (.string y117.2.2.1), .v (.int .i64 y117.2.2.2)] 45)], fun _ => [], fun v120 => .v (SL (toZ v120))⟩ (by kernel_rfl) (by kernel_rfl) (by kernel_rfl) (by rfl) (by rfl) (by kernel_rfl) ?_
       iterate 7 apply Exists.intro
       refine ⟨.any, ?_⟩
       intro bs v120
       iterate 4 refine zh_e rfl rfl (ex_pure htab rfl) rfl rfl rfl rfl rfl rfl rfl rfl ?_
       refine zh_M rfl rfl (fun _ => xm_load 3 htab rfl rfl rfl rfl rfl) (offB rfl) rfl rfl rfl rfl rfl rfl rfl rfl ?_
       refine zh_M rfl rfl (fun _ => xm_load (d := eTApiWord (⟨y117.1, y117.2.1, (⟨y117.2.2.1, y117.2.2.2⟩ : TApiCell)⟩ : TApiWord)) 4 htab rfl rfl rfl rfl rfl) (offB rfl) rfl rfl rfl rfl rfl rfl rfl rfl ?_
       refine zh_E rfl rfl (ExE.wk (x_lit htab rfl rfl rfl rfl rfl rfl rfl rfl rfl rfl rfl) (show Wk _ (.lst 4 (([(⟨y117.1, y117.2.1, (⟨y117.2.2.1, y117.2.2.2⟩ : TApiCell)⟩ : TApiWord)] : List TApiWord).map eTApiWord) .full) from Wk.lst0 (.cons (WkC.refl _) (.nil)))) rfl rfl rfl rfl rfl rfl rfl rfl ?_
       refine zh_appR 0 htab rfl rfl rfl rfl rfl rfl rfl rfl rfl rfl rfl rfl rfl rfl rfl rfl rfl rfl rfl rfl (app_bound q120) (app_map q120) rfl ?_
       refine zh_nil rfl rfl rfl rfl (fun e he => by simp [isAl] at he) ?_
       refine pu ?_
       refine pu ?_
       refine pS3 (ds' := [.v (SL w2), .v (SL (toZ v120))]) ?_
       refine ops_nil ?_
       refine block_normal ?_
       refine then_normal ?_
       refine wpD_region ?_
       refine pu ?_
       refine pu ?_
       refine ops_nil ?_
       refine then_normal ⟨_, lp_next hm, ?_⟩
       exact WkX.of (toZ v120) (WkS.perm (WkS.cons rfl (Wk.refl _) (WkS.cons rfl (Wk.refl _) (WkS.cons rfl (Wk.refl _) (WkS.cons rfl (Wk.refl _) (WkS.cons rfl (Wk.refl _) (WkS.cons rfl (Wk.refl _) (WkS.nil))))))) Pf Pf)
    ·replace hm := yes_f hc108 hm
     refine wpD_exit ?_
     refine then_exit ?_
     have e64 := lp_done hm; subst e64; clear hm; have hm := hq64
     refine then_exit ?_
     refine block_hit ?_
     have e63 := yes_eq hm; subst e63
     refine ⟨rfl, ?_⟩
     exact WkX.of z64 (WkS.perm (WkS.cons rfl (Wk.refl _) (WkS.nil)) ((perm_at (j := 0) rfl).trans (List.Perm.cons _ ((perm_at (j := 0) rfl).trans (List.Perm.cons _ ((perm_at (j := 1) rfl).trans (List.Perm.cons _ Pf)))))) Pf)
  ·intro s63 hw63; clear hm; have hm := ho63; clear q63 ho63
   refine then_normal ?_
   refine wpD_wkX hw63 (fun z63 => ?_)
   refine wpD_sr ?_
   refine pu ?_
   refine pu ?_
   refine ops_nt ?_
   refine wpD_ret ?_
   have er121 := yes_eq hm; subst er121
   refine rP (t' := [(4, .ptr b4 0)]) [2,1,0] [] 3 (wC wN) (lT lN) ?_
   exact ⟨b4, w2, z63, rfl, rfl, rfl⟩
structure TSondageref20Frame where
  gVars : List TApiVar
  gWords : List TApiWord
end Go.Proofs.Ytocmdafncmlaaaa.Ab
namespace Go.Proofs.Ytocmdafncmlaaaa.Ab
open Go
set_option linter.all false
abbrev nlEv1_2 : List (List Nat) := [[],[],[1],[1,2],[1,2,3],[],[5],[],[5,6,7],[5,6,7,8],[5,6,7,8,9],[5,6,7,8,9,10],[5,6,7,8,9,10,11],[1,2,3,4,5,6,7,8,9,10,11,12],[0,1,2,3,4,5,6,7,8,9,10,11,12,13],[0,1,2,3,4,5,6,7,8,9,10,11,12,13,14],[0,1,2,3,4,5,6,7,8,9,10,11,12,13,14,15]]
noncomputable def r20_New_r (a0 : TApiGraph) (a1 : List TApiWord) : Option (TSondageref20Frame) :=
  (Option.bind (α := List TApiWord) (loopM (fun (s36 : Int × List TApiWord) => (bif (decide (s36.1 < (a0.gVars.length : Int))) then (Option.bind (α := Bool) (bif (decide (s36.1 < a0.gMany)) then some (decide (s36.1 < (a1.length : Int))) else some false) fun y60 => (bif y60 then ((idx a1 s36.1).bind fun x63 => ((app 40 s36.2 ([x63] : List TApiWord)).bind fun x64 => some (.next ((IntKind.i64.wrap (s36.1 + (1 : Int))), x64)))) else ((idx a0.gVars s36.1).bind fun x65 => ((app 40 s36.2 ([(⟨x65.gPtr, (0 : Int), (⟨ByteArray.empty, (0 : Int)⟩ : TApiCell)⟩ : TApiWord)] : List TApiWord)).bind fun x66 => some (.next ((IntKind.i64.wrap (s36.1 + (1 : Int))), x66)))))) else some (.done s36.2))) ((0 : Int), ([] : List TApiWord))) fun y35 => some (⟨a0.gVars, y35⟩ : TSondageref20Frame))
set_option maxRecDepth 100000 in
set_option maxHeartbeats 2000000 in
theorem r20_New_r_ok (a0 : TApiGraph) (a1 : List TApiWord) (r : TSondageref20Frame) (h0 : r20_New_r a0 a1 = some r) : CallsD Try.prog 7 [eTApiGraph a0, .lst 4 (a1.map eTApiWord) .no] [] [] (fun d h k => ∃ y0 y1, d = .ptr y0 0 ∧ h = [(y0, Blk.cells [.lst 2 (r.gVars.map eTApiVar) .no, .v (SL y1)] 52), (0, Blk.row 4 (r.gWords.map eTApiWord) (SL y1))] ∧ k = []) := by
  have hm := yes_of h0
  unfold r20_New_r at hm
  clear h0
  refine enterX htab Try.func7 rfl rfl rfl rfl rfl (fun C => ?_)
  refine wpD_sr ?_
  refine p_box rfl rfl rfl rfl rfl rfl rfl (fun b1 => ?_)
  refine pu ?_
  refine ops_n2 ?_
  refine pu ?_
  refine pL 0 ?_
  refine p_build (r := [.lst 2 (a0.gVars.map eTApiVar) .no, .lst 1 [] .full]) htab rfl rfl rfl rfl rfl rfl rfl rfl rfl ?_
  refine p_box rfl rfl rfl rfl rfl rfl rfl (fun b2 => ?_)
  refine pu ?_
  refine ops_nt ?_
  refine wpD_seq ?_
  refine wpD_sr ?_
  refine pu ?_
  refine ops_nt ?_
  obtain ⟨y35, q35, ho35⟩ := yes_bind hm
  refine wpD_mid (Y := Z3) (fun z35 => (⟨[(5, .ptr b2 0)], [(0, Blk.row 4 (y35.map eTApiWord) (SL z35)), (b2, Blk.cells [.lst 2 (a0.gVars.map eTApiVar) .no, .v (SL z35)] 52)], []⟩ : S)) ?_ ?_
  ·clear hm; have hm := yes_of q35
   refine wpD_block ?_
   obtain ⟨u36, hl36, hq36⟩ := yes_m hm
   refine loop_M (Y := Z3) hl36 (fun s36 z36 => (⟨[(1, .lst 4 (a1.map eTApiWord) .no), (2, .ptr b1 0), (5, .ptr b2 0), (6, .v (.int .i64 s36.1))], [(0, Blk.row 4 (s36.2.map eTApiWord) (SL z36)), (b1, Blk.cells [.v (.string a0.gFunc), .v (.int .i64 a0.gNodes), .lst 6 (a0.gEdges.map eTApiEdge) .no, .lst 2 (a0.gVars.map eTApiVar) .no, .v (.int .i64 a0.gMany)] 33), (b2, Blk.cells [.lst 2 (a0.gVars.map eTApiVar) .no, .v (SL z36)] 52)], []⟩ : S)) ?_ ?_
   ·skip
    refine WkX.rowC (off := 1) 4 1 rfl rfl (fun w57 => ?_)
    exact WkX.of w57 (WkS.perm (WkS.cons rfl (Wk.refl _) (WkS.cons rfl (Wk.refl _) (WkS.cons rfl (Wk.refl _) (WkS.cons rfl (Wk.refl _) (WkS.nil))))) Pf Pf)
   ·intro G36 s36 z36 hm
    refine wpD_seq ?_
    refine wpD_sr ?_
    refine pu ?_
    refine pu ?_
    refine pL 1 ?_
    refine p_lenL htab rfl rfl rfl rfl rfl rfl rfl (by first | exact map_len | rfl) ?_
    refine pu ?_
    refine ops_nt ?_
    refine wpD_cond rfl (fun hc58 => ?_) (fun hc58 => ?_)
    ·replace hm := yes_t hc58 hm
     refine wpD_skip ?_
     refine then_normal ?_
     refine wpD_seq ?_
     refine wpD_block ?_
     refine wpD_seq ?_
     obtain ⟨y60, q60, ho60⟩ := yes_bind hm
     refine wpD_mid (Y := Unit) (fun z60 => (⟨[(1, .lst 4 (a1.map eTApiWord) .no), (2, .ptr b1 0), (5, .ptr b2 0), (6, .v (.int .i64 s36.1)), (27, .v (.bool y60))], [(0, Blk.row 4 (s36.2.map eTApiWord) (SL z36)), (b1, Blk.cells [.v (.string a0.gFunc), .v (.int .i64 a0.gNodes), .lst 6 (a0.gEdges.map eTApiEdge) .no, .lst 2 (a0.gVars.map eTApiVar) .no, .v (.int .i64 a0.gMany)] 33), (b2, Blk.cells [.lst 2 (a0.gVars.map eTApiVar) .no, .v (SL z36)] 52)], []⟩ : S)) ?_ ?_
     ·clear hm; have hm := yes_of q60
      refine wpD_region ?_
      refine pu ?_
      refine pu ?_
      refine pL 1 ?_
      refine pu ?_
      refine pu ?_
      refine p_split (i := 22) rfl (fun hg61 => ?_) (fun hg61 => ?_)
      ·replace hm := yes_t hg61 hm
       refine pu ?_
       refine pu ?_
       refine p_lenL htab rfl rfl rfl rfl rfl rfl rfl (by first | exact map_len | rfl) ?_
       refine pu ?_
       refine p_pickT rfl rfl rfl rfl rfl rfl ?_
       refine ops_nil ?_
       have e60 := yes_eq hm; subst e60
       refine ⟨rfl, ?_⟩
       exact WkX.of () (WkS.perm (WkS.cons rfl (Wk.refl _) (WkS.cons rfl (Wk.refl _) (WkS.cons rfl (Wk.refl _) (WkS.cons rfl (Wk.refl _) (WkS.cons rfl (Wk.refl _) (WkS.nil)))))) Pf Pf)
      ·replace hm := yes_f hg61 hm
       iterate 4 refine pK ?_
       refine p_pickF rfl rfl rfl rfl rfl rfl ?_
       refine ops_nil ?_
       have e60 := yes_eq hm; subst e60
       refine ⟨rfl, ?_⟩
       exact WkX.of () (WkS.perm (WkS.cons rfl (Wk.refl _) (WkS.cons rfl (Wk.refl _) (WkS.cons rfl (Wk.refl _) (WkS.cons rfl (Wk.refl _) (WkS.cons rfl (Wk.refl _) (WkS.nil)))))) Pf Pf)
     ·intro s60 hw60; clear hm; have hm := ho60; clear q60 ho60
      refine then_normal ?_
      refine wpD_wkX hw60 (fun z60 => ?_)
      refine wpD_cond rfl (fun hc62 => ?_) (fun hc62 => ?_)
      ·replace hm := yes_t hc62 hm
       obtain ⟨x63, q63, hm⟩ := yes_bind hm
       obtain ⟨x64, q64, hm⟩ := yes_bind hm
       refine wpD_heavy 11 [] [[],[],[1],[1,2],[1,2,3],[],[],[5],[5,7],[5,7,8],[1,2,3,4,5,7,8,9]] [0,1,2,3,4,5,7,8,9,10] [[],[],[1],[1,2],[1,2,3],[],[],[5,6],[5,6,7],[5,6,7,8],[1,2,3,4,5,6,7,8,9],[0,1,2,3,4,5,6,7,8,9,10],[0,1,2,3,4,5,6,7,8,9,10,11],[0,1,2,3,4,5,6,7,8,9,10,11,12]] ⟨10, fun v64 => [(0, Blk.row 4 (x64.map eTApiWord) (SL (toZ v64))), (b1, Blk.cells [.v (.string a0.gFunc), .v (.int .i64 a0.gNodes), .lst 6 (a0.gEdges.map eTApiEdge) .no, .lst 2 (a0.gVars.map eTApiVar) .no, .v (.int .i64 a0.gMany)] 33), (b2, Blk.cells [.lst 2 (a0.gVars.map eTApiVar) .no, .v (SL z36)] 52)], fun _ => [], fun v64 => .v (SL (toZ v64))⟩ (by kernel_rfl) (by kernel_rfl) (by kernel_rfl) (by rfl) (by rfl) (by kernel_rfl) ?_
       iterate 9 apply Exists.intro
       refine ⟨.any, ?_⟩
       intro bs v64
       iterate 4 refine zh_e rfl rfl (ex_pure htab rfl) rfl rfl rfl rfl rfl rfl rfl rfl ?_
       refine zh_M rfl rfl (fun _ => xm_load 2 htab rfl rfl rfl rfl rfl) (offB rfl) rfl rfl rfl rfl rfl rfl rfl rfl ?_
       refine zh_e rfl rfl (ex_pure htab rfl) rfl rfl rfl rfl rfl rfl rfl rfl ?_
       refine zh_q rfl rfl (ex_pure htab rfl) rfl rfl rfl rfl rfl rfl ?_
       refine zh_e rfl rfl (x_elem htab rfl rfl rfl rfl rfl rfl rfl (idx_nonneg q63) (idx_map q63)) rfl rfl rfl rfl rfl rfl rfl rfl ?_
       refine zh_M rfl rfl (fun _ => xm_loadEl (d := eTApiWord x63) htab rfl rfl rfl rfl rfl) (offB rfl) rfl rfl rfl rfl rfl rfl rfl rfl ?_
       refine zh_E rfl rfl (ExE.wk (x_lit htab rfl rfl rfl rfl rfl rfl rfl rfl rfl rfl rfl) (show Wk _ (.lst 4 (([x63] : List TApiWord).map eTApiWord) .full) from Wk.lst0 (.cons (WkC.refl _) (.nil)))) rfl rfl rfl rfl rfl rfl rfl rfl ?_
       refine zh_appR 0 htab rfl rfl rfl rfl rfl rfl rfl rfl rfl rfl rfl rfl rfl rfl rfl rfl rfl rfl rfl rfl (app_bound q64) (app_map q64) rfl ?_
       refine zh_nil rfl rfl rfl rfl (fun e he => by simp [isAl] at he) ?_
       refine pu ?_
       refine pu ?_
       refine pS2 (ds' := [.lst 2 (a0.gVars.map eTApiVar) .no, .v (SL (toZ v64))]) ?_
       refine ops_nil ?_
       refine block_normal ?_
       refine then_normal ?_
       refine wpD_region ?_
       iterate 3 refine pu ?_
       refine ops_nil ?_
       refine then_normal ⟨_, lp_next hm, ?_⟩
       exact WkX.of (toZ v64) (WkS.perm (WkS.cons rfl (Wk.refl _) (WkS.cons rfl (Wk.refl _) (WkS.cons rfl (Wk.refl _) (WkS.cons rfl (Wk.refl _) (WkS.nil))))) Pf Pf)
      ·replace hm := yes_f hc62 hm
       obtain ⟨x65, q65, hm⟩ := yes_bind hm
       obtain ⟨x66, q66, hm⟩ := yes_bind hm
       refine wpD_heavy 14 [] [[],[],[1],[1,2],[1,2,3],[],[5],[],[5,6],[5,6,8],[5,6,8,9],[5,6,8,9,10],[5,6,8,9,10,11],[1,2,3,4,5,6,8,9,10,11,12]] [0,1,2,3,4,5,6,8,9,10,11,12,13] nlEv1_2 ⟨13, fun v66 => [(0, Blk.row 4 (x66.map eTApiWord) (SL (toZ v66))), (b1, Blk.cells [.v (.string a0.gFunc), .v (.int .i64 a0.gNodes), .lst 6 (a0.gEdges.map eTApiEdge) .no, .lst 2 (a0.gVars.map eTApiVar) .no, .v (.int .i64 a0.gMany)] 33), (b2, Blk.cells [.lst 2 (a0.gVars.map eTApiVar) .no, .v (SL z36)] 52)], fun _ => [], fun v66 => .v (SL (toZ v66))⟩ (by kernel_rfl) (by kernel_rfl) (by kernel_rfl) (by rfl) (by rfl) (by kernel_rfl) ?_
       iterate 12 apply Exists.intro
       refine ⟨.any, ?_⟩
       intro bs v66
       iterate 4 refine zh_e rfl rfl (ex_pure htab rfl) rfl rfl rfl rfl rfl rfl rfl rfl ?_
       refine zh_M rfl rfl (fun _ => xm_load 2 htab rfl rfl rfl rfl rfl) (offB rfl) rfl rfl rfl rfl rfl rfl rfl rfl ?_
       refine zh_e rfl rfl (ex_pure htab rfl) rfl rfl rfl rfl rfl rfl rfl rfl ?_
       refine zh_M rfl rfl (fun _ => xm_load 1 htab rfl rfl rfl rfl rfl) (offB rfl) rfl rfl rfl rfl rfl rfl rfl rfl ?_
       refine zh_q rfl rfl (ex_pure htab rfl) rfl rfl rfl rfl rfl rfl ?_
       refine zh_e rfl rfl (x_elem htab rfl rfl rfl rfl rfl rfl rfl (idx_nonneg q65) (idx_map q65)) rfl rfl rfl rfl rfl rfl rfl rfl ?_
       refine zh_e rfl rfl (ex_pure htab rfl) rfl rfl rfl rfl rfl rfl rfl rfl ?_
       refine zh_M rfl rfl (fun _ => xm_loadEl htab rfl rfl rfl rfl rfl) (offB rfl) rfl rfl rfl rfl rfl rfl rfl rfl ?_
       refine zh_e rfl rfl (x_build (r := [.v (.bool x65.gPtr), .v (.int .i64 (0 : Int)), .v (.string ByteArray.empty), .v (.int .i64 (0 : Int))]) htab rfl rfl rfl rfl rfl rfl) rfl rfl rfl rfl rfl rfl rfl rfl ?_
       refine zh_E rfl rfl (ExE.wk (x_lit htab rfl rfl rfl rfl rfl rfl rfl rfl rfl rfl rfl) (show Wk _ (.lst 4 (([(⟨x65.gPtr, (0 : Int), (⟨ByteArray.empty, (0 : Int)⟩ : TApiCell)⟩ : TApiWord)] : List TApiWord).map eTApiWord) .full) from Wk.lst0 (.cons (WkC.refl _) (.nil)))) rfl rfl rfl rfl rfl rfl rfl rfl ?_
       refine zh_appR 0 htab rfl rfl rfl rfl rfl rfl rfl rfl rfl rfl rfl rfl rfl rfl rfl rfl rfl rfl rfl rfl (app_bound q66) (app_map q66) rfl ?_
       refine zh_nil rfl rfl rfl rfl (fun e he => by simp [isAl] at he) ?_
       refine pu ?_
       refine pu ?_
       refine pS2 (ds' := [.lst 2 (a0.gVars.map eTApiVar) .no, .v (SL (toZ v66))]) ?_
       refine ops_nil ?_
       refine block_normal ?_
       refine then_normal ?_
       refine wpD_region ?_
       iterate 3 refine pu ?_
       refine ops_nil ?_
       refine then_normal ⟨_, lp_next hm, ?_⟩
       exact WkX.of (toZ v66) (WkS.perm (WkS.cons rfl (Wk.refl _) (WkS.cons rfl (Wk.refl _) (WkS.cons rfl (Wk.refl _) (WkS.cons rfl (Wk.refl _) (WkS.nil))))) Pf Pf)
    ·replace hm := yes_f hc58 hm
     refine wpD_exit ?_
     refine then_exit ?_
     have e36 := lp_done hm; subst e36; clear hm; have hm := hq36
     refine then_exit ?_
     refine block_hit ?_
     have e35 := yes_eq hm; subst e35
     refine ⟨rfl, ?_⟩
     exact WkX.of z36 (WkS.perm (WkS.cons rfl (Wk.refl _) (WkS.nil)) ((perm_at (j := 0) rfl).trans (List.Perm.cons _ ((perm_at (j := 1) rfl).trans (List.Perm.cons _ Pf)))) Pf)
  ·intro s35 hw35; clear hm; have hm := ho35; clear q35 ho35
   refine then_normal ?_
   refine wpD_wkX hw35 (fun z35 => ?_)
   refine wpD_sr ?_
   refine pu ?_
   refine pu ?_
   refine ops_nt ?_
   refine wpD_ret ?_
   have er67 := yes_eq hm; subst er67
   refine rP (t' := [(4, .ptr b2 0)]) [1,0] [] 2 (wC wN) (lT lN) ?_
   exact ⟨b2, z35, rfl, rfl, rfl⟩
noncomputable def r20_Frame_Find_w (m0 : TSondageref20Frame) (a1 : ByteArray) : Option (Int) :=
  (Option.bind (α := (Unit) ⊕ (Int)) (loopM (fun (s19 : Int) => (bif (decide (s19 < (m0.gVars.length : Int))) then ((idx m0.gVars s19).bind fun x33 => (bif (decide (x33.gName = a1)) then some (.done (.inr s19)) else some (.next (IntKind.i64.wrap (s19 + (1 : Int)))))) else some (.done (.inl ())))) (0 : Int)) (Sum.elim (fun y18 => some (-1 : Int)) (fun r => some r)))
set_option maxRecDepth 100000 in
set_option maxHeartbeats 2000000 in
theorem r20_Frame_Find_w_ok (m0 : TSondageref20Frame) (a1 : ByteArray) (o0 : Nat) (T0 : TypeId) (c0_0 : Cap) (z0_1 : Z3) (r : Int) (h0 : r20_Frame_Find_w m0 a1 = some r) : CallsD Try.prog 11 [.ptr o0 0, .v (.string a1)] [(o0, Blk.cells [.lst 2 (m0.gVars.map eTApiVar) c0_0, .v (SL z0_1)] T0), (0, Blk.row 4 (m0.gWords.map eTApiWord) (SL z0_1))] [] (fun d h k => d = .v (.int .i64 r) ∧ h = [(o0, Blk.cells [.lst 2 (m0.gVars.map eTApiVar) c0_0, .v (SL z0_1)] T0), (0, Blk.row 4 (m0.gWords.map eTApiWord) (SL z0_1))] ∧ k = []) := by
  have hm := yes_of h0
  unfold r20_Frame_Find_w at hm
  clear h0
  refine enterX htab Try.func11 rfl rfl rfl rfl rfl (fun C => ?_)
  refine wpD_sr ?_
  refine pu ?_
  refine ops_nt ?_
  refine wpD_seq ?_
  refine wpD_sr ?_
  refine pu ?_
  refine ops_nt ?_
  obtain ⟨x18, q18, ho18⟩ := yes_bind hm
  refine wpD_midX (τ := Unit) (Y := Unit) (fun y18 z18 => (⟨[], [(o0, Blk.cells [.lst 2 (m0.gVars.map eTApiVar) c0_0, .v (SL z0_1)] T0), (0, Blk.row 4 (m0.gWords.map eTApiWord) (SL z0_1))], []⟩ : S)) x18 ?_ ?_
  ·clear hm; have hm := yes_of q18
   refine wpD_block ?_
   obtain ⟨u19, hl19, hq19⟩ := yes_m hm
   refine loop_M (Y := Unit) hl19 (fun s19 z19 => (⟨[(0, .ptr o0 0), (1, .v (.string a1)), (5, .v (.int .i64 s19))], [(o0, Blk.cells [.lst 2 (m0.gVars.map eTApiVar) c0_0, .v (SL z0_1)] T0), (0, Blk.row 4 (m0.gWords.map eTApiWord) (SL z0_1))], []⟩ : S)) ?_ ?_
   ·skip
    exact WkX.of () (WkS.perm (WkS.cons rfl (Wk.refl _) (WkS.cons rfl (Wk.refl _) (WkS.cons rfl (Wk.refl _) (WkS.nil)))) Pf Pf)
   ·intro G19 s19 z19 hm
    refine wpD_seq ?_
    refine wpD_sr ?_
    iterate 4 refine pu ?_
    refine pL 0 ?_
    refine p_lenL htab rfl rfl rfl rfl rfl rfl rfl (by first | exact map_len | rfl) ?_
    refine pu ?_
    refine ops_nt ?_
    refine wpD_cond rfl (fun hc32 => ?_) (fun hc32 => ?_)
    ·replace hm := yes_t hc32 hm
     refine wpD_skip ?_
     refine then_normal ?_
     refine wpD_seq ?_
     refine wpD_block ?_
     refine wpD_sr ?_
     iterate 3 refine pu ?_
     refine pL 0 ?_
     refine pu ?_
     obtain ⟨x33, q33, hm⟩ := yes_bind hm
     refine p_elem htab rfl rfl rfl rfl rfl rfl rfl rfl rfl rfl (idx_nonneg q33) (idx_map q33) ?_
     refine pu ?_
     refine p_loadEl htab rfl rfl rfl rfl rfl rfl rfl rfl ?_
     refine pu ?_
     refine pu ?_
     refine ops_nt ?_
     refine wpD_cond rfl (fun hc34 => ?_) (fun hc34 => ?_)
     ·replace hm := yes_t hc34 hm
      refine wpD_sr ?_
      refine pu ?_
      refine pu ?_
      refine ops_nt ?_
      refine wpD_ret ?_
      refine block_ret ?_
      refine then_ret ?_
      have e19 := lp_done hm; subst e19; clear hm; have hm := hq19
      refine then_ret ?_
      refine block_ret ?_
      have e18 := yes_eq hm; subst e18; refine midX_inr ?_; clear hm; have hm := ho18; simp only [Sum.elim_inr] at hm
      refine then_ret ?_
      have er35 := yes_eq hm; subst er35
      refine rP (t' := [(4, .v (.int .i64 s19))]) [0,0] [] 2 (wC wN) (lT lN) ?_
      exact ⟨rfl, rfl, rfl⟩
     ·replace hm := yes_f hc34 hm
      refine wpD_skip ?_
      refine block_normal ?_
      refine then_normal ?_
      refine wpD_region ?_
      iterate 3 refine pu ?_
      refine ops_nil ?_
      refine then_normal ⟨_, lp_next hm, ?_⟩
      exact WkX.of () (WkS.perm (WkS.cons rfl (Wk.refl _) (WkS.cons rfl (Wk.refl _) (WkS.cons rfl (Wk.refl _) (WkS.nil)))) Pf Pf)
    ·replace hm := yes_f hc32 hm
     refine wpD_exit ?_
     refine then_exit ?_
     have e19 := lp_done hm; subst e19; clear hm; have hm := hq19
     refine then_exit ?_
     refine block_hit ?_
     have e18 := yes_eq hm; subst e18
     refine midX_inl ?_
     exact WkX.of () (WkS.perm (WkS.nil) Pf Pf)
  ·intro y18 s18 hx18 hw18; subst hx18; clear hm; have hm := ho18; simp only [Sum.elim_inl] at hm; clear q18 ho18
   refine then_normal ?_
   refine wpD_wkX hw18 (fun z18 => ?_)
   refine wpD_sr ?_
   refine pu ?_
   refine ops_nt ?_
   refine wpD_ret ?_
   have er36 := yes_eq hm; subst er36
   refine rP (t' := [(4, .v (.int .i64 (-1 : Int)))]) [0,0] [] 2 (wC wN) (lT lN) ?_
   exact ⟨rfl, rfl, rfl⟩
abbrev nlEv1_3 : List (List Nat) := [[],[0],[0,1],[0,1,2],[0,1,2,3],[0,1,2,3,4],[0,1,2,3,4,5],[0,1,2],[0,1,2,3,4,5,6,7],[0,1,2,3,4,5,6,7,8],[0,1,2,3,4,5,6,7,8,9],[0,1,2],[0,1,2,11],[0,1,2,3,4,5,6,7,8,9,10,11,12],[0,1,2,3,4,5,6,7,8,9,10,11,12,13]]
noncomputable def r20_Frame_Set (m0 : TSondageref20Frame) (a1 : ByteArray) (a2 : TApiWord) : Option (Bool × TSondageref20Frame) :=
  ((r20_Frame_Find_w m0 a1).bind fun x2 => (Option.bind (α := Bool) (bif (decide (x2 < (0 : Int))) then some true else ((idx m0.gVars x2).bind fun x7 => some (!(x7.gPtr == a2.gPtr)))) fun y5 => (bif y5 then some (false, m0) else ((idx m0.gWords x2).bind fun x11 => some (true, (⟨m0.gVars, (m0.gWords.set x2.toNat a2)⟩ : TSondageref20Frame))))))
set_option maxRecDepth 100000 in
set_option maxHeartbeats 2000000 in
theorem r20_Frame_Set_ok (m0 : TSondageref20Frame) (a1 : ByteArray) (a2 : TApiWord) (o0 : Nat) (T0 : TypeId) (c0_0 : Cap) (z0_1 : Z3) (r : Bool × TSondageref20Frame) (h0 : r20_Frame_Set m0 a1 a2 = some r) : CallsD Try.prog 9 [.ptr o0 0, .v (.string a1), eTApiWord a2] [(o0, Blk.cells [.lst 2 (m0.gVars.map eTApiVar) c0_0, .v (SL z0_1)] T0), (0, Blk.row 4 (m0.gWords.map eTApiWord) (SL z0_1))] [] (fun d h k => ∃ y0, d = .v (.bool r.1) ∧ h = [(o0, Blk.cells [.lst 2 (r.2.gVars.map eTApiVar) c0_0, .v (SL y0)] T0), (0, Blk.row 4 (r.2.gWords.map eTApiWord) (SL y0))] ∧ k = []) := by
  have hm := yes_of h0
  unfold r20_Frame_Set at hm
  clear h0
  refine enterX htab Try.func9 rfl rfl rfl rfl rfl (fun C => ?_)
  refine wpD_sr ?_
  refine p_box rfl rfl rfl rfl rfl rfl rfl (fun b1 => ?_)
  refine pu ?_
  refine ops_n2 ?_
  refine pu ?_
  refine pu ?_
  obtain ⟨x2, q2, hm⟩ := yes_bind hm
  refine pG (r20_Frame_Find_w_ok m0 a1 o0 T0 c0_0 z0_1 x2 q2) Wl Pf Pf ?_
  rintro _ _ _ ⟨rfl, rfl, rfl⟩
  refine pu ?_
  refine ops_nt ?_
  refine wpD_seq ?_
  refine wpD_seq ?_
  obtain ⟨y5, q5, ho5⟩ := yes_bind hm
  refine wpD_mid (Y := Unit) (fun z5 => (⟨[(0, .ptr o0 0), (5, .ptr b1 0), (7, .v (.int .i64 x2)), (25, .v (.bool y5))], [(o0, Blk.cells [.lst 2 (m0.gVars.map eTApiVar) c0_0, .v (SL z0_1)] T0), (0, Blk.row 4 (m0.gWords.map eTApiWord) (SL z0_1)), (b1, Blk.cells [.v (.bool a2.gPtr), .v (.int .i64 a2.gN), .v (.string a2.gTo.gName), .v (.int .i64 a2.gTo.gAt)] 45)], []⟩ : S)) ?_ ?_
  ·clear hm; have hm := yes_of q5
   refine bycB (decide (x2 < (0 : Int))) (fun hs6 => ?_) (fun hs6 => ?_)
   ·replace hm := yes_t hs6 hm
    refine wpD_draws 13 [] [[],[],[],[],[],[],[],[],[],[],[],[],[]] [] nlEv1_3 (by kernel_rfl) (by kernel_rfl) (by kernel_rfl) (by rfl) (by rfl) (by kernel_rfl) ?_
    intro bs
    iterate 3 refine zqp ?_
    refine z_known (j := 13) (b' := true) rfl hs6 ?_
    iterate 10 refine zK ?_
    refine z_nil rfl rfl (fun e he => by simp [isAl] at he) ?_
    refine pK ?_
    refine p_pickT rfl rfl rfl rfl rfl rfl ?_
    refine ops_nil ?_
    have e5 := yes_eq hm; subst e5
    refine ⟨rfl, ?_⟩
    exact WkX.of () (WkS.perm (WkS.cons rfl (Wk.refl _) (WkS.cons rfl (Wk.refl _) (WkS.cons rfl (Wk.refl _) (WkS.cons rfl (Wk.refl _) (WkS.nil))))) Pf Pf)
   ·replace hm := yes_f hs6 hm
    obtain ⟨x7, q7, hm⟩ := yes_bind hm
    refine wpD_draws 13 [] [[],[],[],[],[3],[3,4],[3,4,5],[],[3,4,5,6],[3,4,5,6,8],[3,4,5,6,8,9],[],[11]] [3,4,5,6,8,9,11] nlEv1_3 (by kernel_rfl) (by kernel_rfl) (by kernel_rfl) (by rfl) (by rfl) (by kernel_rfl) ?_
    iterate 7 apply Exists.intro
    intro bs
    iterate 3 refine zqp ?_
    refine z_known (j := 13) (b' := false) rfl hs6 ?_
    iterate 3 refine zep ?_
    refine z_eM rfl rfl (xm_load 0 htab rfl rfl rfl rfl rfl) rfl rfl rfl rfl rfl rfl ?_
    refine zqp ?_
    refine z_e rfl rfl (x_elem htab rfl rfl rfl rfl rfl rfl rfl (idx_nonneg q7) (idx_map q7)) rfl rfl rfl rfl rfl rfl ?_
    refine zep ?_
    refine z_qM rfl rfl (xm_loadEl htab rfl rfl rfl rfl rfl) rfl rfl rfl rfl rfl rfl ?_
    refine zep ?_
    refine z_qM rfl rfl (xm_load 2 htab rfl rfl rfl rfl rfl) rfl rfl rfl rfl rfl rfl ?_
    refine z_nil rfl rfl (fun e he => by simp [isAl] at he) ?_
    refine pu ?_
    refine p_pickF rfl rfl rfl rfl rfl rfl ?_
    refine ops_nil ?_
    have e5 := yes_eq hm; subst e5
    refine ⟨rfl, ?_⟩
    exact WkX.of () (WkS.perm (WkS.cons rfl (Wk.refl _) (WkS.cons rfl (Wk.refl _) (WkS.cons rfl (Wk.refl _) (WkS.cons rfl (Wk.refl _) (WkS.nil))))) Pf Pf)
  ·intro s5 hw5; clear hm; have hm := ho5; clear q5 ho5
   refine then_normal ?_
   refine wpD_wkX hw5 (fun z5 => ?_)
   refine wpD_cond rfl (fun hc9 => ?_) (fun hc9 => ?_)
   ·replace hm := yes_t hc9 hm
    refine wpD_sr ?_
    refine pu ?_
    refine ops_nt ?_
    refine wpD_ret ?_
    refine then_ret ?_
    have er10 := yes_eq hm; subst er10
    refine rP (t' := [(6, .v (.bool false))]) [0,0] [] 2 (wC wN) (lT lN) ?_
    exact ⟨z0_1, rfl, rfl, rfl⟩
   ·replace hm := yes_f hc9 hm
    refine wpD_skip ?_
    refine then_normal ?_
    refine wpD_seq ?_
    refine wpD_draws 6 [] [[],[0],[0,1],[0,1,2],[],[]] [0,1,2,3,5] [[],[0],[0,1],[0,1,2],[],[],[0,1,2,3,4,5],[0,1,2,3,4,5,6]] (by kernel_rfl) (by kernel_rfl) (by kernel_rfl) (by rfl) (by rfl) (by kernel_rfl) ?_
    iterate 5 apply Exists.intro
    intro bs
    iterate 3 refine zep ?_
    refine z_eM rfl rfl (xm_load 0 htab rfl rfl rfl rfl rfl) rfl rfl rfl rfl rfl rfl ?_
    refine zqp ?_
    refine z_eM rfl rfl (xm_load (d := eTApiWord a2) 2 htab rfl rfl rfl rfl rfl) rfl rfl rfl rfl rfl rfl ?_
    refine z_nil rfl rfl (fun e he => by simp [isAl] at he) ?_
    obtain ⟨x11, q11, hm⟩ := yes_bind hm
    refine p_elemR 1 htab rfl rfl rfl rfl rfl rfl rfl rfl rfl rfl rfl (idx_nonneg q11) (idx_map q11) ?_
    refine p_storeR (d := eTApiWord a2) 1 htab rfl rfl rfl rfl rfl rfl rfl rfl rfl rfl (idx_mlt q11) (set_map (e := eTApiWord)) ?_
    refine ops_n2 ?_
    refine pu ?_
    refine ops_nt ?_
    refine wpD_ret ?_
    have er12 := yes_eq hm; subst er12
    refine rP (t' := [(6, .v (.bool true))]) [0,0] [] 2 (wC wN) (lT lN) ?_
    exact ⟨z0_1, rfl, rfl, rfl⟩
noncomputable def eval_Frame_place2 (a1 : ByteArray) : Option (Int) :=
  some (-1 : Int)
set_option maxRecDepth 100000 in
set_option maxHeartbeats 2000000 in
theorem eval_Frame_place2_ok (a1 : ByteArray) (r : Int) (h0 : eval_Frame_place2 a1 = some r) : CallsD Try.prog 20 [.v (.pointer none), .v (.string a1)] [] [] (fun d h k => d = .v (.int .i64 r) ∧ h = [] ∧ k = []) := by
  have hm := yes_of h0
  unfold eval_Frame_place2 at hm
  clear h0
  refine enterX htab Try.func20 rfl rfl rfl rfl rfl (fun C => ?_)
  refine wpD_sr ?_
  refine p_box rfl rfl rfl rfl rfl rfl rfl (fun b1 => ?_)
  refine pu ?_
  refine ops_nt ?_
  refine wpD_seq ?_
  refine wpD_sr ?_
  refine pu ?_
  refine p_eqP htab rfl rfl rfl rfl rfl rfl rfl rfl rfl rfl ?_
  refine ops_nt ?_
  refine wpD_true rfl ?_
  refine wpD_sr ?_
  refine pu ?_
  refine ops_nt ?_
  refine wpD_ret ?_
  refine then_ret ?_
  have er2 := yes_eq hm; subst er2
  refine rP (t' := [(4, .v (.int .i64 (-1 : Int)))]) [] [] 0 (wC wN) (lT lN) ?_
  exact ⟨rfl, rfl, rfl⟩
abbrev nlEv1_4 : List (List Nat) := [[],[0],[0,1],[0,1,2],[0,1,2,3],[0,1,2,3,4],[0,1,2,3,4,5],[0,1,2],[0,1,2,3,4,5,6,7],[0,1,2,3,4,5,6,7,8],[0,1,2,3,4,5,6,7,8,9],[0,1,2],[0,1,2,11],[0,1,2,3,4,5,6,7,8,9,10,11,12],[0,1,2,3,4,5,6,7,8,9,10,11,12,13]]
noncomputable def eval_Frame_Set2 (a1 : ByteArray) (a2 : TApiWord) : Option (Bool) :=
  ((eval_Frame_place2 a1).bind fun x2 => (bif (decide (x2 < (0 : Int))) then some false else none))
set_option maxRecDepth 100000 in
set_option maxHeartbeats 2000000 in
theorem eval_Frame_Set2_ok (a1 : ByteArray) (a2 : TApiWord) (r : Bool) (h0 : eval_Frame_Set2 a1 a2 = some r) : CallsD Try.prog 8 [.v (.pointer none), .v (.string a1), eTApiWord a2] [] [] (fun d h k => d = .v (.bool r) ∧ h = [] ∧ k = []) := by
  have hm := yes_of h0
  unfold eval_Frame_Set2 at hm
  clear h0
  refine enterX htab Try.func8 rfl rfl rfl rfl rfl (fun C => ?_)
  refine wpD_sr ?_
  refine p_box rfl rfl rfl rfl rfl rfl rfl (fun b1 => ?_)
  refine pu ?_
  refine ops_n2 ?_
  refine pu ?_
  refine pu ?_
  obtain ⟨x2, q2, hm⟩ := yes_bind hm
  refine p_call0 (eval_Frame_place2_ok a1 x2 q2) rfl rfl rfl rfl rfl Wl ?_
  rintro _ rfl
  refine pu ?_
  refine ops_nt ?_
  refine wpD_seq ?_
  refine wpD_seq ?_
  refine bycB (decide (x2 < (0 : Int))) (fun hs4 => ?_) (fun hs4 => ?_)
  ·replace hm := yes_t hs4 hm
   refine wpD_draws 13 [] [[],[],[],[],[],[],[],[],[],[],[],[],[]] [] nlEv1_4 (by kernel_rfl) (by kernel_rfl) (by kernel_rfl) (by rfl) (by rfl) (by kernel_rfl) ?_
   intro bs
   iterate 3 refine zqp ?_
   refine z_known (j := 13) (b' := true) rfl hs4 ?_
   iterate 10 refine zK ?_
   refine z_nil rfl rfl (fun e he => by simp [isAl] at he) ?_
   refine pK ?_
   refine p_pickT rfl rfl rfl rfl rfl rfl ?_
   refine ops_nt ?_
   refine wpD_true rfl ?_
   refine wpD_sr ?_
   refine pu ?_
   refine ops_nt ?_
   refine wpD_ret ?_
   refine then_ret ?_
   have er5 := yes_eq hm; subst er5
   refine rP (t' := [(6, .v (.bool false))]) [] [] 0 (wC wN) (lT lN) ?_
   exact ⟨rfl, rfl, rfl⟩
  ·replace hm := yes_f hs4 hm
   exact (yes_none hm).elim
noncomputable def eval_Frame_Get_w (m0 : TEvalFrame) (a1 : ByteArray) : Option (TApiWord × Bool) :=
  ((eval_Frame_place_w m0 a1).bind fun x2 => (bif (decide (x2 < (0 : Int))) then some ((⟨false, (0 : Int), (⟨ByteArray.empty, (0 : Int)⟩ : TApiCell)⟩ : TApiWord), false) else ((idx m0.gWords x2).bind fun x6 => some (x6, true))))
set_option maxRecDepth 100000 in
set_option maxHeartbeats 2000000 in
theorem eval_Frame_Get_w_ok (m0 : TEvalFrame) (a1 : ByteArray) (o0 : Nat) (T0 : TypeId) (c0_0 : Cap) (z0_1 : Z3) (r : TApiWord × Bool) (h0 : eval_Frame_Get_w m0 a1 = some r) : CallsD Try.prog 10 [.ptr o0 0, .v (.string a1)] [(o0, Blk.cells [.lst 2 (m0.gVars.map eTApiVar) c0_0, .v (SL z0_1)] T0), (0, Blk.row 4 (m0.gWords.map eTApiWord) (SL z0_1))] [] (fun d h k => d = .tup [eTApiWord r.1, .v (.bool r.2)] ∧ h = [(o0, Blk.cells [.lst 2 (m0.gVars.map eTApiVar) c0_0, .v (SL z0_1)] T0), (0, Blk.row 4 (m0.gWords.map eTApiWord) (SL z0_1))] ∧ k = []) := by
  have hm := yes_of h0
  unfold eval_Frame_Get_w at hm
  clear h0
  refine enterX htab Try.func10 rfl rfl rfl rfl rfl (fun C => ?_)
  refine wpD_sr ?_
  refine p_alloc htab rfl rfl rfl rfl rfl rfl rfl (fun b1 => ?_)
  refine pu ?_
  refine ops_n2 ?_
  refine pu ?_
  refine pu ?_
  obtain ⟨x2, q2, hm⟩ := yes_bind hm
  refine pG (eval_Frame_place_w_ok m0 a1 o0 T0 c0_0 z0_1 x2 q2) Wl Pf Pf ?_
  rintro _ _ _ ⟨rfl, rfl, rfl⟩
  refine pu ?_
  refine ops_nt ?_
  refine wpD_seq ?_
  refine wpD_sr ?_
  refine pu ?_
  refine pu ?_
  refine ops_nt ?_
  refine wpD_cond rfl (fun hc4 => ?_) (fun hc4 => ?_)
  ·replace hm := yes_t hc4 hm
   refine wpD_sr ?_
   refine p_build (r := [.v (.bool false), .v (.int .i64 (0 : Int)), .v (.string ByteArray.empty), .v (.int .i64 (0 : Int))]) htab rfl rfl rfl rfl rfl rfl rfl rfl rfl ?_
   refine pS2 (ds' := [.v (.bool false), .v (.int .i64 (0 : Int)), .v (.string ByteArray.empty), .v (.int .i64 (0 : Int))]) ?_
   refine pu ?_
   refine ops_nt ?_
   refine wpD_ret ?_
   refine then_ret ?_
   have er5 := yes_eq hm; subst er5
   refine rP (t' := [(4, .ptr b1 0), (5, .v (.bool false))]) [0,0,0] [] 2 (wC (wC wN)) (lC 2 (lT lN)) ?_
   exact ⟨rfl, rfl, rfl⟩
  ·replace hm := yes_f hc4 hm
   refine wpD_skip ?_
   refine then_normal ?_
   refine wpD_sr ?_
   iterate 3 refine pu ?_
   refine pL 0 ?_
   refine pu ?_
   obtain ⟨x6, q6, hm⟩ := yes_bind hm
   refine p_elemR 1 htab rfl rfl rfl rfl rfl rfl rfl rfl rfl rfl rfl (idx_nonneg q6) (idx_map q6) ?_
   refine p_loadR (d := eTApiWord x6) (d0 := eTApiWord x6) 1 htab rfl rfl rfl rfl rfl rfl rfl (idx_map q6) rfl (by simp [dcells, eTApiWord]) ?_
   refine pS2 (ds' := [.v (.bool x6.gPtr), .v (.int .i64 x6.gN), .v (.string x6.gTo.gName), .v (.int .i64 x6.gTo.gAt)]) ?_
   refine pu ?_
   refine ops_nt ?_
   refine wpD_ret ?_
   have er7 := yes_eq hm; subst er7
   refine rP (t' := [(4, .ptr b1 0), (5, .v (.bool true))]) [0,0,0] [] 2 (wC (wC wN)) (lC 2 (lT lN)) ?_
   exact ⟨rfl, rfl, rfl⟩
noncomputable def eval_Frame_Get2 (a1 : ByteArray) : Option (TApiWord × Bool) :=
  ((eval_Frame_place2 a1).bind fun x2 => (bif (decide (x2 < (0 : Int))) then some ((⟨false, (0 : Int), (⟨ByteArray.empty, (0 : Int)⟩ : TApiCell)⟩ : TApiWord), false) else none))
set_option maxRecDepth 100000 in
set_option maxHeartbeats 2000000 in
theorem eval_Frame_Get2_ok (a1 : ByteArray) (r : TApiWord × Bool) (h0 : eval_Frame_Get2 a1 = some r) : CallsD Try.prog 10 [.v (.pointer none), .v (.string a1)] [] [] (fun d h k => d = .tup [eTApiWord r.1, .v (.bool r.2)] ∧ h = [] ∧ k = []) := by
  have hm := yes_of h0
  unfold eval_Frame_Get2 at hm
  clear h0
  refine enterX htab Try.func10 rfl rfl rfl rfl rfl (fun C => ?_)
  refine wpD_sr ?_
  refine p_alloc htab rfl rfl rfl rfl rfl rfl rfl (fun b1 => ?_)
  refine pu ?_
  refine ops_n2 ?_
  refine pu ?_
  refine pu ?_
  obtain ⟨x2, q2, hm⟩ := yes_bind hm
  refine p_call0 (eval_Frame_place2_ok a1 x2 q2) rfl rfl rfl rfl rfl Wl ?_
  rintro _ rfl
  refine pu ?_
  refine ops_nt ?_
  refine wpD_seq ?_
  refine wpD_sr ?_
  refine pu ?_
  refine pu ?_
  refine ops_nt ?_
  refine wpD_cond rfl (fun hc4 => ?_) (fun hc4 => ?_)
  ·replace hm := yes_t hc4 hm
   refine wpD_sr ?_
   refine p_build (r := [.v (.bool false), .v (.int .i64 (0 : Int)), .v (.string ByteArray.empty), .v (.int .i64 (0 : Int))]) htab rfl rfl rfl rfl rfl rfl rfl rfl rfl ?_
   refine pS0 (ds' := [.v (.bool false), .v (.int .i64 (0 : Int)), .v (.string ByteArray.empty), .v (.int .i64 (0 : Int))]) ?_
   refine pu ?_
   refine ops_nt ?_
   refine wpD_ret ?_
   refine then_ret ?_
   have er5 := yes_eq hm; subst er5
   refine rP (t' := [(4, .ptr b1 0), (5, .v (.bool false))]) [0] [] 0 (wC (wC wN)) (lC 0 (lT lN)) ?_
   exact ⟨rfl, rfl, rfl⟩
  ·replace hm := yes_f hc4 hm
   refine wpD_skip ?_
   refine then_normal ?_
   refine wpD_sr ?_
   refine pu ?_
   exact (yes_none hm).elim
noncomputable def eval_Frame_All_w (m0 : TEvalFrame) : Option (List TApiWord × TEvalFrame) :=
  ((slices_Clone_api_Word_api_Word m0.gWords).bind fun x2 => some (x2, m0))
set_option maxRecDepth 100000 in
set_option maxHeartbeats 2000000 in
theorem eval_Frame_All_w_ok (m0 : TEvalFrame) (o0 : Nat) (T0 : TypeId) (c0_0 : Cap) (z0_1 : Z3) (r : List TApiWord × TEvalFrame) (h0 : eval_Frame_All_w m0 = some r) : CallsD Try.prog 13 [.ptr o0 0] [(o0, Blk.cells [.lst 2 (m0.gVars.map eTApiVar) c0_0, .v (SL z0_1)] T0), (0, Blk.row 4 (m0.gWords.map eTApiWord) (SL z0_1))] [] (fun d h k => ∃ y0 y1, d = .lst 4 (r.1.map eTApiWord) (.cur y0) ∧ h = [(o0, Blk.cells [.lst 2 (r.2.gVars.map eTApiVar) c0_0, .lst 4 (r.2.gWords.map eTApiWord) (.cur y1)] T0)] ∧ k = [(4, y0), (4, y1)]) := by
  have hm := yes_of h0
  unfold eval_Frame_All_w at hm
  clear h0
  refine enterX htab Try.func13 rfl rfl rfl rfl rfl (fun C => ?_)
  refine wpD_sr ?_
  refine pu ?_
  refine ops_nt ?_
  refine wpD_seq ?_
  refine wpD_sr ?_
  refine pu ?_
  refine p_eqP htab rfl rfl rfl rfl rfl rfl rfl rfl rfl rfl ?_
  refine ops_nt ?_
  refine wpD_false rfl ?_
  refine wpD_skip ?_
  refine then_normal ?_
  refine wpD_sr ?_
  iterate 3 refine pu ?_
  refine pL 0 ?_
  refine o_norm (WkS.frz 1 rfl rfl) ?_
  refine o_norm (WkS.tld 8 1 rfl rfl) ?_
  refine o_norm (WkS.tldC (off := 1) 0 1 rfl rfl rfl rfl) ?_
  refine o_norm (WkS.drop 1 rfl) ?_
  obtain ⟨x2, q2, hm⟩ := yes_bind hm
  refine p_callG (slices_Clone_api_Word_api_Word_row_ok m0.gWords x2 q2) rfl rfl rfl rfl rfl (WkL.cons (Wk.no) Wl) Pf Pf ?_
  rintro _ _ _ ⟨w1, rfl, rfl, rfl⟩
  refine pu ?_
  refine ops_nt ?_
  refine wpD_ret ?_
  have er3 := yes_eq hm; subst er3
  refine retX.wk (WkS.frz 0 rfl rfl) ?_
  refine retX.wk (WkS.tld 2 0 rfl rfl) ?_
  refine retX.wk (WkS.tld 9 0 rfl rfl) ?_
  refine retX.wk (WkS.drop 0 rfl) ?_
  refine rP (t' := [(2, .lst 4 (x2.map eTApiWord) (.cur (SL w1)))]) [0] [0,0] 1 (wC wN) (lT lN) ?_
  exact ⟨(SL w1), (SL z0_1), rfl, rfl, rfl⟩
noncomputable def l20_same (a0 : List TApiWord) (a1 : List TApiWord) : Option (Bool) :=
  (bif ((a0.length : Int) != (a1.length : Int)) then some false else (Option.bind (α := (Unit) ⊕ (Bool)) (loopM (fun (s21 : Int) => (bif (decide (s21 < (a0.length : Int))) then ((idx a0 s21).bind fun x33 => ((idx a1 s21).bind fun x34 => (bif (!(x33.gPtr == x34.gPtr && (x33.gN == x34.gN && ((decide (x33.gTo.gName = x34.gTo.gName) && (x33.gTo.gAt == x34.gTo.gAt && true)) && true)))) then some (.done (.inr false)) else some (.next (IntKind.i64.wrap (s21 + (1 : Int))))))) else some (.done (.inl ())))) (0 : Int)) (Sum.elim (fun y20 => some true) (fun r => some r))))
set_option maxRecDepth 100000 in
set_option maxHeartbeats 2000000 in
theorem l20_same_ok (a0 : List TApiWord) (a1 : List TApiWord) (r : Bool) (h0 : l20_same a0 a1 = some r) : CallsD Try.prog 12 [.lst 4 (a0.map eTApiWord) .no, .lst 4 (a1.map eTApiWord) .no] [] [] (fun d h k => d = .v (.bool r) ∧ h = [] ∧ k = []) := by
  have hm := yes_of h0
  unfold l20_same at hm
  clear h0
  refine enterX htab Try.func12 rfl rfl rfl rfl rfl (fun C => ?_)
  refine wpD_sr ?_
  refine pu ?_
  refine ops_nt ?_
  refine wpD_seq ?_
  refine wpD_sr ?_
  refine pu ?_
  refine p_lenL htab rfl rfl rfl rfl rfl rfl rfl (by first | exact map_len | rfl) ?_
  refine pu ?_
  refine p_lenL htab rfl rfl rfl rfl rfl rfl rfl (by first | exact map_len | rfl) ?_
  refine pu ?_
  refine ops_nt ?_
  refine wpD_cond rfl (fun hc2 => ?_) (fun hc2 => ?_)
  ·replace hm := yes_t hc2 hm
   refine wpD_sr ?_
   refine pu ?_
   refine ops_nt ?_
   refine wpD_ret ?_
   refine then_ret ?_
   have er3 := yes_eq hm; subst er3
   refine rP (t' := [(4, .v (.bool false))]) [] [] 0 (wC wN) (lT lN) ?_
   exact ⟨rfl, rfl, rfl⟩
  ·replace hm := yes_f hc2 hm
   refine wpD_skip ?_
   refine then_normal ?_
   refine wpD_seq ?_
   refine wpD_sr ?_
   refine pu ?_
   refine ops_nt ?_
   obtain ⟨x20, q20, ho20⟩ := yes_bind hm
   refine wpD_midX (τ := Unit) (Y := Unit) (fun y20 z20 => (⟨[], [], []⟩ : S)) x20 ?_ ?_
   ·clear hm; have hm := yes_of q20
    refine wpD_block ?_
    obtain ⟨u21, hl21, hq21⟩ := yes_m hm
    refine loop_M (Y := Unit) hl21 (fun s21 z21 => (⟨[(0, .lst 4 (a0.map eTApiWord) .no), (1, .lst 4 (a1.map eTApiWord) .no), (5, .v (.int .i64 s21))], [], []⟩ : S)) ?_ ?_
    ·skip
     exact WkX.of () (WkS.perm (WkS.cons rfl (Wk.refl _) (WkS.cons rfl (Wk.refl _) (WkS.cons rfl (Wk.refl _) (WkS.nil)))) Pf Pf)
    ·intro G21 s21 z21 hm
     refine wpD_seq ?_
     refine wpD_sr ?_
     refine pu ?_
     refine pu ?_
     refine p_lenL htab rfl rfl rfl rfl rfl rfl rfl (by first | exact map_len | rfl) ?_
     refine pu ?_
     refine ops_nt ?_
     refine wpD_cond rfl (fun hc32 => ?_) (fun hc32 => ?_)
     ·replace hm := yes_t hc32 hm
      refine wpD_skip ?_
      refine then_normal ?_
      refine wpD_seq ?_
      refine wpD_block ?_
      refine wpD_seq ?_
      obtain ⟨x33, q33, hm⟩ := yes_bind hm
      obtain ⟨x34, q34, hm⟩ := yes_bind hm
      refine wpD_draws 8 [] [[],[],[0],[0,2],[],[],[4],[4,6]] [0,2,3,4,6,7] [[],[],[0,1],[0,1,2],[],[],[4,5],[4,5,6],[0,1,2,3,4,5,6,7]] (by kernel_rfl) (by kernel_rfl) (by kernel_rfl) (by rfl) (by rfl) (by kernel_rfl) ?_
      iterate 6 apply Exists.intro
      intro bs
      refine zep ?_
      refine zqp ?_
      refine z_e rfl rfl (x_elem htab rfl rfl rfl rfl rfl rfl rfl (idx_nonneg q33) (idx_map q33)) rfl rfl rfl rfl rfl rfl ?_
      refine z_eM rfl rfl (xm_loadEl (d := eTApiWord x33) htab rfl rfl rfl rfl rfl) rfl rfl rfl rfl rfl rfl ?_
      refine zep ?_
      refine zqp ?_
      refine z_e rfl rfl (x_elem htab rfl rfl rfl rfl rfl rfl rfl (idx_nonneg q34) (idx_map q34)) rfl rfl rfl rfl rfl rfl ?_
      refine z_eM rfl rfl (xm_loadEl (d := eTApiWord x34) htab rfl rfl rfl rfl rfl) rfl rfl rfl rfl rfl rfl ?_
      refine z_nil rfl rfl (fun e he => by simp [isAl] at he) ?_
      refine p_eqC eqn45 htab rfl rfl rfl rfl rfl eqs45 eqg45 rfl rfl rfl rfl ?_
      refine ops_nt ?_
      refine wpD_cond rfl (fun hc35 => ?_) (fun hc35 => ?_)
      ·replace hm := yes_t hc35 hm
       refine wpD_sr ?_
       refine pu ?_
       refine ops_nt ?_
       refine wpD_ret ?_
       refine block_ret ?_
       refine then_ret ?_
       have e21 := lp_done hm; subst e21; clear hm; have hm := hq21
       refine then_ret ?_
       refine block_ret ?_
       have e20 := yes_eq hm; subst e20; refine midX_inr ?_; clear hm; have hm := ho20; simp only [Sum.elim_inr] at hm
       refine then_ret ?_
       have er36 := yes_eq hm; subst er36
       refine rP (t' := [(4, .v (.bool false))]) [] [] 0 (wC wN) (lT lN) ?_
       exact ⟨rfl, rfl, rfl⟩
      ·replace hm := yes_f hc35 hm
       refine wpD_skip ?_
       refine block_normal ?_
       refine then_normal ?_
       refine wpD_region ?_
       iterate 3 refine pu ?_
       refine ops_nil ?_
       refine then_normal ⟨_, lp_next hm, ?_⟩
       exact WkX.of () (WkS.perm (WkS.cons rfl (Wk.refl _) (WkS.cons rfl (Wk.refl _) (WkS.cons rfl (Wk.refl _) (WkS.nil)))) Pf Pf)
     ·replace hm := yes_f hc32 hm
      refine wpD_exit ?_
      refine then_exit ?_
      have e21 := lp_done hm; subst e21; clear hm; have hm := hq21
      refine then_exit ?_
      refine block_hit ?_
      have e20 := yes_eq hm; subst e20
      refine midX_inl ?_
      exact WkX.of () (WkS.perm (WkS.nil) Pf Pf)
   ·intro y20 s20 hx20 hw20; subst hx20; clear hm; have hm := ho20; simp only [Sum.elim_inl] at hm; clear q20 ho20
    refine then_normal ?_
    refine wpD_wkX hw20 (fun z20 => ?_)
    refine wpD_sr ?_
    refine pu ?_
    refine ops_nt ?_
    refine wpD_ret ?_
    have er37 := yes_eq hm; subst er37
    refine rP (t' := [(4, .v (.bool true))]) [] [] 0 (wC wN) (lT lN) ?_
    exact ⟨rfl, rfl, rfl⟩
noncomputable def eval_Frame_All_r2 : Option (List TApiWord) :=
  some ([] : List TApiWord)
set_option maxRecDepth 100000 in
set_option maxHeartbeats 2000000 in
theorem eval_Frame_All_r2_ok  (r : List TApiWord) (h0 : eval_Frame_All_r2 = some r) : CallsD Try.prog 13 [.v (.pointer none)] [] [] (fun d h k => ∃ y0, d = .lst 4 (r.map eTApiWord) (.cur y0) ∧ h = [] ∧ k = [(4, y0)]) := by
  have hm := yes_of h0
  unfold eval_Frame_All_r2 at hm
  clear h0
  refine enterX htab Try.func13 rfl rfl rfl rfl rfl (fun C => ?_)
  refine wpD_sr ?_
  refine pu ?_
  refine ops_nt ?_
  refine wpD_seq ?_
  refine wpD_sr ?_
  refine pu ?_
  refine p_eqP htab rfl rfl rfl rfl rfl rfl rfl rfl rfl rfl ?_
  refine ops_nt ?_
  refine wpD_true rfl ?_
  refine wpD_sr ?_
  refine pu ?_
  refine ops_nt ?_
  refine wpD_ret ?_
  refine then_ret ?_
  have er1 := yes_eq hm; subst er1
  refine retX.tokN (i := 2) 4 rfl (fun w2 => ?_)
  refine rP (t' := [(2, .lst 4 (([] : List TApiWord).map eTApiWord) (.cur w2))]) [] [0] 0 (wC wN) (lT lN) ?_
  exact ⟨w2, rfl, rfl, rfl⟩
structure TSondagelaw20Put where
  gC : TApiCell
  gW : TApiWord
def eTSondagelaw20Put (x : TSondagelaw20Put) : D := .agg [.v (.string x.gC.gName), .v (.int .i64 x.gC.gAt), .v (.bool x.gW.gPtr), .v (.int .i64 x.gW.gN), .v (.string x.gW.gTo.gName), .v (.int .i64 x.gW.gTo.gAt)]
structure TSondagelaw20Call where
  gF : TApiFunc
  gL : List TApiWord
  gPuts : List TSondagelaw20Put
  gName : ByteArray
def eTSondagelaw20Call (x : TSondagelaw20Call) : D := .agg [.v (.string x.gF.gName), .lst 2 (x.gF.gParams.map eTApiVar) .no, .lst 2 (x.gF.gLocals.map eTApiVar) .no, .lst 7 (x.gF.gBody.map eTApiStmt) .no, .v (.int .i64 x.gF.gAt), .lst 4 (x.gL.map eTApiWord) .no, .lst 6 (x.gPuts.map eTSondagelaw20Put) .no, .v (.string x.gName)]
abbrev nlEv1_5 : List (List Nat) := [[],[],[],[1],[1,3],[1,3,4],[1,3,4,5],[],[],[7],[7,9],[7,9,10],[0,1,3,4,5,7,9,10,11],[],[],[],[14],[14,16],[14,16,17],[14,16,17,18],[],[],[20],[20,22],[20,22,23],[0,1,3,4,5,7,9,10,11,12,13,14,16,17,18,20,22,23,24],[0,1,3,4,5,7,9,10,11,12,13,14,16,17,18,20,22,23,24,25],[0,1,3,4,5,7,9,10,11,12,13,14,16,17,18,20,22,23,24,25],[0,1,3,4,5,7,9,10,11,12,13,14,16,17,18,20,22,23,24,25],[0,1,3,4,5,7,9,10,11,12,13,14,16,17,18,20,22,23,24,25],[0,1,3,4,5,7,9,10,11,12,13,14,16,17,18,20,22,23,24,25],[0,1,3,4,5,7,9,10,11,12,13,14,16,17,18,20,22,23,24,25],[0,1,3,4,5,7,9,10,11,12,13,14,16,17,18,20,22,23,24,25],[0,1,3,4,5,7,9,10,11,12,13,14,16,17,18,20,22,23,24,25],[0,1,3,4,5,7,9,10,11,12,13,14,16,17,18,20,22,23,24,25],[0,1,3,4,5,7,9,10,11,12,13,14,16,17,18,20,22,23,24,25],[0,1,3,4,5,7,9,10,11,12,13,14,16,17,18,20,22,23,24,25],[0,1,3,4,5,7,9,10,11,12,13,14,16,17,18,20,22,23,24,25],[0,1,3,4,5,7,9,10,11,12,13,14,16,17,18,20,22,23,24,25],[0,1,3,4,5,7,9,10,11,12,13,14,16,17,18,20,22,23,24,25]]
abbrev nlEv1_6 : List (List Nat) := [[],[],[],[1,2],[1,2,3],[1,2,3,4],[1,2,3,4,5],[],[],[7,8],[7,8,9],[7,8,9,10],[0,1,2,3,4,5,6,7,8,9,10,11],[],[],[],[14,15],[14,15,16],[14,15,16,17],[14,15,16,17,18],[],[],[20,21],[20,21,22],[20,21,22,23],[0,1,2,3,4,5,6,7,8,9,10,11,12,13,14,15,16,17,18,19,20,21,22,23,24],[0,1,2,3,4,5,6,7,8,9,10,11,12,13,14,15,16,17,18,19,20,21,22,23,24,25],[0,1,2,3,4,5,6,7,8,9,10,11,12,13,14,15,16,17,18,19,20,21,22,23,24,25,26],[0,1,2,3,4,5,6,7,8,9,10,11,12,13,14,15,16,17,18,19,20,21,22,23,24,25,26,27],[0,1,2,3,4,5,6,7,8,9,10,11,12,13,14,15,16,17,18,19,20,21,22,23,24,25,26,27],[0,1,2,3,4,5,6,7,8,9,10,11,12,13,14,15,16,17,18,19,20,21,22,23,24,25,26,27],[0,1,2,3,4,5,6,7,8,9,10,11,12,13,14,15,16,17,18,19,20,21,22,23,24,25,26,27,29,30],[0,1,2,3,4,5,6,7,8,9,10,11,12,13,14,15,16,17,18,19,20,21,22,23,24,25,26,27,29,30,31],[0,1,2,3,4,5,6,7,8,9,10,11,12,13,14,15,16,17,18,19,20,21,22,23,24,25,26,27,29,30,31,32],[0,1,2,3,4,5,6,7,8,9,10,11,12,13,14,15,16,17,18,19,20,21,22,23,24,25,26,27,29,30,31,32,33],[0,1,2,3,4,5,6,7,8,9,10,11,12,13,14,15,16,17,18,19,20,21,22,23,24,25,26,27],[0,1,2,3,4,5,6,7,8,9,10,11,12,13,14,15,16,17,18,19,20,21,22,23,24,25,26,27],[0,1,2,3,4,5,6,7,8,9,10,11,12,13,14,15,16,17,18,19,20,21,22,23,24,25,26,27,35,36],[0,1,2,3,4,5,6,7,8,9,10,11,12,13,14,15,16,17,18,19,20,21,22,23,24,25,26,27,35,36,37],[0,1,2,3,4,5,6,7,8,9,10,11,12,13,14,15,16,17,18,19,20,21,22,23,24,25,26,27,35,36,37,38],[0,1,2,3,4,5,6,7,8,9,10,11,12,13,14,15,16,17,18,19,20,21,22,23,24,25,26,27,28,29,30,31,32,33,34,35,36,37,38,39],[0,1,2,3,4,5,6,7,8,9,10,11,12,13,14,15,16,17,18,19,20,21,22,23,24,25,26,27,28,29,30,31,32,33,34,35,36,37,38,39,40]]
abbrev nlEv1_7 : List (List Nat) := [[],[],[],[1],[1,3],[1,3,4],[1,3,4,5],[],[],[7],[7,9],[7,9,10],[0,1,3,4,5,7,9,10,11],[],[],[],[14],[14,16],[14,16,17],[14,16,17,18],[],[],[20],[20,22],[20,22,23],[0,1,3,4,5,7,9,10,11,12,13,14,16,17,18,20,22,23,24],[0,1,3,4,5,7,9,10,11,12,13,14,16,17,18,20,22,23,24,25],[0,1,3,4,5,7,9,10,11,12,13,14,16,17,18,20,22,23,24,25],[0,1,3,4,5,7,9,10,11,12,13,14,16,17,18,20,22,23,24,25],[0,1,3,4,5,7,9,10,11,12,13,14,16,17,18,20,22,23,24,25],[0,1,3,4,5,7,9,10,11,12,13,14,16,17,18,20,22,23,24,25],[0,1,3,4,5,7,9,10,11,12,13,14,16,17,18,20,22,23,24,25,29],[0,1,3,4,5,7,9,10,11,12,13,14,16,17,18,20,22,23,24,25,29,31],[0,1,3,4,5,7,9,10,11,12,13,14,16,17,18,20,22,23,24,25,29,31,32],[0,1,3,4,5,7,9,10,11,12,13,14,16,17,18,20,22,23,24,25,29,31,32,33],[0,1,3,4,5,7,9,10,11,12,13,14,16,17,18,20,22,23,24,25],[0,1,3,4,5,7,9,10,11,12,13,14,16,17,18,20,22,23,24,25],[0,1,3,4,5,7,9,10,11,12,13,14,16,17,18,20,22,23,24,25,35],[0,1,3,4,5,7,9,10,11,12,13,14,16,17,18,20,22,23,24,25,35,37],[0,1,3,4,5,7,9,10,11,12,13,14,16,17,18,20,22,23,24,25,35,37,38]]
abbrev nlEv1_8 : List (List Nat) := [[],[],[1],[0,1,2],[0,1,2,3],[0,1,2,3,4],[0,1,2,3,4,5],[0,1,2,3,4,5,6],[0,1,2,3,4,5,6],[0,1,2,3,4,5,6,8],[0,1,2,3,4,5,6,8,9],[0,1,2,3,4,5,6,8,9,10],[0,1,2,3,4,5,6],[0,1,2,3,4,5,6,8,9,10,11,12],[0,1,2,3,4,5,6,8,9,10,11,12,13],[0,1,2,3,4,5,6,7,8,9,10,11,12,13,14],[0,1,2,3,4,5,6,7,8,9,10,11,12,13,14,15],[0,1,2,3,4,5,6,7,8,9,10,11,12,13,14,15,16],[0,1,2,3,4,5,6,7,8,9,10,11,12,13,14,15,16,17],[0,1,2,3,4,5,6,7,8,9,10,11,12,13,14,15,16,17,18],[0,1,2,3,4,5,6,7,8,9,10,11,12,13,14,15,16,17,18,19],[0,1,2,3,4,5,6,7,8,9,10,11,12,13,14,15,16,17,18,19,20],[0,1,2,3,4,5,6,7,8,9,10,11,12,13,14,15,16,17,18,19,20,21],[0,1,2,3,4,5,6,7,8,9,10,11,12,13,14,15,16,17,18,19,20,21],[0,1,2,3,4,5,6,7,8,9,10,11,12,13,14,15,16,17,18,19,20,21,22,23],[0,1,2,3,4,5,6,7,8,9,10,11,12,13,14,15,16,17,18,19,20,21,22,23,24],[0,1,2,3,4,5,6,7,8,9,10,11,12,13,14,15,16,17,18,19,20,21,22,23,24,25]]
abbrev nlEv1_9 : List (List Nat) := [[],[],[],[],[],[],[],[],[],[8],[8,9],[8,9,10],[],[8,9,10,11],[8,9,10,11,13],[7,8,9,10,11,13,14],[7,8,9,10,11,13,14],[7,8,9,10,11,13,14],[7,8,9,10,11,13,14],[7,8,9,10,11,13,14],[7,8,9,10,11,13,14],[7,8,9,10,11,13,14],[7,8,9,10,11,13,14],[7,8,9,10,11,13,14]]
abbrev nlEv1_10 : List (List Nat) := [[],[0],[],[2],[2,3],[2,3,4],[0,1,2,3,4,5],[0,1,2,3,4,5,6],[0,1,2,3,4,5,6,7],[0,1,2,3,4,5,6,7,8],[0,1,2,3,4,5,6,7,8,9],[0,1,2,3,4,5,6,7,8,9,10],[0,1,2,3,4,5,6,7,8,9,10,11],[0,1,2,3,4,5,6,7,8,9,10,11,12],[0,1,2,3,4,5,6,7,8,9,10,11,12,13],[0,1,2,3,4,5,6,7,8,9,10,11,12,13,14],[0,1,2,3,4,5,6,7,8,9,10,11,12,13,14,15],[0,1,2,3,4,5,6,7,8,9,10,11,12,13,14,15,16],[0,1,2,3,4,5,6,7,8,9,10,11,12,13,14,15,16,17],[0,1,2,3,4,5,6,7,8,9,10,11,12,13,14,15,16,17,18],[0,1,2,3,4,5,6,7,8,9,10,11,12,13,14,15,16,17,18,19]]
noncomputable def l20_EvalFrames (a0 : TSondagelaw20Call) : Option (Bool) :=
  (bif (decide ((50 : Int) < (a0.gPuts.length : Int))) then (l20_lives.bind fun x6 => some x6) else ((r17_Graph_r a0.gF).bind fun x10 => ((eval_New_r x10.1 a0.gL).bind fun x15 => ((r20_New_r x10.1 a0.gL).bind fun x27 => (Option.bind (α := (List TApiVar × List TApiWord × List TApiVar × List TApiWord) ⊕ (Bool)) (loopM (fun (s306 : Int × List TApiVar × List TApiWord × List TApiVar × List TApiWord) => (bif (decide (s306.1 < (a0.gPuts.length : Int))) then (Option.bind (α := Bool × List TApiVar × List TApiWord × List TApiVar × List TApiWord) ((idx a0.gPuts s306.1).bind fun x553 => ((idx a0.gPuts s306.1).bind fun x554 => ((eval_Frame_Set (⟨s306.2.2.2.1, s306.2.2.2.2⟩ : TEvalFrame) x553.gC.gName x554.gW).bind fun x556 => ((idx a0.gPuts s306.1).bind fun x557 => ((idx a0.gPuts s306.1).bind fun x558 => ((r20_Frame_Set (⟨s306.2.1, s306.2.2.1⟩ : TSondageref20Frame) x557.gC.gName x558.gW).bind fun x560 => (bif (!(x556.1 == x560.1)) then some (true, x560.2.gVars, x560.2.gWords, x556.2.gVars, x556.2.gWords) else ((idx a0.gPuts s306.1).bind fun x572 => ((idx a0.gPuts s306.1).bind fun x573 => ((eval_Frame_Set2 x572.gC.gName x573.gW).bind fun x580 => some (x580, x560.2.gVars, x560.2.gWords, x556.2.gVars, x556.2.gWords))))))))))) fun y552 => (bif y552.1 then some (.done (.inr false)) else some (.next ((IntKind.i64.wrap (s306.1 + (1 : Int))), y552.2.1, y552.2.2.1, y552.2.2.2.1, y552.2.2.2.2)))) else some (.done (.inl (s306.2.1, s306.2.2.1, s306.2.2.2.1, s306.2.2.2.2))))) ((0 : Int), x27.gVars, x27.gWords, x15.gVars, x15.gWords)) (Sum.elim (fun y305 => ((eval_Frame_Get_w (⟨y305.2.2.1, y305.2.2.2⟩ : TEvalFrame) a0.gName).bind fun x583 => ((r20_Frame_Find_w (⟨y305.1, y305.2.1⟩ : TSondageref20Frame) a0.gName).bind fun x585 => (Option.bind (α := Bool) (bif (!(x583.2 == (decide ((0 : Int) ≤ x585)))) then some true else (bif x583.2 then ((idx y305.2.1 x585).bind fun x595 => (bif (!(x583.1.gPtr == x595.gPtr && (x583.1.gN == x595.gN && ((decide (x583.1.gTo.gName = x595.gTo.gName) && (x583.1.gTo.gAt == x595.gTo.gAt && true)) && true)))) then some true else (bif (!x583.2) then some (!(x583.1.gPtr == false && (x583.1.gN == (0 : Int) && ((decide (x583.1.gTo.gName = ByteArray.empty) && (x583.1.gTo.gAt == (0 : Int) && true)) && true)))) else some false))) else (bif (!x583.2) then some (!(x583.1.gPtr == false && (x583.1.gN == (0 : Int) && ((decide (x583.1.gTo.gName = ByteArray.empty) && (x583.1.gTo.gAt == (0 : Int) && true)) && true)))) else some false))) fun y592 => (bif y592 then some false else ((eval_Frame_Get2 a0.gName).bind fun x602 => ((eval_Frame_All_w (⟨y305.2.2.1, y305.2.2.2⟩ : TEvalFrame)).bind fun x606 => ((l20_same x606.1 y305.2.1).bind fun x613 => (bif x613 then (bif (!x602.2) then (eval_Frame_All_r2.bind fun x617 => (bif ((x617.length : Int) == (0 : Int)) then (l20_lives.bind fun x619 => some x619) else some false)) else some false) else some false))))))))) (fun r => some r)))))))
set_option maxRecDepth 100000 in
set_option maxHeartbeats 2000000 in
theorem l20_EvalFrames_ok (a0 : TSondagelaw20Call) (r : Bool) (h0 : l20_EvalFrames a0 = some r) : CallsD Try.prog 3 [eTSondagelaw20Call a0] [] [] (fun d h k => d = .v (.bool r) ∧ h = [] ∧ k = []) := by
  have hm := yes_of h0
  unfold l20_EvalFrames at hm
  clear h0
  refine enterX htab Try.func3 rfl rfl rfl rfl rfl (fun C => ?_)
  refine wpD_sr ?_
  refine p_box rfl rfl rfl rfl rfl rfl rfl (fun b1 => ?_)
  refine pu ?_
  refine ops_nt ?_
  refine wpD_seq ?_
  refine wpD_fills 12 [(8, [.v (.string ByteArray.empty), .lst 1 [] .full, .lst 1 [] .full, .lst 1 [] .full, .v (.int .i64 (0 : Int))], 25)] [(8, 9, [.v (.string a0.gF.gName), .lst 2 (a0.gF.gParams.map eTApiVar) .no, .lst 2 (a0.gF.gLocals.map eTApiVar) .no, .lst 7 (a0.gF.gBody.map eTApiStmt) .no, .v (.int .i64 a0.gF.gAt)])] [[],[0],[],[2],[],[4],[],[6],[],[0,1,8],[0,1,2,3,8,9],[0,1,2,3,4,5,8,9,10]] [0,1,2,3,4,5,6,8,9,10,11] [[],[0],[],[2],[],[4],[],[6],[],[0,1,8],[0,1,2,3,8,9],[0,1,2,3,4,5,8,9,10],[0,1,2,3,4,5,6,7,8,9,10,11]] (by kernel_rfl) (by kernel_rfl) (by kernel_rfl) (by rfl) (by rfl) (by kernel_rfl) ?_
  iterate 7 apply Exists.intro
  refine ⟨.any, ?_⟩
  refine ⟨.any, ?_⟩
  apply Exists.intro
  apply Exists.intro
  intro bs
  refine zf_e rfl rfl (ex_pure htab rfl) rfl rfl rfl rfl rfl rfl rfl ?_
  refine zf_eM rfl rfl (xm_load (d := eTApiFunc a0.gF) 0 htab rfl rfl rfl rfl rfl) rfl rfl rfl rfl rfl rfl rfl ?_
  refine zf_e rfl rfl (ex_pure htab rfl) rfl rfl rfl rfl rfl rfl rfl ?_
  refine zf_eM rfl rfl (xm_load 0 htab rfl rfl rfl rfl rfl) rfl rfl rfl rfl rfl rfl rfl ?_
  refine zf_e rfl rfl (ex_pure htab rfl) rfl rfl rfl rfl rfl rfl rfl ?_
  refine zf_eM rfl rfl (xm_load 0 htab rfl rfl rfl rfl rfl) rfl rfl rfl rfl rfl rfl rfl ?_
  refine zf_e rfl rfl (ex_pure htab rfl) rfl rfl rfl rfl rfl rfl rfl ?_
  refine zf_qM rfl rfl (xm_load 0 htab rfl rfl rfl rfl rfl) rfl rfl rfl rfl rfl rfl ?_
  refine zf_alloc rfl htab rfl rfl rfl rfl rfl rfl rfl rfl rfl rfl (by simp [dOf, eI64]) (by simp) ?_
  refine zf_fill (e := 8) (zs := [.v (.string ByteArray.empty), .lst 1 [] .full, .lst 1 [] .full, .lst 1 [] .full, .v (.int .i64 (0 : Int))]) (T' := 25) (ds' := [.v (.string a0.gF.gName), .lst 2 (a0.gF.gParams.map eTApiVar) .no, .lst 2 (a0.gF.gLocals.map eTApiVar) .no, .lst 7 (a0.gF.gBody.map eTApiStmt) .no, .v (.int .i64 a0.gF.gAt)]) htab rfl rfl rfl rfl rfl rfl rfl rfl rfl (by simp) (by simp) rfl rfl rfl rfl rfl rfl rfl rfl rfl ?_
  refine zf_e rfl rfl (ex_pure htab rfl) rfl rfl rfl rfl rfl rfl rfl ?_
  refine zf_e rfl rfl (ex_pure htab rfl) rfl rfl rfl rfl rfl rfl rfl ?_
  refine zf_nil (h' := [(b1, Blk.cells [.v (.string a0.gF.gName), .lst 2 (a0.gF.gParams.map eTApiVar) .no, .lst 2 (a0.gF.gLocals.map eTApiVar) .no, .lst 7 (a0.gF.gBody.map eTApiStmt) .no, .v (.int .i64 a0.gF.gAt), .lst 4 (a0.gL.map eTApiWord) .no, .lst 6 (a0.gPuts.map eTSondagelaw20Put) .no, .v (.string a0.gName)] 29), (bs 8, Blk.cells [.v (.string a0.gF.gName), .lst 2 (a0.gF.gParams.map eTApiVar) .no, .lst 2 (a0.gF.gLocals.map eTApiVar) .no, .lst 7 (a0.gF.gBody.map eTApiStmt) .no, .v (.int .i64 a0.gF.gAt)] 25)]) rfl rfl rfl (fun e he => by simp [isAl] at he; subst he; rfl) ?_
  obtain ⟨b2, hb2⟩ : ∃ b, bs 8 = b := ⟨_, rfl⟩
  simp only [hb2]
  clear hb2
  refine pu ?_
  refine ops_nt ?_
  refine wpD_seq ?_
  refine wpD_sr ?_
  refine pu ?_
  refine p_lenL htab rfl rfl rfl rfl rfl rfl rfl (by first | exact map_len | rfl) ?_
  refine pu ?_
  refine ops_nt ?_
  refine wpD_cond rfl (fun hc5 => ?_) (fun hc5 => ?_)
  ·replace hm := yes_t hc5 hm
   refine wpD_sr ?_
   obtain ⟨x6, q6, hm⟩ := yes_bind hm
   refine p_call0 (l20_lives_ok x6 q6) rfl rfl rfl rfl rfl Wl ?_
   rintro _ rfl
   refine pu ?_
   refine ops_nt ?_
   refine wpD_ret ?_
   refine then_ret ?_
   have er7 := yes_eq hm; subst er7
   refine rP (t' := [(2, .v (.bool x6))]) [] [] 0 (wC wN) (lT lN) ?_
   exact ⟨rfl, rfl, rfl⟩
  ·replace hm := yes_f hc5 hm
   refine wpD_skip ?_
   refine then_normal ?_
   refine wpD_sr ?_
   refine p_load (d := eTApiFunc a0.gF) 1 htab rfl rfl rfl rfl rfl rfl rfl rfl ?_
   obtain ⟨x10, q10, hm⟩ := yes_bind hm
   refine pG (r17_Graph_r_ok a0.gF x10 q10) Wl Pf Pf ?_
   rintro _ _ _ ⟨w8, w9, rfl, rfl, rfl⟩
   iterate 3 refine pu ?_
   refine p_alloc htab rfl rfl rfl rfl rfl rfl rfl (fun b11 => ?_)
   refine pS4 (ds' := [.v (.string x10.1.gFunc), .v (.int .i64 x10.1.gNodes), .v (SL w8), .v (SL w9), .v (.int .i64 x10.1.gMany)]) ?_
   refine pu ?_
   refine ops_nt ?_
   refine wpD_seq ?_
   refine w_norm (WkS.frz 0 rfl rfl) ?_
   refine w_norm (WkS.tldC (off := 2) 4 0 rfl rfl rfl rfl) ?_
   refine w_norm (WkS.drop 0 rfl) ?_
   refine w_norm (WkS.frz 0 rfl rfl) ?_
   refine w_norm (WkS.tldC (off := 3) 3 0 rfl rfl rfl rfl) ?_
   refine w_norm (WkS.drop 0 rfl) ?_
   obtain ⟨x15, q15, hm⟩ := yes_bind hm
   refine wpD_drawsG 5 [] [2] [2] (fun e v hb kb => match e with | 2 => ∃ y0 y1 y2, v = Value.pointer (some ⟨y0, 0, none⟩) ∧ hb = [(y0, Blk.cells [.v (SL y1), .v (SL y2)] 81), (0, Blk.row 2 (x15.gVars.map eTApiVar) (SL y1)), (0, Blk.row 4 (x15.gWords.map eTApiWord) (SL y2))] ∧ kb = [] | _ => False) (fun _ => []) (fun _ => []) [(b1, Blk.cells [.v (.string a0.gF.gName), .lst 2 (a0.gF.gParams.map eTApiVar) .no, .lst 2 (a0.gF.gLocals.map eTApiVar) .no, .lst 7 (a0.gF.gBody.map eTApiStmt) .no, .v (.int .i64 a0.gF.gAt), .lst 4 (a0.gL.map eTApiWord) .no, .lst 6 (a0.gPuts.map eTSondagelaw20Put) .no, .v (.string a0.gName)] 29), (b2, Blk.cells [.v (.string a0.gF.gName), .lst 2 (a0.gF.gParams.map eTApiVar) .no, .lst 2 (a0.gF.gLocals.map eTApiVar) .no, .lst 7 (a0.gF.gBody.map eTApiStmt) .no, .v (.int .i64 a0.gF.gAt)] 25), (b11, Blk.cells [.v (.string x10.1.gFunc), .v (.int .i64 x10.1.gNodes), .lst 6 (x10.1.gEdges.map eTApiEdge) (.cur (SL w8)), .lst 2 (x10.1.gVars.map eTApiVar) (.cur (SL w9)), .v (.int .i64 x10.1.gMany)] 33)] [(2, (SL w9)), (6, (SL w8))] Pf Pf [[],[],[0,1],[],[]] [0,1,2,3,4] [[],[],[0,1],[],[],[0,1,2,3,4],[0,1,2,3,4,5],[0,1,2,3,4,5,6]] (by kernel_rfl) (by kernel_rfl) (by kernel_rfl) (by rfl) (by rfl) (by kernel_rfl) ?_
   apply Exists.intro
   apply Exists.intro
   refine ⟨.any, ?_⟩
   apply Exists.intro
   apply Exists.intro
   intro bs
   refine zg_eM rfl rfl (xm_load (d := .agg [.v (.string x10.1.gFunc), .v (.int .i64 x10.1.gNodes), .lst 6 (x10.1.gEdges.map eTApiEdge) (.cur (SL w8)), .lst 2 (x10.1.gVars.map eTApiVar) (.cur (SL w9)), .v (.int .i64 x10.1.gMany)]) 2 htab rfl rfl rfl rfl rfl) rfl rfl rfl rfl rfl rfl rfl ?_
   refine zg_e rfl rfl (ex_pure htab rfl) rfl rfl rfl rfl rfl rfl rfl ?_
   refine zg_callV rfl rfl (eval_New_r_ok x10.1 a0.gL x15 q15) rfl rfl rfl rfl (WkL.cons (Wk.agg (rC (rC (rO (rO (rC WkR.nil)))))) (WkL.cons (Wk.refl _) Wl)) rfl rfl rfl rfl rfl rfl (by decide) rfl (fun H d hb kb v ⟨y0, y1, y2, e1, e2, e3⟩ hr => ⟨(show ∃ y0 y1 y2, v = Value.pointer (some ⟨y0, 0, none⟩) ∧ hb = [(y0, Blk.cells [.v (SL y1), .v (SL y2)] 81), (0, Blk.row 2 (x15.gVars.map eTApiVar) (SL y1)), (0, Blk.row 4 (x15.gWords.map eTApiWord) (SL y2))] ∧ kb = [] from ⟨y0, y1, y2, by subst e1; exact rep_ptr_inv hr, e2, e3⟩), by subst e1; rw [rep_ptr_inv hr]; rfl⟩) ?_
   refine zg_eM rfl rfl (xm_load (d := .agg [.v (.string x10.1.gFunc), .v (.int .i64 x10.1.gNodes), .lst 6 (x10.1.gEdges.map eTApiEdge) (.cur (SL w8)), .lst 2 (x10.1.gVars.map eTApiVar) (.cur (SL w9)), .v (.int .i64 x10.1.gMany)]) 2 htab rfl rfl rfl rfl rfl) rfl rfl rfl rfl rfl rfl rfl ?_
   refine zg_e rfl rfl (ex_pure htab rfl) rfl rfl rfl rfl rfl rfl rfl ?_
   refine zg_nil (fun e he => by simp [isG] at he; subst he; rfl) (fun e he => by simp [isAl] at he) (fun gs ks hz => ?_)
   obtain ⟨w22, w23, w24, hv2, hb2, hk2⟩ : ∃ y0 y1 y2, bs 2 = Value.pointer (some ⟨y0, 0, none⟩) ∧ gs 2 = [(y0, Blk.cells [.v (SL y1), .v (SL y2)] 81), (0, Blk.row 2 (x15.gVars.map eTApiVar) (SL y1)), (0, Blk.row 4 (x15.gWords.map eTApiWord) (SL y2))] ∧ ks 2 = [] := hz 2 rfl
   simp only [List.map_cons, List.map_nil, List.flatMap_cons, List.flatMap_nil, List.nil_append, List.append_nil, List.cons_append, hv2, hb2, hk2]
   clear hz hv2 hb2 hk2
   refine p_eq (i := 37) rfl wk_ptr ?_
   obtain ⟨x27, q27, hm⟩ := yes_bind hm
   refine p_callG (r20_New_r_ok x10.1 a0.gL x27 q27) rfl rfl rfl rfl rfl (WkL.cons (Wk.agg (rC (rC (rO (rO (rC WkR.nil)))))) (WkL.cons (Wk.refl _) Wl)) Pf Pf ?_
   rintro _ _ _ ⟨w25, w26, rfl, rfl, rfl⟩
   refine pu ?_
   refine pu ?_
   refine ops_n2 ?_
   refine pu ?_
   refine ops_nt ?_
   refine wpD_seq ?_
   refine wpD_sr ?_
   refine pu ?_
   refine ops_nt ?_
   obtain ⟨x305, q305, ho305⟩ := yes_bind hm
   refine wpD_midX (τ := List TApiVar × List TApiWord × List TApiVar × List TApiWord) (Y := Z3 × Value × Z3) (fun y305 z305 => (⟨[(6, .v (.string a0.gName)), (9, .ptr w22 0), (10, .ptr w25 0), (11, .v (.pointer none))], [(0, Blk.row 4 (y305.2.1.map eTApiWord) (SL z305.1)), (0, Blk.row 4 (y305.2.2.2.map eTApiWord) (SL z305.2.2)), (w25, Blk.cells [.lst 2 (y305.1.map eTApiVar) .no, .v (SL z305.1)] 52), (w22, Blk.cells [.lst 2 (y305.2.2.1.map eTApiVar) (.cur z305.2.1), .v (SL z305.2.2)] 81)], [(2, z305.2.1)]⟩ : S)) x305 ?_ ?_
   ·clear hm; have hm := yes_of q305
    refine wpD_block ?_
    obtain ⟨u306, hl306, hq306⟩ := yes_m hm
    refine loop_M (Y := Z3 × Value × Z3) hl306 (fun s306 z306 => (⟨[(5, .lst 6 (a0.gPuts.map eTSondagelaw20Put) .no), (6, .v (.string a0.gName)), (9, .ptr w22 0), (10, .ptr w25 0), (11, .v (.pointer none)), (12, .v (.int .i64 s306.1))], [(0, Blk.row 4 (s306.2.2.1.map eTApiWord) (SL z306.1)), (0, Blk.row 4 (s306.2.2.2.2.map eTApiWord) (SL z306.2.2)), (w25, Blk.cells [.lst 2 (s306.2.1.map eTApiVar) .no, .v (SL z306.1)] 52), (w22, Blk.cells [.lst 2 (s306.2.2.2.1.map eTApiVar) (.cur z306.2.1), .v (SL z306.2.2)] 81)], [(2, z306.2.1)]⟩ : S)) ?_ ?_
    ·skip
     refine WkX.wk (WkS.frz 6 rfl rfl) ?_
     refine WkX.wk (WkS.tldC (off := 0) 5 6 rfl rfl rfl rfl) ?_
     refine WkX.wk (WkS.drop 6 rfl) ?_
     exact WkX.of (w26, (SL w23), w24) (WkS.perm (WkS.cons rfl (Wk.refl _) (WkS.cons rfl (Wk.refl _) (WkS.cons rfl (Wk.refl _) (WkS.cons rfl (Wk.refl _) (WkS.cons rfl (Wk.refl _) (WkS.cons rfl (Wk.refl _) (WkS.nil))))))) ((perm_at (j := 1) rfl).trans (List.Perm.cons _ ((perm_at (j := 5) rfl).trans (List.Perm.cons _ ((perm_at (j := 0) rfl).trans (List.Perm.cons _ ((perm_at (j := 3) rfl).trans (List.Perm.cons _ Pf)))))))) Pf)
    ·intro G306 s306 z306 hm
     refine wpD_seq ?_
     refine wpD_sr ?_
     refine pu ?_
     refine pu ?_
     refine p_lenL htab rfl rfl rfl rfl rfl rfl rfl (by first | exact map_len | rfl) ?_
     refine pu ?_
     refine ops_nt ?_
     refine wpD_cond rfl (fun hc523 => ?_) (fun hc523 => ?_)
     ·replace hm := yes_t hc523 hm
      refine wpD_skip ?_
      refine then_normal ?_
      refine wpD_seq ?_
      refine wpD_block ?_
      refine wpD_seq ?_
      obtain ⟨y552, q552, ho552⟩ := yes_bind hm
      refine wpD_mid (Y := Z3 × Value × Z3) (fun z552 => (⟨[(5, .lst 6 (a0.gPuts.map eTSondagelaw20Put) .no), (6, .v (.string a0.gName)), (9, .ptr w22 0), (10, .ptr w25 0), (11, .v (.pointer none)), (12, .v (.int .i64 s306.1)), (88, .v (.bool y552.1))], [(0, Blk.row 4 (y552.2.2.1.map eTApiWord) (SL z552.1)), (0, Blk.row 4 (y552.2.2.2.2.map eTApiWord) (SL z552.2.2)), (w25, Blk.cells [.lst 2 (y552.2.1.map eTApiVar) .no, .v (SL z552.1)] 52), (w22, Blk.cells [.lst 2 (y552.2.2.2.1.map eTApiVar) (.cur z552.2.1), .v (SL z552.2.2)] 81)], [(2, z552.2.1)]⟩ : S)) ?_ ?_
      ·clear hm; have hm := yes_of q552
       obtain ⟨x553, q553, hm⟩ := yes_bind hm
       obtain ⟨x554, q554, hm⟩ := yes_bind hm
       obtain ⟨x556, q556, hm⟩ := yes_bind hm
       obtain ⟨x557, q557, hm⟩ := yes_bind hm
       obtain ⟨x558, q558, hm⟩ := yes_bind hm
       obtain ⟨x560, q560, hm⟩ := yes_bind hm
       refine bycB (!(x556.1 == x560.1)) (fun hs561 => ?_) (fun hs561 => ?_)
       ·replace hm := yes_t hs561 hm
        refine wpD_drawsG 40 [] [12,25] [] (fun e v hb kb => match e with | 12 => ∃ y0, hb = [(w22, Blk.cells [.lst 2 (x556.2.gVars.map eTApiVar) (.cur z306.2.1), .v (SL y0)] 81), (0, Blk.row 4 (x556.2.gWords.map eTApiWord) (SL y0))] ∧ kb = [] | 25 => ∃ y0, hb = [(w25, Blk.cells [.lst 2 (x560.2.gVars.map eTApiVar) .no, .v (SL y0)] 52), (0, Blk.row 4 (x560.2.gWords.map eTApiWord) (SL y0))] ∧ kb = [] | _ => False) (fun e => match e with | 12 => [(w22, Blk.cells [.lst 2 (s306.2.2.2.1.map eTApiVar) (.cur z306.2.1), .v (SL z306.2.2)] 81), (0, Blk.row 4 (s306.2.2.2.2.map eTApiWord) (SL z306.2.2))] | 25 => [(w25, Blk.cells [.lst 2 (s306.2.1.map eTApiVar) .no, .v (SL z306.1)] 52), (0, Blk.row 4 (s306.2.2.1.map eTApiWord) (SL z306.1))] | _ => []) (fun e => match e with | 12 => [] | 25 => [] | _ => []) [] [(2, z306.2.1)] ((perm_at (j := 3) rfl).trans (List.Perm.cons _ ((perm_at (j := 1) rfl).trans (List.Perm.cons _ ((perm_at (j := 1) rfl).trans (List.Perm.cons _ ((perm_at (j := 0) rfl).trans (List.Perm.cons _ Pf)))))))) Pf nlEv1_5 [0,1,3,4,5,7,9,10,11,12,13,14,16,17,18,20,22,23,24,25] nlEv1_6 (by kernel_rfl) (by kernel_rfl) (by kernel_rfl) (by rfl) (by rfl) (by kernel_rfl) ?_
        iterate 20 apply Exists.intro
        intro bs
        refine zg_e rfl rfl (ex_pure htab rfl) rfl rfl rfl rfl rfl rfl rfl ?_
        refine zg_e rfl rfl (ex_pure htab rfl) rfl rfl rfl rfl rfl rfl rfl ?_
        refine zg_q rfl rfl (ex_pure htab rfl) rfl rfl rfl rfl rfl rfl ?_
        refine zg_e rfl rfl (x_elem htab rfl rfl rfl rfl rfl rfl rfl (idx_nonneg q553) (idx_map q553)) rfl rfl rfl rfl rfl rfl rfl ?_
        refine zg_e rfl rfl (ex_pure htab rfl) rfl rfl rfl rfl rfl rfl rfl ?_
        refine zg_e rfl rfl (ex_pure htab rfl) rfl rfl rfl rfl rfl rfl rfl ?_
        refine zg_qM rfl rfl (xm_loadEl htab rfl rfl rfl rfl rfl) rfl rfl rfl rfl rfl rfl ?_
        refine zg_e rfl rfl (ex_pure htab rfl) rfl rfl rfl rfl rfl rfl rfl ?_
        refine zg_q rfl rfl (ex_pure htab rfl) rfl rfl rfl rfl rfl rfl ?_
        refine zg_e rfl rfl (x_elem htab rfl rfl rfl rfl rfl rfl rfl (idx_nonneg q554) (idx_map q554)) rfl rfl rfl rfl rfl rfl rfl ?_
        refine zg_e rfl rfl (ex_pure htab rfl) rfl rfl rfl rfl rfl rfl rfl ?_
        refine zg_eM rfl rfl (xm_loadEl (d := eTApiWord x554.gW) htab rfl rfl rfl rfl rfl) rfl rfl rfl rfl rfl rfl rfl ?_
        refine zg_callT (d := .v (.bool x556.1)) rfl rfl (eval_Frame_Set_ok (⟨s306.2.2.2.1, s306.2.2.2.2⟩ : TEvalFrame) x553.gC.gName x554.gW w22 81 (.cur z306.2.1) z306.2.2 x556 q556) rfl rfl rfl rfl Wl rfl rfl rfl rfl rfl rfl (by decide) rfl rfl (fun d hb kb v ⟨y0, e1, e2, e3⟩ => ⟨by subst e1; exact Wk.refl _, (show ∃ y0, hb = [(w22, Blk.cells [.lst 2 (x556.2.gVars.map eTApiVar) (.cur z306.2.1), .v (SL y0)] 81), (0, Blk.row 4 (x556.2.gWords.map eTApiWord) (SL y0))] ∧ kb = [] from ⟨y0, e2, e3⟩)⟩) ?_
        refine zg_e rfl rfl (ex_pure htab rfl) rfl rfl rfl rfl rfl rfl rfl ?_
        refine zg_e rfl rfl (ex_pure htab rfl) rfl rfl rfl rfl rfl rfl rfl ?_
        refine zg_q rfl rfl (ex_pure htab rfl) rfl rfl rfl rfl rfl rfl ?_
        refine zg_e rfl rfl (x_elem htab rfl rfl rfl rfl rfl rfl rfl (idx_nonneg q557) (idx_map q557)) rfl rfl rfl rfl rfl rfl rfl ?_
        refine zg_e rfl rfl (ex_pure htab rfl) rfl rfl rfl rfl rfl rfl rfl ?_
        refine zg_e rfl rfl (ex_pure htab rfl) rfl rfl rfl rfl rfl rfl rfl ?_
        refine zg_qM rfl rfl (xm_loadEl htab rfl rfl rfl rfl rfl) rfl rfl rfl rfl rfl rfl ?_
        refine zg_e rfl rfl (ex_pure htab rfl) rfl rfl rfl rfl rfl rfl rfl ?_
        refine zg_q rfl rfl (ex_pure htab rfl) rfl rfl rfl rfl rfl rfl ?_
        refine zg_e rfl rfl (x_elem htab rfl rfl rfl rfl rfl rfl rfl (idx_nonneg q558) (idx_map q558)) rfl rfl rfl rfl rfl rfl rfl ?_
        refine zg_e rfl rfl (ex_pure htab rfl) rfl rfl rfl rfl rfl rfl rfl ?_
        refine zg_eM rfl rfl (xm_loadEl (d := eTApiWord x558.gW) htab rfl rfl rfl rfl rfl) rfl rfl rfl rfl rfl rfl rfl ?_
        refine zg_callT (d := .v (.bool x560.1)) rfl rfl (r20_Frame_Set_ok (⟨s306.2.1, s306.2.2.1⟩ : TSondageref20Frame) x557.gC.gName x558.gW w25 52 .no z306.1 x560 q560) rfl rfl rfl rfl Wl rfl rfl rfl rfl rfl rfl (by decide) rfl rfl (fun d hb kb v ⟨y0, e1, e2, e3⟩ => ⟨by subst e1; exact Wk.refl _, (show ∃ y0, hb = [(w25, Blk.cells [.lst 2 (x560.2.gVars.map eTApiVar) .no, .v (SL y0)] 52), (0, Blk.row 4 (x560.2.gWords.map eTApiWord) (SL y0))] ∧ kb = [] from ⟨y0, e2, e3⟩)⟩) ?_
        refine zg_q rfl rfl (ex_pure htab rfl) rfl rfl rfl rfl rfl rfl ?_
        refine zg_q rfl rfl (ex_pure htab rfl) rfl rfl rfl rfl rfl rfl ?_
        refine zg_known (j := 74) (b' := true) rfl hs561 ?_
        iterate 12 refine zg_skip rfl rfl rfl rfl ?_
        refine zg_nil (fun e he => by simp [isG] at he; rcases he with rfl | rfl <;> rfl) (fun e he => by simp [isAl] at he) (fun gs ks hz => ?_)
        obtain ⟨w568, hb12, hk12⟩ : ∃ y0, gs 12 = [(w22, Blk.cells [.lst 2 (x556.2.gVars.map eTApiVar) (.cur z306.2.1), .v (SL y0)] 81), (0, Blk.row 4 (x556.2.gWords.map eTApiWord) (SL y0))] ∧ ks 12 = [] := hz 12 rfl
        obtain ⟨w569, hb25, hk25⟩ : ∃ y0, gs 25 = [(w25, Blk.cells [.lst 2 (x560.2.gVars.map eTApiVar) .no, .v (SL y0)] 52), (0, Blk.row 4 (x560.2.gWords.map eTApiWord) (SL y0))] ∧ ks 25 = [] := hz 25 rfl
        simp only [List.map_cons, List.map_nil, List.flatMap_cons, List.flatMap_nil, List.nil_append, List.append_nil, List.cons_append, hb12, hk12, hb25, hk25]
        clear hz hb12 hk12 hb25 hk25
        refine pK ?_
        refine p_pickT rfl rfl rfl rfl rfl rfl ?_
        refine ops_nil ?_
        have e552 := yes_eq hm; subst e552
        refine ⟨rfl, ?_⟩
        exact WkX.of (w569, z306.2.1, w568) (WkS.perm (WkS.cons rfl (Wk.refl _) (WkS.cons rfl (Wk.refl _) (WkS.cons rfl (Wk.refl _) (WkS.cons rfl (Wk.refl _) (WkS.cons rfl (Wk.refl _) (WkS.cons rfl (Wk.refl _) (WkS.cons rfl (Wk.refl _) (WkS.nil)))))))) ((perm_at (j := 3) rfl).trans (List.Perm.cons _ ((perm_at (j := 1) rfl).trans (List.Perm.cons _ ((perm_at (j := 1) rfl).trans (List.Perm.cons _ ((perm_at (j := 0) rfl).trans (List.Perm.cons _ Pf)))))))) Pf)
       ·replace hm := yes_f hs561 hm
        obtain ⟨x572, q572, hm⟩ := yes_bind hm
        obtain ⟨x573, q573, hm⟩ := yes_bind hm
        refine wpD_drawsG 40 [] [12,25] [] (fun e v hb kb => match e with | 12 => ∃ y0, hb = [(w22, Blk.cells [.lst 2 (x556.2.gVars.map eTApiVar) (.cur z306.2.1), .v (SL y0)] 81), (0, Blk.row 4 (x556.2.gWords.map eTApiWord) (SL y0))] ∧ kb = [] | 25 => ∃ y0, hb = [(w25, Blk.cells [.lst 2 (x560.2.gVars.map eTApiVar) .no, .v (SL y0)] 52), (0, Blk.row 4 (x560.2.gWords.map eTApiWord) (SL y0))] ∧ kb = [] | _ => False) (fun e => match e with | 12 => [(w22, Blk.cells [.lst 2 (s306.2.2.2.1.map eTApiVar) (.cur z306.2.1), .v (SL z306.2.2)] 81), (0, Blk.row 4 (s306.2.2.2.2.map eTApiWord) (SL z306.2.2))] | 25 => [(w25, Blk.cells [.lst 2 (s306.2.1.map eTApiVar) .no, .v (SL z306.1)] 52), (0, Blk.row 4 (s306.2.2.1.map eTApiWord) (SL z306.1))] | _ => []) (fun e => match e with | 12 => [] | 25 => [] | _ => []) [] [(2, z306.2.1)] ((perm_at (j := 3) rfl).trans (List.Perm.cons _ ((perm_at (j := 1) rfl).trans (List.Perm.cons _ ((perm_at (j := 1) rfl).trans (List.Perm.cons _ ((perm_at (j := 0) rfl).trans (List.Perm.cons _ Pf)))))))) Pf nlEv1_7 [0,1,3,4,5,7,9,10,11,12,13,14,16,17,18,20,22,23,24,25,28,29,31,32,33,35,37,38,39] nlEv1_6 (by kernel_rfl) (by kernel_rfl) (by kernel_rfl) (by rfl) (by rfl) (by kernel_rfl) ?_
        iterate 29 apply Exists.intro
        intro bs
        refine zg_e rfl rfl (ex_pure htab rfl) rfl rfl rfl rfl rfl rfl rfl ?_
        refine zg_e rfl rfl (ex_pure htab rfl) rfl rfl rfl rfl rfl rfl rfl ?_
        refine zg_q rfl rfl (ex_pure htab rfl) rfl rfl rfl rfl rfl rfl ?_
        refine zg_e rfl rfl (x_elem htab rfl rfl rfl rfl rfl rfl rfl (idx_nonneg q553) (idx_map q553)) rfl rfl rfl rfl rfl rfl rfl ?_
        refine zg_e rfl rfl (ex_pure htab rfl) rfl rfl rfl rfl rfl rfl rfl ?_
        refine zg_e rfl rfl (ex_pure htab rfl) rfl rfl rfl rfl rfl rfl rfl ?_
        refine zg_qM rfl rfl (xm_loadEl htab rfl rfl rfl rfl rfl) rfl rfl rfl rfl rfl rfl ?_
        refine zg_e rfl rfl (ex_pure htab rfl) rfl rfl rfl rfl rfl rfl rfl ?_
        refine zg_q rfl rfl (ex_pure htab rfl) rfl rfl rfl rfl rfl rfl ?_
        refine zg_e rfl rfl (x_elem htab rfl rfl rfl rfl rfl rfl rfl (idx_nonneg q554) (idx_map q554)) rfl rfl rfl rfl rfl rfl rfl ?_
        refine zg_e rfl rfl (ex_pure htab rfl) rfl rfl rfl rfl rfl rfl rfl ?_
        refine zg_eM rfl rfl (xm_loadEl (d := eTApiWord x554.gW) htab rfl rfl rfl rfl rfl) rfl rfl rfl rfl rfl rfl rfl ?_
        refine zg_callT (d := .v (.bool x556.1)) rfl rfl (eval_Frame_Set_ok (⟨s306.2.2.2.1, s306.2.2.2.2⟩ : TEvalFrame) x553.gC.gName x554.gW w22 81 (.cur z306.2.1) z306.2.2 x556 q556) rfl rfl rfl rfl Wl rfl rfl rfl rfl rfl rfl (by decide) rfl rfl (fun d hb kb v ⟨y0, e1, e2, e3⟩ => ⟨by subst e1; exact Wk.refl _, (show ∃ y0, hb = [(w22, Blk.cells [.lst 2 (x556.2.gVars.map eTApiVar) (.cur z306.2.1), .v (SL y0)] 81), (0, Blk.row 4 (x556.2.gWords.map eTApiWord) (SL y0))] ∧ kb = [] from ⟨y0, e2, e3⟩)⟩) ?_
        refine zg_e rfl rfl (ex_pure htab rfl) rfl rfl rfl rfl rfl rfl rfl ?_
        refine zg_e rfl rfl (ex_pure htab rfl) rfl rfl rfl rfl rfl rfl rfl ?_
        refine zg_q rfl rfl (ex_pure htab rfl) rfl rfl rfl rfl rfl rfl ?_
        refine zg_e rfl rfl (x_elem htab rfl rfl rfl rfl rfl rfl rfl (idx_nonneg q557) (idx_map q557)) rfl rfl rfl rfl rfl rfl rfl ?_
        refine zg_e rfl rfl (ex_pure htab rfl) rfl rfl rfl rfl rfl rfl rfl ?_
        refine zg_e rfl rfl (ex_pure htab rfl) rfl rfl rfl rfl rfl rfl rfl ?_
        refine zg_qM rfl rfl (xm_loadEl htab rfl rfl rfl rfl rfl) rfl rfl rfl rfl rfl rfl ?_
        refine zg_e rfl rfl (ex_pure htab rfl) rfl rfl rfl rfl rfl rfl rfl ?_
        refine zg_q rfl rfl (ex_pure htab rfl) rfl rfl rfl rfl rfl rfl ?_
        refine zg_e rfl rfl (x_elem htab rfl rfl rfl rfl rfl rfl rfl (idx_nonneg q558) (idx_map q558)) rfl rfl rfl rfl rfl rfl rfl ?_
        refine zg_e rfl rfl (ex_pure htab rfl) rfl rfl rfl rfl rfl rfl rfl ?_
        refine zg_eM rfl rfl (xm_loadEl (d := eTApiWord x558.gW) htab rfl rfl rfl rfl rfl) rfl rfl rfl rfl rfl rfl rfl ?_
        refine zg_callT (d := .v (.bool x560.1)) rfl rfl (r20_Frame_Set_ok (⟨s306.2.1, s306.2.2.1⟩ : TSondageref20Frame) x557.gC.gName x558.gW w25 52 .no z306.1 x560 q560) rfl rfl rfl rfl Wl rfl rfl rfl rfl rfl rfl (by decide) rfl rfl (fun d hb kb v ⟨y0, e1, e2, e3⟩ => ⟨by subst e1; exact Wk.refl _, (show ∃ y0, hb = [(w25, Blk.cells [.lst 2 (x560.2.gVars.map eTApiVar) .no, .v (SL y0)] 52), (0, Blk.row 4 (x560.2.gWords.map eTApiWord) (SL y0))] ∧ kb = [] from ⟨y0, e2, e3⟩)⟩) ?_
        refine zg_q rfl rfl (ex_pure htab rfl) rfl rfl rfl rfl rfl rfl ?_
        refine zg_q rfl rfl (ex_pure htab rfl) rfl rfl rfl rfl rfl rfl ?_
        refine zg_known (j := 74) (b' := false) rfl hs561 ?_
        refine zg_e rfl rfl (ex_pure htab rfl) rfl rfl rfl rfl rfl rfl rfl ?_
        refine zg_e rfl rfl (ex_pure htab rfl) rfl rfl rfl rfl rfl rfl rfl ?_
        refine zg_q rfl rfl (ex_pure htab rfl) rfl rfl rfl rfl rfl rfl ?_
        refine zg_e rfl rfl (x_elem htab rfl rfl rfl rfl rfl rfl rfl (idx_nonneg q572) (idx_map q572)) rfl rfl rfl rfl rfl rfl rfl ?_
        refine zg_e rfl rfl (ex_pure htab rfl) rfl rfl rfl rfl rfl rfl rfl ?_
        refine zg_e rfl rfl (ex_pure htab rfl) rfl rfl rfl rfl rfl rfl rfl ?_
        refine zg_qM rfl rfl (xm_loadEl htab rfl rfl rfl rfl rfl) rfl rfl rfl rfl rfl rfl ?_
        refine zg_e rfl rfl (ex_pure htab rfl) rfl rfl rfl rfl rfl rfl rfl ?_
        refine zg_q rfl rfl (ex_pure htab rfl) rfl rfl rfl rfl rfl rfl ?_
        refine zg_e rfl rfl (x_elem htab rfl rfl rfl rfl rfl rfl rfl (idx_nonneg q573) (idx_map q573)) rfl rfl rfl rfl rfl rfl rfl ?_
        refine zg_e rfl rfl (ex_pure htab rfl) rfl rfl rfl rfl rfl rfl rfl ?_
        refine zg_eM rfl rfl (xm_loadEl (d := eTApiWord x573.gW) htab rfl rfl rfl rfl rfl) rfl rfl rfl rfl rfl rfl rfl ?_
        refine zg_nil (fun e he => by simp [isG] at he; rcases he with rfl | rfl <;> rfl) (fun e he => by simp [isAl] at he) (fun gs ks hz => ?_)
        obtain ⟨w578, hb12, hk12⟩ : ∃ y0, gs 12 = [(w22, Blk.cells [.lst 2 (x556.2.gVars.map eTApiVar) (.cur z306.2.1), .v (SL y0)] 81), (0, Blk.row 4 (x556.2.gWords.map eTApiWord) (SL y0))] ∧ ks 12 = [] := hz 12 rfl
        obtain ⟨w579, hb25, hk25⟩ : ∃ y0, gs 25 = [(w25, Blk.cells [.lst 2 (x560.2.gVars.map eTApiVar) .no, .v (SL y0)] 52), (0, Blk.row 4 (x560.2.gWords.map eTApiWord) (SL y0))] ∧ ks 25 = [] := hz 25 rfl
        simp only [List.map_cons, List.map_nil, List.flatMap_cons, List.flatMap_nil, List.nil_append, List.append_nil, List.cons_append, hb12, hk12, hb25, hk25]
        clear hz hb12 hk12 hb25 hk25
        obtain ⟨x580, q580, hm⟩ := yes_bind hm
        refine p_call0 (eval_Frame_Set2_ok x572.gC.gName x573.gW x580 q580) rfl rfl rfl rfl rfl Wl ?_
        rintro _ rfl
        refine p_pickF rfl rfl rfl rfl rfl rfl ?_
        refine ops_nil ?_
        have e552 := yes_eq hm; subst e552
        refine ⟨rfl, ?_⟩
        exact WkX.of (w579, z306.2.1, w578) (WkS.perm (WkS.cons rfl (Wk.refl _) (WkS.cons rfl (Wk.refl _) (WkS.cons rfl (Wk.refl _) (WkS.cons rfl (Wk.refl _) (WkS.cons rfl (Wk.refl _) (WkS.cons rfl (Wk.refl _) (WkS.cons rfl (Wk.refl _) (WkS.nil)))))))) ((perm_at (j := 3) rfl).trans (List.Perm.cons _ ((perm_at (j := 1) rfl).trans (List.Perm.cons _ ((perm_at (j := 1) rfl).trans (List.Perm.cons _ ((perm_at (j := 0) rfl).trans (List.Perm.cons _ Pf)))))))) Pf)
      ·intro s552 hw552; clear hm; have hm := ho552; clear q552 ho552
       refine then_normal ?_
       refine wpD_wkX hw552 (fun z552 => ?_)
       refine wpD_cond rfl (fun hc581 => ?_) (fun hc581 => ?_)
       ·replace hm := yes_t hc581 hm
        refine wpD_sr ?_
        refine pu ?_
        refine ops_nt ?_
        refine wpD_ret ?_
        refine block_ret ?_
        refine then_ret ?_
        have e306 := lp_done hm; subst e306; clear hm; have hm := hq306
        refine then_ret ?_
        refine block_ret ?_
        have e305 := yes_eq hm; subst e305; refine midX_inr ?_; clear hm; have hm := ho305; simp only [Sum.elim_inr] at hm
        refine then_ret ?_
        have er582 := yes_eq hm; subst er582
        refine rP (t' := [(2, .v (.bool false))]) [] [] 0 (wC wN) (lT lN) ?_
        exact ⟨rfl, rfl, rfl⟩
       ·replace hm := yes_f hc581 hm
        refine wpD_skip ?_
        refine block_normal ?_
        refine then_normal ?_
        refine wpD_region ?_
        iterate 3 refine pu ?_
        refine ops_nil ?_
        refine then_normal ⟨_, lp_next hm, ?_⟩
        exact WkX.of (z552.1, z552.2.1, z552.2.2) (WkS.perm (WkS.cons rfl (Wk.refl _) (WkS.cons rfl (Wk.refl _) (WkS.cons rfl (Wk.refl _) (WkS.cons rfl (Wk.refl _) (WkS.cons rfl (Wk.refl _) (WkS.cons rfl (Wk.refl _) (WkS.nil))))))) Pf Pf)
     ·replace hm := yes_f hc523 hm
      refine wpD_exit ?_
      refine then_exit ?_
      have e306 := lp_done hm; subst e306; clear hm; have hm := hq306
      refine then_exit ?_
      refine block_hit ?_
      have e305 := yes_eq hm; subst e305
      refine midX_inl ?_
      exact WkX.of (z306.1, z306.2.1, z306.2.2) (WkS.perm (WkS.cons rfl (Wk.refl _) (WkS.cons rfl (Wk.refl _) (WkS.cons rfl (Wk.refl _) (WkS.cons rfl (Wk.refl _) (WkS.nil))))) Pf Pf)
   ·intro y305 s305 hx305 hw305; subst hx305; clear hm; have hm := ho305; simp only [Sum.elim_inl] at hm; clear q305 ho305
    refine then_normal ?_
    refine wpD_wkX hw305 (fun z305 => ?_)
    refine wpD_sr ?_
    refine pu ?_
    refine pu ?_
    obtain ⟨x583, q583, hm⟩ := yes_bind hm
    refine pG (eval_Frame_Get_w_ok (⟨y305.2.2.1, y305.2.2.2⟩ : TEvalFrame) a0.gName w22 81 (.cur z305.2.1) z305.2.2 x583 q583) Wl ((perm_at (j := 3) rfl).trans (List.Perm.cons _ ((perm_at (j := 1) rfl).trans (List.Perm.cons _ Pf)))) Pf ?_
    rintro _ _ _ ⟨rfl, rfl, rfl⟩
    iterate 3 refine pu ?_
    refine p_alloc htab rfl rfl rfl rfl rfl rfl rfl (fun b584 => ?_)
    refine pS4 (ds' := [.v (.bool x583.1.gPtr), .v (.int .i64 x583.1.gN), .v (.string x583.1.gTo.gName), .v (.int .i64 x583.1.gTo.gAt)]) ?_
    refine pu ?_
    refine ops_n2 ?_
    refine pu ?_
    refine pu ?_
    obtain ⟨x585, q585, hm⟩ := yes_bind hm
    refine pG (r20_Frame_Find_w_ok (⟨y305.1, y305.2.1⟩ : TSondageref20Frame) a0.gName w25 52 .no z305.1 x585 q585) Wl ((perm_at (j := 3) rfl).trans (List.Perm.cons _ ((perm_at (j := 2) rfl).trans (List.Perm.cons _ Pf)))) Pf ?_
    rintro _ _ _ ⟨rfl, rfl, rfl⟩
    refine pu ?_
    refine ops_nt ?_
    refine wpD_seq ?_
    refine wpD_seq ?_
    obtain ⟨y592, q592, ho592⟩ := yes_bind hm
    refine wpD_mid (Y := Unit) (fun z592 => (⟨[(6, .v (.string a0.gName)), (9, .ptr w22 0), (10, .ptr w25 0), (11, .v (.pointer none)), (124, .v (.bool y592))], [(w25, Blk.cells [.lst 2 (y305.1.map eTApiVar) .no, .v (SL z305.1)] 52), (0, Blk.row 4 (y305.2.1.map eTApiWord) (SL z305.1)), (w22, Blk.cells [.lst 2 (y305.2.2.1.map eTApiVar) (.cur z305.2.1), .v (SL z305.2.2)] 81), (0, Blk.row 4 (y305.2.2.2.map eTApiWord) (SL z305.2.2))], [(2, z305.2.1)]⟩ : S)) ?_ ?_
    ·clear hm; have hm := yes_of q592
     refine bycB (!(x583.2 == (decide ((0 : Int) ≤ x585)))) (fun hs593 => ?_) (fun hs593 => ?_)
     ·replace hm := yes_t hs593 hm
      refine wpD_draws 24 [] [[],[],[],[],[],[],[],[],[],[],[],[],[],[],[],[],[],[],[],[],[],[],[],[]] [] nlEv1_8 (by kernel_rfl) (by kernel_rfl) (by kernel_rfl) (by rfl) (by rfl) (by kernel_rfl) ?_
      intro bs
      iterate 5 refine zqp ?_
      refine z_known (j := 102) (b' := true) rfl hs593 ?_
      iterate 12 refine zK ?_
      refine z_q rfl rfl (x_pickT rfl rfl rfl) rfl rfl rfl rfl rfl rfl ?_
      refine zqp ?_
      iterate 5 refine zK ?_
      refine z_nil rfl rfl (fun e he => by simp [isAl] at he) ?_
      refine pK ?_
      refine pK ?_
      refine p_pickT rfl rfl rfl rfl rfl rfl ?_
      refine ops_nil ?_
      have e592 := yes_eq hm; subst e592
      refine ⟨rfl, ?_⟩
      exact WkX.of () (WkS.perm (WkS.cons rfl (Wk.refl _) (WkS.cons rfl (Wk.refl _) (WkS.cons rfl (Wk.refl _) (WkS.cons rfl (Wk.refl _) (WkS.cons rfl (Wk.refl _) (WkS.nil)))))) Pf Pf)
     ·replace hm := yes_f hs593 hm
      refine bycB x583.2 (fun hs594 => ?_) (fun hs594 => ?_)
      ·replace hm := yes_t hs594 hm
       obtain ⟨x595, q595, hm⟩ := yes_bind hm
       refine bycB (!(x583.1.gPtr == x595.gPtr && (x583.1.gN == x595.gN && ((decide (x583.1.gTo.gName = x595.gTo.gName) && (x583.1.gTo.gAt == x595.gTo.gAt && true)) && true)))) (fun hs596 => ?_) (fun hs596 => ?_)
       ·replace hm := yes_t hs596 hm
        refine wpD_draws 24 [] nlEv1_9 [7,8,9,10,11,13,14] nlEv1_8 (by kernel_rfl) (by kernel_rfl) (by kernel_rfl) (by rfl) (by rfl) (by kernel_rfl) ?_
        iterate 7 apply Exists.intro
        intro bs
        iterate 5 refine zqp ?_
        refine z_known (j := 102) (b' := false) rfl hs593 ?_
        refine zqp ?_
        refine zqp ?_
        refine z_known (j := 104) (b' := true) rfl hs594 ?_
        refine z_eM rfl rfl (xm_load (d := eTApiWord x583.1) 4 htab rfl rfl rfl rfl rfl) rfl rfl rfl rfl rfl rfl ?_
        iterate 3 refine zep ?_
        refine z_eM rfl rfl (xm_load 0 htab rfl rfl rfl rfl rfl) rfl rfl rfl rfl rfl rfl ?_
        refine zqp ?_
        refine z_eM rfl rfl ((xm_elemR 1 htab rfl rfl rfl rfl rfl rfl rfl rfl (idx_nonneg q595) (idx_map q595))) rfl rfl rfl rfl rfl rfl ?_
        refine z_eM rfl rfl ((xm_loadR (d := eTApiWord x595) (d0 := eTApiWord x595) 1 htab rfl rfl rfl rfl (idx_map q595) rfl (by simp [dcells, eTApiWord]))) rfl rfl rfl rfl rfl rfl ?_
        refine z_q rfl rfl (x_eqC eqn45 htab rfl rfl eqs45 eqg45 rfl rfl rfl rfl) rfl rfl rfl rfl rfl rfl ?_
        refine z_q rfl rfl (x_pickT rfl rfl rfl) rfl rfl rfl rfl rfl rfl ?_
        refine z_q rfl rfl (x_pickF rfl rfl rfl) rfl rfl rfl rfl rfl rfl ?_
        refine zqp ?_
        refine z_known (j := 116) (b' := true) rfl hs596 ?_
        iterate 5 refine zK ?_
        refine z_nil rfl rfl (fun e he => by simp [isAl] at he) ?_
        refine pK ?_
        refine pK ?_
        refine p_pickT rfl rfl rfl rfl rfl rfl ?_
        refine ops_nil ?_
        have e592 := yes_eq hm; subst e592
        refine ⟨rfl, ?_⟩
        exact WkX.of () (WkS.perm (WkS.cons rfl (Wk.refl _) (WkS.cons rfl (Wk.refl _) (WkS.cons rfl (Wk.refl _) (WkS.cons rfl (Wk.refl _) (WkS.cons rfl (Wk.refl _) (WkS.nil)))))) Pf Pf)
       ·replace hm := yes_f hs596 hm
        refine bycB (!x583.2) (fun hs597 => ?_) (fun hs597 => ?_)
        ·replace hm := yes_t hs597 hm
         refine wpD_draws 24 [] nlEv1_9 [7,8,9,10,11,13,14,22,23] nlEv1_8 (by kernel_rfl) (by kernel_rfl) (by kernel_rfl) (by rfl) (by rfl) (by kernel_rfl) ?_
         iterate 9 apply Exists.intro
         intro bs
         iterate 5 refine zqp ?_
         refine z_known (j := 102) (b' := false) rfl hs593 ?_
         refine zqp ?_
         refine zqp ?_
         refine z_known (j := 104) (b' := true) rfl hs594 ?_
         refine z_eM rfl rfl (xm_load (d := eTApiWord x583.1) 4 htab rfl rfl rfl rfl rfl) rfl rfl rfl rfl rfl rfl ?_
         iterate 3 refine zep ?_
         refine z_eM rfl rfl (xm_load 0 htab rfl rfl rfl rfl rfl) rfl rfl rfl rfl rfl rfl ?_
         refine zqp ?_
         refine z_eM rfl rfl ((xm_elemR 1 htab rfl rfl rfl rfl rfl rfl rfl rfl (idx_nonneg q595) (idx_map q595))) rfl rfl rfl rfl rfl rfl ?_
         refine z_eM rfl rfl ((xm_loadR (d := eTApiWord x595) (d0 := eTApiWord x595) 1 htab rfl rfl rfl rfl (idx_map q595) rfl (by simp [dcells, eTApiWord]))) rfl rfl rfl rfl rfl rfl ?_
         refine z_q rfl rfl (x_eqC eqn45 htab rfl rfl eqs45 eqg45 rfl rfl rfl rfl) rfl rfl rfl rfl rfl rfl ?_
         refine z_q rfl rfl (x_pickT rfl rfl rfl) rfl rfl rfl rfl rfl rfl ?_
         refine z_q rfl rfl (x_pickF rfl rfl rfl) rfl rfl rfl rfl rfl rfl ?_
         refine zqp ?_
         refine z_known (j := 116) (b' := false) rfl hs596 ?_
         iterate 3 refine zqp ?_
         refine z_known (j := 119) (b' := true) rfl hs597 ?_
         refine z_eM rfl rfl (xm_load (d := eTApiWord x583.1) 4 htab rfl rfl rfl rfl rfl) rfl rfl rfl rfl rfl rfl ?_
         refine z_e rfl rfl (x_build (r := [.v (.bool false), .v (.int .i64 (0 : Int)), .v (.string ByteArray.empty), .v (.int .i64 (0 : Int))]) htab rfl rfl rfl rfl rfl rfl) rfl rfl rfl rfl rfl rfl ?_
         refine z_nil rfl rfl (fun e he => by simp [isAl] at he) ?_
         refine p_eqC eqn45 htab rfl rfl rfl rfl rfl eqs45 eqg45 rfl rfl rfl rfl ?_
         refine p_pickT rfl rfl rfl rfl rfl rfl ?_
         refine p_pickF rfl rfl rfl rfl rfl rfl ?_
         refine ops_nil ?_
         have e592 := yes_eq hm; subst e592
         refine ⟨rfl, ?_⟩
         exact WkX.of () (WkS.perm (WkS.cons rfl (Wk.refl _) (WkS.cons rfl (Wk.refl _) (WkS.cons rfl (Wk.refl _) (WkS.cons rfl (Wk.refl _) (WkS.cons rfl (Wk.refl _) (WkS.nil)))))) Pf Pf)
        ·replace hm := yes_f hs597 hm
         refine wpD_draws 24 [] nlEv1_9 [7,8,9,10,11,13,14] nlEv1_8 (by kernel_rfl) (by kernel_rfl) (by kernel_rfl) (by rfl) (by rfl) (by kernel_rfl) ?_
         iterate 7 apply Exists.intro
         intro bs
         iterate 5 refine zqp ?_
         refine z_known (j := 102) (b' := false) rfl hs593 ?_
         refine zqp ?_
         refine zqp ?_
         refine z_known (j := 104) (b' := true) rfl hs594 ?_
         refine z_eM rfl rfl (xm_load (d := eTApiWord x583.1) 4 htab rfl rfl rfl rfl rfl) rfl rfl rfl rfl rfl rfl ?_
         iterate 3 refine zep ?_
         refine z_eM rfl rfl (xm_load 0 htab rfl rfl rfl rfl rfl) rfl rfl rfl rfl rfl rfl ?_
         refine zqp ?_
         refine z_eM rfl rfl ((xm_elemR 1 htab rfl rfl rfl rfl rfl rfl rfl rfl (idx_nonneg q595) (idx_map q595))) rfl rfl rfl rfl rfl rfl ?_
         refine z_eM rfl rfl ((xm_loadR (d := eTApiWord x595) (d0 := eTApiWord x595) 1 htab rfl rfl rfl rfl (idx_map q595) rfl (by simp [dcells, eTApiWord]))) rfl rfl rfl rfl rfl rfl ?_
         refine z_q rfl rfl (x_eqC eqn45 htab rfl rfl eqs45 eqg45 rfl rfl rfl rfl) rfl rfl rfl rfl rfl rfl ?_
         refine z_q rfl rfl (x_pickT rfl rfl rfl) rfl rfl rfl rfl rfl rfl ?_
         refine z_q rfl rfl (x_pickF rfl rfl rfl) rfl rfl rfl rfl rfl rfl ?_
         refine zqp ?_
         refine z_known (j := 116) (b' := false) rfl hs596 ?_
         iterate 3 refine zqp ?_
         refine z_known (j := 119) (b' := false) rfl hs597 ?_
         refine zK ?_
         refine zK ?_
         refine z_nil rfl rfl (fun e he => by simp [isAl] at he) ?_
         refine pK ?_
         refine p_pickF rfl rfl rfl rfl rfl rfl ?_
         refine p_pickF rfl rfl rfl rfl rfl rfl ?_
         refine ops_nil ?_
         have e592 := yes_eq hm; subst e592
         refine ⟨rfl, ?_⟩
         exact WkX.of () (WkS.perm (WkS.cons rfl (Wk.refl _) (WkS.cons rfl (Wk.refl _) (WkS.cons rfl (Wk.refl _) (WkS.cons rfl (Wk.refl _) (WkS.cons rfl (Wk.refl _) (WkS.nil)))))) Pf Pf)
      ·replace hm := yes_f hs594 hm
       refine bycB (!x583.2) (fun hs598 => ?_) (fun hs598 => ?_)
       ·replace hm := yes_t hs598 hm
        refine wpD_draws 24 [] [[],[],[],[],[],[],[],[],[],[],[],[],[],[],[],[],[],[],[],[],[],[],[],[]] [22,23] nlEv1_8 (by kernel_rfl) (by kernel_rfl) (by kernel_rfl) (by rfl) (by rfl) (by kernel_rfl) ?_
        apply Exists.intro
        apply Exists.intro
        intro bs
        iterate 5 refine zqp ?_
        refine z_known (j := 102) (b' := false) rfl hs593 ?_
        refine zqp ?_
        refine zqp ?_
        refine z_known (j := 104) (b' := false) rfl hs594 ?_
        iterate 9 refine zK ?_
        refine z_q rfl rfl (x_pickF rfl rfl rfl) rfl rfl rfl rfl rfl rfl ?_
        refine z_q rfl rfl (x_pickF rfl rfl rfl) rfl rfl rfl rfl rfl rfl ?_
        iterate 4 refine zqp ?_
        refine z_known (j := 119) (b' := true) rfl hs598 ?_
        refine z_eM rfl rfl (xm_load (d := eTApiWord x583.1) 4 htab rfl rfl rfl rfl rfl) rfl rfl rfl rfl rfl rfl ?_
        refine z_e rfl rfl (x_build (r := [.v (.bool false), .v (.int .i64 (0 : Int)), .v (.string ByteArray.empty), .v (.int .i64 (0 : Int))]) htab rfl rfl rfl rfl rfl rfl) rfl rfl rfl rfl rfl rfl ?_
        refine z_nil rfl rfl (fun e he => by simp [isAl] at he) ?_
        refine p_eqC eqn45 htab rfl rfl rfl rfl rfl eqs45 eqg45 rfl rfl rfl rfl ?_
        refine p_pickT rfl rfl rfl rfl rfl rfl ?_
        refine p_pickF rfl rfl rfl rfl rfl rfl ?_
        refine ops_nil ?_
        have e592 := yes_eq hm; subst e592
        refine ⟨rfl, ?_⟩
        exact WkX.of () (WkS.perm (WkS.cons rfl (Wk.refl _) (WkS.cons rfl (Wk.refl _) (WkS.cons rfl (Wk.refl _) (WkS.cons rfl (Wk.refl _) (WkS.cons rfl (Wk.refl _) (WkS.nil)))))) Pf Pf)
       ·replace hm := yes_f hs598 hm
        refine wpD_draws 24 [] [[],[],[],[],[],[],[],[],[],[],[],[],[],[],[],[],[],[],[],[],[],[],[],[]] [] nlEv1_8 (by kernel_rfl) (by kernel_rfl) (by kernel_rfl) (by rfl) (by rfl) (by kernel_rfl) ?_
        intro bs
        iterate 5 refine zqp ?_
        refine z_known (j := 102) (b' := false) rfl hs593 ?_
        refine zqp ?_
        refine zqp ?_
        refine z_known (j := 104) (b' := false) rfl hs594 ?_
        iterate 9 refine zK ?_
        refine z_q rfl rfl (x_pickF rfl rfl rfl) rfl rfl rfl rfl rfl rfl ?_
        refine z_q rfl rfl (x_pickF rfl rfl rfl) rfl rfl rfl rfl rfl rfl ?_
        iterate 4 refine zqp ?_
        refine z_known (j := 119) (b' := false) rfl hs598 ?_
        refine zK ?_
        refine zK ?_
        refine z_nil rfl rfl (fun e he => by simp [isAl] at he) ?_
        refine pK ?_
        refine p_pickF rfl rfl rfl rfl rfl rfl ?_
        refine p_pickF rfl rfl rfl rfl rfl rfl ?_
        refine ops_nil ?_
        have e592 := yes_eq hm; subst e592
        refine ⟨rfl, ?_⟩
        exact WkX.of () (WkS.perm (WkS.cons rfl (Wk.refl _) (WkS.cons rfl (Wk.refl _) (WkS.cons rfl (Wk.refl _) (WkS.cons rfl (Wk.refl _) (WkS.cons rfl (Wk.refl _) (WkS.nil)))))) Pf Pf)
    ·intro s592 hw592; clear hm; have hm := ho592; clear q592 ho592
     refine then_normal ?_
     refine wpD_wkX hw592 (fun z592 => ?_)
     refine wpD_cond rfl (fun hc600 => ?_) (fun hc600 => ?_)
     ·replace hm := yes_t hc600 hm
      refine wpD_sr ?_
      refine pu ?_
      refine ops_nt ?_
      refine wpD_ret ?_
      refine then_ret ?_
      have er601 := yes_eq hm; subst er601
      refine rP (t' := [(2, .v (.bool false))]) [] [] 0 (wC wN) (lT lN) ?_
      exact ⟨rfl, rfl, rfl⟩
     ·replace hm := yes_f hc600 hm
      refine wpD_skip ?_
      refine then_normal ?_
      refine wpD_sr ?_
      refine pu ?_
      refine pu ?_
      obtain ⟨x602, q602, hm⟩ := yes_bind hm
      refine p_call0 (eval_Frame_Get2_ok a0.gName x602 q602) rfl rfl rfl rfl rfl Wl ?_
      rintro _ rfl
      iterate 3 refine pu ?_
      refine p_alloc htab rfl rfl rfl rfl rfl rfl rfl (fun b603 => ?_)
      refine pS4 (ds' := [.v (.bool x602.1.gPtr), .v (.int .i64 x602.1.gN), .v (.string x602.1.gTo.gName), .v (.int .i64 x602.1.gTo.gAt)]) ?_
      refine pu ?_
      refine ops_nt ?_
      refine wpD_seq ?_
      obtain ⟨x606, q606, hm⟩ := yes_bind hm
      refine wpD_drawsG 6 [] [1] [] (fun e v hb kb => match e with | 1 => ∃ y0 y1, hb = [(w22, Blk.cells [.lst 2 (x606.2.gVars.map eTApiVar) (.cur z305.2.1), .lst 4 (x606.2.gWords.map eTApiWord) (.cur y1)] 81)] ∧ kb = [(4, y0), (4, y1)] | _ => False) (fun e => match e with | 1 => [(w22, Blk.cells [.lst 2 (y305.2.2.1.map eTApiVar) (.cur z305.2.1), .v (SL z305.2.2)] 81), (0, Blk.row 4 (y305.2.2.2.map eTApiWord) (SL z305.2.2))] | _ => []) (fun e => match e with | 1 => [] | _ => []) [(w25, Blk.cells [.lst 2 (y305.1.map eTApiVar) .no, .v (SL z305.1)] 52), (0, Blk.row 4 (y305.2.1.map eTApiWord) (SL z305.1)), (b603, Blk.cells [.v (.bool x602.1.gPtr), .v (.int .i64 x602.1.gN), .v (.string x602.1.gTo.gName), .v (.int .i64 x602.1.gTo.gAt)] 45)] [(2, z305.2.1)] ((perm_at (j := 0) rfl).trans (List.Perm.cons _ ((perm_at (j := 0) rfl).trans (List.Perm.cons _ ((perm_at (j := 2) rfl).trans (List.Perm.cons _ ((perm_at (j := 0) rfl).trans (List.Perm.cons _ ((perm_at (j := 0) rfl).trans (List.Perm.cons _ Pf)))))))))) Pf [[],[0],[],[2],[2,3],[2,3,4]] [0,1,2,3,4,5] nlEv1_10 (by kernel_rfl) (by kernel_rfl) (by kernel_rfl) (by rfl) (by rfl) (by kernel_rfl) ?_
      iterate 6 apply Exists.intro
      intro bs
      refine zg_e rfl rfl (ex_pure htab rfl) rfl rfl rfl rfl rfl rfl rfl ?_
      refine zg_callT (d := .lst 4 (x606.1.map eTApiWord) .no) rfl rfl (eval_Frame_All_w_ok (⟨y305.2.2.1, y305.2.2.2⟩ : TEvalFrame) w22 81 (.cur z305.2.1) z305.2.2 x606 q606) rfl rfl rfl rfl Wl rfl rfl rfl rfl rfl rfl (by decide) rfl rfl (fun d hb kb v ⟨y0, y1, e1, e2, e3⟩ => ⟨by subst e1; exact Wk.no, (show ∃ y0 y1, hb = [(w22, Blk.cells [.lst 2 (x606.2.gVars.map eTApiVar) (.cur z305.2.1), .lst 4 (x606.2.gWords.map eTApiWord) (.cur y1)] 81)] ∧ kb = [(4, y0), (4, y1)] from ⟨y0, y1, e2, e3⟩)⟩) ?_
      iterate 3 refine zg_e rfl rfl (ex_pure htab rfl) rfl rfl rfl rfl rfl rfl rfl ?_
      refine zg_eM rfl rfl (xm_load 0 htab rfl rfl rfl rfl rfl) rfl rfl rfl rfl rfl rfl rfl ?_
      refine zg_nil (fun e he => by simp [isG] at he; subst he; rfl) (fun e he => by simp [isAl] at he) (fun gs ks hz => ?_)
      obtain ⟨w611, w612, hb1, hk1⟩ : ∃ y0 y1, gs 1 = [(w22, Blk.cells [.lst 2 (x606.2.gVars.map eTApiVar) (.cur z305.2.1), .lst 4 (x606.2.gWords.map eTApiWord) (.cur y1)] 81)] ∧ ks 1 = [(4, y0), (4, y1)] := hz 1 rfl
      simp only [List.map_cons, List.map_nil, List.flatMap_cons, List.flatMap_nil, List.nil_append, List.append_nil, List.cons_append, hb1, hk1]
      clear hz hb1 hk1
      refine o_norm (WkS.frz 1 rfl rfl) ?_
      refine o_norm (WkS.tld 136 1 rfl rfl) ?_
      refine o_norm (WkS.tldC (off := 1) 0 1 rfl rfl rfl rfl) ?_
      refine o_norm (WkS.drop 1 rfl) ?_
      obtain ⟨x613, q613, hm⟩ := yes_bind hm
      refine p_call0 (l20_same_ok x606.1 y305.2.1 x613 q613) rfl rfl rfl rfl rfl (WkL.cons (Wk.refl _) (WkL.cons (Wk.no) Wl)) ?_
      rintro _ rfl
      refine pu ?_
      refine p_split (i := 138) rfl (fun hg614 => ?_) (fun hg614 => ?_)
      ·replace hm := yes_t hg614 hm
       refine pu ?_
       refine pu ?_
       refine p_pickT rfl rfl rfl rfl rfl rfl ?_
       refine pu ?_
       refine p_split (i := 142) rfl (fun hg615 => ?_) (fun hg615 => ?_)
       ·replace hm := yes_t hg615 hm
        refine pu ?_
        obtain ⟨x617, q617, hm⟩ := yes_bind hm
        refine pG (eval_Frame_All_r2_ok x617 q617) Wl Pf Pf ?_
        rintro _ _ _ ⟨w616, rfl, rfl, rfl⟩
        refine p_lenL htab rfl rfl rfl rfl rfl rfl rfl (by first | exact map_len | rfl) ?_
        refine pu ?_
        refine p_pickT rfl rfl rfl rfl rfl rfl ?_
        refine pu ?_
        refine p_split (i := 148) rfl (fun hg618 => ?_) (fun hg618 => ?_)
        ·replace hm := yes_t hg618 hm
         obtain ⟨x619, q619, hm⟩ := yes_bind hm
         refine p_call0 (l20_lives_ok x619 q619) rfl rfl rfl rfl rfl Wl ?_
         rintro _ rfl
         refine p_pickT rfl rfl rfl rfl rfl rfl ?_
         refine pu ?_
         refine ops_nt ?_
         refine wpD_ret ?_
         have er620 := yes_eq hm; subst er620
         refine rP (t' := [(2, .v (.bool x619))]) [] [] 0 (wC wN) (lT lN) ?_
         exact ⟨rfl, rfl, rfl⟩
        ·replace hm := yes_f hg618 hm
         refine pK ?_
         refine p_pickF rfl rfl rfl rfl rfl rfl ?_
         refine pu ?_
         refine ops_nt ?_
         refine wpD_ret ?_
         have er621 := yes_eq hm; subst er621
         refine rP (t' := [(2, .v (.bool false))]) [] [] 0 (wC wN) (lT lN) ?_
         exact ⟨rfl, rfl, rfl⟩
       ·replace hm := yes_f hg615 hm
        iterate 4 refine pK ?_
        refine p_pickF rfl rfl rfl rfl rfl rfl ?_
        refine pu ?_
        refine pK ?_
        refine p_pickF rfl rfl rfl rfl rfl rfl ?_
        refine pu ?_
        refine ops_nt ?_
        refine wpD_ret ?_
        have er622 := yes_eq hm; subst er622
        refine rP (t' := [(2, .v (.bool false))]) [] [] 0 (wC wN) (lT lN) ?_
        exact ⟨rfl, rfl, rfl⟩
      ·replace hm := yes_f hg614 hm
       refine pK ?_
       refine pK ?_
       refine p_pickF rfl rfl rfl rfl rfl rfl ?_
       refine pu ?_
       iterate 4 refine pK ?_
       refine p_pickF rfl rfl rfl rfl rfl rfl ?_
       refine pu ?_
       refine pK ?_
       refine p_pickF rfl rfl rfl rfl rfl rfl ?_
       refine pu ?_
       refine ops_nt ?_
       refine wpD_ret ?_
       have er623 := yes_eq hm; subst er623
       refine rP (t' := [(2, .v (.bool false))]) [] [] 0 (wC wN) (lT lN) ?_
       exact ⟨rfl, rfl, rfl⟩
end Go.Proofs.Ytocmdafncmlaaaa.Ab
namespace Go.Proofs.Ytocmdafncmlaaaa.Ab
open Go
set_option linter.all false
def wEs (l : List TApiExpr) : Nat := wts (l.map eTApiExpr)
end Go.Proofs.Ytocmdafncmlaaaa.Ab
namespace Go.Proofs.Ytocmdafncmlaaaa.Ab
open Go
set_option linter.all false
mutual
def hS : TApiStmt → Nat
  | ⟨_, _, _, _, ks, ls, _⟩ => 1 + max (hSs ks) (hSs ls)
def hSs : List TApiStmt → Nat
  | [] => 1
  | s :: l => max (hS s) (hSs l)
end
theorem hS_eq (s : TApiStmt) : hS s = 1 + max (hSs s.gKids) (hSs s.gElse) := by cases s; simp only [hS]
theorem hS_mem : ∀ {l : List TApiStmt} {s : TApiStmt}, s ∈ l → hS s ≤ hSs l
  | x :: l, e, h => by
    simp only [hSs]
    rcases List.mem_cons.1 h with rfl | h
    · omega
    · have := hS_mem h; omega
theorem hSs_pos : ∀ l, 1 ≤ hSs l
  | [] => by simp [hSs]
  | s :: l => by have := hSs_pos l; simp only [hSs]; omega
def wS (s : TApiStmt) : Nat := wt (eTApiStmt s)
def wSs (l : List TApiStmt) : Nat := wts (l.map eTApiStmt)
theorem wS_eq (s : TApiStmt) : wS s = s.gName.size + s.gFunc.size + wEs s.gExps + wSs s.gKids + wSs s.gElse + 7 := by
  unfold wS wSs wEs
  rw [eTApiStmt_eq]
  simp only [wt, wts, wtv]; omega
theorem wSs_cons (s : TApiStmt) (l : List TApiStmt) : wSs (s :: l) = wS s + wSs l := by unfold wSs wS; simp only [List.map_cons, wts]
theorem fuel {l : List TApiStmt} {n : Nat} {x : TApiStmt} (h : hSs l ≤ n + 1) (hx : x ∈ l) : hSs x.gKids ≤ n ∧ hSs x.gElse ≤ n := by
  have h1 := hS_mem hx
  have h2 := hS_eq x
  omega
end Go.Proofs.Ytocmdafncmlaaaa.Ab
namespace Go.Proofs.Ytocmdafncmlaaaa.Ab
open Go
set_option linter.all false
abbrev Md := TSondageref17Made
def ed (m : Md) (a b k : Int) (s : TApiStmt) : Md := ⟨m.gNodes, m.gAt, m.gEdges ++ [⟨a, b, k, s.gName, s.gFunc, s.gExps⟩], m.gPlaces⟩
def kd (op : Int) : Int := bif op == 1 then 1 else bif op == 2 then 2 else bif op == 3 then 3 else bif op == 4 then 4 else bif op == 5 then 5 else bif op == 9 then 9 else 0
def step1 (s : TApiStmt) (m : Md) : Md := ⟨m.gNodes + 1, m.gNodes, m.gEdges ++ [⟨m.gAt, m.gNodes, kd s.gOp, s.gName, s.gFunc, s.gExps⟩], m.gPlaces ++ [m.gAt]⟩
def step8 (es : List TApiExpr) (m : Md) : Md := ⟨m.gNodes + 1, m.gNodes, m.gEdges ++ [⟨m.gAt, 1, 8, ByteArray.empty, ByteArray.empty, es⟩], m.gPlaces ++ [m.gAt]⟩
def opn6 (es : List TApiExpr) (m : Md) : Md := ⟨m.gNodes + 2, m.gNodes, m.gEdges ++ [⟨m.gAt, m.gNodes, 6, ByteArray.empty, ByteArray.empty, es⟩] ++ [⟨m.gAt, m.gNodes + 1, 7, ByteArray.empty, ByteArray.empty, es⟩], m.gPlaces ++ [m.gAt]⟩
def mid6 (no : Int) (m : Md) : Md := ⟨m.gNodes + 1, no, m.gEdges ++ [⟨m.gAt, m.gNodes, 0, ByteArray.empty, ByteArray.empty, []⟩], m.gPlaces⟩
def end6 (j : Int) (m : Md) : Md := ⟨m.gNodes, j, m.gEdges ++ [⟨m.gAt, j, 0, ByteArray.empty, ByteArray.empty, []⟩], m.gPlaces⟩
def opn7 (es : List TApiExpr) (m : Md) : Md := ⟨m.gNodes + 3, m.gNodes + 1, m.gEdges ++ [⟨m.gAt, m.gNodes, 0, ByteArray.empty, ByteArray.empty, []⟩] ++ [⟨m.gNodes, m.gNodes + 1, 6, ByteArray.empty, ByteArray.empty, es⟩] ++ [⟨m.gNodes, m.gNodes + 2, 7, ByteArray.empty, ByteArray.empty, es⟩], m.gPlaces ++ [m.gAt]⟩
def end7 (n : Int) (m : Md) : Md := ⟨m.gNodes, n + 2, m.gEdges ++ [⟨m.gAt, n, 0, ByteArray.empty, ByteArray.empty, []⟩], m.gPlaces⟩
mutual
def goS : TApiStmt → Md → Md
  | ⟨op, a, b, es, ks, ls, d⟩, m =>
    bif kd op != 0 then step1 ⟨op, a, b, es, ks, ls, d⟩ m
    else bif op == 8 then step8 es m
    else bif op == 6 then
      end6 (goSs ks (opn6 es m)).gNodes (goSs ls (mid6 (m.gNodes + 1) (goSs ks (opn6 es m))))
    else bif op == 7 then end7 m.gNodes (goSs ks (opn7 es m))
    else ⟨m.gNodes, m.gAt, m.gEdges, m.gPlaces ++ [m.gAt]⟩
def goSs : List TApiStmt → Md → Md
  | [], m => m
  | s :: l, m => goSs l (goS s m)
end
mutual
def cS : TApiStmt → Nat
  | ⟨_, _, _, _, ks, ls, _⟩ => 1 + cSs ks + cSs ls
def cSs : List TApiStmt → Nat
  | [] => 0
  | s :: l => cS s + cSs l
end
theorem cS_eq (s : TApiStmt) : cS s = 1 + cSs s.gKids + cSs s.gElse := by cases s; simp only [cS]
theorem goS_eq (s : TApiStmt) (m : Md) : goS s m = (bif kd s.gOp != 0 then step1 s m
    else bif s.gOp == 8 then step8 s.gExps m
    else bif s.gOp == 6 then end6 (goSs s.gKids (opn6 s.gExps m)).gNodes (goSs s.gElse (mid6 (m.gNodes + 1) (goSs s.gKids (opn6 s.gExps m))))
    else bif s.gOp == 7 then end7 m.gNodes (goSs s.gKids (opn7 s.gExps m))
    else ⟨m.gNodes, m.gAt, m.gEdges, m.gPlaces ++ [m.gAt]⟩) := by cases s; simp only [goS]
theorem goSs_append : ∀ (l k : List TApiStmt) (m : Md), goSs (l ++ k) m = goSs k (goSs l m)
  | [], k, m => by simp [goSs]
  | s :: l, k, m => by simp only [List.cons_append, goSs, goSs_append l k]
theorem cSs_append : ∀ l m, cSs (l ++ m) = cSs l + cSs m
  | [], m => by simp [cSs]
  | e :: l, m => by simp only [List.cons_append, cSs, cSs_append l m]; omega
theorem cSs_len : ∀ l, l.length ≤ cSs l
  | [] => by simp
  | e :: l => by
    have := cSs_len l
    have h := cS_eq e
    simp only [cSs, List.length_cons]; omega
theorem cSs_pre {l p : List TApiStmt} {x : TApiStmt} {q : List TApiStmt} (h : l = p ++ x :: q) : cSs p + cS x ≤ cSs l := by
  subst h; rw [cSs_append]; simp only [cSs]; omega
def Bd (m m' : Md) (c : Nat) : Prop := m.gNodes ≤ m'.gNodes ∧ m'.gNodes ≤ m.gNodes + 3 * c ∧ m'.gEdges.length ≤ m.gEdges.length + 4 * c ∧ m'.gPlaces.length ≤ m.gPlaces.length + c
mutual
theorem goS_bd : ∀ (s : TApiStmt) (m : Md), Bd m (goS s m) (cS s)
  | ⟨op, a, b, es, ks, ls, d⟩, m => by
    have h1 := goSs_bd ks (opn6 es m)
    have h2 := goSs_bd ls (mid6 (m.gNodes + 1) (goSs ks (opn6 es m)))
    have h3 := goSs_bd ks (opn7 es m)
    rw [goS_eq]
    simp only [cS]
    unfold Bd at *
    cases kd op != 0
    · cases op == 8
      · cases op == 6
        · cases op == 7
          · simp only [cond_false, List.length_append, List.length_cons, List.length_nil]; omega
          · simp only [cond_false, cond_true, end7, opn7, List.length_append, List.length_cons, List.length_nil] at h3 ⊢
            omega
        · simp only [cond_false, cond_true, end6, mid6, opn6, List.length_append, List.length_cons, List.length_nil] at h1 h2 ⊢
          omega
      · simp only [cond_false, cond_true, step8, List.length_append, List.length_cons, List.length_nil]; omega
    · simp only [cond_true, step1, List.length_append, List.length_cons, List.length_nil]; omega
theorem goSs_bd : ∀ (l : List TApiStmt) (m : Md), Bd m (goSs l m) (cSs l)
  | [], m => by unfold Bd; simp only [goSs, cSs]; omega
  | s :: l, m => by
    have h1 := goS_bd s m
    have h2 := goSs_bd l (goS s m)
    unfold Bd at *
    simp only [goSs, cSs]
    omega
end
def Rm (m : Md) (c : Nat) : Prop := 0 ≤ m.gNodes ∧ m.gNodes + 3 * c ≤ 8000000 ∧ m.gEdges.length + 4 * c ≤ 8000000 ∧ m.gPlaces.length + c ≤ 8000000
theorem opn6_n (es : List TApiExpr) (m : Md) : (opn6 es m).gNodes = m.gNodes + 2 ∧ (opn6 es m).gEdges.length = m.gEdges.length + 2 ∧ (opn6 es m).gPlaces.length = m.gPlaces.length + 1 := by simp [opn6]
theorem mid6_n (no : Int) (m : Md) : (mid6 no m).gNodes = m.gNodes + 1 ∧ (mid6 no m).gEdges.length = m.gEdges.length + 1 ∧ (mid6 no m).gPlaces.length = m.gPlaces.length := by simp [mid6]
theorem opn7_n (es : List TApiExpr) (m : Md) : (opn7 es m).gNodes = m.gNodes + 3 ∧ (opn7 es m).gEdges.length = m.gEdges.length + 3 ∧ (opn7 es m).gPlaces.length = m.gPlaces.length + 1 := by simp [opn7]
theorem kind_eq (op : Int) : r17_kind op = some (kd op) := by
  unfold r17_kind kd
  cases op == 1 <;> cases op == 2 <;> cases op == 3 <;> cases op == 4 <;> cases op == 5 <;> cases op == 9 <;> rfl
theorem with_eq {m : Md} {a b k : Int} {s : TApiStmt} (h : m.gEdges.length ≤ 8000000) : r17_with m a b k s = some (ed m a b k s) := by
  unfold r17_with ed
  rw [app_len (by omega) (by simp; omega), Option.bind_some, List.nil_append, app_len (by omega) (by simp; omega)]
  rfl
theorem rall_go : ∀ (n : Nat), (∀ (l : List TApiStmt) (m : Md), 2 * hSs l ≤ n + 1 → Rm m (cSs l) → (r17_All_g n).1 m l = some (goSs l m)) ∧ (∀ (s : TApiStmt) (m : Md), 2 * hS s ≤ n + 2 → Rm m (cS s) → (r17_All_g n).2 m s = some (goS s m))
  | 0 => by
    refine ⟨fun l m h _ => ?_, fun s m h _ => ?_⟩
    · have := hSs_pos l; omega
    · have := hSs_pos s.gKids; rw [hS_eq] at h; omega
  | n + 1 => by
    obtain ⟨h1, h2⟩ := rall_go n
    refine ⟨fun l m h hr => ?_, fun s m h hr => ?_⟩
    · show r17_All_b (r17_All_g n).1 (r17_All_g n).2 m l = _
      unfold r17_All_b
      have hl := cSs_len l
      refine loop_list l (fun pre => goSs pre m) (fun a i => ((i : Int), a.gNodes, a.gAt, a.gEdges, a.gPlaces)) (fun a => (a.gNodes, a.gAt, a.gEdges, a.gPlaces)) (by simp [goSs]) (fun p x q hp => ?_) ?_ ?_
      · have hx := hS_mem (pre_mem hp)
        have hc := cSs_pre hp
        have hb := goSs_bd p m
        unfold Rm Bd at *
        simp only [lt_pre hp, cond_true]
        rw [idx_pre2 hp rfl, Option.bind_some, inc_pre hp (by omega), h2 x _ (by omega) (by simp only []; omega), Option.bind_some, goSs_append]
        simp only [goSs]
      · simp only [lt_end, cond_false]
      · rfl
    · show r17_one_b (r17_All_g n).1 (r17_All_g n).2 m s = _
      unfold r17_one_b
      have hh := hS_eq s
      have hc := cS_eq s
      unfold Rm at hr
      have w1 : IntKind.i64.wrap (m.gNodes + 1) = m.gNodes + 1 := wrap_id (by omega) (by omega)
      have w2 : IntKind.i64.wrap (m.gNodes + 2) = m.gNodes + 2 := wrap_id (by omega) (by omega)
      have w3 : IntKind.i64.wrap (m.gNodes + 3) = m.gNodes + 3 := wrap_id (by omega) (by omega)
      rw [app_len (by omega) (by simp; omega), Option.bind_some, List.nil_append, app_len (by omega) (by simp; omega), Option.bind_some, kind_eq, Option.bind_some, goS_eq]
      cases hk : kd s.gOp != 0
      · simp only [cond_false]
        cases h8 : s.gOp == 8
        · simp only [cond_false]
          cases h6 : s.gOp == 6
          · simp only [cond_false]
            cases h7 : s.gOp == 7
            · rfl
            · simp only [cond_true]
              rw [w1, w2, w3]
              have b1 := goSs_bd s.gKids (opn7 s.gExps m)
              have e1 := opn7_n s.gExps m
              unfold Bd at b1
              have rm1 : Rm (opn7 s.gExps m) (cSs s.gKids) := by unfold Rm; omega
              rw [with_eq (by simp only []; omega), Option.bind_some, with_eq (by simp [ed]; omega), Option.bind_some, with_eq (by simp [ed]; omega), Option.bind_some]
              simp only [ed]
              change Option.bind ((r17_All_g n).1 (opn7 s.gExps m) s.gKids) _ = _
              rw [h1 _ _ (by omega) rm1, Option.bind_some, with_eq (by omega), Option.bind_some]
              rfl
          · simp only [cond_true]
            rw [w1, w2]
            have b1 := goSs_bd s.gKids (opn6 s.gExps m)
            have e1 := opn6_n s.gExps m
            have rm1 : Rm (opn6 s.gExps m) (cSs s.gKids) := by unfold Rm; omega
            have e2 := mid6_n (m.gNodes + 1) (goSs s.gKids (opn6 s.gExps m))
            have b2 := goSs_bd s.gElse (mid6 (m.gNodes + 1) (goSs s.gKids (opn6 s.gExps m)))
            unfold Bd at b1 b2
            have rm2 : Rm (mid6 (m.gNodes + 1) (goSs s.gKids (opn6 s.gExps m))) (cSs s.gElse) := by unfold Rm; omega
            rw [with_eq (by simp only []; omega), Option.bind_some, with_eq (by simp [ed]; omega), Option.bind_some]
            simp only [ed]
            change Option.bind ((r17_All_g n).1 (opn6 s.gExps m) s.gKids) _ = _
            rw [h1 _ _ (by omega) rm1, Option.bind_some, wrap_id (n := (goSs s.gKids (opn6 s.gExps m)).gNodes + 1) (by omega) (by omega), with_eq (by simp only []; omega), Option.bind_some]
            simp only [ed]
            change Option.bind ((r17_All_g n).1 (mid6 (m.gNodes + 1) (goSs s.gKids (opn6 s.gExps m))) s.gElse) _ = _
            rw [h1 _ _ (by omega) rm2, Option.bind_some, with_eq (by omega), Option.bind_some]
            rfl
        · simp only [cond_true]
          rw [w1, with_eq (by simp only []; omega)]; rfl
      · simp only [cond_true, Option.bind_some]
        rw [w1, with_eq (by simp only []; omega)]; rfl
theorem rall_go_eq {l : List TApiStmt} {m : Md} (h : Rm m (cSs l)) : r17_All m l = some (goSs l m) := r17_All_of m l (2 * hSs l) ((rall_go _).1 l m (by omega) h)
end Go.Proofs.Ytocmdafncmlaaaa.Ab
namespace Go.Proofs.Ytocmdafncmlaaaa.Ab
open Go
set_option linter.all false
theorem loop_any {β τ : Type} {l : List β} {f : Int → Option (Step Int (Unit ⊕ τ))} (t : β → Bool) (r : Nat → τ)
    (h1 : ∀ p x q, l = p ++ x :: q → f (p.length : Int) = some (bif t x then .done (.inr (r p.length)) else .next ((p.length + 1 : Nat) : Int)))
    (h2 : f (l.length : Int) = some (.done (.inl ()))) : (l.any t = false ∧ loopM f (0 : Int) = some (.inl ())) ∨ (l.any t = true ∧ ∃ j, j < l.length ∧ loopM f (0 : Int) = some (.inr (r j))) := by
  have key : ∀ (q p : List β), l = p ++ q → (q.any t = false ∧ loopM f (p.length : Int) = some (.inl ())) ∨ (q.any t = true ∧ ∃ j, j < l.length ∧ loopM f (p.length : Int) = some (.inr (r j))) := by
    intro q
    induction q with
    | nil =>
      intro p e
      rw [List.append_nil] at e; subst e
      exact .inl ⟨rfl, loopM_done h2⟩
    | cons x q ih =>
      intro p e
      have h := h1 p x q e
      cases ht : t x
      · rw [ht, cond_false] at h
        have := ih (p ++ [x]) (by simp [e])
        rw [loopM_next h]
        simp only [List.length_append, List.length_cons, List.length_nil, Nat.zero_add, List.any_cons, ht, Bool.false_or] at this ⊢
        exact this
      · rw [ht, cond_true] at h
        refine .inr ⟨by simp [ht], p.length, by subst e; simp, loopM_done h⟩
  exact key l [] rfl
theorem any_list {β τ ρ : Type} {f : Int → Option (Step Int (Unit ⊕ τ))} {k : Unit ⊕ τ → Option ρ} {R : Option ρ} (l : List β) (t : β → Bool) (r : Nat → τ)
    (h1 : ∀ p x q, l = p ++ x :: q → f (p.length : Int) = some (bif t x then .done (.inr (r p.length)) else .next ((p.length + 1 : Nat) : Int)))
    (h2 : f (l.length : Int) = some (.done (.inl ()))) (k0 : l.any t = false → k (.inl ()) = R) (k1 : ∀ j, j < l.length → l.any t = true → k (.inr (r j)) = R) : Option.bind (loopM f (0 : Int)) k = R := by
  rcases loop_any t r h1 h2 with ⟨a, b⟩ | ⟨a, j, hj, b⟩
  · rw [b]; exact k0 a
  · rw [b]; exact k1 j hj a
end Go.Proofs.Ytocmdafncmlaaaa.Ab
