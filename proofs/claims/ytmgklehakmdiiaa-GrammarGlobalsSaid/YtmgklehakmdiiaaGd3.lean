/- The texts that grammarGlobals_holds leans on, part 3. -/
import Derived.Test.YtmgklehakmdiiaaGd2
namespace Go.Proofs.Ytmgklehakmdiiaa.Ab
open Go
set_option linter.all false
noncomputable def token_kind (a0 : Int) : Option (Int) :=
  (Option.bind (α := Bool) (bif (a0 == (32 : Int)) then some true else (bif (a0 == (9 : Int)) then some true else (bif (a0 == (10 : Int)) then some true else some (a0 == (13 : Int))))) fun y4 => (bif y4 then some (1 : Int) else (Option.bind (α := Bool) (bif (decide ((97 : Int) ≤ a0)) then (bif (decide (a0 ≤ (122 : Int))) then some true else (bif (decide ((65 : Int) ≤ a0)) then (bif (decide (a0 ≤ (90 : Int))) then some true else some (a0 == (95 : Int))) else some (a0 == (95 : Int)))) else (bif (decide ((65 : Int) ≤ a0)) then (bif (decide (a0 ≤ (90 : Int))) then some true else some (a0 == (95 : Int))) else some (a0 == (95 : Int)))) fun y16 => (bif y16 then some (2 : Int) else (bif (decide ((48 : Int) ≤ a0)) then (bif (decide (a0 ≤ (57 : Int))) then some (3 : Int) else some (0 : Int)) else some (0 : Int))))))
set_option maxRecDepth 100000 in
set_option maxHeartbeats 2000000 in
theorem token_kind_ok (a0 : Int) (r : Int) (h0 : token_kind a0 = some r) : CallsD Try.prog 64 [.v (.int .i32 a0)] [] [] (fun d h k => d = .v (.int .i64 r) ∧ h = [] ∧ k = []) := by
  have hm := yes_of h0
  unfold token_kind at hm
  clear h0
  refine enterX htab Try.func64 rfl rfl rfl rfl rfl (fun C => ?_)
  refine wpD_sr ?_
  refine pu ?_
  refine ops_nt ?_
  refine wpD_seq ?_
  refine wpD_block ?_
  refine wpD_seq ?_
  obtain ⟨y4, q4, ho4⟩ := yes_bind hm
  refine wpD_mid (Y := Unit) (fun z4 => (⟨[(0, .v (.int .i32 a0)), (3, .v (.bool y4))], [], []⟩ : S)) ?_ ?_
  ·clear hm; have hm := yes_of q4
   refine wpD_region ?_
   iterate 3 refine pu ?_
   refine p_split (i := 6) rfl (fun hg5 => ?_) (fun hg5 => ?_)
   ·replace hm := yes_t hg5 hm
    refine pK ?_
    refine pK ?_
    refine p_pickT rfl rfl rfl rfl rfl rfl ?_
    refine pu ?_
    refine pK ?_
    refine pK ?_
    refine p_pickT rfl rfl rfl rfl rfl rfl ?_
    refine pu ?_
    refine pK ?_
    refine pK ?_
    refine p_pickT rfl rfl rfl rfl rfl rfl ?_
    refine pu ?_
    refine ops_nil ?_
    have e4 := yes_eq hm; subst e4
    refine ⟨rfl, ?_⟩
    exact WkX.of () (WkS.perm (WkS.cons rfl (Wk.refl _) (WkS.cons rfl (Wk.refl _) (WkS.nil))) Pf Pf)
   ·replace hm := yes_f hg5 hm
    refine pu ?_
    refine pu ?_
    refine p_pickF rfl rfl rfl rfl rfl rfl ?_
    refine pu ?_
    refine p_split (i := 10) rfl (fun hg6 => ?_) (fun hg6 => ?_)
    ·replace hm := yes_t hg6 hm
     refine pK ?_
     refine pK ?_
     refine p_pickT rfl rfl rfl rfl rfl rfl ?_
     refine pu ?_
     refine pK ?_
     refine pK ?_
     refine p_pickT rfl rfl rfl rfl rfl rfl ?_
     refine pu ?_
     refine ops_nil ?_
     have e4 := yes_eq hm; subst e4
     refine ⟨rfl, ?_⟩
     exact WkX.of () (WkS.perm (WkS.cons rfl (Wk.refl _) (WkS.cons rfl (Wk.refl _) (WkS.nil))) Pf Pf)
    ·replace hm := yes_f hg6 hm
     refine pu ?_
     refine pu ?_
     refine p_pickF rfl rfl rfl rfl rfl rfl ?_
     refine pu ?_
     refine p_split (i := 14) rfl (fun hg7 => ?_) (fun hg7 => ?_)
     ·replace hm := yes_t hg7 hm
      refine pK ?_
      refine pK ?_
      refine p_pickT rfl rfl rfl rfl rfl rfl ?_
      refine pu ?_
      refine ops_nil ?_
      have e4 := yes_eq hm; subst e4
      refine ⟨rfl, ?_⟩
      exact WkX.of () (WkS.perm (WkS.cons rfl (Wk.refl _) (WkS.cons rfl (Wk.refl _) (WkS.nil))) Pf Pf)
     ·replace hm := yes_f hg7 hm
      refine pu ?_
      refine pu ?_
      refine p_pickF rfl rfl rfl rfl rfl rfl ?_
      refine pu ?_
      refine ops_nil ?_
      have e4 := yes_eq hm; subst e4
      refine ⟨rfl, ?_⟩
      exact WkX.of () (WkS.perm (WkS.cons rfl (Wk.refl _) (WkS.cons rfl (Wk.refl _) (WkS.nil))) Pf Pf)
  ·intro s4 hw4; clear hm; have hm := ho4; clear q4 ho4
   refine then_normal ?_
   refine wpD_wkX hw4 (fun z4 => ?_)
   refine wpD_cond rfl (fun hc8 => ?_) (fun hc8 => ?_)
   ·replace hm := yes_t hc8 hm
    refine wpD_sr ?_
    refine pu ?_
    refine ops_nt ?_
    refine wpD_ret ?_
    refine block_ret ?_
    refine then_ret ?_
    have er9 := yes_eq hm; subst er9
    refine rP (t' := [(2, .v (.int .i64 (1 : Int)))]) [] [] 0 (wC wN) (lT lN) ?_
    exact ⟨rfl, rfl, rfl⟩
   ·replace hm := yes_f hc8 hm
    refine wpD_seq ?_
    obtain ⟨y16, q16, ho16⟩ := yes_bind hm
    refine wpD_mid (Y := Unit) (fun z16 => (⟨[(0, .v (.int .i32 a0)), (18, .v (.bool y16))], [], []⟩ : S)) ?_ ?_
    ·clear hm; have hm := yes_of q16
     refine wpD_region ?_
     iterate 3 refine pu ?_
     refine p_split (i := 21) rfl (fun hg17 => ?_) (fun hg17 => ?_)
     ·replace hm := yes_t hg17 hm
      refine pu ?_
      refine pu ?_
      refine p_pickT rfl rfl rfl rfl rfl rfl ?_
      refine pu ?_
      refine p_split (i := 25) rfl (fun hg18 => ?_) (fun hg18 => ?_)
      ·replace hm := yes_t hg18 hm
       iterate 6 refine pK ?_
       refine p_pickT rfl rfl rfl rfl rfl rfl ?_
       refine pu ?_
       refine pK ?_
       refine pK ?_
       refine p_pickT rfl rfl rfl rfl rfl rfl ?_
       refine pu ?_
       refine ops_nil ?_
       have e16 := yes_eq hm; subst e16
       refine ⟨rfl, ?_⟩
       exact WkX.of () (WkS.perm (WkS.cons rfl (Wk.refl _) (WkS.cons rfl (Wk.refl _) (WkS.nil))) Pf Pf)
      ·replace hm := yes_f hg18 hm
       iterate 3 refine pu ?_
       refine p_split (i := 28) rfl (fun hg19 => ?_) (fun hg19 => ?_)
       ·replace hm := yes_t hg19 hm
        refine pu ?_
        refine pu ?_
        refine p_pickT rfl rfl rfl rfl rfl rfl ?_
        refine p_pickF rfl rfl rfl rfl rfl rfl ?_
        refine pu ?_
        refine p_split (i := 33) rfl (fun hg20 => ?_) (fun hg20 => ?_)
        ·replace hm := yes_t hg20 hm
         refine pK ?_
         refine pK ?_
         refine p_pickT rfl rfl rfl rfl rfl rfl ?_
         refine pu ?_
         refine ops_nil ?_
         have e16 := yes_eq hm; subst e16
         refine ⟨rfl, ?_⟩
         exact WkX.of () (WkS.perm (WkS.cons rfl (Wk.refl _) (WkS.cons rfl (Wk.refl _) (WkS.nil))) Pf Pf)
        ·replace hm := yes_f hg20 hm
         refine pu ?_
         refine pu ?_
         refine p_pickF rfl rfl rfl rfl rfl rfl ?_
         refine pu ?_
         refine ops_nil ?_
         have e16 := yes_eq hm; subst e16
         refine ⟨rfl, ?_⟩
         exact WkX.of () (WkS.perm (WkS.cons rfl (Wk.refl _) (WkS.cons rfl (Wk.refl _) (WkS.nil))) Pf Pf)
       ·replace hm := yes_f hg19 hm
        refine pK ?_
        refine pK ?_
        refine p_pickF rfl rfl rfl rfl rfl rfl ?_
        refine p_pickF rfl rfl rfl rfl rfl rfl ?_
        iterate 3 refine pu ?_
        refine p_pickF rfl rfl rfl rfl rfl rfl ?_
        refine pu ?_
        refine ops_nil ?_
        have e16 := yes_eq hm; subst e16
        refine ⟨rfl, ?_⟩
        exact WkX.of () (WkS.perm (WkS.cons rfl (Wk.refl _) (WkS.cons rfl (Wk.refl _) (WkS.nil))) Pf Pf)
     ·replace hm := yes_f hg17 hm
      refine pK ?_
      refine pK ?_
      refine p_pickF rfl rfl rfl rfl rfl rfl ?_
      iterate 4 refine pu ?_
      refine p_split (i := 28) rfl (fun hg21 => ?_) (fun hg21 => ?_)
      ·replace hm := yes_t hg21 hm
       refine pu ?_
       refine pu ?_
       refine p_pickT rfl rfl rfl rfl rfl rfl ?_
       refine p_pickF rfl rfl rfl rfl rfl rfl ?_
       refine pu ?_
       refine p_split (i := 33) rfl (fun hg22 => ?_) (fun hg22 => ?_)
       ·replace hm := yes_t hg22 hm
        refine pK ?_
        refine pK ?_
        refine p_pickT rfl rfl rfl rfl rfl rfl ?_
        refine pu ?_
        refine ops_nil ?_
        have e16 := yes_eq hm; subst e16
        refine ⟨rfl, ?_⟩
        exact WkX.of () (WkS.perm (WkS.cons rfl (Wk.refl _) (WkS.cons rfl (Wk.refl _) (WkS.nil))) Pf Pf)
       ·replace hm := yes_f hg22 hm
        refine pu ?_
        refine pu ?_
        refine p_pickF rfl rfl rfl rfl rfl rfl ?_
        refine pu ?_
        refine ops_nil ?_
        have e16 := yes_eq hm; subst e16
        refine ⟨rfl, ?_⟩
        exact WkX.of () (WkS.perm (WkS.cons rfl (Wk.refl _) (WkS.cons rfl (Wk.refl _) (WkS.nil))) Pf Pf)
      ·replace hm := yes_f hg21 hm
       refine pK ?_
       refine pK ?_
       refine p_pickF rfl rfl rfl rfl rfl rfl ?_
       refine p_pickF rfl rfl rfl rfl rfl rfl ?_
       iterate 3 refine pu ?_
       refine p_pickF rfl rfl rfl rfl rfl rfl ?_
       refine pu ?_
       refine ops_nil ?_
       have e16 := yes_eq hm; subst e16
       refine ⟨rfl, ?_⟩
       exact WkX.of () (WkS.perm (WkS.cons rfl (Wk.refl _) (WkS.cons rfl (Wk.refl _) (WkS.nil))) Pf Pf)
    ·intro s16 hw16; clear hm; have hm := ho16; clear q16 ho16
     refine then_normal ?_
     refine wpD_wkX hw16 (fun z16 => ?_)
     refine wpD_cond rfl (fun hc23 => ?_) (fun hc23 => ?_)
     ·replace hm := yes_t hc23 hm
      refine wpD_sr ?_
      refine pu ?_
      refine ops_nt ?_
      refine wpD_ret ?_
      refine block_ret ?_
      refine then_ret ?_
      have er24 := yes_eq hm; subst er24
      refine rP (t' := [(2, .v (.int .i64 (2 : Int)))]) [] [] 0 (wC wN) (lT lN) ?_
      exact ⟨rfl, rfl, rfl⟩
     ·replace hm := yes_f hc23 hm
      refine wpD_sr ?_
      iterate 3 refine pu ?_
      refine p_split (i := 40) rfl (fun hg25 => ?_) (fun hg25 => ?_)
      ·replace hm := yes_t hg25 hm
       refine pu ?_
       refine pu ?_
       refine p_pickT rfl rfl rfl rfl rfl rfl ?_
       refine pu ?_
       refine ops_nt ?_
       refine wpD_cond rfl (fun hc26 => ?_) (fun hc26 => ?_)
       ·replace hm := yes_t hc26 hm
        refine wpD_sr ?_
        refine pu ?_
        refine ops_nt ?_
        refine wpD_ret ?_
        refine block_ret ?_
        refine then_ret ?_
        have er27 := yes_eq hm; subst er27
        refine rP (t' := [(2, .v (.int .i64 (3 : Int)))]) [] [] 0 (wC wN) (lT lN) ?_
        exact ⟨rfl, rfl, rfl⟩
       ·replace hm := yes_f hc26 hm
        refine wpD_skip ?_
        refine block_normal ?_
        refine then_normal ?_
        refine wpD_sr ?_
        refine pu ?_
        refine ops_nt ?_
        refine wpD_ret ?_
        have er28 := yes_eq hm; subst er28
        refine rP (t' := [(2, .v (.int .i64 (0 : Int)))]) [] [] 0 (wC wN) (lT lN) ?_
        exact ⟨rfl, rfl, rfl⟩
      ·replace hm := yes_f hg25 hm
       refine pK ?_
       refine pK ?_
       refine p_pickF rfl rfl rfl rfl rfl rfl ?_
       refine pu ?_
       refine ops_nt ?_
       refine wpD_false rfl ?_
       refine wpD_skip ?_
       refine block_normal ?_
       refine then_normal ?_
       refine wpD_sr ?_
       refine pu ?_
       refine ops_nt ?_
       refine wpD_ret ?_
       have er29 := yes_eq hm; subst er29
       refine rP (t' := [(2, .v (.int .i64 (0 : Int)))]) [] [] 0 (wC wN) (lT lN) ?_
       exact ⟨rfl, rfl, rfl⟩
structure TApiToken where
  gKind : Int
  gText : ByteArray
  gN : Int
  gAt : Int
def eTApiToken (x : TApiToken) : D := .agg [.v (.int .i64 x.gKind), .v (.string x.gText), .v (.int .i64 x.gN), .v (.int .i64 x.gAt)]
structure TTokenReader where
  gB : List UInt8
  gAt : Int
  gL : List TApiToken
abbrev nlGm1_1 : List (List Nat) := [[],[0],[0,1],[0,1,2],[],[4],[4,5],[4,5,6],[],[4,5,6,7,8],[0,1,2,3,4,5,6,7,8,9],[0,1,2,3,4,5,6,7,8,9,10],[0,1,2,3,4,5,6,7,8,9,10,11],[0,1,2,3,4,5,6,7,8,9,10,11,12],[0,1,2,3,4,5,6,7,8,9,10,11,12,13]]
noncomputable def token_reader_span (m0 : TTokenReader) (a1 : Bool) : Option (Int) :=
  (Option.bind (α := Int) (loopM (fun (s24 : Int) => (bif (decide ((IntKind.i64.wrap (m0.gAt + s24)) < (m0.gB.length : Int))) then ((idx m0.gB (IntKind.i64.wrap (m0.gAt + s24))).bind fun x40 => ((token_kind (IntKind.i32.wrap (x40.toNat : Int))).bind fun x41 => (bif (x41 != (3 : Int)) then (bif (x41 != (2 : Int)) then some (.done s24) else (bif (!a1) then some (.done s24) else some (.next (IntKind.i64.wrap (s24 + (1 : Int)))))) else some (.next (IntKind.i64.wrap (s24 + (1 : Int))))))) else some (.done s24))) (0 : Int)) fun y23 => some y23)
set_option maxRecDepth 100000 in
set_option maxHeartbeats 2000000 in
theorem token_reader_span_ok (m0 : TTokenReader) (a1 : Bool) (o0 : Nat) (T0 : TypeId) (c0_0 : Cap) (c0_2 : Cap) (r : Int) (h0 : token_reader_span m0 a1 = some r) : CallsD Try.prog 77 [.ptr o0 0, .v (.bool a1)] [(o0, Blk.cells [.lst 1 (m0.gB.map byteD) c0_0, .v (.int .i64 m0.gAt), .lst 4 (m0.gL.map eTApiToken) c0_2] T0)] [] (fun d h k => d = .v (.int .i64 r) ∧ h = [(o0, Blk.cells [.lst 1 (m0.gB.map byteD) c0_0, .v (.int .i64 m0.gAt), .lst 4 (m0.gL.map eTApiToken) c0_2] T0)] ∧ k = []) := by
  have hm := yes_of h0
  unfold token_reader_span at hm
  clear h0
  refine enterX htab Try.func77 rfl rfl rfl rfl rfl (fun C => ?_)
  refine wpD_sr ?_
  refine pu ?_
  refine ops_n2 ?_
  refine pu ?_
  refine ops_nt ?_
  refine wpD_seq ?_
  obtain ⟨y23, q23, ho23⟩ := yes_bind hm
  refine wpD_mid (Y := Unit) (fun z23 => (⟨[(5, .v (.int .i64 y23))], [(o0, Blk.cells [.lst 1 (m0.gB.map byteD) c0_0, .v (.int .i64 m0.gAt), .lst 4 (m0.gL.map eTApiToken) c0_2] T0)], []⟩ : S)) ?_ ?_
  ·clear hm; have hm := yes_of q23
   refine wpD_block ?_
   obtain ⟨u24, hl24, hq24⟩ := yes_m hm
   refine loop_M (Y := Unit) hl24 (fun s24 z24 => (⟨[(0, .ptr o0 0), (1, .v (.bool a1)), (5, .v (.int .i64 s24))], [(o0, Blk.cells [.lst 1 (m0.gB.map byteD) c0_0, .v (.int .i64 m0.gAt), .lst 4 (m0.gL.map eTApiToken) c0_2] T0)], []⟩ : S)) ?_ ?_
   ·skip
    exact WkX.of () (WkS.perm (WkS.cons rfl (Wk.refl _) (WkS.cons rfl (Wk.refl _) (WkS.cons rfl (Wk.refl _) (WkS.nil)))) Pf Pf)
   ·intro G24 s24 z24 hm
    refine wpD_seq ?_
    refine wpD_seq ?_
    refine wpD_draws 11 [] [[],[0],[0,1],[0,1,2],[],[0,1,2],[],[6],[6,7],[6,7,8],[6,7,8,9]] [0,1,2,6,7,8,9] [[],[0],[0,1],[0,1,2],[],[0,1,2,3,4],[],[6],[6,7],[6,7,8],[6,7,8,9],[0,1,2,3,4,5,6,7,8,9,10]] (by kernel_rfl) (by kernel_rfl) (by kernel_rfl) (by rfl) (by rfl) (by kernel_rfl) ?_
    iterate 7 apply Exists.intro
    intro bs
    iterate 3 refine zep ?_
    refine z_qM rfl rfl (xm_load 0 htab rfl rfl rfl rfl rfl) rfl rfl rfl rfl rfl rfl ?_
    refine zqp ?_
    refine zqp ?_
    iterate 3 refine zep ?_
    refine z_eM rfl rfl (xm_load 0 htab rfl rfl rfl rfl rfl) rfl rfl rfl rfl rfl rfl ?_
    refine z_q rfl rfl (x_lenL htab rfl rfl rfl rfl (by first | exact map_len | rfl)) rfl rfl rfl rfl rfl rfl ?_
    refine z_nil rfl rfl (fun e he => by simp [isAl] at he) ?_
    refine pu ?_
    refine ops_nt ?_
    refine wpD_cond rfl (fun hc39 => ?_) (fun hc39 => ?_)
    ·replace hm := yes_t hc39 hm
     refine wpD_skip ?_
     refine then_normal ?_
     refine wpD_block ?_
     refine wpD_seq ?_
     refine wpD_draws 10 [] [[],[0],[0,1],[0,1,2],[],[4],[4,5],[4,5,6],[],[4,5,6]] [0,1,2,3,4,5,6] nlGm1_1 (by kernel_rfl) (by kernel_rfl) (by kernel_rfl) (by rfl) (by rfl) (by kernel_rfl) ?_
     iterate 7 apply Exists.intro
     intro bs
     iterate 3 refine zep ?_
     refine z_eM rfl rfl (xm_load 0 htab rfl rfl rfl rfl rfl) rfl rfl rfl rfl rfl rfl ?_
     iterate 3 refine zep ?_
     refine z_qM rfl rfl (xm_load 0 htab rfl rfl rfl rfl rfl) rfl rfl rfl rfl rfl rfl ?_
     refine zqp ?_
     refine zqp ?_
     refine z_nil rfl rfl (fun e he => by simp [isAl] at he) ?_
     obtain ⟨x40, q40, hm⟩ := yes_bind hm
     refine p_elem htab rfl rfl rfl rfl rfl rfl rfl rfl rfl rfl (idx_nonneg q40) (idx_map q40) ?_
     refine p_loadEl htab rfl rfl rfl rfl rfl rfl rfl rfl ?_
     refine pu ?_
     obtain ⟨x41, q41, hm⟩ := yes_bind hm
     refine p_call0 (token_kind_ok (IntKind.i32.wrap (x40.toNat : Int)) x41 q41) rfl rfl rfl rfl rfl Wl ?_
     rintro _ rfl
     refine pu ?_
     refine ops_nt ?_
     refine wpD_seq ?_
     refine wpD_sr ?_
     iterate 3 refine pu ?_
     refine p_split (i := 35) rfl (fun hg42 => ?_) (fun hg42 => ?_)
     ·replace hm := yes_t hg42 hm
      iterate 3 refine pu ?_
      refine p_split (i := 38) rfl (fun hg43 => ?_) (fun hg43 => ?_)
      ·replace hm := yes_t hg43 hm
       refine pK ?_
       refine pK ?_
       refine p_pickT rfl rfl rfl rfl rfl rfl ?_
       refine p_pickT rfl rfl rfl rfl rfl rfl ?_
       refine ops_nt ?_
       refine wpD_true rfl ?_
       refine wpD_exit ?_
       refine then_exit ?_
       refine block_miss rfl ?_
       have e24 := lp_done hm; subst e24; clear hm; have hm := hq24
       refine then_exit ?_
       refine block_hit ?_
       have e23 := yes_eq hm; subst e23
       refine ⟨rfl, ?_⟩
       exact WkX.of () (WkS.perm (WkS.cons rfl (Wk.refl _) (WkS.nil)) Pf Pf)
      ·replace hm := yes_f hg43 hm
       refine pu ?_
       refine pu ?_
       refine p_pickF rfl rfl rfl rfl rfl rfl ?_
       refine p_pickT rfl rfl rfl rfl rfl rfl ?_
       refine ops_nt ?_
       refine wpD_cond rfl (fun hc44 => ?_) (fun hc44 => ?_)
       ·replace hm := yes_t hc44 hm
        refine wpD_exit ?_
        refine then_exit ?_
        refine block_miss rfl ?_
        have e24 := lp_done hm; subst e24; clear hm; have hm := hq24
        refine then_exit ?_
        refine block_hit ?_
        have e23 := yes_eq hm; subst e23
        refine ⟨rfl, ?_⟩
        exact WkX.of () (WkS.perm (WkS.cons rfl (Wk.refl _) (WkS.nil)) Pf Pf)
       ·replace hm := yes_f hc44 hm
        refine wpD_skip ?_
        refine then_normal ?_
        refine wpD_region ?_
        iterate 3 refine pu ?_
        refine ops_nil ?_
        refine block_normal ?_
        refine then_normal ⟨_, lp_next hm, ?_⟩
        exact WkX.of () (WkS.perm (WkS.cons rfl (Wk.refl _) (WkS.cons rfl (Wk.refl _) (WkS.cons rfl (Wk.refl _) (WkS.nil)))) Pf Pf)
     ·replace hm := yes_f hg42 hm
      iterate 6 refine pK ?_
      refine p_pickF rfl rfl rfl rfl rfl rfl ?_
      refine ops_nt ?_
      refine wpD_false rfl ?_
      refine wpD_skip ?_
      refine then_normal ?_
      refine wpD_region ?_
      iterate 3 refine pu ?_
      refine ops_nil ?_
      refine block_normal ?_
      refine then_normal ⟨_, lp_next hm, ?_⟩
      exact WkX.of () (WkS.perm (WkS.cons rfl (Wk.refl _) (WkS.cons rfl (Wk.refl _) (WkS.cons rfl (Wk.refl _) (WkS.nil)))) Pf Pf)
    ·replace hm := yes_f hc39 hm
     refine wpD_exit ?_
     refine then_exit ?_
     have e24 := lp_done hm; subst e24; clear hm; have hm := hq24
     refine then_exit ?_
     refine block_hit ?_
     have e23 := yes_eq hm; subst e23
     refine ⟨rfl, ?_⟩
     exact WkX.of () (WkS.perm (WkS.cons rfl (Wk.refl _) (WkS.nil)) Pf Pf)
  ·intro s23 hw23; clear hm; have hm := ho23; clear q23 ho23
   refine then_normal ?_
   refine wpD_wkX hw23 (fun z23 => ?_)
   refine wpD_sr ?_
   refine pu ?_
   refine pu ?_
   refine ops_nt ?_
   refine wpD_ret ?_
   have er45 := yes_eq hm; subst er45
   refine rP (t' := [(4, .v (.int .i64 y23))]) [0] [] 1 (wC wN) (lT lN) ?_
   exact ⟨rfl, rfl, rfl⟩
noncomputable def slices_Index_string_string (a0 : List ByteArray) (a1 : ByteArray) : Option (Int) :=
  (Option.bind (α := (Unit) ⊕ (Int)) (loopM (fun (s15 : Int) => (bif (decide (s15 < (a0.length : Int))) then ((idx a0 s15).bind fun x25 => (bif (decide (a1 = x25)) then some (.done (.inr s15)) else some (.next (IntKind.i64.wrap (s15 + (1 : Int)))))) else some (.done (.inl ())))) (0 : Int)) (Sum.elim (fun y14 => some (-1 : Int)) (fun r => some r)))
set_option maxRecDepth 100000 in
set_option maxHeartbeats 2000000 in
theorem slices_Index_string_string_ok (a0 : List ByteArray) (a1 : ByteArray) (r : Int) (h0 : slices_Index_string_string a0 a1 = some r) : CallsD Try.prog 88 [.lst 1 (a0.map eStr) .no, .v (.string a1)] [] [] (fun d h k => d = .v (.int .i64 r) ∧ h = [] ∧ k = []) := by
  have hm := yes_of h0
  unfold slices_Index_string_string at hm
  clear h0
  refine enterX htab Try.func88 rfl rfl rfl rfl rfl (fun C => ?_)
  refine wpD_sr ?_
  refine pu ?_
  refine ops_nt ?_
  refine wpD_seq ?_
  refine wpD_sr ?_
  refine pu ?_
  refine p_lenL htab rfl rfl rfl rfl rfl rfl rfl (by first | exact map_len | rfl) ?_
  refine pu ?_
  refine ops_nt ?_
  obtain ⟨x14, q14, ho14⟩ := yes_bind hm
  refine wpD_midX (τ := Unit) (Y := Unit) (fun y14 z14 => (⟨[], [], []⟩ : S)) x14 ?_ ?_
  ·clear hm; have hm := yes_of q14
   refine wpD_block ?_
   obtain ⟨u15, hl15, hq15⟩ := yes_m hm
   refine loop_M (Y := Unit) hl15 (fun s15 z15 => (⟨[(0, .lst 1 (a0.map eStr) .no), (1, .v (.string a1)), (7, .v (.int .i64 (a0.length : Int))), (8, .v (.int .i64 s15))], [], []⟩ : S)) ?_ ?_
   ·skip
    exact WkX.of () (WkS.perm (WkS.cons rfl (Wk.refl _) (WkS.cons rfl (Wk.refl _) (WkS.cons rfl (Wk.refl _) (WkS.cons rfl (Wk.refl _) (WkS.nil))))) Pf Pf)
   ·intro G15 s15 z15 hm
    refine wpD_sr ?_
    refine pu ?_
    refine ops_nt ?_
    refine wpD_seq ?_
    refine wpD_cond rfl (fun hc24 => ?_) (fun hc24 => ?_)
    ·replace hm := yes_t hc24 hm
     refine wpD_skip ?_
     refine then_normal ?_
     refine wpD_seq ?_
     refine wpD_block ?_
     refine wpD_sr ?_
     refine pu ?_
     refine pu ?_
     refine ops_n2 ?_
     iterate 3 refine pu ?_
     obtain ⟨x25, q25, hm⟩ := yes_bind hm
     refine p_elem htab rfl rfl rfl rfl rfl rfl rfl rfl rfl rfl (idx_nonneg q25) (idx_map q25) ?_
     refine p_loadEl htab rfl rfl rfl rfl rfl rfl rfl rfl ?_
     refine pu ?_
     refine ops_nt ?_
     refine wpD_cond rfl (fun hc26 => ?_) (fun hc26 => ?_)
     ·replace hm := yes_t hc26 hm
      refine wpD_sr ?_
      refine pu ?_
      refine pu ?_
      refine ops_nt ?_
      refine wpD_ret ?_
      refine block_ret ?_
      refine then_ret ?_
      have e15 := lp_done hm; subst e15; clear hm; have hm := hq15
      refine then_ret ?_
      refine block_ret ?_
      have e14 := yes_eq hm; subst e14; refine midX_inr ?_; clear hm; have hm := ho14; simp only [Sum.elim_inr] at hm
      refine then_ret ?_
      have er27 := yes_eq hm; subst er27
      refine rP (t' := [(4, .v (.int .i64 s15))]) [] [] 0 (wC wN) (lT lN) ?_
      exact ⟨rfl, rfl, rfl⟩
     ·replace hm := yes_f hc26 hm
      refine wpD_skip ?_
      refine block_normal ?_
      refine then_normal ?_
      refine wpD_region ?_
      refine pu ?_
      refine pu ?_
      refine ops_nil ?_
      refine then_normal ⟨_, lp_next hm, ?_⟩
      exact WkX.of () (WkS.perm (WkS.cons rfl (Wk.refl _) (WkS.cons rfl (Wk.refl _) (WkS.cons rfl (Wk.refl _) (WkS.cons rfl (Wk.refl _) (WkS.nil))))) Pf Pf)
    ·replace hm := yes_f hc24 hm
     refine wpD_exit ?_
     refine then_exit ?_
     have e15 := lp_done hm; subst e15; clear hm; have hm := hq15
     refine then_exit ?_
     refine block_hit ?_
     have e14 := yes_eq hm; subst e14
     refine midX_inl ?_
     exact WkX.of () (WkS.perm (WkS.nil) Pf Pf)
  ·intro y14 s14 hx14 hw14; subst hx14; clear hm; have hm := ho14; simp only [Sum.elim_inl] at hm; clear q14 ho14
   refine then_normal ?_
   refine wpD_wkX hw14 (fun z14 => ?_)
   refine wpD_sr ?_
   refine pu ?_
   refine ops_nt ?_
   refine wpD_ret ?_
   have er28 := yes_eq hm; subst er28
   refine rP (t' := [(4, .v (.int .i64 (-1 : Int)))]) [] [] 0 (wC wN) (lT lN) ?_
   exact ⟨rfl, rfl, rfl⟩
noncomputable def slices_Contains_string_string (a0 : List ByteArray) (a1 : ByteArray) : Option (Bool) :=
  ((slices_Index_string_string a0 a1).bind fun x1 => some (decide ((0 : Int) ≤ x1)))
set_option maxRecDepth 100000 in
set_option maxHeartbeats 2000000 in
theorem slices_Contains_string_string_ok (a0 : List ByteArray) (a1 : ByteArray) (r : Bool) (h0 : slices_Contains_string_string a0 a1 = some r) : CallsD Try.prog 79 [.lst 1 (a0.map eStr) .no, .v (.string a1)] [] [] (fun d h k => d = .v (.bool r) ∧ h = [] ∧ k = []) := by
  have hm := yes_of h0
  unfold slices_Contains_string_string at hm
  clear h0
  refine enterX htab Try.func79 rfl rfl rfl rfl rfl (fun C => ?_)
  refine wpD_sr ?_
  refine pu ?_
  refine ops_n2 ?_
  refine pu ?_
  refine pu ?_
  obtain ⟨x1, q1, hm⟩ := yes_bind hm
  refine p_call0 (slices_Index_string_string_ok a0 a1 x1 q1) rfl rfl rfl rfl rfl Wl ?_
  rintro _ rfl
  refine pu ?_
  refine pu ?_
  refine ops_nt ?_
  refine wpD_ret ?_
  have er2 := yes_eq hm; subst er2
  refine rP (t' := [(4, .v (.bool (decide ((0 : Int) ≤ x1))))]) [] [] 0 (wC wN) (lT lN) ?_
  exact ⟨rfl, rfl, rfl⟩
noncomputable def token_Word (a0 : ByteArray) : Option (Bool) :=
  ((slices_Contains_string_string ([(ByteArray.mk #[105, 110, 116]), (ByteArray.mk #[105, 102]), (ByteArray.mk #[101, 108, 115, 101]), (ByteArray.mk #[119, 104, 105, 108, 101]), (ByteArray.mk #[114, 101, 116, 117, 114, 110]), (ByteArray.mk #[97, 115, 115, 101, 114, 116]), (ByteArray.mk #[105, 110, 112, 117, 116]), (ByteArray.mk #[110, 117, 108, 108])] : List ByteArray) a0).bind fun x1 => some x1)
set_option maxRecDepth 100000 in
set_option maxHeartbeats 2000000 in
theorem token_Word_ok (a0 : ByteArray) (r : Bool) (h0 : token_Word a0 = some r) : CallsD Try.prog 78 [.v (.string a0)] [] [] (fun d h k => d = .v (.bool r) ∧ h = [] ∧ k = []) := by
  have hm := yes_of h0
  unfold token_Word at hm
  clear h0
  refine enterX htab Try.func78 rfl rfl rfl rfl rfl (fun C => ?_)
  refine wpD_sr ?_
  refine pu ?_
  refine ops_n2 ?_
  refine p_lit htab rfl rfl rfl rfl rfl rfl rfl rfl rfl rfl rfl rfl rfl rfl ?_
  refine p_eq (i := 3) (d' := .lst 1 (([(ByteArray.mk #[105, 110, 116]), (ByteArray.mk #[105, 102]), (ByteArray.mk #[101, 108, 115, 101]), (ByteArray.mk #[119, 104, 105, 108, 101]), (ByteArray.mk #[114, 101, 116, 117, 114, 110]), (ByteArray.mk #[97, 115, 115, 101, 114, 116]), (ByteArray.mk #[105, 110, 112, 117, 116]), (ByteArray.mk #[110, 117, 108, 108])] : List ByteArray).map eStr) .full) rfl (Wk.lst0 (.cons (WkC.refl _) (.cons (WkC.refl _) (.cons (WkC.refl _) (.cons (WkC.refl _) (.cons (WkC.refl _) (.cons (WkC.refl _) (.cons (WkC.refl _) (.cons (WkC.refl _) (.nil)))))))))) ?_
  refine pu ?_
  obtain ⟨x1, q1, hm⟩ := yes_bind hm
  refine p_call0 (slices_Contains_string_string_ok ([(ByteArray.mk #[105, 110, 116]), (ByteArray.mk #[105, 102]), (ByteArray.mk #[101, 108, 115, 101]), (ByteArray.mk #[119, 104, 105, 108, 101]), (ByteArray.mk #[114, 101, 116, 117, 114, 110]), (ByteArray.mk #[97, 115, 115, 101, 114, 116]), (ByteArray.mk #[105, 110, 112, 117, 116]), (ByteArray.mk #[110, 117, 108, 108])] : List ByteArray) a0 x1 q1) rfl rfl rfl rfl rfl (WkL.cons (Wk.no) (WkL.cons (Wk.refl _) Wl)) ?_
  rintro _ rfl
  refine pu ?_
  refine ops_nt ?_
  refine wpD_ret ?_
  have er2 := yes_eq hm; subst er2
  refine rP (t' := [(2, .v (.bool x1))]) [] [] 0 (wC wN) (lT lN) ?_
  exact ⟨rfl, rfl, rfl⟩
abbrev nlGm1_2 : List (List Nat) := [[],[],[1],[1,2],[1,2,3],[],[],[6],[6,7],[6,7,8],[],[10],[10,11],[10,11,12],[],[14],[14,15],[14,15,16],[],[14,15,16,17],[6,7,8,9,10,11,12,13,14,15,16,17],[6,7,8,9,10,11,12,13,14,15,16,17,20],[],[],[23],[23,24],[23,24,25],[6,7,8,9,10,11,12,13,14,15,16,17,20,21,23,24,25,26],[6,7,8,9,10,11,12,13,14,15,16,17,20,21,23,24,25,26,27],[1,2,3,4,6,7,8,9,10,11,12,13,14,15,16,17,20,21,23,24,25,26,27,28]]
abbrev nlGm1_3 : List (List Nat) := [[],[],[1],[1,2],[1,2,3],[],[],[6],[6,7],[6,7,8],[],[10],[10,11],[10,11,12],[],[14],[14,15],[14,15,16],[],[14,15,16,17,18],[6,7,8,9,10,11,12,13,14,15,16,17,18,19],[6,7,8,9,10,11,12,13,14,15,16,17,18,19,20],[],[],[23],[23,24],[23,24,25],[5,6,7,8,9,10,11,12,13,14,15,16,17,18,19,20,21,22,23,24,25,26],[5,6,7,8,9,10,11,12,13,14,15,16,17,18,19,20,21,22,23,24,25,26,27],[1,2,3,4,5,6,7,8,9,10,11,12,13,14,15,16,17,18,19,20,21,22,23,24,25,26,27,28],[0,1,2,3,4,5,6,7,8,9,10,11,12,13,14,15,16,17,18,19,20,21,22,23,24,25,26,27,28,29],[0,1,2,3,4,5,6,7,8,9,10,11,12,13,14,15,16,17,18,19,20,21,22,23,24,25,26,27,28,29,30],[0,1,2,3,4,5,6,7,8,9,10,11,12,13,14,15,16,17,18,19,20,21,22,23,24,25,26,27,28,29,30,31]]
noncomputable def token_reader_add (m0 : TTokenReader) (a1 : Int) (a2 : Int) (a3 : Int) : Option (Int × TTokenReader) :=
  (bif (decide ((4000 : Int) ≤ (m0.gL.length : Int))) then some ((6 : Int), m0) else ((cutL m0.gB m0.gAt (IntKind.i64.wrap (m0.gAt + a2))).bind fun x4 => ((app 40 m0.gL ([(⟨a1, (ByteArray.mk x4.toArray), a3, m0.gAt⟩ : TApiToken)] : List TApiToken)).bind fun x5 => some ((0 : Int), (⟨m0.gB, (IntKind.i64.wrap (m0.gAt + a2)), x5⟩ : TTokenReader)))))
set_option maxRecDepth 100000 in
set_option maxHeartbeats 2000000 in
theorem token_reader_add_ok (m0 : TTokenReader) (a1 : Int) (a2 : Int) (a3 : Int) (o0 : Nat) (T0 : TypeId) (c0_0 : Cap) (k0_2 : Value) (r : Int × TTokenReader) (h0 : token_reader_add m0 a1 a2 a3 = some r) : CallsD Try.prog 68 [.ptr o0 0, .v (.int .i64 a1), .v (.int .i64 a2), .v (.int .i64 a3)] [(o0, Blk.cells [.lst 1 (m0.gB.map byteD) c0_0, .v (.int .i64 m0.gAt), .lst 4 (m0.gL.map eTApiToken) (.cur k0_2)] T0)] [(4, k0_2)] (fun d h k => ∃ y0, d = .v (.int .i64 r.1) ∧ h = [(o0, Blk.cells [.lst 1 (r.2.gB.map byteD) c0_0, .v (.int .i64 r.2.gAt), .lst 4 (r.2.gL.map eTApiToken) (.cur y0)] T0)] ∧ k = [(4, y0)]) := by
  have hm := yes_of h0
  unfold token_reader_add at hm
  clear h0
  refine enterX htab Try.func68 rfl rfl rfl rfl rfl (fun C => ?_)
  refine wpD_sr ?_
  refine pu ?_
  refine ops_nt ?_
  refine wpD_seq ?_
  refine wpD_sr ?_
  iterate 3 refine pu ?_
  refine pL 0 ?_
  refine p_lenL htab rfl rfl rfl rfl rfl rfl rfl (by first | exact map_len | rfl) ?_
  refine pu ?_
  refine ops_nt ?_
  refine wpD_cond rfl (fun hc2 => ?_) (fun hc2 => ?_)
  ·replace hm := yes_t hc2 hm
   refine wpD_sr ?_
   refine pu ?_
   refine ops_nt ?_
   refine wpD_ret ?_
   refine then_ret ?_
   have er3 := yes_eq hm; subst er3
   refine rP (t' := [(8, .v (.int .i64 (6 : Int)))]) [0] [0] 1 (wC wN) (lT lN) ?_
   exact ⟨k0_2, rfl, rfl, rfl⟩
  ·replace hm := yes_f hc2 hm
   refine wpD_skip ?_
   refine then_normal ?_
   refine wpD_seq ?_
   obtain ⟨x4, q4, hm⟩ := yes_bind hm
   obtain ⟨x5, q5, hm⟩ := yes_bind hm
   refine wpD_app 30 [] nlGm1_2 [0,1,2,3,4,6,7,8,9,10,11,12,13,14,15,16,17,20,21,23,24,25,26,27,28,29] nlGm1_3 29 4 0 (by kernel_rfl) (by kernel_rfl) (by kernel_rfl) (by rfl) (by rfl) (by kernel_rfl) rfl ?_
   iterate 26 apply Exists.intro
   refine ⟨.any, ?_⟩
   intro bs v5
   iterate 4 refine zh_e rfl rfl (ex_pure htab rfl) rfl rfl rfl rfl rfl rfl rfl rfl ?_
   refine zh_M rfl rfl (fun _ => xm_load 0 htab rfl rfl rfl rfl rfl) (offB rfl) rfl rfl rfl rfl rfl rfl rfl rfl ?_
   refine zh_q rfl rfl (ex_pure htab rfl) rfl rfl rfl rfl rfl rfl ?_
   iterate 3 refine zh_e rfl rfl (ex_pure htab rfl) rfl rfl rfl rfl rfl rfl rfl rfl ?_
   refine zh_M rfl rfl (fun _ => xm_load 0 htab rfl rfl rfl rfl rfl) (offB rfl) rfl rfl rfl rfl rfl rfl rfl rfl ?_
   iterate 3 refine zh_e rfl rfl (ex_pure htab rfl) rfl rfl rfl rfl rfl rfl rfl rfl ?_
   refine zh_M rfl rfl (fun _ => xm_load 0 htab rfl rfl rfl rfl rfl) (offB rfl) rfl rfl rfl rfl rfl rfl rfl rfl ?_
   iterate 3 refine zh_e rfl rfl (ex_pure htab rfl) rfl rfl rfl rfl rfl rfl rfl rfl ?_
   refine zh_M rfl rfl (fun _ => xm_load 0 htab rfl rfl rfl rfl rfl) (offB rfl) rfl rfl rfl rfl rfl rfl rfl rfl ?_
   refine zh_q rfl rfl (ex_pure htab rfl) rfl rfl rfl rfl rfl rfl ?_
   refine zh_q rfl rfl (ex_pure htab rfl) rfl rfl rfl rfl rfl rfl ?_
   refine zh_e rfl rfl (x_cut q4 htab rfl rfl rfl rfl rfl rfl rfl rfl rfl rfl) rfl rfl rfl rfl rfl rfl rfl rfl ?_
   refine zh_E rfl rfl (x_toStr htab rfl rfl rfl rfl rfl rfl rfl rfl) rfl rfl rfl rfl rfl rfl rfl rfl ?_
   refine zh_q rfl rfl (ex_pure htab rfl) rfl rfl rfl rfl rfl rfl ?_
   iterate 3 refine zh_e rfl rfl (ex_pure htab rfl) rfl rfl rfl rfl rfl rfl rfl rfl ?_
   refine zh_M rfl rfl (fun _ => xm_load 0 htab rfl rfl rfl rfl rfl) (offB rfl) rfl rfl rfl rfl rfl rfl rfl rfl ?_
   refine zh_e rfl rfl (x_build (r := [.v (.int .i64 a1), .v (.string (ByteArray.mk x4.toArray)), .v (.int .i64 a3), .v (.int .i64 m0.gAt)]) htab rfl rfl rfl rfl rfl rfl) rfl rfl rfl rfl rfl rfl rfl rfl ?_
   refine zh_E rfl rfl (ExE.wk (x_lit htab rfl rfl rfl rfl rfl rfl rfl rfl rfl rfl rfl) (show Wk _ (.lst 4 (([(⟨a1, (ByteArray.mk x4.toArray), a3, m0.gAt⟩ : TApiToken)] : List TApiToken).map eTApiToken) .full) from Wk.lst0 (.cons (WkC.refl _) (.nil)))) rfl rfl rfl rfl rfl rfl rfl rfl ?_
   refine zh_app htab rfl rfl rfl rfl rfl rfl rfl rfl (rep_of rfl) rfl (app_kC rfl) (perm_at (j := 0) rfl) rfl rfl rfl rfl rfl rfl rfl rfl rfl (app_bound q5) (app_map q5) ?_
   refine zh_nil rfl rfl rfl rfl (fun e he => by simp [isAl] at he) ?_
   refine pu ?_
   refine pu ?_
   refine pS0 (ds' := [.lst 1 (m0.gB.map byteD) c0_0, .v (.int .i64 m0.gAt), .lst 4 (x5.map eTApiToken) (.cur v5)]) ?_
   refine ops_n2 ?_
   iterate 3 refine pu ?_
   refine pL 0 ?_
   iterate 4 refine pu ?_
   refine pS0 (ds' := [.lst 1 (m0.gB.map byteD) c0_0, .v (.int .i64 (IntKind.i64.wrap (m0.gAt + a2))), .lst 4 (x5.map eTApiToken) (.cur v5)]) ?_
   refine ops_n2 ?_
   refine pu ?_
   refine ops_nt ?_
   refine wpD_ret ?_
   have er6 := yes_eq hm; subst er6
   refine rP (t' := [(8, .v (.int .i64 (0 : Int)))]) [0] [0] 1 (wC wN) (lT lN) ?_
   exact ⟨v5, rfl, rfl, rfl⟩
abbrev nlGm1_4 : List (List Nat) := [[],[0],[0,1],[0,1,2],[],[4],[4,5],[4,5,6],[],[8],[8,9],[8,9,10],[],[8,9,10,11,12],[0,1,2,3,4,5,6,7,8,9,10,11,12,13],[0,1,2,3,4,5,6,7,8,9,10,11,12,13,14],[0,1,2,3,4,5,6,7,8,9,10,11,12,13,14,15]]
noncomputable def token_reader_name (m0 : TTokenReader) : Option (Int × TTokenReader) :=
  ((token_reader_span m0 true).bind fun x1 => ((cutL m0.gB m0.gAt (IntKind.i64.wrap (m0.gAt + x1))).bind fun x2 => (bif (decide ((20 : Int) < x1)) then some ((6 : Int), m0) else ((token_Word (ByteArray.mk x2.toArray)).bind fun x15 => (bif x15 then ((token_reader_add m0 (3 : Int) x1 (0 : Int)).bind fun x21 => some (x21.1, x21.2)) else ((token_reader_add m0 (1 : Int) x1 (0 : Int)).bind fun x24 => some (x24.1, x24.2)))))))
set_option maxRecDepth 100000 in
set_option maxHeartbeats 2000000 in
theorem token_reader_name_ok (m0 : TTokenReader) (o0 : Nat) (T0 : TypeId) (c0_0 : Cap) (k0_2 : Value) (r : Int × TTokenReader) (h0 : token_reader_name m0 = some r) : CallsD Try.prog 65 [.ptr o0 0] [(o0, Blk.cells [.lst 1 (m0.gB.map byteD) c0_0, .v (.int .i64 m0.gAt), .lst 4 (m0.gL.map eTApiToken) (.cur k0_2)] T0)] [(4, k0_2)] (fun d h k => ∃ y0, d = .v (.int .i64 r.1) ∧ h = [(o0, Blk.cells [.lst 1 (r.2.gB.map byteD) c0_0, .v (.int .i64 r.2.gAt), .lst 4 (r.2.gL.map eTApiToken) (.cur y0)] T0)] ∧ k = [(4, y0)]) := by
  have hm := yes_of h0
  unfold token_reader_name at hm
  clear h0
  refine enterX htab Try.func65 rfl rfl rfl rfl rfl (fun C => ?_)
  refine wpD_sr ?_
  refine pu ?_
  refine ops_n2 ?_
  refine pu ?_
  obtain ⟨x1, q1, hm⟩ := yes_bind hm
  refine pG (token_reader_span_ok m0 true o0 T0 c0_0 (.cur k0_2) x1 q1) Wl Pf Pf ?_
  rintro _ _ _ ⟨rfl, rfl, rfl⟩
  refine pu ?_
  refine ops_nt ?_
  refine wpD_seq ?_
  refine wpD_draws 14 [] [[],[0],[0,1],[0,1,2],[],[4],[4,5],[4,5,6],[],[8],[8,9],[8,9,10],[],[8,9,10]] [0,1,2,3,4,5,6,8,9,10] nlGm1_4 (by kernel_rfl) (by kernel_rfl) (by kernel_rfl) (by rfl) (by rfl) (by kernel_rfl) ?_
  iterate 10 apply Exists.intro
  intro bs
  iterate 3 refine zep ?_
  refine z_eM rfl rfl (xm_load 0 htab rfl rfl rfl rfl rfl) rfl rfl rfl rfl rfl rfl ?_
  iterate 3 refine zep ?_
  refine z_qM rfl rfl (xm_load 0 htab rfl rfl rfl rfl rfl) rfl rfl rfl rfl rfl rfl ?_
  iterate 3 refine zep ?_
  refine z_qM rfl rfl (xm_load 0 htab rfl rfl rfl rfl rfl) rfl rfl rfl rfl rfl rfl ?_
  refine zqp ?_
  refine zqp ?_
  refine z_nil rfl rfl (fun e he => by simp [isAl] at he) ?_
  obtain ⟨x2, q2, hm⟩ := yes_bind hm
  refine p_cut q2 htab rfl rfl rfl rfl rfl rfl rfl rfl rfl rfl rfl rfl rfl ?_
  refine p_toStr htab rfl rfl rfl rfl rfl rfl rfl rfl rfl rfl rfl ?_
  refine pu ?_
  refine ops_nt ?_
  refine wpD_seq ?_
  refine wpD_block ?_
  refine wpD_sr ?_
  iterate 3 refine pu ?_
  refine ops_nt ?_
  refine wpD_cond rfl (fun hc13 => ?_) (fun hc13 => ?_)
  ·replace hm := yes_t hc13 hm
   refine wpD_sr ?_
   refine pu ?_
   refine ops_nt ?_
   refine wpD_ret ?_
   refine block_ret ?_
   refine then_ret ?_
   have er14 := yes_eq hm; subst er14
   refine rP (t' := [(2, .v (.int .i64 (6 : Int)))]) [0] [0] 1 (wC wN) (lT lN) ?_
   exact ⟨k0_2, rfl, rfl, rfl⟩
  ·replace hm := yes_f hc13 hm
   refine wpD_sr ?_
   refine pu ?_
   obtain ⟨x15, q15, hm⟩ := yes_bind hm
   refine p_call0 (token_Word_ok (ByteArray.mk x2.toArray) x15 q15) rfl rfl rfl rfl rfl Wl ?_
   rintro _ rfl
   refine pu ?_
   refine ops_nt ?_
   refine wpD_cond rfl (fun hc19 => ?_) (fun hc19 => ?_)
   ·replace hm := yes_t hc19 hm
    refine wpD_sr ?_
    refine pu ?_
    refine pu ?_
    obtain ⟨x21, q21, hm⟩ := yes_bind hm
    refine pG (token_reader_add_ok m0 (3 : Int) x1 (0 : Int) o0 T0 c0_0 k0_2 x21 q21) Wl Pf Pf ?_
    rintro _ _ _ ⟨w20, rfl, rfl, rfl⟩
    refine pu ?_
    refine ops_nt ?_
    refine wpD_ret ?_
    refine block_ret ?_
    refine then_ret ?_
    have er22 := yes_eq hm; subst er22
    refine rP (t' := [(2, .v (.int .i64 x21.1))]) [0] [0] 1 (wC wN) (lT lN) ?_
    exact ⟨w20, rfl, rfl, rfl⟩
   ·replace hm := yes_f hc19 hm
    refine wpD_skip ?_
    refine block_normal ?_
    refine then_normal ?_
    refine wpD_sr ?_
    refine pu ?_
    refine pu ?_
    obtain ⟨x24, q24, hm⟩ := yes_bind hm
    refine pG (token_reader_add_ok m0 (1 : Int) x1 (0 : Int) o0 T0 c0_0 k0_2 x24 q24) Wl Pf Pf ?_
    rintro _ _ _ ⟨w23, rfl, rfl, rfl⟩
    refine pu ?_
    refine ops_nt ?_
    refine wpD_ret ?_
    have er25 := yes_eq hm; subst er25
    refine rP (t' := [(2, .v (.int .i64 x24.1))]) [0] [0] 1 (wC wN) (lT lN) ?_
    exact ⟨w23, rfl, rfl, rfl⟩
abbrev nlGm1_5 : List (List Nat) := [[],[0],[],[0,1,2],[0,1,2,3],[0,1,2,3,4],[0,1,2,3,4,5],[0,1,2,3,4,5,6],[0,1,2,3,4,5,6,7],[0,1,2,3,4],[0,1,2,3,4,9],[0,1,2,3,4,9,10],[0,1,2,3,4,9,10,11],[0,1,2,3,4,5,6,7,8,9,10,11,12],[0,1,2,3,4,5,6,7,8,9,10,11,12,13],[0,1,2,3,4,5,6,7,8,9,10,11,12,13,14],[0,1,2,3,4,5,6,7,8,9,10,11,12,13,14,15],[0,1,2,3,4,5,6,7,8,9,10,11,12,13,14,15,16],[0,1,2,3,4,5,6,7,8,9,10,11,12,13,14,15,16,17],[0,1,2,3,4,5,6,7,8,9,10,11,12,13,14,15,16,17,18],[0,1,2,3,4,5,6,7,8,9,10,11,12,13,14,15,16,17,18,19]]
noncomputable def token_reader_number (m0 : TTokenReader) : Option (Int × TTokenReader) :=
  (bif (decide ((4000 : Int) ≤ (m0.gL.length : Int))) then some ((6 : Int), m0) else ((token_reader_span m0 false).bind fun x4 => (Option.bind (α := Bool) ((token_reader_span m0 true).bind fun x10 => (bif (decide (x4 < x10)) then some true else ((idx m0.gB m0.gAt).bind fun x12 => (bif ((x12.toNat : Int) == (48 : Int)) then some (decide ((1 : Int) < x4)) else some false)))) fun y9 => (bif y9 then some ((3 : Int), m0) else ((cutL m0.gB m0.gAt (IntKind.i64.wrap (m0.gAt + x4))).bind fun x17 => (Option.bind (α := (Int) ⊕ (Int × TTokenReader)) (loopM (fun (s33 : Int × Int) => (bif (decide (s33.2 < (x17.length : Int))) then ((idx x17 s33.2).bind fun x43 => (bif (decide ((IntKind.u64.wrap ((IntKind.u64.wrap ((9223372036854775807 : Int) - (IntKind.u64.wrap (IntKind.u8.wrap ((x43.toNat : Int) - (48 : Int)))))).tdiv (10 : Int))) < s33.1)) then some (.done (.inr ((4 : Int), m0))) else some (.next ((IntKind.u64.wrap ((IntKind.u64.wrap ((10 : Int) * s33.1)) + (IntKind.u64.wrap (IntKind.u8.wrap ((x43.toNat : Int) - (48 : Int)))))), (IntKind.i64.wrap (s33.2 + (1 : Int))))))) else some (.done (.inl s33.1)))) ((0 : Int), (0 : Int))) (Sum.elim (fun y32 => ((token_reader_add m0 (2 : Int) x4 (IntKind.i64.wrap y32)).bind fun x47 => some (x47.1, x47.2))) (fun r => some r))))))))
set_option maxRecDepth 100000 in
set_option maxHeartbeats 2000000 in
theorem token_reader_number_ok (m0 : TTokenReader) (o0 : Nat) (T0 : TypeId) (c0_0 : Cap) (k0_2 : Value) (r : Int × TTokenReader) (h0 : token_reader_number m0 = some r) : CallsD Try.prog 66 [.ptr o0 0] [(o0, Blk.cells [.lst 1 (m0.gB.map byteD) c0_0, .v (.int .i64 m0.gAt), .lst 4 (m0.gL.map eTApiToken) (.cur k0_2)] T0)] [(4, k0_2)] (fun d h k => ∃ y0, d = .v (.int .i64 r.1) ∧ h = [(o0, Blk.cells [.lst 1 (r.2.gB.map byteD) c0_0, .v (.int .i64 r.2.gAt), .lst 4 (r.2.gL.map eTApiToken) (.cur y0)] T0)] ∧ k = [(4, y0)]) := by
  have hm := yes_of h0
  unfold token_reader_number at hm
  clear h0
  refine enterX htab Try.func66 rfl rfl rfl rfl rfl (fun C => ?_)
  refine wpD_sr ?_
  refine pu ?_
  refine ops_nt ?_
  refine wpD_seq ?_
  refine wpD_sr ?_
  iterate 3 refine pu ?_
  refine pL 0 ?_
  refine p_lenL htab rfl rfl rfl rfl rfl rfl rfl (by first | exact map_len | rfl) ?_
  refine pu ?_
  refine ops_nt ?_
  refine wpD_cond rfl (fun hc2 => ?_) (fun hc2 => ?_)
  ·replace hm := yes_t hc2 hm
   refine wpD_sr ?_
   refine pu ?_
   refine ops_nt ?_
   refine wpD_ret ?_
   refine then_ret ?_
   have er3 := yes_eq hm; subst er3
   refine rP (t' := [(2, .v (.int .i64 (6 : Int)))]) [0] [0] 1 (wC wN) (lT lN) ?_
   exact ⟨k0_2, rfl, rfl, rfl⟩
  ·replace hm := yes_f hc2 hm
   refine wpD_skip ?_
   refine then_normal ?_
   refine wpD_sr ?_
   refine pu ?_
   obtain ⟨x4, q4, hm⟩ := yes_bind hm
   refine pG (token_reader_span_ok m0 false o0 T0 c0_0 (.cur k0_2) x4 q4) Wl Pf Pf ?_
   rintro _ _ _ ⟨rfl, rfl, rfl⟩
   refine pu ?_
   refine ops_nt ?_
   refine wpD_seq ?_
   refine wpD_seq ?_
   obtain ⟨y9, q9, ho9⟩ := yes_bind hm
   refine wpD_mid (Y := Unit) (fun z9 => (⟨[(0, .ptr o0 0), (3, .v (.int .i64 x4)), (36, .v (.bool y9))], [(o0, Blk.cells [.lst 1 (m0.gB.map byteD) c0_0, .v (.int .i64 m0.gAt), .lst 4 (m0.gL.map eTApiToken) (.cur k0_2)] T0)], [(4, k0_2)]⟩ : S)) ?_ ?_
   ·clear hm; have hm := yes_of q9
    obtain ⟨x10, q10, hm⟩ := yes_bind hm
    refine bycB (decide (x4 < x10)) (fun hs11 => ?_) (fun hs11 => ?_)
    ·replace hm := yes_t hs11 hm
     refine wpD_draws 13 [] [[],[0],[],[0,1],[0,1],[0,1],[0,1],[0,1],[0,1],[0,1],[0,1],[0,1],[0,1]] [0,1] nlGm1_5 (by kernel_rfl) (by kernel_rfl) (by kernel_rfl) (by rfl) (by rfl) (by kernel_rfl) ?_
     apply Exists.intro
     apply Exists.intro
     intro bs
     refine zep ?_
     refine z_callB 0 rfl rfl (token_reader_span_ok m0 true o0 T0 c0_0 (.cur k0_2) x10 q10) rfl rfl Wl rfl rfl rfl rfl rfl rfl rfl ?_
     iterate 3 refine zqp ?_
     refine z_known (j := 20) (b' := true) rfl hs11 ?_
     iterate 8 refine zK ?_
     refine z_nil rfl rfl (fun e he => by simp [isAl] at he) ?_
     iterate 7 refine pK ?_
     refine p_pickT rfl rfl rfl rfl rfl rfl ?_
     refine ops_nil ?_
     have e9 := yes_eq hm; subst e9
     refine ⟨rfl, ?_⟩
     exact WkX.of () (WkS.perm (WkS.cons rfl (Wk.refl _) (WkS.cons rfl (Wk.refl _) (WkS.cons rfl (Wk.refl _) (WkS.nil)))) Pf Pf)
    ·replace hm := yes_f hs11 hm
     refine wpD_draws 13 [] [[],[0],[],[0,1],[0,1],[0,1],[0,1,5],[0,1,5,6],[0,1,5,6,7],[0,1],[0,1,9],[0,1,9,10],[0,1,9,10,11]] [0,1,5,6,7,8,9,10,11] nlGm1_5 (by kernel_rfl) (by kernel_rfl) (by kernel_rfl) (by rfl) (by rfl) (by kernel_rfl) ?_
     iterate 9 apply Exists.intro
     intro bs
     refine zep ?_
     refine z_callB 0 rfl rfl (token_reader_span_ok m0 true o0 T0 c0_0 (.cur k0_2) x10 q10) rfl rfl Wl rfl rfl rfl rfl rfl rfl rfl ?_
     iterate 3 refine zqp ?_
     refine z_known (j := 20) (b' := false) rfl hs11 ?_
     iterate 3 refine zep ?_
     refine z_eM rfl rfl (xm_load 0 htab rfl rfl rfl rfl rfl) rfl rfl rfl rfl rfl rfl ?_
     iterate 3 refine zep ?_
     refine z_qM rfl rfl (xm_load 0 htab rfl rfl rfl rfl rfl) rfl rfl rfl rfl rfl rfl ?_
     refine z_nil rfl rfl (fun e he => by simp [isAl] at he) ?_
     obtain ⟨x12, q12, hm⟩ := yes_bind hm
     refine p_elem htab rfl rfl rfl rfl rfl rfl rfl rfl rfl rfl (idx_nonneg q12) (idx_map q12) ?_
     refine p_loadEl htab rfl rfl rfl rfl rfl rfl rfl rfl ?_
     refine pu ?_
     refine pu ?_
     refine p_split (i := 32) rfl (fun hg13 => ?_) (fun hg13 => ?_)
     ·replace hm := yes_t hg13 hm
      refine pu ?_
      refine pu ?_
      refine p_pickT rfl rfl rfl rfl rfl rfl ?_
      refine p_pickF rfl rfl rfl rfl rfl rfl ?_
      refine ops_nil ?_
      have e9 := yes_eq hm; subst e9
      refine ⟨rfl, ?_⟩
      exact WkX.of () (WkS.perm (WkS.cons rfl (Wk.refl _) (WkS.cons rfl (Wk.refl _) (WkS.cons rfl (Wk.refl _) (WkS.nil)))) Pf Pf)
     ·replace hm := yes_f hg13 hm
      refine pK ?_
      refine pK ?_
      refine p_pickF rfl rfl rfl rfl rfl rfl ?_
      refine p_pickF rfl rfl rfl rfl rfl rfl ?_
      refine ops_nil ?_
      have e9 := yes_eq hm; subst e9
      refine ⟨rfl, ?_⟩
      exact WkX.of () (WkS.perm (WkS.cons rfl (Wk.refl _) (WkS.cons rfl (Wk.refl _) (WkS.cons rfl (Wk.refl _) (WkS.nil)))) Pf Pf)
   ·intro s9 hw9; clear hm; have hm := ho9; clear q9 ho9
    refine then_normal ?_
    refine wpD_wkX hw9 (fun z9 => ?_)
    refine wpD_cond rfl (fun hc15 => ?_) (fun hc15 => ?_)
    ·replace hm := yes_t hc15 hm
     refine wpD_sr ?_
     refine pu ?_
     refine ops_nt ?_
     refine wpD_ret ?_
     refine then_ret ?_
     have er16 := yes_eq hm; subst er16
     refine rP (t' := [(2, .v (.int .i64 (3 : Int)))]) [0] [0] 1 (wC wN) (lT lN) ?_
     exact ⟨k0_2, rfl, rfl, rfl⟩
    ·replace hm := yes_f hc15 hm
     refine wpD_skip ?_
     refine then_normal ?_
     refine wpD_sr ?_
     refine pu ?_
     refine ops_nt ?_
     refine wpD_seq ?_
     refine wpD_seq ?_
     obtain ⟨x17, q17, hm⟩ := yes_bind hm
     refine wpD_draws 17 [] [[],[0],[0,1],[0,1,2],[],[4],[4,5],[4,5,6],[],[8],[8,9],[8,9,10],[],[8,9,10],[0,1,2,3,4,5,6,8,9,10],[0,1,2,3,4,5,6,8,9,10,14],[]] [0,1,2,3,4,5,6,8,9,10,14] [[],[0],[0,1],[0,1,2],[],[4],[4,5],[4,5,6],[],[8],[8,9],[8,9,10],[],[8,9,10,11,12],[0,1,2,3,4,5,6,7,8,9,10,11,12,13],[0,1,2,3,4,5,6,7,8,9,10,11,12,13,14],[]] (by kernel_rfl) (by kernel_rfl) (by kernel_rfl) (by rfl) (by rfl) (by kernel_rfl) ?_
     iterate 11 apply Exists.intro
     intro bs
     iterate 3 refine zep ?_
     refine z_eM rfl rfl (xm_load 0 htab rfl rfl rfl rfl rfl) rfl rfl rfl rfl rfl rfl ?_
     iterate 3 refine zep ?_
     refine z_qM rfl rfl (xm_load 0 htab rfl rfl rfl rfl rfl) rfl rfl rfl rfl rfl rfl ?_
     iterate 3 refine zep ?_
     refine z_qM rfl rfl (xm_load 0 htab rfl rfl rfl rfl rfl) rfl rfl rfl rfl rfl rfl ?_
     refine zqp ?_
     refine zqp ?_
     refine z_e rfl rfl (x_cut q17 htab rfl rfl rfl rfl rfl rfl rfl rfl rfl rfl) rfl rfl rfl rfl rfl rfl ?_
     refine z_q rfl rfl (x_lenL htab rfl rfl rfl rfl (by first | exact map_len | rfl)) rfl rfl rfl rfl rfl rfl ?_
     refine zqp ?_
     refine z_nil rfl rfl (fun e he => by simp [isAl] at he) ?_
     refine ops_nt ?_
     obtain ⟨x32, q32, ho32⟩ := yes_bind hm
     refine wpD_midX (τ := Int) (Y := Unit) (fun y32 z32 => (⟨[(0, .ptr o0 0), (3, .v (.int .i64 x4)), (4, .v (.int .u64 y32))], [(o0, Blk.cells [.lst 1 (m0.gB.map byteD) c0_0, .v (.int .i64 m0.gAt), .lst 4 (m0.gL.map eTApiToken) (.cur k0_2)] T0)], [(4, k0_2)]⟩ : S)) x32 ?_ ?_
     ·clear hm; have hm := yes_of q32
      refine wpD_block ?_
      obtain ⟨u33, hl33, hq33⟩ := yes_m hm
      refine loop_M (Y := Unit) hl33 (fun s33 z33 => (⟨[(0, .ptr o0 0), (3, .v (.int .i64 x4)), (4, .v (.int .u64 s33.1)), (51, .lst 1 (x17.map byteD) .no), (52, .v (.int .i64 (x17.length : Int))), (53, .v (.int .i64 s33.2))], [(o0, Blk.cells [.lst 1 (m0.gB.map byteD) c0_0, .v (.int .i64 m0.gAt), .lst 4 (m0.gL.map eTApiToken) (.cur k0_2)] T0)], [(4, k0_2)]⟩ : S)) ?_ ?_
      ·skip
       exact WkX.of () (WkS.perm (WkS.cons rfl (Wk.refl _) (WkS.cons rfl (Wk.refl _) (WkS.cons rfl (Wk.refl _) (WkS.cons rfl (Wk.refl _) (WkS.cons rfl (Wk.refl _) (WkS.cons rfl (Wk.refl _) (WkS.nil))))))) Pf Pf)
      ·intro G33 s33 z33 hm
       refine wpD_sr ?_
       refine pu ?_
       refine ops_nt ?_
       refine wpD_seq ?_
       refine wpD_cond rfl (fun hc42 => ?_) (fun hc42 => ?_)
       ·replace hm := yes_t hc42 hm
        refine wpD_skip ?_
        refine then_normal ?_
        refine wpD_seq ?_
        refine wpD_block ?_
        refine wpD_sr ?_
        obtain ⟨x43, q43, hm⟩ := yes_bind hm
        refine p_elem htab rfl rfl rfl rfl rfl rfl rfl rfl rfl rfl (idx_nonneg q43) (idx_map q43) ?_
        refine p_loadEl htab rfl rfl rfl rfl rfl rfl rfl rfl ?_
        refine pu ?_
        refine ops_n2 ?_
        iterate 4 refine pu ?_
        refine ops_nt ?_
        refine wpD_seq ?_
        refine wpD_sr ?_
        iterate 3 refine pu ?_
        refine p_div rfl rfl rfl rfl rfl rfl rfl (by decide) ?_
        refine pu ?_
        refine ops_nt ?_
        refine wpD_cond rfl (fun hc44 => ?_) (fun hc44 => ?_)
        ·replace hm := yes_t hc44 hm
         refine wpD_sr ?_
         refine pu ?_
         refine ops_nt ?_
         refine wpD_ret ?_
         refine then_ret ?_
         refine block_ret ?_
         refine then_ret ?_
         have e33 := lp_done hm; subst e33; clear hm; have hm := hq33
         refine then_ret ?_
         refine block_ret ?_
         have e32 := yes_eq hm; subst e32; refine midX_inr ?_; clear hm; have hm := ho32; simp only [Sum.elim_inr] at hm
         refine then_ret ?_
         have er45 := yes_eq hm; subst er45
         refine rP (t' := [(2, .v (.int .i64 (4 : Int)))]) [0] [0] 1 (wC wN) (lT lN) ?_
         exact ⟨k0_2, rfl, rfl, rfl⟩
        ·replace hm := yes_f hc44 hm
         refine wpD_skip ?_
         refine then_normal ?_
         refine wpD_region ?_
         iterate 5 refine pu ?_
         refine ops_nil ?_
         refine block_normal ?_
         refine then_normal ?_
         refine wpD_region ?_
         refine pu ?_
         refine pu ?_
         refine ops_nil ?_
         refine then_normal ⟨_, lp_next hm, ?_⟩
         exact WkX.of () (WkS.perm (WkS.cons rfl (Wk.refl _) (WkS.cons rfl (Wk.refl _) (WkS.cons rfl (Wk.refl _) (WkS.cons rfl (Wk.refl _) (WkS.cons rfl (Wk.refl _) (WkS.cons rfl (Wk.refl _) (WkS.nil))))))) Pf Pf)
       ·replace hm := yes_f hc42 hm
        refine wpD_exit ?_
        refine then_exit ?_
        have e33 := lp_done hm; subst e33; clear hm; have hm := hq33
        refine then_exit ?_
        refine block_hit ?_
        have e32 := yes_eq hm; subst e32
        refine midX_inl ?_
        exact WkX.of () (WkS.perm (WkS.cons rfl (Wk.refl _) (WkS.cons rfl (Wk.refl _) (WkS.cons rfl (Wk.refl _) (WkS.nil)))) Pf Pf)
     ·intro y32 s32 hx32 hw32; subst hx32; clear hm; have hm := ho32; simp only [Sum.elim_inl] at hm; clear q32 ho32
      refine then_normal ?_
      refine wpD_wkX hw32 (fun z32 => ?_)
      refine wpD_sr ?_
      iterate 4 refine pu ?_
      obtain ⟨x47, q47, hm⟩ := yes_bind hm
      refine pG (token_reader_add_ok m0 (2 : Int) x4 (IntKind.i64.wrap y32) o0 T0 c0_0 k0_2 x47 q47) Wl Pf Pf ?_
      rintro _ _ _ ⟨w46, rfl, rfl, rfl⟩
      refine pu ?_
      refine ops_nt ?_
      refine wpD_ret ?_
      have er48 := yes_eq hm; subst er48
      refine rP (t' := [(2, .v (.int .i64 x47.1))]) [0] [0] 1 (wC wN) (lT lN) ?_
      exact ⟨w46, rfl, rfl, rfl⟩
noncomputable def token_reader_sign (m0 : TTokenReader) : Option (Int) :=
  ((cutL m0.gB m0.gAt ((m0.gB).length : Int)).bind fun x1 => (Option.bind (α := Bool) (bif (decide ((1 : Int) < (x1.length : Int))) then ((cutL x1 (0 : Int) (2 : Int)).bind fun x7 => ((slices_Contains_string_string ([(ByteArray.mk #[61, 61]), (ByteArray.mk #[33, 61]), (ByteArray.mk #[60, 61]), (ByteArray.mk #[38, 38]), (ByteArray.mk #[124, 124])] : List ByteArray) (ByteArray.mk x7.toArray)).bind fun x8 => some x8)) else some false) fun y5 => (bif y5 then some (2 : Int) else ((idx x1 (0 : Int)).bind fun x12 => (bif (decide ((0 : Int) ≤ (indexB (ByteArray.mk #[40, 41, 123, 125, 91, 93, 59, 44, 61, 60, 43, 45, 42, 47, 37, 33, 38]) (x12.toNat : Int)))) then some (1 : Int) else some (0 : Int))))))
set_option maxRecDepth 100000 in
set_option maxHeartbeats 2000000 in
theorem token_reader_sign_ok (m0 : TTokenReader) (o0 : Nat) (T0 : TypeId) (c0_0 : Cap) (c0_2 : Cap) (r : Int) (h0 : token_reader_sign m0 = some r) : CallsD Try.prog 67 [.ptr o0 0] [(o0, Blk.cells [.lst 1 (m0.gB.map byteD) c0_0, .v (.int .i64 m0.gAt), .lst 4 (m0.gL.map eTApiToken) c0_2] T0)] [] (fun d h k => d = .v (.int .i64 r) ∧ h = [(o0, Blk.cells [.lst 1 (m0.gB.map byteD) c0_0, .v (.int .i64 m0.gAt), .lst 4 (m0.gL.map eTApiToken) c0_2] T0)] ∧ k = []) := by
  have hm := yes_of h0
  unfold token_reader_sign at hm
  clear h0
  refine enterX htab Try.func67 rfl rfl rfl rfl rfl (fun C => ?_)
  refine wpD_sr ?_
  refine pu ?_
  refine ops_nt ?_
  refine wpD_seq ?_
  refine wpD_draws 8 [] [[],[0],[0,1],[0,1,2],[],[4],[4,5],[4,5,6]] [0,1,2,3,4,5,6] [[],[0],[0,1],[0,1,2],[],[4],[4,5],[4,5,6],[0,1,2,3,4,5,6,7],[0,1,2,3,4,5,6,7,8]] (by kernel_rfl) (by kernel_rfl) (by kernel_rfl) (by rfl) (by rfl) (by kernel_rfl) ?_
  iterate 7 apply Exists.intro
  intro bs
  iterate 3 refine zep ?_
  refine z_eM rfl rfl (xm_load 0 htab rfl rfl rfl rfl rfl) rfl rfl rfl rfl rfl rfl ?_
  iterate 3 refine zep ?_
  refine z_qM rfl rfl (xm_load 0 htab rfl rfl rfl rfl rfl) rfl rfl rfl rfl rfl rfl ?_
  refine z_nil rfl rfl (fun e he => by simp [isAl] at he) ?_
  obtain ⟨x1, q1, hm⟩ := yes_bind hm
  refine p_cut q1 htab rfl rfl rfl rfl rfl rfl rfl rfl rfl rfl rfl rfl rfl ?_
  refine pu ?_
  refine ops_nt ?_
  refine wpD_seq ?_
  refine wpD_seq ?_
  obtain ⟨y5, q5, ho5⟩ := yes_bind hm
  refine wpD_mid (Y := Unit) (fun z5 => (⟨[(3, .lst 1 (x1.map byteD) .no), (22, .v (.bool y5))], [(o0, Blk.cells [.lst 1 (m0.gB.map byteD) c0_0, .v (.int .i64 m0.gAt), .lst 4 (m0.gL.map eTApiToken) c0_2] T0)], []⟩ : S)) ?_ ?_
  ·clear hm; have hm := yes_of q5
   refine wpD_region ?_
   refine pu ?_
   refine p_lenL htab rfl rfl rfl rfl rfl rfl rfl (by first | exact map_len | rfl) ?_
   refine pu ?_
   refine pu ?_
   refine p_split (i := 16) rfl (fun hg6 => ?_) (fun hg6 => ?_)
   ·replace hm := yes_t hg6 hm
    refine p_lit htab rfl rfl rfl rfl rfl rfl rfl rfl rfl rfl rfl rfl rfl rfl ?_
    refine p_eq (i := 17) (d' := .lst 1 (([(ByteArray.mk #[61, 61]), (ByteArray.mk #[33, 61]), (ByteArray.mk #[60, 61]), (ByteArray.mk #[38, 38]), (ByteArray.mk #[124, 124])] : List ByteArray).map eStr) .full) rfl (Wk.lst0 (.cons (WkC.refl _) (.cons (WkC.refl _) (.cons (WkC.refl _) (.cons (WkC.refl _) (.cons (WkC.refl _) (.nil))))))) ?_
    refine pu ?_
    obtain ⟨x7, q7, hm⟩ := yes_bind hm
    refine p_cut q7 htab rfl rfl rfl rfl rfl rfl rfl rfl rfl rfl rfl rfl rfl ?_
    refine p_toStr htab rfl rfl rfl rfl rfl rfl rfl rfl rfl rfl rfl ?_
    obtain ⟨x8, q8, hm⟩ := yes_bind hm
    refine p_call0 (slices_Contains_string_string_ok ([(ByteArray.mk #[61, 61]), (ByteArray.mk #[33, 61]), (ByteArray.mk #[60, 61]), (ByteArray.mk #[38, 38]), (ByteArray.mk #[124, 124])] : List ByteArray) (ByteArray.mk x7.toArray) x8 q8) rfl rfl rfl rfl rfl (WkL.cons (Wk.no) (WkL.cons (Wk.refl _) Wl)) ?_
    rintro _ rfl
    refine p_pickT rfl rfl rfl rfl rfl rfl ?_
    refine ops_nil ?_
    have e5 := yes_eq hm; subst e5
    refine ⟨rfl, ?_⟩
    exact WkX.of () (WkS.perm (WkS.cons rfl (Wk.refl _) (WkS.cons rfl (Wk.refl _) (WkS.nil))) Pf Pf)
   ·replace hm := yes_f hg6 hm
    iterate 5 refine pK ?_
    refine p_pickF rfl rfl rfl rfl rfl rfl ?_
    refine ops_nil ?_
    have e5 := yes_eq hm; subst e5
    refine ⟨rfl, ?_⟩
    exact WkX.of () (WkS.perm (WkS.cons rfl (Wk.refl _) (WkS.cons rfl (Wk.refl _) (WkS.nil))) Pf Pf)
  ·intro s5 hw5; clear hm; have hm := ho5; clear q5 ho5
   refine then_normal ?_
   refine wpD_wkX hw5 (fun z5 => ?_)
   refine wpD_cond rfl (fun hc10 => ?_) (fun hc10 => ?_)
   ·replace hm := yes_t hc10 hm
    refine wpD_sr ?_
    refine pu ?_
    refine ops_nt ?_
    refine wpD_ret ?_
    refine then_ret ?_
    have er11 := yes_eq hm; subst er11
    refine rP (t' := [(2, .v (.int .i64 (2 : Int)))]) [0] [] 1 (wC wN) (lT lN) ?_
    exact ⟨rfl, rfl, rfl⟩
   ·replace hm := yes_f hc10 hm
    refine wpD_skip ?_
    refine then_normal ?_
    refine wpD_seq ?_
    refine wpD_sr ?_
    refine pu ?_
    obtain ⟨x12, q12, hm⟩ := yes_bind hm
    refine p_elem htab rfl rfl rfl rfl rfl rfl rfl rfl rfl rfl (idx_nonneg q12) (idx_map q12) ?_
    refine p_loadEl htab rfl rfl rfl rfl rfl rfl rfl rfl ?_
    refine p_call0 (indexB_ok (ByteArray.mk #[40, 41, 123, 125, 91, 93, 59, 44, 61, 60, 43, 45, 42, 47, 37, 33, 38]) (x12.toNat : Int)) rfl rfl rfl rfl rfl Wl ?_
    rintro _ rfl
    refine pu ?_
    refine ops_nt ?_
    refine wpD_cond rfl (fun hc13 => ?_) (fun hc13 => ?_)
    ·replace hm := yes_t hc13 hm
     refine wpD_sr ?_
     refine pu ?_
     refine ops_nt ?_
     refine wpD_ret ?_
     refine then_ret ?_
     have er14 := yes_eq hm; subst er14
     refine rP (t' := [(2, .v (.int .i64 (1 : Int)))]) [0] [] 1 (wC wN) (lT lN) ?_
     exact ⟨rfl, rfl, rfl⟩
    ·replace hm := yes_f hc13 hm
     refine wpD_skip ?_
     refine then_normal ?_
     refine wpD_sr ?_
     refine pu ?_
     refine ops_nt ?_
     refine wpD_ret ?_
     have er15 := yes_eq hm; subst er15
     refine rP (t' := [(2, .v (.int .i64 (0 : Int)))]) [0] [] 1 (wC wN) (lT lN) ?_
     exact ⟨rfl, rfl, rfl⟩
noncomputable def token_reader_next (m0 : TTokenReader) : Option (Int × TTokenReader) :=
  ((idx m0.gB m0.gAt).bind fun x1 => ((token_kind (IntKind.i32.wrap (x1.toNat : Int))).bind fun x2 => (bif (x2 == (1 : Int)) then some ((0 : Int), (⟨m0.gB, (IntKind.i64.wrap (m0.gAt + (1 : Int))), m0.gL⟩ : TTokenReader)) else (bif (x2 == (2 : Int)) then ((token_reader_name m0).bind fun x27 => some (x27.1, x27.2)) else (bif (x2 == (3 : Int)) then ((token_reader_number m0).bind fun x34 => some (x34.1, x34.2)) else ((token_reader_sign m0).bind fun x36 => (bif (x36 == (0 : Int)) then some ((3 : Int), m0) else ((token_reader_add m0 (3 : Int) x36 (0 : Int)).bind fun x41 => some (x41.1, x41.2)))))))))
set_option maxRecDepth 100000 in
set_option maxHeartbeats 2000000 in
theorem token_reader_next_ok (m0 : TTokenReader) (o0 : Nat) (T0 : TypeId) (c0_0 : Cap) (k0_2 : Value) (r : Int × TTokenReader) (h0 : token_reader_next m0 = some r) : CallsD Try.prog 53 [.ptr o0 0] [(o0, Blk.cells [.lst 1 (m0.gB.map byteD) c0_0, .v (.int .i64 m0.gAt), .lst 4 (m0.gL.map eTApiToken) (.cur k0_2)] T0)] [(4, k0_2)] (fun d h k => ∃ y0, d = .v (.int .i64 r.1) ∧ h = [(o0, Blk.cells [.lst 1 (r.2.gB.map byteD) c0_0, .v (.int .i64 r.2.gAt), .lst 4 (r.2.gL.map eTApiToken) (.cur y0)] T0)] ∧ k = [(4, y0)]) := by
  have hm := yes_of h0
  unfold token_reader_next at hm
  clear h0
  refine enterX htab Try.func53 rfl rfl rfl rfl rfl (fun C => ?_)
  refine wpD_sr ?_
  refine pu ?_
  refine ops_nt ?_
  refine wpD_seq ?_
  refine wpD_seq ?_
  refine wpD_draws 8 [] [[],[0],[0,1],[0,1,2],[],[4],[4,5],[4,5,6]] [0,1,2,3,4,5,6] [[],[0],[0,1],[0,1,2],[],[4],[4,5],[4,5,6],[0,1,2,3,4,5,6,7],[0,1,2,3,4,5,6,7,8],[0,1,2,3,4,5,6,7,8,9],[0,1,2,3,4,5,6,7,8,9,10]] (by kernel_rfl) (by kernel_rfl) (by kernel_rfl) (by rfl) (by rfl) (by kernel_rfl) ?_
  iterate 7 apply Exists.intro
  intro bs
  iterate 3 refine zep ?_
  refine z_eM rfl rfl (xm_load 0 htab rfl rfl rfl rfl rfl) rfl rfl rfl rfl rfl rfl ?_
  iterate 3 refine zep ?_
  refine z_qM rfl rfl (xm_load 0 htab rfl rfl rfl rfl rfl) rfl rfl rfl rfl rfl rfl ?_
  refine z_nil rfl rfl (fun e he => by simp [isAl] at he) ?_
  obtain ⟨x1, q1, hm⟩ := yes_bind hm
  refine p_elem htab rfl rfl rfl rfl rfl rfl rfl rfl rfl rfl (idx_nonneg q1) (idx_map q1) ?_
  refine p_loadEl htab rfl rfl rfl rfl rfl rfl rfl rfl ?_
  refine pu ?_
  obtain ⟨x2, q2, hm⟩ := yes_bind hm
  refine p_call0 (token_kind_ok (IntKind.i32.wrap (x1.toNat : Int)) x2 q2) rfl rfl rfl rfl rfl Wl ?_
  rintro _ rfl
  refine ops_nt ?_
  refine wpD_block ?_
  refine wpD_sr ?_
  refine pu ?_
  refine pu ?_
  refine ops_nt ?_
  refine wpD_cond rfl (fun hc17 => ?_) (fun hc17 => ?_)
  ·replace hm := yes_t hc17 hm
   refine wpD_sr ?_
   iterate 3 refine pu ?_
   refine pL 0 ?_
   iterate 3 refine pu ?_
   refine pS0 (ds' := [.lst 1 (m0.gB.map byteD) c0_0, .v (.int .i64 (IntKind.i64.wrap (m0.gAt + (1 : Int)))), .lst 4 (m0.gL.map eTApiToken) (.cur k0_2)]) ?_
   refine ops_n2 ?_
   refine pu ?_
   refine ops_nt ?_
   refine wpD_ret ?_
   refine block_ret ?_
   refine then_ret ?_
   have er18 := yes_eq hm; subst er18
   refine rP (t' := [(2, .v (.int .i64 (0 : Int)))]) [0] [0] 1 (wC wN) (lT lN) ?_
   exact ⟨k0_2, rfl, rfl, rfl⟩
  ·replace hm := yes_f hc17 hm
   refine wpD_sr ?_
   refine pu ?_
   refine pu ?_
   refine ops_nt ?_
   refine wpD_cond rfl (fun hc25 => ?_) (fun hc25 => ?_)
   ·replace hm := yes_t hc25 hm
    refine wpD_sr ?_
    refine pu ?_
    obtain ⟨x27, q27, hm⟩ := yes_bind hm
    refine pG (token_reader_name_ok m0 o0 T0 c0_0 k0_2 x27 q27) Wl Pf Pf ?_
    rintro _ _ _ ⟨w26, rfl, rfl, rfl⟩
    refine pu ?_
    refine ops_nt ?_
    refine wpD_ret ?_
    refine block_ret ?_
    refine then_ret ?_
    have er28 := yes_eq hm; subst er28
    refine rP (t' := [(2, .v (.int .i64 x27.1))]) [0] [0] 1 (wC wN) (lT lN) ?_
    exact ⟨w26, rfl, rfl, rfl⟩
   ·replace hm := yes_f hc25 hm
    refine wpD_sr ?_
    refine pu ?_
    refine pu ?_
    refine ops_nt ?_
    refine wpD_cond rfl (fun hc32 => ?_) (fun hc32 => ?_)
    ·replace hm := yes_t hc32 hm
     refine wpD_sr ?_
     refine pu ?_
     obtain ⟨x34, q34, hm⟩ := yes_bind hm
     refine pG (token_reader_number_ok m0 o0 T0 c0_0 k0_2 x34 q34) Wl Pf Pf ?_
     rintro _ _ _ ⟨w33, rfl, rfl, rfl⟩
     refine pu ?_
     refine ops_nt ?_
     refine wpD_ret ?_
     refine block_ret ?_
     refine then_ret ?_
     have er35 := yes_eq hm; subst er35
     refine rP (t' := [(2, .v (.int .i64 x34.1))]) [0] [0] 1 (wC wN) (lT lN) ?_
     exact ⟨w33, rfl, rfl, rfl⟩
    ·replace hm := yes_f hc32 hm
     refine wpD_skip ?_
     refine block_normal ?_
     refine then_normal ?_
     refine wpD_sr ?_
     refine pu ?_
     obtain ⟨x36, q36, hm⟩ := yes_bind hm
     refine pG (token_reader_sign_ok m0 o0 T0 c0_0 (.cur k0_2) x36 q36) Wl Pf Pf ?_
     rintro _ _ _ ⟨rfl, rfl, rfl⟩
     refine pu ?_
     refine ops_nt ?_
     refine wpD_seq ?_
     refine wpD_sr ?_
     refine pu ?_
     refine pu ?_
     refine ops_nt ?_
     refine wpD_cond rfl (fun hc38 => ?_) (fun hc38 => ?_)
     ·replace hm := yes_t hc38 hm
      refine wpD_sr ?_
      refine pu ?_
      refine ops_nt ?_
      refine wpD_ret ?_
      refine then_ret ?_
      have er39 := yes_eq hm; subst er39
      refine rP (t' := [(2, .v (.int .i64 (3 : Int)))]) [0] [0] 1 (wC wN) (lT lN) ?_
      exact ⟨k0_2, rfl, rfl, rfl⟩
     ·replace hm := yes_f hc38 hm
      refine wpD_skip ?_
      refine then_normal ?_
      refine wpD_sr ?_
      refine pu ?_
      refine pu ?_
      obtain ⟨x41, q41, hm⟩ := yes_bind hm
      refine pG (token_reader_add_ok m0 (3 : Int) x36 (0 : Int) o0 T0 c0_0 k0_2 x41 q41) Wl Pf Pf ?_
      rintro _ _ _ ⟨w40, rfl, rfl, rfl⟩
      refine pu ?_
      refine ops_nt ?_
      refine wpD_ret ?_
      have er42 := yes_eq hm; subst er42
      refine rP (t' := [(2, .v (.int .i64 x41.1))]) [0] [0] 1 (wC wN) (lT lN) ?_
      exact ⟨w40, rfl, rfl, rfl⟩
noncomputable def token_Read (a0 : List UInt8) : Option (List TApiToken × Int × Int) :=
  (bif (decide ((20000 : Int) < (a0.length : Int))) then some (([] : List TApiToken), (0 : Int), (6 : Int)) else (Option.bind (α := (List UInt8 × Int × List TApiToken) ⊕ (List TApiToken × Int × Int)) (loopM (fun (s25 : List UInt8 × Int × List TApiToken) => (bif (decide (s25.2.1 < (a0.length : Int))) then ((token_reader_next (⟨s25.1, s25.2.1, s25.2.2⟩ : TTokenReader)).bind fun x40 => (bif (x40.1 != (0 : Int)) then some (.done (.inr (([] : List TApiToken), x40.2.gAt, x40.1))) else some (.next (x40.2.gB, x40.2.gAt, x40.2.gL)))) else some (.done (.inl (s25.1, s25.2.1, s25.2.2))))) (a0, (0 : Int), ([] : List TApiToken))) (Sum.elim (fun y24 => ((app 40 y24.2.2 ([(⟨(0 : Int), ByteArray.empty, (0 : Int), (a0.length : Int)⟩ : TApiToken)] : List TApiToken)).bind fun x44 => some (x44, (0 : Int), (0 : Int)))) (fun r => some r))))
set_option maxRecDepth 100000 in
set_option maxHeartbeats 2000000 in
theorem token_Read_ok (a0 : List UInt8) (r : List TApiToken × Int × Int) (h0 : token_Read a0 = some r) : CallsD Try.prog 37 [.lst 1 (a0.map byteD) .no] [] [] (fun d h k => ∃ y0, d = .tup [.lst 4 (r.1.map eTApiToken) (.cur y0), .v (.int .i64 r.2.1), .v (.int .i64 r.2.2)] ∧ h = [] ∧ k = [(4, y0)]) := by
  have hm := yes_of h0
  unfold token_Read at hm
  clear h0
  refine enterX htab Try.func37 rfl rfl rfl rfl rfl (fun C => ?_)
  refine wpD_sr ?_
  iterate 3 refine pu ?_
  refine ops_nt ?_
  refine wpD_seq ?_
  refine wpD_sr ?_
  refine pu ?_
  refine p_lenL htab rfl rfl rfl rfl rfl rfl rfl (by first | exact map_len | rfl) ?_
  refine pu ?_
  refine ops_nt ?_
  refine wpD_cond rfl (fun hc2 => ?_) (fun hc2 => ?_)
  ·replace hm := yes_t hc2 hm
   refine wpD_sr ?_
   iterate 3 refine pu ?_
   refine ops_nt ?_
   refine wpD_ret ?_
   refine then_ret ?_
   have er3 := yes_eq hm; subst er3
   refine retX.tokN (i := 2) 4 rfl (fun w4 => ?_)
   refine rP (t' := [(2, .lst 4 (([] : List TApiToken).map eTApiToken) (.cur w4)), (3, .v (.int .i64 (0 : Int))), (4, .v (.int .i64 (6 : Int)))]) [] [0] 0 (wC (wC (wC wN))) (lT (lT (lT lN))) ?_
   exact ⟨w4, rfl, rfl, rfl⟩
  ·replace hm := yes_f hc2 hm
   refine wpD_skip ?_
   refine then_normal ?_
   refine wpD_sr ?_
   refine pu ?_
   refine p_build (r := [.lst 1 (a0.map byteD) .no, .v (.int .i64 (0 : Int)), .lst 1 [] .full]) htab rfl rfl rfl rfl rfl rfl rfl rfl rfl ?_
   refine p_box rfl rfl rfl rfl rfl rfl rfl (fun b5 => ?_)
   refine pu ?_
   refine ops_nt ?_
   refine wpD_seq ?_
   obtain ⟨x24, q24, ho24⟩ := yes_bind hm
   refine wpD_midX (τ := List UInt8 × Int × List TApiToken) (Y := Value) (fun y24 z24 => (⟨[(0, .lst 1 (a0.map byteD) .no), (5, .ptr b5 0)], [(b5, Blk.cells [.lst 1 (y24.1.map byteD) .no, .v (.int .i64 y24.2.1), .lst 4 (y24.2.2.map eTApiToken) (.cur z24)] 104)], [(4, z24)]⟩ : S)) x24 ?_ ?_
   ·clear hm; have hm := yes_of q24
    refine wpD_block ?_
    obtain ⟨u25, hl25, hq25⟩ := yes_m hm
    refine loop_M (Y := Value) hl25 (fun s25 z25 => (⟨[(0, .lst 1 (a0.map byteD) .no), (5, .ptr b5 0)], [(b5, Blk.cells [.lst 1 (s25.1.map byteD) .no, .v (.int .i64 s25.2.1), .lst 4 (s25.2.2.map eTApiToken) (.cur z25)] 104)], [(4, z25)]⟩ : S)) ?_ ?_
    ·skip
     refine WkX.cellF (off := 2) 4 0 rfl rfl (by first | exact Or.inl rfl | exact Or.inr rfl) (fun w37 => ?_)
     exact WkX.of w37 (WkS.perm (WkS.cons rfl (Wk.refl _) (WkS.cons rfl (Wk.refl _) (WkS.nil))) Pf Pf)
    ·intro G25 s25 z25 hm
     refine wpD_seq ?_
     refine wpD_sr ?_
     iterate 3 refine pu ?_
     refine pL 0 ?_
     refine pu ?_
     refine p_lenL htab rfl rfl rfl rfl rfl rfl rfl (by first | exact map_len | rfl) ?_
     refine pu ?_
     refine ops_nt ?_
     refine wpD_cond rfl (fun hc38 => ?_) (fun hc38 => ?_)
     ·replace hm := yes_t hc38 hm
      refine wpD_skip ?_
      refine then_normal ?_
      refine wpD_block ?_
      refine wpD_sr ?_
      refine pu ?_
      obtain ⟨x40, q40, hm⟩ := yes_bind hm
      refine pG (token_reader_next_ok (⟨s25.1, s25.2.1, s25.2.2⟩ : TTokenReader) b5 104 .no z25 x40 q40) Wl Pf Pf ?_
      rintro _ _ _ ⟨w39, rfl, rfl, rfl⟩
      refine pu ?_
      refine ops_n2 ?_
      refine pu ?_
      refine pu ?_
      refine ops_nt ?_
      refine wpD_cond rfl (fun hc41 => ?_) (fun hc41 => ?_)
      ·replace hm := yes_t hc41 hm
       refine wpD_seq ?_
       refine wpD_draws 7 [] [[],[0],[0,1],[0,1,2],[],[],[0,1,2,5]] [0,1,2,5] [[],[0],[0,1],[0,1,2],[],[],[0,1,2,3,5],[0,1,2,3,4,5,6]] (by kernel_rfl) (by kernel_rfl) (by kernel_rfl) (by rfl) (by rfl) (by kernel_rfl) ?_
       iterate 4 apply Exists.intro
       intro bs
       iterate 3 refine zep ?_
       refine z_qM rfl rfl (xm_load 0 htab rfl rfl rfl rfl rfl) rfl rfl rfl rfl rfl rfl ?_
       refine zqp ?_
       refine zep ?_
       refine zqp ?_
       refine z_nil rfl rfl (fun e he => by simp [isAl] at he) ?_
       refine pu ?_
       refine ops_nt ?_
       refine wpD_ret ?_
       refine block_ret ?_
       have e25 := lp_done hm; subst e25; clear hm; have hm := hq25
       refine then_ret ?_
       refine block_ret ?_
       have e24 := yes_eq hm; subst e24; refine midX_inr ?_; clear hm; have hm := ho24; simp only [Sum.elim_inr] at hm
       refine then_ret ?_
       have er42 := yes_eq hm; subst er42
       refine retX.tokN (i := 2) 4 rfl (fun w43 => ?_)
       refine rP (t' := [(2, .lst 4 (([] : List TApiToken).map eTApiToken) (.cur w43)), (3, .v (.int .i64 x40.2.gAt)), (4, .v (.int .i64 x40.1))]) [] [0] 0 (wC (wC (wC wN))) (lT (lT (lT lN))) ?_
       exact ⟨w43, rfl, rfl, rfl⟩
      ·replace hm := yes_f hc41 hm
       refine wpD_skip ?_
       refine block_normal ?_
       refine then_normal ⟨_, lp_next hm, ?_⟩
       exact WkX.of w39 (WkS.perm (WkS.cons rfl (Wk.refl _) (WkS.cons rfl (Wk.refl _) (WkS.nil))) Pf Pf)
     ·replace hm := yes_f hc38 hm
      refine wpD_exit ?_
      refine then_exit ?_
      have e25 := lp_done hm; subst e25; clear hm; have hm := hq25
      refine then_exit ?_
      refine block_hit ?_
      have e24 := yes_eq hm; subst e24
      refine midX_inl ?_
      exact WkX.of z25 (WkS.perm (WkS.cons rfl (Wk.refl _) (WkS.cons rfl (Wk.refl _) (WkS.nil))) Pf Pf)
   ·intro y24 s24 hx24 hw24; subst hx24; clear hm; have hm := ho24; simp only [Sum.elim_inl] at hm; clear q24 ho24
    refine then_normal ?_
    refine wpD_wkX hw24 (fun z24 => ?_)
    refine wpD_sr ?_
    iterate 3 refine pu ?_
    refine pL 0 ?_
    refine pu ?_
    refine p_lenL htab rfl rfl rfl rfl rfl rfl rfl (by first | exact map_len | rfl) ?_
    refine p_build (r := [.v (.int .i64 (0 : Int)), .v (.string ByteArray.empty), .v (.int .i64 (0 : Int)), .v (.int .i64 (a0.length : Int))]) htab rfl rfl rfl rfl rfl rfl rfl rfl rfl ?_
    refine p_lit htab rfl rfl rfl rfl rfl rfl rfl rfl rfl rfl rfl rfl rfl rfl ?_
    refine p_eq (i := 36) (d' := .lst 4 (([(⟨(0 : Int), ByteArray.empty, (0 : Int), (a0.length : Int)⟩ : TApiToken)] : List TApiToken).map eTApiToken) .full) rfl (Wk.lst0 (.cons (WkC.refl _) (.nil))) ?_
    obtain ⟨x44, q44, hm⟩ := yes_bind hm
    refine p_appC 0 htab rfl rfl rfl rfl rfl rfl rfl rfl rfl rfl rfl rfl rfl rfl rfl rfl rfl (app_bound q44) (fun v44 => ?_)
    refine p_mapD (i := 37) q44 rfl ?_
    iterate 3 refine pu ?_
    refine ops_nt ?_
    refine wpD_ret ?_
    have er45 := yes_eq hm; subst er45
    refine rP (t' := [(2, .lst 4 (x44.map eTApiToken) (.cur v44)), (3, .v (.int .i64 (0 : Int))), (4, .v (.int .i64 (0 : Int)))]) [] [0] 0 (wC (wC (wC wN))) (lT (lT (lT lN))) ?_
    exact ⟨v44, rfl, rfl, rfl⟩
structure TGrammarReader where
  gL : List TApiToken
  gAt : Int
  gE : Int
  gVars : Int
  gOpen : Int
noncomputable def grammar_begin (a0 : List TApiToken) (a1 : Int) : Option (TGrammarReader × Bool) :=
  (bif (decide ((0 : Int) ≤ a1)) then some ((⟨a0, a1, (0 : Int), (0 : Int), (0 : Int)⟩ : TGrammarReader), (decide (a1 ≤ (a0.length : Int)))) else some ((⟨a0, a1, (0 : Int), (0 : Int), (0 : Int)⟩ : TGrammarReader), false))
set_option maxRecDepth 100000 in
set_option maxHeartbeats 2000000 in
theorem grammar_begin_ok (a0 : List TApiToken) (a1 : Int) (r : TGrammarReader × Bool) (h0 : grammar_begin a0 a1 = some r) : CallsD Try.prog 21 [.lst 4 (a0.map eTApiToken) .no, .v (.int .i64 a1)] [] [] (fun d h k => ∃ y0, d = .tup [.ptr y0 0, .v (.bool r.2)] ∧ h = [(y0, Blk.cells [.lst 4 (r.1.gL.map eTApiToken) .no, .v (.int .i64 r.1.gAt), .v (.int .i64 r.1.gE), .v (.int .i64 r.1.gVars), .v (.int .i64 r.1.gOpen)] 64)] ∧ k = []) := by
  have hm := yes_of h0
  unfold grammar_begin at hm
  clear h0
  refine enterX htab Try.func21 rfl rfl rfl rfl rfl (fun C => ?_)
  refine wpD_sr ?_
  refine pu ?_
  refine pu ?_
  refine ops_n2 ?_
  refine pu ?_
  refine pu ?_
  refine p_build (r := [.lst 4 (a0.map eTApiToken) .no, .v (.int .i64 a1), .v (.int .i64 (0 : Int)), .v (.int .i64 (0 : Int)), .v (.int .i64 (0 : Int))]) htab rfl rfl rfl rfl rfl rfl rfl rfl rfl ?_
  refine p_box rfl rfl rfl rfl rfl rfl rfl (fun b1 => ?_)
  iterate 3 refine pu ?_
  refine p_split (i := 12) rfl (fun hg2 => ?_) (fun hg2 => ?_)
  ·replace hm := yes_t hg2 hm
   refine pu ?_
   refine pu ?_
   refine p_lenL htab rfl rfl rfl rfl rfl rfl rfl (by first | exact map_len | rfl) ?_
   refine pu ?_
   refine p_pickT rfl rfl rfl rfl rfl rfl ?_
   refine pu ?_
   refine pu ?_
   refine ops_nt ?_
   refine wpD_ret ?_
   have er3 := yes_eq hm; subst er3
   refine rP (t' := [(4, .ptr b1 0), (5, .v (.bool (decide (a1 ≤ (a0.length : Int)))))]) [0] [] 1 (wC (wC wN)) (lT (lT lN)) ?_
   exact ⟨b1, rfl, rfl, rfl⟩
  ·replace hm := yes_f hg2 hm
   iterate 4 refine pK ?_
   refine p_pickF rfl rfl rfl rfl rfl rfl ?_
   refine pu ?_
   refine pu ?_
   refine ops_nt ?_
   refine wpD_ret ?_
   have er4 := yes_eq hm; subst er4
   refine rP (t' := [(4, .ptr b1 0), (5, .v (.bool false))]) [0] [] 1 (wC (wC wN)) (lT (lT lN)) ?_
   exact ⟨b1, rfl, rfl, rfl⟩
noncomputable def grammar_reader_look (m0 : TGrammarReader) (a1 : Int) : Option (TApiToken) :=
  (bif (decide ((m0.gL.length : Int) ≤ (IntKind.i64.wrap (m0.gAt + a1)))) then some (⟨(0 : Int), ByteArray.empty, (0 : Int), (0 : Int)⟩ : TApiToken) else ((idx m0.gL (IntKind.i64.wrap (m0.gAt + a1))).bind fun x5 => some x5))
set_option maxRecDepth 100000 in
set_option maxHeartbeats 2000000 in
theorem grammar_reader_look_ok (m0 : TGrammarReader) (a1 : Int) (o0 : Nat) (T0 : TypeId) (c0_0 : Cap) (r : TApiToken) (h0 : grammar_reader_look m0 a1 = some r) : CallsD Try.prog 40 [.ptr o0 0, .v (.int .i64 a1)] [(o0, Blk.cells [.lst 4 (m0.gL.map eTApiToken) c0_0, .v (.int .i64 m0.gAt), .v (.int .i64 m0.gE), .v (.int .i64 m0.gVars), .v (.int .i64 m0.gOpen)] T0)] [] (fun d h k => d = eTApiToken r ∧ h = [(o0, Blk.cells [.lst 4 (m0.gL.map eTApiToken) c0_0, .v (.int .i64 m0.gAt), .v (.int .i64 m0.gE), .v (.int .i64 m0.gVars), .v (.int .i64 m0.gOpen)] T0)] ∧ k = []) := by
  have hm := yes_of h0
  unfold grammar_reader_look at hm
  clear h0
  refine enterX htab Try.func40 rfl rfl rfl rfl rfl (fun C => ?_)
  refine wpD_sr ?_
  refine p_alloc htab rfl rfl rfl rfl rfl rfl rfl (fun b1 => ?_)
  refine ops_nt ?_
  refine wpD_seq ?_
  refine wpD_seq ?_
  refine wpD_draws 11 [] [[],[0],[0,1],[0,1,2],[],[0,1,2],[],[6],[6,7],[6,7,8],[6,7,8,9]] [0,1,2,6,7,8,9] [[],[0],[0,1],[0,1,2],[],[0,1,2,3,4],[],[6],[6,7],[6,7,8],[6,7,8,9],[0,1,2,3,4,5,6,7,8,9,10]] (by kernel_rfl) (by kernel_rfl) (by kernel_rfl) (by rfl) (by rfl) (by kernel_rfl) ?_
  iterate 7 apply Exists.intro
  intro bs
  iterate 3 refine zep ?_
  refine z_qM rfl rfl (xm_load 0 htab rfl rfl rfl rfl rfl) rfl rfl rfl rfl rfl rfl ?_
  refine zqp ?_
  refine zqp ?_
  iterate 3 refine zep ?_
  refine z_eM rfl rfl (xm_load 0 htab rfl rfl rfl rfl rfl) rfl rfl rfl rfl rfl rfl ?_
  refine z_q rfl rfl (x_lenL htab rfl rfl rfl rfl (by first | exact map_len | rfl)) rfl rfl rfl rfl rfl rfl ?_
  refine z_nil rfl rfl (fun e he => by simp [isAl] at he) ?_
  refine pu ?_
  refine ops_nt ?_
  refine wpD_cond rfl (fun hc3 => ?_) (fun hc3 => ?_)
  ·replace hm := yes_t hc3 hm
   refine wpD_sr ?_
   refine p_build (r := [.v (.int .i64 (0 : Int)), .v (.string ByteArray.empty), .v (.int .i64 (0 : Int)), .v (.int .i64 (0 : Int))]) htab rfl rfl rfl rfl rfl rfl rfl rfl rfl ?_
   refine pS1 (ds' := [.v (.int .i64 (0 : Int)), .v (.string ByteArray.empty), .v (.int .i64 (0 : Int)), .v (.int .i64 (0 : Int))]) ?_
   refine ops_nt ?_
   refine wpD_ret ?_
   refine then_ret ?_
   have er4 := yes_eq hm; subst er4
   refine rP (t' := [(4, .ptr b1 0)]) [0,0] [] 1 (wC wN) (lC 1 lN) ?_
   exact ⟨rfl, rfl, rfl⟩
  ·replace hm := yes_f hc3 hm
   refine wpD_skip ?_
   refine then_normal ?_
   refine wpD_seq ?_
   refine wpD_draws 10 [] [[],[0],[0,1],[0,1,2],[],[4],[4,5],[4,5,6],[],[4,5,6]] [0,1,2,3,4,5,6] [[],[0],[0,1],[0,1,2],[],[4],[4,5],[4,5,6],[],[4,5,6,7,8],[0,1,2,3,4,5,6,7,8,9],[0,1,2,3,4,5,6,7,8,9,10],[0,1,2,3,4,5,6,7,8,9,10,11]] (by kernel_rfl) (by kernel_rfl) (by kernel_rfl) (by rfl) (by rfl) (by kernel_rfl) ?_
   iterate 7 apply Exists.intro
   intro bs
   iterate 3 refine zep ?_
   refine z_eM rfl rfl (xm_load 0 htab rfl rfl rfl rfl rfl) rfl rfl rfl rfl rfl rfl ?_
   iterate 3 refine zep ?_
   refine z_qM rfl rfl (xm_load 0 htab rfl rfl rfl rfl rfl) rfl rfl rfl rfl rfl rfl ?_
   refine zqp ?_
   refine zqp ?_
   refine z_nil rfl rfl (fun e he => by simp [isAl] at he) ?_
   obtain ⟨x5, q5, hm⟩ := yes_bind hm
   refine p_elem htab rfl rfl rfl rfl rfl rfl rfl rfl rfl rfl (idx_nonneg q5) (idx_map q5) ?_
   refine p_loadEl (d := eTApiToken x5) htab rfl rfl rfl rfl rfl rfl rfl rfl ?_
   refine pS1 (ds' := [.v (.int .i64 x5.gKind), .v (.string x5.gText), .v (.int .i64 x5.gN), .v (.int .i64 x5.gAt)]) ?_
   refine ops_nt ?_
   refine wpD_ret ?_
   have er6 := yes_eq hm; subst er6
   refine rP (t' := [(4, .ptr b1 0)]) [0,0] [] 1 (wC wN) (lC 1 lN) ?_
   exact ⟨rfl, rfl, rfl⟩
noncomputable def grammar_reader_is (m0 : TGrammarReader) (a1 : Int) (a2 : ByteArray) : Option (Bool) :=
  ((grammar_reader_look m0 a1).bind fun x1 => (bif (x1.gKind == (3 : Int)) then some (decide (x1.gText = a2)) else some false))
set_option maxRecDepth 100000 in
set_option maxHeartbeats 2000000 in
theorem grammar_reader_is_ok (m0 : TGrammarReader) (a1 : Int) (a2 : ByteArray) (o0 : Nat) (T0 : TypeId) (c0_0 : Cap) (r : Bool) (h0 : grammar_reader_is m0 a1 a2 = some r) : CallsD Try.prog 47 [.ptr o0 0, .v (.int .i64 a1), .v (.string a2)] [(o0, Blk.cells [.lst 4 (m0.gL.map eTApiToken) c0_0, .v (.int .i64 m0.gAt), .v (.int .i64 m0.gE), .v (.int .i64 m0.gVars), .v (.int .i64 m0.gOpen)] T0)] [] (fun d h k => d = .v (.bool r) ∧ h = [(o0, Blk.cells [.lst 4 (m0.gL.map eTApiToken) c0_0, .v (.int .i64 m0.gAt), .v (.int .i64 m0.gE), .v (.int .i64 m0.gVars), .v (.int .i64 m0.gOpen)] T0)] ∧ k = []) := by
  have hm := yes_of h0
  unfold grammar_reader_is at hm
  clear h0
  refine enterX htab Try.func47 rfl rfl rfl rfl rfl (fun C => ?_)
  refine wpD_sr ?_
  refine pu ?_
  refine ops_n2 ?_
  refine pu ?_
  refine pu ?_
  obtain ⟨x1, q1, hm⟩ := yes_bind hm
  refine pG (grammar_reader_look_ok m0 a1 o0 T0 c0_0 x1 q1) Wl Pf Pf ?_
  rintro _ _ _ ⟨rfl, rfl, rfl⟩
  refine p_alloc htab rfl rfl rfl rfl rfl rfl rfl (fun b2 => ?_)
  refine pS1 (ds' := [.v (.int .i64 x1.gKind), .v (.string x1.gText), .v (.int .i64 x1.gN), .v (.int .i64 x1.gAt)]) ?_
  refine ops_n2 ?_
  refine pu ?_
  refine pL 1 ?_
  refine pu ?_
  refine pu ?_
  refine p_split (i := 14) rfl (fun hg3 => ?_) (fun hg3 => ?_)
  ·replace hm := yes_t hg3 hm
   refine pu ?_
   refine pL 1 ?_
   refine pu ?_
   refine pu ?_
   refine p_pickT rfl rfl rfl rfl rfl rfl ?_
   refine pu ?_
   refine ops_nt ?_
   refine wpD_ret ?_
   have er4 := yes_eq hm; subst er4
   refine rP (t' := [(6, .v (.bool (decide (x1.gText = a2))))]) [0] [] 1 (wC wN) (lT lN) ?_
   exact ⟨rfl, rfl, rfl⟩
  ·replace hm := yes_f hg3 hm
   iterate 4 refine pK ?_
   refine p_pickF rfl rfl rfl rfl rfl rfl ?_
   refine pu ?_
   refine ops_nt ?_
   refine wpD_ret ?_
   have er5 := yes_eq hm; subst er5
   refine rP (t' := [(6, .v (.bool false))]) [0] [] 1 (wC wN) (lT lN) ?_
   exact ⟨rfl, rfl, rfl⟩
noncomputable def grammar_reader_fail (m0 : TGrammarReader) (a1 : Int) (a2 : Int) : Option (TGrammarReader) :=
  (bif (m0.gE == (0 : Int)) then some (⟨m0.gL, a1, a2, m0.gVars, m0.gOpen⟩ : TGrammarReader) else some m0)
set_option maxRecDepth 100000 in
set_option maxHeartbeats 2000000 in
theorem grammar_reader_fail_ok (m0 : TGrammarReader) (a1 : Int) (a2 : Int) (o0 : Nat) (T0 : TypeId) (c0_0 : Cap) (r : TGrammarReader) (h0 : grammar_reader_fail m0 a1 a2 = some r) : CallsD Try.prog 49 [.ptr o0 0, .v (.int .i64 a1), .v (.int .i64 a2)] [(o0, Blk.cells [.lst 4 (m0.gL.map eTApiToken) c0_0, .v (.int .i64 m0.gAt), .v (.int .i64 m0.gE), .v (.int .i64 m0.gVars), .v (.int .i64 m0.gOpen)] T0)] [] (fun d h k => d = .tup [] ∧ h = [(o0, Blk.cells [.lst 4 (r.gL.map eTApiToken) c0_0, .v (.int .i64 r.gAt), .v (.int .i64 r.gE), .v (.int .i64 r.gVars), .v (.int .i64 r.gOpen)] T0)] ∧ k = []) := by
  have hm := yes_of h0
  unfold grammar_reader_fail at hm
  clear h0
  refine enterX htab Try.func49 rfl rfl rfl rfl rfl (fun C => ?_)
  refine wpD_sr ?_
  iterate 3 refine pu ?_
  refine pL 0 ?_
  refine pu ?_
  refine ops_nt ?_
  refine wpD_cond rfl (fun hc1 => ?_) (fun hc1 => ?_)
  ·replace hm := yes_t hc1 hm
   refine wpD_region ?_
   iterate 6 refine pu ?_
   refine pS0 (ds' := [.lst 4 (m0.gL.map eTApiToken) c0_0, .v (.int .i64 a1), .v (.int .i64 m0.gE), .v (.int .i64 m0.gVars), .v (.int .i64 m0.gOpen)]) ?_
   refine pu ?_
   refine pu ?_
   refine pS0 (ds' := [.lst 4 (m0.gL.map eTApiToken) c0_0, .v (.int .i64 a1), .v (.int .i64 a2), .v (.int .i64 m0.gVars), .v (.int .i64 m0.gOpen)]) ?_
   refine ops_nil ?_
   have er2 := yes_eq hm; subst er2
   refine rP (t' := []) [0] [] 1 wN lN ?_
   exact ⟨rfl, rfl, rfl⟩
  ·replace hm := yes_f hc1 hm
   refine wpD_skip ?_
   have er3 := yes_eq hm; subst er3
   refine rP (t' := []) [0] [] 1 wN lN ?_
   exact ⟨rfl, rfl, rfl⟩
noncomputable def grammar_reader_eat (m0 : TGrammarReader) (a1 : List ByteArray) : Option (TGrammarReader) :=
  (Option.bind (α := (Int) ⊕ (TGrammarReader)) (loopM (fun (s34 : Int × Int) => (bif (decide (s34.1 < (a1.length : Int))) then ((idx a1 s34.1).bind fun x50 => (bif (m0.gE != (0 : Int)) then some (.done (.inr (⟨m0.gL, s34.2, m0.gE, m0.gVars, m0.gOpen⟩ : TGrammarReader))) else ((grammar_reader_is (⟨m0.gL, s34.2, m0.gE, m0.gVars, m0.gOpen⟩ : TGrammarReader) (0 : Int) x50).bind fun x53 => (bif (!x53) then ((grammar_reader_fail (⟨m0.gL, s34.2, m0.gE, m0.gVars, m0.gOpen⟩ : TGrammarReader) s34.2 (3 : Int)).bind fun x55 => some (.done (.inr x55))) else some (.next ((IntKind.i64.wrap (s34.1 + (1 : Int))), (IntKind.i64.wrap (s34.2 + (1 : Int))))))))) else some (.done (.inl s34.2)))) ((0 : Int), m0.gAt)) (Sum.elim (fun y33 => some (⟨m0.gL, y33, m0.gE, m0.gVars, m0.gOpen⟩ : TGrammarReader)) (fun r => some r)))
set_option maxRecDepth 100000 in
set_option maxHeartbeats 2000000 in
theorem grammar_reader_eat_ok (m0 : TGrammarReader) (a1 : List ByteArray) (o0 : Nat) (T0 : TypeId) (c0_0 : Cap) (r : TGrammarReader) (h0 : grammar_reader_eat m0 a1 = some r) : CallsD Try.prog 41 [.ptr o0 0, .lst 1 (a1.map eStr) .no] [(o0, Blk.cells [.lst 4 (m0.gL.map eTApiToken) c0_0, .v (.int .i64 m0.gAt), .v (.int .i64 m0.gE), .v (.int .i64 m0.gVars), .v (.int .i64 m0.gOpen)] T0)] [] (fun d h k => d = .tup [] ∧ h = [(o0, Blk.cells [.lst 4 (r.gL.map eTApiToken) c0_0, .v (.int .i64 r.gAt), .v (.int .i64 r.gE), .v (.int .i64 r.gVars), .v (.int .i64 r.gOpen)] T0)] ∧ k = []) := by
  have hm := yes_of h0
  unfold grammar_reader_eat at hm
  clear h0
  refine enterX htab Try.func41 rfl rfl rfl rfl rfl (fun C => ?_)
  refine wpD_sr ?_
  refine pu ?_
  refine p_lenL htab rfl rfl rfl rfl rfl rfl rfl (by first | exact map_len | rfl) ?_
  refine pu ?_
  refine ops_nt ?_
  obtain ⟨x33, q33, ho33⟩ := yes_bind hm
  refine wpD_midX (τ := Int) (Y := Unit) (fun y33 z33 => (⟨[], [(o0, Blk.cells [.lst 4 (m0.gL.map eTApiToken) c0_0, .v (.int .i64 y33), .v (.int .i64 m0.gE), .v (.int .i64 m0.gVars), .v (.int .i64 m0.gOpen)] T0)], []⟩ : S)) x33 ?_ ?_
  ·clear hm; have hm := yes_of q33
   refine wpD_block ?_
   obtain ⟨u34, hl34, hq34⟩ := yes_m hm
   refine loop_M (Y := Unit) hl34 (fun s34 z34 => (⟨[(0, .ptr o0 0), (6, .lst 1 (a1.map eStr) .no), (7, .v (.int .i64 (a1.length : Int))), (8, .v (.int .i64 s34.1))], [(o0, Blk.cells [.lst 4 (m0.gL.map eTApiToken) c0_0, .v (.int .i64 s34.2), .v (.int .i64 m0.gE), .v (.int .i64 m0.gVars), .v (.int .i64 m0.gOpen)] T0)], []⟩ : S)) ?_ ?_
   ·skip
    exact WkX.of () (WkS.perm (WkS.cons rfl (Wk.refl _) (WkS.cons rfl (Wk.refl _) (WkS.cons rfl (Wk.refl _) (WkS.cons rfl (Wk.refl _) (WkS.nil))))) Pf Pf)
   ·intro G34 s34 z34 hm
    refine wpD_sr ?_
    refine pu ?_
    refine ops_nt ?_
    refine wpD_seq ?_
    refine wpD_cond rfl (fun hc49 => ?_) (fun hc49 => ?_)
    ·replace hm := yes_t hc49 hm
     refine wpD_skip ?_
     refine then_normal ?_
     refine wpD_seq ?_
     refine wpD_block ?_
     refine wpD_sr ?_
     obtain ⟨x50, q50, hm⟩ := yes_bind hm
     refine p_elem htab rfl rfl rfl rfl rfl rfl rfl rfl rfl rfl (idx_nonneg q50) (idx_map q50) ?_
     refine p_loadEl htab rfl rfl rfl rfl rfl rfl rfl rfl ?_
     refine pu ?_
     refine ops_nt ?_
     refine wpD_seq ?_
     refine wpD_block ?_
     refine wpD_sr ?_
     iterate 3 refine pu ?_
     refine pL 0 ?_
     refine pu ?_
     refine pu ?_
     refine ops_nt ?_
     refine wpD_cond rfl (fun hc51 => ?_) (fun hc51 => ?_)
     ·replace hm := yes_t hc51 hm
      refine wpD_ret ?_
      refine block_ret ?_
      refine then_ret ?_
      refine block_ret ?_
      refine then_ret ?_
      have e34 := lp_done hm; subst e34; clear hm; have hm := hq34
      refine then_ret ?_
      refine block_ret ?_
      have e33 := yes_eq hm; subst e33; refine midX_inr ?_; clear hm; have hm := ho33; simp only [Sum.elim_inr] at hm
      have er52 := yes_eq hm; subst er52
      refine rP (t' := []) [0] [] 1 wN lN ?_
      exact ⟨rfl, rfl, rfl⟩
     ·replace hm := yes_f hc51 hm
      refine wpD_sr ?_
      refine pu ?_
      refine pu ?_
      obtain ⟨x53, q53, hm⟩ := yes_bind hm
      refine pG (grammar_reader_is_ok (⟨m0.gL, s34.2, m0.gE, m0.gVars, m0.gOpen⟩ : TGrammarReader) (0 : Int) x50 o0 T0 c0_0 x53 q53) Wl Pf Pf ?_
      rintro _ _ _ ⟨rfl, rfl, rfl⟩
      refine pu ?_
      refine pu ?_
      refine ops_nt ?_
      refine wpD_cond rfl (fun hc54 => ?_) (fun hc54 => ?_)
      ·replace hm := yes_t hc54 hm
       refine wpD_sr ?_
       iterate 4 refine pu ?_
       refine pL 0 ?_
       obtain ⟨x55, q55, hm⟩ := yes_bind hm
       refine pG (grammar_reader_fail_ok (⟨m0.gL, s34.2, m0.gE, m0.gVars, m0.gOpen⟩ : TGrammarReader) s34.2 (3 : Int) o0 T0 c0_0 x55 q55) Wl Pf Pf ?_
       rintro _ _ _ ⟨rfl, rfl, rfl⟩
       refine ops_nt ?_
       refine wpD_ret ?_
       refine block_ret ?_
       refine then_ret ?_
       refine block_ret ?_
       refine then_ret ?_
       have e34 := lp_done hm; subst e34; clear hm; have hm := hq34
       refine then_ret ?_
       refine block_ret ?_
       have e33 := yes_eq hm; subst e33; refine midX_inr ?_; clear hm; have hm := ho33; simp only [Sum.elim_inr] at hm
       have er56 := yes_eq hm; subst er56
       refine rP (t' := []) [0] [] 1 wN lN ?_
       exact ⟨rfl, rfl, rfl⟩
      ·replace hm := yes_f hc54 hm
       refine wpD_skip ?_
       refine block_normal ?_
       refine then_normal ?_
       refine wpD_region ?_
       iterate 3 refine pu ?_
       refine pL 0 ?_
       iterate 3 refine pu ?_
       refine pS0 (ds' := [.lst 4 (m0.gL.map eTApiToken) c0_0, .v (.int .i64 (IntKind.i64.wrap (s34.2 + (1 : Int)))), .v (.int .i64 m0.gE), .v (.int .i64 m0.gVars), .v (.int .i64 m0.gOpen)]) ?_
       refine ops_nil ?_
       refine block_normal ?_
       refine then_normal ?_
       refine wpD_region ?_
       refine pu ?_
       refine pu ?_
       refine ops_nil ?_
       refine then_normal ⟨_, lp_next hm, ?_⟩
       exact WkX.of () (WkS.perm (WkS.cons rfl (Wk.refl _) (WkS.cons rfl (Wk.refl _) (WkS.cons rfl (Wk.refl _) (WkS.cons rfl (Wk.refl _) (WkS.nil))))) Pf Pf)
    ·replace hm := yes_f hc49 hm
     refine wpD_exit ?_
     refine then_exit ?_
     have e34 := lp_done hm; subst e34; clear hm; have hm := hq34
     refine then_exit ?_
     refine block_hit ?_
     have e33 := yes_eq hm; subst e33
     refine midX_inl ?_
     exact WkX.of () (WkS.perm (WkS.nil) Pf Pf)
  ·intro y33 s33 hx33 hw33; subst hx33; clear hm; have hm := ho33; simp only [Sum.elim_inl] at hm; clear q33 ho33
   refine retX.wkX hw33 (fun z33 => ?_)
   have er57 := yes_eq hm; subst er57
   refine rP (t' := []) [0] [] 1 wN lN ?_
   exact ⟨rfl, rfl, rfl⟩
noncomputable def grammar_reader_name (m0 : TGrammarReader) : Option (ByteArray × TGrammarReader) :=
  (bif (m0.gE != (0 : Int)) then some ((ByteArray.mk #[]), m0) else ((grammar_reader_look m0 (0 : Int)).bind fun x4 => (bif (x4.gKind != (1 : Int)) then ((grammar_reader_fail m0 m0.gAt (3 : Int)).bind fun x9 => some ((ByteArray.mk #[]), x9)) else some (x4.gText, (⟨m0.gL, (IntKind.i64.wrap (m0.gAt + (1 : Int))), m0.gE, m0.gVars, m0.gOpen⟩ : TGrammarReader)))))
set_option maxRecDepth 100000 in
set_option maxHeartbeats 2000000 in
theorem grammar_reader_name_ok (m0 : TGrammarReader) (o0 : Nat) (T0 : TypeId) (c0_0 : Cap) (r : ByteArray × TGrammarReader) (h0 : grammar_reader_name m0 = some r) : CallsD Try.prog 42 [.ptr o0 0] [(o0, Blk.cells [.lst 4 (m0.gL.map eTApiToken) c0_0, .v (.int .i64 m0.gAt), .v (.int .i64 m0.gE), .v (.int .i64 m0.gVars), .v (.int .i64 m0.gOpen)] T0)] [] (fun d h k => d = .v (.string r.1) ∧ h = [(o0, Blk.cells [.lst 4 (r.2.gL.map eTApiToken) c0_0, .v (.int .i64 r.2.gAt), .v (.int .i64 r.2.gE), .v (.int .i64 r.2.gVars), .v (.int .i64 r.2.gOpen)] T0)] ∧ k = []) := by
  have hm := yes_of h0
  unfold grammar_reader_name at hm
  clear h0
  refine enterX htab Try.func42 rfl rfl rfl rfl rfl (fun C => ?_)
  refine wpD_sr ?_
  refine pu ?_
  refine ops_nt ?_
  refine wpD_seq ?_
  refine wpD_sr ?_
  iterate 3 refine pu ?_
  refine pL 0 ?_
  refine pu ?_
  refine ops_nt ?_
  refine wpD_cond rfl (fun hc2 => ?_) (fun hc2 => ?_)
  ·replace hm := yes_t hc2 hm
   refine wpD_sr ?_
   refine pu ?_
   refine ops_nt ?_
   refine wpD_ret ?_
   refine then_ret ?_
   have er3 := yes_eq hm; subst er3
   refine rP (t' := [(2, .v (.string (ByteArray.mk #[])))]) [0] [] 1 (wC wN) (lT lN) ?_
   exact ⟨rfl, rfl, rfl⟩
  ·replace hm := yes_f hc2 hm
   refine wpD_skip ?_
   refine then_normal ?_
   refine wpD_sr ?_
   refine pu ?_
   obtain ⟨x4, q4, hm⟩ := yes_bind hm
   refine pG (grammar_reader_look_ok m0 (0 : Int) o0 T0 c0_0 x4 q4) Wl Pf Pf ?_
   rintro _ _ _ ⟨rfl, rfl, rfl⟩
   refine p_alloc htab rfl rfl rfl rfl rfl rfl rfl (fun b5 => ?_)
   refine pS1 (ds' := [.v (.int .i64 x4.gKind), .v (.string x4.gText), .v (.int .i64 x4.gN), .v (.int .i64 x4.gAt)]) ?_
   refine ops_nt ?_
   refine wpD_seq ?_
   refine wpD_sr ?_
   refine pu ?_
   refine pL 1 ?_
   refine pu ?_
   refine ops_nt ?_
   refine wpD_cond rfl (fun hc8 => ?_) (fun hc8 => ?_)
   ·replace hm := yes_t hc8 hm
    refine wpD_sr ?_
    iterate 4 refine pu ?_
    refine pL 0 ?_
    obtain ⟨x9, q9, hm⟩ := yes_bind hm
    refine pG (grammar_reader_fail_ok m0 m0.gAt (3 : Int) o0 T0 c0_0 x9 q9) Wl Pf Pf ?_
    rintro _ _ _ ⟨rfl, rfl, rfl⟩
    refine ops_n2 ?_
    refine pu ?_
    refine ops_nt ?_
    refine wpD_ret ?_
    refine then_ret ?_
    have er10 := yes_eq hm; subst er10
    refine rP (t' := [(2, .v (.string (ByteArray.mk #[])))]) [0] [] 1 (wC wN) (lT lN) ?_
    exact ⟨rfl, rfl, rfl⟩
   ·replace hm := yes_f hc8 hm
    refine wpD_skip ?_
    refine then_normal ?_
    refine wpD_sr ?_
    iterate 3 refine pu ?_
    refine pL 0 ?_
    iterate 3 refine pu ?_
    refine pS0 (ds' := [.lst 4 (m0.gL.map eTApiToken) c0_0, .v (.int .i64 (IntKind.i64.wrap (m0.gAt + (1 : Int)))), .v (.int .i64 m0.gE), .v (.int .i64 m0.gVars), .v (.int .i64 m0.gOpen)]) ?_
    refine ops_n2 ?_
    refine pu ?_
    refine pL 1 ?_
    refine pu ?_
    refine ops_nt ?_
    refine wpD_ret ?_
    have er11 := yes_eq hm; subst er11
    refine rP (t' := [(2, .v (.string x4.gText))]) [0] [] 1 (wC wN) (lT lN) ?_
    exact ⟨rfl, rfl, rfl⟩
noncomputable def grammar_reader_may (m0 : TGrammarReader) (a1 : ByteArray) : Option (Bool × TGrammarReader) :=
  (Option.bind (α := Bool) (bif (m0.gE != (0 : Int)) then some true else ((grammar_reader_is m0 (0 : Int) a1).bind fun x5 => some (!x5))) fun y3 => (bif y3 then some (false, m0) else some (true, (⟨m0.gL, (IntKind.i64.wrap (m0.gAt + (1 : Int))), m0.gE, m0.gVars, m0.gOpen⟩ : TGrammarReader))))
set_option maxRecDepth 100000 in
set_option maxHeartbeats 2000000 in
theorem grammar_reader_may_ok (m0 : TGrammarReader) (a1 : ByteArray) (o0 : Nat) (T0 : TypeId) (c0_0 : Cap) (r : Bool × TGrammarReader) (h0 : grammar_reader_may m0 a1 = some r) : CallsD Try.prog 52 [.ptr o0 0, .v (.string a1)] [(o0, Blk.cells [.lst 4 (m0.gL.map eTApiToken) c0_0, .v (.int .i64 m0.gAt), .v (.int .i64 m0.gE), .v (.int .i64 m0.gVars), .v (.int .i64 m0.gOpen)] T0)] [] (fun d h k => d = .v (.bool r.1) ∧ h = [(o0, Blk.cells [.lst 4 (r.2.gL.map eTApiToken) c0_0, .v (.int .i64 r.2.gAt), .v (.int .i64 r.2.gE), .v (.int .i64 r.2.gVars), .v (.int .i64 r.2.gOpen)] T0)] ∧ k = []) := by
  have hm := yes_of h0
  unfold grammar_reader_may at hm
  clear h0
  refine enterX htab Try.func52 rfl rfl rfl rfl rfl (fun C => ?_)
  refine wpD_sr ?_
  refine pu ?_
  refine ops_nt ?_
  refine wpD_seq ?_
  refine wpD_seq ?_
  obtain ⟨y3, q3, ho3⟩ := yes_bind hm
  refine wpD_mid (Y := Unit) (fun z3 => (⟨[(0, .ptr o0 0), (15, .v (.bool y3))], [(o0, Blk.cells [.lst 4 (m0.gL.map eTApiToken) c0_0, .v (.int .i64 m0.gAt), .v (.int .i64 m0.gE), .v (.int .i64 m0.gVars), .v (.int .i64 m0.gOpen)] T0)], []⟩ : S)) ?_ ?_
  ·clear hm; have hm := yes_of q3
   refine wpD_region ?_
   iterate 3 refine pu ?_
   refine pL 0 ?_
   refine pu ?_
   refine pu ?_
   refine p_split (i := 10) rfl (fun hg4 => ?_) (fun hg4 => ?_)
   ·replace hm := yes_t hg4 hm
    iterate 4 refine pK ?_
    refine p_pickT rfl rfl rfl rfl rfl rfl ?_
    refine ops_nil ?_
    have e3 := yes_eq hm; subst e3
    refine ⟨rfl, ?_⟩
    exact WkX.of () (WkS.perm (WkS.cons rfl (Wk.refl _) (WkS.cons rfl (Wk.refl _) (WkS.nil))) Pf Pf)
   ·replace hm := yes_f hg4 hm
    refine pu ?_
    refine pu ?_
    obtain ⟨x5, q5, hm⟩ := yes_bind hm
    refine pG (grammar_reader_is_ok m0 (0 : Int) a1 o0 T0 c0_0 x5 q5) Wl Pf Pf ?_
    rintro _ _ _ ⟨rfl, rfl, rfl⟩
    refine pu ?_
    refine p_pickF rfl rfl rfl rfl rfl rfl ?_
    refine ops_nil ?_
    have e3 := yes_eq hm; subst e3
    refine ⟨rfl, ?_⟩
    exact WkX.of () (WkS.perm (WkS.cons rfl (Wk.refl _) (WkS.cons rfl (Wk.refl _) (WkS.nil))) Pf Pf)
  ·intro s3 hw3; clear hm; have hm := ho3; clear q3 ho3
   refine then_normal ?_
   refine wpD_wkX hw3 (fun z3 => ?_)
   refine wpD_cond rfl (fun hc7 => ?_) (fun hc7 => ?_)
   ·replace hm := yes_t hc7 hm
    refine wpD_sr ?_
    refine pu ?_
    refine ops_nt ?_
    refine wpD_ret ?_
    refine then_ret ?_
    have er8 := yes_eq hm; subst er8
    refine rP (t' := [(4, .v (.bool false))]) [0] [] 1 (wC wN) (lT lN) ?_
    exact ⟨rfl, rfl, rfl⟩
   ·replace hm := yes_f hc7 hm
    refine wpD_skip ?_
    refine then_normal ?_
    refine wpD_sr ?_
    iterate 3 refine pu ?_
    refine pL 0 ?_
    iterate 3 refine pu ?_
    refine pS0 (ds' := [.lst 4 (m0.gL.map eTApiToken) c0_0, .v (.int .i64 (IntKind.i64.wrap (m0.gAt + (1 : Int)))), .v (.int .i64 m0.gE), .v (.int .i64 m0.gVars), .v (.int .i64 m0.gOpen)]) ?_
    refine ops_n2 ?_
    refine pu ?_
    refine ops_nt ?_
    refine wpD_ret ?_
    have er9 := yes_eq hm; subst er9
    refine rP (t' := [(4, .v (.bool true))]) [0] [] 1 (wC wN) (lT lN) ?_
    exact ⟨rfl, rfl, rfl⟩
structure TApiVar where
  gName : ByteArray
  gPtr : Bool
def eTApiVar (x : TApiVar) : D := .agg [.v (.string x.gName), .v (.bool x.gPtr)]
noncomputable def grammar_reader_variable (m0 : TGrammarReader) : Option (TApiVar × TGrammarReader) :=
  ((grammar_reader_eat m0 ([(ByteArray.mk #[105, 110, 116])] : List ByteArray)).bind fun x2 => ((grammar_reader_may x2 (ByteArray.mk #[42])).bind fun x3 => ((grammar_reader_name x3.2).bind fun x5 => (bif (decide ((16 : Int) < (IntKind.i64.wrap (x5.2.gVars + (1 : Int))))) then ((grammar_reader_fail (⟨x5.2.gL, x5.2.gAt, x5.2.gE, (IntKind.i64.wrap (x5.2.gVars + (1 : Int))), x5.2.gOpen⟩ : TGrammarReader) x3.2.gAt (6 : Int)).bind fun x7 => some ((⟨x5.1, x3.1⟩ : TApiVar), x7)) else some ((⟨x5.1, x3.1⟩ : TApiVar), (⟨x5.2.gL, x5.2.gAt, x5.2.gE, (IntKind.i64.wrap (x5.2.gVars + (1 : Int))), x5.2.gOpen⟩ : TGrammarReader))))))
set_option maxRecDepth 100000 in
set_option maxHeartbeats 2000000 in
theorem grammar_reader_variable_ok (m0 : TGrammarReader) (o0 : Nat) (T0 : TypeId) (c0_0 : Cap) (r : TApiVar × TGrammarReader) (h0 : grammar_reader_variable m0 = some r) : CallsD Try.prog 44 [.ptr o0 0] [(o0, Blk.cells [.lst 4 (m0.gL.map eTApiToken) c0_0, .v (.int .i64 m0.gAt), .v (.int .i64 m0.gE), .v (.int .i64 m0.gVars), .v (.int .i64 m0.gOpen)] T0)] [] (fun d h k => d = eTApiVar r.1 ∧ h = [(o0, Blk.cells [.lst 4 (r.2.gL.map eTApiToken) c0_0, .v (.int .i64 r.2.gAt), .v (.int .i64 r.2.gE), .v (.int .i64 r.2.gVars), .v (.int .i64 r.2.gOpen)] T0)] ∧ k = []) := by
  have hm := yes_of h0
  unfold grammar_reader_variable at hm
  clear h0
  refine enterX htab Try.func44 rfl rfl rfl rfl rfl (fun C => ?_)
  refine wpD_sr ?_
  refine p_alloc htab rfl rfl rfl rfl rfl rfl rfl (fun b1 => ?_)
  refine ops_n2 ?_
  refine pu ?_
  refine p_lit htab rfl rfl rfl rfl rfl rfl rfl rfl rfl rfl rfl rfl rfl rfl ?_
  refine p_eq (i := 6) (d' := .lst 1 (([(ByteArray.mk #[105, 110, 116])] : List ByteArray).map eStr) .full) rfl (Wk.lst0 (.cons (WkC.refl _) (.nil))) ?_
  obtain ⟨x2, q2, hm⟩ := yes_bind hm
  refine p_callG (grammar_reader_eat_ok m0 ([(ByteArray.mk #[105, 110, 116])] : List ByteArray) o0 T0 c0_0 x2 q2) rfl rfl rfl rfl rfl (WkL.cons (Wk.refl _) (WkL.cons (Wk.no) Wl)) Pf Pf ?_
  rintro _ _ _ ⟨rfl, rfl, rfl⟩
  refine ops_n2 ?_
  refine pu ?_
  obtain ⟨x3, q3, hm⟩ := yes_bind hm
  refine pG (grammar_reader_may_ok x2 (ByteArray.mk #[42]) o0 T0 c0_0 x3 q3) Wl Pf Pf ?_
  rintro _ _ _ ⟨rfl, rfl, rfl⟩
  refine p_build (r := [.v (.string ByteArray.empty), .v (.bool x3.1)]) htab rfl rfl rfl rfl rfl rfl rfl rfl rfl ?_
  refine p_alloc htab rfl rfl rfl rfl rfl rfl rfl (fun b4 => ?_)
  refine pS2 (ds' := [.v (.string ByteArray.empty), .v (.bool x3.1)]) ?_
  refine ops_n2 ?_
  iterate 3 refine pu ?_
  refine pL 0 ?_
  refine pu ?_
  refine ops_n2 ?_
  refine pu ?_
  obtain ⟨x5, q5, hm⟩ := yes_bind hm
  refine pG (grammar_reader_name_ok x3.2 o0 T0 c0_0 x5 q5) Wl Pf Pf ?_
  rintro _ _ _ ⟨rfl, rfl, rfl⟩
  refine pu ?_
  refine pS2 (ds' := [.v (.string x5.1), .v (.bool x3.1)]) ?_
  refine ops_nt ?_
  refine wpD_seq ?_
  refine wpD_sr ?_
  iterate 3 refine pu ?_
  refine pL 0 ?_
  iterate 3 refine pu ?_
  refine pS0 (ds' := [.lst 4 (x5.2.gL.map eTApiToken) c0_0, .v (.int .i64 x5.2.gAt), .v (.int .i64 x5.2.gE), .v (.int .i64 (IntKind.i64.wrap (x5.2.gVars + (1 : Int)))), .v (.int .i64 x5.2.gOpen)]) ?_
  refine ops_n2 ?_
  iterate 3 refine pu ?_
  refine pL 0 ?_
  refine pu ?_
  refine ops_nt ?_
  refine wpD_cond rfl (fun hc6 => ?_) (fun hc6 => ?_)
  ·replace hm := yes_t hc6 hm
   refine wpD_region ?_
   refine pu ?_
   refine pu ?_
   obtain ⟨x7, q7, hm⟩ := yes_bind hm
   refine pG (grammar_reader_fail_ok (⟨x5.2.gL, x5.2.gAt, x5.2.gE, (IntKind.i64.wrap (x5.2.gVars + (1 : Int))), x5.2.gOpen⟩ : TGrammarReader) x3.2.gAt (6 : Int) o0 T0 c0_0 x7 q7) Wl Pf Pf ?_
   rintro _ _ _ ⟨rfl, rfl, rfl⟩
   refine ops_n2 ?_
   refine p_load (d := eTApiVar (⟨x5.1, x3.1⟩ : TApiVar)) 2 htab rfl rfl rfl rfl rfl rfl rfl rfl ?_
   refine pS1 (ds' := [.v (.string x5.1), .v (.bool x3.1)]) ?_
   refine ops_nt ?_
   refine wpD_ret ?_
   have er8 := yes_eq hm; subst er8
   refine rP (t' := [(2, .ptr b1 0)]) [0,0] [] 1 (wC wN) (lC 1 lN) ?_
   exact ⟨rfl, rfl, rfl⟩
  ·replace hm := yes_f hc6 hm
   refine wpD_skip ?_
   refine then_normal ?_
   refine wpD_sr ?_
   refine p_load (d := eTApiVar (⟨x5.1, x3.1⟩ : TApiVar)) 2 htab rfl rfl rfl rfl rfl rfl rfl rfl ?_
   refine pS1 (ds' := [.v (.string x5.1), .v (.bool x3.1)]) ?_
   refine ops_nt ?_
   refine wpD_ret ?_
   have er9 := yes_eq hm; subst er9
   refine rP (t' := [(2, .ptr b1 0)]) [0,0] [] 1 (wC wN) (lC 1 lN) ?_
   exact ⟨rfl, rfl, rfl⟩
noncomputable def grammar_list_api_Var (m0 : TGrammarReader) : Option (List TApiVar × TGrammarReader) :=
  ((grammar_reader_eat m0 ([(ByteArray.mk #[40])] : List ByteArray)).bind fun x1 => ((grammar_reader_may x1 (ByteArray.mk #[41])).bind fun x2 => (bif x2.1 then some (([] : List TApiVar), x2.2) else (Option.bind (α := List TApiVar × List TApiToken × Int × Int × Int × Int) (loopM (fun (s28 : List TApiVar × List TApiToken × Int × Int × Int × Int) => (bif (s28.2.2.2.1 == (0 : Int)) then ((grammar_reader_variable (⟨s28.2.1, s28.2.2.1, s28.2.2.2.1, s28.2.2.2.2.1, s28.2.2.2.2.2⟩ : TGrammarReader)).bind fun x43 => ((app 24 s28.1 ([x43.1] : List TApiVar)).bind fun x44 => ((grammar_reader_may x43.2 (ByteArray.mk #[44])).bind fun x45 => (bif (!x45.1) then some (.done (x44, x45.2.gL, x45.2.gAt, x45.2.gE, x45.2.gVars, x45.2.gOpen)) else some (.next (x44, x45.2.gL, x45.2.gAt, x45.2.gE, x45.2.gVars, x45.2.gOpen)))))) else some (.done (s28.1, s28.2.1, s28.2.2.1, s28.2.2.2.1, s28.2.2.2.2.1, s28.2.2.2.2.2)))) (([] : List TApiVar), x2.2.gL, x2.2.gAt, x2.2.gE, x2.2.gVars, x2.2.gOpen)) fun y27 => ((grammar_reader_eat (⟨y27.2.1, y27.2.2.1, y27.2.2.2.1, y27.2.2.2.2.1, y27.2.2.2.2.2⟩ : TGrammarReader) ([(ByteArray.mk #[41])] : List ByteArray)).bind fun x47 => some (y27.1, x47))))))
set_option maxRecDepth 100000 in
set_option maxHeartbeats 2000000 in
theorem grammar_list_api_Var_ok (m0 : TGrammarReader) (o0 : Nat) (T0 : TypeId) (c0_0 : Cap) (r : List TApiVar × TGrammarReader) (h0 : grammar_list_api_Var m0 = some r) : CallsD Try.prog 43 [.ptr o0 0, .fn (.func 44) [.ptr o0 0] []] [(o0, Blk.cells [.lst 4 (m0.gL.map eTApiToken) c0_0, .v (.int .i64 m0.gAt), .v (.int .i64 m0.gE), .v (.int .i64 m0.gVars), .v (.int .i64 m0.gOpen)] T0)] [] (fun d h k => ∃ y0, d = .lst 2 (r.1.map eTApiVar) (.cur y0) ∧ h = [(o0, Blk.cells [.lst 4 (r.2.gL.map eTApiToken) .no, .v (.int .i64 r.2.gAt), .v (.int .i64 r.2.gE), .v (.int .i64 r.2.gVars), .v (.int .i64 r.2.gOpen)] T0)] ∧ k = [(2, y0)]) := by
  have hm := yes_of h0
  unfold grammar_list_api_Var at hm
  clear h0
  refine enterX htab Try.func43 rfl rfl rfl rfl rfl (fun C => ?_)
  refine wpD_sr ?_
  refine pu ?_
  refine ops_n2 ?_
  refine pu ?_
  refine ops_n2 ?_
  refine pu ?_
  refine p_lit htab rfl rfl rfl rfl rfl rfl rfl rfl rfl rfl rfl rfl rfl rfl ?_
  refine p_eq (i := 7) (d' := .lst 1 (([(ByteArray.mk #[40])] : List ByteArray).map eStr) .full) rfl (Wk.lst0 (.cons (WkC.refl _) (.nil))) ?_
  obtain ⟨x1, q1, hm⟩ := yes_bind hm
  refine p_callG (grammar_reader_eat_ok m0 ([(ByteArray.mk #[40])] : List ByteArray) o0 T0 c0_0 x1 q1) rfl rfl rfl rfl rfl (WkL.cons (Wk.refl _) (WkL.cons (Wk.no) Wl)) Pf Pf ?_
  rintro _ _ _ ⟨rfl, rfl, rfl⟩
  refine ops_nt ?_
  refine wpD_seq ?_
  refine wpD_sr ?_
  refine pu ?_
  obtain ⟨x2, q2, hm⟩ := yes_bind hm
  refine pG (grammar_reader_may_ok x1 (ByteArray.mk #[41]) o0 T0 c0_0 x2 q2) Wl Pf Pf ?_
  rintro _ _ _ ⟨rfl, rfl, rfl⟩
  refine ops_nt ?_
  refine wpD_cond rfl (fun hc4 => ?_) (fun hc4 => ?_)
  ·replace hm := yes_t hc4 hm
   refine wpD_sr ?_
   refine pu ?_
   refine pu ?_
   refine ops_nt ?_
   refine wpD_ret ?_
   refine then_ret ?_
   have er5 := yes_eq hm; subst er5
   refine retX.tokN (i := 4) 2 rfl (fun w6 => ?_)
   refine retX.wk (WkS.bl0 (ds' := [.lst 4 (x2.2.gL.map eTApiToken) .no, .v (.int .i64 x2.2.gAt), .v (.int .i64 x2.2.gE), .v (.int .i64 x2.2.gVars), .v (.int .i64 x2.2.gOpen)]) (rO (rC (rC (rC (rC WkR.nil)))))) ?_
   refine rP (t' := [(4, .lst 2 (([] : List TApiVar).map eTApiVar) (.cur w6))]) [0] [0] 1 (wC wN) (lT lN) ?_
   exact ⟨w6, rfl, rfl, rfl⟩
  ·replace hm := yes_f hc4 hm
   refine wpD_skip ?_
   refine then_normal ?_
   refine wpD_seq ?_
   obtain ⟨y27, q27, ho27⟩ := yes_bind hm
   refine wpD_mid (Y := Value) (fun z27 => (⟨[(0, .ptr o0 0), (5, .lst 2 (y27.1.map eTApiVar) (.cur z27))], [(o0, Blk.cells [.lst 4 (y27.2.1.map eTApiToken) .no, .v (.int .i64 y27.2.2.1), .v (.int .i64 y27.2.2.2.1), .v (.int .i64 y27.2.2.2.2.1), .v (.int .i64 y27.2.2.2.2.2)] T0)], [(2, z27)]⟩ : S)) ?_ ?_
   ·clear hm; have hm := yes_of q27
    refine wpD_block ?_
    obtain ⟨u28, hl28, hq28⟩ := yes_m hm
    refine loop_M (Y := Value) hl28 (fun s28 z28 => (⟨[(0, .ptr o0 0), (1, .fn (.func 44) [.ptr o0 0] []), (5, .lst 2 (s28.1.map eTApiVar) (.cur z28))], [(o0, Blk.cells [.lst 4 (s28.2.1.map eTApiToken) .no, .v (.int .i64 s28.2.2.1), .v (.int .i64 s28.2.2.2.1), .v (.int .i64 s28.2.2.2.2.1), .v (.int .i64 s28.2.2.2.2.2)] T0)], [(2, z28)]⟩ : S)) ?_ ?_
    ·skip
     refine WkX.tokN (i := 5) 2 rfl (fun w41 => ?_)
     refine WkX.wk (WkS.bl0 (ds' := [.lst 4 (x2.2.gL.map eTApiToken) .no, .v (.int .i64 x2.2.gAt), .v (.int .i64 x2.2.gE), .v (.int .i64 x2.2.gVars), .v (.int .i64 x2.2.gOpen)]) (rO (rC (rC (rC (rC WkR.nil)))))) ?_
     exact WkX.of w41 (WkS.perm (WkS.cons rfl (Wk.refl _) (WkS.cons rfl (Wk.refl _) (WkS.cons rfl (Wk.refl _) (WkS.nil)))) Pf Pf)
    ·intro G28 s28 z28 hm
     refine wpD_seq ?_
     refine wpD_sr ?_
     iterate 3 refine pu ?_
     refine pL 0 ?_
     refine pu ?_
     refine ops_nt ?_
     refine wpD_cond rfl (fun hc42 => ?_) (fun hc42 => ?_)
     ·replace hm := yes_t hc42 hm
      refine wpD_skip ?_
      refine then_normal ?_
      refine wpD_block ?_
      refine wpD_sr ?_
      refine pu ?_
      refine pu ?_
      obtain ⟨x43, q43, hm⟩ := yes_bind hm
      refine p_callV (grammar_reader_variable_ok (⟨s28.2.1, s28.2.2.1, s28.2.2.2.1, s28.2.2.2.2.1, s28.2.2.2.2.2⟩ : TGrammarReader) o0 T0 .no x43 q43) rfl rfl rfl rfl rfl rfl rfl Wl Pf Pf ?_
      rintro _ _ _ ⟨rfl, rfl, rfl⟩
      refine p_lit htab rfl rfl rfl rfl rfl rfl rfl rfl rfl rfl rfl rfl rfl rfl ?_
      refine p_eq (i := 20) (d' := .lst 2 (([x43.1] : List TApiVar).map eTApiVar) .full) rfl (Wk.lst0 (.cons (WkC.refl _) (.nil))) ?_
      obtain ⟨x44, q44, hm⟩ := yes_bind hm
      refine p_appC 0 htab rfl rfl rfl rfl rfl rfl rfl rfl rfl rfl rfl rfl rfl rfl rfl rfl rfl (app_bound q44) (fun v44 => ?_)
      refine p_mapD (i := 21) q44 rfl ?_
      refine pu ?_
      refine ops_n2 ?_
      refine pu ?_
      obtain ⟨x45, q45, hm⟩ := yes_bind hm
      refine pG (grammar_reader_may_ok x43.2 (ByteArray.mk #[44]) o0 T0 .no x45 q45) Wl Pf Pf ?_
      rintro _ _ _ ⟨rfl, rfl, rfl⟩
      refine pu ?_
      refine ops_nt ?_
      refine wpD_cond rfl (fun hc46 => ?_) (fun hc46 => ?_)
      ·replace hm := yes_t hc46 hm
       refine wpD_exit ?_
       refine block_miss rfl ?_
       have e28 := lp_done hm; subst e28; clear hm; have hm := hq28
       refine then_exit ?_
       refine block_hit ?_
       have e27 := yes_eq hm; subst e27
       refine ⟨rfl, ?_⟩
       exact WkX.of v44 (WkS.perm (WkS.cons rfl (Wk.refl _) (WkS.cons rfl (Wk.refl _) (WkS.nil))) Pf Pf)
      ·replace hm := yes_f hc46 hm
       refine wpD_skip ?_
       refine block_normal ?_
       refine then_normal ⟨_, lp_next hm, ?_⟩
       exact WkX.of v44 (WkS.perm (WkS.cons rfl (Wk.refl _) (WkS.cons rfl (Wk.refl _) (WkS.cons rfl (Wk.refl _) (WkS.nil)))) Pf Pf)
     ·replace hm := yes_f hc42 hm
      refine wpD_exit ?_
      refine then_exit ?_
      have e28 := lp_done hm; subst e28; clear hm; have hm := hq28
      refine then_exit ?_
      refine block_hit ?_
      have e27 := yes_eq hm; subst e27
      refine ⟨rfl, ?_⟩
      exact WkX.of z28 (WkS.perm (WkS.cons rfl (Wk.refl _) (WkS.cons rfl (Wk.refl _) (WkS.nil))) Pf Pf)
   ·intro s27 hw27; clear hm; have hm := ho27; clear q27 ho27
    refine then_normal ?_
    refine wpD_wkX hw27 (fun z27 => ?_)
    refine wpD_sr ?_
    refine pu ?_
    refine p_lit htab rfl rfl rfl rfl rfl rfl rfl rfl rfl rfl rfl rfl rfl rfl ?_
    refine p_eq (i := 26) (d' := .lst 1 (([(ByteArray.mk #[41])] : List ByteArray).map eStr) .full) rfl (Wk.lst0 (.cons (WkC.refl _) (.nil))) ?_
    obtain ⟨x47, q47, hm⟩ := yes_bind hm
    refine p_callG (grammar_reader_eat_ok (⟨y27.2.1, y27.2.2.1, y27.2.2.2.1, y27.2.2.2.2.1, y27.2.2.2.2.2⟩ : TGrammarReader) ([(ByteArray.mk #[41])] : List ByteArray) o0 T0 .no x47 q47) rfl rfl rfl rfl rfl (WkL.cons (Wk.refl _) (WkL.cons (Wk.no) Wl)) Pf Pf ?_
    rintro _ _ _ ⟨rfl, rfl, rfl⟩
    refine ops_n2 ?_
    refine pu ?_
    refine pu ?_
    refine ops_nt ?_
    refine wpD_ret ?_
    have er48 := yes_eq hm; subst er48
    refine rP (t' := [(4, .lst 2 (y27.1.map eTApiVar) (.cur z27))]) [0] [0] 1 (wC wN) (lT lN) ?_
    exact ⟨z27, rfl, rfl, rfl⟩
structure TApiExpr where
  gOp : Int
  gN : Int
  gName : ByteArray
  gKids : List TApiExpr
  gAt : Int
mutual
def eTApiExpr : TApiExpr → D
  | ⟨f0, f1, f2, f3, f4⟩ => .agg [.v (.int .i64 f0), .v (.int .i64 f1), .v (.string f2), .lst 5 (eTApiExpr_l f3) .no, .v (.int .i64 f4)]
def eTApiExpr_l : List TApiExpr → List D
  | [] => []
  | x :: l => eTApiExpr x :: eTApiExpr_l l
end
theorem eTApiExpr_map : ∀ l, eTApiExpr_l l = l.map eTApiExpr
  | [] => by simp [eTApiExpr_l]
  | x :: l => by simp only [eTApiExpr_l, List.map_cons, eTApiExpr_map l]
theorem eTApiExpr_eq (x : TApiExpr) : eTApiExpr x = .agg [.v (.int .i64 x.gOp), .v (.int .i64 x.gN), .v (.string x.gName), .lst 5 (x.gKids.map eTApiExpr) .no, .v (.int .i64 x.gAt)] := by
  cases x
  simp only [eTApiExpr, eTApiExpr_map]
structure TApiStmt where
  gOp : Int
  gName : ByteArray
  gFunc : ByteArray
  gExps : List TApiExpr
  gKids : List TApiStmt
  gElse : List TApiStmt
  gAt : Int
mutual
def eTApiStmt : TApiStmt → D
  | ⟨f0, f1, f2, f3, f4, f5, f6⟩ => .agg [.v (.int .i64 f0), .v (.string f1), .v (.string f2), .lst 5 (f3.map eTApiExpr) .no, .lst 7 (eTApiStmt_l f4) .no, .lst 7 (eTApiStmt_l f5) .no, .v (.int .i64 f6)]
def eTApiStmt_l : List TApiStmt → List D
  | [] => []
  | x :: l => eTApiStmt x :: eTApiStmt_l l
end
theorem eTApiStmt_map : ∀ l, eTApiStmt_l l = l.map eTApiStmt
  | [] => by simp [eTApiStmt_l]
  | x :: l => by simp only [eTApiStmt_l, List.map_cons, eTApiStmt_map l]
theorem eTApiStmt_eq (x : TApiStmt) : eTApiStmt x = .agg [.v (.int .i64 x.gOp), .v (.string x.gName), .v (.string x.gFunc), .lst 5 (x.gExps.map eTApiExpr) .no, .lst 7 (x.gKids.map eTApiStmt) .no, .lst 7 (x.gElse.map eTApiStmt) .no, .v (.int .i64 x.gAt)] := by
  cases x
  simp only [eTApiStmt, eTApiStmt_map]
structure TApiFunc where
  gName : ByteArray
  gParams : List TApiVar
  gLocals : List TApiVar
  gBody : List TApiStmt
  gAt : Int
noncomputable def grammar_reader_function_1 (m2 : TApiFunc) (m1 : TGrammarReader) : Option (TGrammarReader × TApiFunc) :=
  (Option.bind (α := List TApiToken × Int × Int × Int × Int × List TApiVar) (loopM (fun (s33 : List TApiToken × Int × Int × Int × Int × List TApiVar) => (Option.bind (α := Bool) (bif (s33.2.2.1 == (0 : Int)) then ((grammar_reader_is (⟨s33.1, s33.2.1, s33.2.2.1, s33.2.2.2.1, s33.2.2.2.2.1⟩ : TGrammarReader) (0 : Int) (ByteArray.mk #[105, 110, 116])).bind fun x58 => some x58) else some false) fun y56 => (bif y56 then ((grammar_reader_variable (⟨s33.1, s33.2.1, s33.2.2.1, s33.2.2.2.1, s33.2.2.2.2.1⟩ : TGrammarReader)).bind fun x60 => ((app 24 s33.2.2.2.2.2 ([x60.1] : List TApiVar)).bind fun x61 => ((grammar_reader_eat x60.2 ([(ByteArray.mk #[59])] : List ByteArray)).bind fun x62 => some (.next (x62.gL, x62.gAt, x62.gE, x62.gVars, x62.gOpen, x61))))) else some (.done (s33.1, s33.2.1, s33.2.2.1, s33.2.2.2.1, s33.2.2.2.2.1, s33.2.2.2.2.2))))) (m1.gL, m1.gAt, m1.gE, m1.gVars, m1.gOpen, m2.gLocals)) fun y32 => some ((⟨y32.1, y32.2.1, y32.2.2.1, y32.2.2.2.1, y32.2.2.2.2.1⟩ : TGrammarReader), (⟨m2.gName, m2.gParams, y32.2.2.2.2.2, m2.gBody, m2.gAt⟩ : TApiFunc)))
set_option maxRecDepth 100000 in
set_option maxHeartbeats 2000000 in
theorem grammar_reader_function_1_ok (m2 : TApiFunc) (m1 : TGrammarReader) (o0 : Nat) (T0 : TypeId) (o1 : Nat) (T1 : TypeId) (c1_0 : Cap) (o2 : Nat) (T2 : TypeId) (c2_1 : Cap) (k2_2 : Value) (c2_3 : Cap) (r : TGrammarReader × TApiFunc) (h0 : grammar_reader_function_1 m2 m1 = some r) : CallsD Try.prog 46 [.ptr o0 0, .ptr o2 0] [(o0, Blk.cells [.ptr o1 0] T0), (o1, Blk.cells [.lst 4 (m1.gL.map eTApiToken) c1_0, .v (.int .i64 m1.gAt), .v (.int .i64 m1.gE), .v (.int .i64 m1.gVars), .v (.int .i64 m1.gOpen)] T1), (o2, Blk.cells [.v (.string m2.gName), .lst 2 (m2.gParams.map eTApiVar) c2_1, .lst 2 (m2.gLocals.map eTApiVar) (.cur k2_2), .lst 7 (m2.gBody.map eTApiStmt) c2_3, .v (.int .i64 m2.gAt)] T2)] [(2, k2_2)] (fun d h k => ∃ y0, d = .tup [] ∧ h = [(o0, Blk.cells [.ptr o1 0] T0), (o1, Blk.cells [.lst 4 (r.1.gL.map eTApiToken) .no, .v (.int .i64 r.1.gAt), .v (.int .i64 r.1.gE), .v (.int .i64 r.1.gVars), .v (.int .i64 r.1.gOpen)] T1), (o2, Blk.cells [.v (.string r.2.gName), .lst 2 (r.2.gParams.map eTApiVar) c2_1, .lst 2 (r.2.gLocals.map eTApiVar) (.cur y0), .lst 7 (r.2.gBody.map eTApiStmt) c2_3, .v (.int .i64 r.2.gAt)] T2)] ∧ k = [(2, y0)]) := by
  have hm := yes_of h0
  unfold grammar_reader_function_1 at hm
  clear h0
  refine enterX htab Try.func46 rfl rfl rfl rfl rfl (fun C => ?_)
  obtain ⟨y32, q32, ho32⟩ := yes_bind hm
  refine wpD_mid (Y := Value) (fun z32 => (⟨[], [(o0, Blk.cells [.ptr o1 0] T0), (o1, Blk.cells [.lst 4 (y32.1.map eTApiToken) .no, .v (.int .i64 y32.2.1), .v (.int .i64 y32.2.2.1), .v (.int .i64 y32.2.2.2.1), .v (.int .i64 y32.2.2.2.2.1)] T1), (o2, Blk.cells [.v (.string m2.gName), .lst 2 (m2.gParams.map eTApiVar) c2_1, .lst 2 (y32.2.2.2.2.2.map eTApiVar) (.cur z32), .lst 7 (m2.gBody.map eTApiStmt) c2_3, .v (.int .i64 m2.gAt)] T2)], [(2, z32)]⟩ : S)) ?_ ?_
  ·clear hm; have hm := yes_of q32
   refine wpD_block ?_
   obtain ⟨u33, hl33, hq33⟩ := yes_m hm
   refine loop_M (Y := Value) hl33 (fun s33 z33 => (⟨[(0, .ptr o0 0), (1, .ptr o2 0)], [(o0, Blk.cells [.ptr o1 0] T0), (o1, Blk.cells [.lst 4 (s33.1.map eTApiToken) .no, .v (.int .i64 s33.2.1), .v (.int .i64 s33.2.2.1), .v (.int .i64 s33.2.2.2.1), .v (.int .i64 s33.2.2.2.2.1)] T1), (o2, Blk.cells [.v (.string m2.gName), .lst 2 (m2.gParams.map eTApiVar) c2_1, .lst 2 (s33.2.2.2.2.2.map eTApiVar) (.cur z33), .lst 7 (m2.gBody.map eTApiStmt) c2_3, .v (.int .i64 m2.gAt)] T2)], [(2, z33)]⟩ : S)) ?_ ?_
   ·skip
    refine WkX.wk (WkS.bl1 (ds' := [.lst 4 (m1.gL.map eTApiToken) .no, .v (.int .i64 m1.gAt), .v (.int .i64 m1.gE), .v (.int .i64 m1.gVars), .v (.int .i64 m1.gOpen)]) (rO (rC (rC (rC (rC WkR.nil)))))) ?_
    exact WkX.of k2_2 (WkS.perm (WkS.cons rfl (Wk.refl _) (WkS.cons rfl (Wk.refl _) (WkS.nil))) Pf Pf)
   ·intro G33 s33 z33 hm
    refine wpD_seq ?_
    refine wpD_seq ?_
    obtain ⟨y56, q56, ho56⟩ := yes_bind hm
    refine wpD_mid (Y := Unit) (fun z56 => (⟨[(0, .ptr o0 0), (1, .ptr o2 0), (10, .v (.bool y56))], [(o0, Blk.cells [.ptr o1 0] T0), (o1, Blk.cells [.lst 4 (s33.1.map eTApiToken) .no, .v (.int .i64 s33.2.1), .v (.int .i64 s33.2.2.1), .v (.int .i64 s33.2.2.2.1), .v (.int .i64 s33.2.2.2.2.1)] T1), (o2, Blk.cells [.v (.string m2.gName), .lst 2 (m2.gParams.map eTApiVar) c2_1, .lst 2 (s33.2.2.2.2.2.map eTApiVar) (.cur z33), .lst 7 (m2.gBody.map eTApiStmt) c2_3, .v (.int .i64 m2.gAt)] T2)], [(2, z33)]⟩ : S)) ?_ ?_
    ·clear hm; have hm := yes_of q56
     refine wpD_region ?_
     refine pL 0 ?_
     refine pu ?_
     refine pu ?_
     refine pL 1 ?_
     refine pu ?_
     refine pu ?_
     refine p_split (i := 7) rfl (fun hg57 => ?_) (fun hg57 => ?_)
     ·replace hm := yes_t hg57 hm
      refine pL 0 ?_
      obtain ⟨x58, q58, hm⟩ := yes_bind hm
      refine pG (grammar_reader_is_ok (⟨s33.1, s33.2.1, s33.2.2.1, s33.2.2.2.1, s33.2.2.2.2.1⟩ : TGrammarReader) (0 : Int) (ByteArray.mk #[105, 110, 116]) o1 T1 .no x58 q58) Wl ((perm_at (j := 1) rfl).trans (List.Perm.cons _ Pf)) Pf ?_
      rintro _ _ _ ⟨rfl, rfl, rfl⟩
      refine p_pickT rfl rfl rfl rfl rfl rfl ?_
      refine ops_nil ?_
      have e56 := yes_eq hm; subst e56
      refine ⟨rfl, ?_⟩
      exact WkX.of () (WkS.perm (WkS.cons rfl (Wk.refl _) (WkS.cons rfl (Wk.refl _) (WkS.cons rfl (Wk.refl _) (WkS.nil)))) ((perm_at (j := 1) rfl).trans (List.Perm.cons _ ((perm_at (j := 0) rfl).trans (List.Perm.cons _ ((perm_at (j := 0) rfl).trans (List.Perm.cons _ Pf)))))) Pf)
     ·replace hm := yes_f hg57 hm
      refine pK ?_
      refine pK ?_
      refine p_pickF rfl rfl rfl rfl rfl rfl ?_
      refine ops_nil ?_
      have e56 := yes_eq hm; subst e56
      refine ⟨rfl, ?_⟩
      exact WkX.of () (WkS.perm (WkS.cons rfl (Wk.refl _) (WkS.cons rfl (Wk.refl _) (WkS.cons rfl (Wk.refl _) (WkS.nil)))) Pf Pf)
    ·intro s56 hw56; clear hm; have hm := ho56; clear q56 ho56
     refine then_normal ?_
     refine wpD_wkX hw56 (fun z56 => ?_)
     refine wpD_cond rfl (fun hc59 => ?_) (fun hc59 => ?_)
     ·replace hm := yes_t hc59 hm
      refine wpD_skip ?_
      refine then_normal ?_
      refine wpD_block ?_
      refine wpD_seq ?_
      obtain ⟨x60, q60, hm⟩ := yes_bind hm
      refine wpD_heavyX (X := BK) 5 [] [[],[0],[],[2],[2,3]] [0,1,2,3,4] [[],[0],[],[2],[2,3],[0,1,2,3,4],[0,1,2,3,4,5],[0,1,2,3,4,5,6]] ⟨3, fun x => x.1 ++ [(o0, Blk.cells [.ptr o1 0] T0), (o2, Blk.cells [.v (.string m2.gName), .lst 2 (m2.gParams.map eTApiVar) c2_1, .lst 2 (s33.2.2.2.2.2.map eTApiVar) (.cur z33), .lst 7 (m2.gBody.map eTApiStmt) c2_3, .v (.int .i64 m2.gAt)] T2)], fun x => x.2 ++ [(2, z33)], fun x => x.1 = [(o1, Blk.cells [.lst 4 (x60.2.gL.map eTApiToken) .no, .v (.int .i64 x60.2.gAt), .v (.int .i64 x60.2.gE), .v (.int .i64 x60.2.gVars), .v (.int .i64 x60.2.gOpen)] T1)] ∧ x.2 = []⟩ ([], []) (by kernel_rfl) (by kernel_rfl) (by kernel_rfl) (by rfl) (by rfl) (by kernel_rfl) ?_
      iterate 5 apply Exists.intro
      intro bs
      refine zx_e rfl rfl (ex_pure htab rfl) rfl rfl rfl rfl rfl rfl rfl rfl ?_
      refine zx_M rfl rfl (fun _ => xm_load 2 htab rfl rfl rfl rfl rfl) (fun _ ⟨x1, x2⟩ ⟨e1, e2⟩ => by cases e1; cases e2; exact xm_load 2 htab rfl rfl rfl rfl rfl) rfl rfl rfl rfl rfl rfl rfl rfl ?_
      refine zx_M rfl rfl (fun _ => xm_load 0 htab rfl rfl rfl rfl rfl) (offB rfl) rfl rfl rfl rfl rfl rfl rfl rfl ?_
      refine zx_callH (h1 := [(o1, Blk.cells [.lst 4 (s33.1.map eTApiToken) .no, .v (.int .i64 s33.2.1), .v (.int .i64 s33.2.2.1), .v (.int .i64 s33.2.2.2.1), .v (.int .i64 s33.2.2.2.2.1)] T1)]) (k1 := []) (d := eTApiVar x60.1) rfl rfl rfl (grammar_reader_variable_ok (⟨s33.1, s33.2.1, s33.2.2.1, s33.2.2.2.1, s33.2.2.2.2.1⟩ : TGrammarReader) o1 T1 .no x60 q60) rfl rfl Wl ((perm_at (j := 1) rfl).trans (List.Perm.cons _ Pf)) Pf (fun _ => rfl) (fun _ => rfl) (fun d' h' k' ⟨e1, e2, e3⟩ => ⟨⟨e2, e3⟩, by subst e1; exact Wk.refl _⟩) rfl rfl rfl rfl rfl rfl ?_
      refine zx_E rfl rfl (ExE.wk (x_lit htab rfl rfl rfl rfl rfl rfl rfl rfl rfl rfl rfl) (show Wk _ (.lst 2 (([x60.1] : List TApiVar).map eTApiVar) .full) from Wk.lst0 (.cons (WkC.refl _) (.nil)))) rfl rfl rfl rfl rfl rfl rfl rfl ?_
      refine zx_nilB (h2 := [(o0, Blk.cells [.ptr o1 0] T0), (o2, Blk.cells [.v (.string m2.gName), .lst 2 (m2.gParams.map eTApiVar) c2_1, .lst 2 (s33.2.2.2.2.2.map eTApiVar) (.cur z33), .lst 7 (m2.gBody.map eTApiStmt) c2_3, .v (.int .i64 m2.gAt)] T2)]) (hz := [(o0, Blk.cells [.ptr o1 0] T0), (o2, Blk.cells [.v (.string m2.gName), .lst 2 (m2.gParams.map eTApiVar) c2_1, .lst 2 (s33.2.2.2.2.2.map eTApiVar) (.cur z33), .lst 7 (m2.gBody.map eTApiStmt) c2_3, .v (.int .i64 m2.gAt)] T2)]) rfl rfl (fun _ => rfl) (fun _ => rfl) rfl (fun e he => by simp [isAl] at he) ?_
      rintro _ _ ⟨rfl, rfl⟩
      obtain ⟨x61, q61, hm⟩ := yes_bind hm
      refine p_appC 0 htab rfl rfl rfl rfl rfl rfl rfl rfl rfl rfl rfl rfl rfl rfl rfl rfl rfl (app_bound q61) (fun v61 => ?_)
      refine p_mapD (i := 16) q61 rfl ?_
      refine pu ?_
      refine pS2 (ds' := [.v (.string m2.gName), .lst 2 (m2.gParams.map eTApiVar) c2_1, .lst 2 (x61.map eTApiVar) (.cur v61), .lst 7 (m2.gBody.map eTApiStmt) c2_3, .v (.int .i64 m2.gAt)]) ?_
      refine ops_nt ?_
      refine wpD_region ?_
      refine pL 1 ?_
      refine p_lit htab rfl rfl rfl rfl rfl rfl rfl rfl rfl rfl rfl rfl rfl rfl ?_
      refine p_eq (i := 19) (d' := .lst 1 (([(ByteArray.mk #[59])] : List ByteArray).map eStr) .full) rfl (Wk.lst0 (.cons (WkC.refl _) (.nil))) ?_
      obtain ⟨x62, q62, hm⟩ := yes_bind hm
      refine p_callG (grammar_reader_eat_ok x60.2 ([(ByteArray.mk #[59])] : List ByteArray) o1 T1 .no x62 q62) rfl rfl rfl rfl rfl (WkL.cons (Wk.refl _) (WkL.cons (Wk.no) Wl)) Pf Pf ?_
      rintro _ _ _ ⟨rfl, rfl, rfl⟩
      refine ops_nil ?_
      refine block_normal ?_
      refine then_normal ⟨_, lp_next hm, ?_⟩
      exact WkX.of v61 (WkS.perm (WkS.cons rfl (Wk.refl _) (WkS.cons rfl (Wk.refl _) (WkS.nil))) ((perm_at (j := 1) rfl).trans (List.Perm.cons _ ((perm_at (j := 0) rfl).trans (List.Perm.cons _ ((perm_at (j := 0) rfl).trans (List.Perm.cons _ Pf)))))) Pf)
     ·replace hm := yes_f hc59 hm
      refine wpD_exit ?_
      refine then_exit ?_
      have e33 := lp_done hm; subst e33; clear hm; have hm := hq33
      refine then_exit ?_
      refine block_hit ?_
      have e32 := yes_eq hm; subst e32
      refine ⟨rfl, ?_⟩
      exact WkX.of z33 (WkS.perm (WkS.nil) Pf Pf)
  ·intro s32 hw32; clear hm; have hm := ho32; clear q32 ho32
   refine retX.wkX hw32 (fun z32 => ?_)
   have er63 := yes_eq hm; subst er63
   refine rP (t' := []) [0,0,0] [0] 3 wN lN ?_
   exact ⟨z32, rfl, rfl, rfl⟩
structure TParseReader where
  gL : List TApiToken
  gAt : Int
  gE : Int
noncomputable def parse_reader_look (m0 : TParseReader) : Option (TApiToken) :=
  (bif (decide ((m0.gL.length : Int) ≤ m0.gAt)) then some (⟨(0 : Int), ByteArray.empty, (0 : Int), (0 : Int)⟩ : TApiToken) else ((idx m0.gL m0.gAt).bind fun x5 => some x5))
set_option maxRecDepth 100000 in
set_option maxHeartbeats 2000000 in
theorem parse_reader_look_ok (m0 : TParseReader) (o0 : Nat) (T0 : TypeId) (c0_0 : Cap) (r : TApiToken) (h0 : parse_reader_look m0 = some r) : CallsD Try.prog 96 [.ptr o0 0] [(o0, Blk.cells [.lst 4 (m0.gL.map eTApiToken) c0_0, .v (.int .i64 m0.gAt), .v (.int .i64 m0.gE)] T0)] [] (fun d h k => d = eTApiToken r ∧ h = [(o0, Blk.cells [.lst 4 (m0.gL.map eTApiToken) c0_0, .v (.int .i64 m0.gAt), .v (.int .i64 m0.gE)] T0)] ∧ k = []) := by
  have hm := yes_of h0
  unfold parse_reader_look at hm
  clear h0
  refine enterX htab Try.func96 rfl rfl rfl rfl rfl (fun C => ?_)
  refine wpD_sr ?_
  refine p_alloc htab rfl rfl rfl rfl rfl rfl rfl (fun b1 => ?_)
  refine ops_nt ?_
  refine wpD_seq ?_
  refine wpD_seq ?_
  refine wpD_draws 9 [] [[],[0],[0,1],[0,1,2],[],[4],[4,5],[4,5,6],[4,5,6,7]] [0,1,2,4,5,6,7] [[],[0],[0,1],[0,1,2],[],[4],[4,5],[4,5,6],[4,5,6,7],[0,1,2,3,4,5,6,7,8]] (by kernel_rfl) (by kernel_rfl) (by kernel_rfl) (by rfl) (by rfl) (by kernel_rfl) ?_
  iterate 7 apply Exists.intro
  intro bs
  iterate 3 refine zep ?_
  refine z_qM rfl rfl (xm_load 0 htab rfl rfl rfl rfl rfl) rfl rfl rfl rfl rfl rfl ?_
  iterate 3 refine zep ?_
  refine z_eM rfl rfl (xm_load 0 htab rfl rfl rfl rfl rfl) rfl rfl rfl rfl rfl rfl ?_
  refine z_q rfl rfl (x_lenL htab rfl rfl rfl rfl (by first | exact map_len | rfl)) rfl rfl rfl rfl rfl rfl ?_
  refine z_nil rfl rfl (fun e he => by simp [isAl] at he) ?_
  refine pu ?_
  refine ops_nt ?_
  refine wpD_cond rfl (fun hc3 => ?_) (fun hc3 => ?_)
  ·replace hm := yes_t hc3 hm
   refine wpD_sr ?_
   refine p_build (r := [.v (.int .i64 (0 : Int)), .v (.string ByteArray.empty), .v (.int .i64 (0 : Int)), .v (.int .i64 (0 : Int))]) htab rfl rfl rfl rfl rfl rfl rfl rfl rfl ?_
   refine pS1 (ds' := [.v (.int .i64 (0 : Int)), .v (.string ByteArray.empty), .v (.int .i64 (0 : Int)), .v (.int .i64 (0 : Int))]) ?_
   refine ops_nt ?_
   refine wpD_ret ?_
   refine then_ret ?_
   have er4 := yes_eq hm; subst er4
   refine rP (t' := [(2, .ptr b1 0)]) [0,0] [] 1 (wC wN) (lC 1 lN) ?_
   exact ⟨rfl, rfl, rfl⟩
  ·replace hm := yes_f hc3 hm
   refine wpD_skip ?_
   refine then_normal ?_
   refine wpD_seq ?_
   refine wpD_draws 8 [] [[],[0],[0,1],[0,1,2],[],[4],[4,5],[4,5,6]] [0,1,2,3,4,5,6] [[],[0],[0,1],[0,1,2],[],[4],[4,5],[4,5,6],[0,1,2,3,4,5,6,7],[0,1,2,3,4,5,6,7,8],[0,1,2,3,4,5,6,7,8,9]] (by kernel_rfl) (by kernel_rfl) (by kernel_rfl) (by rfl) (by rfl) (by kernel_rfl) ?_
   iterate 7 apply Exists.intro
   intro bs
   iterate 3 refine zep ?_
   refine z_eM rfl rfl (xm_load 0 htab rfl rfl rfl rfl rfl) rfl rfl rfl rfl rfl rfl ?_
   iterate 3 refine zep ?_
   refine z_qM rfl rfl (xm_load 0 htab rfl rfl rfl rfl rfl) rfl rfl rfl rfl rfl rfl ?_
   refine z_nil rfl rfl (fun e he => by simp [isAl] at he) ?_
   obtain ⟨x5, q5, hm⟩ := yes_bind hm
   refine p_elem htab rfl rfl rfl rfl rfl rfl rfl rfl rfl rfl (idx_nonneg q5) (idx_map q5) ?_
   refine p_loadEl (d := eTApiToken x5) htab rfl rfl rfl rfl rfl rfl rfl rfl ?_
   refine pS1 (ds' := [.v (.int .i64 x5.gKind), .v (.string x5.gText), .v (.int .i64 x5.gN), .v (.int .i64 x5.gAt)]) ?_
   refine ops_nt ?_
   refine wpD_ret ?_
   have er6 := yes_eq hm; subst er6
   refine rP (t' := [(2, .ptr b1 0)]) [0,0] [] 1 (wC wN) (lC 1 lN) ?_
   exact ⟨rfl, rfl, rfl⟩
noncomputable def parse_reader_is (m0 : TParseReader) (a1 : ByteArray) : Option (Bool) :=
  ((parse_reader_look m0).bind fun x1 => (bif (x1.gKind == (3 : Int)) then some (decide (x1.gText = a1)) else some false))
set_option maxRecDepth 100000 in
set_option maxHeartbeats 2000000 in
theorem parse_reader_is_ok (m0 : TParseReader) (a1 : ByteArray) (o0 : Nat) (T0 : TypeId) (c0_0 : Cap) (r : Bool) (h0 : parse_reader_is m0 a1 = some r) : CallsD Try.prog 104 [.ptr o0 0, .v (.string a1)] [(o0, Blk.cells [.lst 4 (m0.gL.map eTApiToken) c0_0, .v (.int .i64 m0.gAt), .v (.int .i64 m0.gE)] T0)] [] (fun d h k => d = .v (.bool r) ∧ h = [(o0, Blk.cells [.lst 4 (m0.gL.map eTApiToken) c0_0, .v (.int .i64 m0.gAt), .v (.int .i64 m0.gE)] T0)] ∧ k = []) := by
  have hm := yes_of h0
  unfold parse_reader_is at hm
  clear h0
  refine enterX htab Try.func104 rfl rfl rfl rfl rfl (fun C => ?_)
  refine wpD_sr ?_
  refine pu ?_
  refine ops_n2 ?_
  refine pu ?_
  obtain ⟨x1, q1, hm⟩ := yes_bind hm
  refine pG (parse_reader_look_ok m0 o0 T0 c0_0 x1 q1) Wl Pf Pf ?_
  rintro _ _ _ ⟨rfl, rfl, rfl⟩
  refine p_alloc htab rfl rfl rfl rfl rfl rfl rfl (fun b2 => ?_)
  refine pS1 (ds' := [.v (.int .i64 x1.gKind), .v (.string x1.gText), .v (.int .i64 x1.gN), .v (.int .i64 x1.gAt)]) ?_
  refine ops_n2 ?_
  refine pu ?_
  refine pL 1 ?_
  refine pu ?_
  refine pu ?_
  refine p_split (i := 11) rfl (fun hg3 => ?_) (fun hg3 => ?_)
  ·replace hm := yes_t hg3 hm
   refine pu ?_
   refine pL 1 ?_
   refine pu ?_
   refine pu ?_
   refine p_pickT rfl rfl rfl rfl rfl rfl ?_
   refine pu ?_
   refine ops_nt ?_
   refine wpD_ret ?_
   have er4 := yes_eq hm; subst er4
   refine rP (t' := [(4, .v (.bool (decide (x1.gText = a1))))]) [0] [] 1 (wC wN) (lT lN) ?_
   exact ⟨rfl, rfl, rfl⟩
  ·replace hm := yes_f hg3 hm
   iterate 4 refine pK ?_
   refine p_pickF rfl rfl rfl rfl rfl rfl ?_
   refine pu ?_
   refine ops_nt ?_
   refine wpD_ret ?_
   have er5 := yes_eq hm; subst er5
   refine rP (t' := [(4, .v (.bool false))]) [0] [] 1 (wC wN) (lT lN) ?_
   exact ⟨rfl, rfl, rfl⟩
noncomputable def parse_reader_fail (m0 : TParseReader) (a1 : Int) (a2 : Int) : Option (TParseReader) :=
  (bif (m0.gE == (0 : Int)) then some (⟨m0.gL, a1, a2⟩ : TParseReader) else some m0)
set_option maxRecDepth 100000 in
set_option maxHeartbeats 2000000 in
theorem parse_reader_fail_ok (m0 : TParseReader) (a1 : Int) (a2 : Int) (o0 : Nat) (T0 : TypeId) (c0_0 : Cap) (r : TParseReader) (h0 : parse_reader_fail m0 a1 a2 = some r) : CallsD Try.prog 101 [.ptr o0 0, .v (.int .i64 a1), .v (.int .i64 a2)] [(o0, Blk.cells [.lst 4 (m0.gL.map eTApiToken) c0_0, .v (.int .i64 m0.gAt), .v (.int .i64 m0.gE)] T0)] [] (fun d h k => d = .tup [] ∧ h = [(o0, Blk.cells [.lst 4 (r.gL.map eTApiToken) c0_0, .v (.int .i64 r.gAt), .v (.int .i64 r.gE)] T0)] ∧ k = []) := by
  have hm := yes_of h0
  unfold parse_reader_fail at hm
  clear h0
  refine enterX htab Try.func101 rfl rfl rfl rfl rfl (fun C => ?_)
  refine wpD_sr ?_
  iterate 3 refine pu ?_
  refine pL 0 ?_
  refine pu ?_
  refine ops_nt ?_
  refine wpD_cond rfl (fun hc1 => ?_) (fun hc1 => ?_)
  ·replace hm := yes_t hc1 hm
   refine wpD_region ?_
   iterate 6 refine pu ?_
   refine pS0 (ds' := [.lst 4 (m0.gL.map eTApiToken) c0_0, .v (.int .i64 a1), .v (.int .i64 m0.gE)]) ?_
   refine pu ?_
   refine pu ?_
   refine pS0 (ds' := [.lst 4 (m0.gL.map eTApiToken) c0_0, .v (.int .i64 a1), .v (.int .i64 a2)]) ?_
   refine ops_nil ?_
   have er2 := yes_eq hm; subst er2
   refine rP (t' := []) [0] [] 1 wN lN ?_
   exact ⟨rfl, rfl, rfl⟩
  ·replace hm := yes_f hc1 hm
   refine wpD_skip ?_
   have er3 := yes_eq hm; subst er3
   refine rP (t' := []) [0] [] 1 wN lN ?_
   exact ⟨rfl, rfl, rfl⟩
noncomputable def parse_reader_eat (m0 : TParseReader) (a1 : ByteArray) : Option (TParseReader) :=
  ((parse_reader_is m0 a1).bind fun x1 => (bif (!x1) then ((parse_reader_fail m0 m0.gAt (3 : Int)).bind fun x5 => some x5) else some (⟨m0.gL, (IntKind.i64.wrap (m0.gAt + (1 : Int))), m0.gE⟩ : TParseReader)))
set_option maxRecDepth 100000 in
set_option maxHeartbeats 2000000 in
theorem parse_reader_eat_ok (m0 : TParseReader) (a1 : ByteArray) (o0 : Nat) (T0 : TypeId) (c0_0 : Cap) (r : TParseReader) (h0 : parse_reader_eat m0 a1 = some r) : CallsD Try.prog 107 [.ptr o0 0, .v (.string a1)] [(o0, Blk.cells [.lst 4 (m0.gL.map eTApiToken) c0_0, .v (.int .i64 m0.gAt), .v (.int .i64 m0.gE)] T0)] [] (fun d h k => d = .tup [] ∧ h = [(o0, Blk.cells [.lst 4 (r.gL.map eTApiToken) c0_0, .v (.int .i64 r.gAt), .v (.int .i64 r.gE)] T0)] ∧ k = []) := by
  have hm := yes_of h0
  unfold parse_reader_eat at hm
  clear h0
  refine enterX htab Try.func107 rfl rfl rfl rfl rfl (fun C => ?_)
  refine wpD_seq ?_
  refine wpD_sr ?_
  refine pu ?_
  refine pu ?_
  obtain ⟨x1, q1, hm⟩ := yes_bind hm
  refine pG (parse_reader_is_ok m0 a1 o0 T0 c0_0 x1 q1) Wl Pf Pf ?_
  rintro _ _ _ ⟨rfl, rfl, rfl⟩
  refine pu ?_
  refine ops_nt ?_
  refine wpD_cond rfl (fun hc4 => ?_) (fun hc4 => ?_)
  ·replace hm := yes_t hc4 hm
   refine wpD_sr ?_
   iterate 4 refine pu ?_
   refine pL 0 ?_
   obtain ⟨x5, q5, hm⟩ := yes_bind hm
   refine pG (parse_reader_fail_ok m0 m0.gAt (3 : Int) o0 T0 c0_0 x5 q5) Wl Pf Pf ?_
   rintro _ _ _ ⟨rfl, rfl, rfl⟩
   refine ops_nt ?_
   refine wpD_ret ?_
   refine then_ret ?_
   have er6 := yes_eq hm; subst er6
   refine rP (t' := []) [0] [] 1 wN lN ?_
   exact ⟨rfl, rfl, rfl⟩
  ·replace hm := yes_f hc4 hm
   refine wpD_skip ?_
   refine then_normal ?_
   refine wpD_region ?_
   iterate 3 refine pu ?_
   refine pL 0 ?_
   iterate 3 refine pu ?_
   refine pS0 (ds' := [.lst 4 (m0.gL.map eTApiToken) c0_0, .v (.int .i64 (IntKind.i64.wrap (m0.gAt + (1 : Int)))), .v (.int .i64 m0.gE)]) ?_
   refine ops_nil ?_
   have er7 := yes_eq hm; subst er7
   refine rP (t' := []) [0] [] 1 wN lN ?_
   exact ⟨rfl, rfl, rfl⟩
noncomputable def tree_Deep_b (g0 : (TApiExpr) → Option (Int)) (a0 : TApiExpr) : Option (Int) :=
  (Option.bind (α := Int) (loopM (fun (s19 : Int × Int) => (bif (decide (s19.2 < (a0.gKids.length : Int))) then ((idx a0.gKids s19.2).bind fun x31 => ((g0 x31).bind fun x33 => some (.next ((max s19.1 x33), (IntKind.i64.wrap (s19.2 + (1 : Int))))))) else some (.done s19.1))) ((0 : Int), (0 : Int))) fun y18 => some (IntKind.i64.wrap (y18 + (1 : Int))))
set_option maxRecDepth 100000 in
set_option maxHeartbeats 2000000 in
theorem tree_Deep_b_ok (g0 : (TApiExpr) → Option (Int)) (hg0 : ∀ (a0 : TApiExpr) (r : Int) (h0 : g0 a0 = some r), CallsD Try.prog 103 [eTApiExpr a0] [] [] (fun d h k => d = .v (.int .i64 r) ∧ h = [] ∧ k = [])) (a0 : TApiExpr) (r : Int) (h0 : tree_Deep_b g0 a0 = some r) : CallsD Try.prog 103 [eTApiExpr a0] [] [] (fun d h k => d = .v (.int .i64 r) ∧ h = [] ∧ k = []) := by
  have hm := yes_of h0
  unfold tree_Deep_b at hm
  clear h0
  refine enterX htab Try.func103 rfl rfl rfl rfl rfl (fun C => ?_)
  refine w_eq (i := 0) rfl (Wk.of_eq (eTApiExpr_eq a0)) ?_
  refine wpD_sr ?_
  refine p_box rfl rfl rfl rfl rfl rfl rfl (fun b1 => ?_)
  refine pu ?_
  refine ops_n2 ?_
  refine pu ?_
  refine ops_nt ?_
  refine wpD_seq ?_
  refine wpD_sr ?_
  refine pu ?_
  refine pL 0 ?_
  refine p_lenL htab rfl rfl rfl rfl rfl rfl rfl (by first | exact map_len | rfl) ?_
  refine pu ?_
  refine ops_nt ?_
  obtain ⟨y18, q18, ho18⟩ := yes_bind hm
  refine wpD_mid (Y := Unit) (fun z18 => (⟨[(3, .v (.int .i64 y18))], [], []⟩ : S)) ?_ ?_
  ·clear hm; have hm := yes_of q18
   refine wpD_block ?_
   obtain ⟨u19, hl19, hq19⟩ := yes_m hm
   refine loop_M (Y := Unit) hl19 (fun s19 z19 => (⟨[(3, .v (.int .i64 s19.1)), (7, .lst 5 (a0.gKids.map eTApiExpr) .no), (8, .v (.int .i64 (a0.gKids.length : Int))), (9, .v (.int .i64 s19.2))], [], []⟩ : S)) ?_ ?_
   ·skip
    exact WkX.of () (WkS.perm (WkS.cons rfl (Wk.refl _) (WkS.cons rfl (Wk.refl _) (WkS.cons rfl (Wk.refl _) (WkS.cons rfl (Wk.refl _) (WkS.nil))))) Pf Pf)
   ·intro G19 s19 z19 hm
    refine wpD_sr ?_
    refine pu ?_
    refine ops_nt ?_
    refine wpD_seq ?_
    refine wpD_cond rfl (fun hc30 => ?_) (fun hc30 => ?_)
    ·replace hm := yes_t hc30 hm
     refine wpD_skip ?_
     refine then_normal ?_
     refine wpD_seq ?_
     refine wpD_block ?_
     refine wpD_sr ?_
     obtain ⟨x31, q31, hm⟩ := yes_bind hm
     refine p_elem htab rfl rfl rfl rfl rfl rfl rfl rfl rfl rfl (idx_nonneg q31) (idx_map q31) ?_
     refine p_eq (i := 11) rfl (Wk.of_eq (congrArg D.el (eTApiExpr_eq x31))) ?_
     refine p_loadEl (d := .agg [.v (.int .i64 x31.gOp), .v (.int .i64 x31.gN), .v (.string x31.gName), .lst 5 (x31.gKids.map eTApiExpr) .no, .v (.int .i64 x31.gAt)]) htab rfl rfl rfl rfl rfl rfl rfl rfl ?_
     refine p_alloc htab rfl rfl rfl rfl rfl rfl rfl (fun b32 => ?_)
     refine pS0 (ds' := [.v (.int .i64 x31.gOp), .v (.int .i64 x31.gN), .v (.string x31.gName), .lst 5 (x31.gKids.map eTApiExpr) .no, .v (.int .i64 x31.gAt)]) ?_
     refine ops_nt ?_
     refine wpD_region ?_
     refine pu ?_
     refine p_load (d := .agg [.v (.int .i64 x31.gOp), .v (.int .i64 x31.gN), .v (.string x31.gName), .lst 5 (x31.gKids.map eTApiExpr) .no, .v (.int .i64 x31.gAt)]) 0 htab rfl rfl rfl rfl rfl rfl rfl rfl ?_
     obtain ⟨x33, q33, hm⟩ := yes_bind hm
     refine p_call0 (hg0 x31 x33 q33) rfl rfl rfl rfl rfl (WkL.cons (Wk.trans (Wk.agg (WkR.refl _)) (Wk.of_eq (eTApiExpr_eq x31).symm)) Wl) ?_
     rintro _ rfl
     refine p_max rfl rfl rfl rfl rfl rfl ?_
     refine pu ?_
     refine ops_nil ?_
     refine block_normal ?_
     refine then_normal ?_
     refine wpD_region ?_
     refine pu ?_
     refine pu ?_
     refine ops_nil ?_
     refine then_normal ⟨_, lp_next hm, ?_⟩
     exact WkX.of () (WkS.perm (WkS.cons rfl (Wk.refl _) (WkS.cons rfl (Wk.refl _) (WkS.cons rfl (Wk.refl _) (WkS.cons rfl (Wk.refl _) (WkS.nil))))) Pf Pf)
    ·replace hm := yes_f hc30 hm
     refine wpD_exit ?_
     refine then_exit ?_
     have e19 := lp_done hm; subst e19; clear hm; have hm := hq19
     refine then_exit ?_
     refine block_hit ?_
     have e18 := yes_eq hm; subst e18
     refine ⟨rfl, ?_⟩
     exact WkX.of () (WkS.perm (WkS.cons rfl (Wk.refl _) (WkS.nil)) Pf Pf)
  ·intro s18 hw18; clear hm; have hm := ho18; clear q18 ho18
   refine then_normal ?_
   refine wpD_wkX hw18 (fun z18 => ?_)
   refine wpD_sr ?_
   iterate 3 refine pu ?_
   refine ops_nt ?_
   refine wpD_ret ?_
   have er34 := yes_eq hm; subst er34
   refine rP (t' := [(2, .v (.int .i64 (IntKind.i64.wrap (y18 + (1 : Int)))))]) [] [] 0 (wC wN) (lT lN) ?_
   exact ⟨rfl, rfl, rfl⟩
noncomputable def tree_Deep_g : Nat → ((TApiExpr) → Option (Int))
  | 0 => (fun _ => none)
  | n + 1 => (tree_Deep_b ((tree_Deep_g n)))
theorem tree_Deep_g_ok : ∀ n, (∀ (a0 : TApiExpr) (r : Int) (h0 : (tree_Deep_g n) a0 = some r), CallsD Try.prog 103 [eTApiExpr a0] [] [] (fun d h k => d = .v (.int .i64 r) ∧ h = [] ∧ k = []))
  | 0 => fun _ _ h0 => by cases h0
  | n + 1 => by
    have ih := tree_Deep_g_ok n
    exact tree_Deep_b_ok (tree_Deep_g n) ih
theorem tree_Deep_g_le : ∀ n, (∀ (a0 : TApiExpr), Le ((tree_Deep_g n) a0) ((tree_Deep_g (n + 1)) a0))
  | 0 => fun _ => Le.none _
  | n + 1 => by
    have ih := tree_Deep_g_le n
    exact fun a0 => by show Le (tree_Deep_b ((tree_Deep_g n)) a0) (tree_Deep_b ((tree_Deep_g (n + 1))) a0); unfold tree_Deep_b; repeat (first | exact Le.refl _ | exact ih _ | assumption | (refine Le.bind ?_ (fun _ => ?_)) | (refine Le.cond ?_ ?_) | (refine Le.loop (fun _ => ?_)) | (refine Le.elim (fun _ => ?_) (fun _ => ?_)))
noncomputable def tree_Deep (a0 : TApiExpr) : Option (Int) := anyN fun n => (tree_Deep_g n) a0
theorem tree_Deep_of (a0 : TApiExpr) {r : Int} (n : Nat) (h : (tree_Deep_g n) a0 = some r) : tree_Deep a0 = some r := anyN_of (fun m => (tree_Deep_g_le m) a0) h
theorem tree_Deep_ok (a0 : TApiExpr) (r : Int) (h0 : tree_Deep a0 = some r) : CallsD Try.prog 103 [eTApiExpr a0] [] [] (fun d h k => d = .v (.int .i64 r) ∧ h = [] ∧ k = []) :=
  let ⟨n, hn⟩ := anyN_inv h0; (tree_Deep_g_ok n) a0  r hn
noncomputable def parse_reader_sound (m0 : TParseReader) (a1 : TApiExpr) (a2 : Int) : Option (TApiExpr × TParseReader) :=
  (bif (m0.gE != (0 : Int)) then some ((⟨(0 : Int), (0 : Int), ByteArray.empty, [], (0 : Int)⟩ : TApiExpr), m0) else ((tree_Deep a1).bind fun x6 => (bif (decide ((24 : Int) < x6)) then ((parse_reader_fail m0 a2 (5 : Int)).bind fun x8 => some ((⟨(0 : Int), (0 : Int), ByteArray.empty, [], (0 : Int)⟩ : TApiExpr), x8)) else some (a1, m0))))
set_option maxRecDepth 100000 in
set_option maxHeartbeats 2000000 in
theorem parse_reader_sound_ok (m0 : TParseReader) (a1 : TApiExpr) (a2 : Int) (o0 : Nat) (T0 : TypeId) (c0_0 : Cap) (r : TApiExpr × TParseReader) (h0 : parse_reader_sound m0 a1 a2 = some r) : CallsD Try.prog 98 [.ptr o0 0, eTApiExpr a1, .v (.int .i64 a2)] [(o0, Blk.cells [.lst 4 (m0.gL.map eTApiToken) c0_0, .v (.int .i64 m0.gAt), .v (.int .i64 m0.gE)] T0)] [] (fun d h k => d = eTApiExpr r.1 ∧ h = [(o0, Blk.cells [.lst 4 (r.2.gL.map eTApiToken) c0_0, .v (.int .i64 r.2.gAt), .v (.int .i64 r.2.gE)] T0)] ∧ k = []) := by
  have hm := yes_of h0
  unfold parse_reader_sound at hm
  clear h0
  refine enterX htab Try.func98 rfl rfl rfl rfl rfl (fun C => ?_)
  refine w_eq (i := 1) rfl (Wk.of_eq (eTApiExpr_eq a1)) ?_
  refine wpD_sr ?_
  refine p_box rfl rfl rfl rfl rfl rfl rfl (fun b1 => ?_)
  refine p_alloc htab rfl rfl rfl rfl rfl rfl rfl (fun b2 => ?_)
  refine ops_nt ?_
  refine wpD_seq ?_
  refine wpD_sr ?_
  iterate 3 refine pu ?_
  refine pL 0 ?_
  refine pu ?_
  refine ops_nt ?_
  refine wpD_cond rfl (fun hc4 => ?_) (fun hc4 => ?_)
  ·replace hm := yes_t hc4 hm
   refine wpD_sr ?_
   refine p_build (r := [.v (.int .i64 (0 : Int)), .v (.int .i64 (0 : Int)), .v (.string ByteArray.empty), .lst 1 [] .full, .v (.int .i64 (0 : Int))]) htab rfl rfl rfl rfl rfl rfl rfl rfl rfl ?_
   refine pS2 (ds' := [.v (.int .i64 (0 : Int)), .v (.int .i64 (0 : Int)), .v (.string ByteArray.empty), .lst 1 [] .full, .v (.int .i64 (0 : Int))]) ?_
   refine ops_nt ?_
   refine wpD_ret ?_
   refine then_ret ?_
   have er5 := yes_eq hm; subst er5
   refine retX.wk (WkS.bl2 (ds' := [.v (.int .i64 (0 : Int)), .v (.int .i64 (0 : Int)), .v (.string ByteArray.empty), .lst 5 (([] : List TApiExpr).map eTApiExpr) .no, .v (.int .i64 (0 : Int))]) (rC (rC (rC (WkR.cons (WkC.nil) rfl (rC WkR.nil)))))) ?_
   refine rP (t' := [(6, .ptr b2 0)]) [0,1] [] 1 (wC wN) (lC 1 lN) ?_
   exact ⟨by first | rfl | (simp only [wrapD, eTApiExpr_eq]; done) | (simp only [wrapD, eTApiExpr_eq]; rfl), rfl, rfl⟩
  ·replace hm := yes_f hc4 hm
   refine wpD_skip ?_
   refine then_normal ?_
   refine wpD_seq ?_
   refine wpD_sr ?_
   refine p_load (d := .agg [.v (.int .i64 a1.gOp), .v (.int .i64 a1.gN), .v (.string a1.gName), .lst 5 (a1.gKids.map eTApiExpr) .no, .v (.int .i64 a1.gAt)]) 1 htab rfl rfl rfl rfl rfl rfl rfl rfl ?_
   obtain ⟨x6, q6, hm⟩ := yes_bind hm
   refine p_call0 (tree_Deep_ok a1 x6 q6) rfl rfl rfl rfl rfl (WkL.cons (Wk.trans (Wk.agg (WkR.refl _)) (Wk.of_eq (eTApiExpr_eq a1).symm)) Wl) ?_
   rintro _ rfl
   refine pu ?_
   refine ops_nt ?_
   refine wpD_cond rfl (fun hc7 => ?_) (fun hc7 => ?_)
   ·replace hm := yes_t hc7 hm
    refine wpD_sr ?_
    refine pu ?_
    refine pu ?_
    obtain ⟨x8, q8, hm⟩ := yes_bind hm
    refine pG (parse_reader_fail_ok m0 a2 (5 : Int) o0 T0 c0_0 x8 q8) Wl Pf Pf ?_
    rintro _ _ _ ⟨rfl, rfl, rfl⟩
    refine ops_n2 ?_
    refine p_build (r := [.v (.int .i64 (0 : Int)), .v (.int .i64 (0 : Int)), .v (.string ByteArray.empty), .lst 1 [] .full, .v (.int .i64 (0 : Int))]) htab rfl rfl rfl rfl rfl rfl rfl rfl rfl ?_
    refine pS2 (ds' := [.v (.int .i64 (0 : Int)), .v (.int .i64 (0 : Int)), .v (.string ByteArray.empty), .lst 1 [] .full, .v (.int .i64 (0 : Int))]) ?_
    refine ops_nt ?_
    refine wpD_ret ?_
    refine then_ret ?_
    have er9 := yes_eq hm; subst er9
    refine retX.wk (WkS.bl2 (ds' := [.v (.int .i64 (0 : Int)), .v (.int .i64 (0 : Int)), .v (.string ByteArray.empty), .lst 5 (([] : List TApiExpr).map eTApiExpr) .no, .v (.int .i64 (0 : Int))]) (rC (rC (rC (WkR.cons (WkC.nil) rfl (rC WkR.nil)))))) ?_
    refine rP (t' := [(6, .ptr b2 0)]) [0,1] [] 1 (wC wN) (lC 1 lN) ?_
    exact ⟨by first | rfl | (simp only [wrapD, eTApiExpr_eq]; done) | (simp only [wrapD, eTApiExpr_eq]; rfl), rfl, rfl⟩
   ·replace hm := yes_f hc7 hm
    refine wpD_skip ?_
    refine then_normal ?_
    refine wpD_sr ?_
    refine p_load (d := .agg [.v (.int .i64 a1.gOp), .v (.int .i64 a1.gN), .v (.string a1.gName), .lst 5 (a1.gKids.map eTApiExpr) .no, .v (.int .i64 a1.gAt)]) 1 htab rfl rfl rfl rfl rfl rfl rfl rfl ?_
    refine pS2 (ds' := [.v (.int .i64 a1.gOp), .v (.int .i64 a1.gN), .v (.string a1.gName), .lst 5 (a1.gKids.map eTApiExpr) .no, .v (.int .i64 a1.gAt)]) ?_
    refine ops_nt ?_
    refine wpD_ret ?_
    have er10 := yes_eq hm; subst er10
    refine rP (t' := [(6, .ptr b2 0)]) [0,1] [] 1 (wC wN) (lC 1 lN) ?_
    exact ⟨by first | rfl | (simp only [wrapD, eTApiExpr_eq]; done) | (simp only [wrapD, eTApiExpr_eq]; rfl), rfl, rfl⟩
noncomputable def parse_pick (a0 : ByteArray) (a1 : ByteArray) (a2 : Int) (a3 : ByteArray) (a4 : Int) : Option (Int) :=
  (bif (decide (a0 = a1)) then some a2 else (bif (decide (a0 = a3)) then some a4 else some (0 : Int)))
set_option maxRecDepth 100000 in
set_option maxHeartbeats 2000000 in
theorem parse_pick_ok (a0 : ByteArray) (a1 : ByteArray) (a2 : Int) (a3 : ByteArray) (a4 : Int) (r : Int) (h0 : parse_pick a0 a1 a2 a3 a4 = some r) : CallsD Try.prog 102 [.v (.string a0), .v (.string a1), .v (.int .i64 a2), .v (.string a3), .v (.int .i64 a4)] [] [] (fun d h k => d = .v (.int .i64 r) ∧ h = [] ∧ k = []) := by
  have hm := yes_of h0
  unfold parse_pick at hm
  clear h0
  refine enterX htab Try.func102 rfl rfl rfl rfl rfl (fun C => ?_)
  refine wpD_sr ?_
  refine pu ?_
  refine ops_nt ?_
  refine wpD_seq ?_
  refine wpD_sr ?_
  refine pu ?_
  refine ops_nt ?_
  refine wpD_block ?_
  refine wpD_sr ?_
  iterate 3 refine pu ?_
  refine ops_nt ?_
  refine wpD_cond rfl (fun hc1 => ?_) (fun hc1 => ?_)
  ·replace hm := yes_t hc1 hm
   refine wpD_sr ?_
   refine pu ?_
   refine pu ?_
   refine ops_nt ?_
   refine wpD_ret ?_
   refine block_ret ?_
   refine then_ret ?_
   have er2 := yes_eq hm; subst er2
   refine rP (t' := [(10, .v (.int .i64 a2))]) [] [] 0 (wC wN) (lT lN) ?_
   exact ⟨rfl, rfl, rfl⟩
  ·replace hm := yes_f hc1 hm
   refine wpD_sr ?_
   iterate 3 refine pu ?_
   refine ops_nt ?_
   refine wpD_cond rfl (fun hc3 => ?_) (fun hc3 => ?_)
   ·replace hm := yes_t hc3 hm
    refine wpD_sr ?_
    refine pu ?_
    refine pu ?_
    refine ops_nt ?_
    refine wpD_ret ?_
    refine block_ret ?_
    refine then_ret ?_
    have er4 := yes_eq hm; subst er4
    refine rP (t' := [(10, .v (.int .i64 a4))]) [] [] 0 (wC wN) (lT lN) ?_
    exact ⟨rfl, rfl, rfl⟩
   ·replace hm := yes_f hc3 hm
    refine wpD_skip ?_
    refine block_normal ?_
    refine then_normal ?_
    refine wpD_sr ?_
    refine pu ?_
    refine ops_nt ?_
    refine wpD_ret ?_
    have er5 := yes_eq hm; subst er5
    refine rP (t' := [(10, .v (.int .i64 (0 : Int)))]) [] [] 0 (wC wN) (lT lN) ?_
    exact ⟨rfl, rfl, rfl⟩
noncomputable def parse_reader_name (m0 : TParseReader) : Option (ByteArray × TParseReader) :=
  ((parse_reader_look m0).bind fun x1 => (bif (x1.gKind != (1 : Int)) then ((parse_reader_fail m0 m0.gAt (3 : Int)).bind fun x6 => some ((ByteArray.mk #[]), x6)) else some (x1.gText, (⟨m0.gL, (IntKind.i64.wrap (m0.gAt + (1 : Int))), m0.gE⟩ : TParseReader))))
set_option maxRecDepth 100000 in
set_option maxHeartbeats 2000000 in
theorem parse_reader_name_ok (m0 : TParseReader) (o0 : Nat) (T0 : TypeId) (c0_0 : Cap) (r : ByteArray × TParseReader) (h0 : parse_reader_name m0 = some r) : CallsD Try.prog 106 [.ptr o0 0] [(o0, Blk.cells [.lst 4 (m0.gL.map eTApiToken) c0_0, .v (.int .i64 m0.gAt), .v (.int .i64 m0.gE)] T0)] [] (fun d h k => d = .v (.string r.1) ∧ h = [(o0, Blk.cells [.lst 4 (r.2.gL.map eTApiToken) c0_0, .v (.int .i64 r.2.gAt), .v (.int .i64 r.2.gE)] T0)] ∧ k = []) := by
  have hm := yes_of h0
  unfold parse_reader_name at hm
  clear h0
  refine enterX htab Try.func106 rfl rfl rfl rfl rfl (fun C => ?_)
  refine wpD_sr ?_
  refine pu ?_
  refine ops_n2 ?_
  refine pu ?_
  obtain ⟨x1, q1, hm⟩ := yes_bind hm
  refine pG (parse_reader_look_ok m0 o0 T0 c0_0 x1 q1) Wl Pf Pf ?_
  rintro _ _ _ ⟨rfl, rfl, rfl⟩
  refine p_alloc htab rfl rfl rfl rfl rfl rfl rfl (fun b2 => ?_)
  refine pS1 (ds' := [.v (.int .i64 x1.gKind), .v (.string x1.gText), .v (.int .i64 x1.gN), .v (.int .i64 x1.gAt)]) ?_
  refine ops_nt ?_
  refine wpD_seq ?_
  refine wpD_sr ?_
  refine pu ?_
  refine pL 1 ?_
  refine pu ?_
  refine ops_nt ?_
  refine wpD_cond rfl (fun hc5 => ?_) (fun hc5 => ?_)
  ·replace hm := yes_t hc5 hm
   refine wpD_sr ?_
   iterate 4 refine pu ?_
   refine pL 0 ?_
   obtain ⟨x6, q6, hm⟩ := yes_bind hm
   refine pG (parse_reader_fail_ok m0 m0.gAt (3 : Int) o0 T0 c0_0 x6 q6) Wl Pf Pf ?_
   rintro _ _ _ ⟨rfl, rfl, rfl⟩
   refine ops_n2 ?_
   refine pu ?_
   refine ops_nt ?_
   refine wpD_ret ?_
   refine then_ret ?_
   have er7 := yes_eq hm; subst er7
   refine rP (t' := [(2, .v (.string (ByteArray.mk #[])))]) [0] [] 1 (wC wN) (lT lN) ?_
   exact ⟨rfl, rfl, rfl⟩
  ·replace hm := yes_f hc5 hm
   refine wpD_skip ?_
   refine then_normal ?_
   refine wpD_sr ?_
   iterate 3 refine pu ?_
   refine pL 0 ?_
   iterate 3 refine pu ?_
   refine pS0 (ds' := [.lst 4 (m0.gL.map eTApiToken) c0_0, .v (.int .i64 (IntKind.i64.wrap (m0.gAt + (1 : Int)))), .v (.int .i64 m0.gE)]) ?_
   refine ops_n2 ?_
   refine pu ?_
   refine pL 1 ?_
   refine pu ?_
   refine ops_nt ?_
   refine wpD_ret ?_
   have er8 := yes_eq hm; subst er8
   refine rP (t' := [(2, .v (.string x1.gText))]) [0] [] 1 (wC wN) (lT lN) ?_
   exact ⟨rfl, rfl, rfl⟩
end Go.Proofs.Ytmgklehakmdiiaa.Ab
