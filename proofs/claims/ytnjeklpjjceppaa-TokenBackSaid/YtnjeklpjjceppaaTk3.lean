/- The texts that tokenBack_holds leans on, part 3. -/
import Derived.Test.YtnjeklpjjceppaaTk2
namespace Go.Proofs.Ytnjeklpjjceppaa.Ab
open Go
set_option linter.all false
noncomputable def token_kind (a0 : Int) : Option (Int) :=
  (Option.bind (α := Bool) (bif (a0 == (32 : Int)) then some true else (bif (a0 == (9 : Int)) then some true else (bif (a0 == (10 : Int)) then some true else some (a0 == (13 : Int))))) fun y4 => (bif y4 then some (1 : Int) else (Option.bind (α := Bool) (bif (decide ((97 : Int) ≤ a0)) then (bif (decide (a0 ≤ (122 : Int))) then some true else (bif (decide ((65 : Int) ≤ a0)) then (bif (decide (a0 ≤ (90 : Int))) then some true else some (a0 == (95 : Int))) else some (a0 == (95 : Int)))) else (bif (decide ((65 : Int) ≤ a0)) then (bif (decide (a0 ≤ (90 : Int))) then some true else some (a0 == (95 : Int))) else some (a0 == (95 : Int)))) fun y16 => (bif y16 then some (2 : Int) else (bif (decide ((48 : Int) ≤ a0)) then (bif (decide (a0 ≤ (57 : Int))) then some (3 : Int) else some (0 : Int)) else some (0 : Int))))))
set_option maxRecDepth 100000 in
set_option maxHeartbeats 2000000 in
theorem token_kind_ok (a0 : Int) (r : Int) (h0 : token_kind a0 = some r) : CallsD Try.prog 24 [.v (.int .i32 a0)] [] [] (fun d h k => d = .v (.int .i64 r) ∧ h = [] ∧ k = []) := by
  have hm := yes_of h0
  unfold token_kind at hm
  clear h0
  refine enterX htab Try.func24 rfl rfl rfl rfl rfl (fun C => ?_)
  refine wpD_sr ?_
  refine pu ?_
  refine ops_nt ?_
  refine wpD_seq ?_
  refine wpD_block ?_
  refine wpD_seq ?_
  obtain ⟨y4, q4, ho4⟩ := yes_bind hm
  refine wpD_mid (Y := Unit) (fun z4 => (⟨[(0, .v (.int .i32 a0)), (3, .v (.bool y4))], [], []⟩ : S)) ?_ ?_
  ·clear hm; have hm := yes_of q4
   refine wpD_region ?_
   iterate 3 refine pu ?_
   refine p_split (i := 6) rfl (fun hg5 => ?_) (fun hg5 => ?_)
   ·replace hm := yes_t hg5 hm
    refine pK ?_
    refine pK ?_
    refine p_pickT rfl rfl rfl rfl rfl rfl ?_
    refine pu ?_
    refine pK ?_
    refine pK ?_
    refine p_pickT rfl rfl rfl rfl rfl rfl ?_
    refine pu ?_
    refine pK ?_
    refine pK ?_
    refine p_pickT rfl rfl rfl rfl rfl rfl ?_
    refine pu ?_
    refine ops_nil ?_
    have e4 := yes_eq hm; subst e4
    refine ⟨rfl, ?_⟩
    exact WkX.of () (WkS.perm (WkS.cons rfl (Wk.refl _) (WkS.cons rfl (Wk.refl _) (WkS.nil))) Pf Pf)
   ·replace hm := yes_f hg5 hm
    refine pu ?_
    refine pu ?_
    refine p_pickF rfl rfl rfl rfl rfl rfl ?_
    refine pu ?_
    refine p_split (i := 10) rfl (fun hg6 => ?_) (fun hg6 => ?_)
    ·replace hm := yes_t hg6 hm
     refine pK ?_
     refine pK ?_
     refine p_pickT rfl rfl rfl rfl rfl rfl ?_
     refine pu ?_
     refine pK ?_
     refine pK ?_
     refine p_pickT rfl rfl rfl rfl rfl rfl ?_
     refine pu ?_
     refine ops_nil ?_
     have e4 := yes_eq hm; subst e4
     refine ⟨rfl, ?_⟩
     exact WkX.of () (WkS.perm (WkS.cons rfl (Wk.refl _) (WkS.cons rfl (Wk.refl _) (WkS.nil))) Pf Pf)
    ·replace hm := yes_f hg6 hm
     refine pu ?_
     refine pu ?_
     refine p_pickF rfl rfl rfl rfl rfl rfl ?_
     refine pu ?_
     refine p_split (i := 14) rfl (fun hg7 => ?_) (fun hg7 => ?_)
     ·replace hm := yes_t hg7 hm
      refine pK ?_
      refine pK ?_
      refine p_pickT rfl rfl rfl rfl rfl rfl ?_
      refine pu ?_
      refine ops_nil ?_
      have e4 := yes_eq hm; subst e4
      refine ⟨rfl, ?_⟩
      exact WkX.of () (WkS.perm (WkS.cons rfl (Wk.refl _) (WkS.cons rfl (Wk.refl _) (WkS.nil))) Pf Pf)
     ·replace hm := yes_f hg7 hm
      refine pu ?_
      refine pu ?_
      refine p_pickF rfl rfl rfl rfl rfl rfl ?_
      refine pu ?_
      refine ops_nil ?_
      have e4 := yes_eq hm; subst e4
      refine ⟨rfl, ?_⟩
      exact WkX.of () (WkS.perm (WkS.cons rfl (Wk.refl _) (WkS.cons rfl (Wk.refl _) (WkS.nil))) Pf Pf)
  ·intro s4 hw4; clear hm; have hm := ho4; clear q4 ho4
   refine then_normal ?_
   refine wpD_wkX hw4 (fun z4 => ?_)
   refine wpD_cond rfl (fun hc8 => ?_) (fun hc8 => ?_)
   ·replace hm := yes_t hc8 hm
    refine wpD_sr ?_
    refine pu ?_
    refine ops_nt ?_
    refine wpD_ret ?_
    refine block_ret ?_
    refine then_ret ?_
    have er9 := yes_eq hm; subst er9
    refine rP (t' := [(2, .v (.int .i64 (1 : Int)))]) [] [] 0 (wC wN) (lT lN) ?_
    exact ⟨rfl, rfl, rfl⟩
   ·replace hm := yes_f hc8 hm
    refine wpD_seq ?_
    obtain ⟨y16, q16, ho16⟩ := yes_bind hm
    refine wpD_mid (Y := Unit) (fun z16 => (⟨[(0, .v (.int .i32 a0)), (18, .v (.bool y16))], [], []⟩ : S)) ?_ ?_
    ·clear hm; have hm := yes_of q16
     refine wpD_region ?_
     iterate 3 refine pu ?_
     refine p_split (i := 21) rfl (fun hg17 => ?_) (fun hg17 => ?_)
     ·replace hm := yes_t hg17 hm
      refine pu ?_
      refine pu ?_
      refine p_pickT rfl rfl rfl rfl rfl rfl ?_
      refine pu ?_
      refine p_split (i := 25) rfl (fun hg18 => ?_) (fun hg18 => ?_)
      ·replace hm := yes_t hg18 hm
       iterate 6 refine pK ?_
       refine p_pickT rfl rfl rfl rfl rfl rfl ?_
       refine pu ?_
       refine pK ?_
       refine pK ?_
       refine p_pickT rfl rfl rfl rfl rfl rfl ?_
       refine pu ?_
       refine ops_nil ?_
       have e16 := yes_eq hm; subst e16
       refine ⟨rfl, ?_⟩
       exact WkX.of () (WkS.perm (WkS.cons rfl (Wk.refl _) (WkS.cons rfl (Wk.refl _) (WkS.nil))) Pf Pf)
      ·replace hm := yes_f hg18 hm
       iterate 3 refine pu ?_
       refine p_split (i := 28) rfl (fun hg19 => ?_) (fun hg19 => ?_)
       ·replace hm := yes_t hg19 hm
        refine pu ?_
        refine pu ?_
        refine p_pickT rfl rfl rfl rfl rfl rfl ?_
        refine p_pickF rfl rfl rfl rfl rfl rfl ?_
        refine pu ?_
        refine p_split (i := 33) rfl (fun hg20 => ?_) (fun hg20 => ?_)
        ·replace hm := yes_t hg20 hm
         refine pK ?_
         refine pK ?_
         refine p_pickT rfl rfl rfl rfl rfl rfl ?_
         refine pu ?_
         refine ops_nil ?_
         have e16 := yes_eq hm; subst e16
         refine ⟨rfl, ?_⟩
         exact WkX.of () (WkS.perm (WkS.cons rfl (Wk.refl _) (WkS.cons rfl (Wk.refl _) (WkS.nil))) Pf Pf)
        ·replace hm := yes_f hg20 hm
         refine pu ?_
         refine pu ?_
         refine p_pickF rfl rfl rfl rfl rfl rfl ?_
         refine pu ?_
         refine ops_nil ?_
         have e16 := yes_eq hm; subst e16
         refine ⟨rfl, ?_⟩
         exact WkX.of () (WkS.perm (WkS.cons rfl (Wk.refl _) (WkS.cons rfl (Wk.refl _) (WkS.nil))) Pf Pf)
       ·replace hm := yes_f hg19 hm
        refine pK ?_
        refine pK ?_
        refine p_pickF rfl rfl rfl rfl rfl rfl ?_
        refine p_pickF rfl rfl rfl rfl rfl rfl ?_
        iterate 3 refine pu ?_
        refine p_pickF rfl rfl rfl rfl rfl rfl ?_
        refine pu ?_
        refine ops_nil ?_
        have e16 := yes_eq hm; subst e16
        refine ⟨rfl, ?_⟩
        exact WkX.of () (WkS.perm (WkS.cons rfl (Wk.refl _) (WkS.cons rfl (Wk.refl _) (WkS.nil))) Pf Pf)
     ·replace hm := yes_f hg17 hm
      refine pK ?_
      refine pK ?_
      refine p_pickF rfl rfl rfl rfl rfl rfl ?_
      iterate 4 refine pu ?_
      refine p_split (i := 28) rfl (fun hg21 => ?_) (fun hg21 => ?_)
      ·replace hm := yes_t hg21 hm
       refine pu ?_
       refine pu ?_
       refine p_pickT rfl rfl rfl rfl rfl rfl ?_
       refine p_pickF rfl rfl rfl rfl rfl rfl ?_
       refine pu ?_
       refine p_split (i := 33) rfl (fun hg22 => ?_) (fun hg22 => ?_)
       ·replace hm := yes_t hg22 hm
        refine pK ?_
        refine pK ?_
        refine p_pickT rfl rfl rfl rfl rfl rfl ?_
        refine pu ?_
        refine ops_nil ?_
        have e16 := yes_eq hm; subst e16
        refine ⟨rfl, ?_⟩
        exact WkX.of () (WkS.perm (WkS.cons rfl (Wk.refl _) (WkS.cons rfl (Wk.refl _) (WkS.nil))) Pf Pf)
       ·replace hm := yes_f hg22 hm
        refine pu ?_
        refine pu ?_
        refine p_pickF rfl rfl rfl rfl rfl rfl ?_
        refine pu ?_
        refine ops_nil ?_
        have e16 := yes_eq hm; subst e16
        refine ⟨rfl, ?_⟩
        exact WkX.of () (WkS.perm (WkS.cons rfl (Wk.refl _) (WkS.cons rfl (Wk.refl _) (WkS.nil))) Pf Pf)
      ·replace hm := yes_f hg21 hm
       refine pK ?_
       refine pK ?_
       refine p_pickF rfl rfl rfl rfl rfl rfl ?_
       refine p_pickF rfl rfl rfl rfl rfl rfl ?_
       iterate 3 refine pu ?_
       refine p_pickF rfl rfl rfl rfl rfl rfl ?_
       refine pu ?_
       refine ops_nil ?_
       have e16 := yes_eq hm; subst e16
       refine ⟨rfl, ?_⟩
       exact WkX.of () (WkS.perm (WkS.cons rfl (Wk.refl _) (WkS.cons rfl (Wk.refl _) (WkS.nil))) Pf Pf)
    ·intro s16 hw16; clear hm; have hm := ho16; clear q16 ho16
     refine then_normal ?_
     refine wpD_wkX hw16 (fun z16 => ?_)
     refine wpD_cond rfl (fun hc23 => ?_) (fun hc23 => ?_)
     ·replace hm := yes_t hc23 hm
      refine wpD_sr ?_
      refine pu ?_
      refine ops_nt ?_
      refine wpD_ret ?_
      refine block_ret ?_
      refine then_ret ?_
      have er24 := yes_eq hm; subst er24
      refine rP (t' := [(2, .v (.int .i64 (2 : Int)))]) [] [] 0 (wC wN) (lT lN) ?_
      exact ⟨rfl, rfl, rfl⟩
     ·replace hm := yes_f hc23 hm
      refine wpD_sr ?_
      iterate 3 refine pu ?_
      refine p_split (i := 40) rfl (fun hg25 => ?_) (fun hg25 => ?_)
      ·replace hm := yes_t hg25 hm
       refine pu ?_
       refine pu ?_
       refine p_pickT rfl rfl rfl rfl rfl rfl ?_
       refine pu ?_
       refine ops_nt ?_
       refine wpD_cond rfl (fun hc26 => ?_) (fun hc26 => ?_)
       ·replace hm := yes_t hc26 hm
        refine wpD_sr ?_
        refine pu ?_
        refine ops_nt ?_
        refine wpD_ret ?_
        refine block_ret ?_
        refine then_ret ?_
        have er27 := yes_eq hm; subst er27
        refine rP (t' := [(2, .v (.int .i64 (3 : Int)))]) [] [] 0 (wC wN) (lT lN) ?_
        exact ⟨rfl, rfl, rfl⟩
       ·replace hm := yes_f hc26 hm
        refine wpD_skip ?_
        refine block_normal ?_
        refine then_normal ?_
        refine wpD_sr ?_
        refine pu ?_
        refine ops_nt ?_
        refine wpD_ret ?_
        have er28 := yes_eq hm; subst er28
        refine rP (t' := [(2, .v (.int .i64 (0 : Int)))]) [] [] 0 (wC wN) (lT lN) ?_
        exact ⟨rfl, rfl, rfl⟩
      ·replace hm := yes_f hg25 hm
       refine pK ?_
       refine pK ?_
       refine p_pickF rfl rfl rfl rfl rfl rfl ?_
       refine pu ?_
       refine ops_nt ?_
       refine wpD_false rfl ?_
       refine wpD_skip ?_
       refine block_normal ?_
       refine then_normal ?_
       refine wpD_sr ?_
       refine pu ?_
       refine ops_nt ?_
       refine wpD_ret ?_
       have er29 := yes_eq hm; subst er29
       refine rP (t' := [(2, .v (.int .i64 (0 : Int)))]) [] [] 0 (wC wN) (lT lN) ?_
       exact ⟨rfl, rfl, rfl⟩
structure TApiToken where
  gKind : Int
  gText : ByteArray
  gN : Int
  gAt : Int
def eTApiToken (x : TApiToken) : D := .agg [.v (.int .i64 x.gKind), .v (.string x.gText), .v (.int .i64 x.gN), .v (.int .i64 x.gAt)]
structure TTokenReader where
  gB : List UInt8
  gAt : Int
  gL : List TApiToken
abbrev nlTo1_1 : List (List Nat) := [[],[0],[0,1],[0,1,2],[],[4],[4,5],[4,5,6],[],[4,5,6,7,8],[0,1,2,3,4,5,6,7,8,9],[0,1,2,3,4,5,6,7,8,9,10],[0,1,2,3,4,5,6,7,8,9,10,11],[0,1,2,3,4,5,6,7,8,9,10,11,12],[0,1,2,3,4,5,6,7,8,9,10,11,12,13]]
noncomputable def token_reader_span (m0 : TTokenReader) (a1 : Bool) : Option (Int) :=
  (Option.bind (α := Int) (loopM (fun (s24 : Int) => (bif (decide ((IntKind.i64.wrap (m0.gAt + s24)) < (m0.gB.length : Int))) then ((idx m0.gB (IntKind.i64.wrap (m0.gAt + s24))).bind fun x40 => ((token_kind (IntKind.i32.wrap (x40.toNat : Int))).bind fun x41 => (bif (x41 != (3 : Int)) then (bif (x41 != (2 : Int)) then some (.done s24) else (bif (!a1) then some (.done s24) else some (.next (IntKind.i64.wrap (s24 + (1 : Int)))))) else some (.next (IntKind.i64.wrap (s24 + (1 : Int))))))) else some (.done s24))) (0 : Int)) fun y23 => some y23)
set_option maxRecDepth 100000 in
set_option maxHeartbeats 2000000 in
theorem token_reader_span_ok (m0 : TTokenReader) (a1 : Bool) (o0 : Nat) (T0 : TypeId) (c0_0 : Cap) (c0_2 : Cap) (r : Int) (h0 : token_reader_span m0 a1 = some r) : CallsD Try.prog 34 [.ptr o0 0, .v (.bool a1)] [(o0, Blk.cells [.lst 1 (m0.gB.map byteD) c0_0, .v (.int .i64 m0.gAt), .lst 4 (m0.gL.map eTApiToken) c0_2] T0)] [] (fun d h k => d = .v (.int .i64 r) ∧ h = [(o0, Blk.cells [.lst 1 (m0.gB.map byteD) c0_0, .v (.int .i64 m0.gAt), .lst 4 (m0.gL.map eTApiToken) c0_2] T0)] ∧ k = []) := by
  have hm := yes_of h0
  unfold token_reader_span at hm
  clear h0
  refine enterX htab Try.func34 rfl rfl rfl rfl rfl (fun C => ?_)
  refine wpD_sr ?_
  refine pu ?_
  refine ops_n2 ?_
  refine pu ?_
  refine ops_nt ?_
  refine wpD_seq ?_
  obtain ⟨y23, q23, ho23⟩ := yes_bind hm
  refine wpD_mid (Y := Unit) (fun z23 => (⟨[(5, .v (.int .i64 y23))], [(o0, Blk.cells [.lst 1 (m0.gB.map byteD) c0_0, .v (.int .i64 m0.gAt), .lst 4 (m0.gL.map eTApiToken) c0_2] T0)], []⟩ : S)) ?_ ?_
  ·clear hm; have hm := yes_of q23
   refine wpD_block ?_
   obtain ⟨u24, hl24, hq24⟩ := yes_m hm
   refine loop_M (Y := Unit) hl24 (fun s24 z24 => (⟨[(0, .ptr o0 0), (1, .v (.bool a1)), (5, .v (.int .i64 s24))], [(o0, Blk.cells [.lst 1 (m0.gB.map byteD) c0_0, .v (.int .i64 m0.gAt), .lst 4 (m0.gL.map eTApiToken) c0_2] T0)], []⟩ : S)) ?_ ?_
   ·skip
    exact WkX.of () (WkS.perm (WkS.cons rfl (Wk.refl _) (WkS.cons rfl (Wk.refl _) (WkS.cons rfl (Wk.refl _) (WkS.nil)))) Pf Pf)
   ·intro G24 s24 z24 hm
    refine wpD_seq ?_
    refine wpD_seq ?_
    refine wpD_draws 11 [] [[],[0],[0,1],[0,1,2],[],[0,1,2],[],[6],[6,7],[6,7,8],[6,7,8,9]] [0,1,2,6,7,8,9] [[],[0],[0,1],[0,1,2],[],[0,1,2,3,4],[],[6],[6,7],[6,7,8],[6,7,8,9],[0,1,2,3,4,5,6,7,8,9,10]] (by kernel_rfl) (by kernel_rfl) (by kernel_rfl) (by rfl) (by rfl) (by kernel_rfl) ?_
    iterate 7 apply Exists.intro
    intro bs
    iterate 3 refine zep ?_
    refine z_qM rfl rfl (xm_load 0 htab rfl rfl rfl rfl rfl) rfl rfl rfl rfl rfl rfl ?_
    refine zqp ?_
    refine zqp ?_
    iterate 3 refine zep ?_
    refine z_eM rfl rfl (xm_load 0 htab rfl rfl rfl rfl rfl) rfl rfl rfl rfl rfl rfl ?_
    refine z_q rfl rfl (x_lenL htab rfl rfl rfl rfl (by first | exact map_len | rfl)) rfl rfl rfl rfl rfl rfl ?_
    refine z_nil rfl rfl (fun e he => by simp [isAl] at he) ?_
    refine pu ?_
    refine ops_nt ?_
    refine wpD_cond rfl (fun hc39 => ?_) (fun hc39 => ?_)
    ·replace hm := yes_t hc39 hm
     refine wpD_skip ?_
     refine then_normal ?_
     refine wpD_block ?_
     refine wpD_seq ?_
     refine wpD_draws 10 [] [[],[0],[0,1],[0,1,2],[],[4],[4,5],[4,5,6],[],[4,5,6]] [0,1,2,3,4,5,6] nlTo1_1 (by kernel_rfl) (by kernel_rfl) (by kernel_rfl) (by rfl) (by rfl) (by kernel_rfl) ?_
     iterate 7 apply Exists.intro
     intro bs
     iterate 3 refine zep ?_
     refine z_eM rfl rfl (xm_load 0 htab rfl rfl rfl rfl rfl) rfl rfl rfl rfl rfl rfl ?_
     iterate 3 refine zep ?_
     refine z_qM rfl rfl (xm_load 0 htab rfl rfl rfl rfl rfl) rfl rfl rfl rfl rfl rfl ?_
     refine zqp ?_
     refine zqp ?_
     refine z_nil rfl rfl (fun e he => by simp [isAl] at he) ?_
     obtain ⟨x40, q40, hm⟩ := yes_bind hm
     refine p_elem htab rfl rfl rfl rfl rfl rfl rfl rfl rfl rfl (idx_nonneg q40) (idx_map q40) ?_
     refine p_loadEl htab rfl rfl rfl rfl rfl rfl rfl rfl ?_
     refine pu ?_
     obtain ⟨x41, q41, hm⟩ := yes_bind hm
     refine p_call0 (token_kind_ok (IntKind.i32.wrap (x40.toNat : Int)) x41 q41) rfl rfl rfl rfl rfl Wl ?_
     rintro _ rfl
     refine pu ?_
     refine ops_nt ?_
     refine wpD_seq ?_
     refine wpD_sr ?_
     iterate 3 refine pu ?_
     refine p_split (i := 35) rfl (fun hg42 => ?_) (fun hg42 => ?_)
     ·replace hm := yes_t hg42 hm
      iterate 3 refine pu ?_
      refine p_split (i := 38) rfl (fun hg43 => ?_) (fun hg43 => ?_)
      ·replace hm := yes_t hg43 hm
       refine pK ?_
       refine pK ?_
       refine p_pickT rfl rfl rfl rfl rfl rfl ?_
       refine p_pickT rfl rfl rfl rfl rfl rfl ?_
       refine ops_nt ?_
       refine wpD_true rfl ?_
       refine wpD_exit ?_
       refine then_exit ?_
       refine block_miss rfl ?_
       have e24 := lp_done hm; subst e24; clear hm; have hm := hq24
       refine then_exit ?_
       refine block_hit ?_
       have e23 := yes_eq hm; subst e23
       refine ⟨rfl, ?_⟩
       exact WkX.of () (WkS.perm (WkS.cons rfl (Wk.refl _) (WkS.nil)) Pf Pf)
      ·replace hm := yes_f hg43 hm
       refine pu ?_
       refine pu ?_
       refine p_pickF rfl rfl rfl rfl rfl rfl ?_
       refine p_pickT rfl rfl rfl rfl rfl rfl ?_
       refine ops_nt ?_
       refine wpD_cond rfl (fun hc44 => ?_) (fun hc44 => ?_)
       ·replace hm := yes_t hc44 hm
        refine wpD_exit ?_
        refine then_exit ?_
        refine block_miss rfl ?_
        have e24 := lp_done hm; subst e24; clear hm; have hm := hq24
        refine then_exit ?_
        refine block_hit ?_
        have e23 := yes_eq hm; subst e23
        refine ⟨rfl, ?_⟩
        exact WkX.of () (WkS.perm (WkS.cons rfl (Wk.refl _) (WkS.nil)) Pf Pf)
       ·replace hm := yes_f hc44 hm
        refine wpD_skip ?_
        refine then_normal ?_
        refine wpD_region ?_
        iterate 3 refine pu ?_
        refine ops_nil ?_
        refine block_normal ?_
        refine then_normal ⟨_, lp_next hm, ?_⟩
        exact WkX.of () (WkS.perm (WkS.cons rfl (Wk.refl _) (WkS.cons rfl (Wk.refl _) (WkS.cons rfl (Wk.refl _) (WkS.nil)))) Pf Pf)
     ·replace hm := yes_f hg42 hm
      iterate 6 refine pK ?_
      refine p_pickF rfl rfl rfl rfl rfl rfl ?_
      refine ops_nt ?_
      refine wpD_false rfl ?_
      refine wpD_skip ?_
      refine then_normal ?_
      refine wpD_region ?_
      iterate 3 refine pu ?_
      refine ops_nil ?_
      refine block_normal ?_
      refine then_normal ⟨_, lp_next hm, ?_⟩
      exact WkX.of () (WkS.perm (WkS.cons rfl (Wk.refl _) (WkS.cons rfl (Wk.refl _) (WkS.cons rfl (Wk.refl _) (WkS.nil)))) Pf Pf)
    ·replace hm := yes_f hc39 hm
     refine wpD_exit ?_
     refine then_exit ?_
     have e24 := lp_done hm; subst e24; clear hm; have hm := hq24
     refine then_exit ?_
     refine block_hit ?_
     have e23 := yes_eq hm; subst e23
     refine ⟨rfl, ?_⟩
     exact WkX.of () (WkS.perm (WkS.cons rfl (Wk.refl _) (WkS.nil)) Pf Pf)
  ·intro s23 hw23; clear hm; have hm := ho23; clear q23 ho23
   refine then_normal ?_
   refine wpD_wkX hw23 (fun z23 => ?_)
   refine wpD_sr ?_
   refine pu ?_
   refine pu ?_
   refine ops_nt ?_
   refine wpD_ret ?_
   have er45 := yes_eq hm; subst er45
   refine rP (t' := [(4, .v (.int .i64 y23))]) [0] [] 1 (wC wN) (lT lN) ?_
   exact ⟨rfl, rfl, rfl⟩
noncomputable def slices_Index_string_string (a0 : List ByteArray) (a1 : ByteArray) : Option (Int) :=
  (Option.bind (α := (Unit) ⊕ (Int)) (loopM (fun (s15 : Int) => (bif (decide (s15 < (a0.length : Int))) then ((idx a0 s15).bind fun x25 => (bif (decide (a1 = x25)) then some (.done (.inr s15)) else some (.next (IntKind.i64.wrap (s15 + (1 : Int)))))) else some (.done (.inl ())))) (0 : Int)) (Sum.elim (fun y14 => some (-1 : Int)) (fun r => some r)))
set_option maxRecDepth 100000 in
set_option maxHeartbeats 2000000 in
theorem slices_Index_string_string_ok (a0 : List ByteArray) (a1 : ByteArray) (r : Int) (h0 : slices_Index_string_string a0 a1 = some r) : CallsD Try.prog 33 [.lst 1 (a0.map eStr) .no, .v (.string a1)] [] [] (fun d h k => d = .v (.int .i64 r) ∧ h = [] ∧ k = []) := by
  have hm := yes_of h0
  unfold slices_Index_string_string at hm
  clear h0
  refine enterX htab Try.func33 rfl rfl rfl rfl rfl (fun C => ?_)
  refine wpD_sr ?_
  refine pu ?_
  refine ops_nt ?_
  refine wpD_seq ?_
  refine wpD_sr ?_
  refine pu ?_
  refine p_lenL htab rfl rfl rfl rfl rfl rfl rfl (by first | exact map_len | rfl) ?_
  refine pu ?_
  refine ops_nt ?_
  obtain ⟨x14, q14, ho14⟩ := yes_bind hm
  refine wpD_midX (τ := Unit) (Y := Unit) (fun y14 z14 => (⟨[], [], []⟩ : S)) x14 ?_ ?_
  ·clear hm; have hm := yes_of q14
   refine wpD_block ?_
   obtain ⟨u15, hl15, hq15⟩ := yes_m hm
   refine loop_M (Y := Unit) hl15 (fun s15 z15 => (⟨[(0, .lst 1 (a0.map eStr) .no), (1, .v (.string a1)), (7, .v (.int .i64 (a0.length : Int))), (8, .v (.int .i64 s15))], [], []⟩ : S)) ?_ ?_
   ·skip
    exact WkX.of () (WkS.perm (WkS.cons rfl (Wk.refl _) (WkS.cons rfl (Wk.refl _) (WkS.cons rfl (Wk.refl _) (WkS.cons rfl (Wk.refl _) (WkS.nil))))) Pf Pf)
   ·intro G15 s15 z15 hm
    refine wpD_sr ?_
    refine pu ?_
    refine ops_nt ?_
    refine wpD_seq ?_
    refine wpD_cond rfl (fun hc24 => ?_) (fun hc24 => ?_)
    ·replace hm := yes_t hc24 hm
     refine wpD_skip ?_
     refine then_normal ?_
     refine wpD_seq ?_
     refine wpD_block ?_
     refine wpD_sr ?_
     refine pu ?_
     refine pu ?_
     refine ops_n2 ?_
     iterate 3 refine pu ?_
     obtain ⟨x25, q25, hm⟩ := yes_bind hm
     refine p_elem htab rfl rfl rfl rfl rfl rfl rfl rfl rfl rfl (idx_nonneg q25) (idx_map q25) ?_
     refine p_loadEl htab rfl rfl rfl rfl rfl rfl rfl rfl ?_
     refine pu ?_
     refine ops_nt ?_
     refine wpD_cond rfl (fun hc26 => ?_) (fun hc26 => ?_)
     ·replace hm := yes_t hc26 hm
      refine wpD_sr ?_
      refine pu ?_
      refine pu ?_
      refine ops_nt ?_
      refine wpD_ret ?_
      refine block_ret ?_
      refine then_ret ?_
      have e15 := lp_done hm; subst e15; clear hm; have hm := hq15
      refine then_ret ?_
      refine block_ret ?_
      have e14 := yes_eq hm; subst e14; refine midX_inr ?_; clear hm; have hm := ho14; simp only [Sum.elim_inr] at hm
      refine then_ret ?_
      have er27 := yes_eq hm; subst er27
      refine rP (t' := [(4, .v (.int .i64 s15))]) [] [] 0 (wC wN) (lT lN) ?_
      exact ⟨rfl, rfl, rfl⟩
     ·replace hm := yes_f hc26 hm
      refine wpD_skip ?_
      refine block_normal ?_
      refine then_normal ?_
      refine wpD_region ?_
      refine pu ?_
      refine pu ?_
      refine ops_nil ?_
      refine then_normal ⟨_, lp_next hm, ?_⟩
      exact WkX.of () (WkS.perm (WkS.cons rfl (Wk.refl _) (WkS.cons rfl (Wk.refl _) (WkS.cons rfl (Wk.refl _) (WkS.cons rfl (Wk.refl _) (WkS.nil))))) Pf Pf)
    ·replace hm := yes_f hc24 hm
     refine wpD_exit ?_
     refine then_exit ?_
     have e15 := lp_done hm; subst e15; clear hm; have hm := hq15
     refine then_exit ?_
     refine block_hit ?_
     have e14 := yes_eq hm; subst e14
     refine midX_inl ?_
     exact WkX.of () (WkS.perm (WkS.nil) Pf Pf)
  ·intro y14 s14 hx14 hw14; subst hx14; clear hm; have hm := ho14; simp only [Sum.elim_inl] at hm; clear q14 ho14
   refine then_normal ?_
   refine wpD_wkX hw14 (fun z14 => ?_)
   refine wpD_sr ?_
   refine pu ?_
   refine ops_nt ?_
   refine wpD_ret ?_
   have er28 := yes_eq hm; subst er28
   refine rP (t' := [(4, .v (.int .i64 (-1 : Int)))]) [] [] 0 (wC wN) (lT lN) ?_
   exact ⟨rfl, rfl, rfl⟩
noncomputable def slices_Contains_string_string (a0 : List ByteArray) (a1 : ByteArray) : Option (Bool) :=
  ((slices_Index_string_string a0 a1).bind fun x1 => some (decide ((0 : Int) ≤ x1)))
set_option maxRecDepth 100000 in
set_option maxHeartbeats 2000000 in
theorem slices_Contains_string_string_ok (a0 : List ByteArray) (a1 : ByteArray) (r : Bool) (h0 : slices_Contains_string_string a0 a1 = some r) : CallsD Try.prog 22 [.lst 1 (a0.map eStr) .no, .v (.string a1)] [] [] (fun d h k => d = .v (.bool r) ∧ h = [] ∧ k = []) := by
  have hm := yes_of h0
  unfold slices_Contains_string_string at hm
  clear h0
  refine enterX htab Try.func22 rfl rfl rfl rfl rfl (fun C => ?_)
  refine wpD_sr ?_
  refine pu ?_
  refine ops_n2 ?_
  refine pu ?_
  refine pu ?_
  obtain ⟨x1, q1, hm⟩ := yes_bind hm
  refine p_call0 (slices_Index_string_string_ok a0 a1 x1 q1) rfl rfl rfl rfl rfl Wl ?_
  rintro _ rfl
  refine pu ?_
  refine pu ?_
  refine ops_nt ?_
  refine wpD_ret ?_
  have er2 := yes_eq hm; subst er2
  refine rP (t' := [(4, .v (.bool (decide ((0 : Int) ≤ x1))))]) [] [] 0 (wC wN) (lT lN) ?_
  exact ⟨rfl, rfl, rfl⟩
noncomputable def token_Word (a0 : ByteArray) : Option (Bool) :=
  ((slices_Contains_string_string ([(ByteArray.mk #[105, 110, 116]), (ByteArray.mk #[105, 102]), (ByteArray.mk #[101, 108, 115, 101]), (ByteArray.mk #[119, 104, 105, 108, 101]), (ByteArray.mk #[114, 101, 116, 117, 114, 110]), (ByteArray.mk #[97, 115, 115, 101, 114, 116]), (ByteArray.mk #[105, 110, 112, 117, 116]), (ByteArray.mk #[110, 117, 108, 108])] : List ByteArray) a0).bind fun x1 => some x1)
set_option maxRecDepth 100000 in
set_option maxHeartbeats 2000000 in
theorem token_Word_ok (a0 : ByteArray) (r : Bool) (h0 : token_Word a0 = some r) : CallsD Try.prog 13 [.v (.string a0)] [] [] (fun d h k => d = .v (.bool r) ∧ h = [] ∧ k = []) := by
  have hm := yes_of h0
  unfold token_Word at hm
  clear h0
  refine enterX htab Try.func13 rfl rfl rfl rfl rfl (fun C => ?_)
  refine wpD_sr ?_
  refine pu ?_
  refine ops_n2 ?_
  refine p_lit htab rfl rfl rfl rfl rfl rfl rfl rfl rfl rfl rfl rfl rfl rfl ?_
  refine p_eq (i := 3) (d' := .lst 1 (([(ByteArray.mk #[105, 110, 116]), (ByteArray.mk #[105, 102]), (ByteArray.mk #[101, 108, 115, 101]), (ByteArray.mk #[119, 104, 105, 108, 101]), (ByteArray.mk #[114, 101, 116, 117, 114, 110]), (ByteArray.mk #[97, 115, 115, 101, 114, 116]), (ByteArray.mk #[105, 110, 112, 117, 116]), (ByteArray.mk #[110, 117, 108, 108])] : List ByteArray).map eStr) .full) rfl (Wk.lst0 (.cons (WkC.refl _) (.cons (WkC.refl _) (.cons (WkC.refl _) (.cons (WkC.refl _) (.cons (WkC.refl _) (.cons (WkC.refl _) (.cons (WkC.refl _) (.cons (WkC.refl _) (.nil)))))))))) ?_
  refine pu ?_
  obtain ⟨x1, q1, hm⟩ := yes_bind hm
  refine p_call0 (slices_Contains_string_string_ok ([(ByteArray.mk #[105, 110, 116]), (ByteArray.mk #[105, 102]), (ByteArray.mk #[101, 108, 115, 101]), (ByteArray.mk #[119, 104, 105, 108, 101]), (ByteArray.mk #[114, 101, 116, 117, 114, 110]), (ByteArray.mk #[97, 115, 115, 101, 114, 116]), (ByteArray.mk #[105, 110, 112, 117, 116]), (ByteArray.mk #[110, 117, 108, 108])] : List ByteArray) a0 x1 q1) rfl rfl rfl rfl rfl (WkL.cons (Wk.no) (WkL.cons (Wk.refl _) Wl)) ?_
  rintro _ rfl
  refine pu ?_
  refine ops_nt ?_
  refine wpD_ret ?_
  have er2 := yes_eq hm; subst er2
  refine rP (t' := [(2, .v (.bool x1))]) [] [] 0 (wC wN) (lT lN) ?_
  exact ⟨rfl, rfl, rfl⟩
abbrev nlTo1_2 : List (List Nat) := [[],[],[1],[1,2],[1,2,3],[],[],[6],[6,7],[6,7,8],[],[10],[10,11],[10,11,12],[],[14],[14,15],[14,15,16],[],[14,15,16,17],[6,7,8,9,10,11,12,13,14,15,16,17],[6,7,8,9,10,11,12,13,14,15,16,17,20],[],[],[23],[23,24],[23,24,25],[6,7,8,9,10,11,12,13,14,15,16,17,20,21,23,24,25,26],[6,7,8,9,10,11,12,13,14,15,16,17,20,21,23,24,25,26,27],[1,2,3,4,6,7,8,9,10,11,12,13,14,15,16,17,20,21,23,24,25,26,27,28]]
abbrev nlTo1_3 : List (List Nat) := [[],[],[1],[1,2],[1,2,3],[],[],[6],[6,7],[6,7,8],[],[10],[10,11],[10,11,12],[],[14],[14,15],[14,15,16],[],[14,15,16,17,18],[6,7,8,9,10,11,12,13,14,15,16,17,18,19],[6,7,8,9,10,11,12,13,14,15,16,17,18,19,20],[],[],[23],[23,24],[23,24,25],[5,6,7,8,9,10,11,12,13,14,15,16,17,18,19,20,21,22,23,24,25,26],[5,6,7,8,9,10,11,12,13,14,15,16,17,18,19,20,21,22,23,24,25,26,27],[1,2,3,4,5,6,7,8,9,10,11,12,13,14,15,16,17,18,19,20,21,22,23,24,25,26,27,28],[0,1,2,3,4,5,6,7,8,9,10,11,12,13,14,15,16,17,18,19,20,21,22,23,24,25,26,27,28,29],[0,1,2,3,4,5,6,7,8,9,10,11,12,13,14,15,16,17,18,19,20,21,22,23,24,25,26,27,28,29,30],[0,1,2,3,4,5,6,7,8,9,10,11,12,13,14,15,16,17,18,19,20,21,22,23,24,25,26,27,28,29,30,31]]
noncomputable def token_reader_add (m0 : TTokenReader) (a1 : Int) (a2 : Int) (a3 : Int) : Option (Int × TTokenReader) :=
  (bif (decide ((4000 : Int) ≤ (m0.gL.length : Int))) then some ((6 : Int), m0) else ((cutL m0.gB m0.gAt (IntKind.i64.wrap (m0.gAt + a2))).bind fun x4 => ((app 40 m0.gL ([(⟨a1, (ByteArray.mk x4.toArray), a3, m0.gAt⟩ : TApiToken)] : List TApiToken)).bind fun x5 => some ((0 : Int), (⟨m0.gB, (IntKind.i64.wrap (m0.gAt + a2)), x5⟩ : TTokenReader)))))
set_option maxRecDepth 100000 in
set_option maxHeartbeats 2000000 in
theorem token_reader_add_ok (m0 : TTokenReader) (a1 : Int) (a2 : Int) (a3 : Int) (o0 : Nat) (T0 : TypeId) (c0_0 : Cap) (k0_2 : Value) (r : Int × TTokenReader) (h0 : token_reader_add m0 a1 a2 a3 = some r) : CallsD Try.prog 28 [.ptr o0 0, .v (.int .i64 a1), .v (.int .i64 a2), .v (.int .i64 a3)] [(o0, Blk.cells [.lst 1 (m0.gB.map byteD) c0_0, .v (.int .i64 m0.gAt), .lst 4 (m0.gL.map eTApiToken) (.cur k0_2)] T0)] [(4, k0_2)] (fun d h k => ∃ y0, d = .v (.int .i64 r.1) ∧ h = [(o0, Blk.cells [.lst 1 (r.2.gB.map byteD) c0_0, .v (.int .i64 r.2.gAt), .lst 4 (r.2.gL.map eTApiToken) (.cur y0)] T0)] ∧ k = [(4, y0)]) := by
  have hm := yes_of h0
  unfold token_reader_add at hm
  clear h0
  refine enterX htab Try.func28 rfl rfl rfl rfl rfl (fun C => ?_)
  refine wpD_sr ?_
  refine pu ?_
  refine ops_nt ?_
  refine wpD_seq ?_
  refine wpD_sr ?_
  iterate 3 refine pu ?_
  refine pL 0 ?_
  refine p_lenL htab rfl rfl rfl rfl rfl rfl rfl (by first | exact map_len | rfl) ?_
  refine pu ?_
  refine ops_nt ?_
  refine wpD_cond rfl (fun hc2 => ?_) (fun hc2 => ?_)
  ·replace hm := yes_t hc2 hm
   refine wpD_sr ?_
   refine pu ?_
   refine ops_nt ?_
   refine wpD_ret ?_
   refine then_ret ?_
   have er3 := yes_eq hm; subst er3
   refine rP (t' := [(8, .v (.int .i64 (6 : Int)))]) [0] [0] 1 (wC wN) (lT lN) ?_
   exact ⟨k0_2, rfl, rfl, rfl⟩
  ·replace hm := yes_f hc2 hm
   refine wpD_skip ?_
   refine then_normal ?_
   refine wpD_seq ?_
   obtain ⟨x4, q4, hm⟩ := yes_bind hm
   obtain ⟨x5, q5, hm⟩ := yes_bind hm
   refine wpD_app 30 [] nlTo1_2 [0,1,2,3,4,6,7,8,9,10,11,12,13,14,15,16,17,20,21,23,24,25,26,27,28,29] nlTo1_3 29 4 0 (by kernel_rfl) (by kernel_rfl) (by kernel_rfl) (by rfl) (by rfl) (by kernel_rfl) rfl ?_
   iterate 26 apply Exists.intro
   refine ⟨.any, ?_⟩
   intro bs v5
   iterate 4 refine zh_e rfl rfl (ex_pure htab rfl) rfl rfl rfl rfl rfl rfl rfl rfl ?_
   refine zh_M rfl rfl (fun _ => xm_load 0 htab rfl rfl rfl rfl rfl) (offB rfl) rfl rfl rfl rfl rfl rfl rfl rfl ?_
   refine zh_q rfl rfl (ex_pure htab rfl) rfl rfl rfl rfl rfl rfl ?_
   iterate 3 refine zh_e rfl rfl (ex_pure htab rfl) rfl rfl rfl rfl rfl rfl rfl rfl ?_
   refine zh_M rfl rfl (fun _ => xm_load 0 htab rfl rfl rfl rfl rfl) (offB rfl) rfl rfl rfl rfl rfl rfl rfl rfl ?_
   iterate 3 refine zh_e rfl rfl (ex_pure htab rfl) rfl rfl rfl rfl rfl rfl rfl rfl ?_
   refine zh_M rfl rfl (fun _ => xm_load 0 htab rfl rfl rfl rfl rfl) (offB rfl) rfl rfl rfl rfl rfl rfl rfl rfl ?_
   iterate 3 refine zh_e rfl rfl (ex_pure htab rfl) rfl rfl rfl rfl rfl rfl rfl rfl ?_
   refine zh_M rfl rfl (fun _ => xm_load 0 htab rfl rfl rfl rfl rfl) (offB rfl) rfl rfl rfl rfl rfl rfl rfl rfl ?_
   refine zh_q rfl rfl (ex_pure htab rfl) rfl rfl rfl rfl rfl rfl ?_
   refine zh_q rfl rfl (ex_pure htab rfl) rfl rfl rfl rfl rfl rfl ?_
   refine zh_e rfl rfl (x_cut q4 htab rfl rfl rfl rfl rfl rfl rfl rfl rfl rfl) rfl rfl rfl rfl rfl rfl rfl rfl ?_
   refine zh_E rfl rfl (x_toStr htab rfl rfl rfl rfl rfl rfl rfl rfl) rfl rfl rfl rfl rfl rfl rfl rfl ?_
   refine zh_q rfl rfl (ex_pure htab rfl) rfl rfl rfl rfl rfl rfl ?_
   iterate 3 refine zh_e rfl rfl (ex_pure htab rfl) rfl rfl rfl rfl rfl rfl rfl rfl ?_
   refine zh_M rfl rfl (fun _ => xm_load 0 htab rfl rfl rfl rfl rfl) (offB rfl) rfl rfl rfl rfl rfl rfl rfl rfl ?_
   refine zh_e rfl rfl (x_build (r := [.v (.int .i64 a1), .v (.string (ByteArray.mk x4.toArray)), .v (.int .i64 a3), .v (.int .i64 m0.gAt)]) htab rfl rfl rfl rfl rfl rfl) rfl rfl rfl rfl rfl rfl rfl rfl ?_
   refine zh_E rfl rfl (ExE.wk (x_lit htab rfl rfl rfl rfl rfl rfl rfl rfl rfl rfl rfl) (show Wk _ (.lst 4 (([(⟨a1, (ByteArray.mk x4.toArray), a3, m0.gAt⟩ : TApiToken)] : List TApiToken).map eTApiToken) .full) from Wk.lst0 (.cons (WkC.refl _) (.nil)))) rfl rfl rfl rfl rfl rfl rfl rfl ?_
   refine zh_app htab rfl rfl rfl rfl rfl rfl rfl rfl (rep_of rfl) rfl (app_kC rfl) (perm_at (j := 0) rfl) rfl rfl rfl rfl rfl rfl rfl rfl rfl (app_bound q5) (app_map q5) ?_
   refine zh_nil rfl rfl rfl rfl (fun e he => by simp [isAl] at he) ?_
   refine pu ?_
   refine pu ?_
   refine pS0 (ds' := [.lst 1 (m0.gB.map byteD) c0_0, .v (.int .i64 m0.gAt), .lst 4 (x5.map eTApiToken) (.cur v5)]) ?_
   refine ops_n2 ?_
   iterate 3 refine pu ?_
   refine pL 0 ?_
   iterate 4 refine pu ?_
   refine pS0 (ds' := [.lst 1 (m0.gB.map byteD) c0_0, .v (.int .i64 (IntKind.i64.wrap (m0.gAt + a2))), .lst 4 (x5.map eTApiToken) (.cur v5)]) ?_
   refine ops_n2 ?_
   refine pu ?_
   refine ops_nt ?_
   refine wpD_ret ?_
   have er6 := yes_eq hm; subst er6
   refine rP (t' := [(8, .v (.int .i64 (0 : Int)))]) [0] [0] 1 (wC wN) (lT lN) ?_
   exact ⟨v5, rfl, rfl, rfl⟩
abbrev nlTo1_4 : List (List Nat) := [[],[0],[0,1],[0,1,2],[],[4],[4,5],[4,5,6],[],[8],[8,9],[8,9,10],[],[8,9,10,11,12],[0,1,2,3,4,5,6,7,8,9,10,11,12,13],[0,1,2,3,4,5,6,7,8,9,10,11,12,13,14],[0,1,2,3,4,5,6,7,8,9,10,11,12,13,14,15]]
noncomputable def token_reader_name (m0 : TTokenReader) : Option (Int × TTokenReader) :=
  ((token_reader_span m0 true).bind fun x1 => ((cutL m0.gB m0.gAt (IntKind.i64.wrap (m0.gAt + x1))).bind fun x2 => (bif (decide ((20 : Int) < x1)) then some ((6 : Int), m0) else ((token_Word (ByteArray.mk x2.toArray)).bind fun x15 => (bif x15 then ((token_reader_add m0 (3 : Int) x1 (0 : Int)).bind fun x21 => some (x21.1, x21.2)) else ((token_reader_add m0 (1 : Int) x1 (0 : Int)).bind fun x24 => some (x24.1, x24.2)))))))
set_option maxRecDepth 100000 in
set_option maxHeartbeats 2000000 in
theorem token_reader_name_ok (m0 : TTokenReader) (o0 : Nat) (T0 : TypeId) (c0_0 : Cap) (k0_2 : Value) (r : Int × TTokenReader) (h0 : token_reader_name m0 = some r) : CallsD Try.prog 25 [.ptr o0 0] [(o0, Blk.cells [.lst 1 (m0.gB.map byteD) c0_0, .v (.int .i64 m0.gAt), .lst 4 (m0.gL.map eTApiToken) (.cur k0_2)] T0)] [(4, k0_2)] (fun d h k => ∃ y0, d = .v (.int .i64 r.1) ∧ h = [(o0, Blk.cells [.lst 1 (r.2.gB.map byteD) c0_0, .v (.int .i64 r.2.gAt), .lst 4 (r.2.gL.map eTApiToken) (.cur y0)] T0)] ∧ k = [(4, y0)]) := by
  have hm := yes_of h0
  unfold token_reader_name at hm
  clear h0
  refine enterX htab Try.func25 rfl rfl rfl rfl rfl (fun C => ?_)
  refine wpD_sr ?_
  refine pu ?_
  refine ops_n2 ?_
  refine pu ?_
  obtain ⟨x1, q1, hm⟩ := yes_bind hm
  refine pG (token_reader_span_ok m0 true o0 T0 c0_0 (.cur k0_2) x1 q1) Wl Pf Pf ?_
  rintro _ _ _ ⟨rfl, rfl, rfl⟩
  refine pu ?_
  refine ops_nt ?_
  refine wpD_seq ?_
  refine wpD_draws 14 [] [[],[0],[0,1],[0,1,2],[],[4],[4,5],[4,5,6],[],[8],[8,9],[8,9,10],[],[8,9,10]] [0,1,2,3,4,5,6,8,9,10] nlTo1_4 (by kernel_rfl) (by kernel_rfl) (by kernel_rfl) (by rfl) (by rfl) (by kernel_rfl) ?_
  iterate 10 apply Exists.intro
  intro bs
  iterate 3 refine zep ?_
  refine z_eM rfl rfl (xm_load 0 htab rfl rfl rfl rfl rfl) rfl rfl rfl rfl rfl rfl ?_
  iterate 3 refine zep ?_
  refine z_qM rfl rfl (xm_load 0 htab rfl rfl rfl rfl rfl) rfl rfl rfl rfl rfl rfl ?_
  iterate 3 refine zep ?_
  refine z_qM rfl rfl (xm_load 0 htab rfl rfl rfl rfl rfl) rfl rfl rfl rfl rfl rfl ?_
  refine zqp ?_
  refine zqp ?_
  refine z_nil rfl rfl (fun e he => by simp [isAl] at he) ?_
  obtain ⟨x2, q2, hm⟩ := yes_bind hm
  refine p_cut q2 htab rfl rfl rfl rfl rfl rfl rfl rfl rfl rfl rfl rfl rfl ?_
  refine p_toStr htab rfl rfl rfl rfl rfl rfl rfl rfl rfl rfl rfl ?_
  refine pu ?_
  refine ops_nt ?_
  refine wpD_seq ?_
  refine wpD_block ?_
  refine wpD_sr ?_
  iterate 3 refine pu ?_
  refine ops_nt ?_
  refine wpD_cond rfl (fun hc13 => ?_) (fun hc13 => ?_)
  ·replace hm := yes_t hc13 hm
   refine wpD_sr ?_
   refine pu ?_
   refine ops_nt ?_
   refine wpD_ret ?_
   refine block_ret ?_
   refine then_ret ?_
   have er14 := yes_eq hm; subst er14
   refine rP (t' := [(2, .v (.int .i64 (6 : Int)))]) [0] [0] 1 (wC wN) (lT lN) ?_
   exact ⟨k0_2, rfl, rfl, rfl⟩
  ·replace hm := yes_f hc13 hm
   refine wpD_sr ?_
   refine pu ?_
   obtain ⟨x15, q15, hm⟩ := yes_bind hm
   refine p_call0 (token_Word_ok (ByteArray.mk x2.toArray) x15 q15) rfl rfl rfl rfl rfl Wl ?_
   rintro _ rfl
   refine pu ?_
   refine ops_nt ?_
   refine wpD_cond rfl (fun hc19 => ?_) (fun hc19 => ?_)
   ·replace hm := yes_t hc19 hm
    refine wpD_sr ?_
    refine pu ?_
    refine pu ?_
    obtain ⟨x21, q21, hm⟩ := yes_bind hm
    refine pG (token_reader_add_ok m0 (3 : Int) x1 (0 : Int) o0 T0 c0_0 k0_2 x21 q21) Wl Pf Pf ?_
    rintro _ _ _ ⟨w20, rfl, rfl, rfl⟩
    refine pu ?_
    refine ops_nt ?_
    refine wpD_ret ?_
    refine block_ret ?_
    refine then_ret ?_
    have er22 := yes_eq hm; subst er22
    refine rP (t' := [(2, .v (.int .i64 x21.1))]) [0] [0] 1 (wC wN) (lT lN) ?_
    exact ⟨w20, rfl, rfl, rfl⟩
   ·replace hm := yes_f hc19 hm
    refine wpD_skip ?_
    refine block_normal ?_
    refine then_normal ?_
    refine wpD_sr ?_
    refine pu ?_
    refine pu ?_
    obtain ⟨x24, q24, hm⟩ := yes_bind hm
    refine pG (token_reader_add_ok m0 (1 : Int) x1 (0 : Int) o0 T0 c0_0 k0_2 x24 q24) Wl Pf Pf ?_
    rintro _ _ _ ⟨w23, rfl, rfl, rfl⟩
    refine pu ?_
    refine ops_nt ?_
    refine wpD_ret ?_
    have er25 := yes_eq hm; subst er25
    refine rP (t' := [(2, .v (.int .i64 x24.1))]) [0] [0] 1 (wC wN) (lT lN) ?_
    exact ⟨w23, rfl, rfl, rfl⟩
abbrev nlTo1_5 : List (List Nat) := [[],[0],[],[0,1,2],[0,1,2,3],[0,1,2,3,4],[0,1,2,3,4,5],[0,1,2,3,4,5,6],[0,1,2,3,4,5,6,7],[0,1,2,3,4],[0,1,2,3,4,9],[0,1,2,3,4,9,10],[0,1,2,3,4,9,10,11],[0,1,2,3,4,5,6,7,8,9,10,11,12],[0,1,2,3,4,5,6,7,8,9,10,11,12,13],[0,1,2,3,4,5,6,7,8,9,10,11,12,13,14],[0,1,2,3,4,5,6,7,8,9,10,11,12,13,14,15],[0,1,2,3,4,5,6,7,8,9,10,11,12,13,14,15,16],[0,1,2,3,4,5,6,7,8,9,10,11,12,13,14,15,16,17],[0,1,2,3,4,5,6,7,8,9,10,11,12,13,14,15,16,17,18],[0,1,2,3,4,5,6,7,8,9,10,11,12,13,14,15,16,17,18,19]]
noncomputable def token_reader_number (m0 : TTokenReader) : Option (Int × TTokenReader) :=
  (bif (decide ((4000 : Int) ≤ (m0.gL.length : Int))) then some ((6 : Int), m0) else ((token_reader_span m0 false).bind fun x4 => (Option.bind (α := Bool) ((token_reader_span m0 true).bind fun x10 => (bif (decide (x4 < x10)) then some true else ((idx m0.gB m0.gAt).bind fun x12 => (bif ((x12.toNat : Int) == (48 : Int)) then some (decide ((1 : Int) < x4)) else some false)))) fun y9 => (bif y9 then some ((3 : Int), m0) else ((cutL m0.gB m0.gAt (IntKind.i64.wrap (m0.gAt + x4))).bind fun x17 => (Option.bind (α := (Int) ⊕ (Int × TTokenReader)) (loopM (fun (s33 : Int × Int) => (bif (decide (s33.2 < (x17.length : Int))) then ((idx x17 s33.2).bind fun x43 => (bif (decide ((IntKind.u64.wrap ((IntKind.u64.wrap ((9223372036854775807 : Int) - (IntKind.u64.wrap (IntKind.u8.wrap ((x43.toNat : Int) - (48 : Int)))))).tdiv (10 : Int))) < s33.1)) then some (.done (.inr ((4 : Int), m0))) else some (.next ((IntKind.u64.wrap ((IntKind.u64.wrap ((10 : Int) * s33.1)) + (IntKind.u64.wrap (IntKind.u8.wrap ((x43.toNat : Int) - (48 : Int)))))), (IntKind.i64.wrap (s33.2 + (1 : Int))))))) else some (.done (.inl s33.1)))) ((0 : Int), (0 : Int))) (Sum.elim (fun y32 => ((token_reader_add m0 (2 : Int) x4 (IntKind.i64.wrap y32)).bind fun x47 => some (x47.1, x47.2))) (fun r => some r))))))))
set_option maxRecDepth 100000 in
set_option maxHeartbeats 2000000 in
theorem token_reader_number_ok (m0 : TTokenReader) (o0 : Nat) (T0 : TypeId) (c0_0 : Cap) (k0_2 : Value) (r : Int × TTokenReader) (h0 : token_reader_number m0 = some r) : CallsD Try.prog 26 [.ptr o0 0] [(o0, Blk.cells [.lst 1 (m0.gB.map byteD) c0_0, .v (.int .i64 m0.gAt), .lst 4 (m0.gL.map eTApiToken) (.cur k0_2)] T0)] [(4, k0_2)] (fun d h k => ∃ y0, d = .v (.int .i64 r.1) ∧ h = [(o0, Blk.cells [.lst 1 (r.2.gB.map byteD) c0_0, .v (.int .i64 r.2.gAt), .lst 4 (r.2.gL.map eTApiToken) (.cur y0)] T0)] ∧ k = [(4, y0)]) := by
  have hm := yes_of h0
  unfold token_reader_number at hm
  clear h0
  refine enterX htab Try.func26 rfl rfl rfl rfl rfl (fun C => ?_)
  refine wpD_sr ?_
  refine pu ?_
  refine ops_nt ?_
  refine wpD_seq ?_
  refine wpD_sr ?_
  iterate 3 refine pu ?_
  refine pL 0 ?_
  refine p_lenL htab rfl rfl rfl rfl rfl rfl rfl (by first | exact map_len | rfl) ?_
  refine pu ?_
  refine ops_nt ?_
  refine wpD_cond rfl (fun hc2 => ?_) (fun hc2 => ?_)
  ·replace hm := yes_t hc2 hm
   refine wpD_sr ?_
   refine pu ?_
   refine ops_nt ?_
   refine wpD_ret ?_
   refine then_ret ?_
   have er3 := yes_eq hm; subst er3
   refine rP (t' := [(2, .v (.int .i64 (6 : Int)))]) [0] [0] 1 (wC wN) (lT lN) ?_
   exact ⟨k0_2, rfl, rfl, rfl⟩
  ·replace hm := yes_f hc2 hm
   refine wpD_skip ?_
   refine then_normal ?_
   refine wpD_sr ?_
   refine pu ?_
   obtain ⟨x4, q4, hm⟩ := yes_bind hm
   refine pG (token_reader_span_ok m0 false o0 T0 c0_0 (.cur k0_2) x4 q4) Wl Pf Pf ?_
   rintro _ _ _ ⟨rfl, rfl, rfl⟩
   refine pu ?_
   refine ops_nt ?_
   refine wpD_seq ?_
   refine wpD_seq ?_
   obtain ⟨y9, q9, ho9⟩ := yes_bind hm
   refine wpD_mid (Y := Unit) (fun z9 => (⟨[(0, .ptr o0 0), (3, .v (.int .i64 x4)), (36, .v (.bool y9))], [(o0, Blk.cells [.lst 1 (m0.gB.map byteD) c0_0, .v (.int .i64 m0.gAt), .lst 4 (m0.gL.map eTApiToken) (.cur k0_2)] T0)], [(4, k0_2)]⟩ : S)) ?_ ?_
   ·clear hm; have hm := yes_of q9
    obtain ⟨x10, q10, hm⟩ := yes_bind hm
    refine bycB (decide (x4 < x10)) (fun hs11 => ?_) (fun hs11 => ?_)
    ·replace hm := yes_t hs11 hm
     refine wpD_draws 13 [] [[],[0],[],[0,1],[0,1],[0,1],[0,1],[0,1],[0,1],[0,1],[0,1],[0,1],[0,1]] [0,1] nlTo1_5 (by kernel_rfl) (by kernel_rfl) (by kernel_rfl) (by rfl) (by rfl) (by kernel_rfl) ?_
     apply Exists.intro
     apply Exists.intro
     intro bs
     refine zep ?_
     refine z_callB 0 rfl rfl (token_reader_span_ok m0 true o0 T0 c0_0 (.cur k0_2) x10 q10) rfl rfl Wl rfl rfl rfl rfl rfl rfl rfl ?_
     iterate 3 refine zqp ?_
     refine z_known (j := 20) (b' := true) rfl hs11 ?_
     iterate 8 refine zK ?_
     refine z_nil rfl rfl (fun e he => by simp [isAl] at he) ?_
     iterate 7 refine pK ?_
     refine p_pickT rfl rfl rfl rfl rfl rfl ?_
     refine ops_nil ?_
     have e9 := yes_eq hm; subst e9
     refine ⟨rfl, ?_⟩
     exact WkX.of () (WkS.perm (WkS.cons rfl (Wk.refl _) (WkS.cons rfl (Wk.refl _) (WkS.cons rfl (Wk.refl _) (WkS.nil)))) Pf Pf)
    ·replace hm := yes_f hs11 hm
     refine wpD_draws 13 [] [[],[0],[],[0,1],[0,1],[0,1],[0,1,5],[0,1,5,6],[0,1,5,6,7],[0,1],[0,1,9],[0,1,9,10],[0,1,9,10,11]] [0,1,5,6,7,8,9,10,11] nlTo1_5 (by kernel_rfl) (by kernel_rfl) (by kernel_rfl) (by rfl) (by rfl) (by kernel_rfl) ?_
     iterate 9 apply Exists.intro
     intro bs
     refine zep ?_
     refine z_callB 0 rfl rfl (token_reader_span_ok m0 true o0 T0 c0_0 (.cur k0_2) x10 q10) rfl rfl Wl rfl rfl rfl rfl rfl rfl rfl ?_
     iterate 3 refine zqp ?_
     refine z_known (j := 20) (b' := false) rfl hs11 ?_
     iterate 3 refine zep ?_
     refine z_eM rfl rfl (xm_load 0 htab rfl rfl rfl rfl rfl) rfl rfl rfl rfl rfl rfl ?_
     iterate 3 refine zep ?_
     refine z_qM rfl rfl (xm_load 0 htab rfl rfl rfl rfl rfl) rfl rfl rfl rfl rfl rfl ?_
     refine z_nil rfl rfl (fun e he => by simp [isAl] at he) ?_
     obtain ⟨x12, q12, hm⟩ := yes_bind hm
     refine p_elem htab rfl rfl rfl rfl rfl rfl rfl rfl rfl rfl (idx_nonneg q12) (idx_map q12) ?_
     refine p_loadEl htab rfl rfl rfl rfl rfl rfl rfl rfl ?_
     refine pu ?_
     refine pu ?_
     refine p_split (i := 32) rfl (fun hg13 => ?_) (fun hg13 => ?_)
     ·replace hm := yes_t hg13 hm
      refine pu ?_
      refine pu ?_
      refine p_pickT rfl rfl rfl rfl rfl rfl ?_
      refine p_pickF rfl rfl rfl rfl rfl rfl ?_
      refine ops_nil ?_
      have e9 := yes_eq hm; subst e9
      refine ⟨rfl, ?_⟩
      exact WkX.of () (WkS.perm (WkS.cons rfl (Wk.refl _) (WkS.cons rfl (Wk.refl _) (WkS.cons rfl (Wk.refl _) (WkS.nil)))) Pf Pf)
     ·replace hm := yes_f hg13 hm
      refine pK ?_
      refine pK ?_
      refine p_pickF rfl rfl rfl rfl rfl rfl ?_
      refine p_pickF rfl rfl rfl rfl rfl rfl ?_
      refine ops_nil ?_
      have e9 := yes_eq hm; subst e9
      refine ⟨rfl, ?_⟩
      exact WkX.of () (WkS.perm (WkS.cons rfl (Wk.refl _) (WkS.cons rfl (Wk.refl _) (WkS.cons rfl (Wk.refl _) (WkS.nil)))) Pf Pf)
   ·intro s9 hw9; clear hm; have hm := ho9; clear q9 ho9
    refine then_normal ?_
    refine wpD_wkX hw9 (fun z9 => ?_)
    refine wpD_cond rfl (fun hc15 => ?_) (fun hc15 => ?_)
    ·replace hm := yes_t hc15 hm
     refine wpD_sr ?_
     refine pu ?_
     refine ops_nt ?_
     refine wpD_ret ?_
     refine then_ret ?_
     have er16 := yes_eq hm; subst er16
     refine rP (t' := [(2, .v (.int .i64 (3 : Int)))]) [0] [0] 1 (wC wN) (lT lN) ?_
     exact ⟨k0_2, rfl, rfl, rfl⟩
    ·replace hm := yes_f hc15 hm
     refine wpD_skip ?_
     refine then_normal ?_
     refine wpD_sr ?_
     refine pu ?_
     refine ops_nt ?_
     refine wpD_seq ?_
     refine wpD_seq ?_
     obtain ⟨x17, q17, hm⟩ := yes_bind hm
     refine wpD_draws 17 [] [[],[0],[0,1],[0,1,2],[],[4],[4,5],[4,5,6],[],[8],[8,9],[8,9,10],[],[8,9,10],[0,1,2,3,4,5,6,8,9,10],[0,1,2,3,4,5,6,8,9,10,14],[]] [0,1,2,3,4,5,6,8,9,10,14] [[],[0],[0,1],[0,1,2],[],[4],[4,5],[4,5,6],[],[8],[8,9],[8,9,10],[],[8,9,10,11,12],[0,1,2,3,4,5,6,7,8,9,10,11,12,13],[0,1,2,3,4,5,6,7,8,9,10,11,12,13,14],[]] (by kernel_rfl) (by kernel_rfl) (by kernel_rfl) (by rfl) (by rfl) (by kernel_rfl) ?_
     iterate 11 apply Exists.intro
     intro bs
     iterate 3 refine zep ?_
     refine z_eM rfl rfl (xm_load 0 htab rfl rfl rfl rfl rfl) rfl rfl rfl rfl rfl rfl ?_
     iterate 3 refine zep ?_
     refine z_qM rfl rfl (xm_load 0 htab rfl rfl rfl rfl rfl) rfl rfl rfl rfl rfl rfl ?_
     iterate 3 refine zep ?_
     refine z_qM rfl rfl (xm_load 0 htab rfl rfl rfl rfl rfl) rfl rfl rfl rfl rfl rfl ?_
     refine zqp ?_
     refine zqp ?_
     refine z_e rfl rfl (x_cut q17 htab rfl rfl rfl rfl rfl rfl rfl rfl rfl rfl) rfl rfl rfl rfl rfl rfl ?_
     refine z_q rfl rfl (x_lenL htab rfl rfl rfl rfl (by first | exact map_len | rfl)) rfl rfl rfl rfl rfl rfl ?_
     refine zqp ?_
     refine z_nil rfl rfl (fun e he => by simp [isAl] at he) ?_
     refine ops_nt ?_
     obtain ⟨x32, q32, ho32⟩ := yes_bind hm
     refine wpD_midX (τ := Int) (Y := Unit) (fun y32 z32 => (⟨[(0, .ptr o0 0), (3, .v (.int .i64 x4)), (4, .v (.int .u64 y32))], [(o0, Blk.cells [.lst 1 (m0.gB.map byteD) c0_0, .v (.int .i64 m0.gAt), .lst 4 (m0.gL.map eTApiToken) (.cur k0_2)] T0)], [(4, k0_2)]⟩ : S)) x32 ?_ ?_
     ·clear hm; have hm := yes_of q32
      refine wpD_block ?_
      obtain ⟨u33, hl33, hq33⟩ := yes_m hm
      refine loop_M (Y := Unit) hl33 (fun s33 z33 => (⟨[(0, .ptr o0 0), (3, .v (.int .i64 x4)), (4, .v (.int .u64 s33.1)), (51, .lst 1 (x17.map byteD) .no), (52, .v (.int .i64 (x17.length : Int))), (53, .v (.int .i64 s33.2))], [(o0, Blk.cells [.lst 1 (m0.gB.map byteD) c0_0, .v (.int .i64 m0.gAt), .lst 4 (m0.gL.map eTApiToken) (.cur k0_2)] T0)], [(4, k0_2)]⟩ : S)) ?_ ?_
      ·skip
       exact WkX.of () (WkS.perm (WkS.cons rfl (Wk.refl _) (WkS.cons rfl (Wk.refl _) (WkS.cons rfl (Wk.refl _) (WkS.cons rfl (Wk.refl _) (WkS.cons rfl (Wk.refl _) (WkS.cons rfl (Wk.refl _) (WkS.nil))))))) Pf Pf)
      ·intro G33 s33 z33 hm
       refine wpD_sr ?_
       refine pu ?_
       refine ops_nt ?_
       refine wpD_seq ?_
       refine wpD_cond rfl (fun hc42 => ?_) (fun hc42 => ?_)
       ·replace hm := yes_t hc42 hm
        refine wpD_skip ?_
        refine then_normal ?_
        refine wpD_seq ?_
        refine wpD_block ?_
        refine wpD_sr ?_
        obtain ⟨x43, q43, hm⟩ := yes_bind hm
        refine p_elem htab rfl rfl rfl rfl rfl rfl rfl rfl rfl rfl (idx_nonneg q43) (idx_map q43) ?_
        refine p_loadEl htab rfl rfl rfl rfl rfl rfl rfl rfl ?_
        refine pu ?_
        refine ops_n2 ?_
        iterate 4 refine pu ?_
        refine ops_nt ?_
        refine wpD_seq ?_
        refine wpD_sr ?_
        iterate 3 refine pu ?_
        refine p_div rfl rfl rfl rfl rfl rfl rfl (by decide) ?_
        refine pu ?_
        refine ops_nt ?_
        refine wpD_cond rfl (fun hc44 => ?_) (fun hc44 => ?_)
        ·replace hm := yes_t hc44 hm
         refine wpD_sr ?_
         refine pu ?_
         refine ops_nt ?_
         refine wpD_ret ?_
         refine then_ret ?_
         refine block_ret ?_
         refine then_ret ?_
         have e33 := lp_done hm; subst e33; clear hm; have hm := hq33
         refine then_ret ?_
         refine block_ret ?_
         have e32 := yes_eq hm; subst e32; refine midX_inr ?_; clear hm; have hm := ho32; simp only [Sum.elim_inr] at hm
         refine then_ret ?_
         have er45 := yes_eq hm; subst er45
         refine rP (t' := [(2, .v (.int .i64 (4 : Int)))]) [0] [0] 1 (wC wN) (lT lN) ?_
         exact ⟨k0_2, rfl, rfl, rfl⟩
        ·replace hm := yes_f hc44 hm
         refine wpD_skip ?_
         refine then_normal ?_
         refine wpD_region ?_
         iterate 5 refine pu ?_
         refine ops_nil ?_
         refine block_normal ?_
         refine then_normal ?_
         refine wpD_region ?_
         refine pu ?_
         refine pu ?_
         refine ops_nil ?_
         refine then_normal ⟨_, lp_next hm, ?_⟩
         exact WkX.of () (WkS.perm (WkS.cons rfl (Wk.refl _) (WkS.cons rfl (Wk.refl _) (WkS.cons rfl (Wk.refl _) (WkS.cons rfl (Wk.refl _) (WkS.cons rfl (Wk.refl _) (WkS.cons rfl (Wk.refl _) (WkS.nil))))))) Pf Pf)
       ·replace hm := yes_f hc42 hm
        refine wpD_exit ?_
        refine then_exit ?_
        have e33 := lp_done hm; subst e33; clear hm; have hm := hq33
        refine then_exit ?_
        refine block_hit ?_
        have e32 := yes_eq hm; subst e32
        refine midX_inl ?_
        exact WkX.of () (WkS.perm (WkS.cons rfl (Wk.refl _) (WkS.cons rfl (Wk.refl _) (WkS.cons rfl (Wk.refl _) (WkS.nil)))) Pf Pf)
     ·intro y32 s32 hx32 hw32; subst hx32; clear hm; have hm := ho32; simp only [Sum.elim_inl] at hm; clear q32 ho32
      refine then_normal ?_
      refine wpD_wkX hw32 (fun z32 => ?_)
      refine wpD_sr ?_
      iterate 4 refine pu ?_
      obtain ⟨x47, q47, hm⟩ := yes_bind hm
      refine pG (token_reader_add_ok m0 (2 : Int) x4 (IntKind.i64.wrap y32) o0 T0 c0_0 k0_2 x47 q47) Wl Pf Pf ?_
      rintro _ _ _ ⟨w46, rfl, rfl, rfl⟩
      refine pu ?_
      refine ops_nt ?_
      refine wpD_ret ?_
      have er48 := yes_eq hm; subst er48
      refine rP (t' := [(2, .v (.int .i64 x47.1))]) [0] [0] 1 (wC wN) (lT lN) ?_
      exact ⟨w46, rfl, rfl, rfl⟩
noncomputable def token_reader_sign (m0 : TTokenReader) : Option (Int) :=
  ((cutL m0.gB m0.gAt ((m0.gB).length : Int)).bind fun x1 => (Option.bind (α := Bool) (bif (decide ((1 : Int) < (x1.length : Int))) then ((cutL x1 (0 : Int) (2 : Int)).bind fun x7 => ((slices_Contains_string_string ([(ByteArray.mk #[61, 61]), (ByteArray.mk #[33, 61]), (ByteArray.mk #[60, 61]), (ByteArray.mk #[38, 38]), (ByteArray.mk #[124, 124])] : List ByteArray) (ByteArray.mk x7.toArray)).bind fun x8 => some x8)) else some false) fun y5 => (bif y5 then some (2 : Int) else ((idx x1 (0 : Int)).bind fun x12 => (bif (decide ((0 : Int) ≤ (indexB (ByteArray.mk #[40, 41, 123, 125, 91, 93, 59, 44, 61, 60, 43, 45, 42, 47, 37, 33, 38]) (x12.toNat : Int)))) then some (1 : Int) else some (0 : Int))))))
set_option maxRecDepth 100000 in
set_option maxHeartbeats 2000000 in
theorem token_reader_sign_ok (m0 : TTokenReader) (o0 : Nat) (T0 : TypeId) (c0_0 : Cap) (c0_2 : Cap) (r : Int) (h0 : token_reader_sign m0 = some r) : CallsD Try.prog 27 [.ptr o0 0] [(o0, Blk.cells [.lst 1 (m0.gB.map byteD) c0_0, .v (.int .i64 m0.gAt), .lst 4 (m0.gL.map eTApiToken) c0_2] T0)] [] (fun d h k => d = .v (.int .i64 r) ∧ h = [(o0, Blk.cells [.lst 1 (m0.gB.map byteD) c0_0, .v (.int .i64 m0.gAt), .lst 4 (m0.gL.map eTApiToken) c0_2] T0)] ∧ k = []) := by
  have hm := yes_of h0
  unfold token_reader_sign at hm
  clear h0
  refine enterX htab Try.func27 rfl rfl rfl rfl rfl (fun C => ?_)
  refine wpD_sr ?_
  refine pu ?_
  refine ops_nt ?_
  refine wpD_seq ?_
  refine wpD_draws 8 [] [[],[0],[0,1],[0,1,2],[],[4],[4,5],[4,5,6]] [0,1,2,3,4,5,6] [[],[0],[0,1],[0,1,2],[],[4],[4,5],[4,5,6],[0,1,2,3,4,5,6,7],[0,1,2,3,4,5,6,7,8]] (by kernel_rfl) (by kernel_rfl) (by kernel_rfl) (by rfl) (by rfl) (by kernel_rfl) ?_
  iterate 7 apply Exists.intro
  intro bs
  iterate 3 refine zep ?_
  refine z_eM rfl rfl (xm_load 0 htab rfl rfl rfl rfl rfl) rfl rfl rfl rfl rfl rfl ?_
  iterate 3 refine zep ?_
  refine z_qM rfl rfl (xm_load 0 htab rfl rfl rfl rfl rfl) rfl rfl rfl rfl rfl rfl ?_
  refine z_nil rfl rfl (fun e he => by simp [isAl] at he) ?_
  obtain ⟨x1, q1, hm⟩ := yes_bind hm
  refine p_cut q1 htab rfl rfl rfl rfl rfl rfl rfl rfl rfl rfl rfl rfl rfl ?_
  refine pu ?_
  refine ops_nt ?_
  refine wpD_seq ?_
  refine wpD_seq ?_
  obtain ⟨y5, q5, ho5⟩ := yes_bind hm
  refine wpD_mid (Y := Unit) (fun z5 => (⟨[(3, .lst 1 (x1.map byteD) .no), (22, .v (.bool y5))], [(o0, Blk.cells [.lst 1 (m0.gB.map byteD) c0_0, .v (.int .i64 m0.gAt), .lst 4 (m0.gL.map eTApiToken) c0_2] T0)], []⟩ : S)) ?_ ?_
  ·clear hm; have hm := yes_of q5
   refine wpD_region ?_
   refine pu ?_
   refine p_lenL htab rfl rfl rfl rfl rfl rfl rfl (by first | exact map_len | rfl) ?_
   refine pu ?_
   refine pu ?_
   refine p_split (i := 16) rfl (fun hg6 => ?_) (fun hg6 => ?_)
   ·replace hm := yes_t hg6 hm
    refine p_lit htab rfl rfl rfl rfl rfl rfl rfl rfl rfl rfl rfl rfl rfl rfl ?_
    refine p_eq (i := 17) (d' := .lst 1 (([(ByteArray.mk #[61, 61]), (ByteArray.mk #[33, 61]), (ByteArray.mk #[60, 61]), (ByteArray.mk #[38, 38]), (ByteArray.mk #[124, 124])] : List ByteArray).map eStr) .full) rfl (Wk.lst0 (.cons (WkC.refl _) (.cons (WkC.refl _) (.cons (WkC.refl _) (.cons (WkC.refl _) (.cons (WkC.refl _) (.nil))))))) ?_
    refine pu ?_
    obtain ⟨x7, q7, hm⟩ := yes_bind hm
    refine p_cut q7 htab rfl rfl rfl rfl rfl rfl rfl rfl rfl rfl rfl rfl rfl ?_
    refine p_toStr htab rfl rfl rfl rfl rfl rfl rfl rfl rfl rfl rfl ?_
    obtain ⟨x8, q8, hm⟩ := yes_bind hm
    refine p_call0 (slices_Contains_string_string_ok ([(ByteArray.mk #[61, 61]), (ByteArray.mk #[33, 61]), (ByteArray.mk #[60, 61]), (ByteArray.mk #[38, 38]), (ByteArray.mk #[124, 124])] : List ByteArray) (ByteArray.mk x7.toArray) x8 q8) rfl rfl rfl rfl rfl (WkL.cons (Wk.no) (WkL.cons (Wk.refl _) Wl)) ?_
    rintro _ rfl
    refine p_pickT rfl rfl rfl rfl rfl rfl ?_
    refine ops_nil ?_
    have e5 := yes_eq hm; subst e5
    refine ⟨rfl, ?_⟩
    exact WkX.of () (WkS.perm (WkS.cons rfl (Wk.refl _) (WkS.cons rfl (Wk.refl _) (WkS.nil))) Pf Pf)
   ·replace hm := yes_f hg6 hm
    iterate 5 refine pK ?_
    refine p_pickF rfl rfl rfl rfl rfl rfl ?_
    refine ops_nil ?_
    have e5 := yes_eq hm; subst e5
    refine ⟨rfl, ?_⟩
    exact WkX.of () (WkS.perm (WkS.cons rfl (Wk.refl _) (WkS.cons rfl (Wk.refl _) (WkS.nil))) Pf Pf)
  ·intro s5 hw5; clear hm; have hm := ho5; clear q5 ho5
   refine then_normal ?_
   refine wpD_wkX hw5 (fun z5 => ?_)
   refine wpD_cond rfl (fun hc10 => ?_) (fun hc10 => ?_)
   ·replace hm := yes_t hc10 hm
    refine wpD_sr ?_
    refine pu ?_
    refine ops_nt ?_
    refine wpD_ret ?_
    refine then_ret ?_
    have er11 := yes_eq hm; subst er11
    refine rP (t' := [(2, .v (.int .i64 (2 : Int)))]) [0] [] 1 (wC wN) (lT lN) ?_
    exact ⟨rfl, rfl, rfl⟩
   ·replace hm := yes_f hc10 hm
    refine wpD_skip ?_
    refine then_normal ?_
    refine wpD_seq ?_
    refine wpD_sr ?_
    refine pu ?_
    obtain ⟨x12, q12, hm⟩ := yes_bind hm
    refine p_elem htab rfl rfl rfl rfl rfl rfl rfl rfl rfl rfl (idx_nonneg q12) (idx_map q12) ?_
    refine p_loadEl htab rfl rfl rfl rfl rfl rfl rfl rfl ?_
    refine p_call0 (indexB_ok (ByteArray.mk #[40, 41, 123, 125, 91, 93, 59, 44, 61, 60, 43, 45, 42, 47, 37, 33, 38]) (x12.toNat : Int)) rfl rfl rfl rfl rfl Wl ?_
    rintro _ rfl
    refine pu ?_
    refine ops_nt ?_
    refine wpD_cond rfl (fun hc13 => ?_) (fun hc13 => ?_)
    ·replace hm := yes_t hc13 hm
     refine wpD_sr ?_
     refine pu ?_
     refine ops_nt ?_
     refine wpD_ret ?_
     refine then_ret ?_
     have er14 := yes_eq hm; subst er14
     refine rP (t' := [(2, .v (.int .i64 (1 : Int)))]) [0] [] 1 (wC wN) (lT lN) ?_
     exact ⟨rfl, rfl, rfl⟩
    ·replace hm := yes_f hc13 hm
     refine wpD_skip ?_
     refine then_normal ?_
     refine wpD_sr ?_
     refine pu ?_
     refine ops_nt ?_
     refine wpD_ret ?_
     have er15 := yes_eq hm; subst er15
     refine rP (t' := [(2, .v (.int .i64 (0 : Int)))]) [0] [] 1 (wC wN) (lT lN) ?_
     exact ⟨rfl, rfl, rfl⟩
noncomputable def token_reader_next (m0 : TTokenReader) : Option (Int × TTokenReader) :=
  ((idx m0.gB m0.gAt).bind fun x1 => ((token_kind (IntKind.i32.wrap (x1.toNat : Int))).bind fun x2 => (bif (x2 == (1 : Int)) then some ((0 : Int), (⟨m0.gB, (IntKind.i64.wrap (m0.gAt + (1 : Int))), m0.gL⟩ : TTokenReader)) else (bif (x2 == (2 : Int)) then ((token_reader_name m0).bind fun x27 => some (x27.1, x27.2)) else (bif (x2 == (3 : Int)) then ((token_reader_number m0).bind fun x34 => some (x34.1, x34.2)) else ((token_reader_sign m0).bind fun x36 => (bif (x36 == (0 : Int)) then some ((3 : Int), m0) else ((token_reader_add m0 (3 : Int) x36 (0 : Int)).bind fun x41 => some (x41.1, x41.2)))))))))
set_option maxRecDepth 100000 in
set_option maxHeartbeats 2000000 in
theorem token_reader_next_ok (m0 : TTokenReader) (o0 : Nat) (T0 : TypeId) (c0_0 : Cap) (k0_2 : Value) (r : Int × TTokenReader) (h0 : token_reader_next m0 = some r) : CallsD Try.prog 16 [.ptr o0 0] [(o0, Blk.cells [.lst 1 (m0.gB.map byteD) c0_0, .v (.int .i64 m0.gAt), .lst 4 (m0.gL.map eTApiToken) (.cur k0_2)] T0)] [(4, k0_2)] (fun d h k => ∃ y0, d = .v (.int .i64 r.1) ∧ h = [(o0, Blk.cells [.lst 1 (r.2.gB.map byteD) c0_0, .v (.int .i64 r.2.gAt), .lst 4 (r.2.gL.map eTApiToken) (.cur y0)] T0)] ∧ k = [(4, y0)]) := by
  have hm := yes_of h0
  unfold token_reader_next at hm
  clear h0
  refine enterX htab Try.func16 rfl rfl rfl rfl rfl (fun C => ?_)
  refine wpD_sr ?_
  refine pu ?_
  refine ops_nt ?_
  refine wpD_seq ?_
  refine wpD_seq ?_
  refine wpD_draws 8 [] [[],[0],[0,1],[0,1,2],[],[4],[4,5],[4,5,6]] [0,1,2,3,4,5,6] [[],[0],[0,1],[0,1,2],[],[4],[4,5],[4,5,6],[0,1,2,3,4,5,6,7],[0,1,2,3,4,5,6,7,8],[0,1,2,3,4,5,6,7,8,9],[0,1,2,3,4,5,6,7,8,9,10]] (by kernel_rfl) (by kernel_rfl) (by kernel_rfl) (by rfl) (by rfl) (by kernel_rfl) ?_
  iterate 7 apply Exists.intro
  intro bs
  iterate 3 refine zep ?_
  refine z_eM rfl rfl (xm_load 0 htab rfl rfl rfl rfl rfl) rfl rfl rfl rfl rfl rfl ?_
  iterate 3 refine zep ?_
  refine z_qM rfl rfl (xm_load 0 htab rfl rfl rfl rfl rfl) rfl rfl rfl rfl rfl rfl ?_
  refine z_nil rfl rfl (fun e he => by simp [isAl] at he) ?_
  obtain ⟨x1, q1, hm⟩ := yes_bind hm
  refine p_elem htab rfl rfl rfl rfl rfl rfl rfl rfl rfl rfl (idx_nonneg q1) (idx_map q1) ?_
  refine p_loadEl htab rfl rfl rfl rfl rfl rfl rfl rfl ?_
  refine pu ?_
  obtain ⟨x2, q2, hm⟩ := yes_bind hm
  refine p_call0 (token_kind_ok (IntKind.i32.wrap (x1.toNat : Int)) x2 q2) rfl rfl rfl rfl rfl Wl ?_
  rintro _ rfl
  refine ops_nt ?_
  refine wpD_block ?_
  refine wpD_sr ?_
  refine pu ?_
  refine pu ?_
  refine ops_nt ?_
  refine wpD_cond rfl (fun hc17 => ?_) (fun hc17 => ?_)
  ·replace hm := yes_t hc17 hm
   refine wpD_sr ?_
   iterate 3 refine pu ?_
   refine pL 0 ?_
   iterate 3 refine pu ?_
   refine pS0 (ds' := [.lst 1 (m0.gB.map byteD) c0_0, .v (.int .i64 (IntKind.i64.wrap (m0.gAt + (1 : Int)))), .lst 4 (m0.gL.map eTApiToken) (.cur k0_2)]) ?_
   refine ops_n2 ?_
   refine pu ?_
   refine ops_nt ?_
   refine wpD_ret ?_
   refine block_ret ?_
   refine then_ret ?_
   have er18 := yes_eq hm; subst er18
   refine rP (t' := [(2, .v (.int .i64 (0 : Int)))]) [0] [0] 1 (wC wN) (lT lN) ?_
   exact ⟨k0_2, rfl, rfl, rfl⟩
  ·replace hm := yes_f hc17 hm
   refine wpD_sr ?_
   refine pu ?_
   refine pu ?_
   refine ops_nt ?_
   refine wpD_cond rfl (fun hc25 => ?_) (fun hc25 => ?_)
   ·replace hm := yes_t hc25 hm
    refine wpD_sr ?_
    refine pu ?_
    obtain ⟨x27, q27, hm⟩ := yes_bind hm
    refine pG (token_reader_name_ok m0 o0 T0 c0_0 k0_2 x27 q27) Wl Pf Pf ?_
    rintro _ _ _ ⟨w26, rfl, rfl, rfl⟩
    refine pu ?_
    refine ops_nt ?_
    refine wpD_ret ?_
    refine block_ret ?_
    refine then_ret ?_
    have er28 := yes_eq hm; subst er28
    refine rP (t' := [(2, .v (.int .i64 x27.1))]) [0] [0] 1 (wC wN) (lT lN) ?_
    exact ⟨w26, rfl, rfl, rfl⟩
   ·replace hm := yes_f hc25 hm
    refine wpD_sr ?_
    refine pu ?_
    refine pu ?_
    refine ops_nt ?_
    refine wpD_cond rfl (fun hc32 => ?_) (fun hc32 => ?_)
    ·replace hm := yes_t hc32 hm
     refine wpD_sr ?_
     refine pu ?_
     obtain ⟨x34, q34, hm⟩ := yes_bind hm
     refine pG (token_reader_number_ok m0 o0 T0 c0_0 k0_2 x34 q34) Wl Pf Pf ?_
     rintro _ _ _ ⟨w33, rfl, rfl, rfl⟩
     refine pu ?_
     refine ops_nt ?_
     refine wpD_ret ?_
     refine block_ret ?_
     refine then_ret ?_
     have er35 := yes_eq hm; subst er35
     refine rP (t' := [(2, .v (.int .i64 x34.1))]) [0] [0] 1 (wC wN) (lT lN) ?_
     exact ⟨w33, rfl, rfl, rfl⟩
    ·replace hm := yes_f hc32 hm
     refine wpD_skip ?_
     refine block_normal ?_
     refine then_normal ?_
     refine wpD_sr ?_
     refine pu ?_
     obtain ⟨x36, q36, hm⟩ := yes_bind hm
     refine pG (token_reader_sign_ok m0 o0 T0 c0_0 (.cur k0_2) x36 q36) Wl Pf Pf ?_
     rintro _ _ _ ⟨rfl, rfl, rfl⟩
     refine pu ?_
     refine ops_nt ?_
     refine wpD_seq ?_
     refine wpD_sr ?_
     refine pu ?_
     refine pu ?_
     refine ops_nt ?_
     refine wpD_cond rfl (fun hc38 => ?_) (fun hc38 => ?_)
     ·replace hm := yes_t hc38 hm
      refine wpD_sr ?_
      refine pu ?_
      refine ops_nt ?_
      refine wpD_ret ?_
      refine then_ret ?_
      have er39 := yes_eq hm; subst er39
      refine rP (t' := [(2, .v (.int .i64 (3 : Int)))]) [0] [0] 1 (wC wN) (lT lN) ?_
      exact ⟨k0_2, rfl, rfl, rfl⟩
     ·replace hm := yes_f hc38 hm
      refine wpD_skip ?_
      refine then_normal ?_
      refine wpD_sr ?_
      refine pu ?_
      refine pu ?_
      obtain ⟨x41, q41, hm⟩ := yes_bind hm
      refine pG (token_reader_add_ok m0 (3 : Int) x36 (0 : Int) o0 T0 c0_0 k0_2 x41 q41) Wl Pf Pf ?_
      rintro _ _ _ ⟨w40, rfl, rfl, rfl⟩
      refine pu ?_
      refine ops_nt ?_
      refine wpD_ret ?_
      have er42 := yes_eq hm; subst er42
      refine rP (t' := [(2, .v (.int .i64 x41.1))]) [0] [0] 1 (wC wN) (lT lN) ?_
      exact ⟨w40, rfl, rfl, rfl⟩
noncomputable def token_Read (a0 : List UInt8) : Option (List TApiToken × Int × Int) :=
  (bif (decide ((20000 : Int) < (a0.length : Int))) then some (([] : List TApiToken), (0 : Int), (6 : Int)) else (Option.bind (α := (List UInt8 × Int × List TApiToken) ⊕ (List TApiToken × Int × Int)) (loopM (fun (s25 : List UInt8 × Int × List TApiToken) => (bif (decide (s25.2.1 < (a0.length : Int))) then ((token_reader_next (⟨s25.1, s25.2.1, s25.2.2⟩ : TTokenReader)).bind fun x40 => (bif (x40.1 != (0 : Int)) then some (.done (.inr (([] : List TApiToken), x40.2.gAt, x40.1))) else some (.next (x40.2.gB, x40.2.gAt, x40.2.gL)))) else some (.done (.inl (s25.1, s25.2.1, s25.2.2))))) (a0, (0 : Int), ([] : List TApiToken))) (Sum.elim (fun y24 => ((app 40 y24.2.2 ([(⟨(0 : Int), ByteArray.empty, (0 : Int), (a0.length : Int)⟩ : TApiToken)] : List TApiToken)).bind fun x44 => some (x44, (0 : Int), (0 : Int)))) (fun r => some r))))
set_option maxRecDepth 100000 in
set_option maxHeartbeats 2000000 in
theorem token_Read_ok (a0 : List UInt8) (r : List TApiToken × Int × Int) (h0 : token_Read a0 = some r) : CallsD Try.prog 6 [.lst 1 (a0.map byteD) .no] [] [] (fun d h k => ∃ y0, d = .tup [.lst 4 (r.1.map eTApiToken) (.cur y0), .v (.int .i64 r.2.1), .v (.int .i64 r.2.2)] ∧ h = [] ∧ k = [(4, y0)]) := by
  have hm := yes_of h0
  unfold token_Read at hm
  clear h0
  refine enterX htab Try.func6 rfl rfl rfl rfl rfl (fun C => ?_)
  refine wpD_sr ?_
  iterate 3 refine pu ?_
  refine ops_nt ?_
  refine wpD_seq ?_
  refine wpD_sr ?_
  refine pu ?_
  refine p_lenL htab rfl rfl rfl rfl rfl rfl rfl (by first | exact map_len | rfl) ?_
  refine pu ?_
  refine ops_nt ?_
  refine wpD_cond rfl (fun hc2 => ?_) (fun hc2 => ?_)
  ·replace hm := yes_t hc2 hm
   refine wpD_sr ?_
   iterate 3 refine pu ?_
   refine ops_nt ?_
   refine wpD_ret ?_
   refine then_ret ?_
   have er3 := yes_eq hm; subst er3
   refine retX.tokN (i := 2) 4 rfl (fun w4 => ?_)
   refine rP (t' := [(2, .lst 4 (([] : List TApiToken).map eTApiToken) (.cur w4)), (3, .v (.int .i64 (0 : Int))), (4, .v (.int .i64 (6 : Int)))]) [] [0] 0 (wC (wC (wC wN))) (lT (lT (lT lN))) ?_
   exact ⟨w4, rfl, rfl, rfl⟩
  ·replace hm := yes_f hc2 hm
   refine wpD_skip ?_
   refine then_normal ?_
   refine wpD_sr ?_
   refine pu ?_
   refine p_build (r := [.lst 1 (a0.map byteD) .no, .v (.int .i64 (0 : Int)), .lst 1 [] .full]) htab rfl rfl rfl rfl rfl rfl rfl rfl rfl ?_
   refine p_box rfl rfl rfl rfl rfl rfl rfl (fun b5 => ?_)
   refine pu ?_
   refine ops_nt ?_
   refine wpD_seq ?_
   obtain ⟨x24, q24, ho24⟩ := yes_bind hm
   refine wpD_midX (τ := List UInt8 × Int × List TApiToken) (Y := Value) (fun y24 z24 => (⟨[(0, .lst 1 (a0.map byteD) .no), (5, .ptr b5 0)], [(b5, Blk.cells [.lst 1 (y24.1.map byteD) .no, .v (.int .i64 y24.2.1), .lst 4 (y24.2.2.map eTApiToken) (.cur z24)] 37)], [(4, z24)]⟩ : S)) x24 ?_ ?_
   ·clear hm; have hm := yes_of q24
    refine wpD_block ?_
    obtain ⟨u25, hl25, hq25⟩ := yes_m hm
    refine loop_M (Y := Value) hl25 (fun s25 z25 => (⟨[(0, .lst 1 (a0.map byteD) .no), (5, .ptr b5 0)], [(b5, Blk.cells [.lst 1 (s25.1.map byteD) .no, .v (.int .i64 s25.2.1), .lst 4 (s25.2.2.map eTApiToken) (.cur z25)] 37)], [(4, z25)]⟩ : S)) ?_ ?_
    ·skip
     refine WkX.cellF (off := 2) 4 0 rfl rfl (by first | exact Or.inl rfl | exact Or.inr rfl) (fun w37 => ?_)
     exact WkX.of w37 (WkS.perm (WkS.cons rfl (Wk.refl _) (WkS.cons rfl (Wk.refl _) (WkS.nil))) Pf Pf)
    ·intro G25 s25 z25 hm
     refine wpD_seq ?_
     refine wpD_sr ?_
     iterate 3 refine pu ?_
     refine pL 0 ?_
     refine pu ?_
     refine p_lenL htab rfl rfl rfl rfl rfl rfl rfl (by first | exact map_len | rfl) ?_
     refine pu ?_
     refine ops_nt ?_
     refine wpD_cond rfl (fun hc38 => ?_) (fun hc38 => ?_)
     ·replace hm := yes_t hc38 hm
      refine wpD_skip ?_
      refine then_normal ?_
      refine wpD_block ?_
      refine wpD_sr ?_
      refine pu ?_
      obtain ⟨x40, q40, hm⟩ := yes_bind hm
      refine pG (token_reader_next_ok (⟨s25.1, s25.2.1, s25.2.2⟩ : TTokenReader) b5 37 .no z25 x40 q40) Wl Pf Pf ?_
      rintro _ _ _ ⟨w39, rfl, rfl, rfl⟩
      refine pu ?_
      refine ops_n2 ?_
      refine pu ?_
      refine pu ?_
      refine ops_nt ?_
      refine wpD_cond rfl (fun hc41 => ?_) (fun hc41 => ?_)
      ·replace hm := yes_t hc41 hm
       refine wpD_seq ?_
       refine wpD_draws 7 [] [[],[0],[0,1],[0,1,2],[],[],[0,1,2,5]] [0,1,2,5] [[],[0],[0,1],[0,1,2],[],[],[0,1,2,3,5],[0,1,2,3,4,5,6]] (by kernel_rfl) (by kernel_rfl) (by kernel_rfl) (by rfl) (by rfl) (by kernel_rfl) ?_
       iterate 4 apply Exists.intro
       intro bs
       iterate 3 refine zep ?_
       refine z_qM rfl rfl (xm_load 0 htab rfl rfl rfl rfl rfl) rfl rfl rfl rfl rfl rfl ?_
       refine zqp ?_
       refine zep ?_
       refine zqp ?_
       refine z_nil rfl rfl (fun e he => by simp [isAl] at he) ?_
       refine pu ?_
       refine ops_nt ?_
       refine wpD_ret ?_
       refine block_ret ?_
       have e25 := lp_done hm; subst e25; clear hm; have hm := hq25
       refine then_ret ?_
       refine block_ret ?_
       have e24 := yes_eq hm; subst e24; refine midX_inr ?_; clear hm; have hm := ho24; simp only [Sum.elim_inr] at hm
       refine then_ret ?_
       have er42 := yes_eq hm; subst er42
       refine retX.tokN (i := 2) 4 rfl (fun w43 => ?_)
       refine rP (t' := [(2, .lst 4 (([] : List TApiToken).map eTApiToken) (.cur w43)), (3, .v (.int .i64 x40.2.gAt)), (4, .v (.int .i64 x40.1))]) [] [0] 0 (wC (wC (wC wN))) (lT (lT (lT lN))) ?_
       exact ⟨w43, rfl, rfl, rfl⟩
      ·replace hm := yes_f hc41 hm
       refine wpD_skip ?_
       refine block_normal ?_
       refine then_normal ⟨_, lp_next hm, ?_⟩
       exact WkX.of w39 (WkS.perm (WkS.cons rfl (Wk.refl _) (WkS.cons rfl (Wk.refl _) (WkS.nil))) Pf Pf)
     ·replace hm := yes_f hc38 hm
      refine wpD_exit ?_
      refine then_exit ?_
      have e25 := lp_done hm; subst e25; clear hm; have hm := hq25
      refine then_exit ?_
      refine block_hit ?_
      have e24 := yes_eq hm; subst e24
      refine midX_inl ?_
      exact WkX.of z25 (WkS.perm (WkS.cons rfl (Wk.refl _) (WkS.cons rfl (Wk.refl _) (WkS.nil))) Pf Pf)
   ·intro y24 s24 hx24 hw24; subst hx24; clear hm; have hm := ho24; simp only [Sum.elim_inl] at hm; clear q24 ho24
    refine then_normal ?_
    refine wpD_wkX hw24 (fun z24 => ?_)
    refine wpD_sr ?_
    iterate 3 refine pu ?_
    refine pL 0 ?_
    refine pu ?_
    refine p_lenL htab rfl rfl rfl rfl rfl rfl rfl (by first | exact map_len | rfl) ?_
    refine p_build (r := [.v (.int .i64 (0 : Int)), .v (.string ByteArray.empty), .v (.int .i64 (0 : Int)), .v (.int .i64 (a0.length : Int))]) htab rfl rfl rfl rfl rfl rfl rfl rfl rfl ?_
    refine p_lit htab rfl rfl rfl rfl rfl rfl rfl rfl rfl rfl rfl rfl rfl rfl ?_
    refine p_eq (i := 36) (d' := .lst 4 (([(⟨(0 : Int), ByteArray.empty, (0 : Int), (a0.length : Int)⟩ : TApiToken)] : List TApiToken).map eTApiToken) .full) rfl (Wk.lst0 (.cons (WkC.refl _) (.nil))) ?_
    obtain ⟨x44, q44, hm⟩ := yes_bind hm
    refine p_appC 0 htab rfl rfl rfl rfl rfl rfl rfl rfl rfl rfl rfl rfl rfl rfl rfl rfl rfl (app_bound q44) (fun v44 => ?_)
    refine p_mapD (i := 37) q44 rfl ?_
    iterate 3 refine pu ?_
    refine ops_nt ?_
    refine wpD_ret ?_
    have er45 := yes_eq hm; subst er45
    refine rP (t' := [(2, .lst 4 (x44.map eTApiToken) (.cur v44)), (3, .v (.int .i64 (0 : Int))), (4, .v (.int .i64 (0 : Int)))]) [] [0] 0 (wC (wC (wC wN))) (lT (lT (lT lN))) ?_
    exact ⟨v44, rfl, rfl, rfl⟩
noncomputable def l10_lives : Option (Bool) :=
  ((token_Read ([(120 : UInt8), (49 : UInt8), (61 : UInt8), (45 : UInt8), (55 : UInt8), (59 : UInt8)] : List UInt8)).bind fun x2 => (bif (x2.2.2 == (0 : Int)) then (bif ((x2.1.length : Int) == (6 : Int)) then ((idx x2.1 (0 : Int)).bind fun x5 => (bif (decide (x5.gText = (ByteArray.mk #[120, 49]))) then ((idx x2.1 (3 : Int)).bind fun x7 => (bif (x7.gN == (7 : Int)) then ((idx x2.1 (5 : Int)).bind fun x9 => some (x9.gAt == (6 : Int))) else some false)) else some false)) else some false) else some false))
set_option maxRecDepth 100000 in
set_option maxHeartbeats 2000000 in
theorem l10_lives_ok  (r : Bool) (h0 : l10_lives = some r) : CallsD Try.prog 9 [] [] [] (fun d h k => d = .v (.bool r) ∧ h = [] ∧ k = []) := by
  have hm := yes_of h0
  unfold l10_lives at hm
  clear h0
  refine enterX htab Try.func9 rfl rfl rfl rfl rfl (fun C => ?_)
  refine wpD_sr ?_
  refine pu ?_
  refine ops_n2 ?_
  refine p_litB htab rfl rfl rfl rfl rfl rfl rfl rfl rfl rfl rfl rfl rfl rfl rfl rfl rfl rfl rfl ?_
  refine p_eq (i := 6) (d' := .lst 1 (([(120 : UInt8), (49 : UInt8), (61 : UInt8), (45 : UInt8), (55 : UInt8), (59 : UInt8)] : List UInt8).map byteD) .no) rfl (Wk.lst0 (.cons (WkC.refl _) (.cons (WkC.refl _) (.cons (WkC.refl _) (.cons (WkC.refl _) (.cons (WkC.refl _) (.cons (WkC.refl _) (.nil)))))))) ?_
  obtain ⟨x2, q2, hm⟩ := yes_bind hm
  refine pG (token_Read_ok ([(120 : UInt8), (49 : UInt8), (61 : UInt8), (45 : UInt8), (55 : UInt8), (59 : UInt8)] : List UInt8) x2 q2) Wl Pf Pf ?_
  rintro _ _ _ ⟨w1, rfl, rfl, rfl⟩
  iterate 7 refine pu ?_
  refine ops_n2 ?_
  iterate 3 refine pu ?_
  refine p_split (i := 13) rfl (fun hg3 => ?_) (fun hg3 => ?_)
  ·replace hm := yes_t hg3 hm
   refine pu ?_
   refine p_lenL htab rfl rfl rfl rfl rfl rfl rfl (by first | exact map_len | rfl) ?_
   refine pu ?_
   refine p_pickT rfl rfl rfl rfl rfl rfl ?_
   refine pu ?_
   refine p_split (i := 18) rfl (fun hg4 => ?_) (fun hg4 => ?_)
   ·replace hm := yes_t hg4 hm
    refine pu ?_
    obtain ⟨x5, q5, hm⟩ := yes_bind hm
    refine p_elem htab rfl rfl rfl rfl rfl rfl rfl rfl rfl rfl (idx_nonneg q5) (idx_map q5) ?_
    refine pu ?_
    refine p_loadEl htab rfl rfl rfl rfl rfl rfl rfl rfl ?_
    refine pu ?_
    refine p_pickT rfl rfl rfl rfl rfl rfl ?_
    refine pu ?_
    refine p_split (i := 25) rfl (fun hg6 => ?_) (fun hg6 => ?_)
    ·replace hm := yes_t hg6 hm
     refine pu ?_
     obtain ⟨x7, q7, hm⟩ := yes_bind hm
     refine p_elem htab rfl rfl rfl rfl rfl rfl rfl rfl rfl rfl (idx_nonneg q7) (idx_map q7) ?_
     refine pu ?_
     refine p_loadEl htab rfl rfl rfl rfl rfl rfl rfl rfl ?_
     refine pu ?_
     refine p_pickT rfl rfl rfl rfl rfl rfl ?_
     refine pu ?_
     refine p_split (i := 32) rfl (fun hg8 => ?_) (fun hg8 => ?_)
     ·replace hm := yes_t hg8 hm
      refine pu ?_
      obtain ⟨x9, q9, hm⟩ := yes_bind hm
      refine p_elem htab rfl rfl rfl rfl rfl rfl rfl rfl rfl rfl (idx_nonneg q9) (idx_map q9) ?_
      refine pu ?_
      refine p_loadEl htab rfl rfl rfl rfl rfl rfl rfl rfl ?_
      refine pu ?_
      refine p_pickT rfl rfl rfl rfl rfl rfl ?_
      refine pu ?_
      refine ops_nt ?_
      refine wpD_ret ?_
      have er10 := yes_eq hm; subst er10
      refine rP (t' := [(0, .v (.bool (x9.gAt == (6 : Int))))]) [] [] 0 (wC wN) (lT lN) ?_
      exact ⟨rfl, rfl, rfl⟩
     ·replace hm := yes_f hg8 hm
      iterate 5 refine pK ?_
      refine p_pickF rfl rfl rfl rfl rfl rfl ?_
      refine pu ?_
      refine ops_nt ?_
      refine wpD_ret ?_
      have er11 := yes_eq hm; subst er11
      refine rP (t' := [(0, .v (.bool false))]) [] [] 0 (wC wN) (lT lN) ?_
      exact ⟨rfl, rfl, rfl⟩
    ·replace hm := yes_f hg6 hm
     iterate 5 refine pK ?_
     refine p_pickF rfl rfl rfl rfl rfl rfl ?_
     refine pu ?_
     iterate 5 refine pK ?_
     refine p_pickF rfl rfl rfl rfl rfl rfl ?_
     refine pu ?_
     refine ops_nt ?_
     refine wpD_ret ?_
     have er12 := yes_eq hm; subst er12
     refine rP (t' := [(0, .v (.bool false))]) [] [] 0 (wC wN) (lT lN) ?_
     exact ⟨rfl, rfl, rfl⟩
   ·replace hm := yes_f hg4 hm
    iterate 5 refine pK ?_
    refine p_pickF rfl rfl rfl rfl rfl rfl ?_
    refine pu ?_
    iterate 5 refine pK ?_
    refine p_pickF rfl rfl rfl rfl rfl rfl ?_
    refine pu ?_
    iterate 5 refine pK ?_
    refine p_pickF rfl rfl rfl rfl rfl rfl ?_
    refine pu ?_
    refine ops_nt ?_
    refine wpD_ret ?_
    have er13 := yes_eq hm; subst er13
    refine rP (t' := [(0, .v (.bool false))]) [] [] 0 (wC wN) (lT lN) ?_
    exact ⟨rfl, rfl, rfl⟩
  ·replace hm := yes_f hg3 hm
   iterate 3 refine pK ?_
   refine p_pickF rfl rfl rfl rfl rfl rfl ?_
   refine pu ?_
   iterate 5 refine pK ?_
   refine p_pickF rfl rfl rfl rfl rfl rfl ?_
   refine pu ?_
   iterate 5 refine pK ?_
   refine p_pickF rfl rfl rfl rfl rfl rfl ?_
   refine pu ?_
   iterate 5 refine pK ?_
   refine p_pickF rfl rfl rfl rfl rfl rfl ?_
   refine pu ?_
   refine ops_nt ?_
   refine wpD_ret ?_
   have er14 := yes_eq hm; subst er14
   refine rP (t' := [(0, .v (.bool false))]) [] [] 0 (wC wN) (lT lN) ?_
   exact ⟨rfl, rfl, rfl⟩
noncomputable def token_Join (a0 : List TApiToken) : Option (ByteArray) :=
  ((need (mkOK 16 (0 : Int) (a0.length : Int))).bind fun x1 => (Option.bind (α := List ByteArray) (loopM (fun (s24 : Int × List ByteArray) => (bif (decide (s24.1 < (a0.length : Int))) then ((idx a0 s24.1).bind fun x41 => ((app 16 s24.2 ([x41.gText] : List ByteArray)).bind fun x43 => some (.next ((IntKind.i64.wrap (s24.1 + (1 : Int))), x43)))) else some (.done s24.2))) ((0 : Int), (List.replicate (0 : Int).toNat ByteArray.empty))) fun y23 => ((need (joinOK y23 (ByteArray.mk #[32]))).bind fun x44 => some (joinB y23 (ByteArray.mk #[32])))))
set_option maxRecDepth 100000 in
set_option maxHeartbeats 2000000 in
theorem token_Join_ok (a0 : List TApiToken) (r : ByteArray) (h0 : token_Join a0 = some r) : CallsD Try.prog 10 [.lst 4 (a0.map eTApiToken) .no] [] [] (fun d h k => d = .v (.string r) ∧ h = [] ∧ k = []) := by
  have hm := yes_of h0
  unfold token_Join at hm
  clear h0
  refine enterX htab Try.func10 rfl rfl rfl rfl rfl (fun C => ?_)
  refine wpD_sr ?_
  refine pu ?_
  refine ops_n2 ?_
  refine pu ?_
  refine p_lenL htab rfl rfl rfl rfl rfl rfl rfl (by first | exact map_len | rfl) ?_
  obtain ⟨x1, q1, hm⟩ := yes_bind hm
  refine p_makeR2 (x0 := eStr ByteArray.empty) htab rfl rfl rfl rfl rfl rfl rfl rfl rfl rfl rfl rfl rfl rfl rfl (need_ok q1) (fun H => by simp [RepC, Reps, eStr]) (List.map_replicate (f := eStr)).symm (fun v1 => ?_)
  refine pu ?_
  refine ops_nt ?_
  refine wpD_seq ?_
  refine wpD_sr ?_
  refine pu ?_
  refine p_lenL htab rfl rfl rfl rfl rfl rfl rfl (by first | exact map_len | rfl) ?_
  refine pu ?_
  refine ops_nt ?_
  obtain ⟨y23, q23, ho23⟩ := yes_bind hm
  refine wpD_mid (Y := Z3) (fun z23 => (⟨[(3, .v (SL z23))], [(0, Blk.row 1 (y23.map eStr) (SL z23))], []⟩ : S)) ?_ ?_
  ·clear hm; have hm := yes_of q23
   refine wpD_block ?_
   obtain ⟨u24, hl24, hq24⟩ := yes_m hm
   refine loop_M (Y := Z3) hl24 (fun s24 z24 => (⟨[(3, .v (SL z24)), (9, .lst 4 (a0.map eTApiToken) .no), (10, .v (.int .i64 (a0.length : Int))), (11, .v (.int .i64 s24.1))], [(0, Blk.row 1 (s24.2.map eStr) (SL z24))], []⟩ : S)) ?_ ?_
   ·skip
    exact WkX.of v1 (WkS.perm (WkS.cons rfl (Wk.refl _) (WkS.cons rfl (Wk.refl _) (WkS.cons rfl (Wk.refl _) (WkS.cons rfl (Wk.refl _) (WkS.nil))))) Pf Pf)
   ·intro G24 s24 z24 hm
    refine wpD_sr ?_
    refine pu ?_
    refine ops_nt ?_
    refine wpD_seq ?_
    refine wpD_cond rfl (fun hc40 => ?_) (fun hc40 => ?_)
    ·replace hm := yes_t hc40 hm
     refine wpD_skip ?_
     refine then_normal ?_
     refine wpD_seq ?_
     refine wpD_block ?_
     refine wpD_sr ?_
     obtain ⟨x41, q41, hm⟩ := yes_bind hm
     refine p_elem htab rfl rfl rfl rfl rfl rfl rfl rfl rfl rfl (idx_nonneg q41) (idx_map q41) ?_
     refine p_loadEl (d := eTApiToken x41) htab rfl rfl rfl rfl rfl rfl rfl rfl ?_
     refine p_alloc htab rfl rfl rfl rfl rfl rfl rfl (fun b42 => ?_)
     refine pS1 (ds' := [.v (.int .i64 x41.gKind), .v (.string x41.gText), .v (.int .i64 x41.gN), .v (.int .i64 x41.gAt)]) ?_
     refine ops_nt ?_
     refine wpD_region ?_
     refine pu ?_
     refine pu ?_
     refine pL 1 ?_
     refine p_lit htab rfl rfl rfl rfl rfl rfl rfl rfl rfl rfl rfl rfl rfl rfl ?_
     refine p_eq (i := 18) (d' := .lst 1 (([x41.gText] : List ByteArray).map eStr) .full) rfl (Wk.lst0 (.cons (WkC.refl _) (.nil))) ?_
     obtain ⟨x43, q43, hm⟩ := yes_bind hm
     refine p_appR2 0 htab rfl rfl rfl rfl rfl rfl rfl rfl rfl rfl rfl rfl rfl rfl rfl rfl (app_bound q43) (app_map q43) (fun v43 => ?_)
     refine pu ?_
     refine ops_nil ?_
     refine block_normal ?_
     refine then_normal ?_
     refine wpD_region ?_
     refine pu ?_
     refine pu ?_
     refine ops_nil ?_
     refine then_normal ⟨_, lp_next hm, ?_⟩
     exact WkX.of v43 (WkS.perm (WkS.cons rfl (Wk.refl _) (WkS.cons rfl (Wk.refl _) (WkS.cons rfl (Wk.refl _) (WkS.cons rfl (Wk.refl _) (WkS.nil))))) Pf Pf)
    ·replace hm := yes_f hc40 hm
     refine wpD_exit ?_
     refine then_exit ?_
     have e24 := lp_done hm; subst e24; clear hm; have hm := hq24
     refine then_exit ?_
     refine block_hit ?_
     have e23 := yes_eq hm; subst e23
     refine ⟨rfl, ?_⟩
     exact WkX.of z24 (WkS.perm (WkS.cons rfl (Wk.refl _) (WkS.nil)) Pf Pf)
  ·intro s23 hw23; clear hm; have hm := ho23; clear q23 ho23
   refine then_normal ?_
   refine wpD_wkX hw23 (fun z23 => ?_)
   refine wpD_sr ?_
   refine pu ?_
   refine o_norm (WkS.frz 0 rfl rfl) ?_
   refine o_norm (WkS.tld 3 0 rfl rfl) ?_
   refine o_norm (WkS.tld 21 0 rfl rfl) ?_
   refine o_norm (WkS.drop 0 rfl) ?_
   obtain ⟨x44, q44, hm⟩ := yes_bind hm
   refine p_call0 (joinB_ok y23 (ByteArray.mk #[32]) (need_ok q44)) rfl rfl rfl rfl rfl (WkL.cons (Wk.no) (WkL.cons (Wk.refl _) Wl)) ?_
   rintro _ rfl
   refine pu ?_
   refine ops_nt ?_
   refine wpD_ret ?_
   have er45 := yes_eq hm; subst er45
   refine rP (t' := [(2, .v (.string (joinB y23 (ByteArray.mk #[32]))))]) [] [] 0 (wC wN) (lT lN) ?_
   exact ⟨rfl, rfl, rfl⟩
abbrev nlTo1_6 : List (List Nat) := [[],[],[0],[0,2],[0,2,3],[],[],[5],[5,7],[5,7,8],[0,2,3,5,7,8],[0,2,3,5,7,8],[0,2,3,5,7,8],[0,2,3,5,7,8],[0,2,3,5,7,8],[0,2,3,5,7,8],[0,2,3,5,7,8],[0,2,3,5,7,8],[0,2,3,5,7,8],[0,2,3,5,7,8],[0,2,3,5,7,8],[0,2,3,5,7,8],[0,2,3,5,7,8],[0,2,3,5,7,8],[0,2,3,5,7,8],[0,2,3,5,7,8],[0,2,3,5,7,8],[0,2,3,5,7,8],[0,2,3,5,7,8],[0,2,3,5,7,8],[0,2,3,5,7,8],[0,2,3,5,7,8],[0,2,3,5,7,8],[0,2,3,5,7,8],[0,2,3,5,7,8],[0,2,3,5,7,8],[0,2,3,5,7,8],[0,2,3,5,7,8],[0,2,3,5,7,8],[0,2,3,5,7,8],[0,2,3,5,7,8],[0,2,3,5,7,8],[0,2,3,5,7,8],[0,2,3,5,7,8],[0,2,3,5,7,8],[0,2,3,5,7,8],[0,2,3,5,7,8],[0,2,3,5,7,8],[0,2,3,5,7,8],[0,2,3,5,7,8]]
abbrev nlTo1_7 : List (List Nat) := [[],[],[0,1],[0,1,2],[0,1,2,3],[],[],[5,6],[5,6,7],[5,6,7,8],[0,1,2,3,4,5,6,7,8,9],[0,1,2,3,4,5,6,7,8,9,10],[0,1,2,3,4,5,6,7,8,9,10,11],[0,1,2,3,4,5,6,7,8,9,10,11],[0,1,2,3,4,5,6,7,8,9,10,11,12,13],[0,1,2,3,4,5,6,7,8,9,10,11,12,13,14],[0,1,2,3,4,5,6,7,8,9,10,11,12,13,14,15],[0,1,2,3,4,5,6,7,8,9,10,11],[0,1,2,3,4,5,6,7,8,9,10,11],[0,1,2,3,4,5,6,7,8,9,10,11,17,18],[0,1,2,3,4,5,6,7,8,9,10,11,17,18,19],[0,1,2,3,4,5,6,7,8,9,10,11,17,18,19,20],[0,1,2,3,4,5,6,7,8,9,10,11,12,13,14,15,16,17,18,19,20,21],[0,1,2,3,4,5,6,7,8,9,10,11,12,13,14,15,16,17,18,19,20,21,22],[0,1,2,3,4,5,6,7,8,9,10,11,12,13,14,15,16,17,18,19,20,21,22,23],[0,1,2,3,4,5,6,7,8,9,10,11,12,13,14,15,16,17,18,19,20,21,22,23,24],[0,1,2,3,4,5,6,7,8,9,10,11,12,13,14,15,16,17,18,19,20,21,22,23,24],[0,1,2,3,4,5,6,7,8,9,10,11,12,13,14,15,16,17,18,19,20,21,22,23,24,25,26],[0,1,2,3,4,5,6,7,8,9,10,11,12,13,14,15,16,17,18,19,20,21,22,23,24,25,26,27],[0,1,2,3,4,5,6,7,8,9,10,11,12,13,14,15,16,17,18,19,20,21,22,23,24,25,26,27,28],[0,1,2,3,4,5,6,7,8,9,10,11,12,13,14,15,16,17,18,19,20,21,22,23,24],[0,1,2,3,4,5,6,7,8,9,10,11,12,13,14,15,16,17,18,19,20,21,22,23,24],[0,1,2,3,4,5,6,7,8,9,10,11,12,13,14,15,16,17,18,19,20,21,22,23,24,30,31],[0,1,2,3,4,5,6,7,8,9,10,11,12,13,14,15,16,17,18,19,20,21,22,23,24,30,31,32],[0,1,2,3,4,5,6,7,8,9,10,11,12,13,14,15,16,17,18,19,20,21,22,23,24,30,31,32,33],[0,1,2,3,4,5,6,7,8,9,10,11,12,13,14,15,16,17,18,19,20,21,22,23,24,25,26,27,28,29,30,31,32,33,34],[0,1,2,3,4,5,6,7,8,9,10,11,12,13,14,15,16,17,18,19,20,21,22,23,24,25,26,27,28,29,30,31,32,33,34,35],[0,1,2,3,4,5,6,7,8,9,10,11,12,13,14,15,16,17,18,19,20,21,22,23,24,25,26,27,28,29,30,31,32,33,34,35,36],[0,1,2,3,4,5,6,7,8,9,10,11,12,13,14,15,16,17,18,19,20,21,22,23,24,25,26,27,28,29,30,31,32,33,34,35,36,37],[0,1,2,3,4,5,6,7,8,9,10,11,12,13,14,15,16,17,18,19,20,21,22,23,24,25,26,27,28,29,30,31,32,33,34,35,36,37,38],[0,1,2,3,4,5,6,7,8,9,10,11,12,13,14,15,16,17,18,19,20,21,22,23,24,25,26,27,28,29,30,31,32,33,34,35,36,37,38,39],[0,1,2,3,4,5,6,7,8,9,10,11,12,13,14,15,16,17,18,19,20,21,22,23,24,25,26,27,28,29,30,31,32,33,34,35,36,37,38,39],[0,1,2,3,4,5,6,7,8,9,10,11,12,13,14,15,16,17,18,19,20,21,22,23,24,25,26,27,28,29,30,31,32,33,34,35,36,37,38,39,40,41],[0,1,2,3,4,5,6,7,8,9,10,11,12,13,14,15,16,17,18,19,20,21,22,23,24,25,26,27,28,29,30,31,32,33,34,35,36,37,38,39,40,41,42],[0,1,2,3,4,5,6,7,8,9,10,11,12,13,14,15,16,17,18,19,20,21,22,23,24,25,26,27,28,29,30,31,32,33,34,35,36,37,38,39,40,41,42,43],[0,1,2,3,4,5,6,7,8,9,10,11,12,13,14,15,16,17,18,19,20,21,22,23,24,25,26,27,28,29,30,31,32,33,34,35,36,37,38,39],[0,1,2,3,4,5,6,7,8,9,10,11,12,13,14,15,16,17,18,19,20,21,22,23,24,25,26,27,28,29,30,31,32,33,34,35,36,37,38,39],[0,1,2,3,4,5,6,7,8,9,10,11,12,13,14,15,16,17,18,19,20,21,22,23,24,25,26,27,28,29,30,31,32,33,34,35,36,37,38,39,45,46],[0,1,2,3,4,5,6,7,8,9,10,11,12,13,14,15,16,17,18,19,20,21,22,23,24,25,26,27,28,29,30,31,32,33,34,35,36,37,38,39,45,46,47],[0,1,2,3,4,5,6,7,8,9,10,11,12,13,14,15,16,17,18,19,20,21,22,23,24,25,26,27,28,29,30,31,32,33,34,35,36,37,38,39,45,46,47,48],[0,1,2,3,4,5,6,7,8,9,10,11,12,13,14,15,16,17,18,19,20,21,22,23,24,25,26,27,28,29,30,31,32,33,34,35,36,37,38,39,40,41,42,43,44,45,46,47,48,49],[0,1,2,3,4,5,6,7,8,9,10,11,12,13,14,15,16,17,18,19,20,21,22,23,24,25,26,27,28,29,30,31,32,33,34,35,36,37,38,39,40,41,42,43,44,45,46,47,48,49,50],[0,1,2,3,4,5,6,7,8,9,10,11,12,13,14,15,16,17,18,19,20,21,22,23,24,25,26,27,28,29,30,31,32,33,34,35,36,37,38,39,40,41,42,43,44,45,46,47,48,49,50,51]]
abbrev nlTo1_8 : List (List Nat) := [[],[],[0],[0,2],[0,2,3],[],[],[5],[5,7],[5,7,8],[0,2,3,5,7,8],[0,2,3,5,7,8],[0,2,3,5,7,8],[0,2,3,5,7,8],[0,2,3,5,7,8,12],[0,2,3,5,7,8,12,14],[0,2,3,5,7,8,12,14,15],[0,2,3,5,7,8],[0,2,3,5,7,8],[0,2,3,5,7,8,17],[0,2,3,5,7,8,17,19],[0,2,3,5,7,8,17,19,20],[0,2,3,5,7,8,12,14,15,17,19,20],[0,2,3,5,7,8,12,14,15,17,19,20],[0,2,3,5,7,8,12,14,15,17,19,20],[0,2,3,5,7,8,12,14,15,17,19,20],[0,2,3,5,7,8,12,14,15,17,19,20],[0,2,3,5,7,8,12,14,15,17,19,20],[0,2,3,5,7,8,12,14,15,17,19,20],[0,2,3,5,7,8,12,14,15,17,19,20],[0,2,3,5,7,8,12,14,15,17,19,20],[0,2,3,5,7,8,12,14,15,17,19,20],[0,2,3,5,7,8,12,14,15,17,19,20],[0,2,3,5,7,8,12,14,15,17,19,20],[0,2,3,5,7,8,12,14,15,17,19,20],[0,2,3,5,7,8,12,14,15,17,19,20],[0,2,3,5,7,8,12,14,15,17,19,20],[0,2,3,5,7,8,12,14,15,17,19,20],[0,2,3,5,7,8,12,14,15,17,19,20],[0,2,3,5,7,8,12,14,15,17,19,20],[0,2,3,5,7,8,12,14,15,17,19,20],[0,2,3,5,7,8,12,14,15,17,19,20],[0,2,3,5,7,8,12,14,15,17,19,20],[0,2,3,5,7,8,12,14,15,17,19,20],[0,2,3,5,7,8,12,14,15,17,19,20],[0,2,3,5,7,8,12,14,15,17,19,20],[0,2,3,5,7,8,12,14,15,17,19,20],[0,2,3,5,7,8,12,14,15,17,19,20],[0,2,3,5,7,8,12,14,15,17,19,20],[0,2,3,5,7,8,12,14,15,17,19,20]]
abbrev nlTo1_9 : List (List Nat) := [[],[],[0],[0,2],[0,2,3],[],[],[5],[5,7],[5,7,8],[0,2,3,5,7,8],[0,2,3,5,7,8],[0,2,3,5,7,8],[0,2,3,5,7,8],[0,2,3,5,7,8,12],[0,2,3,5,7,8,12,14],[0,2,3,5,7,8,12,14,15],[0,2,3,5,7,8],[0,2,3,5,7,8],[0,2,3,5,7,8,17],[0,2,3,5,7,8,17,19],[0,2,3,5,7,8,17,19,20],[0,2,3,5,7,8,12,14,15,17,19,20],[0,2,3,5,7,8,12,14,15,17,19,20],[0,2,3,5,7,8,12,14,15,17,19,20],[0,2,3,5,7,8,12,14,15,17,19,20],[0,2,3,5,7,8,12,14,15,17,19,20],[0,2,3,5,7,8,12,14,15,17,19,20,25],[0,2,3,5,7,8,12,14,15,17,19,20,25,27],[0,2,3,5,7,8,12,14,15,17,19,20,25,27,28],[0,2,3,5,7,8,12,14,15,17,19,20],[0,2,3,5,7,8,12,14,15,17,19,20],[0,2,3,5,7,8,12,14,15,17,19,20,30],[0,2,3,5,7,8,12,14,15,17,19,20,30,32],[0,2,3,5,7,8,12,14,15,17,19,20,30,32,33],[0,2,3,5,7,8,12,14,15,17,19,20,25,27,28,30,32,33],[0,2,3,5,7,8,12,14,15,17,19,20,25,27,28,30,32,33],[0,2,3,5,7,8,12,14,15,17,19,20,25,27,28,30,32,33],[0,2,3,5,7,8,12,14,15,17,19,20,25,27,28,30,32,33],[0,2,3,5,7,8,12,14,15,17,19,20,25,27,28,30,32,33],[0,2,3,5,7,8,12,14,15,17,19,20,25,27,28,30,32,33],[0,2,3,5,7,8,12,14,15,17,19,20,25,27,28,30,32,33],[0,2,3,5,7,8,12,14,15,17,19,20,25,27,28,30,32,33],[0,2,3,5,7,8,12,14,15,17,19,20,25,27,28,30,32,33],[0,2,3,5,7,8,12,14,15,17,19,20,25,27,28,30,32,33],[0,2,3,5,7,8,12,14,15,17,19,20,25,27,28,30,32,33],[0,2,3,5,7,8,12,14,15,17,19,20,25,27,28,30,32,33],[0,2,3,5,7,8,12,14,15,17,19,20,25,27,28,30,32,33],[0,2,3,5,7,8,12,14,15,17,19,20,25,27,28,30,32,33],[0,2,3,5,7,8,12,14,15,17,19,20,25,27,28,30,32,33]]
abbrev nlTo1_10 : List (List Nat) := [[],[],[0],[0,2],[0,2,3],[],[],[5],[5,7],[5,7,8],[0,2,3,5,7,8],[0,2,3,5,7,8],[0,2,3,5,7,8],[0,2,3,5,7,8],[0,2,3,5,7,8,12],[0,2,3,5,7,8,12,14],[0,2,3,5,7,8,12,14,15],[0,2,3,5,7,8],[0,2,3,5,7,8],[0,2,3,5,7,8,17],[0,2,3,5,7,8,17,19],[0,2,3,5,7,8,17,19,20],[0,2,3,5,7,8,12,14,15,17,19,20],[0,2,3,5,7,8,12,14,15,17,19,20],[0,2,3,5,7,8,12,14,15,17,19,20],[0,2,3,5,7,8,12,14,15,17,19,20],[0,2,3,5,7,8,12,14,15,17,19,20],[0,2,3,5,7,8,12,14,15,17,19,20,25],[0,2,3,5,7,8,12,14,15,17,19,20,25,27],[0,2,3,5,7,8,12,14,15,17,19,20,25,27,28],[0,2,3,5,7,8,12,14,15,17,19,20],[0,2,3,5,7,8,12,14,15,17,19,20],[0,2,3,5,7,8,12,14,15,17,19,20,30],[0,2,3,5,7,8,12,14,15,17,19,20,30,32],[0,2,3,5,7,8,12,14,15,17,19,20,30,32,33],[0,2,3,5,7,8,12,14,15,17,19,20,25,27,28,30,32,33],[0,2,3,5,7,8,12,14,15,17,19,20,25,27,28,30,32,33],[0,2,3,5,7,8,12,14,15,17,19,20,25,27,28,30,32,33],[0,2,3,5,7,8,12,14,15,17,19,20,25,27,28,30,32,33],[0,2,3,5,7,8,12,14,15,17,19,20,25,27,28,30,32,33],[0,2,3,5,7,8,12,14,15,17,19,20,25,27,28,30,32,33],[0,2,3,5,7,8,12,14,15,17,19,20,25,27,28,30,32,33],[0,2,3,5,7,8,12,14,15,17,19,20,25,27,28,30,32,33,40],[0,2,3,5,7,8,12,14,15,17,19,20,25,27,28,30,32,33,40,42],[0,2,3,5,7,8,12,14,15,17,19,20,25,27,28,30,32,33,40,42,43],[0,2,3,5,7,8,12,14,15,17,19,20,25,27,28,30,32,33],[0,2,3,5,7,8,12,14,15,17,19,20,25,27,28,30,32,33],[0,2,3,5,7,8,12,14,15,17,19,20,25,27,28,30,32,33,45],[0,2,3,5,7,8,12,14,15,17,19,20,25,27,28,30,32,33,45,47],[0,2,3,5,7,8,12,14,15,17,19,20,25,27,28,30,32,33,45,47,48]]
noncomputable def r10_Same (a0 : List TApiToken) (a1 : List TApiToken) (a2 : Bool) : Option (Bool) :=
  (bif ((a0.length : Int) != (a1.length : Int)) then some false else (Option.bind (α := (Unit) ⊕ (Bool)) (loopM (fun (s90 : Int) => (bif (decide (s90 < (a0.length : Int))) then (Option.bind (α := Bool) ((idx a0 s90).bind fun x161 => ((idx a1 s90).bind fun x162 => (bif (x161.gKind != x162.gKind) then some true else ((idx a0 s90).bind fun x164 => ((idx a1 s90).bind fun x165 => (bif (!decide (x164.gText = x165.gText)) then some true else ((idx a0 s90).bind fun x167 => ((idx a1 s90).bind fun x168 => (bif (x167.gN != x168.gN) then some true else (bif a2 then ((idx a0 s90).bind fun x171 => ((idx a1 s90).bind fun x172 => some (x171.gAt != x172.gAt))) else some false)))))))))) fun y160 => (bif y160 then some (.done (.inr false)) else some (.next (IntKind.i64.wrap (s90 + (1 : Int)))))) else some (.done (.inl ())))) (0 : Int)) (Sum.elim (fun y89 => some true) (fun r => some r))))
set_option maxRecDepth 100000 in
set_option maxHeartbeats 2000000 in
theorem r10_Same_ok (a0 : List TApiToken) (a1 : List TApiToken) (a2 : Bool) (r : Bool) (h0 : r10_Same a0 a1 a2 = some r) : CallsD Try.prog 8 [.lst 4 (a0.map eTApiToken) .no, .lst 4 (a1.map eTApiToken) .no, .v (.bool a2)] [] [] (fun d h k => d = .v (.bool r) ∧ h = [] ∧ k = []) := by
  have hm := yes_of h0
  unfold r10_Same at hm
  clear h0
  refine enterX htab Try.func8 rfl rfl rfl rfl rfl (fun C => ?_)
  refine wpD_sr ?_
  refine pu ?_
  refine ops_nt ?_
  refine wpD_seq ?_
  refine wpD_sr ?_
  refine pu ?_
  refine p_lenL htab rfl rfl rfl rfl rfl rfl rfl (by first | exact map_len | rfl) ?_
  refine pu ?_
  refine p_lenL htab rfl rfl rfl rfl rfl rfl rfl (by first | exact map_len | rfl) ?_
  refine pu ?_
  refine ops_nt ?_
  refine wpD_cond rfl (fun hc2 => ?_) (fun hc2 => ?_)
  ·replace hm := yes_t hc2 hm
   refine wpD_sr ?_
   refine pu ?_
   refine ops_nt ?_
   refine wpD_ret ?_
   refine then_ret ?_
   have er3 := yes_eq hm; subst er3
   refine rP (t' := [(6, .v (.bool false))]) [] [] 0 (wC wN) (lT lN) ?_
   exact ⟨rfl, rfl, rfl⟩
  ·replace hm := yes_f hc2 hm
   refine wpD_skip ?_
   refine then_normal ?_
   refine wpD_seq ?_
   refine wpD_sr ?_
   refine pu ?_
   refine ops_nt ?_
   obtain ⟨x89, q89, ho89⟩ := yes_bind hm
   refine wpD_midX (τ := Unit) (Y := Unit) (fun y89 z89 => (⟨[], [], []⟩ : S)) x89 ?_ ?_
   ·clear hm; have hm := yes_of q89
    refine wpD_block ?_
    obtain ⟨u90, hl90, hq90⟩ := yes_m hm
    refine loop_M (Y := Unit) hl90 (fun s90 z90 => (⟨[(0, .lst 4 (a0.map eTApiToken) .no), (1, .lst 4 (a1.map eTApiToken) .no), (2, .v (.bool a2)), (7, .v (.int .i64 s90))], [], []⟩ : S)) ?_ ?_
    ·skip
     exact WkX.of () (WkS.perm (WkS.cons rfl (Wk.refl _) (WkS.cons rfl (Wk.refl _) (WkS.cons rfl (Wk.refl _) (WkS.cons rfl (Wk.refl _) (WkS.nil))))) Pf Pf)
    ·intro G90 s90 z90 hm
     refine wpD_seq ?_
     refine wpD_sr ?_
     refine pu ?_
     refine pu ?_
     refine p_lenL htab rfl rfl rfl rfl rfl rfl rfl (by first | exact map_len | rfl) ?_
     refine pu ?_
     refine ops_nt ?_
     refine wpD_cond rfl (fun hc147 => ?_) (fun hc147 => ?_)
     ·replace hm := yes_t hc147 hm
      refine wpD_skip ?_
      refine then_normal ?_
      refine wpD_seq ?_
      refine wpD_block ?_
      refine wpD_seq ?_
      obtain ⟨y160, q160, ho160⟩ := yes_bind hm
      refine wpD_mid (Y := Unit) (fun z160 => (⟨[(0, .lst 4 (a0.map eTApiToken) .no), (1, .lst 4 (a1.map eTApiToken) .no), (2, .v (.bool a2)), (7, .v (.int .i64 s90)), (71, .v (.bool y160))], [], []⟩ : S)) ?_ ?_
      ·clear hm; have hm := yes_of q160
       obtain ⟨x161, q161, hm⟩ := yes_bind hm
       obtain ⟨x162, q162, hm⟩ := yes_bind hm
       refine bycB (x161.gKind != x162.gKind) (fun hs163 => ?_) (fun hs163 => ?_)
       ·replace hm := yes_t hs163 hm
        refine wpD_draws 50 [] nlTo1_6 [0,2,3,5,7,8] nlTo1_7 (by kernel_rfl) (by kernel_rfl) (by kernel_rfl) (by rfl) (by rfl) (by kernel_rfl) ?_
        iterate 6 apply Exists.intro
        intro bs
        refine zep ?_
        refine zqp ?_
        refine z_e rfl rfl (x_elem htab rfl rfl rfl rfl rfl rfl rfl (idx_nonneg q161) (idx_map q161)) rfl rfl rfl rfl rfl rfl ?_
        refine zep ?_
        refine z_qM rfl rfl (xm_loadEl htab rfl rfl rfl rfl rfl) rfl rfl rfl rfl rfl rfl ?_
        refine zep ?_
        refine zqp ?_
        refine z_e rfl rfl (x_elem htab rfl rfl rfl rfl rfl rfl rfl (idx_nonneg q162) (idx_map q162)) rfl rfl rfl rfl rfl rfl ?_
        refine zep ?_
        refine z_qM rfl rfl (xm_loadEl htab rfl rfl rfl rfl rfl) rfl rfl rfl rfl rfl rfl ?_
        refine zqp ?_
        refine zqp ?_
        refine z_known (j := 30) (b' := true) rfl hs163 ?_
        iterate 11 refine zK ?_
        refine z_q rfl rfl (x_pickT rfl rfl rfl) rfl rfl rfl rfl rfl rfl ?_
        refine zqp ?_
        iterate 11 refine zK ?_
        refine z_q rfl rfl (x_pickT rfl rfl rfl) rfl rfl rfl rfl rfl rfl ?_
        refine zqp ?_
        iterate 12 refine zK ?_
        refine z_nil rfl rfl (fun e he => by simp [isAl] at he) ?_
        refine pK ?_
        refine pK ?_
        refine p_pickT rfl rfl rfl rfl rfl rfl ?_
        refine ops_nil ?_
        have e160 := yes_eq hm; subst e160
        refine ⟨rfl, ?_⟩
        exact WkX.of () (WkS.perm (WkS.cons rfl (Wk.refl _) (WkS.cons rfl (Wk.refl _) (WkS.cons rfl (Wk.refl _) (WkS.cons rfl (Wk.refl _) (WkS.cons rfl (Wk.refl _) (WkS.nil)))))) Pf Pf)
       ·replace hm := yes_f hs163 hm
        obtain ⟨x164, q164, hm⟩ := yes_bind hm
        obtain ⟨x165, q165, hm⟩ := yes_bind hm
        refine bycB (!decide (x164.gText = x165.gText)) (fun hs166 => ?_) (fun hs166 => ?_)
        ·replace hm := yes_t hs166 hm
         refine wpD_draws 50 [] nlTo1_8 [0,2,3,5,7,8,12,14,15,17,19,20] nlTo1_7 (by kernel_rfl) (by kernel_rfl) (by kernel_rfl) (by rfl) (by rfl) (by kernel_rfl) ?_
         iterate 12 apply Exists.intro
         intro bs
         refine zep ?_
         refine zqp ?_
         refine z_e rfl rfl (x_elem htab rfl rfl rfl rfl rfl rfl rfl (idx_nonneg q161) (idx_map q161)) rfl rfl rfl rfl rfl rfl ?_
         refine zep ?_
         refine z_qM rfl rfl (xm_loadEl htab rfl rfl rfl rfl rfl) rfl rfl rfl rfl rfl rfl ?_
         refine zep ?_
         refine zqp ?_
         refine z_e rfl rfl (x_elem htab rfl rfl rfl rfl rfl rfl rfl (idx_nonneg q162) (idx_map q162)) rfl rfl rfl rfl rfl rfl ?_
         refine zep ?_
         refine z_qM rfl rfl (xm_loadEl htab rfl rfl rfl rfl rfl) rfl rfl rfl rfl rfl rfl ?_
         refine zqp ?_
         refine zqp ?_
         refine z_known (j := 30) (b' := false) rfl hs163 ?_
         refine zep ?_
         refine zqp ?_
         refine z_e rfl rfl (x_elem htab rfl rfl rfl rfl rfl rfl rfl (idx_nonneg q164) (idx_map q164)) rfl rfl rfl rfl rfl rfl ?_
         refine zep ?_
         refine z_qM rfl rfl (xm_loadEl htab rfl rfl rfl rfl rfl) rfl rfl rfl rfl rfl rfl ?_
         refine zep ?_
         refine zqp ?_
         refine z_e rfl rfl (x_elem htab rfl rfl rfl rfl rfl rfl rfl (idx_nonneg q165) (idx_map q165)) rfl rfl rfl rfl rfl rfl ?_
         refine zep ?_
         refine z_qM rfl rfl (xm_loadEl htab rfl rfl rfl rfl rfl) rfl rfl rfl rfl rfl rfl ?_
         refine zqp ?_
         refine z_q rfl rfl (x_pickF rfl rfl rfl) rfl rfl rfl rfl rfl rfl ?_
         refine zqp ?_
         refine z_known (j := 43) (b' := true) rfl hs166 ?_
         iterate 11 refine zK ?_
         refine z_q rfl rfl (x_pickT rfl rfl rfl) rfl rfl rfl rfl rfl rfl ?_
         refine zqp ?_
         iterate 12 refine zK ?_
         refine z_nil rfl rfl (fun e he => by simp [isAl] at he) ?_
         refine pK ?_
         refine pK ?_
         refine p_pickT rfl rfl rfl rfl rfl rfl ?_
         refine ops_nil ?_
         have e160 := yes_eq hm; subst e160
         refine ⟨rfl, ?_⟩
         exact WkX.of () (WkS.perm (WkS.cons rfl (Wk.refl _) (WkS.cons rfl (Wk.refl _) (WkS.cons rfl (Wk.refl _) (WkS.cons rfl (Wk.refl _) (WkS.cons rfl (Wk.refl _) (WkS.nil)))))) Pf Pf)
        ·replace hm := yes_f hs166 hm
         obtain ⟨x167, q167, hm⟩ := yes_bind hm
         obtain ⟨x168, q168, hm⟩ := yes_bind hm
         refine bycB (x167.gN != x168.gN) (fun hs169 => ?_) (fun hs169 => ?_)
         ·replace hm := yes_t hs169 hm
          refine wpD_draws 50 [] nlTo1_9 [0,2,3,5,7,8,12,14,15,17,19,20,25,27,28,30,32,33] nlTo1_7 (by kernel_rfl) (by kernel_rfl) (by kernel_rfl) (by rfl) (by rfl) (by kernel_rfl) ?_
          iterate 18 apply Exists.intro
          intro bs
          refine zep ?_
          refine zqp ?_
          refine z_e rfl rfl (x_elem htab rfl rfl rfl rfl rfl rfl rfl (idx_nonneg q161) (idx_map q161)) rfl rfl rfl rfl rfl rfl ?_
          refine zep ?_
          refine z_qM rfl rfl (xm_loadEl htab rfl rfl rfl rfl rfl) rfl rfl rfl rfl rfl rfl ?_
          refine zep ?_
          refine zqp ?_
          refine z_e rfl rfl (x_elem htab rfl rfl rfl rfl rfl rfl rfl (idx_nonneg q162) (idx_map q162)) rfl rfl rfl rfl rfl rfl ?_
          refine zep ?_
          refine z_qM rfl rfl (xm_loadEl htab rfl rfl rfl rfl rfl) rfl rfl rfl rfl rfl rfl ?_
          refine zqp ?_
          refine zqp ?_
          refine z_known (j := 30) (b' := false) rfl hs163 ?_
          refine zep ?_
          refine zqp ?_
          refine z_e rfl rfl (x_elem htab rfl rfl rfl rfl rfl rfl rfl (idx_nonneg q164) (idx_map q164)) rfl rfl rfl rfl rfl rfl ?_
          refine zep ?_
          refine z_qM rfl rfl (xm_loadEl htab rfl rfl rfl rfl rfl) rfl rfl rfl rfl rfl rfl ?_
          refine zep ?_
          refine zqp ?_
          refine z_e rfl rfl (x_elem htab rfl rfl rfl rfl rfl rfl rfl (idx_nonneg q165) (idx_map q165)) rfl rfl rfl rfl rfl rfl ?_
          refine zep ?_
          refine z_qM rfl rfl (xm_loadEl htab rfl rfl rfl rfl rfl) rfl rfl rfl rfl rfl rfl ?_
          refine zqp ?_
          refine z_q rfl rfl (x_pickF rfl rfl rfl) rfl rfl rfl rfl rfl rfl ?_
          refine zqp ?_
          refine z_known (j := 43) (b' := false) rfl hs166 ?_
          refine zep ?_
          refine zqp ?_
          refine z_e rfl rfl (x_elem htab rfl rfl rfl rfl rfl rfl rfl (idx_nonneg q167) (idx_map q167)) rfl rfl rfl rfl rfl rfl ?_
          refine zep ?_
          refine z_qM rfl rfl (xm_loadEl htab rfl rfl rfl rfl rfl) rfl rfl rfl rfl rfl rfl ?_
          refine zep ?_
          refine zqp ?_
          refine z_e rfl rfl (x_elem htab rfl rfl rfl rfl rfl rfl rfl (idx_nonneg q168) (idx_map q168)) rfl rfl rfl rfl rfl rfl ?_
          refine zep ?_
          refine z_qM rfl rfl (xm_loadEl htab rfl rfl rfl rfl rfl) rfl rfl rfl rfl rfl rfl ?_
          refine zqp ?_
          refine z_q rfl rfl (x_pickF rfl rfl rfl) rfl rfl rfl rfl rfl rfl ?_
          refine zqp ?_
          refine z_known (j := 56) (b' := true) rfl hs169 ?_
          iterate 12 refine zK ?_
          refine z_nil rfl rfl (fun e he => by simp [isAl] at he) ?_
          refine pK ?_
          refine pK ?_
          refine p_pickT rfl rfl rfl rfl rfl rfl ?_
          refine ops_nil ?_
          have e160 := yes_eq hm; subst e160
          refine ⟨rfl, ?_⟩
          exact WkX.of () (WkS.perm (WkS.cons rfl (Wk.refl _) (WkS.cons rfl (Wk.refl _) (WkS.cons rfl (Wk.refl _) (WkS.cons rfl (Wk.refl _) (WkS.cons rfl (Wk.refl _) (WkS.nil)))))) Pf Pf)
         ·replace hm := yes_f hs169 hm
          refine bycB a2 (fun hs170 => ?_) (fun hs170 => ?_)
          ·replace hm := yes_t hs170 hm
           obtain ⟨x171, q171, hm⟩ := yes_bind hm
           obtain ⟨x172, q172, hm⟩ := yes_bind hm
           refine wpD_draws 50 [] nlTo1_10 [0,2,3,5,7,8,12,14,15,17,19,20,25,27,28,30,32,33,40,42,43,45,47,48] nlTo1_7 (by kernel_rfl) (by kernel_rfl) (by kernel_rfl) (by rfl) (by rfl) (by kernel_rfl) ?_
           iterate 24 apply Exists.intro
           intro bs
           refine zep ?_
           refine zqp ?_
           refine z_e rfl rfl (x_elem htab rfl rfl rfl rfl rfl rfl rfl (idx_nonneg q161) (idx_map q161)) rfl rfl rfl rfl rfl rfl ?_
           refine zep ?_
           refine z_qM rfl rfl (xm_loadEl htab rfl rfl rfl rfl rfl) rfl rfl rfl rfl rfl rfl ?_
           refine zep ?_
           refine zqp ?_
           refine z_e rfl rfl (x_elem htab rfl rfl rfl rfl rfl rfl rfl (idx_nonneg q162) (idx_map q162)) rfl rfl rfl rfl rfl rfl ?_
           refine zep ?_
           refine z_qM rfl rfl (xm_loadEl htab rfl rfl rfl rfl rfl) rfl rfl rfl rfl rfl rfl ?_
           refine zqp ?_
           refine zqp ?_
           refine z_known (j := 30) (b' := false) rfl hs163 ?_
           refine zep ?_
           refine zqp ?_
           refine z_e rfl rfl (x_elem htab rfl rfl rfl rfl rfl rfl rfl (idx_nonneg q164) (idx_map q164)) rfl rfl rfl rfl rfl rfl ?_
           refine zep ?_
           refine z_qM rfl rfl (xm_loadEl htab rfl rfl rfl rfl rfl) rfl rfl rfl rfl rfl rfl ?_
           refine zep ?_
           refine zqp ?_
           refine z_e rfl rfl (x_elem htab rfl rfl rfl rfl rfl rfl rfl (idx_nonneg q165) (idx_map q165)) rfl rfl rfl rfl rfl rfl ?_
           refine zep ?_
           refine z_qM rfl rfl (xm_loadEl htab rfl rfl rfl rfl rfl) rfl rfl rfl rfl rfl rfl ?_
           refine zqp ?_
           refine z_q rfl rfl (x_pickF rfl rfl rfl) rfl rfl rfl rfl rfl rfl ?_
           refine zqp ?_
           refine z_known (j := 43) (b' := false) rfl hs166 ?_
           refine zep ?_
           refine zqp ?_
           refine z_e rfl rfl (x_elem htab rfl rfl rfl rfl rfl rfl rfl (idx_nonneg q167) (idx_map q167)) rfl rfl rfl rfl rfl rfl ?_
           refine zep ?_
           refine z_qM rfl rfl (xm_loadEl htab rfl rfl rfl rfl rfl) rfl rfl rfl rfl rfl rfl ?_
           refine zep ?_
           refine zqp ?_
           refine z_e rfl rfl (x_elem htab rfl rfl rfl rfl rfl rfl rfl (idx_nonneg q168) (idx_map q168)) rfl rfl rfl rfl rfl rfl ?_
           refine zep ?_
           refine z_qM rfl rfl (xm_loadEl htab rfl rfl rfl rfl rfl) rfl rfl rfl rfl rfl rfl ?_
           refine zqp ?_
           refine z_q rfl rfl (x_pickF rfl rfl rfl) rfl rfl rfl rfl rfl rfl ?_
           refine zqp ?_
           refine z_known (j := 56) (b' := false) rfl hs169 ?_
           refine zqp ?_
           refine zqp ?_
           refine z_known (j := 58) (b' := true) rfl hs170 ?_
           refine zep ?_
           refine zqp ?_
           refine z_e rfl rfl (x_elem htab rfl rfl rfl rfl rfl rfl rfl (idx_nonneg q171) (idx_map q171)) rfl rfl rfl rfl rfl rfl ?_
           refine zep ?_
           refine z_qM rfl rfl (xm_loadEl htab rfl rfl rfl rfl rfl) rfl rfl rfl rfl rfl rfl ?_
           refine zep ?_
           refine zqp ?_
           refine z_e rfl rfl (x_elem htab rfl rfl rfl rfl rfl rfl rfl (idx_nonneg q172) (idx_map q172)) rfl rfl rfl rfl rfl rfl ?_
           refine zep ?_
           refine z_qM rfl rfl (xm_loadEl htab rfl rfl rfl rfl rfl) rfl rfl rfl rfl rfl rfl ?_
           refine z_nil rfl rfl (fun e he => by simp [isAl] at he) ?_
           refine pu ?_
           refine p_pickT rfl rfl rfl rfl rfl rfl ?_
           refine p_pickF rfl rfl rfl rfl rfl rfl ?_
           refine ops_nil ?_
           have e160 := yes_eq hm; subst e160
           refine ⟨rfl, ?_⟩
           exact WkX.of () (WkS.perm (WkS.cons rfl (Wk.refl _) (WkS.cons rfl (Wk.refl _) (WkS.cons rfl (Wk.refl _) (WkS.cons rfl (Wk.refl _) (WkS.cons rfl (Wk.refl _) (WkS.nil)))))) Pf Pf)
          ·replace hm := yes_f hs170 hm
           refine wpD_draws 50 [] nlTo1_9 [0,2,3,5,7,8,12,14,15,17,19,20,25,27,28,30,32,33] nlTo1_7 (by kernel_rfl) (by kernel_rfl) (by kernel_rfl) (by rfl) (by rfl) (by kernel_rfl) ?_
           iterate 18 apply Exists.intro
           intro bs
           refine zep ?_
           refine zqp ?_
           refine z_e rfl rfl (x_elem htab rfl rfl rfl rfl rfl rfl rfl (idx_nonneg q161) (idx_map q161)) rfl rfl rfl rfl rfl rfl ?_
           refine zep ?_
           refine z_qM rfl rfl (xm_loadEl htab rfl rfl rfl rfl rfl) rfl rfl rfl rfl rfl rfl ?_
           refine zep ?_
           refine zqp ?_
           refine z_e rfl rfl (x_elem htab rfl rfl rfl rfl rfl rfl rfl (idx_nonneg q162) (idx_map q162)) rfl rfl rfl rfl rfl rfl ?_
           refine zep ?_
           refine z_qM rfl rfl (xm_loadEl htab rfl rfl rfl rfl rfl) rfl rfl rfl rfl rfl rfl ?_
           refine zqp ?_
           refine zqp ?_
           refine z_known (j := 30) (b' := false) rfl hs163 ?_
           refine zep ?_
           refine zqp ?_
           refine z_e rfl rfl (x_elem htab rfl rfl rfl rfl rfl rfl rfl (idx_nonneg q164) (idx_map q164)) rfl rfl rfl rfl rfl rfl ?_
           refine zep ?_
           refine z_qM rfl rfl (xm_loadEl htab rfl rfl rfl rfl rfl) rfl rfl rfl rfl rfl rfl ?_
           refine zep ?_
           refine zqp ?_
           refine z_e rfl rfl (x_elem htab rfl rfl rfl rfl rfl rfl rfl (idx_nonneg q165) (idx_map q165)) rfl rfl rfl rfl rfl rfl ?_
           refine zep ?_
           refine z_qM rfl rfl (xm_loadEl htab rfl rfl rfl rfl rfl) rfl rfl rfl rfl rfl rfl ?_
           refine zqp ?_
           refine z_q rfl rfl (x_pickF rfl rfl rfl) rfl rfl rfl rfl rfl rfl ?_
           refine zqp ?_
           refine z_known (j := 43) (b' := false) rfl hs166 ?_
           refine zep ?_
           refine zqp ?_
           refine z_e rfl rfl (x_elem htab rfl rfl rfl rfl rfl rfl rfl (idx_nonneg q167) (idx_map q167)) rfl rfl rfl rfl rfl rfl ?_
           refine zep ?_
           refine z_qM rfl rfl (xm_loadEl htab rfl rfl rfl rfl rfl) rfl rfl rfl rfl rfl rfl ?_
           refine zep ?_
           refine zqp ?_
           refine z_e rfl rfl (x_elem htab rfl rfl rfl rfl rfl rfl rfl (idx_nonneg q168) (idx_map q168)) rfl rfl rfl rfl rfl rfl ?_
           refine zep ?_
           refine z_qM rfl rfl (xm_loadEl htab rfl rfl rfl rfl rfl) rfl rfl rfl rfl rfl rfl ?_
           refine zqp ?_
           refine z_q rfl rfl (x_pickF rfl rfl rfl) rfl rfl rfl rfl rfl rfl ?_
           refine zqp ?_
           refine z_known (j := 56) (b' := false) rfl hs169 ?_
           refine zqp ?_
           refine zqp ?_
           refine z_known (j := 58) (b' := false) rfl hs170 ?_
           iterate 10 refine zK ?_
           refine z_nil rfl rfl (fun e he => by simp [isAl] at he) ?_
           refine pK ?_
           refine p_pickF rfl rfl rfl rfl rfl rfl ?_
           refine p_pickF rfl rfl rfl rfl rfl rfl ?_
           refine ops_nil ?_
           have e160 := yes_eq hm; subst e160
           refine ⟨rfl, ?_⟩
           exact WkX.of () (WkS.perm (WkS.cons rfl (Wk.refl _) (WkS.cons rfl (Wk.refl _) (WkS.cons rfl (Wk.refl _) (WkS.cons rfl (Wk.refl _) (WkS.cons rfl (Wk.refl _) (WkS.nil)))))) Pf Pf)
      ·intro s160 hw160; clear hm; have hm := ho160; clear q160 ho160
       refine then_normal ?_
       refine wpD_wkX hw160 (fun z160 => ?_)
       refine wpD_cond rfl (fun hc173 => ?_) (fun hc173 => ?_)
       ·replace hm := yes_t hc173 hm
        refine wpD_sr ?_
        refine pu ?_
        refine ops_nt ?_
        refine wpD_ret ?_
        refine block_ret ?_
        refine then_ret ?_
        have e90 := lp_done hm; subst e90; clear hm; have hm := hq90
        refine then_ret ?_
        refine block_ret ?_
        have e89 := yes_eq hm; subst e89; refine midX_inr ?_; clear hm; have hm := ho89; simp only [Sum.elim_inr] at hm
        refine then_ret ?_
        have er174 := yes_eq hm; subst er174
        refine rP (t' := [(6, .v (.bool false))]) [] [] 0 (wC wN) (lT lN) ?_
        exact ⟨rfl, rfl, rfl⟩
       ·replace hm := yes_f hc173 hm
        refine wpD_skip ?_
        refine block_normal ?_
        refine then_normal ?_
        refine wpD_region ?_
        iterate 3 refine pu ?_
        refine ops_nil ?_
        refine then_normal ⟨_, lp_next hm, ?_⟩
        exact WkX.of () (WkS.perm (WkS.cons rfl (Wk.refl _) (WkS.cons rfl (Wk.refl _) (WkS.cons rfl (Wk.refl _) (WkS.cons rfl (Wk.refl _) (WkS.nil))))) Pf Pf)
     ·replace hm := yes_f hc147 hm
      refine wpD_exit ?_
      refine then_exit ?_
      have e90 := lp_done hm; subst e90; clear hm; have hm := hq90
      refine then_exit ?_
      refine block_hit ?_
      have e89 := yes_eq hm; subst e89
      refine midX_inl ?_
      exact WkX.of () (WkS.perm (WkS.nil) Pf Pf)
   ·intro y89 s89 hx89 hw89; subst hx89; clear hm; have hm := ho89; simp only [Sum.elim_inl] at hm; clear q89 ho89
    refine then_normal ?_
    refine wpD_wkX hw89 (fun z89 => ?_)
    refine wpD_sr ?_
    refine pu ?_
    refine ops_nt ?_
    refine wpD_ret ?_
    have er175 := yes_eq hm; subst er175
    refine rP (t' := [(6, .v (.bool true))]) [] [] 0 (wC wN) (lT lN) ?_
    exact ⟨rfl, rfl, rfl⟩
noncomputable def l10_TokenBack (a0 : List UInt8) : Option (Bool) :=
  ((token_Read a0).bind fun x2 => (bif (x2.2.2 != (0 : Int)) then (Option.bind (α := Bool) (bif ((x2.1.length : Int) == (0 : Int)) then (l10_lives.bind fun x11 => some x11) else some false) fun y9 => some y9) else ((token_Join x2.1).bind fun x13 => ((token_Read x13.data.toList).bind fun x15 => (bif (decide ((20000 : Int) < (x13.size : Int))) then (l10_lives.bind fun x19 => some x19) else (bif (x15.2.2 == (0 : Int)) then ((r10_Same x2.1 x15.1 false).bind fun x22 => (bif x22 then (l10_lives.bind fun x24 => some x24) else some false)) else some false))))))
set_option maxRecDepth 100000 in
set_option maxHeartbeats 2000000 in
theorem l10_TokenBack_ok (a0 : List UInt8) (r : Bool) (h0 : l10_TokenBack a0 = some r) : CallsD Try.prog 4 [.lst 1 (a0.map byteD) .no] [] [] (fun d h k => d = .v (.bool r) ∧ h = [] ∧ k = []) := by
  have hm := yes_of h0
  unfold l10_TokenBack at hm
  clear h0
  refine enterX htab Try.func4 rfl rfl rfl rfl rfl (fun C => ?_)
  refine wpD_sr ?_
  refine pu ?_
  refine ops_n2 ?_
  refine pu ?_
  obtain ⟨x2, q2, hm⟩ := yes_bind hm
  refine pG (token_Read_ok a0 x2 q2) Wl Pf Pf ?_
  rintro _ _ _ ⟨w1, rfl, rfl, rfl⟩
  iterate 7 refine pu ?_
  refine ops_nt ?_
  refine wpD_seq ?_
  refine wpD_sr ?_
  refine pu ?_
  refine pu ?_
  refine ops_nt ?_
  refine wpD_cond rfl (fun hc6 => ?_) (fun hc6 => ?_)
  ·replace hm := yes_t hc6 hm
   refine wpD_seq ?_
   obtain ⟨y9, q9, ho9⟩ := yes_bind hm
   refine wpD_mid (Y := Unit) (fun z9 => (⟨[(2, .v (.bool y9))], [], []⟩ : S)) ?_ ?_
   ·clear hm; have hm := yes_of q9
    refine wpD_region ?_
    refine pu ?_
    refine p_lenL htab rfl rfl rfl rfl rfl rfl rfl (by first | exact map_len | rfl) ?_
    refine pu ?_
    refine pu ?_
    refine p_split (i := 21) rfl (fun hg10 => ?_) (fun hg10 => ?_)
    ·replace hm := yes_t hg10 hm
     obtain ⟨x11, q11, hm⟩ := yes_bind hm
     refine p_call0 (l10_lives_ok x11 q11) rfl rfl rfl rfl rfl Wl ?_
     rintro _ rfl
     refine p_pickT rfl rfl rfl rfl rfl rfl ?_
     refine pu ?_
     refine ops_nil ?_
     have e9 := yes_eq hm; subst e9
     refine ⟨rfl, ?_⟩
     exact WkX.of () (WkS.perm (WkS.cons rfl (Wk.refl _) (WkS.nil)) Pf Pf)
    ·replace hm := yes_f hg10 hm
     refine pK ?_
     refine p_pickF rfl rfl rfl rfl rfl rfl ?_
     refine pu ?_
     refine ops_nil ?_
     have e9 := yes_eq hm; subst e9
     refine ⟨rfl, ?_⟩
     exact WkX.of () (WkS.perm (WkS.cons rfl (Wk.refl _) (WkS.nil)) Pf Pf)
   ·intro s9 hw9; clear hm; have hm := ho9; clear q9 ho9
    refine then_normal ?_
    refine wpD_wkX hw9 (fun z9 => ?_)
    refine wpD_ret ?_
    refine then_ret ?_
    have er12 := yes_eq hm; subst er12
    refine rP (t' := [(2, .v (.bool y9))]) [] [] 0 (wC wN) (lT lN) ?_
    exact ⟨rfl, rfl, rfl⟩
  ·replace hm := yes_f hc6 hm
   refine wpD_skip ?_
   refine then_normal ?_
   refine wpD_sr ?_
   refine pu ?_
   obtain ⟨x13, q13, hm⟩ := yes_bind hm
   refine p_call0 (token_Join_ok x2.1 x13 q13) rfl rfl rfl rfl rfl (WkL.cons (Wk.no) Wl) ?_
   rintro _ rfl
   refine pu ?_
   refine ops_n2 ?_
   refine pu ?_
   refine p_ofStr htab rfl rfl rfl rfl rfl rfl rfl rfl rfl rfl rfl ?_
   obtain ⟨x15, q15, hm⟩ := yes_bind hm
   refine pG (token_Read_ok x13.data.toList x15 q15) Wl Pf Pf ?_
   rintro _ _ _ ⟨w14, rfl, rfl, rfl⟩
   iterate 7 refine pu ?_
   refine ops_nt ?_
   refine wpD_seq ?_
   refine wpD_sr ?_
   refine pu ?_
   refine p_lenS htab rfl rfl rfl rfl rfl rfl rfl rfl ?_
   refine pu ?_
   refine ops_nt ?_
   refine wpD_cond rfl (fun hc18 => ?_) (fun hc18 => ?_)
   ·replace hm := yes_t hc18 hm
    refine wpD_sr ?_
    obtain ⟨x19, q19, hm⟩ := yes_bind hm
    refine p_call0 (l10_lives_ok x19 q19) rfl rfl rfl rfl rfl Wl ?_
    rintro _ rfl
    refine pu ?_
    refine ops_nt ?_
    refine wpD_ret ?_
    refine then_ret ?_
    have er20 := yes_eq hm; subst er20
    refine rP (t' := [(2, .v (.bool x19))]) [] [] 0 (wC wN) (lT lN) ?_
    exact ⟨rfl, rfl, rfl⟩
   ·replace hm := yes_f hc18 hm
    refine wpD_skip ?_
    refine then_normal ?_
    refine wpD_sr ?_
    iterate 3 refine pu ?_
    refine p_split (i := 39) rfl (fun hg21 => ?_) (fun hg21 => ?_)
    ·replace hm := yes_t hg21 hm
     refine pu ?_
     refine pu ?_
     obtain ⟨x22, q22, hm⟩ := yes_bind hm
     refine p_call0 (r10_Same_ok x2.1 x15.1 false x22 q22) rfl rfl rfl rfl rfl (WkL.cons (Wk.no) (WkL.cons (Wk.no) (WkL.cons (Wk.refl _) Wl))) ?_
     rintro _ rfl
     refine p_pickT rfl rfl rfl rfl rfl rfl ?_
     refine pu ?_
     refine p_split (i := 44) rfl (fun hg23 => ?_) (fun hg23 => ?_)
     ·replace hm := yes_t hg23 hm
      obtain ⟨x24, q24, hm⟩ := yes_bind hm
      refine p_call0 (l10_lives_ok x24 q24) rfl rfl rfl rfl rfl Wl ?_
      rintro _ rfl
      refine p_pickT rfl rfl rfl rfl rfl rfl ?_
      refine pu ?_
      refine ops_nt ?_
      refine wpD_ret ?_
      have er25 := yes_eq hm; subst er25
      refine rP (t' := [(2, .v (.bool x24))]) [] [] 0 (wC wN) (lT lN) ?_
      exact ⟨rfl, rfl, rfl⟩
     ·replace hm := yes_f hg23 hm
      refine pK ?_
      refine p_pickF rfl rfl rfl rfl rfl rfl ?_
      refine pu ?_
      refine ops_nt ?_
      refine wpD_ret ?_
      have er26 := yes_eq hm; subst er26
      refine rP (t' := [(2, .v (.bool false))]) [] [] 0 (wC wN) (lT lN) ?_
      exact ⟨rfl, rfl, rfl⟩
    ·replace hm := yes_f hg21 hm
     iterate 3 refine pK ?_
     refine p_pickF rfl rfl rfl rfl rfl rfl ?_
     refine pu ?_
     refine pK ?_
     refine p_pickF rfl rfl rfl rfl rfl rfl ?_
     refine pu ?_
     refine ops_nt ?_
     refine wpD_ret ?_
     have er27 := yes_eq hm; subst er27
     refine rP (t' := [(2, .v (.bool false))]) [] [] 0 (wC wN) (lT lN) ?_
     exact ⟨rfl, rfl, rfl⟩
end Go.Proofs.Ytnjeklpjjceppaa.Ab
namespace Go.Proofs.Ytnjeklpjjceppaa.Ab.Pq
open Go
set_option linter.all false
abbrev Tok := TApiToken
theorem winc {i : Nat} (h : i ≤ 4000000) : IntKind.i64.wrap ((i : Int) + 1) = ((i + 1 : Nat) : Int) := by rw [wrap_id (by omega) (by omega)]; omega
end Go.Proofs.Ytnjeklpjjceppaa.Ab.Pq
namespace Go.Proofs.Ytnjeklpjjceppaa.Ab.Pq
open Go
set_option linter.all false
def Tot {α : Type} (m : Option α) : Prop := ∃ r, m = some r
theorem Tot.some {α : Type} (a : α) : Tot (Option.some a) := ⟨a, rfl⟩
theorem Tot.bind {α β : Type} {m : Option α} {f : α → Option β} (h : Tot m) (k : ∀ a, Tot (f a)) : Tot (m.bind f) := by
  obtain ⟨a, rfl⟩ := h
  exact k a
theorem Tot.cond {α : Type} {c : Bool} {m n : Option α} (h : Tot m) (k : Tot n) : Tot (bif c then m else n) := by
  cases c
  · exact k
  · exact h
theorem Tot.get {α : Type} {m : Option α} (h : Tot m) (z : α) : m = Option.some (m.getD z) := by obtain ⟨a, rfl⟩ := h; rfl
theorem kind_tot (c : Int) : Tot (token_kind c) := by
  unfold token_kind
  repeat (first | exact Tot.some _ | refine Tot.bind ?_ (fun _ => ?_) | refine Tot.cond ?_ ?_)
noncomputable def kd (c : UInt8) : Int := (token_kind (IntKind.i32.wrap (c.toNat : Int))).getD 0
theorem kind_eq (c : UInt8) : token_kind (IntKind.i32.wrap (c.toNat : Int)) = some (kd c) := (kind_tot _).get 0
noncomputable def dg (w : Bool) (c : UInt8) : Bool := kd c == 3 || (w && kd c == 2)
noncomputable def spn (w : Bool) (r : List UInt8) : Nat := (r.takeWhile (dg w)).length
theorem spn_le (w : Bool) (r : List UInt8) : spn w r ≤ r.length := by unfold spn; exact (List.takeWhile_sublist _).length_le
def rt (b : List UInt8) (a : Nat) (l : List Tok) : TTokenReader := ⟨b, (a : Int), l⟩
theorem drop_at {b : List UInt8} {a : Nat} {c : UInt8} {r : List UInt8} (h : b.drop a = c :: r) : b[a]? = some c ∧ a < b.length ∧ b.drop (a + 1) = r := by
  have h1 := congrArg List.head? h
  rw [List.head?_drop] at h1
  refine ⟨h1, (List.getElem?_eq_some_iff.1 h1).1, ?_⟩
  have h2 := congrArg (List.drop 1) h
  rw [List.drop_drop] at h2
  simpa using h2
theorem span_eq {b : List UInt8} {a : Nat} {l : List Tok} (w : Bool) (hb : b.length ≤ 100000) (ha : a ≤ b.length) : token_reader_span (rt b a l) w = some ((spn w (b.drop a) : Nat) : Int) := by
  unfold token_reader_span rt
  have key : ∀ (post pre : List UInt8), b.drop a = pre ++ post → loopM (fun (s24 : Int) => (bif (decide ((IntKind.i64.wrap ((a : Int) + s24)) < (b.length : Int))) then ((idx b (IntKind.i64.wrap ((a : Int) + s24))).bind fun x40 => ((token_kind (IntKind.i32.wrap (x40.toNat : Int))).bind fun x41 => (bif (x41 != (3 : Int)) then (bif (x41 != (2 : Int)) then some (.done s24) else (bif (!w) then some (.done s24) else some (.next (IntKind.i64.wrap (s24 + (1 : Int)))))) else some (.next (IntKind.i64.wrap (s24 + (1 : Int))))))) else some (.done s24))) ((pre.length : Nat) : Int) = some (((pre.length + spn w post : Nat)) : Int) := by
    intro post
    induction post with
    | nil =>
      intro pre h
      refine loopM_done ?_
      have hl := congrArg List.length h
      simp only [List.length_drop, List.append_nil] at hl
      rw [wrap_id (n := (a : Int) + (pre.length : Int)) (by omega) (by omega), decide_eq_false (by omega), cond_false]
      simp [spn]
    | cons c post ih =>
      intro pre h
      have hl := congrArg List.length h
      simp only [List.length_drop, List.length_append, List.length_cons] at hl
      have hc : b[a + pre.length]? = some c := by
        have := congrArg (fun z => z[pre.length]?) h
        simpa [List.getElem?_drop] using this
      have step : ∀ x, x = (bif (kd c != 3) then (bif (kd c != 2) then some (Step.done ((pre.length : Nat) : Int)) else (bif (!w) then some (.done ((pre.length : Nat) : Int)) else some (.next (IntKind.i64.wrap (((pre.length : Nat) : Int) + 1))))) else some (.next (IntKind.i64.wrap (((pre.length : Nat) : Int) + 1))) : Option (Step Int Int)) → (dg w c = true → x = some (.next ((pre.length + 1 : Nat) : Int))) ∧ (dg w c = false → x = some (.done ((pre.length : Nat) : Int))) := by
        rintro x rfl
        have hw := winc (i := pre.length) (by omega)
        unfold dg
        cases h3 : kd c == 3 <;> cases h2 : kd c == 2 <;> cases w <;> simp [bne, h3, h2, hw]
      obtain ⟨s1, s2⟩ := step _ rfl
      have hw := wrap_id (n := (a : Int) + (pre.length : Int)) (by omega) (by omega)
      have hidx : idx b ((a : Int) + (pre.length : Int)) = some c := by
        rw [show (a : Int) + (pre.length : Int) = ((a + pre.length : Nat) : Int) by omega, idx_nat]; exact hc
      cases hd : dg w c
      · rw [loopM_done (t := ((pre.length : Nat) : Int)) ?_]
        · simp [spn, hd]
        · rw [hw, decide_eq_true (by omega), cond_true, hidx, Option.bind_some, kind_eq, Option.bind_some]
          exact s2 hd
      · rw [loopM_next (s' := ((pre.length + 1 : Nat) : Int)) ?_]
        · have := ih (pre ++ [c]) (by simp [h])
          simp only [List.length_append, List.length_cons, List.length_nil, Nat.zero_add] at this
          rw [this]
          congr 2
          simp [spn, hd]; omega
        · rw [hw, decide_eq_true (by omega), cond_true, hidx, Option.bind_some, kind_eq, Option.bind_some]
          exact s1 hd
  have := key (b.drop a) [] rfl
  simp only [List.length_nil, Nat.zero_add] at this
  rw [show ((0 : Nat) : Int) = 0 from rfl] at this
  rw [this]; rfl
def txt (r : List UInt8) (n : Nat) : ByteArray := ByteArray.mk (r.take n).toArray
theorem cut_eq {b : List UInt8} {a n : Nat} (h : n ≤ (b.drop a).length) (ha : a ≤ b.length) (hb : b.length ≤ 100000) : cutL b (a : Int) (IntKind.i64.wrap ((a : Int) + (n : Int))) = some ((b.drop a).take n) := by
  rw [List.length_drop] at h
  rw [wrap_id (by omega) (by omega), show (a : Int) + (n : Int) = ((a + n : Nat) : Int) by omega, cutL_nat]
  · rw [Nat.add_sub_cancel_left]
  · omega
  · omega
theorem add_eq {b : List UInt8} {a n : Nat} {l : List Tok} {k v : Int} (h : n ≤ (b.drop a).length) (ha : a ≤ b.length) (hb : b.length ≤ 100000) (hl : l.length ≤ 100000) : token_reader_add (rt b a l) k (n : Int) v = some (bif decide (4000 ≤ l.length) then (6, rt b a l) else (0, rt b (a + n) (l ++ [⟨k, txt (b.drop a) n, v, (a : Int)⟩]))) := by
  unfold token_reader_add
  change (bif decide ((4000 : Int) ≤ (l.length : Int)) then _ else Option.bind (cutL b (a : Int) (IntKind.i64.wrap ((a : Int) + (n : Int)))) _) = _
  by_cases q : 4000 ≤ l.length
  · rw [decide_eq_true (by omega), cond_true, decide_eq_true q, cond_true]
  · rw [decide_eq_false (by omega), cond_false, decide_eq_false q, cond_false, cut_eq h ha hb, Option.bind_some]
    rw [app_len (by omega) (by simp [rt]; omega), Option.bind_some]
    have h2 := h
    rw [List.length_drop] at h2
    unfold rt txt
    simp only []
    rw [wrap_id (by omega) (by omega), show (a : Int) + (n : Int) = ((a + n : Nat) : Int) by omega]
def hasS (s : ByteArray) (l : List ByteArray) : Bool := l.any fun x => decide (s = x)
theorem index_eq (s : ByteArray) (l : List ByteArray) (hl : l.length ≤ 1000) : ∃ i, slices_Index_string_string l s = some i ∧ decide ((0 : Int) ≤ i) = hasS s l := by
  unfold slices_Index_string_string
  have key : ∀ (post pre : List ByteArray), l = pre ++ post → hasS s pre = false → ∃ r, loopM (fun (s15 : Int) => (bif (decide (s15 < (l.length : Int))) then ((idx l s15).bind fun x25 => (bif (decide (s = x25)) then some (Step.done (Sum.inr (α := Unit) s15)) else some (.next (IntKind.i64.wrap (s15 + (1 : Int)))))) else some (.done (.inl ())))) ((pre.length : Nat) : Int) = some r ∧ decide ((0 : Int) ≤ Sum.elim (fun _ => -1) id r) = hasS s l := by
    intro post
    induction post with
    | nil =>
      intro pre h hs
      rw [List.append_nil] at h; subst h
      refine ⟨.inl (), loopM_done (by rw [lt_end, cond_false]), ?_⟩
      rw [hs]; rfl
    | cons x post ih =>
      intro pre h hs
      have hf : (bif (decide (((pre.length : Nat) : Int) < (l.length : Int))) then ((idx l ((pre.length : Nat) : Int)).bind fun x25 => (bif (decide (s = x25)) then some (Step.done (Sum.inr (α := Unit) ((pre.length : Nat) : Int))) else some (.next (IntKind.i64.wrap (((pre.length : Nat) : Int) + (1 : Int)))))) else some (.done (.inl ()))) = (bif decide (s = x) then some (Step.done (Sum.inr (α := Unit) ((pre.length : Nat) : Int))) else some (.next ((pre.length + 1 : Nat) : Int))) := by
        rw [lt_pre h, cond_true, idx_pre2 h rfl, Option.bind_some, inc_pre h (by omega)]
      by_cases q : s = x
      · rw [decide_eq_true q, cond_true] at hf
        refine ⟨_, loopM_done hf, ?_⟩
        rw [show hasS s l = true by rw [h, q]; simp [hasS], decide_eq_true (by show (0 : Int) ≤ (pre.length : Int); omega)]
      · rw [decide_eq_false q, cond_false] at hf
        rw [loopM_next hf]
        have := ih (pre ++ [x]) (by simp [h]) (by unfold hasS at hs ⊢; rw [List.any_append, hs]; simp [q])
        simpa using this
  obtain ⟨r, h1, h2⟩ := key l [] rfl rfl
  simp only [List.length_nil] at h1
  rw [show ((0 : Nat) : Int) = 0 from rfl] at h1
  rw [h1, Option.bind_some]
  cases r with
  | inl u => exact ⟨-1, rfl, h2⟩
  | inr i => exact ⟨i, rfl, h2⟩
theorem contains_eq (s : ByteArray) (l : List ByteArray) (hl : l.length ≤ 1000) : slices_Contains_string_string l s = some (hasS s l) := by
  unfold slices_Contains_string_string
  obtain ⟨i, h1, h2⟩ := index_eq s l hl
  rw [h1, Option.bind_some, h2]
noncomputable def wd (s : ByteArray) : Bool := (token_Word s).getD false
theorem word_eq (s : ByteArray) : token_Word s = some (wd s) := by
  have : Tot (token_Word s) := by
    unfold token_Word
    rw [contains_eq _ _ (by decide)]
    exact Tot.some _
  exact this.get false
theorem name2_eq {b : List UInt8} {a : Nat} {l : List Tok} (ha : a ≤ b.length) (hb : b.length ≤ 100000) (hl : l.length ≤ 100000) : token_reader_name (rt b a l) =
    some (bif decide (20 < spn true (b.drop a)) then (6, rt b a l) else bif decide (4000 ≤ l.length) then (6, rt b a l) else (0, rt b (a + spn true (b.drop a)) (l ++ [⟨bif wd (txt (b.drop a) (spn true (b.drop a))) then 3 else 1, txt (b.drop a) (spn true (b.drop a)), 0, (a : Int)⟩]))) := by
  unfold token_reader_name
  rw [span_eq true hb ha, Option.bind_some]
  change Option.bind (cutL b (a : Int) (IntKind.i64.wrap ((a : Int) + (((spn true (b.drop a)) : Nat) : Int)))) _ = _
  have hn := spn_le true (b.drop a)
  rw [cut_eq hn ha hb, Option.bind_some]
  by_cases q : 20 < spn true (b.drop a)
  · rw [decide_eq_true (by omega), cond_true, decide_eq_true q, cond_true]
  · rw [decide_eq_false (by omega), cond_false, decide_eq_false q, cond_false, word_eq, Option.bind_some]
    rw [show (ByteArray.mk ((b.drop a).take (spn true (b.drop a))).toArray) = txt (b.drop a) (spn true (b.drop a)) from rfl]
    cases wd (txt (b.drop a) (spn true (b.drop a)))
    · simp only [cond_false, add_eq hn ha hb hl, Option.bind_some]
    · simp only [cond_true, add_eq hn ha hb hl, Option.bind_some]
end Go.Proofs.Ytnjeklpjjceppaa.Ab.Pq
namespace Go.Proofs.Ytnjeklpjjceppaa.Ab.Pq
open Go
set_option linter.all false
noncomputable def digF (x17 : List UInt8) (m0 : TTokenReader) (s33 : Int × Int) : Option (Step (Int × Int) (Int ⊕ (Int × TTokenReader))) := (bif (decide (s33.2 < (x17.length : Int))) then ((idx x17 s33.2).bind fun x43 => (bif (decide ((IntKind.u64.wrap ((IntKind.u64.wrap ((9223372036854775807 : Int) - (IntKind.u64.wrap (IntKind.u8.wrap ((x43.toNat : Int) - (48 : Int)))))).tdiv (10 : Int))) < s33.1)) then some (.done (.inr ((4 : Int), m0))) else some (.next ((IntKind.u64.wrap ((IntKind.u64.wrap ((10 : Int) * s33.1)) + (IntKind.u64.wrap (IntKind.u8.wrap ((x43.toNat : Int) - (48 : Int)))))), (IntKind.i64.wrap (s33.2 + (1 : Int))))))) else some (.done (.inl s33.1)))
def dv (m0 : TTokenReader) : Option Int → Int ⊕ (Int × TTokenReader)
  | some y => .inl y
  | none => .inr ((4 : Int), m0)
theorem dig_eq (ds : List UInt8) (hd : ds.length ≤ 100000) : ∃ v : Option Int, ∀ m0, loopM (digF ds m0) ((0 : Int), (0 : Int)) = some (dv m0 v) := by
  have key : ∀ (post pre : List UInt8) (acc : Int), ds = pre ++ post → ∃ v : Option Int, ∀ m0, loopM (digF ds m0) (acc, ((pre.length : Nat) : Int)) = some (dv m0 v) := by
    intro post
    induction post with
    | nil =>
      intro pre acc h
      rw [List.append_nil] at h; subst h
      exact ⟨some acc, fun m0 => loopM_done (by unfold digF; simp only []; rw [lt_end, cond_false]; rfl)⟩
    | cons x post ih =>
      intro pre acc h
      have hf : ∀ m0, digF ds m0 (acc, ((pre.length : Nat) : Int)) = (bif (decide ((IntKind.u64.wrap ((IntKind.u64.wrap ((9223372036854775807 : Int) - (IntKind.u64.wrap (IntKind.u8.wrap ((x.toNat : Int) - (48 : Int)))))).tdiv (10 : Int))) < acc)) then some (.done (.inr ((4 : Int), m0))) else some (.next ((IntKind.u64.wrap ((IntKind.u64.wrap ((10 : Int) * acc)) + (IntKind.u64.wrap (IntKind.u8.wrap ((x.toNat : Int) - (48 : Int)))))), ((pre.length + 1 : Nat) : Int)))) := by
        intro m0
        unfold digF
        simp only []
        rw [lt_pre h, cond_true, idx_pre2 h rfl, Option.bind_some, inc_pre h (by omega)]
      cases hc : (decide ((IntKind.u64.wrap ((IntKind.u64.wrap ((9223372036854775807 : Int) - (IntKind.u64.wrap (IntKind.u8.wrap ((x.toNat : Int) - (48 : Int)))))).tdiv (10 : Int))) < acc))
      · obtain ⟨v, hv⟩ := ih (pre ++ [x]) (IntKind.u64.wrap ((IntKind.u64.wrap ((10 : Int) * acc)) + (IntKind.u64.wrap (IntKind.u8.wrap ((x.toNat : Int) - (48 : Int)))))) (by simp [h])
        refine ⟨v, fun m0 => ?_⟩
        have h1 := hf m0
        rw [hc, cond_false] at h1
        rw [loopM_next h1]
        have := hv m0
        simpa using this
      · refine ⟨none, fun m0 => ?_⟩
        have h1 := hf m0
        rw [hc, cond_true] at h1
        exact loopM_done h1
  exact key ds [] 0 rfl
def numBad (c : UInt8) (r : List UInt8) (n m : Nat) : Bool := decide (n < m) || ((c.toNat : Int) == 48 && decide (1 < n))
def dn' (b : List UInt8) (a : Nat) (l : List Tok) (r : List UInt8) (n : Nat) : Option Int → Int × TTokenReader
  | some y => (0, rt b (a + n) (l ++ [⟨2, txt r n, IntKind.i64.wrap y, (a : Int)⟩]))
  | none => (4, rt b a l)
noncomputable abbrev dn (b : List UInt8) (a : Nat) (l : List Tok) (r : List UInt8) (v : Option Int) : Int × TTokenReader := dn' b a l r (spn false r) v
theorem number_eq {b : List UInt8} {a : Nat} {l : List Tok} {c : UInt8} {r : List UInt8} (hr : b.drop a = c :: r) (hb : b.length ≤ 100000) (hl : l.length ≤ 100000) (v : Option Int) (hv : ∀ m0, loopM (digF ((c :: r).take (spn false (c :: r))) m0) ((0 : Int), (0 : Int)) = some (dv m0 v)) :
    token_reader_number (rt b a l) = some (bif decide (4000 ≤ l.length) then ((6 : Int), rt b a l) else bif numBad c r (spn false (c :: r)) (spn true (c :: r)) then (3, rt b a l) else dn b a l (c :: r) v) := by
  obtain ⟨h1, h2, h3⟩ := drop_at hr
  have ha : a ≤ b.length := by omega
  unfold token_reader_number
  change (bif decide ((4000 : Int) ≤ (l.length : Int)) then _ else _) = _
  by_cases q : 4000 ≤ l.length
  · rw [decide_eq_true (by omega), cond_true, decide_eq_true q, cond_true]
  · rw [decide_eq_false (by omega), cond_false, decide_eq_false q, cond_false, span_eq false hb ha, span_eq true hb ha, hr]
    simp only [Option.bind_some]
    have hidx : idx (rt b a l).gB (rt b a l).gAt = some c := by show idx b (a : Int) = _; rw [idx_nat]; exact h1
    rw [hidx, Option.bind_some]
    have hbad : (bif decide (((spn false (c :: r) : Nat) : Int) < ((spn true (c :: r) : Nat) : Int)) then some true else (bif ((c.toNat : Int) == (48 : Int)) then some (decide ((1 : Int) < ((spn false (c :: r) : Nat) : Int))) else some false)) = some (numBad c r (spn false (c :: r)) (spn true (c :: r))) := by
      unfold numBad
      rw [show decide (((spn false (c :: r) : Nat) : Int) < ((spn true (c :: r) : Nat) : Int)) = decide (spn false (c :: r) < spn true (c :: r)) from decide_eq_decide.2 (by omega), show decide ((1 : Int) < ((spn false (c :: r) : Nat) : Int)) = decide (1 < spn false (c :: r)) from decide_eq_decide.2 (by omega)]
      cases decide (spn false (c :: r) < spn true (c :: r)) <;> cases ((c.toNat : Int) == 48) <;> cases decide (1 < spn false (c :: r)) <;> rfl
    rw [hbad, Option.bind_some]
    cases numBad c r (spn false (c :: r)) (spn true (c :: r))
    · simp only [cond_false]
      have hn := spn_le false (c :: r)
      change Option.bind (cutL b (a : Int) (IntKind.i64.wrap ((a : Int) + ((spn false (c :: r) : Nat) : Int)))) _ = _
      rw [cut_eq (by rw [hr]; exact hn) ha hb, Option.bind_some, hr]
      change Option.bind (loopM (digF ((c :: r).take (spn false (c :: r))) (rt b a l)) ((0 : Int), (0 : Int))) _ = _
      rw [hv, Option.bind_some]
      cases v with
      | some y =>
        simp only [dv, dn, dn', Sum.elim_inl]
        rw [add_eq (by rw [hr]; exact hn) ha hb hl, Option.bind_some, decide_eq_false q, cond_false, hr]
      | none => rfl
    · rfl
theorem bind_eta2 {α β : Type} (o : Option (α × β)) : (o.bind fun x => some (x.1, x.2)) = o := by cases o <;> rfl
def twos : List ByteArray := [(ByteArray.mk #[61, 61]), (ByteArray.mk #[33, 61]), (ByteArray.mk #[60, 61]), (ByteArray.mk #[38, 38]), (ByteArray.mk #[124, 124])]
def ones : ByteArray := ByteArray.mk #[40, 41, 123, 125, 91, 93, 59, 44, 61, 60, 43, 45, 42, 47, 37, 33, 38]
def twoB (r : List UInt8) : Bool := decide (1 < r.length) && hasS (txt r 2) twos
def sg (c : UInt8) (r : List UInt8) : Nat := bif twoB (c :: r) then 2 else bif decide (0 ≤ indexB ones (c.toNat : Int)) then 1 else 0
theorem sg_le (c : UInt8) (r : List UInt8) : sg c r ≤ (c :: r).length := by
  unfold sg twoB
  by_cases h : 1 < (c :: r).length
  · cases (decide (1 < (c :: r).length) && hasS (txt (c :: r) 2) twos)
    · cases decide (0 ≤ indexB ones (c.toNat : Int)) <;> simp
    · simp only [cond_true]; omega
  · rw [decide_eq_false h, Bool.false_and, cond_false]
    cases decide (0 ≤ indexB ones (c.toNat : Int)) <;> simp
theorem sign_eq' {b : List UInt8} {a : Nat} {l : List Tok} {c : UInt8} {r : List UInt8} (hr : b.drop a = c :: r) : token_reader_sign (rt b a l) = some ((sg c r : Nat) : Int) := by
  obtain ⟨h1, h2, h3⟩ := drop_at hr
  unfold token_reader_sign
  change Option.bind (cutL b (a : Int) ((b.length : Nat) : Int)) _ = _
  rw [cutL_nat (by omega) (Nat.le_refl _), Option.bind_some, List.take_of_length_le (by simp), hr]
  unfold sg twoB
  by_cases h : 1 < (c :: r).length
  · rw [decide_eq_true (by omega), cond_true, decide_eq_true h, Bool.true_and]
    rw [show cutL (c :: r) 0 2 = some ((c :: r).take 2) from by
      have := cutL_nat (xs := c :: r) (l := 0) (h := 2) (by omega) (by omega)
      simpa using this, Option.bind_some, contains_eq _ _ (by decide), Option.bind_some, Option.bind_some]
    change (bif hasS (txt (c :: r) 2) twos then _ else _) = _
    cases hasS (txt (c :: r) 2) twos
    · simp only [cond_false]
      show Option.bind (some c) _ = _
      rw [Option.bind_some]
      show (bif decide (0 ≤ indexB ones (c.toNat : Int)) then some (1 : Int) else some 0) = _
      cases decide (0 ≤ indexB ones (c.toNat : Int)) <;> rfl
    · rfl
  · rw [decide_eq_false (by omega), cond_false, decide_eq_false h, Bool.false_and, Option.bind_some, cond_false]
    show Option.bind (some c) _ = _
    rw [Option.bind_some]
    show (bif decide (0 ≤ indexB ones (c.toNat : Int)) then some (1 : Int) else some 0) = _
    cases decide (0 ≤ indexB ones (c.toNat : Int)) <;> rfl
theorem next_eq {b : List UInt8} {a : Nat} {l : List Tok} {c : UInt8} {r : List UInt8} (hr : b.drop a = c :: r) (hb : b.length ≤ 100000) (hl : l.length ≤ 100000) : token_reader_next (rt b a l) =
    (bif kd c == 1 then some (0, rt b (a + 1) l) else bif kd c == 2 then token_reader_name (rt b a l) else bif kd c == 3 then token_reader_number (rt b a l)
    else some (bif (sg c r) == 0 then (3, rt b a l) else bif decide (4000 ≤ l.length) then (6, rt b a l) else (0, rt b (a + sg c r) (l ++ [⟨3, txt (c :: r) (sg c r), 0, (a : Int)⟩])))) := by
  obtain ⟨h1, h2, h3⟩ := drop_at hr
  unfold token_reader_next
  have hidx : idx (rt b a l).gB (rt b a l).gAt = some c := by show idx b (a : Int) = _; rw [idx_nat]; exact h1
  rw [hidx, Option.bind_some, kind_eq, Option.bind_some, sign_eq' hr, Option.bind_some, bind_eta2, bind_eta2]
  have hw : IntKind.i64.wrap ((a : Int) + 1) = ((a + 1 : Nat) : Int) := winc (by omega)
  change (bif kd c == 1 then some (0, (⟨b, IntKind.i64.wrap ((a : Int) + 1), l⟩ : TTokenReader)) else _) = _
  rw [hw]
  cases kd c == 1
  · cases kd c == 2
    · cases kd c == 3
      · simp only [cond_false]
        rw [add_eq (by rw [hr]; exact sg_le c r) (by omega) hb hl, Option.bind_some, hr]
        by_cases q : sg c r = 0
        · rw [q]; rfl
        · rw [show (((sg c r : Nat) : Int) == 0) = false by simp; omega, show (sg c r == 0) = false by simp [q]]
          rfl
      · rfl
    · rfl
  · rfl
def ta (a : Nat) (x : Int × ByteArray × Int) : Tok := ⟨x.1, x.2.1, x.2.2, (a : Int)⟩
def SA (r : List UInt8) (n : Nat) (new : List (Int × ByteArray × Int)) : Prop := ∀ (b : List UInt8) (a : Nat) (l : List Tok), b.drop a = r → b.length ≤ 100000 → l.length ≤ 100000 →
  (new = [] ∨ l.length < 4000 → token_reader_next (rt b a l) = some (0, rt b (a + n) (l ++ new.map (ta a)))) ∧ (new ≠ [] → 4000 ≤ l.length → token_reader_next (rt b a l) = some (6, rt b a l))
def SE (r : List UInt8) : Prop := ∀ (b : List UInt8) (a : Nat) (l : List Tok), b.drop a = r → b.length ≤ 100000 → l.length ≤ 100000 → ∃ e, e ≠ 0 ∧ token_reader_next (rt b a l) = some (e, rt b a l)
theorem dg_true {c : UInt8} {r : List UInt8} {w : Bool} (h : dg w c = true) : 1 ≤ spn w (c :: r) := by unfold spn; rw [List.takeWhile_cons, h]; simp
end Go.Proofs.Ytnjeklpjjceppaa.Ab.Pq
namespace Go.Proofs.Ytnjeklpjjceppaa.Ab
open Go
set_option linter.all false
theorem loop_any {β τ : Type} {l : List β} {f : Int → Option (Step Int (Unit ⊕ τ))} (t : β → Bool) (r : Nat → τ)
    (h1 : ∀ p x q, l = p ++ x :: q → f (p.length : Int) = some (bif t x then .done (.inr (r p.length)) else .next ((p.length + 1 : Nat) : Int)))
    (h2 : f (l.length : Int) = some (.done (.inl ()))) : (l.any t = false ∧ loopM f (0 : Int) = some (.inl ())) ∨ (l.any t = true ∧ ∃ j, j < l.length ∧ loopM f (0 : Int) = some (.inr (r j))) := by
  have key : ∀ (q p : List β), l = p ++ q → (q.any t = false ∧ loopM f (p.length : Int) = some (.inl ())) ∨ (q.any t = true ∧ ∃ j, j < l.length ∧ loopM f (p.length : Int) = some (.inr (r j))) := by
    intro q
    induction q with
    | nil =>
      intro p e
      rw [List.append_nil] at e; subst e
      exact .inl ⟨rfl, loopM_done h2⟩
    | cons x q ih =>
      intro p e
      have h := h1 p x q e
      cases ht : t x
      · rw [ht, cond_false] at h
        have := ih (p ++ [x]) (by simp [e])
        rw [loopM_next h]
        simp only [List.length_append, List.length_cons, List.length_nil, Nat.zero_add, List.any_cons, ht, Bool.false_or] at this ⊢
        exact this
      · rw [ht, cond_true] at h
        refine .inr ⟨by simp [ht], p.length, by subst e; simp, loopM_done h⟩
  exact key l [] rfl
theorem any_list {β τ ρ : Type} {f : Int → Option (Step Int (Unit ⊕ τ))} {k : Unit ⊕ τ → Option ρ} {R : Option ρ} (l : List β) (t : β → Bool) (r : Nat → τ)
    (h1 : ∀ p x q, l = p ++ x :: q → f (p.length : Int) = some (bif t x then .done (.inr (r p.length)) else .next ((p.length + 1 : Nat) : Int)))
    (h2 : f (l.length : Int) = some (.done (.inl ()))) (k0 : l.any t = false → k (.inl ()) = R) (k1 : ∀ j, j < l.length → l.any t = true → k (.inr (r j)) = R) : Option.bind (loopM f (0 : Int)) k = R := by
  rcases loop_any t r h1 h2 with ⟨a, b⟩ | ⟨a, j, hj, b⟩
  · rw [b]; exact k0 a
  · rw [b]; exact k1 j hj a
end Go.Proofs.Ytnjeklpjjceppaa.Ab
namespace Go.Proofs.Ytnjeklpjjceppaa.Ab
open Go
set_option linter.all false
def token_kind_c (fu : Nat) (a0 : Int) : Option (Int) :=
  (Option.bind (α := Bool) (bif (a0 == (32 : Int)) then some true else (bif (a0 == (9 : Int)) then some true else (bif (a0 == (10 : Int)) then some true else some (a0 == (13 : Int))))) fun y4 => (bif y4 then some (1 : Int) else (Option.bind (α := Bool) (bif (decide ((97 : Int) ≤ a0)) then (bif (decide (a0 ≤ (122 : Int))) then some true else (bif (decide ((65 : Int) ≤ a0)) then (bif (decide (a0 ≤ (90 : Int))) then some true else some (a0 == (95 : Int))) else some (a0 == (95 : Int)))) else (bif (decide ((65 : Int) ≤ a0)) then (bif (decide (a0 ≤ (90 : Int))) then some true else some (a0 == (95 : Int))) else some (a0 == (95 : Int)))) fun y16 => (bif y16 then some (2 : Int) else (bif (decide ((48 : Int) ≤ a0)) then (bif (decide (a0 ≤ (57 : Int))) then some (3 : Int) else some (0 : Int)) else some (0 : Int))))))
set_option maxRecDepth 100000 in
theorem token_kind_cle (fu : Nat)   (a0 : Int) : Le (token_kind_c fu  a0) (token_kind  a0) := by
  unfold token_kind_c token_kind
  repeat (first | exact Le.refl _ | assumption | (refine Le.bind ?_ (fun _ => ?_)) | (refine Le.cond ?_ ?_) | (refine Le.loopC (fun _ => ?_)) | (refine Le.elim (fun _ => ?_) (fun _ => ?_)))
def token_reader_span_c (fu : Nat) (m0 : TTokenReader) (a1 : Bool) : Option (Int) :=
  (Option.bind (α := Int) (loopC fu (fun (s24 : Int) => (bif (decide ((IntKind.i64.wrap (m0.gAt + s24)) < (m0.gB.length : Int))) then ((idx m0.gB (IntKind.i64.wrap (m0.gAt + s24))).bind fun x40 => ((token_kind_c fu (IntKind.i32.wrap (x40.toNat : Int))).bind fun x41 => (bif (x41 != (3 : Int)) then (bif (x41 != (2 : Int)) then some (.done s24) else (bif (!a1) then some (.done s24) else some (.next (IntKind.i64.wrap (s24 + (1 : Int)))))) else some (.next (IntKind.i64.wrap (s24 + (1 : Int))))))) else some (.done s24))) (0 : Int)) fun y23 => some y23)
set_option maxRecDepth 100000 in
theorem token_reader_span_cle (fu : Nat)   (m0 : TTokenReader) (a1 : Bool) : Le (token_reader_span_c fu  m0 a1) (token_reader_span  m0 a1) := by
  unfold token_reader_span_c token_reader_span
  repeat (first | exact Le.refl _ | assumption | exact token_kind_cle fu _ | (refine Le.bind ?_ (fun _ => ?_)) | (refine Le.cond ?_ ?_) | (refine Le.loopC (fun _ => ?_)) | (refine Le.elim (fun _ => ?_) (fun _ => ?_)))
def slices_Index_string_string_c (fu : Nat) (a0 : List ByteArray) (a1 : ByteArray) : Option (Int) :=
  (Option.bind (α := (Unit) ⊕ (Int)) (loopC fu (fun (s15 : Int) => (bif (decide (s15 < (a0.length : Int))) then ((idx a0 s15).bind fun x25 => (bif (decide (a1 = x25)) then some (.done (.inr s15)) else some (.next (IntKind.i64.wrap (s15 + (1 : Int)))))) else some (.done (.inl ())))) (0 : Int)) (Sum.elim (fun y14 => some (-1 : Int)) (fun r => some r)))
set_option maxRecDepth 100000 in
theorem slices_Index_string_string_cle (fu : Nat)   (a0 : List ByteArray) (a1 : ByteArray) : Le (slices_Index_string_string_c fu  a0 a1) (slices_Index_string_string  a0 a1) := by
  unfold slices_Index_string_string_c slices_Index_string_string
  repeat (first | exact Le.refl _ | assumption | (refine Le.bind ?_ (fun _ => ?_)) | (refine Le.cond ?_ ?_) | (refine Le.loopC (fun _ => ?_)) | (refine Le.elim (fun _ => ?_) (fun _ => ?_)))
def slices_Contains_string_string_c (fu : Nat) (a0 : List ByteArray) (a1 : ByteArray) : Option (Bool) :=
  ((slices_Index_string_string_c fu a0 a1).bind fun x1 => some (decide ((0 : Int) ≤ x1)))
set_option maxRecDepth 100000 in
theorem slices_Contains_string_string_cle (fu : Nat)   (a0 : List ByteArray) (a1 : ByteArray) : Le (slices_Contains_string_string_c fu  a0 a1) (slices_Contains_string_string  a0 a1) := by
  unfold slices_Contains_string_string_c slices_Contains_string_string
  repeat (first | exact Le.refl _ | assumption | exact slices_Index_string_string_cle fu _ _ | (refine Le.bind ?_ (fun _ => ?_)) | (refine Le.cond ?_ ?_) | (refine Le.loopC (fun _ => ?_)) | (refine Le.elim (fun _ => ?_) (fun _ => ?_)))
def token_Word_c (fu : Nat) (a0 : ByteArray) : Option (Bool) :=
  ((slices_Contains_string_string_c fu ([(ByteArray.mk #[105, 110, 116]), (ByteArray.mk #[105, 102]), (ByteArray.mk #[101, 108, 115, 101]), (ByteArray.mk #[119, 104, 105, 108, 101]), (ByteArray.mk #[114, 101, 116, 117, 114, 110]), (ByteArray.mk #[97, 115, 115, 101, 114, 116]), (ByteArray.mk #[105, 110, 112, 117, 116]), (ByteArray.mk #[110, 117, 108, 108])] : List ByteArray) a0).bind fun x1 => some x1)
set_option maxRecDepth 100000 in
theorem token_Word_cle (fu : Nat)   (a0 : ByteArray) : Le (token_Word_c fu  a0) (token_Word  a0) := by
  unfold token_Word_c token_Word
  repeat (first | exact Le.refl _ | assumption | exact slices_Contains_string_string_cle fu _ _ | (refine Le.bind ?_ (fun _ => ?_)) | (refine Le.cond ?_ ?_) | (refine Le.loopC (fun _ => ?_)) | (refine Le.elim (fun _ => ?_) (fun _ => ?_)))
def token_reader_add_c (fu : Nat) (m0 : TTokenReader) (a1 : Int) (a2 : Int) (a3 : Int) : Option (Int × TTokenReader) :=
  (bif (decide ((4000 : Int) ≤ (m0.gL.length : Int))) then some ((6 : Int), m0) else ((cutL m0.gB m0.gAt (IntKind.i64.wrap (m0.gAt + a2))).bind fun x4 => ((app 40 m0.gL ([(⟨a1, (ByteArray.mk x4.toArray), a3, m0.gAt⟩ : TApiToken)] : List TApiToken)).bind fun x5 => some ((0 : Int), (⟨m0.gB, (IntKind.i64.wrap (m0.gAt + a2)), x5⟩ : TTokenReader)))))
set_option maxRecDepth 100000 in
theorem token_reader_add_cle (fu : Nat)   (m0 : TTokenReader) (a1 : Int) (a2 : Int) (a3 : Int) : Le (token_reader_add_c fu  m0 a1 a2 a3) (token_reader_add  m0 a1 a2 a3) := by
  unfold token_reader_add_c token_reader_add
  repeat (first | exact Le.refl _ | assumption | (refine Le.bind ?_ (fun _ => ?_)) | (refine Le.cond ?_ ?_) | (refine Le.loopC (fun _ => ?_)) | (refine Le.elim (fun _ => ?_) (fun _ => ?_)))
def token_reader_name_c (fu : Nat) (m0 : TTokenReader) : Option (Int × TTokenReader) :=
  ((token_reader_span_c fu m0 true).bind fun x1 => ((cutL m0.gB m0.gAt (IntKind.i64.wrap (m0.gAt + x1))).bind fun x2 => (bif (decide ((20 : Int) < x1)) then some ((6 : Int), m0) else ((token_Word_c fu (ByteArray.mk x2.toArray)).bind fun x15 => (bif x15 then ((token_reader_add_c fu m0 (3 : Int) x1 (0 : Int)).bind fun x21 => some (x21.1, x21.2)) else ((token_reader_add_c fu m0 (1 : Int) x1 (0 : Int)).bind fun x24 => some (x24.1, x24.2)))))))
set_option maxRecDepth 100000 in
theorem token_reader_name_cle (fu : Nat)   (m0 : TTokenReader) : Le (token_reader_name_c fu  m0) (token_reader_name  m0) := by
  unfold token_reader_name_c token_reader_name
  repeat (first | exact Le.refl _ | assumption | exact token_reader_span_cle fu _ _ | exact token_Word_cle fu _ | exact token_reader_add_cle fu _ _ _ _ | (refine Le.bind ?_ (fun _ => ?_)) | (refine Le.cond ?_ ?_) | (refine Le.loopC (fun _ => ?_)) | (refine Le.elim (fun _ => ?_) (fun _ => ?_)))
def token_reader_number_c (fu : Nat) (m0 : TTokenReader) : Option (Int × TTokenReader) :=
  (bif (decide ((4000 : Int) ≤ (m0.gL.length : Int))) then some ((6 : Int), m0) else ((token_reader_span_c fu m0 false).bind fun x4 => (Option.bind (α := Bool) ((token_reader_span_c fu m0 true).bind fun x10 => (bif (decide (x4 < x10)) then some true else ((idx m0.gB m0.gAt).bind fun x12 => (bif ((x12.toNat : Int) == (48 : Int)) then some (decide ((1 : Int) < x4)) else some false)))) fun y9 => (bif y9 then some ((3 : Int), m0) else ((cutL m0.gB m0.gAt (IntKind.i64.wrap (m0.gAt + x4))).bind fun x17 => (Option.bind (α := (Int) ⊕ (Int × TTokenReader)) (loopC fu (fun (s33 : Int × Int) => (bif (decide (s33.2 < (x17.length : Int))) then ((idx x17 s33.2).bind fun x43 => (bif (decide ((IntKind.u64.wrap ((IntKind.u64.wrap ((9223372036854775807 : Int) - (IntKind.u64.wrap (IntKind.u8.wrap ((x43.toNat : Int) - (48 : Int)))))).tdiv (10 : Int))) < s33.1)) then some (.done (.inr ((4 : Int), m0))) else some (.next ((IntKind.u64.wrap ((IntKind.u64.wrap ((10 : Int) * s33.1)) + (IntKind.u64.wrap (IntKind.u8.wrap ((x43.toNat : Int) - (48 : Int)))))), (IntKind.i64.wrap (s33.2 + (1 : Int))))))) else some (.done (.inl s33.1)))) ((0 : Int), (0 : Int))) (Sum.elim (fun y32 => ((token_reader_add_c fu m0 (2 : Int) x4 (IntKind.i64.wrap y32)).bind fun x47 => some (x47.1, x47.2))) (fun r => some r))))))))
set_option maxRecDepth 100000 in
theorem token_reader_number_cle (fu : Nat)   (m0 : TTokenReader) : Le (token_reader_number_c fu  m0) (token_reader_number  m0) := by
  unfold token_reader_number_c token_reader_number
  repeat (first | exact Le.refl _ | assumption | exact token_reader_span_cle fu _ _ | exact token_reader_add_cle fu _ _ _ _ | (refine Le.bind ?_ (fun _ => ?_)) | (refine Le.cond ?_ ?_) | (refine Le.loopC (fun _ => ?_)) | (refine Le.elim (fun _ => ?_) (fun _ => ?_)))
def token_reader_sign_c (fu : Nat) (m0 : TTokenReader) : Option (Int) :=
  ((cutL m0.gB m0.gAt ((m0.gB).length : Int)).bind fun x1 => (Option.bind (α := Bool) (bif (decide ((1 : Int) < (x1.length : Int))) then ((cutL x1 (0 : Int) (2 : Int)).bind fun x7 => ((slices_Contains_string_string_c fu ([(ByteArray.mk #[61, 61]), (ByteArray.mk #[33, 61]), (ByteArray.mk #[60, 61]), (ByteArray.mk #[38, 38]), (ByteArray.mk #[124, 124])] : List ByteArray) (ByteArray.mk x7.toArray)).bind fun x8 => some x8)) else some false) fun y5 => (bif y5 then some (2 : Int) else ((idx x1 (0 : Int)).bind fun x12 => (bif (decide ((0 : Int) ≤ (indexB (ByteArray.mk #[40, 41, 123, 125, 91, 93, 59, 44, 61, 60, 43, 45, 42, 47, 37, 33, 38]) (x12.toNat : Int)))) then some (1 : Int) else some (0 : Int))))))
set_option maxRecDepth 100000 in
theorem token_reader_sign_cle (fu : Nat)   (m0 : TTokenReader) : Le (token_reader_sign_c fu  m0) (token_reader_sign  m0) := by
  unfold token_reader_sign_c token_reader_sign
  repeat (first | exact Le.refl _ | assumption | exact slices_Contains_string_string_cle fu _ _ | (refine Le.bind ?_ (fun _ => ?_)) | (refine Le.cond ?_ ?_) | (refine Le.loopC (fun _ => ?_)) | (refine Le.elim (fun _ => ?_) (fun _ => ?_)))
def token_reader_next_c (fu : Nat) (m0 : TTokenReader) : Option (Int × TTokenReader) :=
  ((idx m0.gB m0.gAt).bind fun x1 => ((token_kind_c fu (IntKind.i32.wrap (x1.toNat : Int))).bind fun x2 => (bif (x2 == (1 : Int)) then some ((0 : Int), (⟨m0.gB, (IntKind.i64.wrap (m0.gAt + (1 : Int))), m0.gL⟩ : TTokenReader)) else (bif (x2 == (2 : Int)) then ((token_reader_name_c fu m0).bind fun x27 => some (x27.1, x27.2)) else (bif (x2 == (3 : Int)) then ((token_reader_number_c fu m0).bind fun x34 => some (x34.1, x34.2)) else ((token_reader_sign_c fu m0).bind fun x36 => (bif (x36 == (0 : Int)) then some ((3 : Int), m0) else ((token_reader_add_c fu m0 (3 : Int) x36 (0 : Int)).bind fun x41 => some (x41.1, x41.2)))))))))
set_option maxRecDepth 100000 in
theorem token_reader_next_cle (fu : Nat)   (m0 : TTokenReader) : Le (token_reader_next_c fu  m0) (token_reader_next  m0) := by
  unfold token_reader_next_c token_reader_next
  repeat (first | exact Le.refl _ | assumption | exact token_kind_cle fu _ | exact token_reader_name_cle fu _ | exact token_reader_number_cle fu _ | exact token_reader_sign_cle fu _ | exact token_reader_add_cle fu _ _ _ _ | (refine Le.bind ?_ (fun _ => ?_)) | (refine Le.cond ?_ ?_) | (refine Le.loopC (fun _ => ?_)) | (refine Le.elim (fun _ => ?_) (fun _ => ?_)))
def token_Read_c (fu : Nat) (a0 : List UInt8) : Option (List TApiToken × Int × Int) :=
  (bif (decide ((20000 : Int) < (a0.length : Int))) then some (([] : List TApiToken), (0 : Int), (6 : Int)) else (Option.bind (α := (List UInt8 × Int × List TApiToken) ⊕ (List TApiToken × Int × Int)) (loopC fu (fun (s25 : List UInt8 × Int × List TApiToken) => (bif (decide (s25.2.1 < (a0.length : Int))) then ((token_reader_next_c fu (⟨s25.1, s25.2.1, s25.2.2⟩ : TTokenReader)).bind fun x40 => (bif (x40.1 != (0 : Int)) then some (.done (.inr (([] : List TApiToken), x40.2.gAt, x40.1))) else some (.next (x40.2.gB, x40.2.gAt, x40.2.gL)))) else some (.done (.inl (s25.1, s25.2.1, s25.2.2))))) (a0, (0 : Int), ([] : List TApiToken))) (Sum.elim (fun y24 => ((app 40 y24.2.2 ([(⟨(0 : Int), ByteArray.empty, (0 : Int), (a0.length : Int)⟩ : TApiToken)] : List TApiToken)).bind fun x44 => some (x44, (0 : Int), (0 : Int)))) (fun r => some r))))
set_option maxRecDepth 100000 in
theorem token_Read_cle (fu : Nat)   (a0 : List UInt8) : Le (token_Read_c fu  a0) (token_Read  a0) := by
  unfold token_Read_c token_Read
  repeat (first | exact Le.refl _ | assumption | exact token_reader_next_cle fu _ | (refine Le.bind ?_ (fun _ => ?_)) | (refine Le.cond ?_ ?_) | (refine Le.loopC (fun _ => ?_)) | (refine Le.elim (fun _ => ?_) (fun _ => ?_)))
def l10_lives_c (fu : Nat)  : Option (Bool) :=
  ((token_Read_c fu ([(120 : UInt8), (49 : UInt8), (61 : UInt8), (45 : UInt8), (55 : UInt8), (59 : UInt8)] : List UInt8)).bind fun x2 => (bif (x2.2.2 == (0 : Int)) then (bif ((x2.1.length : Int) == (6 : Int)) then ((idx x2.1 (0 : Int)).bind fun x5 => (bif (decide (x5.gText = (ByteArray.mk #[120, 49]))) then ((idx x2.1 (3 : Int)).bind fun x7 => (bif (x7.gN == (7 : Int)) then ((idx x2.1 (5 : Int)).bind fun x9 => some (x9.gAt == (6 : Int))) else some false)) else some false)) else some false) else some false))
set_option maxRecDepth 100000 in
theorem l10_lives_cle (fu : Nat)    : Le (l10_lives_c fu  ) (l10_lives  ) := by
  unfold l10_lives_c l10_lives
  repeat (first | exact Le.refl _ | assumption | exact token_Read_cle fu _ | (refine Le.bind ?_ (fun _ => ?_)) | (refine Le.cond ?_ ?_) | (refine Le.loopC (fun _ => ?_)) | (refine Le.elim (fun _ => ?_) (fun _ => ?_)))
end Go.Proofs.Ytnjeklpjjceppaa.Ab
namespace Go.Proofs.Ytnjeklpjjceppaa.Ab.Pq
open Go
set_option linter.all false
theorem kd32 : kd 32 = 1 := by unfold kd; rfl
theorem dg32 (w : Bool) : dg w 32 = false := by unfold dg; rw [kd32]; cases w <;> rfl
def Ok (s : List UInt8) : Prop := s = [] ∨ ∃ s', s = 32 :: s'
theorem spn_all {w : Bool} {s : List UInt8} (hs : Ok s) : ∀ {t : List UInt8}, (∀ x ∈ t, dg w x = true) → spn w (t ++ s) = t.length
  | [], _ => by
    rcases hs with rfl | ⟨s', rfl⟩
    · rfl
    · unfold spn; rw [List.nil_append, List.takeWhile_cons, dg32]; rfl
  | c :: t, h => by
    have := spn_all hs (t := t) fun x hx => h x (by simp [hx])
    unfold spn at this ⊢
    rw [List.cons_append, List.takeWhile_cons, h c (by simp), if_pos rfl, List.length_cons, this, List.length_cons]
theorem take_dg (w : Bool) (r : List UInt8) : ∀ x ∈ r.take (spn w r), dg w x = true := by
  have : r.take (spn w r) = r.takeWhile (dg w) := (List.prefix_iff_eq_take.1 (List.takeWhile_prefix _)).symm
  rw [this]
  exact fun x hx => List.all_eq_true.1 (List.all_takeWhile) x hx
def GT (x : Int × ByteArray × Int) : Prop := x.2.1.data.toList.length ≤ 100000 ∧ 1 ≤ x.2.1.data.toList.length ∧ ∀ s, Ok s → (x.2.1.data.toList ++ s).length ≤ 90000 → SA (x.2.1.data.toList ++ s) x.2.1.data.toList.length [x]
theorem txt_l (r : List UInt8) (n : Nat) : (txt r n).data.toList = r.take n := rfl
theorem txt_app (t s : List UInt8) : txt (t ++ s) t.length = ByteArray.mk t.toArray := by unfold txt; simp
theorem txt_e {t r : List UInt8} {n : Nat} (h : t = r.take n) : txt r n = ByteArray.mk t.toArray := by subst h; rfl
theorem tk_len {r : List UInt8} {n : Nat} (h : n ≤ r.length) : (r.take n).length = n := by rw [List.length_take]; omega
theorem sg_keep {c : UInt8} {r r2 s : List UInt8} (hs : Ok s) (hn : sg c r ≠ 0) (h : (c :: r).take (sg c r) ++ s = c :: r2) : sg c r2 = sg c r := by
  have hle := sg_le c r
  cases h2 : twoB (c :: r)
  · have e1 : sg c r = 1 := by
      unfold sg at hn ⊢
      rw [h2, cond_false] at hn ⊢
      cases h3 : decide (0 ≤ indexB ones (c.toNat : Int))
      · rw [h3] at hn; exact absurd rfl hn
      · rfl
    rw [e1] at h
    simp only [List.take_succ_cons, List.take_zero, List.cons_append, List.nil_append, List.cons.injEq, true_and] at h
    subst h
    have : twoB (c :: s) = false := by
      unfold twoB
      rcases hs with rfl | ⟨s', rfl⟩
      · rfl
      · have : hasS (txt (c :: 32 :: s') 2) twos = false := by
          unfold hasS txt twos
          simp
        rw [this, Bool.and_false]
    unfold sg
    rw [h2, this]
  · have e1 : sg c r = 2 := by unfold sg; rw [h2]; rfl
    have hl : 2 ≤ (c :: r).length := by rw [← e1]; exact hle
    have : twoB (c :: r2) = true := by
      have h2' := h2
      unfold twoB at h2' ⊢
      rw [Bool.and_eq_true] at h2' ⊢
      have ht : ((c :: r).take (sg c r)).length = 2 := by rw [tk_len hle, e1]
      rw [← h]
      refine ⟨by rw [decide_eq_true_iff, List.length_append, ht]; omega, ?_⟩
      have e2 := txt_app ((c :: r).take (sg c r)) s
      rw [ht] at e2
      rw [e2, ← txt_e rfl, e1]
      exact h2'.2
    rw [e1]
    unfold sg; rw [this]; rfl
theorem SA_of {r : List UInt8} {n : Nat} {x : Int × ByteArray × Int} (h : ∀ (b : List UInt8) (a : Nat) (l : List Tok), b.drop a = r → b.length ≤ 100000 → l.length ≤ 100000 → token_reader_next (rt b a l) = some (bif decide (4000 ≤ l.length) then (6, rt b a l) else (0, rt b (a + n) (l ++ [ta a x])))) : SA r n [x] := by
  intro b a l hr hb hl
  have e := h b a l hr hb hl
  refine ⟨fun q => ?_, fun _ q => ?_⟩
  · rw [e, decide_eq_false (by rcases q with q | q; cases q; omega), cond_false]; rfl
  · rw [e, decide_eq_true q, cond_true]
theorem cons_of {t s : List UInt8} {c : UInt8} {r : List UInt8} {n : Nat} (h1 : 1 ≤ n) (ht : t = (c :: r).take n) : ∃ r2, t ++ s = c :: r2 := by
  subst ht
  obtain ⟨m, rfl⟩ : ∃ m, n = m + 1 := ⟨n - 1, by omega⟩
  exact ⟨r.take m ++ s, by rw [List.take_succ_cons]; rfl⟩
theorem step_bk (c : UInt8) (r : List UInt8) (hrl : r.length ≤ 90000) : SE (c :: r) ∨ ∃ n new, 1 ≤ n ∧ n ≤ (c :: r).length ∧ SA (c :: r) n new ∧ (new = [] ∨ ∃ x, new = [x] ∧ GT x) := by
  cases k1 : kd c == 1
  rotate_left
  · refine .inr ⟨1, [], Nat.le_refl _, by simp, fun b a l hr hb hl => ⟨fun _ => ?_, fun h => absurd rfl h⟩, .inl rfl⟩
    rw [next_eq hr hb hl, k1]; simp
  cases k2 : kd c == 2
  rotate_left
  · by_cases q : 20 < spn true (c :: r)
    · refine .inl fun b a l hr hb hl => ⟨6, by decide, ?_⟩
      obtain ⟨_, h2, _⟩ := drop_at hr
      rw [next_eq hr hb hl, k1, k2, cond_false, cond_true, name2_eq (by omega) hb hl, hr, decide_eq_true q, cond_true]
    · have hn := spn_le true (c :: r)
      have hl := tk_len hn
      have hd := take_dg true (c :: r)
      have h1 : 1 ≤ spn true (c :: r) := dg_true (by unfold dg; rw [k2]; simp)
      refine .inr ⟨spn true (c :: r), [(bif wd (txt (c :: r) (spn true (c :: r))) then 3 else 1, txt (c :: r) (spn true (c :: r)), 0)], h1, hn, SA_of fun b a l hr hb hl => ?_, .inr ⟨_, rfl, ?_, ?_, fun s hs hsl => ?_⟩⟩
      · obtain ⟨_, h2, _⟩ := drop_at hr
        rw [next_eq hr hb hl, k1, k2, cond_false, cond_true, name2_eq (by omega) hb hl, hr, decide_eq_false q, cond_false]; rfl
      · rw [txt_l, hl]; simp only [List.length_cons] at hn; omega
      · rw [txt_l, hl]; exact h1
      · simp only [txt_l] at hsl ⊢
        rw [hl]
        refine SA_of fun b a l hr hb hll => ?_
        obtain ⟨r2, h3⟩ := cons_of (s := s) h1 rfl
        have hr' := hr.trans h3
        obtain ⟨_, h2, _⟩ := drop_at hr'
        have e1 : spn true ((c :: r).take (spn true (c :: r)) ++ s) = spn true (c :: r) := by rw [spn_all hs hd, hl]
        have e2 : txt ((c :: r).take (spn true (c :: r)) ++ s) (spn true (c :: r)) = txt (c :: r) (spn true (c :: r)) := by
          have := txt_app ((c :: r).take (spn true (c :: r))) s
          rw [hl] at this; exact this
        rw [next_eq hr' hb hll, k1, k2, cond_false, cond_true, name2_eq (by omega) hb hll, hr, e1, e2, decide_eq_false q, cond_false]; rfl
  cases k3 : kd c == 3
  rotate_left
  · obtain ⟨v, hv⟩ := dig_eq ((c :: r).take (spn false (c :: r))) (by have := spn_le false (c :: r); simp at this ⊢; omega)
    cases hbad : numBad c r (spn false (c :: r)) (spn true (c :: r))
    · cases v with
      | none =>
        refine .inl fun b a l hr hb hl => ?_
        have e := next_eq hr hb hl
        rw [k1, k2, k3, cond_false, cond_false, cond_true, number_eq hr hb hl _ hv, hbad, cond_false] at e
        by_cases q : 4000 ≤ l.length
        · exact ⟨6, by decide, by rw [e, decide_eq_true q, cond_true]⟩
        · exact ⟨4, by decide, by rw [e, decide_eq_false q, cond_false]; rfl⟩
      | some y =>
        have hn := spn_le false (c :: r)
        have hl := tk_len hn
        have hd := take_dg false (c :: r)
        have h1 : 1 ≤ spn false (c :: r) := dg_true (by unfold dg; rw [k3]; rfl)
        refine .inr ⟨spn false (c :: r), [(2, txt (c :: r) (spn false (c :: r)), IntKind.i64.wrap y)], h1, hn, SA_of fun b a l hr hb hl => ?_, .inr ⟨_, rfl, ?_, ?_, fun s hs hsl => ?_⟩⟩
        · rw [next_eq hr hb hl, k1, k2, k3, cond_false, cond_false, cond_true, number_eq hr hb hl _ hv, hbad, cond_false]; rfl
        · rw [txt_l, hl]; simp only [List.length_cons] at hn; omega
        · rw [txt_l, hl]; exact h1
        · simp only [txt_l] at hsl ⊢
          rw [hl]
          refine SA_of fun b a l hr hb hll => ?_
          obtain ⟨r2, h3⟩ := cons_of (s := s) h1 rfl
          have hr' := hr.trans h3
          have e1 : spn false ((c :: r).take (spn false (c :: r)) ++ s) = spn false (c :: r) := by rw [spn_all hs hd, hl]
          have e1' : spn true ((c :: r).take (spn false (c :: r)) ++ s) = spn false (c :: r) := by
            rw [spn_all hs (fun x hx => by have := hd x hx; unfold dg at this ⊢; simp at this ⊢; exact .inl this), hl]
          have e2 : txt ((c :: r).take (spn false (c :: r)) ++ s) (spn false (c :: r)) = txt (c :: r) (spn false (c :: r)) := by
            have := txt_app ((c :: r).take (spn false (c :: r))) s
            rw [hl] at this; exact this
          have e3 : ((c :: r).take (spn false (c :: r)) ++ s).take (spn false (c :: r)) = (c :: r).take (spn false (c :: r)) := by
            rw [List.take_append_of_le_length (by rw [hl]; exact Nat.le_refl _), List.take_of_length_le (by rw [hl]; exact Nat.le_refl _)]
          have hv2 : ∀ m0, loopM (digF ((c :: r2).take (spn false (c :: r2))) m0) ((0 : Int), (0 : Int)) = some (dv m0 (some y)) := by
            intro m0
            rw [← h3, e1, e3]; exact hv m0
          have hb2 : numBad c r2 (spn false (c :: r2)) (spn true (c :: r2)) = false := by
            rw [← h3, e1, e1']
            unfold numBad at hbad ⊢
            rw [Bool.or_eq_false_iff] at hbad ⊢
            exact ⟨by simp, hbad.2⟩
          rw [next_eq hr' hb hll, k1, k2, k3, cond_false, cond_false, cond_true, number_eq hr' hb hll (some y) hv2, hb2, cond_false]
          simp only [dn, dn']
          rw [← h3, e1, e2]; rfl
    · refine .inl fun b a l hr hb hl => ?_
      have e := next_eq hr hb hl
      rw [k1, k2, k3, cond_false, cond_false, cond_true, number_eq hr hb hl _ hv, hbad, cond_true] at e
      by_cases q : 4000 ≤ l.length
      · exact ⟨6, by decide, by rw [e, decide_eq_true q, cond_true]⟩
      · exact ⟨3, by decide, by rw [e, decide_eq_false q, cond_false]⟩
  · by_cases q : sg c r = 0
    · refine .inl fun b a l hr hb hl => ⟨3, by decide, ?_⟩
      rw [next_eq hr hb hl, k1, k2, k3, q]; rfl
    · have hn := sg_le c r
      have hl := tk_len hn
      refine .inr ⟨sg c r, [(3, txt (c :: r) (sg c r), 0)], by omega, hn, SA_of fun b a l hr hb hl => ?_, .inr ⟨_, rfl, ?_, ?_, fun s hs hsl => ?_⟩⟩
      · rw [next_eq hr hb hl, k1, k2, k3, cond_false, cond_false, cond_false, show (sg c r == 0) = false by simp [q], cond_false]; rfl
      · rw [txt_l, hl]; simp only [List.length_cons] at hn; omega
      · rw [txt_l, hl]; omega
      · simp only [txt_l] at hsl ⊢
        rw [hl]
        refine SA_of fun b a l hr hb hll => ?_
        obtain ⟨r2, h3⟩ := cons_of (s := s) (show 1 ≤ sg c r by omega) rfl
        have hr' := hr.trans h3
        have e1 := sg_keep hs q h3
        have e2 : txt (c :: r2) (sg c r) = txt (c :: r) (sg c r) := by
          have := txt_app ((c :: r).take (sg c r)) s
          rw [hl, h3] at this; exact this
        rw [next_eq hr' hb hll, k1, k2, k3, cond_false, cond_false, cond_false, e1, e2, show (sg c r == 0) = false by simp [q], cond_false]; rfl
end Go.Proofs.Ytnjeklpjjceppaa.Ab.Pq
namespace Go.Proofs.Ytnjeklpjjceppaa.Ab
open Go
set_option linter.all false
theorem lives10 : l10_lives = some true := (l10_lives_cle 90).of (by kernel_rfl)
end Go.Proofs.Ytnjeklpjjceppaa.Ab
namespace Go.Proofs.Ytnjeklpjjceppaa.Ab.Pq
open Go
set_option linter.all false
abbrev Q3 := Int × ByteArray × Int
def tv (t : Tok) : Q3 := (t.gKind, t.gText, t.gN)
noncomputable def rdP (n : Nat) (s25 : List UInt8 × Int × List TApiToken) : Option (Step (List UInt8 × Int × List TApiToken) ((List UInt8 × Int × List TApiToken) ⊕ (List TApiToken × Int × Int))) := (bif (decide (s25.2.1 < (n : Int))) then ((token_reader_next (⟨s25.1, s25.2.1, s25.2.2⟩ : TTokenReader)).bind fun x40 => (bif (x40.1 != (0 : Int)) then some (.done (.inr (([] : List TApiToken), x40.2.gAt, x40.1))) else some (.next (x40.2.gB, x40.2.gAt, x40.2.gL)))) else some (.done (.inl (s25.1, s25.2.1, s25.2.2))))
theorem rdP_lt {b : List UInt8} {a : Nat} {l : List Tok} (h : a < b.length) : rdP b.length (b, (a : Int), l) = ((token_reader_next (rt b a l)).bind fun x40 => (bif (x40.1 != (0 : Int)) then some (.done (.inr (([] : List TApiToken), x40.2.gAt, x40.1))) else some (.next (x40.2.gB, x40.2.gAt, x40.2.gL)))) := by
  unfold rdP
  simp only []
  rw [decide_eq_true (by omega), cond_true]; rfl
theorem rdP_end (b : List UInt8) (l : List Tok) : rdP b.length (b, (b.length : Int), l) = some (.done (.inl (b, (b.length : Int), l))) := by unfold rdP; simp
theorem rdP_next {b : List UInt8} {a a2 : Nat} {l l2 : List Tok} (h : a < b.length) (e : token_reader_next (rt b a l) = some (0, rt b a2 l2)) : rdP b.length (b, (a : Int), l) = some (.next (b, (a2 : Int), l2)) := by rw [rdP_lt h, e]; rfl
theorem rdP_err {b : List UInt8} {a : Nat} {l l2 : List Tok} {e : Int} (h : a < b.length) (he : e ≠ 0) (k : token_reader_next (rt b a l) = some (e, rt b a l2)) : rdP b.length (b, (a : Int), l) = some (.done (.inr ([], (a : Int), e))) := by
  rw [rdP_lt h, k, Option.bind_some]
  rw [show (((e, rt b a l2) : Int × TTokenReader).1 != 0) = true by simpa using he]; rfl
theorem read1 (b : List UInt8) (hb : b.length ≤ 20000) : ∀ (q a : Nat) (l : List Tok), b.length - a ≤ q → a ≤ b.length → l.length ≤ 4000 → (∀ t ∈ l, GT (tv t)) → (∃ l' : List Tok, (∀ t ∈ l', GT (tv t)) ∧ l'.length ≤ 4000 ∧ loopM (rdP b.length) (b, (a : Int), l) = some (.inl (b, (b.length : Int), l'))) ∨ (∃ (x e : Int), e ≠ 0 ∧ loopM (rdP b.length) (b, (a : Int), l) = some (.inr ([], x, e))) := by
  intro q
  induction q with
  | zero =>
    intro a l hq ha hl hg
    have : a = b.length := by omega
    subst this
    exact .inl ⟨l, hg, hl, loopM_done (rdP_end b l)⟩
  | succ q ih =>
    intro a l hq ha hl hg
    by_cases hlt : a < b.length
    rotate_left
    · have : a = b.length := by omega
      subst this
      exact .inl ⟨l, hg, hl, loopM_done (rdP_end b l)⟩
    obtain ⟨c, r, hr⟩ : ∃ c r, b.drop a = c :: r := by
      cases h : b.drop a with
      | nil => have := congrArg List.length h; simp at this; omega
      | cons c r => exact ⟨c, r, rfl⟩
    have hdl := congrArg List.length hr
    rw [List.length_drop, List.length_cons] at hdl
    rcases step_bk c r (by omega) with h | ⟨n, new, h1, h2, h3, h4⟩
    · obtain ⟨e, he, k⟩ := h b a l hr (by omega) (by omega)
      exact .inr ⟨(a : Int), e, he, loopM_done (rdP_err hlt he k)⟩
    · rw [List.length_cons] at h2
      obtain ⟨k1, k2⟩ := h3 b a l hr (by omega) (by omega)
      by_cases hc : new = [] ∨ l.length < 4000
      · rw [loopM_next (rdP_next hlt (k1 hc))]
        refine ih (a + n) _ (by omega) (by omega) ?_ ?_
        · rcases h4 with rfl | ⟨x, rfl, _⟩
          · simpa using hl
          · rcases hc with hc | hc
            · cases hc
            · rw [List.length_append]; simp; omega
        · intro t ht
          rcases List.mem_append.1 ht with ht | ht
          · exact hg t ht
          · rcases h4 with rfl | ⟨x, rfl, hx⟩
            · cases ht
            · simp only [List.map_cons, List.map_nil, List.mem_singleton] at ht
              subst ht; exact hx
      · rw [not_or] at hc
        exact .inr ⟨(a : Int), 6, by decide, loopM_done (rdP_err hlt (by decide) (k2 hc.1 (by omega)))⟩
def endT (b : List UInt8) : Tok := ⟨0, ByteArray.empty, 0, (b.length : Int)⟩
theorem read_a (b : List UInt8) : (∃ l : List Tok, (∀ t ∈ l, GT (tv t)) ∧ l.length ≤ 4000 ∧ token_Read b = some (l ++ [endT b], 0, 0)) ∨ (∃ (x e : Int), e ≠ 0 ∧ token_Read b = some ([], x, e)) := by
  unfold token_Read
  by_cases h : 20000 < b.length
  · rw [decide_eq_true (by omega), cond_true]
    exact .inr ⟨0, 6, by decide, rfl⟩
  rw [decide_eq_false (by omega), cond_false]
  have := read1 b (by omega) b.length 0 [] (by omega) (by omega) (Nat.zero_le _) (by simp)
  rw [show ((0 : Nat) : Int) = 0 from rfl] at this
  change (∃ l : List Tok, (∀ t ∈ l, GT (tv t)) ∧ l.length ≤ 4000 ∧ Option.bind (loopM (rdP b.length) (b, 0, [])) _ = _) ∨ (∃ (x e : Int), e ≠ 0 ∧ Option.bind (loopM (rdP b.length) (b, 0, [])) _ = _)
  rcases this with ⟨l', hg, hl, h1⟩ | ⟨x, e, he, h1⟩
  · refine .inl ⟨l', hg, hl, ?_⟩
    rw [h1, Option.bind_some]
    simp only [Sum.elim_inl]
    rw [app_len (by omega) (by simp; omega), Option.bind_some]; rfl
  · refine .inr ⟨x, e, he, ?_⟩
    rw [h1]; rfl
def J : List Q3 → List UInt8
  | [] => []
  | x :: xs => x.2.1.data.toList ++ 32 :: J xs
theorem readJ (b : List UInt8) (hb : b.length ≤ 20000) : ∀ (xs : List Q3) (a : Nat) (l : List Tok), b.drop a = J xs → a ≤ b.length → l.length + xs.length ≤ 4000 → (∀ x ∈ xs, GT x) → ∃ new : List Tok, new.map tv = xs ∧ loopM (rdP b.length) (b, (a : Int), l) = some (.inl (b, (b.length : Int), l ++ new))
  | [], a, l, hr, ha, hl, hg => by
    have hdl := congrArg List.length hr
    simp only [List.length_drop, J, List.length_nil] at hdl
    have : a = b.length := by omega
    subst this
    exact ⟨[], rfl, by rw [List.append_nil]; exact loopM_done (rdP_end b l)⟩
  | x :: xs, a, l, hr, ha, hl, hg => by
    obtain ⟨_, h1, hS⟩ := hg x (by simp)
    unfold J at hr
    rw [List.length_cons] at hl
    have hdl := congrArg List.length hr
    rw [List.length_drop, List.length_append, List.length_cons] at hdl
    have e1 := (hS (32 :: J xs) (.inr ⟨_, rfl⟩) (by rw [List.length_append, List.length_cons]; omega) b a l hr (by omega) (by omega)).1 (.inr (by omega))
    have hr2 : b.drop (a + x.2.1.data.toList.length) = 32 :: J xs := by
      rw [← List.drop_drop, hr, List.drop_append, List.drop_of_length_le (Nat.le_refl _), Nat.sub_self, List.nil_append, List.drop_zero]
    have e2 := next_eq hr2 (by omega) (l := l ++ [x].map (ta a)) (by simp; omega)
    rw [kd32] at e2
    simp only [beq_self_eq_true, cond_true] at e2
    have hr3 := (drop_at hr2).2.2
    obtain ⟨new, g1, g2⟩ := readJ b hb xs (a + x.2.1.data.toList.length + 1) (l ++ [x].map (ta a)) hr3 (by omega) (by simp; omega) (fun y hy => hg y (by simp [hy]))
    refine ⟨ta a x :: new, by rw [List.map_cons, g1]; rfl, ?_⟩
    rw [loopM_next (rdP_next (by omega) e1), loopM_next (rdP_next (by omega) e2), g2, List.append_assoc]
    rfl
theorem read_j {xs : List Q3} (hg : ∀ x ∈ xs, GT x) (hx : xs.length ≤ 4000) (hJ : (J xs).length ≤ 20000) : ∃ new : List Tok, new.map tv = xs ∧ token_Read (J xs) = some (new ++ [endT (J xs)], 0, 0) := by
  obtain ⟨new, h1, h2⟩ := readJ (J xs) hJ xs 0 [] rfl (Nat.zero_le _) (by simpa using hx) hg
  refine ⟨new, h1, ?_⟩
  have hn : new.length ≤ 4000 := by have := congrArg List.length h1; rw [List.length_map] at this; omega
  unfold token_Read
  rw [decide_eq_false (by omega), cond_false]
  change Option.bind (loopM (rdP (J xs).length) (J xs, ((0 : Nat) : Int), [])) _ = _
  rw [h2, Option.bind_some]
  simp only [Sum.elim_inl, List.nil_append]
  rw [app_len (by omega) (by simp; omega), Option.bind_some]; rfl
theorem J_len : ∀ xs : List Q3, (∀ x ∈ xs, GT x) → (J xs).length ≤ 100001 * xs.length
  | [], _ => by simp [J]
  | x :: xs, h => by
    have := J_len xs fun y hy => h y (by simp [hy])
    have := (h x (by simp)).1
    unfold J
    rw [List.length_append, List.length_cons, List.length_cons]
    omega
theorem join_two (x y : List UInt8) (r : List (List UInt8)) : Lib.join (x :: y :: r) [32] = x ++ 32 :: Lib.join (y :: r) [32] := by
  rw [Lib.join_cons, Lib.join_cons]
  simp [Lib.joinTail]
theorem join_J : ∀ xs : List Q3, Lib.join (xs.map (·.2.1.data.toList) ++ [[]]) [32] = J xs
  | [] => by simp [J, Lib.join_one]
  | [x] => by
    rw [List.map_cons, List.map_nil, List.cons_append, List.nil_append, join_two, Lib.join_one]; rfl
  | x :: y :: r => by
    have := join_J (y :: r)
    rw [List.map_cons, List.cons_append] at this
    rw [List.map_cons, List.map_cons, List.cons_append, List.cons_append, join_two, this]; rfl
theorem join_eq {l : List Tok} (b : List UInt8) (hg : ∀ t ∈ l, GT (tv t)) (hl : l.length ≤ 4000) : token_Join (l ++ [endT b]) = some ⟨(J (l.map tv)).toArray⟩ := by
  unfold token_Join
  have hL : (l ++ [endT b]).length ≤ 4001 := by rw [List.length_append]; simp; omega
  rw [show mkOK 16 (0 : Int) ((l ++ [endT b]).length : Int) = true by
    simp only [mkOK, Bool.and_eq_true, decide_eq_true_eq]; omega]
  simp only [need, cond_true, Option.bind_some]
  refine loop_list (l ++ [endT b]) (fun pre => pre.map (·.gText)) (fun a n => ((n : Int), a)) (fun a => a) (by simp) (fun pre x post hpp => ?_) ?_ ?_
  · have hp : pre.length < (l ++ [endT b]).length := by rw [hpp]; simp
    simp only [lt_pre hpp, cond_true]
    rw [idx_pre2 hpp rfl, Option.bind_some, app_len (by omega) (by simp; omega), Option.bind_some, inc_pre hpp (by omega), List.map_append]
    rfl
  · simp only [lt_end, cond_false]
  · have hj : joinB ((l ++ [endT b]).map (·.gText)) (ByteArray.mk #[32]) = ⟨(J (l.map tv)).toArray⟩ := by
      unfold joinB
      congr 2
      rw [← join_J, List.map_map, List.map_append, List.map_map]
      rfl
    have hlen := J_len (l.map tv) (fun x hx => by obtain ⟨t, ht, rfl⟩ := List.mem_map.1 hx; exact hg t ht)
    rw [List.length_map] at hlen
    rw [show joinOK ((l ++ [endT b]).map (·.gText)) (ByteArray.mk #[32]) = true by
      unfold joinOK
      rw [hj]
      simp only [Bool.and_eq_true, decide_eq_true_eq, List.length_map, ByteArray.size]
      simp only [List.size_toArray]
      omega]
    rw [hj]; rfl
theorem same_eq {l1 l2 : List Tok} (h : l1.map tv = l2.map tv) (hb : l1.length ≤ 100000) : r10_Same l1 l2 false = some true := by
  have hl : l1.length = l2.length := by simpa using congrArg List.length h
  unfold r10_Same
  rw [hl]
  simp only [bne_self_eq_false, cond_false]
  rw [← hl]
  refine any_list l1 (fun _ => false) (fun _ => false) (fun p x q hp => ?_) ?_ (fun _ => rfl) fun j _ h => by simp at h
  · have hx : l1[p.length]? = some x := by rw [hp]; simp
    have hm := congrArg (fun z => z[p.length]?) h
    simp only [List.getElem?_map, hx, Option.map_some] at hm
    obtain ⟨y, hy, hv⟩ := Option.map_eq_some_iff.1 hm.symm
    unfold tv at hv
    simp only [Prod.mk.injEq] at hv
    obtain ⟨v1, v2, v3⟩ := hv
    rw [lt_pre hp, cond_true, idx_pre2 hp rfl, idx_nat, hy, inc_pre hp (by omega)]
    simp only [Option.bind_some, v1, v2, v3, bne_self_eq_false, cond_false, decide_true, Bool.not_true]
  · rw [lt_end, cond_false]
theorem tokenBack_law (b : List UInt8) : l10_TokenBack b = some true := by
  unfold l10_TokenBack
  rcases read_a b with ⟨l, hg, hl, h1⟩ | ⟨x, e, he, h1⟩
  · rw [h1, Option.bind_some]
    rw [show (((l ++ [endT b], (0 : Int), (0 : Int)) : List Tok × Int × Int).2.2 != 0) = false from rfl, cond_false]
    show (token_Join (l ++ [endT b])).bind _ = _
    rw [join_eq b hg hl, Option.bind_some]
    have hG : ∀ x ∈ l.map tv, GT x := fun x hx => by obtain ⟨t, ht, rfl⟩ := List.mem_map.1 hx; exact hg t ht
    show (token_Read (J (l.map tv))).bind (fun x15 => bif decide ((20000 : Int) < (((J (l.map tv)).toArray.size : Nat) : Int)) then _ else _) = _
    rw [List.size_toArray]
    by_cases hJ : 20000 < (J (l.map tv)).length
    · have e1 : token_Read (J (l.map tv)) = some ([], 0, 6) := by
        unfold token_Read
        rw [decide_eq_true (by omega), cond_true]
      rw [e1, Option.bind_some, decide_eq_true (by omega), cond_true, lives10]; rfl
    · obtain ⟨new, g1, g2⟩ := read_j hG (by rw [List.length_map]; exact hl) (by omega)
      rw [g2, Option.bind_some, decide_eq_false (by omega), cond_false]
      show (r10_Same (l ++ [endT b]) (new ++ [endT (J (l.map tv))]) false).bind _ = _
      rw [same_eq (by rw [List.map_append, List.map_append, g1]; rfl) (by rw [List.length_append]; simp; omega), Option.bind_some, cond_true, lives10]; rfl
  · rw [h1, Option.bind_some]
    rw [show ((([], x, e) : List Tok × Int × Int).2.2 != 0) = true by simpa using he, cond_true]
    show Option.bind (bif ((0 : Int) == 0) then _ else _) _ = _
    rw [lives10]; rfl
end Go.Proofs.Ytnjeklpjjceppaa.Ab.Pq
namespace Go.Proofs.Ytnjeklpjjceppaa.Ab
open Go
set_option linter.all false
def fieldsOK (tab : List (Option TI)) (ts : List Nat) : Nat → List (Nat × Nat) → Option Nat
  | off, [] => some off
  | off, (ty, o) :: fs => match ti tab ty with
    | some i => bif Nat.beq o off && ts.contains ty then fieldsOK tab ts (off + i.size) fs else none
    | none => none
def typeOK (tab : List (Option TI)) (ts : List Nat) (t : Nat) : Bool :=
  match ti tab t with
  | some i => match i.d with
    | .bool => Nat.beq i.size 1
    | .int _ => Nat.beq i.size 1
    | .str => Nat.beq i.size 1
    | .slice e => ts.contains e && Nat.beq i.size 1 && (match ti tab e with | some ie => Nat.ble 1 ie.size | none => false)
    | .struct fs => match fieldsOK tab ts 0 fs with
      | some n => Nat.beq n i.size
      | none => false
    | .array n e => ts.contains e && (match ti tab e with | some ie => Nat.beq i.size (n * ie.size) | none => false)
    | _ => false
  | none => false
def closedT (tab : List (Option TI)) (ts : List Nat) : Bool := ts.all (typeOK tab ts)
def GoodT (tab : List (Option TI)) : Nat → Nat → D → Prop
  | 0, _, _ => False
  | n + 1, t, d => ∃ i, ti tab t = some i ∧ match i.d with
    | .bool => ∃ b, d = .v (.bool b)
    | .int k => ∃ m, d = .v (.int k m) ∧ (Lit.int k m).wf = true
    | .str => ∃ s : ByteArray, d = .v (.string s) ∧ s.size ≤ maxLen
    | .slice e => ∃ ie xs, ti tab e = some ie ∧ d = .lst ie.size xs .no ∧ xs.length ≤ maxLen ∧ ∀ x ∈ xs, GoodT tab n e x
    | .struct fs => ∃ ds : List D, d = .agg (ds.flatMap dcells) ∧ ds.length = fs.length ∧ ∀ (j : Nat) (f : Nat × Nat) (d0 : D), fs[j]? = some f → ds[j]? = some d0 → GoodT tab n f.1 d0
    | .array m e => ∃ ds : List D, d = .agg (ds.flatMap dcells) ∧ ds.length = m ∧ ∀ x ∈ ds, GoodT tab n e x
    | _ => False
section
variable {H : Type} {enc : TypeId × Value → H} {P : Program} {w : World} {base : Nat} {spare : Nat → Bool} {held : Bool} {tab : List (Option TI)} {ts : List Nat}
theorem cellsOf_ti (hT : TabOK P tab) {t : TypeId} {i : TI} (h : ti tab t = some i) : P.cellsOf t = i.size := by
  obtain ⟨tf, z, dd, h1, _, _, h2, _⟩ := tiOf_inv (ti_ok hT h)
  simp [Program.cellsOf, h1, h2]
def allOf (w : World) : Hp := fun a => w.cell? a
theorem ag_all (w : World) : Ag (allOf w) w := fun _ _ h => h
def Rd (tab : List (Option TI)) (w : World) (n t : Nat) (cs : List Value) (d : D) : Prop :=
  ∃ i, ti tab t = some i ∧ RepC (allOf w) d cs ∧ Reps (allOf w) (dcells d) cs ∧ cs.length = i.size ∧ (dcells d).length = i.size ∧ GoodT tab n t d
theorem rd_fields (hT : TabOK P tab) {n : Nat} {cs : List Value} (ih : ∀ t cs x, ts.contains t = true → DataW.trod enc P w base spare held n t cs = some x → ∃ d, Rd tab w n t cs d) :
    ∀ (gs : List Field) (off total : Nat), fieldsOK tab ts off (gs.map fun f => (f.type, f.offset)) = some total → total ≤ cs.length → (∀ f ∈ gs, ∃ y, DataW.trod enc P w base spare held n f.type ((cs.drop f.offset).take (P.cellsOf f.type)) = some y) →
      off ≤ total ∧ ∃ ds : List D, ds.length = gs.length ∧ Reps (allOf w) (ds.flatMap dcells) ((cs.drop off).take (total - off)) ∧ (ds.flatMap dcells).length = total - off ∧ ∀ (j : Nat) (f : Nat × Nat) (d0 : D), (gs.map fun f => (f.type, f.offset))[j]? = some f → ds[j]? = some d0 → GoodT tab n f.1 d0
  | [], off, total, h, _, _ => by
    simp [fieldsOK] at h; subst h
    exact ⟨Nat.le_refl _, [], rfl, by simp [Reps], by simp, fun j f d0 e => by simp at e⟩
  | g :: gs, off, total, h, hl, hy => by
    simp only [List.map_cons, fieldsOK] at h
    split at h
    · rename_i i hi
      cases hb : (Nat.beq g.offset off && ts.contains g.type) with
      | false => rw [hb] at h; cases h
      | true =>
        rw [hb] at h
        simp only [cond_true] at h
        simp only [Bool.and_eq_true] at hb
        have ho := Nat.eq_of_beq_eq_true hb.1
        obtain ⟨y, hy0⟩ := hy g (by simp)
        obtain ⟨d, i', hi', h1, h2, h3, h4, h5⟩ := ih _ _ y hb.2 hy0
        rw [hi] at hi'; cases hi'
        obtain ⟨hle, ds, e1, e2, e3, e4⟩ := rd_fields hT ih gs (off + i.size) total h hl fun f hf => hy f (by simp [hf])
        rw [cellsOf_ti hT hi, ho] at h2
        refine ⟨by omega, d :: ds, by simp [e1], ?_, by simp [h4, e3]; omega, ?_⟩
        · simp only [List.flatMap_cons]
          have := reps_append h2 e2
          have e : (cs.drop off).take i.size ++ (cs.drop (off + i.size)).take (total - (off + i.size)) = (cs.drop off).take (total - off) := by
            rw [show total - off = i.size + (total - (off + i.size)) by omega, List.take_add, List.drop_drop]
          rwa [e] at this
        · intro j f d0 hf hd
          cases j with
          | zero => simp at hf hd; subst hf; subst hd; exact h5
          | succ j => exact e4 j f d0 (by simpa using hf) (by simpa using hd)
    · cases h
theorem rd_elems {n e sz b off : Nat} {ie : TI} (hie : ti tab e = some ie) (hsz : ie.size = sz) (he : ts.contains e = true) (ih : ∀ t cs x, ts.contains t = true → DataW.trod enc P w base spare held n t cs = some x → ∃ d, Rd tab w n t cs d) :
    ∀ (m i0 : Nat), (∀ i, i0 ≤ i → i < i0 + m → ∃ cs y, w.cells? base ((⟨b, off, none⟩ : Addr).add (i * sz)) sz = some cs ∧ DataW.trod enc P w base spare held n e cs = some y) →
      ∃ xs : List D, xs.length = m ∧ Els (allOf w) sz b (off + i0 * sz) xs ∧ ∀ x ∈ xs, GoodT tab n e x
  | 0, i0, _ => ⟨[], rfl, by simp [Els], by simp⟩
  | m + 1, i0, h => by
    obtain ⟨cs, y, h1, h2⟩ := h i0 (Nat.le_refl _) (by omega)
    obtain ⟨d, i', hi', g1, g2, g3, g4, g5⟩ := ih e cs y he h2
    rw [hie] at hi'; cases hi'
    obtain ⟨xs, f1, f2, f3⟩ := rd_elems hie hsz he ih m (i0 + 1) fun i hi hi' => h i (by omega) (by omega)
    refine ⟨d :: xs, by simp [f1], ?_, ?_⟩
    · simp only [Els]
      refine ⟨⟨cs, by rw [g3, hsz], g1, fun j u hj => ?_, reps_one g2⟩, ?_⟩
      · obtain ⟨_, hlen, hc⟩ := World.cells?_some h1
        have hjl : j < sz := by rw [← hlen]; exact (List.getElem?_eq_some_iff.1 hj).1
        have := hc j hjl
        rw [addr_add, addr_add] at this
        show w.cell? _ = _
        rw [this]; exact hj
      · rw [show off + i0 * sz + sz = off + (i0 + 1) * sz by rw [Nat.add_mul]; omega]; exact f2
    · intro x hx
      rcases List.mem_cons.1 hx with rfl | hx
      · exact g5
      · exact f3 x hx
theorem rd_arr {n e sz : Nat} {ie : TI} {cs : List Value} (hie : ti tab e = some ie) (hsz : ie.size = sz) (he : ts.contains e = true) (ih : ∀ t cs x, ts.contains t = true → DataW.trod enc P w base spare held n t cs = some x → ∃ d, Rd tab w n t cs d) :
    ∀ (m i0 : Nat), (∀ i, i0 ≤ i → i < i0 + m → ∃ y, DataW.trod enc P w base spare held n e ((cs.drop (i * sz)).take sz) = some y) →
      ∃ ds : List D, ds.length = m ∧ Reps (allOf w) (ds.flatMap dcells) ((cs.drop (i0 * sz)).take (m * sz)) ∧ (ds.flatMap dcells).length = m * sz ∧ ∀ x ∈ ds, GoodT tab n e x
  | 0, i0, _ => ⟨[], rfl, by simp [Reps], by simp, by simp⟩
  | m + 1, i0, h => by
    obtain ⟨y, h2⟩ := h i0 (Nat.le_refl _) (by omega)
    obtain ⟨d, i', hi', g1, g2, g3, g4, g5⟩ := ih e _ y he h2
    rw [hie] at hi'; cases hi'
    obtain ⟨ds, f1, f2, f3, f4⟩ := rd_arr hie hsz he ih m (i0 + 1) fun i hi hi' => h i (by omega) (by omega)
    refine ⟨d :: ds, by simp [f1], ?_, ?_, ?_⟩
    · simp only [List.flatMap_cons]
      have := reps_append g2 f2
      have e2 : (cs.drop (i0 * sz)).take sz ++ (cs.drop ((i0 + 1) * sz)).take (m * sz) = (cs.drop (i0 * sz)).take ((m + 1) * sz) := by
        rw [show (m + 1) * sz = sz + m * sz by rw [Nat.add_mul]; omega, List.take_add, List.drop_drop, show i0 * sz + sz = (i0 + 1) * sz by rw [Nat.add_mul]; omega]
      rwa [e2] at this
    · simp only [List.flatMap_cons, List.length_append, f3, g4, hsz]
      rw [Nat.add_mul]; omega
    · intro x hx
      rcases List.mem_cons.1 hx with rfl | hx
      · exact g5
      · exact f4 x hx
theorem rd (hT : TabOK P tab) (hc : closedT tab ts = true) : ∀ (n : Nat) (t : TypeId) (cs : List Value) (x : DataW H × List MemPlace), ts.contains t = true → DataW.trod enc P w base spare held n t cs = some x → ∃ d, Rd tab w n t cs d := by
  intro n
  induction n with
  | zero => intro t cs x _ h; simp [DataW.trod] at h
  | succ n ih =>
    intro t cs x ht h
    have hok : typeOK tab ts t = true := by
      unfold closedT at hc
      rw [List.all_eq_true] at hc
      exact hc t (by simpa using ht)
    unfold typeOK at hok
    split at hok
    · rename_i i hi
      obtain ⟨tf, z, dd, h1, h2, h3, h4, _⟩ := tiOf_inv (ti_ok hT hi)
      split at hok
      · rename_i hd
        have hs := Nat.eq_of_beq_eq_true hok
        obtain ⟨b, rfl, _⟩ := DataW.trod_bool (by rw [h2, td_bool (h3.trans hd)]) h
        refine ⟨.v (.bool b), i, hi, by simp [RepC], ?_, by simp [hs], by simp [dcells, hs], ?_⟩
        · simp only [dcells, Reps]; exact ⟨_, _, rfl, ⟨by simp [RepC], rfl, rfl⟩, rfl⟩
        · unfold GoodT; exact ⟨i, hi, by rw [hd]; exact ⟨b, rfl⟩⟩
      · rename_i k hd
        have hs := Nat.eq_of_beq_eq_true hok
        obtain ⟨m, rfl, _, hwf⟩ := DataW.trod_int (by rw [h2, td_int (h3.trans hd)]) h
        refine ⟨.v (.int k m), i, hi, by simp [RepC], ?_, by simp [hs], by simp [dcells, hs], ?_⟩
        · simp only [dcells, Reps]; exact ⟨_, _, rfl, ⟨by simp [RepC], rfl, rfl⟩, rfl⟩
        · unfold GoodT; exact ⟨i, hi, by rw [hd]; exact ⟨m, rfl, hwf⟩⟩
      · rename_i hd
        have hs := Nat.eq_of_beq_eq_true hok
        obtain ⟨s, rfl, _, hwf⟩ := DataW.trod_string (by rw [h2, td_str (h3.trans hd)]) h
        refine ⟨.v (.string s), i, hi, by simp [RepC], ?_, by simp [hs], by simp [dcells, hs], ?_⟩
        · simp only [dcells, Reps]; exact ⟨_, _, rfl, ⟨by simp [RepC], rfl, rfl⟩, rfl⟩
        · unfold GoodT; exact ⟨i, hi, by rw [hd]; exact ⟨s, rfl, hwf⟩⟩
      · rename_i e hd
        simp only [Bool.and_eq_true] at hok
        obtain ⟨⟨he, hs⟩, hsz⟩ := hok
        have hs := Nat.eq_of_beq_eq_true hs
        split at hsz
        · rename_i ie hie
          have hsz := Nat.le_of_ble_eq_true hsz
          rcases DataW.trod_slice (by rw [h2, td_slice (h3.trans hd)]) h with ⟨rfl, _⟩ | ⟨a, len, cap, elems, rest, n', hf, rfl, _, hb, hlc, hcm, hel, hcells, _, _⟩
          · have hr : RepC (allOf w) (.lst ie.size [] .no) [.slice none 0 0] := by
              simp only [RepC, CapOK]; exact ⟨_, rfl, trivial, .inl ⟨by trivial, none, 0, rfl, fun _ => rfl⟩⟩
            refine ⟨.lst ie.size [] .no, i, hi, hr, ?_, by simp [hs], by simp [dcells, hs], ?_⟩
            · simp only [dcells, Reps]; exact ⟨_, _, rfl, ⟨hr, rfl, rfl⟩, rfl⟩
            · unfold GoodT; exact ⟨i, hi, by rw [hd]; exact ⟨ie, [], hie, rfl, by simp, by simp⟩⟩
          · have : n' = n := by omega
            subst this
            rw [cellsOf_ti hT hie] at hcells
            rcases Nat.eq_zero_or_pos len with hz | hpos
            · subst hz
              have hr : RepC (allOf w) (.lst ie.size [] .no) [.slice (some a) 0 cap] := by
                simp only [RepC, CapOK]; exact ⟨_, rfl, trivial, .inl ⟨by trivial, some a, cap, rfl, fun q => by cases q⟩⟩
              refine ⟨.lst ie.size [] .no, i, hi, hr, ?_, by simp [hs], by simp [dcells, hs], ?_⟩
              · simp only [dcells, Reps]; exact ⟨_, _, rfl, ⟨hr, rfl, rfl⟩, rfl⟩
              · unfold GoodT; exact ⟨i, hi, by rw [hd]; exact ⟨ie, [], hie, rfl, by simp, by simp⟩⟩
            · have hsome : ∀ j, j < len → ∃ cs y, w.cells? base (a.add (j * ie.size)) ie.size = some cs ∧ DataW.trod enc P w base spare held n' e cs = some y := by
                intro j hj
                have hj2 := hcells j hj
                rw [List.getElem?_eq_getElem (by omega)] at hj2
                rw [Option.bind_eq_some_iff] at hj2
                obtain ⟨cs, q1, q2⟩ := hj2
                exact ⟨cs, _, q1, q2⟩
              have hspot : a.spot = none := by
                obtain ⟨cs, y, q1, _⟩ := hsome 0 hpos
                obtain ⟨_, hlen, hcc⟩ := World.cells?_some q1
                have q2 := hcc 0 (by omega)
                rw [List.getElem?_eq_getElem (by omega)] at q2
                have q3 : (a.add (0 * ie.size)).add 0 = a := by simp [Addr.add]
                rw [q3] at q2
                cases hsp : a.spot with
                | none => rfl
                | some s =>
                  unfold World.cell? at q2
                  split at q2
                  · simp [hsp] at q2
                  · cases q2
              obtain ⟨b, off, sp⟩ := a
              simp only at hspot; subst hspot
              obtain ⟨xs, f1, f2, f3⟩ := rd_elems (spare := spare) (held := held) (enc := enc) (P := P) (base := base) hie rfl he ih len 0 fun j _ hj => hsome j (by omega)
              have hr : RepC (allOf w) (.lst ie.size xs .no) [.slice (some ⟨b, off, none⟩) len cap] := by
                simp only [RepC, CapOK]
                refine ⟨_, rfl, trivial, .inr ⟨b, off, cap, by rw [f1], by rw [f1]; exact hlc, by simpa using f2⟩⟩
              refine ⟨.lst ie.size xs .no, i, hi, hr, ?_, by simp [hs], by simp [dcells, hs], ?_⟩
              · simp only [dcells, Reps]; exact ⟨_, _, rfl, ⟨hr, rfl, rfl⟩, rfl⟩
              · unfold GoodT; exact ⟨i, hi, by rw [hd]; exact ⟨ie, xs, hie, rfl, by rw [f1]; omega, f3⟩⟩
        · cases hsz
      · rename_i fs hd
        split at hok
        · rename_i tot hfo
          have hs := Nat.eq_of_beq_eq_true hok
          obtain ⟨gs, e1, e2⟩ := td_struct (h3.trans hd)
          obtain ⟨xs, n', hf, _, hl, hxl, hx⟩ := DataW.trod_struct (by rw [h2, e1]) h
          have : n' = n := by omega
          subst this
          rw [cellsOf_ti hT hi] at hl
          obtain ⟨_, ds, f1, f2, f3, f4⟩ := rd_fields hT (cs := cs) ih gs.toList 0 tot (by rw [e2]; exact hfo) (by omega) fun f hfm => by
            obtain ⟨j, hj⟩ := List.getElem?_of_mem hfm
            have hj' : gs[j]? = some f := by simpa using hj
            have q := hx j f hj'
            have hjl : j < xs.length := by rw [hxl]; exact (Array.getElem?_eq_some_iff.1 hj').1
            rw [List.getElem?_eq_getElem hjl] at q
            exact ⟨_, q⟩
          simp only [List.drop_zero, Nat.sub_zero] at f2 f3
          rw [List.take_of_length_le (by omega)] at f2
          refine ⟨.agg (ds.flatMap dcells), i, hi, by simp only [RepC]; exact f2, f2, hl, by simp only [dcells]; omega, ?_⟩
          unfold GoodT
          exact ⟨i, hi, by rw [hd]; exact ⟨ds, rfl, by rw [f1, ← e2]; simp, fun j f d0 q1 q2 => f4 j f d0 (by rw [e2]; exact q1) q2⟩⟩
        · cases hok
      · rename_i m e hd
        simp only [Bool.and_eq_true] at hok
        obtain ⟨he, hsz⟩ := hok
        split at hsz
        · rename_i ie hie
          have hsz := Nat.eq_of_beq_eq_true hsz
          obtain ⟨xs, n', hf, _, hl, hxl, hx⟩ := DataW.trod_array (by rw [h2, td_array (h3.trans hd)]) h
          have : n' = n := by omega
          subst this
          rw [cellsOf_ti hT hi] at hl
          rw [cellsOf_ti hT hie] at hx
          obtain ⟨ds, f1, f2, f3, f4⟩ := rd_arr (cs := cs) hie rfl he ih m 0 fun j _ hj => by
            have q := hx j (by omega)
            rw [List.getElem?_eq_getElem (by omega)] at q
            exact ⟨_, q⟩
          simp only [Nat.zero_mul, List.drop_zero] at f2
          rw [List.take_of_length_le (by omega)] at f2
          refine ⟨.agg (ds.flatMap dcells), i, hi, by simp only [RepC]; exact f2, f2, hl, by simp only [dcells]; omega, ?_⟩
          unfold GoodT
          exact ⟨i, hi, by rw [hd]; exact ⟨ds, rfl, f1, f4⟩⟩
        · cases hsz
      · cases hok
    · cases hok
end
end Go.Proofs.Ytnjeklpjjceppaa.Ab
namespace Go.Proofs.Ytnjeklpjjceppaa.Ab
open Go
set_option linter.all false
section
variable {P : Program} {tab : List (Option TI)} {n t : Nat} {i : TI} {d : D}
theorem good_int {k : IntKind} (hi : ti tab t = some i) (hd : i.d = .int k) (g : GoodT tab n t d) : ∃ m, d = .v (.int k m) ∧ (Lit.int k m).wf = true := by
  cases n with
  | zero => simp [GoodT] at g
  | succ n =>
    unfold GoodT at g
    obtain ⟨i', h1, h2⟩ := g
    rw [hi] at h1; cases h1
    rw [hd] at h2; exact h2
theorem good_slice {e : Nat} {ie : TI} (hi : ti tab t = some i) (hd : i.d = .slice e) (he : ti tab e = some ie) (g : GoodT tab n t d) : ∃ (n' : Nat) (xs : List D), n = n' + 1 ∧ d = .lst ie.size xs .no ∧ xs.length ≤ maxLen ∧ ∀ x ∈ xs, GoodT tab n' e x := by
  cases n with
  | zero => simp [GoodT] at g
  | succ n =>
    unfold GoodT at g
    obtain ⟨i', h1, h2⟩ := g
    rw [hi] at h1; cases h1
    rw [hd] at h2
    obtain ⟨ie', xs, h3, h4, h5, h6⟩ := h2
    rw [he] at h3; cases h3
    exact ⟨n, xs, rfl, h4, h5, h6⟩
theorem good_u8 (hi : ti tab t = some i) (hd : i.d = .int .u8) (g : GoodT tab n t d) : ∃ c : UInt8, d = byteD c := by
  obtain ⟨m, rfl, h⟩ := good_int hi hd g
  simp [Lit.wf, IntKind.min, IntKind.max, IntKind.signed, IntKind.bits] at h
  refine ⟨UInt8.ofNat m.toNat, ?_⟩
  unfold byteD
  have e : ((UInt8.ofNat m.toNat).toNat : Int) = m := by
    rw [UInt8.toNat_ofNat']
    omega
  rw [e]
theorem good_list {α : Type} {f : α → D} {K : α → Prop} {p : D → Prop} (h : ∀ x, p x → ∃ y, x = f y ∧ K y) : ∀ (xs : List D), (∀ x ∈ xs, p x) → ∃ ys : List α, xs = ys.map f ∧ ∀ y ∈ ys, K y
  | [], _ => ⟨[], rfl, by simp⟩
  | x :: xs, hx => by
    obtain ⟨y, rfl, hy⟩ := h x (hx x (by simp))
    obtain ⟨ys, rfl, hys⟩ := good_list h xs fun z hz => hx z (by simp [hz])
    refine ⟨y :: ys, rfl, fun z hz => ?_⟩
    rcases List.mem_cons.1 hz with rfl | hz
    · exact hy
    · exact hys z hz
theorem shape_of {w : World} {r : Reach} {base : Nat} {v : Value} (hT : TabOK P tab) (hv : Value.okWide P w r base t v) (g : GoodT tab n t d) : d.shape v = true := by
  cases n with
  | zero => simp [GoodT] at g
  | succ n =>
    unfold GoodT at g
    obtain ⟨i, hi, g⟩ := g
    obtain ⟨tf, z, dd, h1, h2, h3, _⟩ := tiOf_inv (ti_ok hT hi)
    unfold Value.okWide at hv
    rw [h2] at hv
    split at g
    · rename_i hd
      have := td_bool (h3.trans hd); subst this
      obtain ⟨b, rfl⟩ := g
      cases v <;> first | rfl | (simp [Cell.okWide, Cell.ok, h2] at hv)
    · rename_i k hd
      have := td_int (h3.trans hd); subst this
      obtain ⟨b, rfl, _⟩ := g
      cases v <;> first | rfl | (simp [Cell.okWide, Cell.ok, h2] at hv)
    · rename_i hd
      have := td_str (h3.trans hd); subst this
      obtain ⟨b, rfl, _⟩ := g
      cases v <;> first | rfl | (simp [Cell.okWide, Cell.ok, h2] at hv)
    · rename_i e hd
      have := td_slice (h3.trans hd); subst this
      obtain ⟨ie, xs, _, rfl, _⟩ := g
      cases v <;> first | rfl | (simp [Cell.okWide, Cell.ok, h2] at hv)
    · rename_i fs hd
      obtain ⟨gs, rfl, _⟩ := td_struct (h3.trans hd)
      obtain ⟨ds, rfl, _⟩ := g
      simp only at hv
      obtain ⟨cs, rfl, _⟩ := hv
      rfl
    · rename_i m e hd
      have := td_array (h3.trans hd); subst this
      obtain ⟨ds, rfl, _⟩ := g
      simp only at hv
      obtain ⟨cs, rfl, _⟩ := hv
      rfl
    · exact g.elim
theorem rd_arg {H : Type} {enc : TypeId × Value → H} {w : World} {base : Nat} {spare : Nat → Bool} {held : Bool} {v : Value} {x : DataW H} {ps : List MemPlace} {r : Reach} {b0 : Nat} (hT : TabOK P tab) (ts : List Nat) (hc : closedT tab ts = true) (ht : ts.contains t = true)
    (hv : Value.okWide P w r b0 t v) (h : DataW.Trod enc P w base spare held t v x ps) : ∃ n d, GoodT tab n t d ∧ Rep (allOf w) d v := by
  obtain ⟨n, hn⟩ := h
  obtain ⟨d, i, h1, h2, h3, h4, h5, h6⟩ := rd hT hc n t _ _ ht hn
  exact ⟨n, d, h6, h2, shape_of hT hv h6⟩
end
end Go.Proofs.Ytnjeklpjjceppaa.Ab
namespace Go.Proofs.Ytnjeklpjjceppaa
open Go.ChangeShapes Go.WideShapes Go.ChangeAt Go.RowKit Go.Joins
set_option linter.all false
theorem own : ownKnob Try.prog.godebug = none := by kernel_rfl
theorem laidOut' : laidOutB Try.prog = true := by kernel_rfl
theorem args_back {H : Type} {enc : TypeId × Value → H} {P : Program} {W : World} (hl : laidOutB P = true) : ∀ {ts : List TypeId} {vs : List Value} {ds : List (DataW H)} {ps : List MemPlace},
    (ts.all fun t => P.readableRec t && decide (t < P.types.size)) = true → DataW.TrodAll enc P W 0 (fun _ => true) true ts vs ds ps → (∀ x ∈ ps, x.block < W.heap.size) → ∀ W', Below W.heap.size W W' →
    ∀ sp : Nat → Bool, (∀ x ∈ ps, sp x.block = true) → DataW.TrodAll enc P W' 0 sp true ts vs ds ps
  | [], vs, ds, ps, _, h, _, W', hb, sp, hsp => by
    obtain ⟨rfl, rfl, rfl⟩ := trodAll_nil h
    exact trodAll_mk0
  | t :: ts, vs, ds, ps, hr, h, hlt, W', hb, sp, hsp => by
    obtain ⟨v, vs', d, ds', p, q, rfl, rfl, rfl, h0, h1⟩ := trodAll_cons h
    simp only [List.all_cons, Bool.and_eq_true, decide_eq_true_eq] at hr
    exact trodAll_cons_mk (WideElems.Trod_stays hl hr.1.1 hr.1.2 h0 (fun x hx => hb.same (hlt x (by simp [hx]))) (fun x hx => hsp x (by simp [hx])))
      (args_back hl hr.2 h1 (fun x hx => hlt x (by simp [hx])) W' hb sp (fun x hx => hsp x (by simp [hx])))
end Go.Proofs.Ytnjeklpjjceppaa
namespace Go.Proofs.Ytnjeklpjjceppaa.Ab
open Go
set_option linter.all false
section
variable {H : Type} {enc : TypeId × Value → H} {P : Program} {w : World} {base : Nat} {spare : Nat → Bool} {held : Bool} {tab : List (Option TI)} {ts : List Nat}
end
end Go.Proofs.Ytnjeklpjjceppaa.Ab
namespace Go.Proofs.Ytnjeklpjjceppaa.Ab
open Go
set_option linter.all false
def wfL22 : List UInt8 → Prop := (fun y => (y.length ≤ maxLen ∧ ∀ z ∈ y, True))
theorem goodL22 {n : Nat} {d : D} (g : GoodT tab n 22 d) : ∃ x : List UInt8, d = .lst 1 (x.map byteD) .no ∧ wfL22 x := by
  obtain ⟨n1, zs1, _, rfl, hl1, hz1⟩ := good_slice ti22 rfl ti5 (g)
  obtain ⟨x1, rfl, w1⟩ := good_list (f := byteD) (K := (fun y => True)) (p := fun x => GoodT tab n1 5 x) (fun x hx => by obtain ⟨x2, rfl⟩ := good_u8 ti5 rfl (hx); exact ⟨x2, rfl, trivial⟩) zs1 hz1
  exact ⟨x1, rfl, ⟨by simpa using hl1, w1⟩⟩
theorem TokenBack_true (a0 : List UInt8) (_ : wfL22 a0) : l10_TokenBack a0 = some true := Pq.tokenBack_law a0
end Go.Proofs.Ytnjeklpjjceppaa.Ab
namespace Go.Proofs.Ytnjeklpjjceppaa
open Go.ChangeShapes Go.WideShapes Go.ChangeAt Go.RowKit Go.Joins
set_option linter.all false
set_option maxRecDepth 100000 in
theorem liftedTokenBack (os : Os) (started : os.Started) (H : Type) (enc : TypeId × Value → H) :
    ReturnsInHanded {} Try.checked os 4 .any (Rows.tokenBackSpec.pre6 enc Try.prog Try.f4 Rows.tokenBackRow.domain false) (Rows.tokenBackSpec.post enc Try.prog Try.f4 false true false false) := by
  refine returnsInHanded_of_change (C := Try.checked) own started (by kernel_rfl) Try.func4
    (ChangeSpec.witness6 (enc := enc) (C := Try.checked) false ⟨#[], #[.slice none 0 0], []⟩ 8 (by kernel_rfl) (by kernel_rfl) (by kernel_rfl) (by kernel_rfl)) ?_
  intro W base args ds gs before hval0 hW hcnd _
  have hval : ∀ (j : Nat) t v, Try.f4.params[j]? = some t → args[j]? = some v → Value.okWide Try.prog W .any base t v := hval0
  have hW' := hW
  obtain ⟨p, q, hA0, hV, rfl, hfz, hnd⟩ := hW
  have hA : DataW.TrodAll enc Try.prog W 0 (fun _ => true) true Try.f4.params.toList args.toList ds p := hA0
  obtain ⟨rfl, rfl⟩ := trodVars_none hV
  simp only [List.append_nil] at hW'
  have hback := args_back laidOut' (by kernel_rfl) hA (fun x hx => hW'.lt x hx)
  rw [Try.params4] at hA hval
  obtain ⟨v0, vs0, d0, ds0, p0, q0, hargs, rfl, hp0, h0, r0⟩ := trodAll_cons hA
  obtain ⟨rfl, rfl, hpn⟩ := trodAll_nil r0
  obtain rfl : args = #[v0] := by cases args; simp_all
  obtain ⟨n0, x0, g0, rep0⟩ := Ab.rd_arg (t := 22) Ab.htab [5, 22] (by kernel_rfl) (by kernel_rfl) (hval 0 22 v0 rfl rfl) h0
  obtain ⟨a0, rfl, k0⟩ := Ab.goodL22 g0
  clear hA0 hval0
  refine (Ab.to_calls (us := #[v0]) (Ab.l10_TokenBack_ok a0 true (Ab.TokenBack_true a0 k0)) (Ab.ag_all W) (by simp only [Ab.RepsV]; exact ⟨_, _, rfl, rep0, rfl⟩)).mono fun e W' ⟨he, hb⟩ => ?_
  subst he
  exact ⟨_, rfl, _, _, _, [], p, [], hW', trodAll_cons_mk (shut_bool Try.underlying4 _) trodAll_mk0, hback W' hb _ (fun x hx => by simpa using hW'.lt x hx), rfl, hb.frame _, fun h => by cases h⟩
theorem tokenBack_holds : Rows.TokenBackSaid :=
  OpenClaim.holds_of_wide 4 Try.f4 rfl rfl rfl rfl rfl rfl rfl ⟨rfl, rfl, rfl, rfl, rfl⟩ rfl rfl rfl rfl rfl (by kernel_rfl) Try.func4 (by kernel_rfl)
    (of_decide_eq_true (by kernel_rfl)) (by unfold Func.isWrapper; rw [if_neg (of_decide_eq_false (by kernel_rfl))]; exact ⟨rfl, rfl⟩)
    (fun os started H enc _ => liftedTokenBack os started H enc)
#print axioms tokenBack_holds
end Go.Proofs.Ytnjeklpjjceppaa
