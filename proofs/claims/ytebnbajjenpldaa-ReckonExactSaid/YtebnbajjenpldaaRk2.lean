/- Layer 4: the document's, and the laws. -/
import Derived.Test.YtebnbajjenpldaaRk1
namespace Go.Proofs.Ytebnbajjenpldaa.Ab
open Go
set_option linter.all false
noncomputable def r01_Digits (a0 : TApiWide) : Option (T8Uint64) :=
  (Option.bind (α := Int × Int × Int × Int × Int × Int × Int × Int) (loopM (fun (s15 : Int × Int × Int × Int × Int × Int × Int × Int × Int × Int × Int) => (bif (decide (s15.2.2.1 < (4 : Int))) then ((need (inA s15.2.2.1 8)).bind fun x22 => ((need (inA (IntKind.i64.wrap (s15.2.2.1 + (4 : Int))) 8)).bind fun x23 => some (.next ((IntKind.u64.wrap (s15.1.tdiv (65536 : Int))), (IntKind.u64.wrap (s15.2.1.tdiv (65536 : Int))), (IntKind.i64.wrap (s15.2.2.1 + (1 : Int))), (putA (IntKind.i64.wrap (s15.2.2.1 + (4 : Int))) 0 (s15.2.1.tmod (65536 : Int)) (putA s15.2.2.1 0 (s15.1.tmod (65536 : Int)) s15.2.2.2.1)), (putA (IntKind.i64.wrap (s15.2.2.1 + (4 : Int))) 1 (s15.2.1.tmod (65536 : Int)) (putA s15.2.2.1 1 (s15.1.tmod (65536 : Int)) s15.2.2.2.2.1)), (putA (IntKind.i64.wrap (s15.2.2.1 + (4 : Int))) 2 (s15.2.1.tmod (65536 : Int)) (putA s15.2.2.1 2 (s15.1.tmod (65536 : Int)) s15.2.2.2.2.2.1)), (putA (IntKind.i64.wrap (s15.2.2.1 + (4 : Int))) 3 (s15.2.1.tmod (65536 : Int)) (putA s15.2.2.1 3 (s15.1.tmod (65536 : Int)) s15.2.2.2.2.2.2.1)), (putA (IntKind.i64.wrap (s15.2.2.1 + (4 : Int))) 4 (s15.2.1.tmod (65536 : Int)) (putA s15.2.2.1 4 (s15.1.tmod (65536 : Int)) s15.2.2.2.2.2.2.2.1)), (putA (IntKind.i64.wrap (s15.2.2.1 + (4 : Int))) 5 (s15.2.1.tmod (65536 : Int)) (putA s15.2.2.1 5 (s15.1.tmod (65536 : Int)) s15.2.2.2.2.2.2.2.2.1)), (putA (IntKind.i64.wrap (s15.2.2.1 + (4 : Int))) 6 (s15.2.1.tmod (65536 : Int)) (putA s15.2.2.1 6 (s15.1.tmod (65536 : Int)) s15.2.2.2.2.2.2.2.2.2.1)), (putA (IntKind.i64.wrap (s15.2.2.1 + (4 : Int))) 7 (s15.2.1.tmod (65536 : Int)) (putA s15.2.2.1 7 (s15.1.tmod (65536 : Int)) s15.2.2.2.2.2.2.2.2.2.2)))))) else some (.done (s15.2.2.2.1, s15.2.2.2.2.1, s15.2.2.2.2.2.1, s15.2.2.2.2.2.2.1, s15.2.2.2.2.2.2.2.1, s15.2.2.2.2.2.2.2.2.1, s15.2.2.2.2.2.2.2.2.2.1, s15.2.2.2.2.2.2.2.2.2.2)))) (a0.gLo, (IntKind.u64.wrap a0.gHi), (0 : Int), (0 : Int), (0 : Int), (0 : Int), (0 : Int), (0 : Int), (0 : Int), (0 : Int), (0 : Int))) fun y14 => some (⟨y14.1, y14.2.1, y14.2.2.1, y14.2.2.2.1, y14.2.2.2.2.1, y14.2.2.2.2.2.1, y14.2.2.2.2.2.2.1, y14.2.2.2.2.2.2.2⟩ : T8Uint64))
set_option maxRecDepth 100000 in
set_option maxHeartbeats 2000000 in
theorem r01_Digits_ok (a0 : TApiWide) (r : T8Uint64) (h0 : r01_Digits a0 = some r) : CallsD Try.prog 72 [eTApiWide a0] [] [] (fun d h k => d = eT8Uint64 r ∧ h = [] ∧ k = []) := by
  have hm := yes_of h0
  unfold r01_Digits at hm
  clear h0
  refine enterX htab Try.func72 rfl rfl rfl rfl rfl (fun C => ?_)
  refine wpD_seq ?_
  refine wpD_region ?_
  refine p_box rfl rfl rfl rfl rfl rfl rfl (fun b1 => ?_)
  refine p_alloc htab rfl rfl rfl rfl rfl rfl rfl (fun b2 => ?_)
  refine ops_nil ?_
  refine then_normal ?_
  refine wpD_seq ?_
  refine wpD_region ?_
  refine p_alloc htab rfl rfl rfl rfl rfl rfl rfl (fun b3 => ?_)
  refine ops_nil ?_
  refine then_normal ?_
  refine wpD_seq ?_
  refine wpD_draws 6 [] [[],[0],[],[2],[2],[0]] [0,2] [[],[0],[],[2],[2,3],[0,1],[0,1,2,3,4,5]] (by kernel_rfl) (by kernel_rfl) (by kernel_rfl) (by rfl) (by rfl) (by kernel_rfl) ?_
  apply Exists.intro
  apply Exists.intro
  intro bs
  refine z_e rfl rfl (ex_pure htab rfl) rfl rfl rfl rfl rfl rfl ?_
  refine z_qM rfl rfl (xm_load 0 htab rfl rfl rfl rfl rfl) rfl rfl rfl rfl rfl rfl ?_
  refine z_e rfl rfl (ex_pure htab rfl) rfl rfl rfl rfl rfl rfl ?_
  refine z_qM rfl rfl (xm_load 0 htab rfl rfl rfl rfl rfl) rfl rfl rfl rfl rfl rfl ?_
  refine z_q rfl rfl (ex_pure htab rfl) rfl rfl rfl rfl rfl rfl ?_
  refine z_q rfl rfl (ex_pure htab rfl) rfl rfl rfl rfl rfl rfl ?_
  refine z_nil rfl rfl (fun e he => by simp [isAl] at he) ?_
  refine p_pure htab rfl rfl rfl rfl ?_
  refine ops_nil ?_
  refine then_normal ?_
  refine wpD_seq ?_
  refine wpD_seq ?_
  refine wpD_region ?_
  refine p_pure htab rfl rfl rfl rfl ?_
  refine ops_nil ?_
  refine then_normal ?_
  obtain ⟨y14, q14, ho14⟩ := yes_bind hm
  refine wpD_mid (Y := Unit) (fun z14 => (⟨[(2, .ptr b2 0), (3, .ptr b3 0)], [(b1, Blk.cells [.v (.int .i64 a0.gHi), .v (.int .u64 a0.gLo)] 31), (b2, Blk.cells [.v (.int .u64 (0 : Int)), .v (.int .u64 (0 : Int)), .v (.int .u64 (0 : Int)), .v (.int .u64 (0 : Int)), .v (.int .u64 (0 : Int)), .v (.int .u64 (0 : Int)), .v (.int .u64 (0 : Int)), .v (.int .u64 (0 : Int))] 79), (b3, Blk.cells [.v (.int .u64 y14.1), .v (.int .u64 y14.2.1), .v (.int .u64 y14.2.2.1), .v (.int .u64 y14.2.2.2.1), .v (.int .u64 y14.2.2.2.2.1), .v (.int .u64 y14.2.2.2.2.2.1), .v (.int .u64 y14.2.2.2.2.2.2.1), .v (.int .u64 y14.2.2.2.2.2.2.2)] 79)], []⟩ : S)) ?_ ?_
  · clear hm; have hm := yes_of q14
    refine wpD_block ?_
    obtain ⟨u15, hl15, hq15⟩ := yes_m hm
    refine loop_M (Y := Unit) hl15 (fun s15 z15 => (⟨[(2, .ptr b2 0), (3, .ptr b3 0), (4, .v (.int .u64 s15.1)), (5, .v (.int .u64 s15.2.1)), (6, .v (.int .i64 s15.2.2.1))], [(b1, Blk.cells [.v (.int .i64 a0.gHi), .v (.int .u64 a0.gLo)] 31), (b2, Blk.cells [.v (.int .u64 (0 : Int)), .v (.int .u64 (0 : Int)), .v (.int .u64 (0 : Int)), .v (.int .u64 (0 : Int)), .v (.int .u64 (0 : Int)), .v (.int .u64 (0 : Int)), .v (.int .u64 (0 : Int)), .v (.int .u64 (0 : Int))] 79), (b3, Blk.cells [.v (.int .u64 s15.2.2.2.1), .v (.int .u64 s15.2.2.2.2.1), .v (.int .u64 s15.2.2.2.2.2.1), .v (.int .u64 s15.2.2.2.2.2.2.1), .v (.int .u64 s15.2.2.2.2.2.2.2.1), .v (.int .u64 s15.2.2.2.2.2.2.2.2.1), .v (.int .u64 s15.2.2.2.2.2.2.2.2.2.1), .v (.int .u64 s15.2.2.2.2.2.2.2.2.2.2)] 79)], []⟩ : S)) ?_ ?_
    · skip
      exact WkX.of () (WkS.perm (WkS.cons rfl (Wk.refl _) (WkS.cons rfl (Wk.refl _) (WkS.cons rfl (Wk.refl _) (WkS.cons rfl (Wk.refl _) (WkS.cons rfl (Wk.refl _) (WkS.nil)))))) (List.Perm.refl _) (List.Perm.refl _))
    · intro G15 s15 z15 hm
      refine wpD_seq ?_
      refine wpD_seq ?_
      refine wpD_region ?_
      refine p_pure htab rfl rfl rfl rfl ?_
      refine p_pure htab rfl rfl rfl rfl ?_
      refine ops_nil ?_
      refine then_normal ?_
      refine wpD_cond rfl (fun hc21 => ?_) (fun hc21 => ?_)
      · replace hm := yes_t hc21 hm
        refine wpD_skip ?_
        refine then_normal ?_
        refine wpD_seq ?_
        refine wpD_block ?_
        refine wpD_seq ?_
        refine wpD_region ?_
        refine p_pure htab rfl rfl rfl rfl ?_
        refine p_pure htab rfl rfl rfl rfl ?_
        refine p_div rfl rfl rfl rfl rfl rfl rfl (by decide) ?_
        obtain ⟨x22, q22, hm⟩ := yes_bind hm
        refine p_elemA htab rfl rfl rfl rfl rfl rfl rfl rfl rfl (inA_lo q22) (inA_hi q22) ?_
        refine p_store (ds' := [.v (.int .u64 (putA s15.2.2.1 0 (s15.1.tmod (65536 : Int)) s15.2.2.2.1)), .v (.int .u64 (putA s15.2.2.1 1 (s15.1.tmod (65536 : Int)) s15.2.2.2.2.1)), .v (.int .u64 (putA s15.2.2.1 2 (s15.1.tmod (65536 : Int)) s15.2.2.2.2.2.1)), .v (.int .u64 (putA s15.2.2.1 3 (s15.1.tmod (65536 : Int)) s15.2.2.2.2.2.2.1)), .v (.int .u64 (putA s15.2.2.1 4 (s15.1.tmod (65536 : Int)) s15.2.2.2.2.2.2.2.1)), .v (.int .u64 (putA s15.2.2.1 5 (s15.1.tmod (65536 : Int)) s15.2.2.2.2.2.2.2.2.1)), .v (.int .u64 (putA s15.2.2.1 6 (s15.1.tmod (65536 : Int)) s15.2.2.2.2.2.2.2.2.2.1)), .v (.int .u64 (putA s15.2.2.1 7 (s15.1.tmod (65536 : Int)) s15.2.2.2.2.2.2.2.2.2.2))]) (h' := [(b1, Blk.cells [.v (.int .i64 a0.gHi), .v (.int .u64 a0.gLo)] 31), (b2, Blk.cells [.v (.int .u64 (0 : Int)), .v (.int .u64 (0 : Int)), .v (.int .u64 (0 : Int)), .v (.int .u64 (0 : Int)), .v (.int .u64 (0 : Int)), .v (.int .u64 (0 : Int)), .v (.int .u64 (0 : Int)), .v (.int .u64 (0 : Int))] 79), (b3, Blk.cells [.v (.int .u64 (putA s15.2.2.1 0 (s15.1.tmod (65536 : Int)) s15.2.2.2.1)), .v (.int .u64 (putA s15.2.2.1 1 (s15.1.tmod (65536 : Int)) s15.2.2.2.2.1)), .v (.int .u64 (putA s15.2.2.1 2 (s15.1.tmod (65536 : Int)) s15.2.2.2.2.2.1)), .v (.int .u64 (putA s15.2.2.1 3 (s15.1.tmod (65536 : Int)) s15.2.2.2.2.2.2.1)), .v (.int .u64 (putA s15.2.2.1 4 (s15.1.tmod (65536 : Int)) s15.2.2.2.2.2.2.2.1)), .v (.int .u64 (putA s15.2.2.1 5 (s15.1.tmod (65536 : Int)) s15.2.2.2.2.2.2.2.2.1)), .v (.int .u64 (putA s15.2.2.1 6 (s15.1.tmod (65536 : Int)) s15.2.2.2.2.2.2.2.2.2.1)), .v (.int .u64 (putA s15.2.2.1 7 (s15.1.tmod (65536 : Int)) s15.2.2.2.2.2.2.2.2.2.2))] 79)]) 2 htab rfl rfl rfl rfl rfl rfl rfl rfl rfl (ble_at (n := 8) (inA_lo q22) (inA_hi q22) (Nat.le_of_ble_eq_true rfl)) (lay_at (xs := [s15.2.2.2.1, s15.2.2.2.2.1, s15.2.2.2.2.2.1, s15.2.2.2.2.2.2.1, s15.2.2.2.2.2.2.2.1, s15.2.2.2.2.2.2.2.2.1, s15.2.2.2.2.2.2.2.2.2.1, s15.2.2.2.2.2.2.2.2.2.2]) (pre := []) (post := []) (inA_lo q22) (inA_hi q22)) rfl ?_
        refine ops_nil ?_
        refine then_normal ?_
        refine wpD_seq ?_
        refine wpD_region ?_
        refine p_pure htab rfl rfl rfl rfl ?_
        refine p_pure htab rfl rfl rfl rfl ?_
        refine p_pure htab rfl rfl rfl rfl ?_
        refine p_div rfl rfl rfl rfl rfl rfl rfl (by decide) ?_
        obtain ⟨x23, q23, hm⟩ := yes_bind hm
        refine p_elemA htab rfl rfl rfl rfl rfl rfl rfl rfl rfl (inA_lo q23) (inA_hi q23) ?_
        refine p_store (ds' := [.v (.int .u64 (putA (IntKind.i64.wrap (s15.2.2.1 + (4 : Int))) 0 (s15.2.1.tmod (65536 : Int)) (putA s15.2.2.1 0 (s15.1.tmod (65536 : Int)) s15.2.2.2.1))), .v (.int .u64 (putA (IntKind.i64.wrap (s15.2.2.1 + (4 : Int))) 1 (s15.2.1.tmod (65536 : Int)) (putA s15.2.2.1 1 (s15.1.tmod (65536 : Int)) s15.2.2.2.2.1))), .v (.int .u64 (putA (IntKind.i64.wrap (s15.2.2.1 + (4 : Int))) 2 (s15.2.1.tmod (65536 : Int)) (putA s15.2.2.1 2 (s15.1.tmod (65536 : Int)) s15.2.2.2.2.2.1))), .v (.int .u64 (putA (IntKind.i64.wrap (s15.2.2.1 + (4 : Int))) 3 (s15.2.1.tmod (65536 : Int)) (putA s15.2.2.1 3 (s15.1.tmod (65536 : Int)) s15.2.2.2.2.2.2.1))), .v (.int .u64 (putA (IntKind.i64.wrap (s15.2.2.1 + (4 : Int))) 4 (s15.2.1.tmod (65536 : Int)) (putA s15.2.2.1 4 (s15.1.tmod (65536 : Int)) s15.2.2.2.2.2.2.2.1))), .v (.int .u64 (putA (IntKind.i64.wrap (s15.2.2.1 + (4 : Int))) 5 (s15.2.1.tmod (65536 : Int)) (putA s15.2.2.1 5 (s15.1.tmod (65536 : Int)) s15.2.2.2.2.2.2.2.2.1))), .v (.int .u64 (putA (IntKind.i64.wrap (s15.2.2.1 + (4 : Int))) 6 (s15.2.1.tmod (65536 : Int)) (putA s15.2.2.1 6 (s15.1.tmod (65536 : Int)) s15.2.2.2.2.2.2.2.2.2.1))), .v (.int .u64 (putA (IntKind.i64.wrap (s15.2.2.1 + (4 : Int))) 7 (s15.2.1.tmod (65536 : Int)) (putA s15.2.2.1 7 (s15.1.tmod (65536 : Int)) s15.2.2.2.2.2.2.2.2.2.2)))]) (h' := [(b1, Blk.cells [.v (.int .i64 a0.gHi), .v (.int .u64 a0.gLo)] 31), (b2, Blk.cells [.v (.int .u64 (0 : Int)), .v (.int .u64 (0 : Int)), .v (.int .u64 (0 : Int)), .v (.int .u64 (0 : Int)), .v (.int .u64 (0 : Int)), .v (.int .u64 (0 : Int)), .v (.int .u64 (0 : Int)), .v (.int .u64 (0 : Int))] 79), (b3, Blk.cells [.v (.int .u64 (putA (IntKind.i64.wrap (s15.2.2.1 + (4 : Int))) 0 (s15.2.1.tmod (65536 : Int)) (putA s15.2.2.1 0 (s15.1.tmod (65536 : Int)) s15.2.2.2.1))), .v (.int .u64 (putA (IntKind.i64.wrap (s15.2.2.1 + (4 : Int))) 1 (s15.2.1.tmod (65536 : Int)) (putA s15.2.2.1 1 (s15.1.tmod (65536 : Int)) s15.2.2.2.2.1))), .v (.int .u64 (putA (IntKind.i64.wrap (s15.2.2.1 + (4 : Int))) 2 (s15.2.1.tmod (65536 : Int)) (putA s15.2.2.1 2 (s15.1.tmod (65536 : Int)) s15.2.2.2.2.2.1))), .v (.int .u64 (putA (IntKind.i64.wrap (s15.2.2.1 + (4 : Int))) 3 (s15.2.1.tmod (65536 : Int)) (putA s15.2.2.1 3 (s15.1.tmod (65536 : Int)) s15.2.2.2.2.2.2.1))), .v (.int .u64 (putA (IntKind.i64.wrap (s15.2.2.1 + (4 : Int))) 4 (s15.2.1.tmod (65536 : Int)) (putA s15.2.2.1 4 (s15.1.tmod (65536 : Int)) s15.2.2.2.2.2.2.2.1))), .v (.int .u64 (putA (IntKind.i64.wrap (s15.2.2.1 + (4 : Int))) 5 (s15.2.1.tmod (65536 : Int)) (putA s15.2.2.1 5 (s15.1.tmod (65536 : Int)) s15.2.2.2.2.2.2.2.2.1))), .v (.int .u64 (putA (IntKind.i64.wrap (s15.2.2.1 + (4 : Int))) 6 (s15.2.1.tmod (65536 : Int)) (putA s15.2.2.1 6 (s15.1.tmod (65536 : Int)) s15.2.2.2.2.2.2.2.2.2.1))), .v (.int .u64 (putA (IntKind.i64.wrap (s15.2.2.1 + (4 : Int))) 7 (s15.2.1.tmod (65536 : Int)) (putA s15.2.2.1 7 (s15.1.tmod (65536 : Int)) s15.2.2.2.2.2.2.2.2.2.2)))] 79)]) 2 htab rfl rfl rfl rfl rfl rfl rfl rfl rfl (ble_at (n := 8) (inA_lo q23) (inA_hi q23) (Nat.le_of_ble_eq_true rfl)) (lay_at (xs := [(putA s15.2.2.1 0 (s15.1.tmod (65536 : Int)) s15.2.2.2.1), (putA s15.2.2.1 1 (s15.1.tmod (65536 : Int)) s15.2.2.2.2.1), (putA s15.2.2.1 2 (s15.1.tmod (65536 : Int)) s15.2.2.2.2.2.1), (putA s15.2.2.1 3 (s15.1.tmod (65536 : Int)) s15.2.2.2.2.2.2.1), (putA s15.2.2.1 4 (s15.1.tmod (65536 : Int)) s15.2.2.2.2.2.2.2.1), (putA s15.2.2.1 5 (s15.1.tmod (65536 : Int)) s15.2.2.2.2.2.2.2.2.1), (putA s15.2.2.1 6 (s15.1.tmod (65536 : Int)) s15.2.2.2.2.2.2.2.2.2.1), (putA s15.2.2.1 7 (s15.1.tmod (65536 : Int)) s15.2.2.2.2.2.2.2.2.2.2)]) (pre := []) (post := []) (inA_lo q23) (inA_hi q23)) rfl ?_
        refine ops_nil ?_
        refine then_normal ?_
        refine wpD_seq ?_
        refine wpD_region ?_
        refine p_pure htab rfl rfl rfl rfl ?_
        refine p_div rfl rfl rfl rfl rfl rfl rfl (by decide) ?_
        refine p_pure htab rfl rfl rfl rfl ?_
        refine ops_nil ?_
        refine then_normal ?_
        refine wpD_region ?_
        refine p_pure htab rfl rfl rfl rfl ?_
        refine p_div rfl rfl rfl rfl rfl rfl rfl (by decide) ?_
        refine p_pure htab rfl rfl rfl rfl ?_
        refine ops_nil ?_
        refine block_normal ?_
        refine then_normal ?_
        refine wpD_region ?_
        refine p_pure htab rfl rfl rfl rfl ?_
        refine p_pure htab rfl rfl rfl rfl ?_
        refine p_pure htab rfl rfl rfl rfl ?_
        refine ops_nil ?_
        refine then_normal ⟨_, lp_next hm, ?_⟩
        exact WkX.of () (WkS.perm (WkS.cons rfl (Wk.refl _) (WkS.cons rfl (Wk.refl _) (WkS.cons rfl (Wk.refl _) (WkS.cons rfl (Wk.refl _) (WkS.cons rfl (Wk.refl _) (WkS.nil)))))) (List.Perm.refl _) (List.Perm.refl _))
      · replace hm := yes_f hc21 hm
        refine wpD_exit ?_
        refine then_exit ?_
        have e15 := lp_done hm; subst e15; clear hm; have hm := hq15
        refine then_exit ?_
        refine block_hit ?_
        have e14 := yes_eq hm; subst e14
        refine ⟨rfl, ?_⟩
        exact WkX.of () (WkS.perm (WkS.cons rfl (Wk.refl _) (WkS.cons rfl (Wk.refl _) (WkS.nil))) (List.Perm.refl _) (List.Perm.refl _))
  · intro s14 hw14; clear hm; have hm := ho14; clear q14 ho14
    refine then_normal ?_
    refine wpD_wkX hw14 (fun z14 => ?_)
    refine wpD_seq ?_
    refine wpD_region ?_
    refine p_load (d := eT8Uint64 (⟨y14.1, y14.2.1, y14.2.2.1, y14.2.2.2.1, y14.2.2.2.2.1, y14.2.2.2.2.2.1, y14.2.2.2.2.2.2.1, y14.2.2.2.2.2.2.2⟩ : T8Uint64)) 2 htab rfl rfl rfl rfl rfl rfl rfl rfl ?_
    refine p_store (ds' := [.v (.int .u64 y14.1), .v (.int .u64 y14.2.1), .v (.int .u64 y14.2.2.1), .v (.int .u64 y14.2.2.2.1), .v (.int .u64 y14.2.2.2.2.1), .v (.int .u64 y14.2.2.2.2.2.1), .v (.int .u64 y14.2.2.2.2.2.2.1), .v (.int .u64 y14.2.2.2.2.2.2.2)]) (h' := [(b1, Blk.cells [.v (.int .i64 a0.gHi), .v (.int .u64 a0.gLo)] 31), (b2, Blk.cells [.v (.int .u64 y14.1), .v (.int .u64 y14.2.1), .v (.int .u64 y14.2.2.1), .v (.int .u64 y14.2.2.2.1), .v (.int .u64 y14.2.2.2.2.1), .v (.int .u64 y14.2.2.2.2.2.1), .v (.int .u64 y14.2.2.2.2.2.2.1), .v (.int .u64 y14.2.2.2.2.2.2.2)] 79), (b3, Blk.cells [.v (.int .u64 y14.1), .v (.int .u64 y14.2.1), .v (.int .u64 y14.2.2.1), .v (.int .u64 y14.2.2.2.1), .v (.int .u64 y14.2.2.2.2.1), .v (.int .u64 y14.2.2.2.2.2.1), .v (.int .u64 y14.2.2.2.2.2.2.1), .v (.int .u64 y14.2.2.2.2.2.2.2)] 79)]) 1 htab rfl rfl rfl rfl rfl rfl rfl rfl rfl rfl rfl rfl ?_
    refine ops_nil ?_
    refine then_normal ?_
    refine wpD_ret ?_
    have er24 := yes_eq hm; subst er24
    refine retX.of (s' := ⟨[(2, .ptr b2 0)], [(b2, Blk.cells [.v (.int .u64 y14.1), .v (.int .u64 y14.2.1), .v (.int .u64 y14.2.2.1), .v (.int .u64 y14.2.2.2.1), .v (.int .u64 y14.2.2.2.2.1), .v (.int .u64 y14.2.2.2.2.2.1), .v (.int .u64 y14.2.2.2.2.2.2.1), .v (.int .u64 y14.2.2.2.2.2.2.2)] 79)], []⟩) (WkS.perm (WkS.cons rfl (Wk.refl _) (WkS.nil)) ((perm_at (j := 1) rfl).trans (List.Perm.cons _ (List.Perm.refl _))) (List.Perm.refl _)) (retD_mk (hh := []) (.inl rfl) (resL_cons (resOne_cell 0 rfl rfl rfl rfl) (resL_nil)) (List.nil_sublist _) (List.Sublist.refl _) ?_)
    exact ⟨rfl, rfl, rfl⟩
noncomputable def r01_Int (a0 : TApiWide) : Option (Int × Bool) :=
  (Option.bind (α := Bool) ((need (pI (-9223372036854775808 : Int))).bind fun x8 => ((need (pWW a0 (rOf (-9223372036854775808 : Int)))).bind fun x9 => (bif (decide ((rCmp a0 (rOf (-9223372036854775808 : Int))) < (0 : Int))) then some true else ((need (pI (9223372036854775807 : Int))).bind fun x11 => ((need (pWW a0 (rOf (9223372036854775807 : Int)))).bind fun x12 => some (decide ((0 : Int) < (rCmp a0 (rOf (9223372036854775807 : Int)))))))))) fun y7 => (bif y7 then some ((0 : Int), false) else some ((IntKind.i64.wrap a0.gLo), true)))
set_option maxRecDepth 100000 in
set_option maxHeartbeats 2000000 in
theorem r01_Int_ok (a0 : TApiWide) (r : Int × Bool) (h0 : r01_Int a0 = some r) : CallsD Try.prog 87 [eTApiWide a0] [] [] (fun d h k => d = .tup [.v (.int .i64 r.1), .v (.bool r.2)] ∧ h = [] ∧ k = []) := by
  have hm := yes_of h0
  unfold r01_Int at hm
  clear h0
  refine enterX htab Try.func87 rfl rfl rfl rfl rfl (fun C => ?_)
  refine wpD_seq ?_
  refine wpD_region ?_
  refine p_box rfl rfl rfl rfl rfl rfl rfl (fun b1 => ?_)
  refine p_pure htab rfl rfl rfl rfl ?_
  refine p_pure htab rfl rfl rfl rfl ?_
  refine ops_nil ?_
  refine then_normal ?_
  refine wpD_seq ?_
  refine wpD_seq ?_
  obtain ⟨y7, q7, ho7⟩ := yes_bind hm
  refine wpD_mid (Y := Unit) (fun z7 => (⟨[(1, .ptr b1 0), (13, .v (.bool y7))], [(b1, Blk.cells [.v (.int .i64 a0.gHi), .v (.int .u64 a0.gLo)] 31)], []⟩ : S)) ?_ ?_
  · clear hm; have hm := yes_of q7
    obtain ⟨x8, q8, hm⟩ := yes_bind hm
    obtain ⟨x9, q9, hm⟩ := yes_bind hm
    refine bycB (decide ((rCmp a0 (rOf (-9223372036854775808 : Int))) < (0 : Int))) (fun hs10 => ?_) (fun hs10 => ?_)
    · replace hm := yes_t hs10 hm
      refine wpD_draws 7 [] [[],[],[0,1],[0,1,2],[0,1,2],[0,1,2],[0,1,2]] [0,1,2] [[],[],[0,1],[0,1,2],[0,1,2,3],[0,1,2,3,4],[0,1,2,3,4],[0,1,2,3,4,5,6],[0,1,2,3,4,5,6,7],[0,1,2,3,4,5,6,7,8]] (by kernel_rfl) (by kernel_rfl) (by kernel_rfl) (by rfl) (by rfl) (by kernel_rfl) ?_
      apply Exists.intro
      apply Exists.intro
      apply Exists.intro
      intro bs
      refine z_eM rfl rfl (xm_load (d := eTApiWide a0) 0 htab rfl rfl rfl rfl rfl) rfl rfl rfl rfl rfl rfl ?_
      refine z_call rfl rfl (rOf_ok (-9223372036854775808 : Int) (need_ok q8)) rfl rfl (WkL.refl _) rfl rfl rfl rfl rfl rfl ?_
      refine z_call rfl rfl (rCmp_ok a0 (rOf (-9223372036854775808 : Int)) (need_ok q9)) rfl rfl (WkL.refl _) rfl rfl rfl rfl rfl rfl ?_
      refine z_q rfl rfl (ex_pure htab rfl) rfl rfl rfl rfl rfl rfl ?_
      refine z_q rfl rfl (ex_pure htab rfl) rfl rfl rfl rfl rfl rfl ?_
      refine z_known (j := 8) (b' := true) rfl hs10 ?_
      refine z_skip rfl rfl rfl rfl ?_
      refine z_skip rfl rfl rfl rfl ?_
      refine z_nil rfl rfl (fun e he => by simp [isAl] at he) ?_
      refine p_skip rfl rfl rfl ?_
      refine p_skip rfl rfl rfl ?_
      refine p_pickT rfl rfl rfl rfl rfl rfl ?_
      refine ops_nil ?_
      have e7 := yes_eq hm; subst e7
      refine ⟨rfl, ?_⟩
      exact WkX.of () (WkS.perm (WkS.cons rfl (Wk.refl _) (WkS.cons rfl (Wk.refl _) (WkS.nil))) (List.Perm.refl _) (List.Perm.refl _))
    · replace hm := yes_f hs10 hm
      obtain ⟨x11, q11, hm⟩ := yes_bind hm
      refine wpD_draws 7 [] [[],[],[0,1],[0,1,2],[0,1,2],[0,1,2],[0,1,2]] [0,1,2,5,6] [[],[],[0,1],[0,1,2],[0,1,2,3],[0,1,2,3,4],[0,1,2,3,4],[0,1,2,3,4,5,6],[0,1,2,3,4,5,6,7],[0,1,2,3,4,5,6,7,8]] (by kernel_rfl) (by kernel_rfl) (by kernel_rfl) (by rfl) (by rfl) (by kernel_rfl) ?_
      apply Exists.intro
      apply Exists.intro
      apply Exists.intro
      apply Exists.intro
      apply Exists.intro
      intro bs
      refine z_eM rfl rfl (xm_load (d := eTApiWide a0) 0 htab rfl rfl rfl rfl rfl) rfl rfl rfl rfl rfl rfl ?_
      refine z_call rfl rfl (rOf_ok (-9223372036854775808 : Int) (need_ok q8)) rfl rfl (WkL.refl _) rfl rfl rfl rfl rfl rfl ?_
      refine z_call rfl rfl (rCmp_ok a0 (rOf (-9223372036854775808 : Int)) (need_ok q9)) rfl rfl (WkL.refl _) rfl rfl rfl rfl rfl rfl ?_
      refine z_q rfl rfl (ex_pure htab rfl) rfl rfl rfl rfl rfl rfl ?_
      refine z_q rfl rfl (ex_pure htab rfl) rfl rfl rfl rfl rfl rfl ?_
      refine z_known (j := 8) (b' := false) rfl hs10 ?_
      refine z_eM rfl rfl (xm_load (d := eTApiWide a0) 0 htab rfl rfl rfl rfl rfl) rfl rfl rfl rfl rfl rfl ?_
      refine z_call rfl rfl (rOf_ok (9223372036854775807 : Int) (need_ok q11)) rfl rfl (WkL.refl _) rfl rfl rfl rfl rfl rfl ?_
      refine z_nil rfl rfl (fun e he => by simp [isAl] at he) ?_
      obtain ⟨x12, q12, hm⟩ := yes_bind hm
      refine p_call0 (rCmp_ok a0 (rOf (9223372036854775807 : Int)) (need_ok q12)) rfl rfl rfl rfl rfl (WkL.refl _) ?_
      rintro _ rfl
      refine p_pure htab rfl rfl rfl rfl ?_
      refine p_pickF rfl rfl rfl rfl rfl rfl ?_
      refine ops_nil ?_
      have e7 := yes_eq hm; subst e7
      refine ⟨rfl, ?_⟩
      exact WkX.of () (WkS.perm (WkS.cons rfl (Wk.refl _) (WkS.cons rfl (Wk.refl _) (WkS.nil))) (List.Perm.refl _) (List.Perm.refl _))
  · intro s7 hw7; clear hm; have hm := ho7; clear q7 ho7
    refine then_normal ?_
    refine wpD_wkX hw7 (fun z7 => ?_)
    refine wpD_cond rfl (fun hc14 => ?_) (fun hc14 => ?_)
    · replace hm := yes_t hc14 hm
      refine wpD_seq ?_
      refine wpD_region ?_
      refine p_pure htab rfl rfl rfl rfl ?_
      refine p_pure htab rfl rfl rfl rfl ?_
      refine ops_nil ?_
      refine then_normal ?_
      refine wpD_ret ?_
      refine then_ret ?_
      have er15 := yes_eq hm; subst er15
      refine retX.of (s' := ⟨[(2, .v (.int .i64 (0 : Int))), (3, .v (.bool false))], [], []⟩) (WkS.perm (WkS.cons rfl (Wk.refl _) (WkS.cons rfl (Wk.refl _) (WkS.nil))) (List.Perm.refl _) (List.Perm.refl _)) (retD_mk (hh := []) (.inl rfl) (resL_cons (resOne_tmp rfl) (resL_cons (resOne_tmp rfl) (resL_nil))) (List.nil_sublist _) (List.Sublist.refl _) ?_)
      exact ⟨rfl, rfl, rfl⟩
    · replace hm := yes_f hc14 hm
      refine wpD_skip ?_
      refine then_normal ?_
      refine wpD_seq ?_
      refine wpD_region ?_
      refine p_pure htab rfl rfl rfl rfl ?_
      refine p_load 0 htab rfl rfl rfl rfl rfl rfl rfl rfl ?_
      refine p_pure htab rfl rfl rfl rfl ?_
      refine p_pure htab rfl rfl rfl rfl ?_
      refine p_pure htab rfl rfl rfl rfl ?_
      refine ops_nil ?_
      refine then_normal ?_
      refine wpD_ret ?_
      have er16 := yes_eq hm; subst er16
      refine retX.of (s' := ⟨[(2, .v (.int .i64 (IntKind.i64.wrap a0.gLo))), (3, .v (.bool true))], [], []⟩) (WkS.perm (WkS.cons rfl (Wk.refl _) (WkS.cons rfl (Wk.refl _) (WkS.nil))) (List.Perm.refl _) (List.Perm.refl _)) (retD_mk (hh := []) (.inl rfl) (resL_cons (resOne_tmp rfl) (resL_cons (resOne_tmp rfl) (resL_nil))) (List.nil_sublist _) (List.Sublist.refl _) ?_)
      exact ⟨rfl, rfl, rfl⟩
noncomputable def r02_low (a0 : TApiWide) : Option (Int) :=
  some (IntKind.i64.wrap a0.gLo)
set_option maxRecDepth 100000 in
set_option maxHeartbeats 2000000 in
theorem r02_low_ok (a0 : TApiWide) (r : Int) (h0 : r02_low a0 = some r) : CallsD Try.prog 51 [eTApiWide a0] [] [] (fun d h k => d = .v (.int .i64 r) ∧ h = [] ∧ k = []) := by
  have hm := yes_of h0
  unfold r02_low at hm
  clear h0
  refine enterX htab Try.func51 rfl rfl rfl rfl rfl (fun C => ?_)
  refine wpD_seq ?_
  refine wpD_region ?_
  refine p_box rfl rfl rfl rfl rfl rfl rfl (fun b1 => ?_)
  refine p_pure htab rfl rfl rfl rfl ?_
  refine ops_nil ?_
  refine then_normal ?_
  refine wpD_seq ?_
  refine wpD_region ?_
  refine p_pure htab rfl rfl rfl rfl ?_
  refine p_load 0 htab rfl rfl rfl rfl rfl rfl rfl rfl ?_
  refine p_pure htab rfl rfl rfl rfl ?_
  refine p_pure htab rfl rfl rfl rfl ?_
  refine ops_nil ?_
  refine then_normal ?_
  refine wpD_ret ?_
  have er2 := yes_eq hm; subst er2
  refine retX.of (s' := ⟨[(2, .v (.int .i64 (IntKind.i64.wrap a0.gLo)))], [], []⟩) (WkS.perm (WkS.cons rfl (Wk.refl _) (WkS.nil)) (List.Perm.refl _) (List.Perm.refl _)) (retD_mk (hh := []) (.inl rfl) (resL_cons (resOne_tmp rfl) (resL_nil)) (List.nil_sublist _) (List.Sublist.refl _) ?_)
  exact ⟨rfl, rfl, rfl⟩
noncomputable def r02_Exact (a0 : Int) (a1 : Int) (a2 : Int) : Option (TApiWide × Bool) :=
  (bif (a0 == (10 : Int)) then ((need (pI a1)).bind fun x3 => ((need (pI a2)).bind fun x4 => ((need (pWW (rOf a1) (rOf a2))).bind fun x5 => some ((rAdd (rOf a1) (rOf a2)), true)))) else (bif (a0 == (11 : Int)) then ((need (pI a1)).bind fun x8 => ((need (pI a2)).bind fun x9 => ((need (pWW (rOf a1) (rOf a2))).bind fun x10 => some ((rSub (rOf a1) (rOf a2)), true)))) else (bif (a0 == (7 : Int)) then ((need (pII a1 a2)).bind fun x13 => some ((rMul a1 a2), true)) else some ((⟨(0 : Int), (0 : Int)⟩ : TApiWide), false))))
set_option maxRecDepth 100000 in
set_option maxHeartbeats 2000000 in
theorem r02_Exact_ok (a0 : Int) (a1 : Int) (a2 : Int) (r : TApiWide × Bool) (h0 : r02_Exact a0 a1 a2 = some r) : CallsD Try.prog 50 [.v (.int .i64 a0), .v (.int .i64 a1), .v (.int .i64 a2)] [] [] (fun d h k => d = .tup [eTApiWide r.1, .v (.bool r.2)] ∧ h = [] ∧ k = []) := by
  have hm := yes_of h0
  unfold r02_Exact at hm
  clear h0
  refine enterX htab Try.func50 rfl rfl rfl rfl rfl (fun C => ?_)
  refine wpD_seq ?_
  refine wpD_region ?_
  refine p_alloc htab rfl rfl rfl rfl rfl rfl rfl (fun b1 => ?_)
  refine p_pure htab rfl rfl rfl rfl ?_
  refine ops_nil ?_
  refine then_normal ?_
  refine wpD_seq ?_
  refine wpD_seq ?_
  refine wpD_region ?_
  refine p_pure htab rfl rfl rfl rfl ?_
  refine ops_nil ?_
  refine then_normal ?_
  refine wpD_block ?_
  refine wpD_seq ?_
  refine wpD_region ?_
  refine p_pure htab rfl rfl rfl rfl ?_
  refine p_pure htab rfl rfl rfl rfl ?_
  refine ops_nil ?_
  refine then_normal ?_
  refine wpD_cond rfl (fun hc2 => ?_) (fun hc2 => ?_)
  · replace hm := yes_t hc2 hm
    refine wpD_seq ?_
    refine wpD_region ?_
    refine p_pure htab rfl rfl rfl rfl ?_
    obtain ⟨x3, q3, hm⟩ := yes_bind hm
    refine p_call0 (rOf_ok a1 (need_ok q3)) rfl rfl rfl rfl rfl (WkL.refl _) ?_
    rintro _ rfl
    refine p_pure htab rfl rfl rfl rfl ?_
    obtain ⟨x4, q4, hm⟩ := yes_bind hm
    refine p_call0 (rOf_ok a2 (need_ok q4)) rfl rfl rfl rfl rfl (WkL.refl _) ?_
    rintro _ rfl
    obtain ⟨x5, q5, hm⟩ := yes_bind hm
    refine p_call0 (rAdd_ok (rOf a1) (rOf a2) (need_ok q5)) rfl rfl rfl rfl rfl (WkL.refl _) ?_
    rintro _ rfl
    refine p_store (ds' := [.v (.int .i64 ((rAdd (rOf a1) (rOf a2)).gHi)), .v (.int .u64 ((rAdd (rOf a1) (rOf a2)).gLo))]) (h' := [(b1, Blk.cells [.v (.int .i64 ((rAdd (rOf a1) (rOf a2)).gHi)), .v (.int .u64 ((rAdd (rOf a1) (rOf a2)).gLo))] 31)]) 0 htab rfl rfl rfl rfl rfl rfl rfl rfl rfl rfl rfl rfl ?_
    refine p_pure htab rfl rfl rfl rfl ?_
    refine ops_nil ?_
    refine then_normal ?_
    refine wpD_ret ?_
    refine block_ret ?_
    refine then_ret ?_
    have er6 := yes_eq hm; subst er6
    refine retX.of (s' := ⟨[(6, .ptr b1 0), (7, .v (.bool true))], [(b1, Blk.cells [.v (.int .i64 ((rAdd (rOf a1) (rOf a2)).gHi)), .v (.int .u64 ((rAdd (rOf a1) (rOf a2)).gLo))] 31)], []⟩) (WkS.perm (WkS.cons rfl (Wk.refl _) (WkS.cons rfl (Wk.refl _) (WkS.nil))) (List.Perm.refl _) (List.Perm.refl _)) (retD_mk (hh := []) (.inl rfl) (resL_cons (resOne_cell 0 rfl rfl rfl rfl) (resL_cons (resOne_tmp rfl) (resL_nil))) (List.nil_sublist _) (List.Sublist.refl _) ?_)
    exact ⟨rfl, rfl, rfl⟩
  · replace hm := yes_f hc2 hm
    refine wpD_seq ?_
    refine wpD_region ?_
    refine p_pure htab rfl rfl rfl rfl ?_
    refine p_pure htab rfl rfl rfl rfl ?_
    refine ops_nil ?_
    refine then_normal ?_
    refine wpD_cond rfl (fun hc7 => ?_) (fun hc7 => ?_)
    · replace hm := yes_t hc7 hm
      refine wpD_seq ?_
      refine wpD_region ?_
      refine p_pure htab rfl rfl rfl rfl ?_
      obtain ⟨x8, q8, hm⟩ := yes_bind hm
      refine p_call0 (rOf_ok a1 (need_ok q8)) rfl rfl rfl rfl rfl (WkL.refl _) ?_
      rintro _ rfl
      refine p_pure htab rfl rfl rfl rfl ?_
      obtain ⟨x9, q9, hm⟩ := yes_bind hm
      refine p_call0 (rOf_ok a2 (need_ok q9)) rfl rfl rfl rfl rfl (WkL.refl _) ?_
      rintro _ rfl
      obtain ⟨x10, q10, hm⟩ := yes_bind hm
      refine p_call0 (rSub_ok (rOf a1) (rOf a2) (need_ok q10)) rfl rfl rfl rfl rfl (WkL.refl _) ?_
      rintro _ rfl
      refine p_store (ds' := [.v (.int .i64 ((rSub (rOf a1) (rOf a2)).gHi)), .v (.int .u64 ((rSub (rOf a1) (rOf a2)).gLo))]) (h' := [(b1, Blk.cells [.v (.int .i64 ((rSub (rOf a1) (rOf a2)).gHi)), .v (.int .u64 ((rSub (rOf a1) (rOf a2)).gLo))] 31)]) 0 htab rfl rfl rfl rfl rfl rfl rfl rfl rfl rfl rfl rfl ?_
      refine p_pure htab rfl rfl rfl rfl ?_
      refine ops_nil ?_
      refine then_normal ?_
      refine wpD_ret ?_
      refine block_ret ?_
      refine then_ret ?_
      have er11 := yes_eq hm; subst er11
      refine retX.of (s' := ⟨[(6, .ptr b1 0), (7, .v (.bool true))], [(b1, Blk.cells [.v (.int .i64 ((rSub (rOf a1) (rOf a2)).gHi)), .v (.int .u64 ((rSub (rOf a1) (rOf a2)).gLo))] 31)], []⟩) (WkS.perm (WkS.cons rfl (Wk.refl _) (WkS.cons rfl (Wk.refl _) (WkS.nil))) (List.Perm.refl _) (List.Perm.refl _)) (retD_mk (hh := []) (.inl rfl) (resL_cons (resOne_cell 0 rfl rfl rfl rfl) (resL_cons (resOne_tmp rfl) (resL_nil))) (List.nil_sublist _) (List.Sublist.refl _) ?_)
      exact ⟨rfl, rfl, rfl⟩
    · replace hm := yes_f hc7 hm
      refine wpD_seq ?_
      refine wpD_region ?_
      refine p_pure htab rfl rfl rfl rfl ?_
      refine p_pure htab rfl rfl rfl rfl ?_
      refine ops_nil ?_
      refine then_normal ?_
      refine wpD_cond rfl (fun hc12 => ?_) (fun hc12 => ?_)
      · replace hm := yes_t hc12 hm
        refine wpD_seq ?_
        refine wpD_region ?_
        refine p_pure htab rfl rfl rfl rfl ?_
        refine p_pure htab rfl rfl rfl rfl ?_
        obtain ⟨x13, q13, hm⟩ := yes_bind hm
        refine p_call0 (rMul_ok a1 a2 (need_ok q13)) rfl rfl rfl rfl rfl (WkL.refl _) ?_
        rintro _ rfl
        refine p_store (ds' := [.v (.int .i64 ((rMul a1 a2).gHi)), .v (.int .u64 ((rMul a1 a2).gLo))]) (h' := [(b1, Blk.cells [.v (.int .i64 ((rMul a1 a2).gHi)), .v (.int .u64 ((rMul a1 a2).gLo))] 31)]) 0 htab rfl rfl rfl rfl rfl rfl rfl rfl rfl rfl rfl rfl ?_
        refine p_pure htab rfl rfl rfl rfl ?_
        refine ops_nil ?_
        refine then_normal ?_
        refine wpD_ret ?_
        refine block_ret ?_
        refine then_ret ?_
        have er14 := yes_eq hm; subst er14
        refine retX.of (s' := ⟨[(6, .ptr b1 0), (7, .v (.bool true))], [(b1, Blk.cells [.v (.int .i64 ((rMul a1 a2).gHi)), .v (.int .u64 ((rMul a1 a2).gLo))] 31)], []⟩) (WkS.perm (WkS.cons rfl (Wk.refl _) (WkS.cons rfl (Wk.refl _) (WkS.nil))) (List.Perm.refl _) (List.Perm.refl _)) (retD_mk (hh := []) (.inl rfl) (resL_cons (resOne_cell 0 rfl rfl rfl rfl) (resL_cons (resOne_tmp rfl) (resL_nil))) (List.nil_sublist _) (List.Sublist.refl _) ?_)
        exact ⟨rfl, rfl, rfl⟩
      · replace hm := yes_f hc12 hm
        refine wpD_skip ?_
        refine block_normal ?_
        refine then_normal ?_
        refine wpD_seq ?_
        refine wpD_region ?_
        refine p_build (r := [.v (.int .i64 (0 : Int)), .v (.int .u64 (0 : Int))]) htab rfl rfl rfl rfl rfl rfl rfl rfl rfl ?_
        refine p_store (ds' := [.v (.int .i64 (0 : Int)), .v (.int .u64 (0 : Int))]) (h' := [(b1, Blk.cells [.v (.int .i64 (0 : Int)), .v (.int .u64 (0 : Int))] 31)]) 0 htab rfl rfl rfl rfl rfl rfl rfl rfl rfl rfl rfl rfl ?_
        refine p_pure htab rfl rfl rfl rfl ?_
        refine ops_nil ?_
        refine then_normal ?_
        refine wpD_ret ?_
        have er15 := yes_eq hm; subst er15
        refine retX.of (s' := ⟨[(6, .ptr b1 0), (7, .v (.bool false))], [(b1, Blk.cells [.v (.int .i64 (0 : Int)), .v (.int .u64 (0 : Int))] 31)], []⟩) (WkS.perm (WkS.cons rfl (Wk.refl _) (WkS.cons rfl (Wk.refl _) (WkS.nil))) (List.Perm.refl _) (List.Perm.refl _)) (retD_mk (hh := []) (.inl rfl) (resL_cons (resOne_cell 0 rfl rfl rfl rfl) (resL_cons (resOne_tmp rfl) (resL_nil))) (List.nil_sublist _) (List.Sublist.refl _) ?_)
        exact ⟨rfl, rfl, rfl⟩
noncomputable def r02_abs (a0 : Int) : Option (Int) :=
  ((need (pI a0)).bind fun x1 => (bif (decide (a0 < (0 : Int))) then ((need (pW (rOf a0))).bind fun x4 => some (rNeg (rOf a0)).gLo) else some (rOf a0).gLo))
set_option maxRecDepth 100000 in
set_option maxHeartbeats 2000000 in
theorem r02_abs_ok (a0 : Int) (r : Int) (h0 : r02_abs a0 = some r) : CallsD Try.prog 74 [.v (.int .i64 a0)] [] [] (fun d h k => d = .v (.int .u64 r) ∧ h = [] ∧ k = []) := by
  have hm := yes_of h0
  unfold r02_abs at hm
  clear h0
  refine enterX htab Try.func74 rfl rfl rfl rfl rfl (fun C => ?_)
  refine wpD_seq ?_
  refine wpD_region ?_
  refine p_pure htab rfl rfl rfl rfl ?_
  refine ops_nil ?_
  refine then_normal ?_
  refine wpD_seq ?_
  refine wpD_region ?_
  refine p_pure htab rfl rfl rfl rfl ?_
  obtain ⟨x1, q1, hm⟩ := yes_bind hm
  refine p_call0 (rOf_ok a0 (need_ok q1)) rfl rfl rfl rfl rfl (WkL.refl _) ?_
  rintro _ rfl
  refine p_alloc htab rfl rfl rfl rfl rfl rfl rfl (fun b2 => ?_)
  refine p_store (ds' := [.v (.int .i64 ((rOf a0).gHi)), .v (.int .u64 ((rOf a0).gLo))]) (h' := [(b2, Blk.cells [.v (.int .i64 ((rOf a0).gHi)), .v (.int .u64 ((rOf a0).gLo))] 31)]) 0 htab rfl rfl rfl rfl rfl rfl rfl rfl rfl rfl rfl rfl ?_
  refine ops_nil ?_
  refine then_normal ?_
  refine wpD_seq ?_
  refine wpD_seq ?_
  refine wpD_region ?_
  refine p_pure htab rfl rfl rfl rfl ?_
  refine p_pure htab rfl rfl rfl rfl ?_
  refine ops_nil ?_
  refine then_normal ?_
  refine wpD_cond rfl (fun hc3 => ?_) (fun hc3 => ?_)
  · replace hm := yes_t hc3 hm
    refine wpD_region ?_
    refine p_load (d := eTApiWide (rOf a0)) 0 htab rfl rfl rfl rfl rfl rfl rfl rfl ?_
    obtain ⟨x4, q4, hm⟩ := yes_bind hm
    refine p_call0 (rNeg_ok (rOf a0) (need_ok q4)) rfl rfl rfl rfl rfl (WkL.refl _) ?_
    rintro _ rfl
    refine p_store (ds' := [.v (.int .i64 ((rNeg (rOf a0)).gHi)), .v (.int .u64 ((rNeg (rOf a0)).gLo))]) (h' := [(b2, Blk.cells [.v (.int .i64 ((rNeg (rOf a0)).gHi)), .v (.int .u64 ((rNeg (rOf a0)).gLo))] 31)]) 0 htab rfl rfl rfl rfl rfl rfl rfl rfl rfl rfl rfl rfl ?_
    refine ops_nil ?_
    refine then_normal ?_
    refine wpD_seq ?_
    refine wpD_region ?_
    refine p_pure htab rfl rfl rfl rfl ?_
    refine p_load 0 htab rfl rfl rfl rfl rfl rfl rfl rfl ?_
    refine p_pure htab rfl rfl rfl rfl ?_
    refine ops_nil ?_
    refine then_normal ?_
    refine wpD_ret ?_
    have er5 := yes_eq hm; subst er5
    refine retX.of (s' := ⟨[(2, .v (.int .u64 ((rNeg (rOf a0)).gLo)))], [], []⟩) (WkS.perm (WkS.cons rfl (Wk.refl _) (WkS.nil)) (List.Perm.refl _) (List.Perm.refl _)) (retD_mk (hh := []) (.inl rfl) (resL_cons (resOne_tmp rfl) (resL_nil)) (List.nil_sublist _) (List.Sublist.refl _) ?_)
    exact ⟨rfl, rfl, rfl⟩
  · replace hm := yes_f hc3 hm
    refine wpD_skip ?_
    refine then_normal ?_
    refine wpD_seq ?_
    refine wpD_region ?_
    refine p_pure htab rfl rfl rfl rfl ?_
    refine p_load 0 htab rfl rfl rfl rfl rfl rfl rfl rfl ?_
    refine p_pure htab rfl rfl rfl rfl ?_
    refine ops_nil ?_
    refine then_normal ?_
    refine wpD_ret ?_
    have er6 := yes_eq hm; subst er6
    refine retX.of (s' := ⟨[(2, .v (.int .u64 ((rOf a0).gLo)))], [], []⟩) (WkS.perm (WkS.cons rfl (Wk.refl _) (WkS.nil)) (List.Perm.refl _) (List.Perm.refl _)) (retD_mk (hh := []) (.inl rfl) (resL_cons (resOne_tmp rfl) (resL_nil)) (List.nil_sublist _) (List.Sublist.refl _) ?_)
    exact ⟨rfl, rfl, rfl⟩
noncomputable def r02_Quotient (a0 : Int) (a1 : Int) : Option (Int) :=
  ((r02_abs a0).bind fun x1 => ((r02_abs a1).bind fun x2 => ((need (x2 != 0)).bind fun x3 => (bif (!((decide (a0 < (0 : Int))) == (decide (a1 < (0 : Int))))) then ((need (pW (⟨(0 : Int), (IntKind.u64.wrap (x1.tdiv x2))⟩ : TApiWide))).bind fun x6 => ((r02_low (rNeg (⟨(0 : Int), (IntKind.u64.wrap (x1.tdiv x2))⟩ : TApiWide))).bind fun x7 => some x7)) else ((r02_low (⟨(0 : Int), (IntKind.u64.wrap (x1.tdiv x2))⟩ : TApiWide)).bind fun x9 => some x9)))))
set_option maxRecDepth 100000 in
set_option maxHeartbeats 2000000 in
theorem r02_Quotient_ok (a0 : Int) (a1 : Int) (r : Int) (h0 : r02_Quotient a0 a1 = some r) : CallsD Try.prog 53 [.v (.int .i64 a0), .v (.int .i64 a1)] [] [] (fun d h k => d = .v (.int .i64 r) ∧ h = [] ∧ k = []) := by
  have hm := yes_of h0
  unfold r02_Quotient at hm
  clear h0
  refine enterX htab Try.func53 rfl rfl rfl rfl rfl (fun C => ?_)
  refine wpD_seq ?_
  refine wpD_region ?_
  refine p_pure htab rfl rfl rfl rfl ?_
  refine ops_nil ?_
  refine then_normal ?_
  refine wpD_seq ?_
  refine wpD_region ?_
  refine p_pure htab rfl rfl rfl rfl ?_
  obtain ⟨x1, q1, hm⟩ := yes_bind hm
  refine p_call0 (r02_abs_ok a0 x1 q1) rfl rfl rfl rfl rfl (WkL.refl _) ?_
  rintro _ rfl
  refine p_pure htab rfl rfl rfl rfl ?_
  obtain ⟨x2, q2, hm⟩ := yes_bind hm
  refine p_call0 (r02_abs_ok a1 x2 q2) rfl rfl rfl rfl rfl (WkL.refl _) ?_
  rintro _ rfl
  obtain ⟨x3, q3, hm⟩ := yes_bind hm
  refine p_div rfl rfl rfl rfl rfl rfl rfl (by simpa using need_ok q3) ?_
  refine p_build (r := [.v (.int .i64 (0 : Int)), .v (.int .u64 (IntKind.u64.wrap (x1.tdiv x2)))]) htab rfl rfl rfl rfl rfl rfl rfl rfl rfl ?_
  refine p_alloc htab rfl rfl rfl rfl rfl rfl rfl (fun b4 => ?_)
  refine p_store (ds' := [.v (.int .i64 (0 : Int)), .v (.int .u64 (IntKind.u64.wrap (x1.tdiv x2)))]) (h' := [(b4, Blk.cells [.v (.int .i64 (0 : Int)), .v (.int .u64 (IntKind.u64.wrap (x1.tdiv x2)))] 31)]) 0 htab rfl rfl rfl rfl rfl rfl rfl rfl rfl rfl rfl rfl ?_
  refine ops_nil ?_
  refine then_normal ?_
  refine wpD_seq ?_
  refine wpD_seq ?_
  refine wpD_region ?_
  refine p_pure htab rfl rfl rfl rfl ?_
  refine p_pure htab rfl rfl rfl rfl ?_
  refine p_pure htab rfl rfl rfl rfl ?_
  refine p_pure htab rfl rfl rfl rfl ?_
  refine p_pure htab rfl rfl rfl rfl ?_
  refine ops_nil ?_
  refine then_normal ?_
  refine wpD_cond rfl (fun hc5 => ?_) (fun hc5 => ?_)
  · replace hm := yes_t hc5 hm
    refine wpD_region ?_
    refine p_load (d := eTApiWide (⟨(0 : Int), (IntKind.u64.wrap (x1.tdiv x2))⟩ : TApiWide)) 0 htab rfl rfl rfl rfl rfl rfl rfl rfl ?_
    obtain ⟨x6, q6, hm⟩ := yes_bind hm
    refine p_call0 (rNeg_ok (⟨(0 : Int), (IntKind.u64.wrap (x1.tdiv x2))⟩ : TApiWide) (need_ok q6)) rfl rfl rfl rfl rfl (WkL.refl _) ?_
    rintro _ rfl
    refine p_store (ds' := [.v (.int .i64 ((rNeg (⟨(0 : Int), (IntKind.u64.wrap (x1.tdiv x2))⟩ : TApiWide)).gHi)), .v (.int .u64 ((rNeg (⟨(0 : Int), (IntKind.u64.wrap (x1.tdiv x2))⟩ : TApiWide)).gLo))]) (h' := [(b4, Blk.cells [.v (.int .i64 ((rNeg (⟨(0 : Int), (IntKind.u64.wrap (x1.tdiv x2))⟩ : TApiWide)).gHi)), .v (.int .u64 ((rNeg (⟨(0 : Int), (IntKind.u64.wrap (x1.tdiv x2))⟩ : TApiWide)).gLo))] 31)]) 0 htab rfl rfl rfl rfl rfl rfl rfl rfl rfl rfl rfl rfl ?_
    refine ops_nil ?_
    refine then_normal ?_
    refine wpD_seq ?_
    refine wpD_region ?_
    refine p_load (d := eTApiWide (rNeg (⟨(0 : Int), (IntKind.u64.wrap (x1.tdiv x2))⟩ : TApiWide))) 0 htab rfl rfl rfl rfl rfl rfl rfl rfl ?_
    obtain ⟨x7, q7, hm⟩ := yes_bind hm
    refine p_call0 (r02_low_ok (rNeg (⟨(0 : Int), (IntKind.u64.wrap (x1.tdiv x2))⟩ : TApiWide)) x7 q7) rfl rfl rfl rfl rfl (WkL.refl _) ?_
    rintro _ rfl
    refine p_pure htab rfl rfl rfl rfl ?_
    refine ops_nil ?_
    refine then_normal ?_
    refine wpD_ret ?_
    have er8 := yes_eq hm; subst er8
    refine retX.of (s' := ⟨[(4, .v (.int .i64 x7))], [], []⟩) (WkS.perm (WkS.cons rfl (Wk.refl _) (WkS.nil)) (List.Perm.refl _) (List.Perm.refl _)) (retD_mk (hh := []) (.inl rfl) (resL_cons (resOne_tmp rfl) (resL_nil)) (List.nil_sublist _) (List.Sublist.refl _) ?_)
    exact ⟨rfl, rfl, rfl⟩
  · replace hm := yes_f hc5 hm
    refine wpD_skip ?_
    refine then_normal ?_
    refine wpD_seq ?_
    refine wpD_region ?_
    refine p_load (d := eTApiWide (⟨(0 : Int), (IntKind.u64.wrap (x1.tdiv x2))⟩ : TApiWide)) 0 htab rfl rfl rfl rfl rfl rfl rfl rfl ?_
    obtain ⟨x9, q9, hm⟩ := yes_bind hm
    refine p_call0 (r02_low_ok (⟨(0 : Int), (IntKind.u64.wrap (x1.tdiv x2))⟩ : TApiWide) x9 q9) rfl rfl rfl rfl rfl (WkL.refl _) ?_
    rintro _ rfl
    refine p_pure htab rfl rfl rfl rfl ?_
    refine ops_nil ?_
    refine then_normal ?_
    refine wpD_ret ?_
    have er10 := yes_eq hm; subst er10
    refine retX.of (s' := ⟨[(4, .v (.int .i64 x9))], [], []⟩) (WkS.perm (WkS.cons rfl (Wk.refl _) (WkS.nil)) (List.Perm.refl _) (List.Perm.refl _)) (retD_mk (hh := []) (.inl rfl) (resL_cons (resOne_tmp rfl) (resL_nil)) (List.nil_sublist _) (List.Sublist.refl _) ?_)
    exact ⟨rfl, rfl, rfl⟩
noncomputable def r02_one (a0 : Bool) : Option (Int) :=
  (bif a0 then some (1 : Int) else some (0 : Int))
set_option maxRecDepth 100000 in
set_option maxHeartbeats 2000000 in
theorem r02_one_ok (a0 : Bool) (r : Int) (h0 : r02_one a0 = some r) : CallsD Try.prog 55 [.v (.bool a0)] [] [] (fun d h k => d = .v (.int .i64 r) ∧ h = [] ∧ k = []) := by
  have hm := yes_of h0
  unfold r02_one at hm
  clear h0
  refine enterX htab Try.func55 rfl rfl rfl rfl rfl (fun C => ?_)
  refine wpD_seq ?_
  refine wpD_region ?_
  refine p_pure htab rfl rfl rfl rfl ?_
  refine ops_nil ?_
  refine then_normal ?_
  refine wpD_seq ?_
  refine wpD_seq ?_
  refine wpD_region ?_
  refine p_pure htab rfl rfl rfl rfl ?_
  refine ops_nil ?_
  refine then_normal ?_
  refine wpD_cond rfl (fun hc1 => ?_) (fun hc1 => ?_)
  · replace hm := yes_t hc1 hm
    refine wpD_seq ?_
    refine wpD_region ?_
    refine p_pure htab rfl rfl rfl rfl ?_
    refine ops_nil ?_
    refine then_normal ?_
    refine wpD_ret ?_
    refine then_ret ?_
    have er2 := yes_eq hm; subst er2
    refine retX.of (s' := ⟨[(2, .v (.int .i64 (1 : Int)))], [], []⟩) (WkS.perm (WkS.cons rfl (Wk.refl _) (WkS.nil)) (List.Perm.refl _) (List.Perm.refl _)) (retD_mk (hh := []) (.inl rfl) (resL_cons (resOne_tmp rfl) (resL_nil)) (List.nil_sublist _) (List.Sublist.refl _) ?_)
    exact ⟨rfl, rfl, rfl⟩
  · replace hm := yes_f hc1 hm
    refine wpD_skip ?_
    refine then_normal ?_
    refine wpD_seq ?_
    refine wpD_region ?_
    refine p_pure htab rfl rfl rfl rfl ?_
    refine ops_nil ?_
    refine then_normal ?_
    refine wpD_ret ?_
    have er3 := yes_eq hm; subst er3
    refine retX.of (s' := ⟨[(2, .v (.int .i64 (0 : Int)))], [], []⟩) (WkS.perm (WkS.cons rfl (Wk.refl _) (WkS.nil)) (List.Perm.refl _) (List.Perm.refl _)) (retD_mk (hh := []) (.inl rfl) (resL_cons (resOne_tmp rfl) (resL_nil)) (List.nil_sublist _) (List.Sublist.refl _) ?_)
    exact ⟨rfl, rfl, rfl⟩
noncomputable def r02_Do (a0 : Int) (a1 : Int) (a2 : Int) : Option (Int × Int) :=
  ((r02_Exact a0 a1 a2).bind fun x1 => (bif x1.2 then ((r02_low x1.1).bind fun x6 => some (x6, (0 : Int))) else (Option.bind (α := Bool) (bif (a0 == (8 : Int)) then some (a2 == (0 : Int)) else (bif (a0 == (9 : Int)) then some (a2 == (0 : Int)) else some false)) fun y10 => (bif y10 then some ((0 : Int), (10 : Int)) else ((need (pI a1)).bind fun x16 => ((need (pI a2)).bind fun x17 => ((need (pWW (rOf a1) (rOf a2))).bind fun x18 => ((need (pWW (rSub (rOf a1) (rOf a2)) (⟨(0 : Int), (0 : Int)⟩ : TApiWide))).bind fun x20 => (bif (a0 == (8 : Int)) then ((r02_Quotient a1 a2).bind fun x22 => some (x22, (0 : Int))) else (bif (a0 == (9 : Int)) then ((need (pI a1)).bind fun x25 => ((r02_Quotient a1 a2).bind fun x26 => ((need (pII x26 a2)).bind fun x27 => ((need (pWW (rOf a1) (rMul x26 a2))).bind fun x28 => ((r02_low (rSub (rOf a1) (rMul x26 a2))).bind fun x29 => some (x29, (0 : Int))))))) else (bif (a0 == (12 : Int)) then ((r02_one (decide ((rCmp (rSub (rOf a1) (rOf a2)) (⟨(0 : Int), (0 : Int)⟩ : TApiWide)) < (0 : Int)))).bind fun x32 => some (x32, (0 : Int))) else (bif (a0 == (13 : Int)) then ((r02_one (decide ((rCmp (rSub (rOf a1) (rOf a2)) (⟨(0 : Int), (0 : Int)⟩ : TApiWide)) ≤ (0 : Int)))).bind fun x35 => some (x35, (0 : Int))) else (bif (a0 == (14 : Int)) then ((r02_one ((rCmp (rSub (rOf a1) (rOf a2)) (⟨(0 : Int), (0 : Int)⟩ : TApiWide)) == (0 : Int))).bind fun x38 => some (x38, (0 : Int))) else (bif (a0 == (15 : Int)) then ((r02_one ((rCmp (rSub (rOf a1) (rOf a2)) (⟨(0 : Int), (0 : Int)⟩ : TApiWide)) != (0 : Int))).bind fun x41 => some (x41, (0 : Int))) else (bif (a0 == (16 : Int)) then (bif (a1 != (0 : Int)) then ((r02_one (a2 != (0 : Int))).bind fun x45 => some (x45, (0 : Int))) else ((r02_one false).bind fun x47 => some (x47, (0 : Int)))) else (bif (a0 == (17 : Int)) then (bif (a1 != (0 : Int)) then ((r02_one true).bind fun x51 => some (x51, (0 : Int))) else ((r02_one (a2 != (0 : Int))).bind fun x53 => some (x53, (0 : Int)))) else some ((0 : Int), (2 : Int))))))))))))))))))
set_option maxRecDepth 100000 in
set_option maxHeartbeats 2000000 in
theorem r02_Do_ok (a0 : Int) (a1 : Int) (a2 : Int) (r : Int × Int) (h0 : r02_Do a0 a1 a2 = some r) : CallsD Try.prog 17 [.v (.int .i64 a0), .v (.int .i64 a1), .v (.int .i64 a2)] [] [] (fun d h k => d = .tup [.v (.int .i64 r.1), .v (.int .i64 r.2)] ∧ h = [] ∧ k = []) := by
  have hm := yes_of h0
  unfold r02_Do at hm
  clear h0
  refine enterX htab Try.func17 rfl rfl rfl rfl rfl (fun C => ?_)
  refine wpD_seq ?_
  refine wpD_region ?_
  refine p_pure htab rfl rfl rfl rfl ?_
  refine p_pure htab rfl rfl rfl rfl ?_
  refine ops_nil ?_
  refine then_normal ?_
  refine wpD_seq ?_
  refine wpD_region ?_
  refine p_pure htab rfl rfl rfl rfl ?_
  refine p_pure htab rfl rfl rfl rfl ?_
  refine p_pure htab rfl rfl rfl rfl ?_
  obtain ⟨x1, q1, hm⟩ := yes_bind hm
  refine p_call0 (r02_Exact_ok a0 a1 a2 x1 q1) rfl rfl rfl rfl rfl (WkL.refl _) ?_
  rintro _ rfl
  refine p_pure htab rfl rfl rfl rfl ?_
  refine p_pure htab rfl rfl rfl rfl ?_
  refine p_pure htab rfl rfl rfl rfl ?_
  refine p_alloc htab rfl rfl rfl rfl rfl rfl rfl (fun b2 => ?_)
  refine p_store (ds' := [.v (.int .i64 x1.1.gHi), .v (.int .u64 x1.1.gLo)]) (h' := [(b2, Blk.cells [.v (.int .i64 x1.1.gHi), .v (.int .u64 x1.1.gLo)] 31)]) 0 htab rfl rfl rfl rfl rfl rfl rfl rfl rfl rfl rfl rfl ?_
  refine p_pure htab rfl rfl rfl rfl ?_
  refine ops_nil ?_
  refine then_normal ?_
  refine wpD_seq ?_
  refine wpD_seq ?_
  refine wpD_region ?_
  refine p_pure htab rfl rfl rfl rfl ?_
  refine ops_nil ?_
  refine then_normal ?_
  refine wpD_cond rfl (fun hc5 => ?_) (fun hc5 => ?_)
  · replace hm := yes_t hc5 hm
    refine wpD_seq ?_
    refine wpD_region ?_
    refine p_load (d := eTApiWide x1.1) 0 htab rfl rfl rfl rfl rfl rfl rfl rfl ?_
    obtain ⟨x6, q6, hm⟩ := yes_bind hm
    refine p_call0 (r02_low_ok x1.1 x6 q6) rfl rfl rfl rfl rfl (WkL.refl _) ?_
    rintro _ rfl
    refine p_pure htab rfl rfl rfl rfl ?_
    refine p_pure htab rfl rfl rfl rfl ?_
    refine ops_nil ?_
    refine then_normal ?_
    refine wpD_ret ?_
    refine then_ret ?_
    have er7 := yes_eq hm; subst er7
    refine retX.of (s' := ⟨[(6, .v (.int .i64 x6)), (7, .v (.int .i64 (0 : Int)))], [], []⟩) (WkS.perm (WkS.cons rfl (Wk.refl _) (WkS.cons rfl (Wk.refl _) (WkS.nil))) (List.Perm.refl _) (List.Perm.refl _)) (retD_mk (hh := []) (.inl rfl) (resL_cons (resOne_tmp rfl) (resL_cons (resOne_tmp rfl) (resL_nil))) (List.nil_sublist _) (List.Sublist.refl _) ?_)
    exact ⟨rfl, rfl, rfl⟩
  · replace hm := yes_f hc5 hm
    refine wpD_skip ?_
    refine then_normal ?_
    refine wpD_seq ?_
    refine wpD_seq ?_
    obtain ⟨y10, q10, ho10⟩ := yes_bind hm
    refine wpD_mid (Y := Unit) (fun z10 => (⟨[(0, .v (.int .i64 a0)), (1, .v (.int .i64 a1)), (2, .v (.int .i64 a2)), (31, .v (.bool y10))], [(b2, Blk.cells [.v (.int .i64 x1.1.gHi), .v (.int .u64 x1.1.gLo)] 31)], []⟩ : S)) ?_ ?_
    · clear hm; have hm := yes_of q10
      refine wpD_region ?_
      refine p_pure htab rfl rfl rfl rfl ?_
      refine p_pure htab rfl rfl rfl rfl ?_
      refine p_pure htab rfl rfl rfl rfl ?_
      refine p_split (i := 24) rfl (fun hg11 => ?_) (fun hg11 => ?_)
      · replace hm := yes_t hg11 hm
        refine p_skip rfl rfl rfl ?_
        refine p_skip rfl rfl rfl ?_
        refine p_pickT rfl rfl rfl rfl rfl rfl ?_
        refine p_pure htab rfl rfl rfl rfl ?_
        refine p_pure htab rfl rfl rfl rfl ?_
        refine p_pure htab rfl rfl rfl rfl ?_
        refine p_pickT rfl rfl rfl rfl rfl rfl ?_
        refine ops_nil ?_
        have e10 := yes_eq hm; subst e10
        refine ⟨rfl, ?_⟩
        exact WkX.of () (WkS.perm (WkS.cons rfl (Wk.refl _) (WkS.cons rfl (Wk.refl _) (WkS.cons rfl (Wk.refl _) (WkS.cons rfl (Wk.refl _) (WkS.nil))))) (List.Perm.refl _) (List.Perm.refl _))
      · replace hm := yes_f hg11 hm
        refine p_pure htab rfl rfl rfl rfl ?_
        refine p_pure htab rfl rfl rfl rfl ?_
        refine p_pickF rfl rfl rfl rfl rfl rfl ?_
        refine p_pure htab rfl rfl rfl rfl ?_
        refine p_split (i := 28) rfl (fun hg12 => ?_) (fun hg12 => ?_)
        · replace hm := yes_t hg12 hm
          refine p_pure htab rfl rfl rfl rfl ?_
          refine p_pure htab rfl rfl rfl rfl ?_
          refine p_pickT rfl rfl rfl rfl rfl rfl ?_
          refine ops_nil ?_
          have e10 := yes_eq hm; subst e10
          refine ⟨rfl, ?_⟩
          exact WkX.of () (WkS.perm (WkS.cons rfl (Wk.refl _) (WkS.cons rfl (Wk.refl _) (WkS.cons rfl (Wk.refl _) (WkS.cons rfl (Wk.refl _) (WkS.nil))))) (List.Perm.refl _) (List.Perm.refl _))
        · replace hm := yes_f hg12 hm
          refine p_skip rfl rfl rfl ?_
          refine p_skip rfl rfl rfl ?_
          refine p_pickF rfl rfl rfl rfl rfl rfl ?_
          refine ops_nil ?_
          have e10 := yes_eq hm; subst e10
          refine ⟨rfl, ?_⟩
          exact WkX.of () (WkS.perm (WkS.cons rfl (Wk.refl _) (WkS.cons rfl (Wk.refl _) (WkS.cons rfl (Wk.refl _) (WkS.cons rfl (Wk.refl _) (WkS.nil))))) (List.Perm.refl _) (List.Perm.refl _))
    · intro s10 hw10; clear hm; have hm := ho10; clear q10 ho10
      refine then_normal ?_
      refine wpD_wkX hw10 (fun z10 => ?_)
      refine wpD_cond rfl (fun hc14 => ?_) (fun hc14 => ?_)
      · replace hm := yes_t hc14 hm
        refine wpD_seq ?_
        refine wpD_region ?_
        refine p_pure htab rfl rfl rfl rfl ?_
        refine p_pure htab rfl rfl rfl rfl ?_
        refine ops_nil ?_
        refine then_normal ?_
        refine wpD_ret ?_
        refine then_ret ?_
        have er15 := yes_eq hm; subst er15
        refine retX.of (s' := ⟨[(6, .v (.int .i64 (0 : Int))), (7, .v (.int .i64 (10 : Int)))], [], []⟩) (WkS.perm (WkS.cons rfl (Wk.refl _) (WkS.cons rfl (Wk.refl _) (WkS.nil))) (List.Perm.refl _) (List.Perm.refl _)) (retD_mk (hh := []) (.inl rfl) (resL_cons (resOne_tmp rfl) (resL_cons (resOne_tmp rfl) (resL_nil))) (List.nil_sublist _) (List.Sublist.refl _) ?_)
        exact ⟨rfl, rfl, rfl⟩
      · replace hm := yes_f hc14 hm
        refine wpD_skip ?_
        refine then_normal ?_
        refine wpD_seq ?_
        refine wpD_region ?_
        refine p_pure htab rfl rfl rfl rfl ?_
        obtain ⟨x16, q16, hm⟩ := yes_bind hm
        refine p_call0 (rOf_ok a1 (need_ok q16)) rfl rfl rfl rfl rfl (WkL.refl _) ?_
        rintro _ rfl
        refine p_pure htab rfl rfl rfl rfl ?_
        obtain ⟨x17, q17, hm⟩ := yes_bind hm
        refine p_call0 (rOf_ok a2 (need_ok q17)) rfl rfl rfl rfl rfl (WkL.refl _) ?_
        rintro _ rfl
        obtain ⟨x18, q18, hm⟩ := yes_bind hm
        refine p_call0 (rSub_ok (rOf a1) (rOf a2) (need_ok q18)) rfl rfl rfl rfl rfl (WkL.refl _) ?_
        rintro _ rfl
        refine p_alloc htab rfl rfl rfl rfl rfl rfl rfl (fun b19 => ?_)
        refine p_store (ds' := [.v (.int .i64 ((rSub (rOf a1) (rOf a2)).gHi)), .v (.int .u64 ((rSub (rOf a1) (rOf a2)).gLo))]) (h' := [(b2, Blk.cells [.v (.int .i64 x1.1.gHi), .v (.int .u64 x1.1.gLo)] 31), (b19, Blk.cells [.v (.int .i64 ((rSub (rOf a1) (rOf a2)).gHi)), .v (.int .u64 ((rSub (rOf a1) (rOf a2)).gLo))] 31)]) 1 htab rfl rfl rfl rfl rfl rfl rfl rfl rfl rfl rfl rfl ?_
        refine ops_nil ?_
        refine then_normal ?_
        refine wpD_seq ?_
        refine wpD_region ?_
        refine p_load (d := eTApiWide (rSub (rOf a1) (rOf a2))) 1 htab rfl rfl rfl rfl rfl rfl rfl rfl ?_
        refine p_build (r := [.v (.int .i64 (0 : Int)), .v (.int .u64 (0 : Int))]) htab rfl rfl rfl rfl rfl rfl rfl rfl rfl ?_
        obtain ⟨x20, q20, hm⟩ := yes_bind hm
        refine p_call0 (rCmp_ok (rSub (rOf a1) (rOf a2)) (⟨(0 : Int), (0 : Int)⟩ : TApiWide) (need_ok q20)) rfl rfl rfl rfl rfl (WkL.refl _) ?_
        rintro _ rfl
        refine p_pure htab rfl rfl rfl rfl ?_
        refine ops_nil ?_
        refine then_normal ?_
        refine wpD_seq ?_
        refine wpD_seq ?_
        refine wpD_region ?_
        refine p_pure htab rfl rfl rfl rfl ?_
        refine ops_nil ?_
        refine then_normal ?_
        refine wpD_block ?_
        refine wpD_seq ?_
        refine wpD_region ?_
        refine p_pure htab rfl rfl rfl rfl ?_
        refine p_pure htab rfl rfl rfl rfl ?_
        refine ops_nil ?_
        refine then_normal ?_
        refine wpD_cond rfl (fun hc21 => ?_) (fun hc21 => ?_)
        · replace hm := yes_t hc21 hm
          refine wpD_seq ?_
          refine wpD_region ?_
          refine p_pure htab rfl rfl rfl rfl ?_
          refine p_pure htab rfl rfl rfl rfl ?_
          obtain ⟨x22, q22, hm⟩ := yes_bind hm
          refine p_call0 (r02_Quotient_ok a1 a2 x22 q22) rfl rfl rfl rfl rfl (WkL.refl _) ?_
          rintro _ rfl
          refine p_pure htab rfl rfl rfl rfl ?_
          refine p_pure htab rfl rfl rfl rfl ?_
          refine ops_nil ?_
          refine then_normal ?_
          refine wpD_ret ?_
          refine block_ret ?_
          refine then_ret ?_
          have er23 := yes_eq hm; subst er23
          refine retX.of (s' := ⟨[(6, .v (.int .i64 x22)), (7, .v (.int .i64 (0 : Int)))], [], []⟩) (WkS.perm (WkS.cons rfl (Wk.refl _) (WkS.cons rfl (Wk.refl _) (WkS.nil))) (List.Perm.refl _) (List.Perm.refl _)) (retD_mk (hh := []) (.inl rfl) (resL_cons (resOne_tmp rfl) (resL_cons (resOne_tmp rfl) (resL_nil))) (List.nil_sublist _) (List.Sublist.refl _) ?_)
          exact ⟨rfl, rfl, rfl⟩
        · replace hm := yes_f hc21 hm
          refine wpD_seq ?_
          refine wpD_region ?_
          refine p_pure htab rfl rfl rfl rfl ?_
          refine p_pure htab rfl rfl rfl rfl ?_
          refine ops_nil ?_
          refine then_normal ?_
          refine wpD_cond rfl (fun hc24 => ?_) (fun hc24 => ?_)
          · replace hm := yes_t hc24 hm
            refine wpD_seq ?_
            refine wpD_region ?_
            refine p_pure htab rfl rfl rfl rfl ?_
            obtain ⟨x25, q25, hm⟩ := yes_bind hm
            refine p_call0 (rOf_ok a1 (need_ok q25)) rfl rfl rfl rfl rfl (WkL.refl _) ?_
            rintro _ rfl
            refine p_pure htab rfl rfl rfl rfl ?_
            refine p_pure htab rfl rfl rfl rfl ?_
            obtain ⟨x26, q26, hm⟩ := yes_bind hm
            refine p_call0 (r02_Quotient_ok a1 a2 x26 q26) rfl rfl rfl rfl rfl (WkL.refl _) ?_
            rintro _ rfl
            refine p_pure htab rfl rfl rfl rfl ?_
            obtain ⟨x27, q27, hm⟩ := yes_bind hm
            refine p_call0 (rMul_ok x26 a2 (need_ok q27)) rfl rfl rfl rfl rfl (WkL.refl _) ?_
            rintro _ rfl
            obtain ⟨x28, q28, hm⟩ := yes_bind hm
            refine p_call0 (rSub_ok (rOf a1) (rMul x26 a2) (need_ok q28)) rfl rfl rfl rfl rfl (WkL.refl _) ?_
            rintro _ rfl
            obtain ⟨x29, q29, hm⟩ := yes_bind hm
            refine p_call0 (r02_low_ok (rSub (rOf a1) (rMul x26 a2)) x29 q29) rfl rfl rfl rfl rfl (WkL.refl _) ?_
            rintro _ rfl
            refine p_pure htab rfl rfl rfl rfl ?_
            refine p_pure htab rfl rfl rfl rfl ?_
            refine ops_nil ?_
            refine then_normal ?_
            refine wpD_ret ?_
            refine block_ret ?_
            refine then_ret ?_
            have er30 := yes_eq hm; subst er30
            refine retX.of (s' := ⟨[(6, .v (.int .i64 x29)), (7, .v (.int .i64 (0 : Int)))], [], []⟩) (WkS.perm (WkS.cons rfl (Wk.refl _) (WkS.cons rfl (Wk.refl _) (WkS.nil))) (List.Perm.refl _) (List.Perm.refl _)) (retD_mk (hh := []) (.inl rfl) (resL_cons (resOne_tmp rfl) (resL_cons (resOne_tmp rfl) (resL_nil))) (List.nil_sublist _) (List.Sublist.refl _) ?_)
            exact ⟨rfl, rfl, rfl⟩
          · replace hm := yes_f hc24 hm
            refine wpD_seq ?_
            refine wpD_region ?_
            refine p_pure htab rfl rfl rfl rfl ?_
            refine p_pure htab rfl rfl rfl rfl ?_
            refine ops_nil ?_
            refine then_normal ?_
            refine wpD_cond rfl (fun hc31 => ?_) (fun hc31 => ?_)
            · replace hm := yes_t hc31 hm
              refine wpD_seq ?_
              refine wpD_region ?_
              refine p_pure htab rfl rfl rfl rfl ?_
              refine p_pure htab rfl rfl rfl rfl ?_
              obtain ⟨x32, q32, hm⟩ := yes_bind hm
              refine p_call0 (r02_one_ok (decide ((rCmp (rSub (rOf a1) (rOf a2)) (⟨(0 : Int), (0 : Int)⟩ : TApiWide)) < (0 : Int))) x32 q32) rfl rfl rfl rfl rfl (WkL.refl _) ?_
              rintro _ rfl
              refine p_pure htab rfl rfl rfl rfl ?_
              refine p_pure htab rfl rfl rfl rfl ?_
              refine ops_nil ?_
              refine then_normal ?_
              refine wpD_ret ?_
              refine block_ret ?_
              refine then_ret ?_
              have er33 := yes_eq hm; subst er33
              refine retX.of (s' := ⟨[(6, .v (.int .i64 x32)), (7, .v (.int .i64 (0 : Int)))], [], []⟩) (WkS.perm (WkS.cons rfl (Wk.refl _) (WkS.cons rfl (Wk.refl _) (WkS.nil))) (List.Perm.refl _) (List.Perm.refl _)) (retD_mk (hh := []) (.inl rfl) (resL_cons (resOne_tmp rfl) (resL_cons (resOne_tmp rfl) (resL_nil))) (List.nil_sublist _) (List.Sublist.refl _) ?_)
              exact ⟨rfl, rfl, rfl⟩
            · replace hm := yes_f hc31 hm
              refine wpD_seq ?_
              refine wpD_region ?_
              refine p_pure htab rfl rfl rfl rfl ?_
              refine p_pure htab rfl rfl rfl rfl ?_
              refine ops_nil ?_
              refine then_normal ?_
              refine wpD_cond rfl (fun hc34 => ?_) (fun hc34 => ?_)
              · replace hm := yes_t hc34 hm
                refine wpD_seq ?_
                refine wpD_region ?_
                refine p_pure htab rfl rfl rfl rfl ?_
                refine p_pure htab rfl rfl rfl rfl ?_
                obtain ⟨x35, q35, hm⟩ := yes_bind hm
                refine p_call0 (r02_one_ok (decide ((rCmp (rSub (rOf a1) (rOf a2)) (⟨(0 : Int), (0 : Int)⟩ : TApiWide)) ≤ (0 : Int))) x35 q35) rfl rfl rfl rfl rfl (WkL.refl _) ?_
                rintro _ rfl
                refine p_pure htab rfl rfl rfl rfl ?_
                refine p_pure htab rfl rfl rfl rfl ?_
                refine ops_nil ?_
                refine then_normal ?_
                refine wpD_ret ?_
                refine block_ret ?_
                refine then_ret ?_
                have er36 := yes_eq hm; subst er36
                refine retX.of (s' := ⟨[(6, .v (.int .i64 x35)), (7, .v (.int .i64 (0 : Int)))], [], []⟩) (WkS.perm (WkS.cons rfl (Wk.refl _) (WkS.cons rfl (Wk.refl _) (WkS.nil))) (List.Perm.refl _) (List.Perm.refl _)) (retD_mk (hh := []) (.inl rfl) (resL_cons (resOne_tmp rfl) (resL_cons (resOne_tmp rfl) (resL_nil))) (List.nil_sublist _) (List.Sublist.refl _) ?_)
                exact ⟨rfl, rfl, rfl⟩
              · replace hm := yes_f hc34 hm
                refine wpD_seq ?_
                refine wpD_region ?_
                refine p_pure htab rfl rfl rfl rfl ?_
                refine p_pure htab rfl rfl rfl rfl ?_
                refine ops_nil ?_
                refine then_normal ?_
                refine wpD_cond rfl (fun hc37 => ?_) (fun hc37 => ?_)
                · replace hm := yes_t hc37 hm
                  refine wpD_seq ?_
                  refine wpD_region ?_
                  refine p_pure htab rfl rfl rfl rfl ?_
                  refine p_pure htab rfl rfl rfl rfl ?_
                  obtain ⟨x38, q38, hm⟩ := yes_bind hm
                  refine p_call0 (r02_one_ok ((rCmp (rSub (rOf a1) (rOf a2)) (⟨(0 : Int), (0 : Int)⟩ : TApiWide)) == (0 : Int)) x38 q38) rfl rfl rfl rfl rfl (WkL.refl _) ?_
                  rintro _ rfl
                  refine p_pure htab rfl rfl rfl rfl ?_
                  refine p_pure htab rfl rfl rfl rfl ?_
                  refine ops_nil ?_
                  refine then_normal ?_
                  refine wpD_ret ?_
                  refine block_ret ?_
                  refine then_ret ?_
                  have er39 := yes_eq hm; subst er39
                  refine retX.of (s' := ⟨[(6, .v (.int .i64 x38)), (7, .v (.int .i64 (0 : Int)))], [], []⟩) (WkS.perm (WkS.cons rfl (Wk.refl _) (WkS.cons rfl (Wk.refl _) (WkS.nil))) (List.Perm.refl _) (List.Perm.refl _)) (retD_mk (hh := []) (.inl rfl) (resL_cons (resOne_tmp rfl) (resL_cons (resOne_tmp rfl) (resL_nil))) (List.nil_sublist _) (List.Sublist.refl _) ?_)
                  exact ⟨rfl, rfl, rfl⟩
                · replace hm := yes_f hc37 hm
                  refine wpD_seq ?_
                  refine wpD_region ?_
                  refine p_pure htab rfl rfl rfl rfl ?_
                  refine p_pure htab rfl rfl rfl rfl ?_
                  refine ops_nil ?_
                  refine then_normal ?_
                  refine wpD_cond rfl (fun hc40 => ?_) (fun hc40 => ?_)
                  · replace hm := yes_t hc40 hm
                    refine wpD_seq ?_
                    refine wpD_region ?_
                    refine p_pure htab rfl rfl rfl rfl ?_
                    refine p_pure htab rfl rfl rfl rfl ?_
                    obtain ⟨x41, q41, hm⟩ := yes_bind hm
                    refine p_call0 (r02_one_ok ((rCmp (rSub (rOf a1) (rOf a2)) (⟨(0 : Int), (0 : Int)⟩ : TApiWide)) != (0 : Int)) x41 q41) rfl rfl rfl rfl rfl (WkL.refl _) ?_
                    rintro _ rfl
                    refine p_pure htab rfl rfl rfl rfl ?_
                    refine p_pure htab rfl rfl rfl rfl ?_
                    refine ops_nil ?_
                    refine then_normal ?_
                    refine wpD_ret ?_
                    refine block_ret ?_
                    refine then_ret ?_
                    have er42 := yes_eq hm; subst er42
                    refine retX.of (s' := ⟨[(6, .v (.int .i64 x41)), (7, .v (.int .i64 (0 : Int)))], [], []⟩) (WkS.perm (WkS.cons rfl (Wk.refl _) (WkS.cons rfl (Wk.refl _) (WkS.nil))) (List.Perm.refl _) (List.Perm.refl _)) (retD_mk (hh := []) (.inl rfl) (resL_cons (resOne_tmp rfl) (resL_cons (resOne_tmp rfl) (resL_nil))) (List.nil_sublist _) (List.Sublist.refl _) ?_)
                    exact ⟨rfl, rfl, rfl⟩
                  · replace hm := yes_f hc40 hm
                    refine wpD_seq ?_
                    refine wpD_region ?_
                    refine p_pure htab rfl rfl rfl rfl ?_
                    refine p_pure htab rfl rfl rfl rfl ?_
                    refine ops_nil ?_
                    refine then_normal ?_
                    refine wpD_cond rfl (fun hc43 => ?_) (fun hc43 => ?_)
                    · replace hm := yes_t hc43 hm
                      refine wpD_seq ?_
                      refine wpD_region ?_
                      refine p_pure htab rfl rfl rfl rfl ?_
                      refine p_pure htab rfl rfl rfl rfl ?_
                      refine p_pure htab rfl rfl rfl rfl ?_
                      refine p_split (i := 81) rfl (fun hg44 => ?_) (fun hg44 => ?_)
                      · replace hm := yes_t hg44 hm
                        refine p_pure htab rfl rfl rfl rfl ?_
                        refine p_pure htab rfl rfl rfl rfl ?_
                        refine p_pickT rfl rfl rfl rfl rfl rfl ?_
                        obtain ⟨x45, q45, hm⟩ := yes_bind hm
                        refine p_call0 (r02_one_ok (a2 != (0 : Int)) x45 q45) rfl rfl rfl rfl rfl (WkL.refl _) ?_
                        rintro _ rfl
                        refine p_pure htab rfl rfl rfl rfl ?_
                        refine p_pure htab rfl rfl rfl rfl ?_
                        refine ops_nil ?_
                        refine then_normal ?_
                        refine wpD_ret ?_
                        refine block_ret ?_
                        refine then_ret ?_
                        have er46 := yes_eq hm; subst er46
                        refine retX.of (s' := ⟨[(6, .v (.int .i64 x45)), (7, .v (.int .i64 (0 : Int)))], [], []⟩) (WkS.perm (WkS.cons rfl (Wk.refl _) (WkS.cons rfl (Wk.refl _) (WkS.nil))) (List.Perm.refl _) (List.Perm.refl _)) (retD_mk (hh := []) (.inl rfl) (resL_cons (resOne_tmp rfl) (resL_cons (resOne_tmp rfl) (resL_nil))) (List.nil_sublist _) (List.Sublist.refl _) ?_)
                        exact ⟨rfl, rfl, rfl⟩
                      · replace hm := yes_f hg44 hm
                        refine p_skip rfl rfl rfl ?_
                        refine p_skip rfl rfl rfl ?_
                        refine p_pickF rfl rfl rfl rfl rfl rfl ?_
                        obtain ⟨x47, q47, hm⟩ := yes_bind hm
                        refine p_call0 (r02_one_ok false x47 q47) rfl rfl rfl rfl rfl (WkL.refl _) ?_
                        rintro _ rfl
                        refine p_pure htab rfl rfl rfl rfl ?_
                        refine p_pure htab rfl rfl rfl rfl ?_
                        refine ops_nil ?_
                        refine then_normal ?_
                        refine wpD_ret ?_
                        refine block_ret ?_
                        refine then_ret ?_
                        have er48 := yes_eq hm; subst er48
                        refine retX.of (s' := ⟨[(6, .v (.int .i64 x47)), (7, .v (.int .i64 (0 : Int)))], [], []⟩) (WkS.perm (WkS.cons rfl (Wk.refl _) (WkS.cons rfl (Wk.refl _) (WkS.nil))) (List.Perm.refl _) (List.Perm.refl _)) (retD_mk (hh := []) (.inl rfl) (resL_cons (resOne_tmp rfl) (resL_cons (resOne_tmp rfl) (resL_nil))) (List.nil_sublist _) (List.Sublist.refl _) ?_)
                        exact ⟨rfl, rfl, rfl⟩
                    · replace hm := yes_f hc43 hm
                      refine wpD_seq ?_
                      refine wpD_region ?_
                      refine p_pure htab rfl rfl rfl rfl ?_
                      refine p_pure htab rfl rfl rfl rfl ?_
                      refine ops_nil ?_
                      refine then_normal ?_
                      refine wpD_cond rfl (fun hc49 => ?_) (fun hc49 => ?_)
                      · replace hm := yes_t hc49 hm
                        refine wpD_seq ?_
                        refine wpD_region ?_
                        refine p_pure htab rfl rfl rfl rfl ?_
                        refine p_pure htab rfl rfl rfl rfl ?_
                        refine p_pure htab rfl rfl rfl rfl ?_
                        refine p_split (i := 90) rfl (fun hg50 => ?_) (fun hg50 => ?_)
                        · replace hm := yes_t hg50 hm
                          refine p_skip rfl rfl rfl ?_
                          refine p_skip rfl rfl rfl ?_
                          refine p_pickT rfl rfl rfl rfl rfl rfl ?_
                          obtain ⟨x51, q51, hm⟩ := yes_bind hm
                          refine p_call0 (r02_one_ok true x51 q51) rfl rfl rfl rfl rfl (WkL.refl _) ?_
                          rintro _ rfl
                          refine p_pure htab rfl rfl rfl rfl ?_
                          refine p_pure htab rfl rfl rfl rfl ?_
                          refine ops_nil ?_
                          refine then_normal ?_
                          refine wpD_ret ?_
                          refine block_ret ?_
                          refine then_ret ?_
                          have er52 := yes_eq hm; subst er52
                          refine retX.of (s' := ⟨[(6, .v (.int .i64 x51)), (7, .v (.int .i64 (0 : Int)))], [], []⟩) (WkS.perm (WkS.cons rfl (Wk.refl _) (WkS.cons rfl (Wk.refl _) (WkS.nil))) (List.Perm.refl _) (List.Perm.refl _)) (retD_mk (hh := []) (.inl rfl) (resL_cons (resOne_tmp rfl) (resL_cons (resOne_tmp rfl) (resL_nil))) (List.nil_sublist _) (List.Sublist.refl _) ?_)
                          exact ⟨rfl, rfl, rfl⟩
                        · replace hm := yes_f hg50 hm
                          refine p_pure htab rfl rfl rfl rfl ?_
                          refine p_pure htab rfl rfl rfl rfl ?_
                          refine p_pickF rfl rfl rfl rfl rfl rfl ?_
                          obtain ⟨x53, q53, hm⟩ := yes_bind hm
                          refine p_call0 (r02_one_ok (a2 != (0 : Int)) x53 q53) rfl rfl rfl rfl rfl (WkL.refl _) ?_
                          rintro _ rfl
                          refine p_pure htab rfl rfl rfl rfl ?_
                          refine p_pure htab rfl rfl rfl rfl ?_
                          refine ops_nil ?_
                          refine then_normal ?_
                          refine wpD_ret ?_
                          refine block_ret ?_
                          refine then_ret ?_
                          have er54 := yes_eq hm; subst er54
                          refine retX.of (s' := ⟨[(6, .v (.int .i64 x53)), (7, .v (.int .i64 (0 : Int)))], [], []⟩) (WkS.perm (WkS.cons rfl (Wk.refl _) (WkS.cons rfl (Wk.refl _) (WkS.nil))) (List.Perm.refl _) (List.Perm.refl _)) (retD_mk (hh := []) (.inl rfl) (resL_cons (resOne_tmp rfl) (resL_cons (resOne_tmp rfl) (resL_nil))) (List.nil_sublist _) (List.Sublist.refl _) ?_)
                          exact ⟨rfl, rfl, rfl⟩
                      · replace hm := yes_f hc49 hm
                        refine wpD_skip ?_
                        refine block_normal ?_
                        refine then_normal ?_
                        refine wpD_seq ?_
                        refine wpD_region ?_
                        refine p_pure htab rfl rfl rfl rfl ?_
                        refine p_pure htab rfl rfl rfl rfl ?_
                        refine ops_nil ?_
                        refine then_normal ?_
                        refine wpD_ret ?_
                        have er55 := yes_eq hm; subst er55
                        refine retX.of (s' := ⟨[(6, .v (.int .i64 (0 : Int))), (7, .v (.int .i64 (2 : Int)))], [], []⟩) (WkS.perm (WkS.cons rfl (Wk.refl _) (WkS.cons rfl (Wk.refl _) (WkS.nil))) (List.Perm.refl _) (List.Perm.refl _)) (retD_mk (hh := []) (.inl rfl) (resL_cons (resOne_tmp rfl) (resL_cons (resOne_tmp rfl) (resL_nil))) (List.nil_sublist _) (List.Sublist.refl _) ?_)
                        exact ⟨rfl, rfl, rfl⟩
noncomputable def r02_One (a0 : Int) (a1 : Int) : Option (Int × Int) :=
  (bif (a0 == (5 : Int)) then ((need (pI a1)).bind fun x6 => ((need (pW (rOf a1))).bind fun x7 => ((r02_low (rNeg (rOf a1))).bind fun x8 => some (x8, (0 : Int))))) else (bif (a0 == (6 : Int)) then ((r02_one (a1 == (0 : Int))).bind fun x11 => some (x11, (0 : Int))) else some ((0 : Int), (2 : Int))))
set_option maxRecDepth 100000 in
set_option maxHeartbeats 2000000 in
theorem r02_One_ok (a0 : Int) (a1 : Int) (r : Int × Int) (h0 : r02_One a0 a1 = some r) : CallsD Try.prog 18 [.v (.int .i64 a0), .v (.int .i64 a1)] [] [] (fun d h k => d = .tup [.v (.int .i64 r.1), .v (.int .i64 r.2)] ∧ h = [] ∧ k = []) := by
  have hm := yes_of h0
  unfold r02_One at hm
  clear h0
  refine enterX htab Try.func18 rfl rfl rfl rfl rfl (fun C => ?_)
  refine wpD_seq ?_
  refine wpD_region ?_
  refine p_pure htab rfl rfl rfl rfl ?_
  refine p_pure htab rfl rfl rfl rfl ?_
  refine ops_nil ?_
  refine then_normal ?_
  refine wpD_seq ?_
  refine wpD_seq ?_
  refine wpD_region ?_
  refine p_pure htab rfl rfl rfl rfl ?_
  refine p_pure htab rfl rfl rfl rfl ?_
  refine ops_nil ?_
  refine then_normal ?_
  refine wpD_cond rfl (fun hc5 => ?_) (fun hc5 => ?_)
  · replace hm := yes_t hc5 hm
    refine wpD_seq ?_
    refine wpD_region ?_
    refine p_pure htab rfl rfl rfl rfl ?_
    obtain ⟨x6, q6, hm⟩ := yes_bind hm
    refine p_call0 (rOf_ok a1 (need_ok q6)) rfl rfl rfl rfl rfl (WkL.refl _) ?_
    rintro _ rfl
    obtain ⟨x7, q7, hm⟩ := yes_bind hm
    refine p_call0 (rNeg_ok (rOf a1) (need_ok q7)) rfl rfl rfl rfl rfl (WkL.refl _) ?_
    rintro _ rfl
    obtain ⟨x8, q8, hm⟩ := yes_bind hm
    refine p_call0 (r02_low_ok (rNeg (rOf a1)) x8 q8) rfl rfl rfl rfl rfl (WkL.refl _) ?_
    rintro _ rfl
    refine p_pure htab rfl rfl rfl rfl ?_
    refine p_pure htab rfl rfl rfl rfl ?_
    refine ops_nil ?_
    refine then_normal ?_
    refine wpD_ret ?_
    refine then_ret ?_
    have er9 := yes_eq hm; subst er9
    refine retX.of (s' := ⟨[(4, .v (.int .i64 x8)), (5, .v (.int .i64 (0 : Int)))], [], []⟩) (WkS.perm (WkS.cons rfl (Wk.refl _) (WkS.cons rfl (Wk.refl _) (WkS.nil))) (List.Perm.refl _) (List.Perm.refl _)) (retD_mk (hh := []) (.inl rfl) (resL_cons (resOne_tmp rfl) (resL_cons (resOne_tmp rfl) (resL_nil))) (List.nil_sublist _) (List.Sublist.refl _) ?_)
    exact ⟨rfl, rfl, rfl⟩
  · replace hm := yes_f hc5 hm
    refine wpD_skip ?_
    refine then_normal ?_
    refine wpD_seq ?_
    refine wpD_seq ?_
    refine wpD_region ?_
    refine p_pure htab rfl rfl rfl rfl ?_
    refine p_pure htab rfl rfl rfl rfl ?_
    refine ops_nil ?_
    refine then_normal ?_
    refine wpD_cond rfl (fun hc10 => ?_) (fun hc10 => ?_)
    · replace hm := yes_t hc10 hm
      refine wpD_seq ?_
      refine wpD_region ?_
      refine p_pure htab rfl rfl rfl rfl ?_
      refine p_pure htab rfl rfl rfl rfl ?_
      obtain ⟨x11, q11, hm⟩ := yes_bind hm
      refine p_call0 (r02_one_ok (a1 == (0 : Int)) x11 q11) rfl rfl rfl rfl rfl (WkL.refl _) ?_
      rintro _ rfl
      refine p_pure htab rfl rfl rfl rfl ?_
      refine p_pure htab rfl rfl rfl rfl ?_
      refine ops_nil ?_
      refine then_normal ?_
      refine wpD_ret ?_
      refine then_ret ?_
      have er12 := yes_eq hm; subst er12
      refine retX.of (s' := ⟨[(4, .v (.int .i64 x11)), (5, .v (.int .i64 (0 : Int)))], [], []⟩) (WkS.perm (WkS.cons rfl (Wk.refl _) (WkS.cons rfl (Wk.refl _) (WkS.nil))) (List.Perm.refl _) (List.Perm.refl _)) (retD_mk (hh := []) (.inl rfl) (resL_cons (resOne_tmp rfl) (resL_cons (resOne_tmp rfl) (resL_nil))) (List.nil_sublist _) (List.Sublist.refl _) ?_)
      exact ⟨rfl, rfl, rfl⟩
    · replace hm := yes_f hc10 hm
      refine wpD_skip ?_
      refine then_normal ?_
      refine wpD_seq ?_
      refine wpD_region ?_
      refine p_pure htab rfl rfl rfl rfl ?_
      refine p_pure htab rfl rfl rfl rfl ?_
      refine ops_nil ?_
      refine then_normal ?_
      refine wpD_ret ?_
      have er13 := yes_eq hm; subst er13
      refine retX.of (s' := ⟨[(4, .v (.int .i64 (0 : Int))), (5, .v (.int .i64 (2 : Int)))], [], []⟩) (WkS.perm (WkS.cons rfl (Wk.refl _) (WkS.cons rfl (Wk.refl _) (WkS.nil))) (List.Perm.refl _) (List.Perm.refl _)) (retD_mk (hh := []) (.inl rfl) (resL_cons (resOne_tmp rfl) (resL_cons (resOne_tmp rfl) (resL_nil))) (List.nil_sublist _) (List.Sublist.refl _) ?_)
      exact ⟨rfl, rfl, rfl⟩
noncomputable def r03_none (a0 : TApiSpan) : Option (Bool) :=
  (bif (!a0.gSome) then some true else some (decide (a0.gHi < a0.gLo)))
set_option maxRecDepth 100000 in
set_option maxHeartbeats 2000000 in
theorem r03_none_ok (a0 : TApiSpan) (r : Bool) (h0 : r03_none a0 = some r) : CallsD Try.prog 39 [eTApiSpan a0] [] [] (fun d h k => d = .v (.bool r) ∧ h = [] ∧ k = []) := by
  have hm := yes_of h0
  unfold r03_none at hm
  clear h0
  refine enterX htab Try.func39 rfl rfl rfl rfl rfl (fun C => ?_)
  refine wpD_seq ?_
  refine wpD_region ?_
  refine p_box rfl rfl rfl rfl rfl rfl rfl (fun b1 => ?_)
  refine p_pure htab rfl rfl rfl rfl ?_
  refine ops_nil ?_
  refine then_normal ?_
  refine wpD_seq ?_
  refine wpD_region ?_
  refine p_pure htab rfl rfl rfl rfl ?_
  refine p_load 0 htab rfl rfl rfl rfl rfl rfl rfl rfl ?_
  refine p_pure htab rfl rfl rfl rfl ?_
  refine p_pure htab rfl rfl rfl rfl ?_
  refine p_split (i := 6) rfl (fun hg2 => ?_) (fun hg2 => ?_)
  · replace hm := yes_t hg2 hm
    refine p_skip rfl rfl rfl ?_
    refine p_skip rfl rfl rfl ?_
    refine p_skip rfl rfl rfl ?_
    refine p_skip rfl rfl rfl ?_
    refine p_skip rfl rfl rfl ?_
    refine p_pickT rfl rfl rfl rfl rfl rfl ?_
    refine p_pure htab rfl rfl rfl rfl ?_
    refine ops_nil ?_
    refine then_normal ?_
    refine wpD_ret ?_
    have er3 := yes_eq hm; subst er3
    refine retX.of (s' := ⟨[(2, .v (.bool true))], [], []⟩) (WkS.perm (WkS.cons rfl (Wk.refl _) (WkS.nil)) (List.Perm.refl _) (List.Perm.refl _)) (retD_mk (hh := []) (.inl rfl) (resL_cons (resOne_tmp rfl) (resL_nil)) (List.nil_sublist _) (List.Sublist.refl _) ?_)
    exact ⟨rfl, rfl, rfl⟩
  · replace hm := yes_f hg2 hm
    refine p_pure htab rfl rfl rfl rfl ?_
    refine p_load 0 htab rfl rfl rfl rfl rfl rfl rfl rfl ?_
    refine p_pure htab rfl rfl rfl rfl ?_
    refine p_load 0 htab rfl rfl rfl rfl rfl rfl rfl rfl ?_
    refine p_pure htab rfl rfl rfl rfl ?_
    refine p_pickF rfl rfl rfl rfl rfl rfl ?_
    refine p_pure htab rfl rfl rfl rfl ?_
    refine ops_nil ?_
    refine then_normal ?_
    refine wpD_ret ?_
    have er4 := yes_eq hm; subst er4
    refine retX.of (s' := ⟨[(2, .v (.bool (decide (a0.gHi < a0.gLo))))], [], []⟩) (WkS.perm (WkS.cons rfl (Wk.refl _) (WkS.nil)) (List.Perm.refl _) (List.Perm.refl _)) (retD_mk (hh := []) (.inl rfl) (resL_cons (resOne_tmp rfl) (resL_nil)) (List.nil_sublist _) (List.Sublist.refl _) ?_)
    exact ⟨rfl, rfl, rfl⟩
noncomputable def r03_None (a0 : TApiSpan) : Option (Bool) :=
  ((r03_none a0).bind fun x2 => some x2)
set_option maxRecDepth 100000 in
set_option maxHeartbeats 2000000 in
theorem r03_None_ok (a0 : TApiSpan) (r : Bool) (h0 : r03_None a0 = some r) : CallsD Try.prog 20 [eTApiSpan a0] [] [] (fun d h k => d = .v (.bool r) ∧ h = [] ∧ k = []) := by
  have hm := yes_of h0
  unfold r03_None at hm
  clear h0
  refine enterX htab Try.func20 rfl rfl rfl rfl rfl (fun C => ?_)
  refine wpD_seq ?_
  refine wpD_region ?_
  refine p_box rfl rfl rfl rfl rfl rfl rfl (fun b1 => ?_)
  refine p_pure htab rfl rfl rfl rfl ?_
  refine ops_nil ?_
  refine then_normal ?_
  refine wpD_seq ?_
  refine wpD_region ?_
  refine p_load (d := eTApiSpan a0) 0 htab rfl rfl rfl rfl rfl rfl rfl rfl ?_
  obtain ⟨x2, q2, hm⟩ := yes_bind hm
  refine p_call0 (r03_none_ok a0 x2 q2) rfl rfl rfl rfl rfl (WkL.refl _) ?_
  rintro _ rfl
  refine p_pure htab rfl rfl rfl rfl ?_
  refine ops_nil ?_
  refine then_normal ?_
  refine wpD_ret ?_
  have er3 := yes_eq hm; subst er3
  refine retX.of (s' := ⟨[(2, .v (.bool x2))], [], []⟩) (WkS.perm (WkS.cons rfl (Wk.refl _) (WkS.nil)) (List.Perm.refl _) (List.Perm.refl _)) (retD_mk (hh := []) (.inl rfl) (resL_cons (resOne_tmp rfl) (resL_nil)) (List.nil_sublist _) (List.Sublist.refl _) ?_)
  exact ⟨rfl, rfl, rfl⟩
noncomputable def r03_Make (a0 : Int) (a1 : Int) : Option (TApiSpan) :=
  ((r03_none (⟨true, a0, a1⟩ : TApiSpan)).bind fun x3 => (bif x3 then some (⟨false, (0 : Int), (0 : Int)⟩ : TApiSpan) else some (⟨true, a0, a1⟩ : TApiSpan)))
set_option maxRecDepth 100000 in
set_option maxHeartbeats 2000000 in
theorem r03_Make_ok (a0 : Int) (a1 : Int) (r : TApiSpan) (h0 : r03_Make a0 a1 = some r) : CallsD Try.prog 19 [.v (.int .i64 a0), .v (.int .i64 a1)] [] [] (fun d h k => d = eTApiSpan r ∧ h = [] ∧ k = []) := by
  have hm := yes_of h0
  unfold r03_Make at hm
  clear h0
  refine enterX htab Try.func19 rfl rfl rfl rfl rfl (fun C => ?_)
  refine wpD_seq ?_
  refine wpD_region ?_
  refine p_alloc htab rfl rfl rfl rfl rfl rfl rfl (fun b1 => ?_)
  refine ops_nil ?_
  refine then_normal ?_
  refine wpD_seq ?_
  refine wpD_region ?_
  refine p_pure htab rfl rfl rfl rfl ?_
  refine p_pure htab rfl rfl rfl rfl ?_
  refine p_build (r := [.v (.bool true), .v (.int .i64 a0), .v (.int .i64 a1)]) htab rfl rfl rfl rfl rfl rfl rfl rfl rfl ?_
  refine p_alloc htab rfl rfl rfl rfl rfl rfl rfl (fun b2 => ?_)
  refine p_store (ds' := [.v (.bool true), .v (.int .i64 a0), .v (.int .i64 a1)]) (h' := [(b1, Blk.cells [.v (.bool false), .v (.int .i64 (0 : Int)), .v (.int .i64 (0 : Int))] 23), (b2, Blk.cells [.v (.bool true), .v (.int .i64 a0), .v (.int .i64 a1)] 23)]) 1 htab rfl rfl rfl rfl rfl rfl rfl rfl rfl rfl rfl rfl ?_
  refine ops_nil ?_
  refine then_normal ?_
  refine wpD_seq ?_
  refine wpD_seq ?_
  refine wpD_region ?_
  refine p_load (d := eTApiSpan (⟨true, a0, a1⟩ : TApiSpan)) 1 htab rfl rfl rfl rfl rfl rfl rfl rfl ?_
  obtain ⟨x3, q3, hm⟩ := yes_bind hm
  refine p_call0 (r03_none_ok (⟨true, a0, a1⟩ : TApiSpan) x3 q3) rfl rfl rfl rfl rfl (WkL.refl _) ?_
  rintro _ rfl
  refine ops_nil ?_
  refine then_normal ?_
  refine wpD_cond rfl (fun hc4 => ?_) (fun hc4 => ?_)
  · replace hm := yes_t hc4 hm
    refine wpD_seq ?_
    refine wpD_region ?_
    refine p_build (r := [.v (.bool false), .v (.int .i64 (0 : Int)), .v (.int .i64 (0 : Int))]) htab rfl rfl rfl rfl rfl rfl rfl rfl rfl ?_
    refine p_store (ds' := [.v (.bool false), .v (.int .i64 (0 : Int)), .v (.int .i64 (0 : Int))]) (h' := [(b1, Blk.cells [.v (.bool false), .v (.int .i64 (0 : Int)), .v (.int .i64 (0 : Int))] 23), (b2, Blk.cells [.v (.bool true), .v (.int .i64 a0), .v (.int .i64 a1)] 23)]) 0 htab rfl rfl rfl rfl rfl rfl rfl rfl rfl rfl rfl rfl ?_
    refine ops_nil ?_
    refine then_normal ?_
    refine wpD_ret ?_
    refine then_ret ?_
    have er5 := yes_eq hm; subst er5
    refine retX.of (s' := ⟨[(4, .ptr b1 0)], [(b1, Blk.cells [.v (.bool false), .v (.int .i64 (0 : Int)), .v (.int .i64 (0 : Int))] 23)], []⟩) (WkS.perm (WkS.cons rfl (Wk.refl _) (WkS.nil)) (List.Perm.refl _) (List.Perm.refl _)) (retD_mk (hh := []) (.inl rfl) (resL_cons (resOne_cell 0 rfl rfl rfl rfl) (resL_nil)) (List.nil_sublist _) (List.Sublist.refl _) ?_)
    exact ⟨rfl, rfl, rfl⟩
  · replace hm := yes_f hc4 hm
    refine wpD_skip ?_
    refine then_normal ?_
    refine wpD_seq ?_
    refine wpD_region ?_
    refine p_load (d := eTApiSpan (⟨true, a0, a1⟩ : TApiSpan)) 1 htab rfl rfl rfl rfl rfl rfl rfl rfl ?_
    refine p_store (ds' := [.v (.bool true), .v (.int .i64 a0), .v (.int .i64 a1)]) (h' := [(b1, Blk.cells [.v (.bool true), .v (.int .i64 a0), .v (.int .i64 a1)] 23), (b2, Blk.cells [.v (.bool true), .v (.int .i64 a0), .v (.int .i64 a1)] 23)]) 0 htab rfl rfl rfl rfl rfl rfl rfl rfl rfl rfl rfl rfl ?_
    refine ops_nil ?_
    refine then_normal ?_
    refine wpD_ret ?_
    have er6 := yes_eq hm; subst er6
    refine retX.of (s' := ⟨[(4, .ptr b1 0)], [(b1, Blk.cells [.v (.bool true), .v (.int .i64 a0), .v (.int .i64 a1)] 23)], []⟩) (WkS.perm (WkS.cons rfl (Wk.refl _) (WkS.nil)) (List.Perm.refl _) (List.Perm.refl _)) (retD_mk (hh := []) (.inl rfl) (resL_cons (resOne_cell 0 rfl rfl rfl rfl) (resL_nil)) (List.nil_sublist _) (List.Sublist.refl _) ?_)
    exact ⟨rfl, rfl, rfl⟩
noncomputable def r03_Meet (a0 : TApiSpan) (a1 : TApiSpan) : Option (TApiSpan) :=
  (Option.bind (α := Int) (bif (decide (a0.gLo < a1.gLo)) then some a1.gLo else some a0.gLo) fun y5 => (Option.bind (α := Int) (bif (decide (a1.gHi < a0.gHi)) then some a1.gHi else some a0.gHi) fun y8 => (Option.bind (α := Bool) ((r03_none a0).bind fun x14 => (bif x14 then some true else ((r03_none a1).bind fun x16 => some x16))) fun y13 => (bif y13 then some (⟨false, (0 : Int), (0 : Int)⟩ : TApiSpan) else ((r03_Make y5 y8).bind fun x20 => some x20)))))
set_option maxRecDepth 100000 in
set_option maxHeartbeats 2000000 in
theorem r03_Meet_ok (a0 : TApiSpan) (a1 : TApiSpan) (r : TApiSpan) (h0 : r03_Meet a0 a1 = some r) : CallsD Try.prog 35 [eTApiSpan a0, eTApiSpan a1] [] [] (fun d h k => d = eTApiSpan r ∧ h = [] ∧ k = []) := by
  have hm := yes_of h0
  unfold r03_Meet at hm
  clear h0
  refine enterX htab Try.func35 rfl rfl rfl rfl rfl (fun C => ?_)
  refine wpD_seq ?_
  refine wpD_region ?_
  refine p_box rfl rfl rfl rfl rfl rfl rfl (fun b1 => ?_)
  refine p_box rfl rfl rfl rfl rfl rfl rfl (fun b2 => ?_)
  refine p_alloc htab rfl rfl rfl rfl rfl rfl rfl (fun b3 => ?_)
  refine ops_nil ?_
  refine then_normal ?_
  refine wpD_seq ?_
  refine wpD_draws 5 [] [[],[0],[],[2],[0]] [0,2] [[],[0],[],[2],[0,1],[0,1,2,3,4]] (by kernel_rfl) (by kernel_rfl) (by kernel_rfl) (by rfl) (by rfl) (by kernel_rfl) ?_
  apply Exists.intro
  apply Exists.intro
  intro bs
  refine z_e rfl rfl (ex_pure htab rfl) rfl rfl rfl rfl rfl rfl ?_
  refine z_qM rfl rfl (xm_load 0 htab rfl rfl rfl rfl rfl) rfl rfl rfl rfl rfl rfl ?_
  refine z_e rfl rfl (ex_pure htab rfl) rfl rfl rfl rfl rfl rfl ?_
  refine z_qM rfl rfl (xm_load 0 htab rfl rfl rfl rfl rfl) rfl rfl rfl rfl rfl rfl ?_
  refine z_q rfl rfl (ex_pure htab rfl) rfl rfl rfl rfl rfl rfl ?_
  refine z_nil rfl rfl (fun e he => by simp [isAl] at he) ?_
  refine p_pure htab rfl rfl rfl rfl ?_
  refine ops_nil ?_
  refine then_normal ?_
  refine wpD_seq ?_
  refine wpD_seq ?_
  refine wpD_region ?_
  refine p_pure htab rfl rfl rfl rfl ?_
  refine p_load 1 htab rfl rfl rfl rfl rfl rfl rfl rfl ?_
  refine p_pure htab rfl rfl rfl rfl ?_
  refine p_pure htab rfl rfl rfl rfl ?_
  refine ops_nil ?_
  refine then_normal ?_
  obtain ⟨y5, q5, ho5⟩ := yes_bind hm
  refine wpD_mid (Y := Unit) (fun z5 => (⟨[(2, .ptr b1 0), (3, .ptr b2 0), (4, .ptr b3 0), (5, .v (.int .i64 y5)), (6, .v (.int .i64 a0.gHi))], [(b1, Blk.cells [.v (.bool a0.gSome), .v (.int .i64 a0.gLo), .v (.int .i64 a0.gHi)] 23), (b2, Blk.cells [.v (.bool a1.gSome), .v (.int .i64 a1.gLo), .v (.int .i64 a1.gHi)] 23), (b3, Blk.cells [.v (.bool false), .v (.int .i64 (0 : Int)), .v (.int .i64 (0 : Int))] 23)], []⟩ : S)) ?_ ?_
  · clear hm; have hm := yes_of q5
    refine wpD_cond rfl (fun hc6 => ?_) (fun hc6 => ?_)
    · replace hm := yes_t hc6 hm
      refine wpD_region ?_
      refine p_pure htab rfl rfl rfl rfl ?_
      refine p_load 1 htab rfl rfl rfl rfl rfl rfl rfl rfl ?_
      refine p_pure htab rfl rfl rfl rfl ?_
      refine ops_nil ?_
      have e5 := yes_eq hm; subst e5
      refine ⟨rfl, ?_⟩
      exact WkX.of () (WkS.perm (WkS.cons rfl (Wk.refl _) (WkS.cons rfl (Wk.refl _) (WkS.cons rfl (Wk.refl _) (WkS.cons rfl (Wk.refl _) (WkS.cons rfl (Wk.refl _) (WkS.nil)))))) (List.Perm.refl _) (List.Perm.refl _))
    · replace hm := yes_f hc6 hm
      refine wpD_skip ?_
      have e5 := yes_eq hm; subst e5
      refine ⟨rfl, ?_⟩
      exact WkX.of () (WkS.perm (WkS.cons rfl (Wk.refl _) (WkS.cons rfl (Wk.refl _) (WkS.cons rfl (Wk.refl _) (WkS.cons rfl (Wk.refl _) (WkS.cons rfl (Wk.refl _) (WkS.nil)))))) (List.Perm.refl _) (List.Perm.refl _))
  · intro s5 hw5; clear hm; have hm := ho5; clear q5 ho5
    refine then_normal ?_
    refine wpD_wkX hw5 (fun z5 => ?_)
    refine wpD_seq ?_
    refine wpD_seq ?_
    refine wpD_region ?_
    refine p_pure htab rfl rfl rfl rfl ?_
    refine p_load 1 htab rfl rfl rfl rfl rfl rfl rfl rfl ?_
    refine p_pure htab rfl rfl rfl rfl ?_
    refine p_pure htab rfl rfl rfl rfl ?_
    refine ops_nil ?_
    refine then_normal ?_
    obtain ⟨y8, q8, ho8⟩ := yes_bind hm
    refine wpD_mid (Y := Unit) (fun z8 => (⟨[(2, .ptr b1 0), (3, .ptr b2 0), (4, .ptr b3 0), (5, .v (.int .i64 y5)), (6, .v (.int .i64 y8))], [(b1, Blk.cells [.v (.bool a0.gSome), .v (.int .i64 a0.gLo), .v (.int .i64 a0.gHi)] 23), (b2, Blk.cells [.v (.bool a1.gSome), .v (.int .i64 a1.gLo), .v (.int .i64 a1.gHi)] 23), (b3, Blk.cells [.v (.bool false), .v (.int .i64 (0 : Int)), .v (.int .i64 (0 : Int))] 23)], []⟩ : S)) ?_ ?_
    · clear hm; have hm := yes_of q8
      refine wpD_cond rfl (fun hc9 => ?_) (fun hc9 => ?_)
      · replace hm := yes_t hc9 hm
        refine wpD_region ?_
        refine p_pure htab rfl rfl rfl rfl ?_
        refine p_load 1 htab rfl rfl rfl rfl rfl rfl rfl rfl ?_
        refine p_pure htab rfl rfl rfl rfl ?_
        refine ops_nil ?_
        have e8 := yes_eq hm; subst e8
        refine ⟨rfl, ?_⟩
        exact WkX.of () (WkS.perm (WkS.cons rfl (Wk.refl _) (WkS.cons rfl (Wk.refl _) (WkS.cons rfl (Wk.refl _) (WkS.cons rfl (Wk.refl _) (WkS.cons rfl (Wk.refl _) (WkS.nil)))))) (List.Perm.refl _) (List.Perm.refl _))
      · replace hm := yes_f hc9 hm
        refine wpD_skip ?_
        have e8 := yes_eq hm; subst e8
        refine ⟨rfl, ?_⟩
        exact WkX.of () (WkS.perm (WkS.cons rfl (Wk.refl _) (WkS.cons rfl (Wk.refl _) (WkS.cons rfl (Wk.refl _) (WkS.cons rfl (Wk.refl _) (WkS.cons rfl (Wk.refl _) (WkS.nil)))))) (List.Perm.refl _) (List.Perm.refl _))
    · intro s8 hw8; clear hm; have hm := ho8; clear q8 ho8
      refine then_normal ?_
      refine wpD_wkX hw8 (fun z8 => ?_)
      refine wpD_seq ?_
      refine wpD_seq ?_
      obtain ⟨y13, q13, ho13⟩ := yes_bind hm
      refine wpD_mid (Y := Unit) (fun z13 => (⟨[(4, .ptr b3 0), (5, .v (.int .i64 y5)), (6, .v (.int .i64 y8)), (28, .v (.bool y13))], [(b1, Blk.cells [.v (.bool a0.gSome), .v (.int .i64 a0.gLo), .v (.int .i64 a0.gHi)] 23), (b2, Blk.cells [.v (.bool a1.gSome), .v (.int .i64 a1.gLo), .v (.int .i64 a1.gHi)] 23), (b3, Blk.cells [.v (.bool false), .v (.int .i64 (0 : Int)), .v (.int .i64 (0 : Int))] 23)], []⟩ : S)) ?_ ?_
      · clear hm; have hm := yes_of q13
        refine wpD_region ?_
        refine p_load (d := eTApiSpan a0) 0 htab rfl rfl rfl rfl rfl rfl rfl rfl ?_
        obtain ⟨x14, q14, hm⟩ := yes_bind hm
        refine p_call0 (r03_none_ok a0 x14 q14) rfl rfl rfl rfl rfl (WkL.refl _) ?_
        rintro _ rfl
        refine p_pure htab rfl rfl rfl rfl ?_
        refine p_split (i := 25) rfl (fun hg15 => ?_) (fun hg15 => ?_)
        · replace hm := yes_t hg15 hm
          refine p_skip rfl rfl rfl ?_
          refine p_skip rfl rfl rfl ?_
          refine p_pickT rfl rfl rfl rfl rfl rfl ?_
          refine ops_nil ?_
          have e13 := yes_eq hm; subst e13
          refine ⟨rfl, ?_⟩
          exact WkX.of () (WkS.perm (WkS.cons rfl (Wk.refl _) (WkS.cons rfl (Wk.refl _) (WkS.cons rfl (Wk.refl _) (WkS.cons rfl (Wk.refl _) (WkS.nil))))) (List.Perm.refl _) (List.Perm.refl _))
        · replace hm := yes_f hg15 hm
          refine p_load (d := eTApiSpan a1) 1 htab rfl rfl rfl rfl rfl rfl rfl rfl ?_
          obtain ⟨x16, q16, hm⟩ := yes_bind hm
          refine p_call0 (r03_none_ok a1 x16 q16) rfl rfl rfl rfl rfl (WkL.refl _) ?_
          rintro _ rfl
          refine p_pickF rfl rfl rfl rfl rfl rfl ?_
          refine ops_nil ?_
          have e13 := yes_eq hm; subst e13
          refine ⟨rfl, ?_⟩
          exact WkX.of () (WkS.perm (WkS.cons rfl (Wk.refl _) (WkS.cons rfl (Wk.refl _) (WkS.cons rfl (Wk.refl _) (WkS.cons rfl (Wk.refl _) (WkS.nil))))) (List.Perm.refl _) (List.Perm.refl _))
      · intro s13 hw13; clear hm; have hm := ho13; clear q13 ho13
        refine then_normal ?_
        refine wpD_wkX hw13 (fun z13 => ?_)
        refine wpD_cond rfl (fun hc18 => ?_) (fun hc18 => ?_)
        · replace hm := yes_t hc18 hm
          refine wpD_seq ?_
          refine wpD_region ?_
          refine p_build (r := [.v (.bool false), .v (.int .i64 (0 : Int)), .v (.int .i64 (0 : Int))]) htab rfl rfl rfl rfl rfl rfl rfl rfl rfl ?_
          refine p_store (ds' := [.v (.bool false), .v (.int .i64 (0 : Int)), .v (.int .i64 (0 : Int))]) (h' := [(b1, Blk.cells [.v (.bool a0.gSome), .v (.int .i64 a0.gLo), .v (.int .i64 a0.gHi)] 23), (b2, Blk.cells [.v (.bool a1.gSome), .v (.int .i64 a1.gLo), .v (.int .i64 a1.gHi)] 23), (b3, Blk.cells [.v (.bool false), .v (.int .i64 (0 : Int)), .v (.int .i64 (0 : Int))] 23)]) 2 htab rfl rfl rfl rfl rfl rfl rfl rfl rfl rfl rfl rfl ?_
          refine ops_nil ?_
          refine then_normal ?_
          refine wpD_ret ?_
          refine then_ret ?_
          have er19 := yes_eq hm; subst er19
          refine retX.of (s' := ⟨[(4, .ptr b3 0)], [(b3, Blk.cells [.v (.bool false), .v (.int .i64 (0 : Int)), .v (.int .i64 (0 : Int))] 23)], []⟩) (WkS.perm (WkS.cons rfl (Wk.refl _) (WkS.nil)) ((perm_at (j := 2) rfl).trans (List.Perm.cons _ (List.Perm.refl _))) (List.Perm.refl _)) (retD_mk (hh := []) (.inl rfl) (resL_cons (resOne_cell 0 rfl rfl rfl rfl) (resL_nil)) (List.nil_sublist _) (List.Sublist.refl _) ?_)
          exact ⟨rfl, rfl, rfl⟩
        · replace hm := yes_f hc18 hm
          refine wpD_skip ?_
          refine then_normal ?_
          refine wpD_seq ?_
          refine wpD_region ?_
          refine p_pure htab rfl rfl rfl rfl ?_
          refine p_pure htab rfl rfl rfl rfl ?_
          obtain ⟨x20, q20, hm⟩ := yes_bind hm
          refine p_call0 (r03_Make_ok y5 y8 x20 q20) rfl rfl rfl rfl rfl (WkL.refl _) ?_
          rintro _ rfl
          refine p_store (ds' := [.v (.bool x20.gSome), .v (.int .i64 x20.gLo), .v (.int .i64 x20.gHi)]) (h' := [(b1, Blk.cells [.v (.bool a0.gSome), .v (.int .i64 a0.gLo), .v (.int .i64 a0.gHi)] 23), (b2, Blk.cells [.v (.bool a1.gSome), .v (.int .i64 a1.gLo), .v (.int .i64 a1.gHi)] 23), (b3, Blk.cells [.v (.bool x20.gSome), .v (.int .i64 x20.gLo), .v (.int .i64 x20.gHi)] 23)]) 2 htab rfl rfl rfl rfl rfl rfl rfl rfl rfl rfl rfl rfl ?_
          refine ops_nil ?_
          refine then_normal ?_
          refine wpD_ret ?_
          have er21 := yes_eq hm; subst er21
          refine retX.of (s' := ⟨[(4, .ptr b3 0)], [(b3, Blk.cells [.v (.bool x20.gSome), .v (.int .i64 x20.gLo), .v (.int .i64 x20.gHi)] 23)], []⟩) (WkS.perm (WkS.cons rfl (Wk.refl _) (WkS.nil)) ((perm_at (j := 2) rfl).trans (List.Perm.cons _ (List.Perm.refl _))) (List.Perm.refl _)) (retD_mk (hh := []) (.inl rfl) (resL_cons (resOne_cell 0 rfl rfl rfl rfl) (resL_nil)) (List.nil_sublist _) (List.Sublist.refl _) ?_)
          exact ⟨rfl, rfl, rfl⟩
noncomputable def r03_Has (a0 : TApiSpan) (a1 : Int) : Option (Bool) :=
  ((r03_none a0).bind fun x2 => (bif (!x2) then (bif (decide (a0.gLo ≤ a1)) then some (decide (a1 ≤ a0.gHi)) else some false) else some false))
set_option maxRecDepth 100000 in
set_option maxHeartbeats 2000000 in
theorem r03_Has_ok (a0 : TApiSpan) (a1 : Int) (r : Bool) (h0 : r03_Has a0 a1 = some r) : CallsD Try.prog 10 [eTApiSpan a0, .v (.int .i64 a1)] [] [] (fun d h k => d = .v (.bool r) ∧ h = [] ∧ k = []) := by
  have hm := yes_of h0
  unfold r03_Has at hm
  clear h0
  refine enterX htab Try.func10 rfl rfl rfl rfl rfl (fun C => ?_)
  refine wpD_seq ?_
  refine wpD_region ?_
  refine p_box rfl rfl rfl rfl rfl rfl rfl (fun b1 => ?_)
  refine p_pure htab rfl rfl rfl rfl ?_
  refine ops_nil ?_
  refine then_normal ?_
  refine wpD_seq ?_
  refine wpD_region ?_
  refine p_load (d := eTApiSpan a0) 0 htab rfl rfl rfl rfl rfl rfl rfl rfl ?_
  obtain ⟨x2, q2, hm⟩ := yes_bind hm
  refine p_call0 (r03_none_ok a0 x2 q2) rfl rfl rfl rfl rfl (WkL.refl _) ?_
  rintro _ rfl
  refine p_pure htab rfl rfl rfl rfl ?_
  refine p_pure htab rfl rfl rfl rfl ?_
  refine p_split (i := 8) rfl (fun hg3 => ?_) (fun hg3 => ?_)
  · replace hm := yes_t hg3 hm
    refine p_pure htab rfl rfl rfl rfl ?_
    refine p_pure htab rfl rfl rfl rfl ?_
    refine p_load 0 htab rfl rfl rfl rfl rfl rfl rfl rfl ?_
    refine p_pure htab rfl rfl rfl rfl ?_
    refine p_pickT rfl rfl rfl rfl rfl rfl ?_
    refine p_pure htab rfl rfl rfl rfl ?_
    refine p_split (i := 14) rfl (fun hg4 => ?_) (fun hg4 => ?_)
    · replace hm := yes_t hg4 hm
      refine p_pure htab rfl rfl rfl rfl ?_
      refine p_pure htab rfl rfl rfl rfl ?_
      refine p_load 0 htab rfl rfl rfl rfl rfl rfl rfl rfl ?_
      refine p_pure htab rfl rfl rfl rfl ?_
      refine p_pickT rfl rfl rfl rfl rfl rfl ?_
      refine p_pure htab rfl rfl rfl rfl ?_
      refine ops_nil ?_
      refine then_normal ?_
      refine wpD_ret ?_
      have er5 := yes_eq hm; subst er5
      refine retX.of (s' := ⟨[(4, .v (.bool (decide (a1 ≤ a0.gHi))))], [], []⟩) (WkS.perm (WkS.cons rfl (Wk.refl _) (WkS.nil)) (List.Perm.refl _) (List.Perm.refl _)) (retD_mk (hh := []) (.inl rfl) (resL_cons (resOne_tmp rfl) (resL_nil)) (List.nil_sublist _) (List.Sublist.refl _) ?_)
      exact ⟨rfl, rfl, rfl⟩
    · replace hm := yes_f hg4 hm
      refine p_skip rfl rfl rfl ?_
      refine p_skip rfl rfl rfl ?_
      refine p_skip rfl rfl rfl ?_
      refine p_skip rfl rfl rfl ?_
      refine p_pickF rfl rfl rfl rfl rfl rfl ?_
      refine p_pure htab rfl rfl rfl rfl ?_
      refine ops_nil ?_
      refine then_normal ?_
      refine wpD_ret ?_
      have er6 := yes_eq hm; subst er6
      refine retX.of (s' := ⟨[(4, .v (.bool false))], [], []⟩) (WkS.perm (WkS.cons rfl (Wk.refl _) (WkS.nil)) (List.Perm.refl _) (List.Perm.refl _)) (retD_mk (hh := []) (.inl rfl) (resL_cons (resOne_tmp rfl) (resL_nil)) (List.nil_sublist _) (List.Sublist.refl _) ?_)
      exact ⟨rfl, rfl, rfl⟩
  · replace hm := yes_f hg3 hm
    refine p_skip rfl rfl rfl ?_
    refine p_skip rfl rfl rfl ?_
    refine p_skip rfl rfl rfl ?_
    refine p_skip rfl rfl rfl ?_
    refine p_pickF rfl rfl rfl rfl rfl rfl ?_
    refine p_pure htab rfl rfl rfl rfl ?_
    refine p_skip rfl rfl rfl ?_
    refine p_skip rfl rfl rfl ?_
    refine p_skip rfl rfl rfl ?_
    refine p_skip rfl rfl rfl ?_
    refine p_pickF rfl rfl rfl rfl rfl rfl ?_
    refine p_pure htab rfl rfl rfl rfl ?_
    refine ops_nil ?_
    refine then_normal ?_
    refine wpD_ret ?_
    have er7 := yes_eq hm; subst er7
    refine retX.of (s' := ⟨[(4, .v (.bool false))], [], []⟩) (WkS.perm (WkS.cons rfl (Wk.refl _) (WkS.nil)) (List.Perm.refl _) (List.Perm.refl _)) (retD_mk (hh := []) (.inl rfl) (resL_cons (resOne_tmp rfl) (resL_nil)) (List.nil_sublist _) (List.Sublist.refl _) ?_)
    exact ⟨rfl, rfl, rfl⟩
noncomputable def r04_abs (a0 : Int) : Option (TApiWide) :=
  (bif (decide (a0 < (0 : Int))) then ((need (pI a0)).bind fun x3 => ((need (pW (rOf a0))).bind fun x4 => some (rNeg (rOf a0)))) else ((need (pI a0)).bind fun x6 => some (rOf a0)))
set_option maxRecDepth 100000 in
set_option maxHeartbeats 2000000 in
theorem r04_abs_ok (a0 : Int) (r : TApiWide) (h0 : r04_abs a0 = some r) : CallsD Try.prog 69 [.v (.int .i64 a0)] [] [] (fun d h k => d = eTApiWide r ∧ h = [] ∧ k = []) := by
  have hm := yes_of h0
  unfold r04_abs at hm
  clear h0
  refine enterX htab Try.func69 rfl rfl rfl rfl rfl (fun C => ?_)
  refine wpD_seq ?_
  refine wpD_region ?_
  refine p_alloc htab rfl rfl rfl rfl rfl rfl rfl (fun b1 => ?_)
  refine ops_nil ?_
  refine then_normal ?_
  refine wpD_seq ?_
  refine wpD_seq ?_
  refine wpD_region ?_
  refine p_pure htab rfl rfl rfl rfl ?_
  refine p_pure htab rfl rfl rfl rfl ?_
  refine ops_nil ?_
  refine then_normal ?_
  refine wpD_cond rfl (fun hc2 => ?_) (fun hc2 => ?_)
  · replace hm := yes_t hc2 hm
    refine wpD_seq ?_
    refine wpD_region ?_
    refine p_pure htab rfl rfl rfl rfl ?_
    obtain ⟨x3, q3, hm⟩ := yes_bind hm
    refine p_call0 (rOf_ok a0 (need_ok q3)) rfl rfl rfl rfl rfl (WkL.refl _) ?_
    rintro _ rfl
    obtain ⟨x4, q4, hm⟩ := yes_bind hm
    refine p_call0 (rNeg_ok (rOf a0) (need_ok q4)) rfl rfl rfl rfl rfl (WkL.refl _) ?_
    rintro _ rfl
    refine p_store (ds' := [.v (.int .i64 ((rNeg (rOf a0)).gHi)), .v (.int .u64 ((rNeg (rOf a0)).gLo))]) (h' := [(b1, Blk.cells [.v (.int .i64 ((rNeg (rOf a0)).gHi)), .v (.int .u64 ((rNeg (rOf a0)).gLo))] 31)]) 0 htab rfl rfl rfl rfl rfl rfl rfl rfl rfl rfl rfl rfl ?_
    refine ops_nil ?_
    refine then_normal ?_
    refine wpD_ret ?_
    refine then_ret ?_
    have er5 := yes_eq hm; subst er5
    refine retX.of (s' := ⟨[(2, .ptr b1 0)], [(b1, Blk.cells [.v (.int .i64 ((rNeg (rOf a0)).gHi)), .v (.int .u64 ((rNeg (rOf a0)).gLo))] 31)], []⟩) (WkS.perm (WkS.cons rfl (Wk.refl _) (WkS.nil)) (List.Perm.refl _) (List.Perm.refl _)) (retD_mk (hh := []) (.inl rfl) (resL_cons (resOne_cell 0 rfl rfl rfl rfl) (resL_nil)) (List.nil_sublist _) (List.Sublist.refl _) ?_)
    exact ⟨rfl, rfl, rfl⟩
  · replace hm := yes_f hc2 hm
    refine wpD_skip ?_
    refine then_normal ?_
    refine wpD_seq ?_
    refine wpD_region ?_
    refine p_pure htab rfl rfl rfl rfl ?_
    obtain ⟨x6, q6, hm⟩ := yes_bind hm
    refine p_call0 (rOf_ok a0 (need_ok q6)) rfl rfl rfl rfl rfl (WkL.refl _) ?_
    rintro _ rfl
    refine p_store (ds' := [.v (.int .i64 ((rOf a0).gHi)), .v (.int .u64 ((rOf a0).gLo))]) (h' := [(b1, Blk.cells [.v (.int .i64 ((rOf a0).gHi)), .v (.int .u64 ((rOf a0).gLo))] 31)]) 0 htab rfl rfl rfl rfl rfl rfl rfl rfl rfl rfl rfl rfl ?_
    refine ops_nil ?_
    refine then_normal ?_
    refine wpD_ret ?_
    have er7 := yes_eq hm; subst er7
    refine retX.of (s' := ⟨[(2, .ptr b1 0)], [(b1, Blk.cells [.v (.int .i64 ((rOf a0).gHi)), .v (.int .u64 ((rOf a0).gLo))] 31)], []⟩) (WkS.perm (WkS.cons rfl (Wk.refl _) (WkS.nil)) (List.Perm.refl _) (List.Perm.refl _)) (retD_mk (hh := []) (.inl rfl) (resL_cons (resOne_cell 0 rfl rfl rfl rfl) (resL_nil)) (List.nil_sublist _) (List.Sublist.refl _) ?_)
    exact ⟨rfl, rfl, rfl⟩
noncomputable def r04_quotient (a0 : Int) (a1 : Int) : Option (TApiWide) :=
  ((r04_abs a0).bind fun x2 => ((r04_abs a1).bind fun x3 => ((need (x3.gLo != 0)).bind fun x4 => (bif (!((decide (a0 < (0 : Int))) == (decide (a1 < (0 : Int))))) then ((need (pW (⟨(0 : Int), (IntKind.u64.wrap (x2.gLo.tdiv x3.gLo))⟩ : TApiWide))).bind fun x7 => some (rNeg (⟨(0 : Int), (IntKind.u64.wrap (x2.gLo.tdiv x3.gLo))⟩ : TApiWide))) else some (⟨(0 : Int), (IntKind.u64.wrap (x2.gLo.tdiv x3.gLo))⟩ : TApiWide)))))
set_option maxRecDepth 100000 in
set_option maxHeartbeats 2000000 in
theorem r04_quotient_ok (a0 : Int) (a1 : Int) (r : TApiWide) (h0 : r04_quotient a0 a1 = some r) : CallsD Try.prog 86 [.v (.int .i64 a0), .v (.int .i64 a1)] [] [] (fun d h k => d = eTApiWide r ∧ h = [] ∧ k = []) := by
  have hm := yes_of h0
  unfold r04_quotient at hm
  clear h0
  refine enterX htab Try.func86 rfl rfl rfl rfl rfl (fun C => ?_)
  refine wpD_seq ?_
  refine wpD_region ?_
  refine p_alloc htab rfl rfl rfl rfl rfl rfl rfl (fun b1 => ?_)
  refine ops_nil ?_
  refine then_normal ?_
  refine wpD_seq ?_
  refine wpD_region ?_
  refine p_pure htab rfl rfl rfl rfl ?_
  obtain ⟨x2, q2, hm⟩ := yes_bind hm
  refine p_call0 (r04_abs_ok a0 x2 q2) rfl rfl rfl rfl rfl (WkL.refl _) ?_
  rintro _ rfl
  refine p_pure htab rfl rfl rfl rfl ?_
  refine p_pure htab rfl rfl rfl rfl ?_
  obtain ⟨x3, q3, hm⟩ := yes_bind hm
  refine p_call0 (r04_abs_ok a1 x3 q3) rfl rfl rfl rfl rfl (WkL.refl _) ?_
  rintro _ rfl
  refine p_pure htab rfl rfl rfl rfl ?_
  obtain ⟨x4, q4, hm⟩ := yes_bind hm
  refine p_div rfl rfl rfl rfl rfl rfl rfl (by simpa using need_ok q4) ?_
  refine p_build (r := [.v (.int .i64 (0 : Int)), .v (.int .u64 (IntKind.u64.wrap (x2.gLo.tdiv x3.gLo)))]) htab rfl rfl rfl rfl rfl rfl rfl rfl rfl ?_
  refine p_alloc htab rfl rfl rfl rfl rfl rfl rfl (fun b5 => ?_)
  refine p_store (ds' := [.v (.int .i64 (0 : Int)), .v (.int .u64 (IntKind.u64.wrap (x2.gLo.tdiv x3.gLo)))]) (h' := [(b1, Blk.cells [.v (.int .i64 (0 : Int)), .v (.int .u64 (0 : Int))] 31), (b5, Blk.cells [.v (.int .i64 (0 : Int)), .v (.int .u64 (IntKind.u64.wrap (x2.gLo.tdiv x3.gLo)))] 31)]) 1 htab rfl rfl rfl rfl rfl rfl rfl rfl rfl rfl rfl rfl ?_
  refine ops_nil ?_
  refine then_normal ?_
  refine wpD_seq ?_
  refine wpD_seq ?_
  refine wpD_region ?_
  refine p_pure htab rfl rfl rfl rfl ?_
  refine p_pure htab rfl rfl rfl rfl ?_
  refine p_pure htab rfl rfl rfl rfl ?_
  refine p_pure htab rfl rfl rfl rfl ?_
  refine p_pure htab rfl rfl rfl rfl ?_
  refine ops_nil ?_
  refine then_normal ?_
  refine wpD_cond rfl (fun hc6 => ?_) (fun hc6 => ?_)
  · replace hm := yes_t hc6 hm
    refine wpD_seq ?_
    refine wpD_region ?_
    refine p_load (d := eTApiWide (⟨(0 : Int), (IntKind.u64.wrap (x2.gLo.tdiv x3.gLo))⟩ : TApiWide)) 1 htab rfl rfl rfl rfl rfl rfl rfl rfl ?_
    obtain ⟨x7, q7, hm⟩ := yes_bind hm
    refine p_call0 (rNeg_ok (⟨(0 : Int), (IntKind.u64.wrap (x2.gLo.tdiv x3.gLo))⟩ : TApiWide) (need_ok q7)) rfl rfl rfl rfl rfl (WkL.refl _) ?_
    rintro _ rfl
    refine p_store (ds' := [.v (.int .i64 ((rNeg (⟨(0 : Int), (IntKind.u64.wrap (x2.gLo.tdiv x3.gLo))⟩ : TApiWide)).gHi)), .v (.int .u64 ((rNeg (⟨(0 : Int), (IntKind.u64.wrap (x2.gLo.tdiv x3.gLo))⟩ : TApiWide)).gLo))]) (h' := [(b1, Blk.cells [.v (.int .i64 ((rNeg (⟨(0 : Int), (IntKind.u64.wrap (x2.gLo.tdiv x3.gLo))⟩ : TApiWide)).gHi)), .v (.int .u64 ((rNeg (⟨(0 : Int), (IntKind.u64.wrap (x2.gLo.tdiv x3.gLo))⟩ : TApiWide)).gLo))] 31), (b5, Blk.cells [.v (.int .i64 (0 : Int)), .v (.int .u64 (IntKind.u64.wrap (x2.gLo.tdiv x3.gLo)))] 31)]) 0 htab rfl rfl rfl rfl rfl rfl rfl rfl rfl rfl rfl rfl ?_
    refine ops_nil ?_
    refine then_normal ?_
    refine wpD_ret ?_
    refine then_ret ?_
    have er8 := yes_eq hm; subst er8
    refine retX.of (s' := ⟨[(4, .ptr b1 0)], [(b1, Blk.cells [.v (.int .i64 ((rNeg (⟨(0 : Int), (IntKind.u64.wrap (x2.gLo.tdiv x3.gLo))⟩ : TApiWide)).gHi)), .v (.int .u64 ((rNeg (⟨(0 : Int), (IntKind.u64.wrap (x2.gLo.tdiv x3.gLo))⟩ : TApiWide)).gLo))] 31)], []⟩) (WkS.perm (WkS.cons rfl (Wk.refl _) (WkS.nil)) (List.Perm.refl _) (List.Perm.refl _)) (retD_mk (hh := []) (.inl rfl) (resL_cons (resOne_cell 0 rfl rfl rfl rfl) (resL_nil)) (List.nil_sublist _) (List.Sublist.refl _) ?_)
    exact ⟨rfl, rfl, rfl⟩
  · replace hm := yes_f hc6 hm
    refine wpD_skip ?_
    refine then_normal ?_
    refine wpD_seq ?_
    refine wpD_region ?_
    refine p_load (d := eTApiWide (⟨(0 : Int), (IntKind.u64.wrap (x2.gLo.tdiv x3.gLo))⟩ : TApiWide)) 1 htab rfl rfl rfl rfl rfl rfl rfl rfl ?_
    refine p_store (ds' := [.v (.int .i64 (0 : Int)), .v (.int .u64 (IntKind.u64.wrap (x2.gLo.tdiv x3.gLo)))]) (h' := [(b1, Blk.cells [.v (.int .i64 (0 : Int)), .v (.int .u64 (IntKind.u64.wrap (x2.gLo.tdiv x3.gLo)))] 31), (b5, Blk.cells [.v (.int .i64 (0 : Int)), .v (.int .u64 (IntKind.u64.wrap (x2.gLo.tdiv x3.gLo)))] 31)]) 0 htab rfl rfl rfl rfl rfl rfl rfl rfl rfl rfl rfl rfl ?_
    refine ops_nil ?_
    refine then_normal ?_
    refine wpD_ret ?_
    have er9 := yes_eq hm; subst er9
    refine retX.of (s' := ⟨[(4, .ptr b1 0)], [(b1, Blk.cells [.v (.int .i64 (0 : Int)), .v (.int .u64 (IntKind.u64.wrap (x2.gLo.tdiv x3.gLo)))] 31)], []⟩) (WkS.perm (WkS.cons rfl (Wk.refl _) (WkS.nil)) (List.Perm.refl _) (List.Perm.refl _)) (retD_mk (hh := []) (.inl rfl) (resL_cons (resOne_cell 0 rfl rfl rfl rfl) (resL_nil)) (List.nil_sublist _) (List.Sublist.refl _) ?_)
    exact ⟨rfl, rfl, rfl⟩
noncomputable def r04_exact (a0 : Int) (a1 : Int) (a2 : Int) : Option (TApiWide) :=
  (bif (a0 == (8 : Int)) then ((r04_quotient a1 a2).bind fun x5 => some x5) else ((r02_Exact a0 a1 a2).bind fun x7 => some x7.1))
set_option maxRecDepth 100000 in
set_option maxHeartbeats 2000000 in
theorem r04_exact_ok (a0 : Int) (a1 : Int) (a2 : Int) (r : TApiWide) (h0 : r04_exact a0 a1 a2 = some r) : CallsD Try.prog 68 [.v (.int .i64 a0), .v (.int .i64 a1), .v (.int .i64 a2)] [] [] (fun d h k => d = eTApiWide r ∧ h = [] ∧ k = []) := by
  have hm := yes_of h0
  unfold r04_exact at hm
  clear h0
  refine enterX htab Try.func68 rfl rfl rfl rfl rfl (fun C => ?_)
  refine wpD_seq ?_
  refine wpD_region ?_
  refine p_alloc htab rfl rfl rfl rfl rfl rfl rfl (fun b1 => ?_)
  refine ops_nil ?_
  refine then_normal ?_
  refine wpD_seq ?_
  refine wpD_seq ?_
  refine wpD_region ?_
  refine p_pure htab rfl rfl rfl rfl ?_
  refine p_pure htab rfl rfl rfl rfl ?_
  refine ops_nil ?_
  refine then_normal ?_
  refine wpD_cond rfl (fun hc4 => ?_) (fun hc4 => ?_)
  · replace hm := yes_t hc4 hm
    refine wpD_seq ?_
    refine wpD_region ?_
    refine p_pure htab rfl rfl rfl rfl ?_
    refine p_pure htab rfl rfl rfl rfl ?_
    obtain ⟨x5, q5, hm⟩ := yes_bind hm
    refine p_call0 (r04_quotient_ok a1 a2 x5 q5) rfl rfl rfl rfl rfl (WkL.refl _) ?_
    rintro _ rfl
    refine p_store (ds' := [.v (.int .i64 x5.gHi), .v (.int .u64 x5.gLo)]) (h' := [(b1, Blk.cells [.v (.int .i64 x5.gHi), .v (.int .u64 x5.gLo)] 31)]) 0 htab rfl rfl rfl rfl rfl rfl rfl rfl rfl rfl rfl rfl ?_
    refine ops_nil ?_
    refine then_normal ?_
    refine wpD_ret ?_
    refine then_ret ?_
    have er6 := yes_eq hm; subst er6
    refine retX.of (s' := ⟨[(6, .ptr b1 0)], [(b1, Blk.cells [.v (.int .i64 x5.gHi), .v (.int .u64 x5.gLo)] 31)], []⟩) (WkS.perm (WkS.cons rfl (Wk.refl _) (WkS.nil)) (List.Perm.refl _) (List.Perm.refl _)) (retD_mk (hh := []) (.inl rfl) (resL_cons (resOne_cell 0 rfl rfl rfl rfl) (resL_nil)) (List.nil_sublist _) (List.Sublist.refl _) ?_)
    exact ⟨rfl, rfl, rfl⟩
  · replace hm := yes_f hc4 hm
    refine wpD_skip ?_
    refine then_normal ?_
    refine wpD_seq ?_
    refine wpD_region ?_
    refine p_pure htab rfl rfl rfl rfl ?_
    refine p_pure htab rfl rfl rfl rfl ?_
    refine p_pure htab rfl rfl rfl rfl ?_
    obtain ⟨x7, q7, hm⟩ := yes_bind hm
    refine p_call0 (r02_Exact_ok a0 a1 a2 x7 q7) rfl rfl rfl rfl rfl (WkL.refl _) ?_
    rintro _ rfl
    refine p_pure htab rfl rfl rfl rfl ?_
    refine p_pure htab rfl rfl rfl rfl ?_
    refine p_pure htab rfl rfl rfl rfl ?_
    refine p_alloc htab rfl rfl rfl rfl rfl rfl rfl (fun b8 => ?_)
    refine p_store (ds' := [.v (.int .i64 x7.1.gHi), .v (.int .u64 x7.1.gLo)]) (h' := [(b1, Blk.cells [.v (.int .i64 (0 : Int)), .v (.int .u64 (0 : Int))] 31), (b8, Blk.cells [.v (.int .i64 x7.1.gHi), .v (.int .u64 x7.1.gLo)] 31)]) 1 htab rfl rfl rfl rfl rfl rfl rfl rfl rfl rfl rfl rfl ?_
    refine p_pure htab rfl rfl rfl rfl ?_
    refine ops_nil ?_
    refine then_normal ?_
    refine wpD_seq ?_
    refine wpD_region ?_
    refine p_load (d := eTApiWide x7.1) 1 htab rfl rfl rfl rfl rfl rfl rfl rfl ?_
    refine p_store (ds' := [.v (.int .i64 x7.1.gHi), .v (.int .u64 x7.1.gLo)]) (h' := [(b1, Blk.cells [.v (.int .i64 x7.1.gHi), .v (.int .u64 x7.1.gLo)] 31), (b8, Blk.cells [.v (.int .i64 x7.1.gHi), .v (.int .u64 x7.1.gLo)] 31)]) 0 htab rfl rfl rfl rfl rfl rfl rfl rfl rfl rfl rfl rfl ?_
    refine ops_nil ?_
    refine then_normal ?_
    refine wpD_ret ?_
    have er9 := yes_eq hm; subst er9
    refine retX.of (s' := ⟨[(6, .ptr b1 0)], [(b1, Blk.cells [.v (.int .i64 x7.1.gHi), .v (.int .u64 x7.1.gLo)] 31)], []⟩) (WkS.perm (WkS.cons rfl (Wk.refl _) (WkS.nil)) (List.Perm.refl _) (List.Perm.refl _)) (retD_mk (hh := []) (.inl rfl) (resL_cons (resOne_cell 0 rfl rfl rfl rfl) (resL_nil)) (List.nil_sublist _) (List.Sublist.refl _) ?_)
    exact ⟨rfl, rfl, rfl⟩
noncomputable def r04_corners (a0 : Int) (a1 : TApiSpan) (a2 : TApiSpan) : Option (List TApiWide) :=
  (Option.bind (α := List TApiWide) (loopM (fun (s22 : List TApiWide × Int) => (bif (decide (s22.2 < (4 : Int))) then ((idx ([a1.gLo, a1.gHi] : List Int) (IntKind.i64.wrap (s22.2.tdiv (2 : Int)))).bind fun x35 => ((idx ([a2.gLo, a2.gHi] : List Int) (s22.2.tmod (2 : Int))).bind fun x36 => ((r04_exact a0 x35 x36).bind fun x37 => ((app 16 s22.1 ([x37] : List TApiWide)).bind fun x38 => some (.next (x38, (IntKind.i64.wrap (s22.2 + (1 : Int))))))))) else some (.done s22.1))) ([], (0 : Int))) fun y21 => some y21)
set_option maxRecDepth 100000 in
set_option maxHeartbeats 2000000 in
theorem r04_corners_ok (a0 : Int) (a1 : TApiSpan) (a2 : TApiSpan) (r : List TApiWide) (h0 : r04_corners a0 a1 a2 = some r) : CallsD Try.prog 34 [.v (.int .i64 a0), eTApiSpan a1, eTApiSpan a2] [] [] (fun d h k => ∃ y0, d = .lst 2 (r.map eTApiWide) (.cur y0) ∧ h = [] ∧ k = [(2, y0)]) := by
  have hm := yes_of h0
  unfold r04_corners at hm
  clear h0
  refine enterX htab Try.func34 rfl rfl rfl rfl rfl (fun C => ?_)
  refine wpD_seq ?_
  refine wpD_region ?_
  refine p_box rfl rfl rfl rfl rfl rfl rfl (fun b1 => ?_)
  refine p_box rfl rfl rfl rfl rfl rfl rfl (fun b2 => ?_)
  refine p_pure htab rfl rfl rfl rfl ?_
  refine ops_nil ?_
  refine then_normal ?_
  refine wpD_seq ?_
  refine wpD_draws 11 [] [[],[0],[],[2],[0,2],[],[5],[],[7],[5,7],[0,2,4]] [0,2,4,5,7,9,10] [[],[0],[],[2],[0,1,2,3],[],[5],[],[7],[5,6,7,8],[0,1,2,3,4],[0,1,2,3,4,5,6,7,8,9,10]] (by kernel_rfl) (by kernel_rfl) (by kernel_rfl) (by rfl) (by rfl) (by kernel_rfl) ?_
  apply Exists.intro
  apply Exists.intro
  apply Exists.intro
  apply Exists.intro
  apply Exists.intro
  apply Exists.intro
  apply Exists.intro
  intro bs
  refine z_e rfl rfl (ex_pure htab rfl) rfl rfl rfl rfl rfl rfl ?_
  refine z_qM rfl rfl (xm_load 0 htab rfl rfl rfl rfl rfl) rfl rfl rfl rfl rfl rfl ?_
  refine z_e rfl rfl (ex_pure htab rfl) rfl rfl rfl rfl rfl rfl ?_
  refine z_qM rfl rfl (xm_load 0 htab rfl rfl rfl rfl rfl) rfl rfl rfl rfl rfl rfl ?_
  refine z_E rfl rfl (ExE.wk (x_lit htab rfl rfl rfl rfl rfl rfl rfl rfl rfl rfl rfl) (show Wk _ (.lst 1 (([a1.gLo, a1.gHi] : List Int).map eI64) .full) from Wk.lst0 (.cons (WkC.refl _) (.cons (WkC.refl _) (.nil))))) rfl rfl rfl rfl rfl rfl ?_
  refine z_e rfl rfl (ex_pure htab rfl) rfl rfl rfl rfl rfl rfl ?_
  refine z_qM rfl rfl (xm_load 1 htab rfl rfl rfl rfl rfl) rfl rfl rfl rfl rfl rfl ?_
  refine z_e rfl rfl (ex_pure htab rfl) rfl rfl rfl rfl rfl rfl ?_
  refine z_qM rfl rfl (xm_load 1 htab rfl rfl rfl rfl rfl) rfl rfl rfl rfl rfl rfl ?_
  refine z_E rfl rfl (ExE.wk (x_lit htab rfl rfl rfl rfl rfl rfl rfl rfl rfl rfl rfl) (show Wk _ (.lst 1 (([a2.gLo, a2.gHi] : List Int).map eI64) .full) from Wk.lst0 (.cons (WkC.refl _) (.cons (WkC.refl _) (.nil))))) rfl rfl rfl rfl rfl rfl ?_
  refine z_e rfl rfl (ex_pure htab rfl) rfl rfl rfl rfl rfl rfl ?_
  refine z_nil rfl rfl (fun e he => by simp [isAl] at he) ?_
  refine p_pure htab rfl rfl rfl rfl ?_
  refine ops_nil ?_
  refine then_normal ?_
  refine wpD_seq ?_
  refine wpD_region ?_
  refine p_pure htab rfl rfl rfl rfl ?_
  refine ops_nil ?_
  refine then_normal ?_
  refine wpD_seq ?_
  refine wpD_seq ?_
  refine wpD_region ?_
  refine p_pure htab rfl rfl rfl rfl ?_
  refine ops_nil ?_
  refine then_normal ?_
  obtain ⟨y21, q21, ho21⟩ := yes_bind hm
  refine wpD_mid (Y := Value) (fun z21 => (⟨[(9, .lst 2 (y21.map eTApiWide) (.cur z21))], [(b1, Blk.cells [.v (.bool a1.gSome), .v (.int .i64 a1.gLo), .v (.int .i64 a1.gHi)] 23), (b2, Blk.cells [.v (.bool a2.gSome), .v (.int .i64 a2.gLo), .v (.int .i64 a2.gHi)] 23)], [(2, z21)]⟩ : S)) ?_ ?_
  · clear hm; have hm := yes_of q21
    refine wpD_block ?_
    obtain ⟨u22, hl22, hq22⟩ := yes_m hm
    refine loop_M (Y := Value) hl22 (fun s22 z22 => (⟨[(0, .v (.int .i64 a0)), (7, .lst 1 (([a1.gLo, a1.gHi] : List Int).map eI64) .full), (8, .lst 1 (([a2.gLo, a2.gHi] : List Int).map eI64) .full), (9, .lst 2 (s22.1.map eTApiWide) (.cur z22)), (10, .v (.int .i64 s22.2))], [(b1, Blk.cells [.v (.bool a1.gSome), .v (.int .i64 a1.gLo), .v (.int .i64 a1.gHi)] 23), (b2, Blk.cells [.v (.bool a2.gSome), .v (.int .i64 a2.gLo), .v (.int .i64 a2.gHi)] 23)], [(2, z22)]⟩ : S)) ?_ ?_
    · skip
      refine WkX.tokN (i := 9) 2 rfl (fun w33 => ?_)
      exact WkX.of w33 (WkS.perm (WkS.cons rfl (Wk.refl _) (WkS.cons rfl (Wk.refl _) (WkS.cons rfl (Wk.refl _) (WkS.cons rfl (Wk.refl _) (WkS.cons rfl (Wk.refl _) (WkS.nil)))))) (List.Perm.refl _) (List.Perm.refl _))
    · intro G22 s22 z22 hm
      refine wpD_seq ?_
      refine wpD_seq ?_
      refine wpD_region ?_
      refine p_pure htab rfl rfl rfl rfl ?_
      refine p_pure htab rfl rfl rfl rfl ?_
      refine ops_nil ?_
      refine then_normal ?_
      refine wpD_cond rfl (fun hc34 => ?_) (fun hc34 => ?_)
      · replace hm := yes_t hc34 hm
        refine wpD_skip ?_
        refine then_normal ?_
        refine wpD_seq ?_
        refine wpD_block ?_
        obtain ⟨x35, q35, hm⟩ := yes_bind hm
        obtain ⟨x36, q36, hm⟩ := yes_bind hm
        obtain ⟨x37, q37, hm⟩ := yes_bind hm
        refine wpD_draws 14 [] [[],[],[],[],[],[2],[2,5],[],[],[],[7],[7,10],[2,5,7,10],[2,5,7,10,12]] [0,2,5,7,10,12,13] [[],[],[],[],[3],[2,3,4],[2,3,4,5],[],[],[8],[7,8,9],[7,8,9,10],[1,2,3,4,5,6,7,8,9,10,11],[1,2,3,4,5,6,7,8,9,10,11,12],[0,1,2,3,4,5,6,7,8,9,10,11,12,13],[0,1,2,3,4,5,6,7,8,9,10,11,12,13,14]] (by kernel_rfl) (by kernel_rfl) (by kernel_rfl) (by rfl) (by rfl) (by kernel_rfl) ?_
        apply Exists.intro
        apply Exists.intro
        apply Exists.intro
        apply Exists.intro
        apply Exists.intro
        apply Exists.intro
        apply Exists.intro
        intro bs
        refine z_e rfl rfl (ex_pure htab rfl) rfl rfl rfl rfl rfl rfl ?_
        refine z_q rfl rfl (ex_pure htab rfl) rfl rfl rfl rfl rfl rfl ?_
        refine z_e rfl rfl (ex_pure htab rfl) rfl rfl rfl rfl rfl rfl ?_
        refine z_q rfl rfl (ex_pure htab rfl) rfl rfl rfl rfl rfl rfl ?_
        refine z_q rfl rfl (x_div rfl rfl rfl rfl (by decide)) rfl rfl rfl rfl rfl rfl ?_
        refine z_e rfl rfl (x_elem htab rfl rfl rfl rfl rfl rfl rfl (idx_nonneg q35) (idx_map q35)) rfl rfl rfl rfl rfl rfl ?_
        refine z_qM rfl rfl (xm_loadEl htab rfl rfl rfl rfl rfl) rfl rfl rfl rfl rfl rfl ?_
        refine z_e rfl rfl (ex_pure htab rfl) rfl rfl rfl rfl rfl rfl ?_
        refine z_q rfl rfl (ex_pure htab rfl) rfl rfl rfl rfl rfl rfl ?_
        refine z_q rfl rfl (x_div rfl rfl rfl rfl (by decide)) rfl rfl rfl rfl rfl rfl ?_
        refine z_e rfl rfl (x_elem htab rfl rfl rfl rfl rfl rfl rfl (idx_nonneg q36) (idx_map q36)) rfl rfl rfl rfl rfl rfl ?_
        refine z_qM rfl rfl (xm_loadEl htab rfl rfl rfl rfl rfl) rfl rfl rfl rfl rfl rfl ?_
        refine z_call rfl rfl (r04_exact_ok a0 x35 x36 x37 q37) rfl rfl (WkL.refl _) rfl rfl rfl rfl rfl rfl ?_
        refine z_E rfl rfl (ExE.wk (x_lit htab rfl rfl rfl rfl rfl rfl rfl rfl rfl rfl rfl) (show Wk _ (.lst 2 (([x37] : List TApiWide).map eTApiWide) .full) from Wk.lst0 (.cons (WkC.refl _) (.nil)))) rfl rfl rfl rfl rfl rfl ?_
        refine z_nil rfl rfl (fun e he => by simp [isAl] at he) ?_
        obtain ⟨x38, q38, hm⟩ := yes_bind hm
        refine p_appC 0 htab rfl rfl rfl rfl rfl rfl rfl rfl rfl rfl rfl rfl rfl rfl rfl rfl rfl (app_bound q38) (fun v38 => ?_)
        refine p_mapD (i := 39) q38 rfl ?_
        refine p_pure htab rfl rfl rfl rfl ?_
        refine ops_nil ?_
        refine block_normal ?_
        refine then_normal ?_
        refine wpD_region ?_
        refine p_pure htab rfl rfl rfl rfl ?_
        refine p_pure htab rfl rfl rfl rfl ?_
        refine p_pure htab rfl rfl rfl rfl ?_
        refine ops_nil ?_
        refine then_normal ⟨_, lp_next hm, ?_⟩
        exact WkX.of v38 (WkS.perm (WkS.cons rfl (Wk.refl _) (WkS.cons rfl (Wk.refl _) (WkS.cons rfl (Wk.refl _) (WkS.cons rfl (Wk.refl _) (WkS.cons rfl (Wk.refl _) (WkS.nil)))))) (List.Perm.refl _) (List.Perm.refl _))
      · replace hm := yes_f hc34 hm
        refine wpD_exit ?_
        refine then_exit ?_
        have e22 := lp_done hm; subst e22; clear hm; have hm := hq22
        refine then_exit ?_
        refine block_hit ?_
        have e21 := yes_eq hm; subst e21
        refine ⟨rfl, ?_⟩
        exact WkX.of z22 (WkS.perm (WkS.cons rfl (Wk.refl _) (WkS.nil)) (List.Perm.refl _) (List.Perm.refl _))
  · intro s21 hw21; clear hm; have hm := ho21; clear q21 ho21
    refine then_normal ?_
    refine wpD_wkX hw21 (fun z21 => ?_)
    refine wpD_seq ?_
    refine wpD_region ?_
    refine p_pure htab rfl rfl rfl rfl ?_
    refine p_pure htab rfl rfl rfl rfl ?_
    refine ops_nil ?_
    refine then_normal ?_
    refine wpD_ret ?_
    have er39 := yes_eq hm; subst er39
    refine retX.of (s' := ⟨[(6, .lst 2 (y21.map eTApiWide) (.cur z21))], [], [(2, z21)]⟩) (WkS.perm (WkS.cons rfl (Wk.refl _) (WkS.nil)) (List.Perm.refl _) (List.Perm.refl _)) (retD_mk (hh := []) (.inl rfl) (resL_cons (resOne_tmp rfl) (resL_nil)) (List.nil_sublist _) (List.Sublist.refl _) ?_)
    exact ⟨z21, rfl, rfl, rfl⟩
theorem r04_corners_ok0 (a0 : Int) (a1 : TApiSpan) (a2 : TApiSpan) (r : List TApiWide) (h0 : r04_corners a0 a1 a2 = some r) : CallsD Try.prog 34 [.v (.int .i64 a0), eTApiSpan a1, eTApiSpan a2] [] [] (fun d h k => d = .lst 2 (r.map eTApiWide) .no ∧ h = [] ∧ k = []) :=
  (r04_corners_ok a0 a1 a2 r h0).drop fun d h k ⟨y0, e, _, _⟩ => by subst e; exact Wk.no
noncomputable def r04_all : Option (TApiSpan) :=
  ((r03_Make (-9223372036854775808 : Int) (9223372036854775807 : Int)).bind fun x2 => some x2)
set_option maxRecDepth 100000 in
set_option maxHeartbeats 2000000 in
theorem r04_all_ok  (r : TApiSpan) (h0 : r04_all = some r) : CallsD Try.prog 49 [] [] [] (fun d h k => d = eTApiSpan r ∧ h = [] ∧ k = []) := by
  have hm := yes_of h0
  unfold r04_all at hm
  clear h0
  refine enterX htab Try.func49 rfl rfl rfl rfl rfl (fun C => ?_)
  refine wpD_seq ?_
  refine wpD_region ?_
  refine p_alloc htab rfl rfl rfl rfl rfl rfl rfl (fun b1 => ?_)
  refine ops_nil ?_
  refine then_normal ?_
  refine wpD_seq ?_
  refine wpD_region ?_
  obtain ⟨x2, q2, hm⟩ := yes_bind hm
  refine p_call0 (r03_Make_ok (-9223372036854775808 : Int) (9223372036854775807 : Int) x2 q2) rfl rfl rfl rfl rfl (WkL.refl _) ?_
  rintro _ rfl
  refine p_store (ds' := [.v (.bool x2.gSome), .v (.int .i64 x2.gLo), .v (.int .i64 x2.gHi)]) (h' := [(b1, Blk.cells [.v (.bool x2.gSome), .v (.int .i64 x2.gLo), .v (.int .i64 x2.gHi)] 23)]) 0 htab rfl rfl rfl rfl rfl rfl rfl rfl rfl rfl rfl rfl ?_
  refine ops_nil ?_
  refine then_normal ?_
  refine wpD_ret ?_
  have er3 := yes_eq hm; subst er3
  refine retX.of (s' := ⟨[(0, .ptr b1 0)], [(b1, Blk.cells [.v (.bool x2.gSome), .v (.int .i64 x2.gLo), .v (.int .i64 x2.gHi)] 23)], []⟩) (WkS.perm (WkS.cons rfl (Wk.refl _) (WkS.nil)) (List.Perm.refl _) (List.Perm.refl _)) (retD_mk (hh := []) (.inl rfl) (resL_cons (resOne_cell 0 rfl rfl rfl rfl) (resL_nil)) (List.nil_sublist _) (List.Sublist.refl _) ?_)
  exact ⟨rfl, rfl, rfl⟩
noncomputable def r04_Wrap (a0 : TApiWide) (a1 : TApiWide) : Option (TApiSpan) :=
  ((need (pWW a0 a1)).bind fun x4 => (bif (decide ((0 : Int) < (rCmp a0 a1))) then some (⟨false, (0 : Int), (0 : Int)⟩ : TApiSpan) else ((need (pWW a1 a0)).bind fun x8 => (bif (((rSub a1 a0).gHi) != (0 : Int)) then (r04_all.bind fun x13 => some x13) else (bif (decide ((IntKind.i64.wrap a1.gLo) < (IntKind.i64.wrap a0.gLo))) then (r04_all.bind fun x18 => some x18) else ((r03_Make (IntKind.i64.wrap a0.gLo) (IntKind.i64.wrap a1.gLo)).bind fun x20 => some x20))))))
set_option maxRecDepth 100000 in
set_option maxHeartbeats 2000000 in
theorem r04_Wrap_ok (a0 : TApiWide) (a1 : TApiWide) (r : TApiSpan) (h0 : r04_Wrap a0 a1 = some r) : CallsD Try.prog 15 [eTApiWide a0, eTApiWide a1] [] [] (fun d h k => d = eTApiSpan r ∧ h = [] ∧ k = []) := by
  have hm := yes_of h0
  unfold r04_Wrap at hm
  clear h0
  refine enterX htab Try.func15 rfl rfl rfl rfl rfl (fun C => ?_)
  refine wpD_seq ?_
  refine wpD_region ?_
  refine p_box rfl rfl rfl rfl rfl rfl rfl (fun b1 => ?_)
  refine p_box rfl rfl rfl rfl rfl rfl rfl (fun b2 => ?_)
  refine p_alloc htab rfl rfl rfl rfl rfl rfl rfl (fun b3 => ?_)
  refine ops_nil ?_
  refine then_normal ?_
  refine wpD_seq ?_
  refine wpD_seq ?_
  refine wpD_region ?_
  refine p_load (d := eTApiWide a0) 0 htab rfl rfl rfl rfl rfl rfl rfl rfl ?_
  refine p_load (d := eTApiWide a1) 1 htab rfl rfl rfl rfl rfl rfl rfl rfl ?_
  obtain ⟨x4, q4, hm⟩ := yes_bind hm
  refine p_call0 (rCmp_ok a0 a1 (need_ok q4)) rfl rfl rfl rfl rfl (WkL.refl _) ?_
  rintro _ rfl
  refine p_pure htab rfl rfl rfl rfl ?_
  refine ops_nil ?_
  refine then_normal ?_
  refine wpD_cond rfl (fun hc6 => ?_) (fun hc6 => ?_)
  · replace hm := yes_t hc6 hm
    refine wpD_seq ?_
    refine wpD_region ?_
    refine p_build (r := [.v (.bool false), .v (.int .i64 (0 : Int)), .v (.int .i64 (0 : Int))]) htab rfl rfl rfl rfl rfl rfl rfl rfl rfl ?_
    refine p_store (ds' := [.v (.bool false), .v (.int .i64 (0 : Int)), .v (.int .i64 (0 : Int))]) (h' := [(b1, Blk.cells [.v (.int .i64 a0.gHi), .v (.int .u64 a0.gLo)] 31), (b2, Blk.cells [.v (.int .i64 a1.gHi), .v (.int .u64 a1.gLo)] 31), (b3, Blk.cells [.v (.bool false), .v (.int .i64 (0 : Int)), .v (.int .i64 (0 : Int))] 23)]) 2 htab rfl rfl rfl rfl rfl rfl rfl rfl rfl rfl rfl rfl ?_
    refine ops_nil ?_
    refine then_normal ?_
    refine wpD_ret ?_
    refine then_ret ?_
    have er7 := yes_eq hm; subst er7
    refine retX.of (s' := ⟨[(4, .ptr b3 0)], [(b3, Blk.cells [.v (.bool false), .v (.int .i64 (0 : Int)), .v (.int .i64 (0 : Int))] 23)], []⟩) (WkS.perm (WkS.cons rfl (Wk.refl _) (WkS.nil)) ((perm_at (j := 2) rfl).trans (List.Perm.cons _ (List.Perm.refl _))) (List.Perm.refl _)) (retD_mk (hh := []) (.inl rfl) (resL_cons (resOne_cell 0 rfl rfl rfl rfl) (resL_nil)) (List.nil_sublist _) (List.Sublist.refl _) ?_)
    exact ⟨rfl, rfl, rfl⟩
  · replace hm := yes_f hc6 hm
    refine wpD_skip ?_
    refine then_normal ?_
    refine wpD_seq ?_
    refine wpD_region ?_
    refine p_load (d := eTApiWide a1) 1 htab rfl rfl rfl rfl rfl rfl rfl rfl ?_
    refine p_load (d := eTApiWide a0) 0 htab rfl rfl rfl rfl rfl rfl rfl rfl ?_
    obtain ⟨x8, q8, hm⟩ := yes_bind hm
    refine p_call0 (rSub_ok a1 a0 (need_ok q8)) rfl rfl rfl rfl rfl (WkL.refl _) ?_
    rintro _ rfl
    refine p_alloc htab rfl rfl rfl rfl rfl rfl rfl (fun b9 => ?_)
    refine p_store (ds' := [.v (.int .i64 ((rSub a1 a0).gHi)), .v (.int .u64 ((rSub a1 a0).gLo))]) (h' := [(b1, Blk.cells [.v (.int .i64 a0.gHi), .v (.int .u64 a0.gLo)] 31), (b2, Blk.cells [.v (.int .i64 a1.gHi), .v (.int .u64 a1.gLo)] 31), (b3, Blk.cells [.v (.bool false), .v (.int .i64 (0 : Int)), .v (.int .i64 (0 : Int))] 23), (b9, Blk.cells [.v (.int .i64 ((rSub a1 a0).gHi)), .v (.int .u64 ((rSub a1 a0).gLo))] 31)]) 3 htab rfl rfl rfl rfl rfl rfl rfl rfl rfl rfl rfl rfl ?_
    refine ops_nil ?_
    refine then_normal ?_
    refine wpD_seq ?_
    refine wpD_seq ?_
    refine wpD_region ?_
    refine p_pure htab rfl rfl rfl rfl ?_
    refine p_load 3 htab rfl rfl rfl rfl rfl rfl rfl rfl ?_
    refine p_pure htab rfl rfl rfl rfl ?_
    refine ops_nil ?_
    refine then_normal ?_
    refine wpD_cond rfl (fun hc12 => ?_) (fun hc12 => ?_)
    · replace hm := yes_t hc12 hm
      refine wpD_seq ?_
      refine wpD_region ?_
      obtain ⟨x13, q13, hm⟩ := yes_bind hm
      refine p_call0 (r04_all_ok  x13 q13) rfl rfl rfl rfl rfl (WkL.refl _) ?_
      rintro _ rfl
      refine p_store (ds' := [.v (.bool x13.gSome), .v (.int .i64 x13.gLo), .v (.int .i64 x13.gHi)]) (h' := [(b1, Blk.cells [.v (.int .i64 a0.gHi), .v (.int .u64 a0.gLo)] 31), (b2, Blk.cells [.v (.int .i64 a1.gHi), .v (.int .u64 a1.gLo)] 31), (b3, Blk.cells [.v (.bool x13.gSome), .v (.int .i64 x13.gLo), .v (.int .i64 x13.gHi)] 23), (b9, Blk.cells [.v (.int .i64 ((rSub a1 a0).gHi)), .v (.int .u64 ((rSub a1 a0).gLo))] 31)]) 2 htab rfl rfl rfl rfl rfl rfl rfl rfl rfl rfl rfl rfl ?_
      refine ops_nil ?_
      refine then_normal ?_
      refine wpD_ret ?_
      refine then_ret ?_
      have er14 := yes_eq hm; subst er14
      refine retX.of (s' := ⟨[(4, .ptr b3 0)], [(b3, Blk.cells [.v (.bool x13.gSome), .v (.int .i64 x13.gLo), .v (.int .i64 x13.gHi)] 23)], []⟩) (WkS.perm (WkS.cons rfl (Wk.refl _) (WkS.nil)) ((perm_at (j := 2) rfl).trans (List.Perm.cons _ (List.Perm.refl _))) (List.Perm.refl _)) (retD_mk (hh := []) (.inl rfl) (resL_cons (resOne_cell 0 rfl rfl rfl rfl) (resL_nil)) (List.nil_sublist _) (List.Sublist.refl _) ?_)
      exact ⟨rfl, rfl, rfl⟩
    · replace hm := yes_f hc12 hm
      refine wpD_skip ?_
      refine then_normal ?_
      refine wpD_seq ?_
      refine wpD_seq ?_
      refine wpD_region ?_
      refine p_pure htab rfl rfl rfl rfl ?_
      refine p_load 0 htab rfl rfl rfl rfl rfl rfl rfl rfl ?_
      refine p_pure htab rfl rfl rfl rfl ?_
      refine p_pure htab rfl rfl rfl rfl ?_
      refine p_load 1 htab rfl rfl rfl rfl rfl rfl rfl rfl ?_
      refine p_pure htab rfl rfl rfl rfl ?_
      refine p_pure htab rfl rfl rfl rfl ?_
      refine ops_nil ?_
      refine then_normal ?_
      refine wpD_cond rfl (fun hc17 => ?_) (fun hc17 => ?_)
      · replace hm := yes_t hc17 hm
        refine wpD_seq ?_
        refine wpD_region ?_
        obtain ⟨x18, q18, hm⟩ := yes_bind hm
        refine p_call0 (r04_all_ok  x18 q18) rfl rfl rfl rfl rfl (WkL.refl _) ?_
        rintro _ rfl
        refine p_store (ds' := [.v (.bool x18.gSome), .v (.int .i64 x18.gLo), .v (.int .i64 x18.gHi)]) (h' := [(b1, Blk.cells [.v (.int .i64 a0.gHi), .v (.int .u64 a0.gLo)] 31), (b2, Blk.cells [.v (.int .i64 a1.gHi), .v (.int .u64 a1.gLo)] 31), (b3, Blk.cells [.v (.bool x18.gSome), .v (.int .i64 x18.gLo), .v (.int .i64 x18.gHi)] 23), (b9, Blk.cells [.v (.int .i64 ((rSub a1 a0).gHi)), .v (.int .u64 ((rSub a1 a0).gLo))] 31)]) 2 htab rfl rfl rfl rfl rfl rfl rfl rfl rfl rfl rfl rfl ?_
        refine ops_nil ?_
        refine then_normal ?_
        refine wpD_ret ?_
        refine then_ret ?_
        have er19 := yes_eq hm; subst er19
        refine retX.of (s' := ⟨[(4, .ptr b3 0)], [(b3, Blk.cells [.v (.bool x18.gSome), .v (.int .i64 x18.gLo), .v (.int .i64 x18.gHi)] 23)], []⟩) (WkS.perm (WkS.cons rfl (Wk.refl _) (WkS.nil)) ((perm_at (j := 2) rfl).trans (List.Perm.cons _ (List.Perm.refl _))) (List.Perm.refl _)) (retD_mk (hh := []) (.inl rfl) (resL_cons (resOne_cell 0 rfl rfl rfl rfl) (resL_nil)) (List.nil_sublist _) (List.Sublist.refl _) ?_)
        exact ⟨rfl, rfl, rfl⟩
      · replace hm := yes_f hc17 hm
        refine wpD_skip ?_
        refine then_normal ?_
        refine wpD_seq ?_
        refine wpD_region ?_
        refine p_pure htab rfl rfl rfl rfl ?_
        refine p_load 0 htab rfl rfl rfl rfl rfl rfl rfl rfl ?_
        refine p_pure htab rfl rfl rfl rfl ?_
        refine p_pure htab rfl rfl rfl rfl ?_
        refine p_load 1 htab rfl rfl rfl rfl rfl rfl rfl rfl ?_
        refine p_pure htab rfl rfl rfl rfl ?_
        obtain ⟨x20, q20, hm⟩ := yes_bind hm
        refine p_call0 (r03_Make_ok (IntKind.i64.wrap a0.gLo) (IntKind.i64.wrap a1.gLo) x20 q20) rfl rfl rfl rfl rfl (WkL.refl _) ?_
        rintro _ rfl
        refine p_store (ds' := [.v (.bool x20.gSome), .v (.int .i64 x20.gLo), .v (.int .i64 x20.gHi)]) (h' := [(b1, Blk.cells [.v (.int .i64 a0.gHi), .v (.int .u64 a0.gLo)] 31), (b2, Blk.cells [.v (.int .i64 a1.gHi), .v (.int .u64 a1.gLo)] 31), (b3, Blk.cells [.v (.bool x20.gSome), .v (.int .i64 x20.gLo), .v (.int .i64 x20.gHi)] 23), (b9, Blk.cells [.v (.int .i64 ((rSub a1 a0).gHi)), .v (.int .u64 ((rSub a1 a0).gLo))] 31)]) 2 htab rfl rfl rfl rfl rfl rfl rfl rfl rfl rfl rfl rfl ?_
        refine ops_nil ?_
        refine then_normal ?_
        refine wpD_ret ?_
        have er21 := yes_eq hm; subst er21
        refine retX.of (s' := ⟨[(4, .ptr b3 0)], [(b3, Blk.cells [.v (.bool x20.gSome), .v (.int .i64 x20.gLo), .v (.int .i64 x20.gHi)] 23)], []⟩) (WkS.perm (WkS.cons rfl (Wk.refl _) (WkS.nil)) ((perm_at (j := 2) rfl).trans (List.Perm.cons _ (List.Perm.refl _))) (List.Perm.refl _)) (retD_mk (hh := []) (.inl rfl) (resL_cons (resOne_cell 0 rfl rfl rfl rfl) (resL_nil)) (List.nil_sublist _) (List.Sublist.refl _) ?_)
        exact ⟨rfl, rfl, rfl⟩
noncomputable def r04_around (a0 : List TApiWide) : Option (TApiSpan) :=
  (bif ((a0.length : Int) == (0 : Int)) then some (⟨false, (0 : Int), (0 : Int)⟩ : TApiSpan) else ((idx a0 (0 : Int)).bind fun x5 => ((idx a0 (0 : Int)).bind fun x6 => (Option.bind (α := Int × Int × Int × Int) (loopM (fun (s48 : Int × Int × Int × Int × Int) => (bif (decide (s48.1 < (a0.length : Int))) then ((idx a0 s48.1).bind fun x74 => ((need (pWW x74 (⟨s48.2.1, s48.2.2.1⟩ : TApiWide))).bind fun x75 => (Option.bind (α := Int × Int) (bif (decide ((rCmp x74 (⟨s48.2.1, s48.2.2.1⟩ : TApiWide)) < (0 : Int))) then ((idx a0 s48.1).bind fun x80 => some (x80.gHi, x80.gLo)) else some (s48.2.1, s48.2.2.1)) fun y78 => ((idx a0 s48.1).bind fun x81 => ((need (pWW x81 (⟨s48.2.2.2.1, s48.2.2.2.2⟩ : TApiWide))).bind fun x82 => (bif (decide ((0 : Int) < (rCmp x81 (⟨s48.2.2.2.1, s48.2.2.2.2⟩ : TApiWide)))) then ((idx a0 s48.1).bind fun x84 => some (.next ((IntKind.i64.wrap (s48.1 + (1 : Int))), y78.1, y78.2, x84.gHi, x84.gLo))) else some (.next ((IntKind.i64.wrap (s48.1 + (1 : Int))), y78.1, y78.2, s48.2.2.2.1, s48.2.2.2.2)))))))) else some (.done (s48.2.1, s48.2.2.1, s48.2.2.2.1, s48.2.2.2.2)))) ((0 : Int), x5.gHi, x5.gLo, x6.gHi, x6.gLo)) fun y47 => ((r04_Wrap (⟨y47.1, y47.2.1⟩ : TApiWide) (⟨y47.2.2.1, y47.2.2.2⟩ : TApiWide)).bind fun x85 => some x85)))))
set_option maxRecDepth 100000 in
set_option maxHeartbeats 2000000 in
theorem r04_around_ok (a0 : List TApiWide) (r : TApiSpan) (h0 : r04_around a0 = some r) : CallsD Try.prog 33 [.lst 2 (a0.map eTApiWide) .no] [] [] (fun d h k => d = eTApiSpan r ∧ h = [] ∧ k = []) := by
  have hm := yes_of h0
  unfold r04_around at hm
  clear h0
  refine enterX htab Try.func33 rfl rfl rfl rfl rfl (fun C => ?_)
  refine wpD_seq ?_
  refine wpD_region ?_
  refine p_alloc htab rfl rfl rfl rfl rfl rfl rfl (fun b1 => ?_)
  refine ops_nil ?_
  refine then_normal ?_
  refine wpD_seq ?_
  refine wpD_seq ?_
  refine wpD_region ?_
  refine p_pure htab rfl rfl rfl rfl ?_
  refine p_lenL htab rfl rfl rfl rfl rfl rfl rfl (by first | exact map_len | rfl) ?_
  refine p_pure htab rfl rfl rfl rfl ?_
  refine ops_nil ?_
  refine then_normal ?_
  refine wpD_cond rfl (fun hc3 => ?_) (fun hc3 => ?_)
  · replace hm := yes_t hc3 hm
    refine wpD_seq ?_
    refine wpD_region ?_
    refine p_build (r := [.v (.bool false), .v (.int .i64 (0 : Int)), .v (.int .i64 (0 : Int))]) htab rfl rfl rfl rfl rfl rfl rfl rfl rfl ?_
    refine p_store (ds' := [.v (.bool false), .v (.int .i64 (0 : Int)), .v (.int .i64 (0 : Int))]) (h' := [(b1, Blk.cells [.v (.bool false), .v (.int .i64 (0 : Int)), .v (.int .i64 (0 : Int))] 23)]) 0 htab rfl rfl rfl rfl rfl rfl rfl rfl rfl rfl rfl rfl ?_
    refine ops_nil ?_
    refine then_normal ?_
    refine wpD_ret ?_
    refine then_ret ?_
    have er4 := yes_eq hm; subst er4
    refine retX.of (s' := ⟨[(2, .ptr b1 0)], [(b1, Blk.cells [.v (.bool false), .v (.int .i64 (0 : Int)), .v (.int .i64 (0 : Int))] 23)], []⟩) (WkS.perm (WkS.cons rfl (Wk.refl _) (WkS.nil)) (List.Perm.refl _) (List.Perm.refl _)) (retD_mk (hh := []) (.inl rfl) (resL_cons (resOne_cell 0 rfl rfl rfl rfl) (resL_nil)) (List.nil_sublist _) (List.Sublist.refl _) ?_)
    exact ⟨rfl, rfl, rfl⟩
  · replace hm := yes_f hc3 hm
    refine wpD_skip ?_
    refine then_normal ?_
    refine wpD_seq ?_
    obtain ⟨x5, q5, hm⟩ := yes_bind hm
    obtain ⟨x6, q6, hm⟩ := yes_bind hm
    refine wpD_fills 9 [(6, [.v (.int .i64 (0 : Int)), .v (.int .u64 (0 : Int))], 31), (7, [.v (.int .i64 (0 : Int)), .v (.int .u64 (0 : Int))], 31)] [(6, 8, [.v (.int .i64 x5.gHi), .v (.int .u64 x5.gLo)])] [[],[0],[0,1],[],[3],[3,4],[],[],[0,1,2,6,7]] [0,1,2,3,4,5,6,7,8] [[],[0],[0,1],[],[3],[3,4],[],[],[0,1,2,6,7],[0,1,2,3,4,5,6,7,8]] (by kernel_rfl) (by kernel_rfl) (by kernel_rfl) (by rfl) (by rfl) (by kernel_rfl) ?_
    apply Exists.intro
    apply Exists.intro
    apply Exists.intro
    apply Exists.intro
    apply Exists.intro
    apply Exists.intro
    refine ⟨.any, ?_⟩
    refine ⟨.any, ?_⟩
    refine ⟨.any, ?_⟩
    intro bs
    refine zf_e rfl rfl (ex_pure htab rfl) rfl rfl rfl rfl rfl rfl rfl ?_
    refine zf_e rfl rfl (x_elem htab rfl rfl rfl rfl rfl rfl rfl (idx_nonneg q5) (idx_map q5)) rfl rfl rfl rfl rfl rfl rfl ?_
    refine zf_eM rfl rfl (xm_loadEl (d := eTApiWide x5) htab rfl rfl rfl rfl rfl) rfl rfl rfl rfl rfl rfl rfl ?_
    refine zf_e rfl rfl (ex_pure htab rfl) rfl rfl rfl rfl rfl rfl rfl ?_
    refine zf_e rfl rfl (x_elem htab rfl rfl rfl rfl rfl rfl rfl (idx_nonneg q6) (idx_map q6)) rfl rfl rfl rfl rfl rfl rfl ?_
    refine zf_eM rfl rfl (xm_loadEl (d := eTApiWide x6) htab rfl rfl rfl rfl rfl) rfl rfl rfl rfl rfl rfl rfl ?_
    refine zf_alloc rfl htab rfl rfl rfl rfl rfl rfl rfl rfl rfl rfl (by simp [dOf, eI64]) (by simp) ?_
    refine zf_alloc rfl htab rfl rfl rfl rfl rfl rfl rfl rfl rfl rfl (by simp [dOf, eI64]) (by simp) ?_
    refine zf_fill (e := 6) (zs := [.v (.int .i64 (0 : Int)), .v (.int .u64 (0 : Int))]) (T' := 31) (ds' := [.v (.int .i64 x5.gHi), .v (.int .u64 x5.gLo)]) htab rfl rfl rfl rfl rfl rfl rfl rfl rfl (by simp) (by simp) rfl rfl rfl rfl rfl rfl rfl rfl rfl ?_
    refine zf_nil (h' := [(b1, Blk.cells [.v (.bool false), .v (.int .i64 (0 : Int)), .v (.int .i64 (0 : Int))] 23), (bs 6, Blk.cells [.v (.int .i64 x5.gHi), .v (.int .u64 x5.gLo)] 31), (bs 7, Blk.cells [.v (.int .i64 (0 : Int)), .v (.int .u64 (0 : Int))] 31)]) rfl rfl rfl (fun e he => by simp [isAl] at he; rcases he with rfl | rfl <;> rfl) ?_
    obtain ⟨b7, hb7⟩ : ∃ b, bs 6 = b := ⟨_, rfl⟩
    obtain ⟨b8, hb8⟩ : ∃ b, bs 7 = b := ⟨_, rfl⟩
    simp only [hb7, hb8]
    clear hb7 hb8
    refine p_store (ds' := [.v (.int .i64 x6.gHi), .v (.int .u64 x6.gLo)]) (h' := [(b1, Blk.cells [.v (.bool false), .v (.int .i64 (0 : Int)), .v (.int .i64 (0 : Int))] 23), (b7, Blk.cells [.v (.int .i64 x5.gHi), .v (.int .u64 x5.gLo)] 31), (b8, Blk.cells [.v (.int .i64 x6.gHi), .v (.int .u64 x6.gLo)] 31)]) 2 htab rfl rfl rfl rfl rfl rfl rfl rfl rfl rfl rfl rfl ?_
    refine ops_nil ?_
    refine then_normal ?_
    refine wpD_seq ?_
    refine wpD_seq ?_
    refine wpD_region ?_
    refine p_pure htab rfl rfl rfl rfl ?_
    refine ops_nil ?_
    refine then_normal ?_
    obtain ⟨y47, q47, ho47⟩ := yes_bind hm
    refine wpD_mid (Y := Unit) (fun z47 => (⟨[(2, .ptr b1 0), (3, .ptr b7 0), (4, .ptr b8 0)], [(b1, Blk.cells [.v (.bool false), .v (.int .i64 (0 : Int)), .v (.int .i64 (0 : Int))] 23), (b7, Blk.cells [.v (.int .i64 y47.1), .v (.int .u64 y47.2.1)] 31), (b8, Blk.cells [.v (.int .i64 y47.2.2.1), .v (.int .u64 y47.2.2.2)] 31)], []⟩ : S)) ?_ ?_
    · clear hm; have hm := yes_of q47
      refine wpD_block ?_
      obtain ⟨u48, hl48, hq48⟩ := yes_m hm
      refine loop_M (Y := Unit) hl48 (fun s48 z48 => (⟨[(0, .lst 2 (a0.map eTApiWide) .no), (2, .ptr b1 0), (3, .ptr b7 0), (4, .ptr b8 0), (5, .v (.int .i64 s48.1))], [(b1, Blk.cells [.v (.bool false), .v (.int .i64 (0 : Int)), .v (.int .i64 (0 : Int))] 23), (b7, Blk.cells [.v (.int .i64 s48.2.1), .v (.int .u64 s48.2.2.1)] 31), (b8, Blk.cells [.v (.int .i64 s48.2.2.2.1), .v (.int .u64 s48.2.2.2.2)] 31)], []⟩ : S)) ?_ ?_
      · skip
        exact WkX.of () (WkS.perm (WkS.cons rfl (Wk.refl _) (WkS.cons rfl (Wk.refl _) (WkS.cons rfl (Wk.refl _) (WkS.cons rfl (Wk.refl _) (WkS.cons rfl (Wk.refl _) (WkS.nil)))))) (List.Perm.refl _) (List.Perm.refl _))
      · intro G48 s48 z48 hm
        refine wpD_seq ?_
        refine wpD_seq ?_
        refine wpD_region ?_
        refine p_pure htab rfl rfl rfl rfl ?_
        refine p_pure htab rfl rfl rfl rfl ?_
        refine p_lenL htab rfl rfl rfl rfl rfl rfl rfl (by first | exact map_len | rfl) ?_
        refine p_pure htab rfl rfl rfl rfl ?_
        refine ops_nil ?_
        refine then_normal ?_
        refine wpD_cond rfl (fun hc73 => ?_) (fun hc73 => ?_)
        · replace hm := yes_t hc73 hm
          refine wpD_skip ?_
          refine then_normal ?_
          refine wpD_seq ?_
          refine wpD_block ?_
          refine wpD_seq ?_
          refine wpD_seq ?_
          obtain ⟨x74, q74, hm⟩ := yes_bind hm
          refine wpD_draws 5 [] [[],[],[0],[0,2],[]] [0,2,3,4] [[],[],[0,1],[0,1,2],[],[0,1,2,3,4],[0,1,2,3,4,5]] (by kernel_rfl) (by kernel_rfl) (by kernel_rfl) (by rfl) (by rfl) (by kernel_rfl) ?_
          apply Exists.intro
          apply Exists.intro
          apply Exists.intro
          apply Exists.intro
          intro bs
          refine z_e rfl rfl (ex_pure htab rfl) rfl rfl rfl rfl rfl rfl ?_
          refine z_q rfl rfl (ex_pure htab rfl) rfl rfl rfl rfl rfl rfl ?_
          refine z_e rfl rfl (x_elem htab rfl rfl rfl rfl rfl rfl rfl (idx_nonneg q74) (idx_map q74)) rfl rfl rfl rfl rfl rfl ?_
          refine z_eM rfl rfl (xm_loadEl (d := eTApiWide x74) htab rfl rfl rfl rfl rfl) rfl rfl rfl rfl rfl rfl ?_
          refine z_eM rfl rfl (xm_load (d := eTApiWide (⟨s48.2.1, s48.2.2.1⟩ : TApiWide)) 1 htab rfl rfl rfl rfl rfl) rfl rfl rfl rfl rfl rfl ?_
          refine z_nil rfl rfl (fun e he => by simp [isAl] at he) ?_
          obtain ⟨x75, q75, hm⟩ := yes_bind hm
          refine p_call0 (rCmp_ok x74 (⟨s48.2.1, s48.2.2.1⟩ : TApiWide) (need_ok q75)) rfl rfl rfl rfl rfl (WkL.refl _) ?_
          rintro _ rfl
          refine p_pure htab rfl rfl rfl rfl ?_
          refine ops_nil ?_
          refine then_normal ?_
          obtain ⟨y78, q78, ho78⟩ := yes_bind hm
          refine wpD_mid (Y := Unit) (fun z78 => (⟨[(0, .lst 2 (a0.map eTApiWide) .no), (2, .ptr b1 0), (3, .ptr b7 0), (4, .ptr b8 0), (5, .v (.int .i64 s48.1))], [(b1, Blk.cells [.v (.bool false), .v (.int .i64 (0 : Int)), .v (.int .i64 (0 : Int))] 23), (b7, Blk.cells [.v (.int .i64 y78.1), .v (.int .u64 y78.2)] 31), (b8, Blk.cells [.v (.int .i64 s48.2.2.2.1), .v (.int .u64 s48.2.2.2.2)] 31)], []⟩ : S)) ?_ ?_
          · clear hm; have hm := yes_of q78
            refine wpD_cond rfl (fun hc79 => ?_) (fun hc79 => ?_)
            · replace hm := yes_t hc79 hm
              refine wpD_region ?_
              refine p_pure htab rfl rfl rfl rfl ?_
              refine p_pure htab rfl rfl rfl rfl ?_
              obtain ⟨x80, q80, hm⟩ := yes_bind hm
              refine p_elem htab rfl rfl rfl rfl rfl rfl rfl rfl rfl rfl (idx_nonneg q80) (idx_map q80) ?_
              refine p_loadEl (d := eTApiWide x80) htab rfl rfl rfl rfl rfl rfl rfl rfl ?_
              refine p_store (ds' := [.v (.int .i64 x80.gHi), .v (.int .u64 x80.gLo)]) (h' := [(b1, Blk.cells [.v (.bool false), .v (.int .i64 (0 : Int)), .v (.int .i64 (0 : Int))] 23), (b7, Blk.cells [.v (.int .i64 x80.gHi), .v (.int .u64 x80.gLo)] 31), (b8, Blk.cells [.v (.int .i64 s48.2.2.2.1), .v (.int .u64 s48.2.2.2.2)] 31)]) 1 htab rfl rfl rfl rfl rfl rfl rfl rfl rfl rfl rfl rfl ?_
              refine ops_nil ?_
              have e78 := yes_eq hm; subst e78
              refine ⟨rfl, ?_⟩
              exact WkX.of () (WkS.perm (WkS.cons rfl (Wk.refl _) (WkS.cons rfl (Wk.refl _) (WkS.cons rfl (Wk.refl _) (WkS.cons rfl (Wk.refl _) (WkS.cons rfl (Wk.refl _) (WkS.nil)))))) (List.Perm.refl _) (List.Perm.refl _))
            · replace hm := yes_f hc79 hm
              refine wpD_skip ?_
              have e78 := yes_eq hm; subst e78
              refine ⟨rfl, ?_⟩
              exact WkX.of () (WkS.perm (WkS.cons rfl (Wk.refl _) (WkS.cons rfl (Wk.refl _) (WkS.cons rfl (Wk.refl _) (WkS.cons rfl (Wk.refl _) (WkS.cons rfl (Wk.refl _) (WkS.nil)))))) (List.Perm.refl _) (List.Perm.refl _))
          · intro s78 hw78; clear hm; have hm := ho78; clear q78 ho78
            refine then_normal ?_
            refine wpD_wkX hw78 (fun z78 => ?_)
            refine wpD_seq ?_
            obtain ⟨x81, q81, hm⟩ := yes_bind hm
            refine wpD_draws 5 [] [[],[],[0],[0,2],[]] [0,2,3,4] [[],[],[0,1],[0,1,2],[],[0,1,2,3,4],[0,1,2,3,4,5]] (by kernel_rfl) (by kernel_rfl) (by kernel_rfl) (by rfl) (by rfl) (by kernel_rfl) ?_
            apply Exists.intro
            apply Exists.intro
            apply Exists.intro
            apply Exists.intro
            intro bs
            refine z_e rfl rfl (ex_pure htab rfl) rfl rfl rfl rfl rfl rfl ?_
            refine z_q rfl rfl (ex_pure htab rfl) rfl rfl rfl rfl rfl rfl ?_
            refine z_e rfl rfl (x_elem htab rfl rfl rfl rfl rfl rfl rfl (idx_nonneg q81) (idx_map q81)) rfl rfl rfl rfl rfl rfl ?_
            refine z_eM rfl rfl (xm_loadEl (d := eTApiWide x81) htab rfl rfl rfl rfl rfl) rfl rfl rfl rfl rfl rfl ?_
            refine z_eM rfl rfl (xm_load (d := eTApiWide (⟨s48.2.2.2.1, s48.2.2.2.2⟩ : TApiWide)) 2 htab rfl rfl rfl rfl rfl) rfl rfl rfl rfl rfl rfl ?_
            refine z_nil rfl rfl (fun e he => by simp [isAl] at he) ?_
            obtain ⟨x82, q82, hm⟩ := yes_bind hm
            refine p_call0 (rCmp_ok x81 (⟨s48.2.2.2.1, s48.2.2.2.2⟩ : TApiWide) (need_ok q82)) rfl rfl rfl rfl rfl (WkL.refl _) ?_
            rintro _ rfl
            refine p_pure htab rfl rfl rfl rfl ?_
            refine ops_nil ?_
            refine then_normal ?_
            refine wpD_cond rfl (fun hc83 => ?_) (fun hc83 => ?_)
            · replace hm := yes_t hc83 hm
              refine wpD_region ?_
              refine p_pure htab rfl rfl rfl rfl ?_
              refine p_pure htab rfl rfl rfl rfl ?_
              obtain ⟨x84, q84, hm⟩ := yes_bind hm
              refine p_elem htab rfl rfl rfl rfl rfl rfl rfl rfl rfl rfl (idx_nonneg q84) (idx_map q84) ?_
              refine p_loadEl (d := eTApiWide x84) htab rfl rfl rfl rfl rfl rfl rfl rfl ?_
              refine p_store (ds' := [.v (.int .i64 x84.gHi), .v (.int .u64 x84.gLo)]) (h' := [(b1, Blk.cells [.v (.bool false), .v (.int .i64 (0 : Int)), .v (.int .i64 (0 : Int))] 23), (b7, Blk.cells [.v (.int .i64 y78.1), .v (.int .u64 y78.2)] 31), (b8, Blk.cells [.v (.int .i64 x84.gHi), .v (.int .u64 x84.gLo)] 31)]) 2 htab rfl rfl rfl rfl rfl rfl rfl rfl rfl rfl rfl rfl ?_
              refine ops_nil ?_
              refine block_normal ?_
              refine then_normal ?_
              refine wpD_region ?_
              refine p_pure htab rfl rfl rfl rfl ?_
              refine p_pure htab rfl rfl rfl rfl ?_
              refine p_pure htab rfl rfl rfl rfl ?_
              refine ops_nil ?_
              refine then_normal ⟨_, lp_next hm, ?_⟩
              exact WkX.of () (WkS.perm (WkS.cons rfl (Wk.refl _) (WkS.cons rfl (Wk.refl _) (WkS.cons rfl (Wk.refl _) (WkS.cons rfl (Wk.refl _) (WkS.cons rfl (Wk.refl _) (WkS.nil)))))) (List.Perm.refl _) (List.Perm.refl _))
            · replace hm := yes_f hc83 hm
              refine wpD_skip ?_
              refine block_normal ?_
              refine then_normal ?_
              refine wpD_region ?_
              refine p_pure htab rfl rfl rfl rfl ?_
              refine p_pure htab rfl rfl rfl rfl ?_
              refine p_pure htab rfl rfl rfl rfl ?_
              refine ops_nil ?_
              refine then_normal ⟨_, lp_next hm, ?_⟩
              exact WkX.of () (WkS.perm (WkS.cons rfl (Wk.refl _) (WkS.cons rfl (Wk.refl _) (WkS.cons rfl (Wk.refl _) (WkS.cons rfl (Wk.refl _) (WkS.cons rfl (Wk.refl _) (WkS.nil)))))) (List.Perm.refl _) (List.Perm.refl _))
        · replace hm := yes_f hc73 hm
          refine wpD_exit ?_
          refine then_exit ?_
          have e48 := lp_done hm; subst e48; clear hm; have hm := hq48
          refine then_exit ?_
          refine block_hit ?_
          have e47 := yes_eq hm; subst e47
          refine ⟨rfl, ?_⟩
          exact WkX.of () (WkS.perm (WkS.cons rfl (Wk.refl _) (WkS.cons rfl (Wk.refl _) (WkS.cons rfl (Wk.refl _) (WkS.nil)))) (List.Perm.refl _) (List.Perm.refl _))
    · intro s47 hw47; clear hm; have hm := ho47; clear q47 ho47
      refine then_normal ?_
      refine wpD_wkX hw47 (fun z47 => ?_)
      refine wpD_seq ?_
      refine wpD_region ?_
      refine p_load (d := eTApiWide (⟨y47.1, y47.2.1⟩ : TApiWide)) 1 htab rfl rfl rfl rfl rfl rfl rfl rfl ?_
      refine p_load (d := eTApiWide (⟨y47.2.2.1, y47.2.2.2⟩ : TApiWide)) 2 htab rfl rfl rfl rfl rfl rfl rfl rfl ?_
      obtain ⟨x85, q85, hm⟩ := yes_bind hm
      refine p_call0 (r04_Wrap_ok (⟨y47.1, y47.2.1⟩ : TApiWide) (⟨y47.2.2.1, y47.2.2.2⟩ : TApiWide) x85 q85) rfl rfl rfl rfl rfl (WkL.refl _) ?_
      rintro _ rfl
      refine p_store (ds' := [.v (.bool x85.gSome), .v (.int .i64 x85.gLo), .v (.int .i64 x85.gHi)]) (h' := [(b1, Blk.cells [.v (.bool x85.gSome), .v (.int .i64 x85.gLo), .v (.int .i64 x85.gHi)] 23), (b7, Blk.cells [.v (.int .i64 y47.1), .v (.int .u64 y47.2.1)] 31), (b8, Blk.cells [.v (.int .i64 y47.2.2.1), .v (.int .u64 y47.2.2.2)] 31)]) 0 htab rfl rfl rfl rfl rfl rfl rfl rfl rfl rfl rfl rfl ?_
      refine ops_nil ?_
      refine then_normal ?_
      refine wpD_ret ?_
      have er86 := yes_eq hm; subst er86
      refine retX.of (s' := ⟨[(2, .ptr b1 0)], [(b1, Blk.cells [.v (.bool x85.gSome), .v (.int .i64 x85.gLo), .v (.int .i64 x85.gHi)] 23)], []⟩) (WkS.perm (WkS.cons rfl (Wk.refl _) (WkS.nil)) (List.Perm.refl _) (List.Perm.refl _)) (retD_mk (hh := []) (.inl rfl) (resL_cons (resOne_cell 0 rfl rfl rfl rfl) (resL_nil)) (List.nil_sublist _) (List.Sublist.refl _) ?_)
      exact ⟨rfl, rfl, rfl⟩
noncomputable def r04_rest (a0 : TApiSpan) (a1 : TApiSpan) : Option (TApiSpan) :=
  (Option.bind (α := Bool) (bif (a1.gLo == (0 : Int)) then some (a1.gHi == (0 : Int)) else some false) fun y5 => (bif y5 then some (⟨false, (0 : Int), (0 : Int)⟩ : TApiSpan) else (Option.bind (α := Bool) (bif (a0.gLo == a0.gHi) then some (a1.gLo == a1.gHi) else some false) fun y11 => (bif y11 then ((r02_Do (9 : Int) a0.gLo a1.gLo).bind fun x17 => ((r03_Make x17.1 x17.1).bind fun x18 => some x18)) else ((r04_abs a1.gLo).bind fun x20 => ((r04_abs a1.gHi).bind fun x22 => ((need (pWW x22 x20)).bind fun x23 => (Option.bind (α := Int × Int) (bif (decide ((0 : Int) < (rCmp x22 x20))) then ((r04_abs a1.gHi).bind fun x28 => some (x28.gHi, x28.gLo)) else some (x20.gHi, x20.gLo)) fun y26 => ((need (pWW (⟨y26.1, y26.2⟩ : TApiWide) (⟨(0 : Int), (1 : Int)⟩ : TApiWide))).bind fun x29 => ((need (pW (rSub (⟨y26.1, y26.2⟩ : TApiWide) (⟨(0 : Int), (1 : Int)⟩ : TApiWide)))).bind fun x30 => (Option.bind (α := Int) (bif (decide (a0.gLo < (0 : Int))) then (Option.bind (α := Int) (bif (decide (a0.gLo < (IntKind.i64.wrap (0 - (rClamp (rSub (⟨y26.1, y26.2⟩ : TApiWide) (⟨(0 : Int), (1 : Int)⟩ : TApiWide))))))) then some (IntKind.i64.wrap (0 - (rClamp (rSub (⟨y26.1, y26.2⟩ : TApiWide) (⟨(0 : Int), (1 : Int)⟩ : TApiWide))))) else some a0.gLo) fun y36 => some y36) else some (0 : Int)) fun y33 => (Option.bind (α := Int) (bif (decide ((0 : Int) < a0.gHi)) then (Option.bind (α := Int) (bif (decide ((rClamp (rSub (⟨y26.1, y26.2⟩ : TApiWide) (⟨(0 : Int), (1 : Int)⟩ : TApiWide))) < a0.gHi)) then some (rClamp (rSub (⟨y26.1, y26.2⟩ : TApiWide) (⟨(0 : Int), (1 : Int)⟩ : TApiWide))) else some a0.gHi) fun y43 => some y43) else some (0 : Int)) fun y40 => ((r03_Make y33 y40).bind fun x45 => some x45)))))))))))))
set_option maxRecDepth 100000 in
set_option maxHeartbeats 2000000 in
theorem r04_rest_ok (a0 : TApiSpan) (a1 : TApiSpan) (r : TApiSpan) (h0 : r04_rest a0 a1 = some r) : CallsD Try.prog 36 [eTApiSpan a0, eTApiSpan a1] [] [] (fun d h k => d = eTApiSpan r ∧ h = [] ∧ k = []) := by
  have hm := yes_of h0
  unfold r04_rest at hm
  clear h0
  refine enterX htab Try.func36 rfl rfl rfl rfl rfl (fun C => ?_)
  refine wpD_seq ?_
  refine wpD_region ?_
  refine p_box rfl rfl rfl rfl rfl rfl rfl (fun b1 => ?_)
  refine p_box rfl rfl rfl rfl rfl rfl rfl (fun b2 => ?_)
  refine p_alloc htab rfl rfl rfl rfl rfl rfl rfl (fun b3 => ?_)
  refine ops_nil ?_
  refine then_normal ?_
  refine wpD_seq ?_
  refine wpD_seq ?_
  obtain ⟨y5, q5, ho5⟩ := yes_bind hm
  refine wpD_mid (Y := Unit) (fun z5 => (⟨[(2, .ptr b1 0), (3, .ptr b2 0), (4, .ptr b3 0), (18, .v (.bool y5))], [(b1, Blk.cells [.v (.bool a0.gSome), .v (.int .i64 a0.gLo), .v (.int .i64 a0.gHi)] 23), (b2, Blk.cells [.v (.bool a1.gSome), .v (.int .i64 a1.gLo), .v (.int .i64 a1.gHi)] 23), (b3, Blk.cells [.v (.bool false), .v (.int .i64 (0 : Int)), .v (.int .i64 (0 : Int))] 23)], []⟩ : S)) ?_ ?_
  · clear hm; have hm := yes_of q5
    refine wpD_region ?_
    refine p_pure htab rfl rfl rfl rfl ?_
    refine p_load 1 htab rfl rfl rfl rfl rfl rfl rfl rfl ?_
    refine p_pure htab rfl rfl rfl rfl ?_
    refine p_pure htab rfl rfl rfl rfl ?_
    refine p_split (i := 14) rfl (fun hg6 => ?_) (fun hg6 => ?_)
    · replace hm := yes_t hg6 hm
      refine p_pure htab rfl rfl rfl rfl ?_
      refine p_load 1 htab rfl rfl rfl rfl rfl rfl rfl rfl ?_
      refine p_pure htab rfl rfl rfl rfl ?_
      refine p_pickT rfl rfl rfl rfl rfl rfl ?_
      refine ops_nil ?_
      have e5 := yes_eq hm; subst e5
      refine ⟨rfl, ?_⟩
      exact WkX.of () (WkS.perm (WkS.cons rfl (Wk.refl _) (WkS.cons rfl (Wk.refl _) (WkS.cons rfl (Wk.refl _) (WkS.cons rfl (Wk.refl _) (WkS.nil))))) (List.Perm.refl _) (List.Perm.refl _))
    · replace hm := yes_f hg6 hm
      refine p_skip rfl rfl rfl ?_
      refine p_skip rfl rfl rfl ?_
      refine p_skip rfl rfl rfl ?_
      refine p_pickF rfl rfl rfl rfl rfl rfl ?_
      refine ops_nil ?_
      have e5 := yes_eq hm; subst e5
      refine ⟨rfl, ?_⟩
      exact WkX.of () (WkS.perm (WkS.cons rfl (Wk.refl _) (WkS.cons rfl (Wk.refl _) (WkS.cons rfl (Wk.refl _) (WkS.cons rfl (Wk.refl _) (WkS.nil))))) (List.Perm.refl _) (List.Perm.refl _))
  · intro s5 hw5; clear hm; have hm := ho5; clear q5 ho5
    refine then_normal ?_
    refine wpD_wkX hw5 (fun z5 => ?_)
    refine wpD_cond rfl (fun hc8 => ?_) (fun hc8 => ?_)
    · replace hm := yes_t hc8 hm
      refine wpD_seq ?_
      refine wpD_region ?_
      refine p_build (r := [.v (.bool false), .v (.int .i64 (0 : Int)), .v (.int .i64 (0 : Int))]) htab rfl rfl rfl rfl rfl rfl rfl rfl rfl ?_
      refine p_store (ds' := [.v (.bool false), .v (.int .i64 (0 : Int)), .v (.int .i64 (0 : Int))]) (h' := [(b1, Blk.cells [.v (.bool a0.gSome), .v (.int .i64 a0.gLo), .v (.int .i64 a0.gHi)] 23), (b2, Blk.cells [.v (.bool a1.gSome), .v (.int .i64 a1.gLo), .v (.int .i64 a1.gHi)] 23), (b3, Blk.cells [.v (.bool false), .v (.int .i64 (0 : Int)), .v (.int .i64 (0 : Int))] 23)]) 2 htab rfl rfl rfl rfl rfl rfl rfl rfl rfl rfl rfl rfl ?_
      refine ops_nil ?_
      refine then_normal ?_
      refine wpD_ret ?_
      refine then_ret ?_
      have er9 := yes_eq hm; subst er9
      refine retX.of (s' := ⟨[(4, .ptr b3 0)], [(b3, Blk.cells [.v (.bool false), .v (.int .i64 (0 : Int)), .v (.int .i64 (0 : Int))] 23)], []⟩) (WkS.perm (WkS.cons rfl (Wk.refl _) (WkS.nil)) ((perm_at (j := 2) rfl).trans (List.Perm.cons _ (List.Perm.refl _))) (List.Perm.refl _)) (retD_mk (hh := []) (.inl rfl) (resL_cons (resOne_cell 0 rfl rfl rfl rfl) (resL_nil)) (List.nil_sublist _) (List.Sublist.refl _) ?_)
      exact ⟨rfl, rfl, rfl⟩
    · replace hm := yes_f hc8 hm
      refine wpD_skip ?_
      refine then_normal ?_
      refine wpD_seq ?_
      refine wpD_seq ?_
      obtain ⟨y11, q11, ho11⟩ := yes_bind hm
      refine wpD_mid (Y := Unit) (fun z11 => (⟨[(2, .ptr b1 0), (3, .ptr b2 0), (4, .ptr b3 0), (31, .v (.bool y11))], [(b1, Blk.cells [.v (.bool a0.gSome), .v (.int .i64 a0.gLo), .v (.int .i64 a0.gHi)] 23), (b2, Blk.cells [.v (.bool a1.gSome), .v (.int .i64 a1.gLo), .v (.int .i64 a1.gHi)] 23), (b3, Blk.cells [.v (.bool false), .v (.int .i64 (0 : Int)), .v (.int .i64 (0 : Int))] 23)], []⟩ : S)) ?_ ?_
      · clear hm; have hm := yes_of q11
        refine wpD_region ?_
        refine p_pure htab rfl rfl rfl rfl ?_
        refine p_load 0 htab rfl rfl rfl rfl rfl rfl rfl rfl ?_
        refine p_pure htab rfl rfl rfl rfl ?_
        refine p_load 0 htab rfl rfl rfl rfl rfl rfl rfl rfl ?_
        refine p_pure htab rfl rfl rfl rfl ?_
        refine p_pure htab rfl rfl rfl rfl ?_
        refine p_split (i := 25) rfl (fun hg12 => ?_) (fun hg12 => ?_)
        · replace hm := yes_t hg12 hm
          refine p_pure htab rfl rfl rfl rfl ?_
          refine p_load 1 htab rfl rfl rfl rfl rfl rfl rfl rfl ?_
          refine p_pure htab rfl rfl rfl rfl ?_
          refine p_load 1 htab rfl rfl rfl rfl rfl rfl rfl rfl ?_
          refine p_pure htab rfl rfl rfl rfl ?_
          refine p_pickT rfl rfl rfl rfl rfl rfl ?_
          refine ops_nil ?_
          have e11 := yes_eq hm; subst e11
          refine ⟨rfl, ?_⟩
          exact WkX.of () (WkS.perm (WkS.cons rfl (Wk.refl _) (WkS.cons rfl (Wk.refl _) (WkS.cons rfl (Wk.refl _) (WkS.cons rfl (Wk.refl _) (WkS.nil))))) (List.Perm.refl _) (List.Perm.refl _))
        · replace hm := yes_f hg12 hm
          refine p_skip rfl rfl rfl ?_
          refine p_skip rfl rfl rfl ?_
          refine p_skip rfl rfl rfl ?_
          refine p_skip rfl rfl rfl ?_
          refine p_skip rfl rfl rfl ?_
          refine p_pickF rfl rfl rfl rfl rfl rfl ?_
          refine ops_nil ?_
          have e11 := yes_eq hm; subst e11
          refine ⟨rfl, ?_⟩
          exact WkX.of () (WkS.perm (WkS.cons rfl (Wk.refl _) (WkS.cons rfl (Wk.refl _) (WkS.cons rfl (Wk.refl _) (WkS.cons rfl (Wk.refl _) (WkS.nil))))) (List.Perm.refl _) (List.Perm.refl _))
      · intro s11 hw11; clear hm; have hm := ho11; clear q11 ho11
        refine then_normal ?_
        refine wpD_wkX hw11 (fun z11 => ?_)
        refine wpD_cond rfl (fun hc16 => ?_) (fun hc16 => ?_)
        · replace hm := yes_t hc16 hm
          refine wpD_seq ?_
          refine wpD_region ?_
          refine p_pure htab rfl rfl rfl rfl ?_
          refine p_load 0 htab rfl rfl rfl rfl rfl rfl rfl rfl ?_
          refine p_pure htab rfl rfl rfl rfl ?_
          refine p_load 1 htab rfl rfl rfl rfl rfl rfl rfl rfl ?_
          obtain ⟨x17, q17, hm⟩ := yes_bind hm
          refine p_call0 (r02_Do_ok (9 : Int) a0.gLo a1.gLo x17 q17) rfl rfl rfl rfl rfl (WkL.refl _) ?_
          rintro _ rfl
          refine p_pure htab rfl rfl rfl rfl ?_
          refine p_pure htab rfl rfl rfl rfl ?_
          refine p_pure htab rfl rfl rfl rfl ?_
          refine p_pure htab rfl rfl rfl rfl ?_
          refine p_pure htab rfl rfl rfl rfl ?_
          refine ops_nil ?_
          refine then_normal ?_
          refine wpD_seq ?_
          refine wpD_region ?_
          refine p_pure htab rfl rfl rfl rfl ?_
          refine p_pure htab rfl rfl rfl rfl ?_
          obtain ⟨x18, q18, hm⟩ := yes_bind hm
          refine p_call0 (r03_Make_ok x17.1 x17.1 x18 q18) rfl rfl rfl rfl rfl (WkL.refl _) ?_
          rintro _ rfl
          refine p_store (ds' := [.v (.bool x18.gSome), .v (.int .i64 x18.gLo), .v (.int .i64 x18.gHi)]) (h' := [(b1, Blk.cells [.v (.bool a0.gSome), .v (.int .i64 a0.gLo), .v (.int .i64 a0.gHi)] 23), (b2, Blk.cells [.v (.bool a1.gSome), .v (.int .i64 a1.gLo), .v (.int .i64 a1.gHi)] 23), (b3, Blk.cells [.v (.bool x18.gSome), .v (.int .i64 x18.gLo), .v (.int .i64 x18.gHi)] 23)]) 2 htab rfl rfl rfl rfl rfl rfl rfl rfl rfl rfl rfl rfl ?_
          refine ops_nil ?_
          refine then_normal ?_
          refine wpD_ret ?_
          refine then_ret ?_
          have er19 := yes_eq hm; subst er19
          refine retX.of (s' := ⟨[(4, .ptr b3 0)], [(b3, Blk.cells [.v (.bool x18.gSome), .v (.int .i64 x18.gLo), .v (.int .i64 x18.gHi)] 23)], []⟩) (WkS.perm (WkS.cons rfl (Wk.refl _) (WkS.nil)) ((perm_at (j := 2) rfl).trans (List.Perm.cons _ (List.Perm.refl _))) (List.Perm.refl _)) (retD_mk (hh := []) (.inl rfl) (resL_cons (resOne_cell 0 rfl rfl rfl rfl) (resL_nil)) (List.nil_sublist _) (List.Sublist.refl _) ?_)
          exact ⟨rfl, rfl, rfl⟩
        · replace hm := yes_f hc16 hm
          refine wpD_skip ?_
          refine then_normal ?_
          refine wpD_seq ?_
          refine wpD_region ?_
          refine p_pure htab rfl rfl rfl rfl ?_
          refine p_load 1 htab rfl rfl rfl rfl rfl rfl rfl rfl ?_
          obtain ⟨x20, q20, hm⟩ := yes_bind hm
          refine p_call0 (r04_abs_ok a1.gLo x20 q20) rfl rfl rfl rfl rfl (WkL.refl _) ?_
          rintro _ rfl
          refine p_alloc htab rfl rfl rfl rfl rfl rfl rfl (fun b21 => ?_)
          refine p_store (ds' := [.v (.int .i64 x20.gHi), .v (.int .u64 x20.gLo)]) (h' := [(b1, Blk.cells [.v (.bool a0.gSome), .v (.int .i64 a0.gLo), .v (.int .i64 a0.gHi)] 23), (b2, Blk.cells [.v (.bool a1.gSome), .v (.int .i64 a1.gLo), .v (.int .i64 a1.gHi)] 23), (b3, Blk.cells [.v (.bool false), .v (.int .i64 (0 : Int)), .v (.int .i64 (0 : Int))] 23), (b21, Blk.cells [.v (.int .i64 x20.gHi), .v (.int .u64 x20.gLo)] 31)]) 3 htab rfl rfl rfl rfl rfl rfl rfl rfl rfl rfl rfl rfl ?_
          refine ops_nil ?_
          refine then_normal ?_
          refine wpD_seq ?_
          refine wpD_seq ?_
          obtain ⟨x22, q22, hm⟩ := yes_bind hm
          refine wpD_draws 4 [] [[],[0],[0],[]] [0,2,3] [[],[0],[0,1],[],[0,1,2,3],[0,1,2,3,4]] (by kernel_rfl) (by kernel_rfl) (by kernel_rfl) (by rfl) (by rfl) (by kernel_rfl) ?_
          apply Exists.intro
          apply Exists.intro
          apply Exists.intro
          intro bs
          refine z_e rfl rfl (ex_pure htab rfl) rfl rfl rfl rfl rfl rfl ?_
          refine z_qM rfl rfl (xm_load 1 htab rfl rfl rfl rfl rfl) rfl rfl rfl rfl rfl rfl ?_
          refine z_call rfl rfl (r04_abs_ok a1.gHi x22 q22) rfl rfl (WkL.refl _) rfl rfl rfl rfl rfl rfl ?_
          refine z_eM rfl rfl (xm_load (d := eTApiWide x20) 3 htab rfl rfl rfl rfl rfl) rfl rfl rfl rfl rfl rfl ?_
          refine z_nil rfl rfl (fun e he => by simp [isAl] at he) ?_
          obtain ⟨x23, q23, hm⟩ := yes_bind hm
          refine p_call0 (rCmp_ok x22 x20 (need_ok q23)) rfl rfl rfl rfl rfl (WkL.refl _) ?_
          rintro _ rfl
          refine p_pure htab rfl rfl rfl rfl ?_
          refine ops_nil ?_
          refine then_normal ?_
          obtain ⟨y26, q26, ho26⟩ := yes_bind hm
          refine wpD_mid (Y := Unit) (fun z26 => (⟨[(2, .ptr b1 0), (4, .ptr b3 0), (7, .ptr b21 0)], [(b1, Blk.cells [.v (.bool a0.gSome), .v (.int .i64 a0.gLo), .v (.int .i64 a0.gHi)] 23), (b2, Blk.cells [.v (.bool a1.gSome), .v (.int .i64 a1.gLo), .v (.int .i64 a1.gHi)] 23), (b3, Blk.cells [.v (.bool false), .v (.int .i64 (0 : Int)), .v (.int .i64 (0 : Int))] 23), (b21, Blk.cells [.v (.int .i64 y26.1), .v (.int .u64 y26.2)] 31)], []⟩ : S)) ?_ ?_
          · clear hm; have hm := yes_of q26
            refine wpD_cond rfl (fun hc27 => ?_) (fun hc27 => ?_)
            · replace hm := yes_t hc27 hm
              refine wpD_region ?_
              refine p_pure htab rfl rfl rfl rfl ?_
              refine p_load 1 htab rfl rfl rfl rfl rfl rfl rfl rfl ?_
              obtain ⟨x28, q28, hm⟩ := yes_bind hm
              refine p_call0 (r04_abs_ok a1.gHi x28 q28) rfl rfl rfl rfl rfl (WkL.refl _) ?_
              rintro _ rfl
              refine p_store (ds' := [.v (.int .i64 x28.gHi), .v (.int .u64 x28.gLo)]) (h' := [(b1, Blk.cells [.v (.bool a0.gSome), .v (.int .i64 a0.gLo), .v (.int .i64 a0.gHi)] 23), (b2, Blk.cells [.v (.bool a1.gSome), .v (.int .i64 a1.gLo), .v (.int .i64 a1.gHi)] 23), (b3, Blk.cells [.v (.bool false), .v (.int .i64 (0 : Int)), .v (.int .i64 (0 : Int))] 23), (b21, Blk.cells [.v (.int .i64 x28.gHi), .v (.int .u64 x28.gLo)] 31)]) 3 htab rfl rfl rfl rfl rfl rfl rfl rfl rfl rfl rfl rfl ?_
              refine ops_nil ?_
              have e26 := yes_eq hm; subst e26
              refine ⟨rfl, ?_⟩
              exact WkX.of () (WkS.perm (WkS.cons rfl (Wk.refl _) (WkS.cons rfl (Wk.refl _) (WkS.cons rfl (Wk.refl _) (WkS.nil)))) (List.Perm.refl _) (List.Perm.refl _))
            · replace hm := yes_f hc27 hm
              refine wpD_skip ?_
              have e26 := yes_eq hm; subst e26
              refine ⟨rfl, ?_⟩
              exact WkX.of () (WkS.perm (WkS.cons rfl (Wk.refl _) (WkS.cons rfl (Wk.refl _) (WkS.cons rfl (Wk.refl _) (WkS.nil)))) (List.Perm.refl _) (List.Perm.refl _))
          · intro s26 hw26; clear hm; have hm := ho26; clear q26 ho26
            refine then_normal ?_
            refine wpD_wkX hw26 (fun z26 => ?_)
            refine wpD_seq ?_
            refine wpD_region ?_
            refine p_load (d := eTApiWide (⟨y26.1, y26.2⟩ : TApiWide)) 3 htab rfl rfl rfl rfl rfl rfl rfl rfl ?_
            refine p_build (r := [.v (.int .i64 (0 : Int)), .v (.int .u64 (1 : Int))]) htab rfl rfl rfl rfl rfl rfl rfl rfl rfl ?_
            obtain ⟨x29, q29, hm⟩ := yes_bind hm
            refine p_call0 (rSub_ok (⟨y26.1, y26.2⟩ : TApiWide) (⟨(0 : Int), (1 : Int)⟩ : TApiWide) (need_ok q29)) rfl rfl rfl rfl rfl (WkL.refl _) ?_
            rintro _ rfl
            obtain ⟨x30, q30, hm⟩ := yes_bind hm
            refine p_call0 (rClamp_ok (rSub (⟨y26.1, y26.2⟩ : TApiWide) (⟨(0 : Int), (1 : Int)⟩ : TApiWide)) (need_ok q30)) rfl rfl rfl rfl rfl (WkL.refl _) ?_
            rintro _ rfl
            refine p_pure htab rfl rfl rfl rfl ?_
            refine ops_nil ?_
            refine then_normal ?_
            refine wpD_seq ?_
            refine wpD_region ?_
            refine p_pure htab rfl rfl rfl rfl ?_
            refine p_pure htab rfl rfl rfl rfl ?_
            refine ops_nil ?_
            refine then_normal ?_
            refine wpD_seq ?_
            refine wpD_seq ?_
            refine wpD_region ?_
            refine p_pure htab rfl rfl rfl rfl ?_
            refine p_load 0 htab rfl rfl rfl rfl rfl rfl rfl rfl ?_
            refine p_pure htab rfl rfl rfl rfl ?_
            refine ops_nil ?_
            refine then_normal ?_
            obtain ⟨y33, q33, ho33⟩ := yes_bind hm
            refine wpD_mid (Y := Unit) (fun z33 => (⟨[(2, .ptr b1 0), (4, .ptr b3 0), (8, .v (.int .i64 (rClamp (rSub (⟨y26.1, y26.2⟩ : TApiWide) (⟨(0 : Int), (1 : Int)⟩ : TApiWide))))), (9, .v (.int .i64 y33)), (10, .v (.int .i64 (0 : Int)))], [(b1, Blk.cells [.v (.bool a0.gSome), .v (.int .i64 a0.gLo), .v (.int .i64 a0.gHi)] 23), (b2, Blk.cells [.v (.bool a1.gSome), .v (.int .i64 a1.gLo), .v (.int .i64 a1.gHi)] 23), (b3, Blk.cells [.v (.bool false), .v (.int .i64 (0 : Int)), .v (.int .i64 (0 : Int))] 23), (b21, Blk.cells [.v (.int .i64 y26.1), .v (.int .u64 y26.2)] 31)], []⟩ : S)) ?_ ?_
            · clear hm; have hm := yes_of q33
              refine wpD_cond rfl (fun hc34 => ?_) (fun hc34 => ?_)
              · replace hm := yes_t hc34 hm
                refine wpD_seq ?_
                refine wpD_region ?_
                refine p_pure htab rfl rfl rfl rfl ?_
                refine p_load 0 htab rfl rfl rfl rfl rfl rfl rfl rfl ?_
                refine p_pure htab rfl rfl rfl rfl ?_
                refine ops_nil ?_
                refine then_normal ?_
                refine wpD_seq ?_
                refine wpD_region ?_
                refine p_pure htab rfl rfl rfl rfl ?_
                refine p_pure htab rfl rfl rfl rfl ?_
                refine p_pure htab rfl rfl rfl rfl ?_
                refine p_pure htab rfl rfl rfl rfl ?_
                refine ops_nil ?_
                refine then_normal ?_
                obtain ⟨y36, q36, ho36⟩ := yes_bind hm
                refine wpD_mid (Y := Unit) (fun z36 => (⟨[(2, .ptr b1 0), (4, .ptr b3 0), (8, .v (.int .i64 (rClamp (rSub (⟨y26.1, y26.2⟩ : TApiWide) (⟨(0 : Int), (1 : Int)⟩ : TApiWide))))), (9, .v (.int .i64 y36)), (10, .v (.int .i64 (0 : Int)))], [(b1, Blk.cells [.v (.bool a0.gSome), .v (.int .i64 a0.gLo), .v (.int .i64 a0.gHi)] 23), (b2, Blk.cells [.v (.bool a1.gSome), .v (.int .i64 a1.gLo), .v (.int .i64 a1.gHi)] 23), (b3, Blk.cells [.v (.bool false), .v (.int .i64 (0 : Int)), .v (.int .i64 (0 : Int))] 23), (b21, Blk.cells [.v (.int .i64 y26.1), .v (.int .u64 y26.2)] 31)], []⟩ : S)) ?_ ?_
                · clear hm; have hm := yes_of q36
                  refine wpD_cond rfl (fun hc37 => ?_) (fun hc37 => ?_)
                  · replace hm := yes_t hc37 hm
                    refine wpD_region ?_
                    refine p_pure htab rfl rfl rfl rfl ?_
                    refine p_pure htab rfl rfl rfl rfl ?_
                    refine p_pure htab rfl rfl rfl rfl ?_
                    refine ops_nil ?_
                    have e36 := yes_eq hm; subst e36
                    refine ⟨rfl, ?_⟩
                    exact WkX.of () (WkS.perm (WkS.cons rfl (Wk.refl _) (WkS.cons rfl (Wk.refl _) (WkS.cons rfl (Wk.refl _) (WkS.cons rfl (Wk.refl _) (WkS.cons rfl (Wk.refl _) (WkS.nil)))))) (List.Perm.refl _) (List.Perm.refl _))
                  · replace hm := yes_f hc37 hm
                    refine wpD_skip ?_
                    have e36 := yes_eq hm; subst e36
                    refine ⟨rfl, ?_⟩
                    exact WkX.of () (WkS.perm (WkS.cons rfl (Wk.refl _) (WkS.cons rfl (Wk.refl _) (WkS.cons rfl (Wk.refl _) (WkS.cons rfl (Wk.refl _) (WkS.cons rfl (Wk.refl _) (WkS.nil)))))) (List.Perm.refl _) (List.Perm.refl _))
                · intro s36 hw36; clear hm; have hm := ho36; clear q36 ho36
                  have e33 := yes_eq hm; subst e33
                  refine ⟨rfl, ?_⟩
                  refine WkX.trans hw36 (fun z36 => ?_)
                  exact WkX.of () (WkS.perm (WkS.cons rfl (Wk.refl _) (WkS.cons rfl (Wk.refl _) (WkS.cons rfl (Wk.refl _) (WkS.cons rfl (Wk.refl _) (WkS.cons rfl (Wk.refl _) (WkS.nil)))))) (List.Perm.refl _) (List.Perm.refl _))
              · replace hm := yes_f hc34 hm
                refine wpD_skip ?_
                have e33 := yes_eq hm; subst e33
                refine ⟨rfl, ?_⟩
                exact WkX.of () (WkS.perm (WkS.cons rfl (Wk.refl _) (WkS.cons rfl (Wk.refl _) (WkS.cons rfl (Wk.refl _) (WkS.cons rfl (Wk.refl _) (WkS.cons rfl (Wk.refl _) (WkS.nil)))))) (List.Perm.refl _) (List.Perm.refl _))
            · intro s33 hw33; clear hm; have hm := ho33; clear q33 ho33
              refine then_normal ?_
              refine wpD_wkX hw33 (fun z33 => ?_)
              refine wpD_seq ?_
              refine wpD_seq ?_
              refine wpD_region ?_
              refine p_pure htab rfl rfl rfl rfl ?_
              refine p_load 0 htab rfl rfl rfl rfl rfl rfl rfl rfl ?_
              refine p_pure htab rfl rfl rfl rfl ?_
              refine ops_nil ?_
              refine then_normal ?_
              obtain ⟨y40, q40, ho40⟩ := yes_bind hm
              refine wpD_mid (Y := Unit) (fun z40 => (⟨[(4, .ptr b3 0), (9, .v (.int .i64 y33)), (10, .v (.int .i64 y40))], [(b1, Blk.cells [.v (.bool a0.gSome), .v (.int .i64 a0.gLo), .v (.int .i64 a0.gHi)] 23), (b2, Blk.cells [.v (.bool a1.gSome), .v (.int .i64 a1.gLo), .v (.int .i64 a1.gHi)] 23), (b3, Blk.cells [.v (.bool false), .v (.int .i64 (0 : Int)), .v (.int .i64 (0 : Int))] 23), (b21, Blk.cells [.v (.int .i64 y26.1), .v (.int .u64 y26.2)] 31)], []⟩ : S)) ?_ ?_
              · clear hm; have hm := yes_of q40
                refine wpD_cond rfl (fun hc41 => ?_) (fun hc41 => ?_)
                · replace hm := yes_t hc41 hm
                  refine wpD_seq ?_
                  refine wpD_region ?_
                  refine p_pure htab rfl rfl rfl rfl ?_
                  refine p_load 0 htab rfl rfl rfl rfl rfl rfl rfl rfl ?_
                  refine p_pure htab rfl rfl rfl rfl ?_
                  refine ops_nil ?_
                  refine then_normal ?_
                  refine wpD_seq ?_
                  refine wpD_region ?_
                  refine p_pure htab rfl rfl rfl rfl ?_
                  refine p_pure htab rfl rfl rfl rfl ?_
                  refine p_pure htab rfl rfl rfl rfl ?_
                  refine ops_nil ?_
                  refine then_normal ?_
                  obtain ⟨y43, q43, ho43⟩ := yes_bind hm
                  refine wpD_mid (Y := Unit) (fun z43 => (⟨[(4, .ptr b3 0), (9, .v (.int .i64 y33)), (10, .v (.int .i64 y43))], [(b1, Blk.cells [.v (.bool a0.gSome), .v (.int .i64 a0.gLo), .v (.int .i64 a0.gHi)] 23), (b2, Blk.cells [.v (.bool a1.gSome), .v (.int .i64 a1.gLo), .v (.int .i64 a1.gHi)] 23), (b3, Blk.cells [.v (.bool false), .v (.int .i64 (0 : Int)), .v (.int .i64 (0 : Int))] 23), (b21, Blk.cells [.v (.int .i64 y26.1), .v (.int .u64 y26.2)] 31)], []⟩ : S)) ?_ ?_
                  · clear hm; have hm := yes_of q43
                    refine wpD_cond rfl (fun hc44 => ?_) (fun hc44 => ?_)
                    · replace hm := yes_t hc44 hm
                      refine wpD_region ?_
                      refine p_pure htab rfl rfl rfl rfl ?_
                      refine p_pure htab rfl rfl rfl rfl ?_
                      refine ops_nil ?_
                      have e43 := yes_eq hm; subst e43
                      refine ⟨rfl, ?_⟩
                      exact WkX.of () (WkS.perm (WkS.cons rfl (Wk.refl _) (WkS.cons rfl (Wk.refl _) (WkS.cons rfl (Wk.refl _) (WkS.nil)))) (List.Perm.refl _) (List.Perm.refl _))
                    · replace hm := yes_f hc44 hm
                      refine wpD_skip ?_
                      have e43 := yes_eq hm; subst e43
                      refine ⟨rfl, ?_⟩
                      exact WkX.of () (WkS.perm (WkS.cons rfl (Wk.refl _) (WkS.cons rfl (Wk.refl _) (WkS.cons rfl (Wk.refl _) (WkS.nil)))) (List.Perm.refl _) (List.Perm.refl _))
                  · intro s43 hw43; clear hm; have hm := ho43; clear q43 ho43
                    have e40 := yes_eq hm; subst e40
                    refine ⟨rfl, ?_⟩
                    refine WkX.trans hw43 (fun z43 => ?_)
                    exact WkX.of () (WkS.perm (WkS.cons rfl (Wk.refl _) (WkS.cons rfl (Wk.refl _) (WkS.cons rfl (Wk.refl _) (WkS.nil)))) (List.Perm.refl _) (List.Perm.refl _))
                · replace hm := yes_f hc41 hm
                  refine wpD_skip ?_
                  have e40 := yes_eq hm; subst e40
                  refine ⟨rfl, ?_⟩
                  exact WkX.of () (WkS.perm (WkS.cons rfl (Wk.refl _) (WkS.cons rfl (Wk.refl _) (WkS.cons rfl (Wk.refl _) (WkS.nil)))) (List.Perm.refl _) (List.Perm.refl _))
              · intro s40 hw40; clear hm; have hm := ho40; clear q40 ho40
                refine then_normal ?_
                refine wpD_wkX hw40 (fun z40 => ?_)
                refine wpD_seq ?_
                refine wpD_region ?_
                refine p_pure htab rfl rfl rfl rfl ?_
                refine p_pure htab rfl rfl rfl rfl ?_
                obtain ⟨x45, q45, hm⟩ := yes_bind hm
                refine p_call0 (r03_Make_ok y33 y40 x45 q45) rfl rfl rfl rfl rfl (WkL.refl _) ?_
                rintro _ rfl
                refine p_store (ds' := [.v (.bool x45.gSome), .v (.int .i64 x45.gLo), .v (.int .i64 x45.gHi)]) (h' := [(b1, Blk.cells [.v (.bool a0.gSome), .v (.int .i64 a0.gLo), .v (.int .i64 a0.gHi)] 23), (b2, Blk.cells [.v (.bool a1.gSome), .v (.int .i64 a1.gLo), .v (.int .i64 a1.gHi)] 23), (b3, Blk.cells [.v (.bool x45.gSome), .v (.int .i64 x45.gLo), .v (.int .i64 x45.gHi)] 23), (b21, Blk.cells [.v (.int .i64 y26.1), .v (.int .u64 y26.2)] 31)]) 2 htab rfl rfl rfl rfl rfl rfl rfl rfl rfl rfl rfl rfl ?_
                refine ops_nil ?_
                refine then_normal ?_
                refine wpD_ret ?_
                have er46 := yes_eq hm; subst er46
                refine retX.of (s' := ⟨[(4, .ptr b3 0)], [(b3, Blk.cells [.v (.bool x45.gSome), .v (.int .i64 x45.gLo), .v (.int .i64 x45.gHi)] 23)], []⟩) (WkS.perm (WkS.cons rfl (Wk.refl _) (WkS.nil)) ((perm_at (j := 2) rfl).trans (List.Perm.cons _ (List.Perm.refl _))) (List.Perm.refl _)) (retD_mk (hh := []) (.inl rfl) (resL_cons (resOne_cell 0 rfl rfl rfl rfl) (resL_nil)) (List.nil_sublist _) (List.Sublist.refl _) ?_)
                exact ⟨rfl, rfl, rfl⟩
noncomputable def r04_may (a0 : Int) (a1 : TApiSpan) (a2 : TApiSpan) : Option (Bool × Bool) :=
  ((r03_Meet a1 a2).bind fun x3 => (Option.bind (α := Bool) (bif (a1.gLo == a1.gHi) then (bif (a2.gLo == a2.gHi) then some (a1.gLo == a2.gLo) else some false) else some false) fun y7 => ((r03_Has a1 (0 : Int)).bind fun x10 => ((r03_Has a2 (0 : Int)).bind fun x11 => (Option.bind (α := Bool × Bool) (bif (a1.gLo != (0 : Int)) then (bif (a2.gLo != (0 : Int)) then some (true, true) else some (true, (a2.gHi != (0 : Int)))) else (bif (a2.gLo != (0 : Int)) then some ((a1.gHi != (0 : Int)), true) else some ((a1.gHi != (0 : Int)), (a2.gHi != (0 : Int))))) fun y15 => (bif (a0 == (12 : Int)) then some ((decide (a1.gLo < a2.gHi)), (decide (a2.gLo ≤ a1.gHi))) else (bif (a0 == (13 : Int)) then some ((decide (a1.gLo ≤ a2.gHi)), (decide (a2.gLo < a1.gHi))) else (bif (a0 == (14 : Int)) then ((r03_None x3).bind fun x61 => some ((!x61), (!y7))) else (bif (a0 == (15 : Int)) then ((r03_None x3).bind fun x70 => some ((!y7), (!x70))) else (bif (a0 == (16 : Int)) then (Option.bind (α := Bool × Bool) (bif y15.1 then (bif x10 then some (y15.2, true) else some (y15.2, x11)) else (bif x10 then some (false, true) else some (false, x11))) fun y80 => some (y80.1, y80.2)) else (bif y15.1 then (bif x10 then some (true, x11) else some (true, false)) else (bif x10 then some (y15.2, x11) else some (y15.2, false)))))))))))))
set_option maxRecDepth 100000 in
set_option maxHeartbeats 2000000 in
theorem r04_may_ok (a0 : Int) (a1 : TApiSpan) (a2 : TApiSpan) (r : Bool × Bool) (h0 : r04_may a0 a1 a2 = some r) : CallsD Try.prog 37 [.v (.int .i64 a0), eTApiSpan a1, eTApiSpan a2] [] [] (fun d h k => d = .tup [.v (.bool r.1), .v (.bool r.2)] ∧ h = [] ∧ k = []) := by
  have hm := yes_of h0
  unfold r04_may at hm
  clear h0
  refine enterX htab Try.func37 rfl rfl rfl rfl rfl (fun C => ?_)
  refine wpD_seq ?_
  refine wpD_region ?_
  refine p_box rfl rfl rfl rfl rfl rfl rfl (fun b1 => ?_)
  refine p_box rfl rfl rfl rfl rfl rfl rfl (fun b2 => ?_)
  refine p_pure htab rfl rfl rfl rfl ?_
  refine p_pure htab rfl rfl rfl rfl ?_
  refine ops_nil ?_
  refine then_normal ?_
  refine wpD_seq ?_
  refine wpD_region ?_
  refine p_load (d := eTApiSpan a1) 0 htab rfl rfl rfl rfl rfl rfl rfl rfl ?_
  refine p_load (d := eTApiSpan a2) 1 htab rfl rfl rfl rfl rfl rfl rfl rfl ?_
  obtain ⟨x3, q3, hm⟩ := yes_bind hm
  refine p_call0 (r03_Meet_ok a1 a2 x3 q3) rfl rfl rfl rfl rfl (WkL.refl _) ?_
  rintro _ rfl
  refine p_alloc htab rfl rfl rfl rfl rfl rfl rfl (fun b4 => ?_)
  refine p_store (ds' := [.v (.bool x3.gSome), .v (.int .i64 x3.gLo), .v (.int .i64 x3.gHi)]) (h' := [(b1, Blk.cells [.v (.bool a1.gSome), .v (.int .i64 a1.gLo), .v (.int .i64 a1.gHi)] 23), (b2, Blk.cells [.v (.bool a2.gSome), .v (.int .i64 a2.gLo), .v (.int .i64 a2.gHi)] 23), (b4, Blk.cells [.v (.bool x3.gSome), .v (.int .i64 x3.gLo), .v (.int .i64 x3.gHi)] 23)]) 2 htab rfl rfl rfl rfl rfl rfl rfl rfl rfl rfl rfl rfl ?_
  refine ops_nil ?_
  refine then_normal ?_
  refine wpD_seq ?_
  obtain ⟨y7, q7, ho7⟩ := yes_bind hm
  refine wpD_mid (Y := Unit) (fun z7 => (⟨[(0, .v (.int .i64 a0)), (4, .ptr b1 0), (5, .ptr b2 0), (8, .ptr b4 0), (9, .v (.bool y7))], [(b1, Blk.cells [.v (.bool a1.gSome), .v (.int .i64 a1.gLo), .v (.int .i64 a1.gHi)] 23), (b2, Blk.cells [.v (.bool a2.gSome), .v (.int .i64 a2.gLo), .v (.int .i64 a2.gHi)] 23), (b4, Blk.cells [.v (.bool x3.gSome), .v (.int .i64 x3.gLo), .v (.int .i64 x3.gHi)] 23)], []⟩ : S)) ?_ ?_
  · clear hm; have hm := yes_of q7
    refine wpD_region ?_
    refine p_pure htab rfl rfl rfl rfl ?_
    refine p_load 0 htab rfl rfl rfl rfl rfl rfl rfl rfl ?_
    refine p_pure htab rfl rfl rfl rfl ?_
    refine p_load 0 htab rfl rfl rfl rfl rfl rfl rfl rfl ?_
    refine p_pure htab rfl rfl rfl rfl ?_
    refine p_pure htab rfl rfl rfl rfl ?_
    refine p_split (i := 22) rfl (fun hg8 => ?_) (fun hg8 => ?_)
    · replace hm := yes_t hg8 hm
      refine p_pure htab rfl rfl rfl rfl ?_
      refine p_load 1 htab rfl rfl rfl rfl rfl rfl rfl rfl ?_
      refine p_pure htab rfl rfl rfl rfl ?_
      refine p_load 1 htab rfl rfl rfl rfl rfl rfl rfl rfl ?_
      refine p_pure htab rfl rfl rfl rfl ?_
      refine p_pickT rfl rfl rfl rfl rfl rfl ?_
      refine p_pure htab rfl rfl rfl rfl ?_
      refine p_split (i := 29) rfl (fun hg9 => ?_) (fun hg9 => ?_)
      · replace hm := yes_t hg9 hm
        refine p_pure htab rfl rfl rfl rfl ?_
        refine p_load 0 htab rfl rfl rfl rfl rfl rfl rfl rfl ?_
        refine p_pure htab rfl rfl rfl rfl ?_
        refine p_load 1 htab rfl rfl rfl rfl rfl rfl rfl rfl ?_
        refine p_pure htab rfl rfl rfl rfl ?_
        refine p_pickT rfl rfl rfl rfl rfl rfl ?_
        refine p_pure htab rfl rfl rfl rfl ?_
        refine ops_nil ?_
        have e7 := yes_eq hm; subst e7
        refine ⟨rfl, ?_⟩
        exact WkX.of () (WkS.perm (WkS.cons rfl (Wk.refl _) (WkS.cons rfl (Wk.refl _) (WkS.cons rfl (Wk.refl _) (WkS.cons rfl (Wk.refl _) (WkS.cons rfl (Wk.refl _) (WkS.nil)))))) (List.Perm.refl _) (List.Perm.refl _))
      · replace hm := yes_f hg9 hm
        refine p_skip rfl rfl rfl ?_
        refine p_skip rfl rfl rfl ?_
        refine p_skip rfl rfl rfl ?_
        refine p_skip rfl rfl rfl ?_
        refine p_skip rfl rfl rfl ?_
        refine p_pickF rfl rfl rfl rfl rfl rfl ?_
        refine p_pure htab rfl rfl rfl rfl ?_
        refine ops_nil ?_
        have e7 := yes_eq hm; subst e7
        refine ⟨rfl, ?_⟩
        exact WkX.of () (WkS.perm (WkS.cons rfl (Wk.refl _) (WkS.cons rfl (Wk.refl _) (WkS.cons rfl (Wk.refl _) (WkS.cons rfl (Wk.refl _) (WkS.cons rfl (Wk.refl _) (WkS.nil)))))) (List.Perm.refl _) (List.Perm.refl _))
    · replace hm := yes_f hg8 hm
      refine p_skip rfl rfl rfl ?_
      refine p_skip rfl rfl rfl ?_
      refine p_skip rfl rfl rfl ?_
      refine p_skip rfl rfl rfl ?_
      refine p_skip rfl rfl rfl ?_
      refine p_pickF rfl rfl rfl rfl rfl rfl ?_
      refine p_pure htab rfl rfl rfl rfl ?_
      refine p_skip rfl rfl rfl ?_
      refine p_skip rfl rfl rfl ?_
      refine p_skip rfl rfl rfl ?_
      refine p_skip rfl rfl rfl ?_
      refine p_skip rfl rfl rfl ?_
      refine p_pickF rfl rfl rfl rfl rfl rfl ?_
      refine p_pure htab rfl rfl rfl rfl ?_
      refine ops_nil ?_
      have e7 := yes_eq hm; subst e7
      refine ⟨rfl, ?_⟩
      exact WkX.of () (WkS.perm (WkS.cons rfl (Wk.refl _) (WkS.cons rfl (Wk.refl _) (WkS.cons rfl (Wk.refl _) (WkS.cons rfl (Wk.refl _) (WkS.cons rfl (Wk.refl _) (WkS.nil)))))) (List.Perm.refl _) (List.Perm.refl _))
  · intro s7 hw7; clear hm; have hm := ho7; clear q7 ho7
    refine then_normal ?_
    refine wpD_wkX hw7 (fun z7 => ?_)
    refine wpD_seq ?_
    obtain ⟨x10, q10, hm⟩ := yes_bind hm
    refine wpD_draws 3 [] [[],[0],[]] [0,1,2] [[],[0],[],[0,1,2],[0,1,2,3],[0,1,2,3,4]] (by kernel_rfl) (by kernel_rfl) (by kernel_rfl) (by rfl) (by rfl) (by kernel_rfl) ?_
    apply Exists.intro
    apply Exists.intro
    apply Exists.intro
    intro bs
    refine z_eM rfl rfl (xm_load (d := eTApiSpan a1) 0 htab rfl rfl rfl rfl rfl) rfl rfl rfl rfl rfl rfl ?_
    refine z_call rfl rfl (r03_Has_ok a1 (0 : Int) x10 q10) rfl rfl (WkL.refl _) rfl rfl rfl rfl rfl rfl ?_
    refine z_eM rfl rfl (xm_load (d := eTApiSpan a2) 1 htab rfl rfl rfl rfl rfl) rfl rfl rfl rfl rfl rfl ?_
    refine z_nil rfl rfl (fun e he => by simp [isAl] at he) ?_
    obtain ⟨x11, q11, hm⟩ := yes_bind hm
    refine p_call0 (r03_Has_ok a2 (0 : Int) x11 q11) rfl rfl rfl rfl rfl (WkL.refl _) ?_
    rintro _ rfl
    refine p_pure htab rfl rfl rfl rfl ?_
    refine p_pure htab rfl rfl rfl rfl ?_
    refine ops_nil ?_
    refine then_normal ?_
    refine wpD_seq ?_
    obtain ⟨y15, q15, ho15⟩ := yes_bind hm
    refine wpD_mid (Y := Unit) (fun z15 => (⟨[(0, .v (.int .i64 a0)), (4, .ptr b1 0), (5, .ptr b2 0), (8, .ptr b4 0), (9, .v (.bool y7)), (10, .v (.bool x10)), (11, .v (.bool x11)), (12, .v (.bool y15.1)), (13, .v (.bool y15.2))], [(b1, Blk.cells [.v (.bool a1.gSome), .v (.int .i64 a1.gLo), .v (.int .i64 a1.gHi)] 23), (b2, Blk.cells [.v (.bool a2.gSome), .v (.int .i64 a2.gLo), .v (.int .i64 a2.gHi)] 23), (b4, Blk.cells [.v (.bool x3.gSome), .v (.int .i64 x3.gLo), .v (.int .i64 x3.gHi)] 23)], []⟩ : S)) ?_ ?_
    · clear hm; have hm := yes_of q15
      refine bycB (a1.gLo != (0 : Int)) (fun hs16 => ?_) (fun hs16 => ?_)
      · replace hm := yes_t hs16 hm
        refine bycB (a2.gLo != (0 : Int)) (fun hs17 => ?_) (fun hs17 => ?_)
        · replace hm := yes_t hs17 hm
          refine wpD_draws 17 [] [[],[0],[0],[0],[0],[0],[0],[0],[],[8],[8],[0,8],[0,8],[0,8],[0,8],[0,8],[0,8]] [0,8] [[],[0],[0,1],[0,1,2],[0,1,2,3],[0,1,2,3,4],[0,1,2,3,4,5],[0,1,2,3,4,5,6],[],[8],[8,9],[0,1,2,3,8,9,10],[0,1,2,3,8,9,10,11],[0,1,2,3,8,9,10,11,12],[0,1,2,3,8,9,10,11,12,13],[0,1,2,3,8,9,10,11,12,13,14],[0,1,2,3,4,5,6,7,8,9,10,11],[0,1,2,3,4,5,6,7,8,9,10,11,12,13,14,15,16]] (by kernel_rfl) (by kernel_rfl) (by kernel_rfl) (by rfl) (by rfl) (by kernel_rfl) ?_
          apply Exists.intro
          apply Exists.intro
          intro bs
          refine z_e rfl rfl (ex_pure htab rfl) rfl rfl rfl rfl rfl rfl ?_
          refine z_qM rfl rfl (xm_load 0 htab rfl rfl rfl rfl rfl) rfl rfl rfl rfl rfl rfl ?_
          refine z_q rfl rfl (ex_pure htab rfl) rfl rfl rfl rfl rfl rfl ?_
          refine z_q rfl rfl (ex_pure htab rfl) rfl rfl rfl rfl rfl rfl ?_
          refine z_known (j := 43) (b' := true) rfl hs16 ?_
          refine z_skip rfl rfl rfl rfl ?_
          refine z_skip rfl rfl rfl rfl ?_
          refine z_skip rfl rfl rfl rfl ?_
          refine z_q rfl rfl (x_pickT rfl rfl rfl) rfl rfl rfl rfl rfl rfl ?_
          refine z_e rfl rfl (ex_pure htab rfl) rfl rfl rfl rfl rfl rfl ?_
          refine z_qM rfl rfl (xm_load 1 htab rfl rfl rfl rfl rfl) rfl rfl rfl rfl rfl rfl ?_
          refine z_q rfl rfl (ex_pure htab rfl) rfl rfl rfl rfl rfl rfl ?_
          refine z_q rfl rfl (ex_pure htab rfl) rfl rfl rfl rfl rfl rfl ?_
          refine z_known (j := 51) (b' := true) rfl hs17 ?_
          refine z_skip rfl rfl rfl rfl ?_
          refine z_skip rfl rfl rfl rfl ?_
          refine z_skip rfl rfl rfl rfl ?_
          refine z_q rfl rfl (x_pickT rfl rfl rfl) rfl rfl rfl rfl rfl rfl ?_
          refine z_q rfl rfl (ex_pure htab rfl) rfl rfl rfl rfl rfl rfl ?_
          refine z_nil rfl rfl (fun e he => by simp [isAl] at he) ?_
          refine p_pure htab rfl rfl rfl rfl ?_
          refine ops_nil ?_
          have e15 := yes_eq hm; subst e15
          refine ⟨rfl, ?_⟩
          exact WkX.of () (WkS.perm (WkS.cons rfl (Wk.refl _) (WkS.cons rfl (Wk.refl _) (WkS.cons rfl (Wk.refl _) (WkS.cons rfl (Wk.refl _) (WkS.cons rfl (Wk.refl _) (WkS.cons rfl (Wk.refl _) (WkS.cons rfl (Wk.refl _) (WkS.cons rfl (Wk.refl _) (WkS.cons rfl (Wk.refl _) (WkS.nil)))))))))) (List.Perm.refl _) (List.Perm.refl _))
        · replace hm := yes_f hs17 hm
          refine wpD_draws 17 [] [[],[0],[0],[0],[0],[0],[0],[0],[],[8],[8],[0,8],[0,8],[0,8,12],[0,8,12],[0,8,12],[0,8]] [0,8,12] [[],[0],[0,1],[0,1,2],[0,1,2,3],[0,1,2,3,4],[0,1,2,3,4,5],[0,1,2,3,4,5,6],[],[8],[8,9],[0,1,2,3,8,9,10],[0,1,2,3,8,9,10,11],[0,1,2,3,8,9,10,11,12],[0,1,2,3,8,9,10,11,12,13],[0,1,2,3,8,9,10,11,12,13,14],[0,1,2,3,4,5,6,7,8,9,10,11],[0,1,2,3,4,5,6,7,8,9,10,11,12,13,14,15,16]] (by kernel_rfl) (by kernel_rfl) (by kernel_rfl) (by rfl) (by rfl) (by kernel_rfl) ?_
          apply Exists.intro
          apply Exists.intro
          apply Exists.intro
          intro bs
          refine z_e rfl rfl (ex_pure htab rfl) rfl rfl rfl rfl rfl rfl ?_
          refine z_qM rfl rfl (xm_load 0 htab rfl rfl rfl rfl rfl) rfl rfl rfl rfl rfl rfl ?_
          refine z_q rfl rfl (ex_pure htab rfl) rfl rfl rfl rfl rfl rfl ?_
          refine z_q rfl rfl (ex_pure htab rfl) rfl rfl rfl rfl rfl rfl ?_
          refine z_known (j := 43) (b' := true) rfl hs16 ?_
          refine z_skip rfl rfl rfl rfl ?_
          refine z_skip rfl rfl rfl rfl ?_
          refine z_skip rfl rfl rfl rfl ?_
          refine z_q rfl rfl (x_pickT rfl rfl rfl) rfl rfl rfl rfl rfl rfl ?_
          refine z_e rfl rfl (ex_pure htab rfl) rfl rfl rfl rfl rfl rfl ?_
          refine z_qM rfl rfl (xm_load 1 htab rfl rfl rfl rfl rfl) rfl rfl rfl rfl rfl rfl ?_
          refine z_q rfl rfl (ex_pure htab rfl) rfl rfl rfl rfl rfl rfl ?_
          refine z_q rfl rfl (ex_pure htab rfl) rfl rfl rfl rfl rfl rfl ?_
          refine z_known (j := 51) (b' := false) rfl hs17 ?_
          refine z_e rfl rfl (ex_pure htab rfl) rfl rfl rfl rfl rfl rfl ?_
          refine z_qM rfl rfl (xm_load 1 htab rfl rfl rfl rfl rfl) rfl rfl rfl rfl rfl rfl ?_
          refine z_q rfl rfl (ex_pure htab rfl) rfl rfl rfl rfl rfl rfl ?_
          refine z_q rfl rfl (x_pickF rfl rfl rfl) rfl rfl rfl rfl rfl rfl ?_
          refine z_q rfl rfl (ex_pure htab rfl) rfl rfl rfl rfl rfl rfl ?_
          refine z_nil rfl rfl (fun e he => by simp [isAl] at he) ?_
          refine p_pure htab rfl rfl rfl rfl ?_
          refine ops_nil ?_
          have e15 := yes_eq hm; subst e15
          refine ⟨rfl, ?_⟩
          exact WkX.of () (WkS.perm (WkS.cons rfl (Wk.refl _) (WkS.cons rfl (Wk.refl _) (WkS.cons rfl (Wk.refl _) (WkS.cons rfl (Wk.refl _) (WkS.cons rfl (Wk.refl _) (WkS.cons rfl (Wk.refl _) (WkS.cons rfl (Wk.refl _) (WkS.cons rfl (Wk.refl _) (WkS.cons rfl (Wk.refl _) (WkS.nil)))))))))) (List.Perm.refl _) (List.Perm.refl _))
      · replace hm := yes_f hs16 hm
        refine bycB (a2.gLo != (0 : Int)) (fun hs18 => ?_) (fun hs18 => ?_)
        · replace hm := yes_t hs18 hm
          refine wpD_draws 17 [] [[],[0],[0],[0],[0],[0,4],[0,4],[0,4],[],[8],[8],[0,8],[0,8],[0,8],[0,8],[0,8],[0,4,8]] [0,4,8] [[],[0],[0,1],[0,1,2],[0,1,2,3],[0,1,2,3,4],[0,1,2,3,4,5],[0,1,2,3,4,5,6],[],[8],[8,9],[0,1,2,3,8,9,10],[0,1,2,3,8,9,10,11],[0,1,2,3,8,9,10,11,12],[0,1,2,3,8,9,10,11,12,13],[0,1,2,3,8,9,10,11,12,13,14],[0,1,2,3,4,5,6,7,8,9,10,11],[0,1,2,3,4,5,6,7,8,9,10,11,12,13,14,15,16]] (by kernel_rfl) (by kernel_rfl) (by kernel_rfl) (by rfl) (by rfl) (by kernel_rfl) ?_
          apply Exists.intro
          apply Exists.intro
          apply Exists.intro
          intro bs
          refine z_e rfl rfl (ex_pure htab rfl) rfl rfl rfl rfl rfl rfl ?_
          refine z_qM rfl rfl (xm_load 0 htab rfl rfl rfl rfl rfl) rfl rfl rfl rfl rfl rfl ?_
          refine z_q rfl rfl (ex_pure htab rfl) rfl rfl rfl rfl rfl rfl ?_
          refine z_q rfl rfl (ex_pure htab rfl) rfl rfl rfl rfl rfl rfl ?_
          refine z_known (j := 43) (b' := false) rfl hs16 ?_
          refine z_e rfl rfl (ex_pure htab rfl) rfl rfl rfl rfl rfl rfl ?_
          refine z_qM rfl rfl (xm_load 0 htab rfl rfl rfl rfl rfl) rfl rfl rfl rfl rfl rfl ?_
          refine z_q rfl rfl (ex_pure htab rfl) rfl rfl rfl rfl rfl rfl ?_
          refine z_q rfl rfl (x_pickF rfl rfl rfl) rfl rfl rfl rfl rfl rfl ?_
          refine z_e rfl rfl (ex_pure htab rfl) rfl rfl rfl rfl rfl rfl ?_
          refine z_qM rfl rfl (xm_load 1 htab rfl rfl rfl rfl rfl) rfl rfl rfl rfl rfl rfl ?_
          refine z_q rfl rfl (ex_pure htab rfl) rfl rfl rfl rfl rfl rfl ?_
          refine z_q rfl rfl (ex_pure htab rfl) rfl rfl rfl rfl rfl rfl ?_
          refine z_known (j := 51) (b' := true) rfl hs18 ?_
          refine z_skip rfl rfl rfl rfl ?_
          refine z_skip rfl rfl rfl rfl ?_
          refine z_skip rfl rfl rfl rfl ?_
          refine z_q rfl rfl (x_pickT rfl rfl rfl) rfl rfl rfl rfl rfl rfl ?_
          refine z_q rfl rfl (ex_pure htab rfl) rfl rfl rfl rfl rfl rfl ?_
          refine z_nil rfl rfl (fun e he => by simp [isAl] at he) ?_
          refine p_pure htab rfl rfl rfl rfl ?_
          refine ops_nil ?_
          have e15 := yes_eq hm; subst e15
          refine ⟨rfl, ?_⟩
          exact WkX.of () (WkS.perm (WkS.cons rfl (Wk.refl _) (WkS.cons rfl (Wk.refl _) (WkS.cons rfl (Wk.refl _) (WkS.cons rfl (Wk.refl _) (WkS.cons rfl (Wk.refl _) (WkS.cons rfl (Wk.refl _) (WkS.cons rfl (Wk.refl _) (WkS.cons rfl (Wk.refl _) (WkS.cons rfl (Wk.refl _) (WkS.nil)))))))))) (List.Perm.refl _) (List.Perm.refl _))
        · replace hm := yes_f hs18 hm
          refine wpD_draws 17 [] [[],[0],[0],[0],[0],[0,4],[0,4],[0,4],[],[8],[8],[0,8],[0,8],[0,8,12],[0,8,12],[0,8,12],[0,4,8]] [0,4,8,12] [[],[0],[0,1],[0,1,2],[0,1,2,3],[0,1,2,3,4],[0,1,2,3,4,5],[0,1,2,3,4,5,6],[],[8],[8,9],[0,1,2,3,8,9,10],[0,1,2,3,8,9,10,11],[0,1,2,3,8,9,10,11,12],[0,1,2,3,8,9,10,11,12,13],[0,1,2,3,8,9,10,11,12,13,14],[0,1,2,3,4,5,6,7,8,9,10,11],[0,1,2,3,4,5,6,7,8,9,10,11,12,13,14,15,16]] (by kernel_rfl) (by kernel_rfl) (by kernel_rfl) (by rfl) (by rfl) (by kernel_rfl) ?_
          apply Exists.intro
          apply Exists.intro
          apply Exists.intro
          apply Exists.intro
          intro bs
          refine z_e rfl rfl (ex_pure htab rfl) rfl rfl rfl rfl rfl rfl ?_
          refine z_qM rfl rfl (xm_load 0 htab rfl rfl rfl rfl rfl) rfl rfl rfl rfl rfl rfl ?_
          refine z_q rfl rfl (ex_pure htab rfl) rfl rfl rfl rfl rfl rfl ?_
          refine z_q rfl rfl (ex_pure htab rfl) rfl rfl rfl rfl rfl rfl ?_
          refine z_known (j := 43) (b' := false) rfl hs16 ?_
          refine z_e rfl rfl (ex_pure htab rfl) rfl rfl rfl rfl rfl rfl ?_
          refine z_qM rfl rfl (xm_load 0 htab rfl rfl rfl rfl rfl) rfl rfl rfl rfl rfl rfl ?_
          refine z_q rfl rfl (ex_pure htab rfl) rfl rfl rfl rfl rfl rfl ?_
          refine z_q rfl rfl (x_pickF rfl rfl rfl) rfl rfl rfl rfl rfl rfl ?_
          refine z_e rfl rfl (ex_pure htab rfl) rfl rfl rfl rfl rfl rfl ?_
          refine z_qM rfl rfl (xm_load 1 htab rfl rfl rfl rfl rfl) rfl rfl rfl rfl rfl rfl ?_
          refine z_q rfl rfl (ex_pure htab rfl) rfl rfl rfl rfl rfl rfl ?_
          refine z_q rfl rfl (ex_pure htab rfl) rfl rfl rfl rfl rfl rfl ?_
          refine z_known (j := 51) (b' := false) rfl hs18 ?_
          refine z_e rfl rfl (ex_pure htab rfl) rfl rfl rfl rfl rfl rfl ?_
          refine z_qM rfl rfl (xm_load 1 htab rfl rfl rfl rfl rfl) rfl rfl rfl rfl rfl rfl ?_
          refine z_q rfl rfl (ex_pure htab rfl) rfl rfl rfl rfl rfl rfl ?_
          refine z_q rfl rfl (x_pickF rfl rfl rfl) rfl rfl rfl rfl rfl rfl ?_
          refine z_q rfl rfl (ex_pure htab rfl) rfl rfl rfl rfl rfl rfl ?_
          refine z_nil rfl rfl (fun e he => by simp [isAl] at he) ?_
          refine p_pure htab rfl rfl rfl rfl ?_
          refine ops_nil ?_
          have e15 := yes_eq hm; subst e15
          refine ⟨rfl, ?_⟩
          exact WkX.of () (WkS.perm (WkS.cons rfl (Wk.refl _) (WkS.cons rfl (Wk.refl _) (WkS.cons rfl (Wk.refl _) (WkS.cons rfl (Wk.refl _) (WkS.cons rfl (Wk.refl _) (WkS.cons rfl (Wk.refl _) (WkS.cons rfl (Wk.refl _) (WkS.cons rfl (Wk.refl _) (WkS.cons rfl (Wk.refl _) (WkS.nil)))))))))) (List.Perm.refl _) (List.Perm.refl _))
    · intro s15 hw15; clear hm; have hm := ho15; clear q15 ho15
      refine then_normal ?_
      refine wpD_wkX hw15 (fun z15 => ?_)
      refine wpD_seq ?_
      refine wpD_seq ?_
      refine wpD_region ?_
      refine p_pure htab rfl rfl rfl rfl ?_
      refine ops_nil ?_
      refine then_normal ?_
      refine wpD_block ?_
      refine wpD_seq ?_
      refine wpD_region ?_
      refine p_pure htab rfl rfl rfl rfl ?_
      refine p_pure htab rfl rfl rfl rfl ?_
      refine ops_nil ?_
      refine then_normal ?_
      refine wpD_cond rfl (fun hc39 => ?_) (fun hc39 => ?_)
      · replace hm := yes_t hc39 hm
        refine wpD_seq ?_
        refine wpD_draws 11 [] [[],[0],[],[2],[0,2],[],[5],[],[7],[5,7],[0,2]] [0,2,5,7] [[],[0],[],[2],[0,1,2,3],[],[5],[],[7],[5,6,7,8],[0,1,2,3,4],[0,1,2,3,4,5,6,7,8,9,10]] (by kernel_rfl) (by kernel_rfl) (by kernel_rfl) (by rfl) (by rfl) (by kernel_rfl) ?_
        apply Exists.intro
        apply Exists.intro
        apply Exists.intro
        apply Exists.intro
        intro bs
        refine z_e rfl rfl (ex_pure htab rfl) rfl rfl rfl rfl rfl rfl ?_
        refine z_qM rfl rfl (xm_load 0 htab rfl rfl rfl rfl rfl) rfl rfl rfl rfl rfl rfl ?_
        refine z_e rfl rfl (ex_pure htab rfl) rfl rfl rfl rfl rfl rfl ?_
        refine z_qM rfl rfl (xm_load 1 htab rfl rfl rfl rfl rfl) rfl rfl rfl rfl rfl rfl ?_
        refine z_q rfl rfl (ex_pure htab rfl) rfl rfl rfl rfl rfl rfl ?_
        refine z_e rfl rfl (ex_pure htab rfl) rfl rfl rfl rfl rfl rfl ?_
        refine z_qM rfl rfl (xm_load 0 htab rfl rfl rfl rfl rfl) rfl rfl rfl rfl rfl rfl ?_
        refine z_e rfl rfl (ex_pure htab rfl) rfl rfl rfl rfl rfl rfl ?_
        refine z_qM rfl rfl (xm_load 1 htab rfl rfl rfl rfl rfl) rfl rfl rfl rfl rfl rfl ?_
        refine z_q rfl rfl (ex_pure htab rfl) rfl rfl rfl rfl rfl rfl ?_
        refine z_q rfl rfl (ex_pure htab rfl) rfl rfl rfl rfl rfl rfl ?_
        refine z_nil rfl rfl (fun e he => by simp [isAl] at he) ?_
        refine p_pure htab rfl rfl rfl rfl ?_
        refine ops_nil ?_
        refine then_normal ?_
        refine wpD_ret ?_
        refine block_ret ?_
        refine then_ret ?_
        have er40 := yes_eq hm; subst er40
        refine retX.of (s' := ⟨[(6, .v (.bool (decide (a1.gLo < a2.gHi)))), (7, .v (.bool (decide (a2.gLo ≤ a1.gHi))))], [], []⟩) (WkS.perm (WkS.cons rfl (Wk.refl _) (WkS.cons rfl (Wk.refl _) (WkS.nil))) (List.Perm.refl _) (List.Perm.refl _)) (retD_mk (hh := []) (.inl rfl) (resL_cons (resOne_tmp rfl) (resL_cons (resOne_tmp rfl) (resL_nil))) (List.nil_sublist _) (List.Sublist.refl _) ?_)
        exact ⟨rfl, rfl, rfl⟩
      · replace hm := yes_f hc39 hm
        refine wpD_seq ?_
        refine wpD_region ?_
        refine p_pure htab rfl rfl rfl rfl ?_
        refine p_pure htab rfl rfl rfl rfl ?_
        refine ops_nil ?_
        refine then_normal ?_
        refine wpD_cond rfl (fun hc50 => ?_) (fun hc50 => ?_)
        · replace hm := yes_t hc50 hm
          refine wpD_seq ?_
          refine wpD_draws 11 [] [[],[0],[],[2],[0,2],[],[5],[],[7],[5,7],[0,2]] [0,2,5,7] [[],[0],[],[2],[0,1,2,3],[],[5],[],[7],[5,6,7,8],[0,1,2,3,4],[0,1,2,3,4,5,6,7,8,9,10]] (by kernel_rfl) (by kernel_rfl) (by kernel_rfl) (by rfl) (by rfl) (by kernel_rfl) ?_
          apply Exists.intro
          apply Exists.intro
          apply Exists.intro
          apply Exists.intro
          intro bs
          refine z_e rfl rfl (ex_pure htab rfl) rfl rfl rfl rfl rfl rfl ?_
          refine z_qM rfl rfl (xm_load 0 htab rfl rfl rfl rfl rfl) rfl rfl rfl rfl rfl rfl ?_
          refine z_e rfl rfl (ex_pure htab rfl) rfl rfl rfl rfl rfl rfl ?_
          refine z_qM rfl rfl (xm_load 1 htab rfl rfl rfl rfl rfl) rfl rfl rfl rfl rfl rfl ?_
          refine z_q rfl rfl (ex_pure htab rfl) rfl rfl rfl rfl rfl rfl ?_
          refine z_e rfl rfl (ex_pure htab rfl) rfl rfl rfl rfl rfl rfl ?_
          refine z_qM rfl rfl (xm_load 0 htab rfl rfl rfl rfl rfl) rfl rfl rfl rfl rfl rfl ?_
          refine z_e rfl rfl (ex_pure htab rfl) rfl rfl rfl rfl rfl rfl ?_
          refine z_qM rfl rfl (xm_load 1 htab rfl rfl rfl rfl rfl) rfl rfl rfl rfl rfl rfl ?_
          refine z_q rfl rfl (ex_pure htab rfl) rfl rfl rfl rfl rfl rfl ?_
          refine z_q rfl rfl (ex_pure htab rfl) rfl rfl rfl rfl rfl rfl ?_
          refine z_nil rfl rfl (fun e he => by simp [isAl] at he) ?_
          refine p_pure htab rfl rfl rfl rfl ?_
          refine ops_nil ?_
          refine then_normal ?_
          refine wpD_ret ?_
          refine block_ret ?_
          refine then_ret ?_
          have er51 := yes_eq hm; subst er51
          refine retX.of (s' := ⟨[(6, .v (.bool (decide (a1.gLo ≤ a2.gHi)))), (7, .v (.bool (decide (a2.gLo < a1.gHi))))], [], []⟩) (WkS.perm (WkS.cons rfl (Wk.refl _) (WkS.cons rfl (Wk.refl _) (WkS.nil))) (List.Perm.refl _) (List.Perm.refl _)) (retD_mk (hh := []) (.inl rfl) (resL_cons (resOne_tmp rfl) (resL_cons (resOne_tmp rfl) (resL_nil))) (List.nil_sublist _) (List.Sublist.refl _) ?_)
          exact ⟨rfl, rfl, rfl⟩
        · replace hm := yes_f hc50 hm
          refine wpD_seq ?_
          refine wpD_region ?_
          refine p_pure htab rfl rfl rfl rfl ?_
          refine p_pure htab rfl rfl rfl rfl ?_
          refine ops_nil ?_
          refine then_normal ?_
          refine wpD_cond rfl (fun hc60 => ?_) (fun hc60 => ?_)
          · replace hm := yes_t hc60 hm
            refine wpD_seq ?_
            refine wpD_region ?_
            refine p_load (d := eTApiSpan x3) 2 htab rfl rfl rfl rfl rfl rfl rfl rfl ?_
            obtain ⟨x61, q61, hm⟩ := yes_bind hm
            refine p_call0 (r03_None_ok x3 x61 q61) rfl rfl rfl rfl rfl (WkL.refl _) ?_
            rintro _ rfl
            refine p_pure htab rfl rfl rfl rfl ?_
            refine p_pure htab rfl rfl rfl rfl ?_
            refine p_pure htab rfl rfl rfl rfl ?_
            refine p_pure htab rfl rfl rfl rfl ?_
            refine p_pure htab rfl rfl rfl rfl ?_
            refine ops_nil ?_
            refine then_normal ?_
            refine wpD_ret ?_
            refine block_ret ?_
            refine then_ret ?_
            have er62 := yes_eq hm; subst er62
            refine retX.of (s' := ⟨[(6, .v (.bool (!x61))), (7, .v (.bool (!y7)))], [], []⟩) (WkS.perm (WkS.cons rfl (Wk.refl _) (WkS.cons rfl (Wk.refl _) (WkS.nil))) (List.Perm.refl _) (List.Perm.refl _)) (retD_mk (hh := []) (.inl rfl) (resL_cons (resOne_tmp rfl) (resL_cons (resOne_tmp rfl) (resL_nil))) (List.nil_sublist _) (List.Sublist.refl _) ?_)
            exact ⟨rfl, rfl, rfl⟩
          · replace hm := yes_f hc60 hm
            refine wpD_seq ?_
            refine wpD_region ?_
            refine p_pure htab rfl rfl rfl rfl ?_
            refine p_pure htab rfl rfl rfl rfl ?_
            refine ops_nil ?_
            refine then_normal ?_
            refine wpD_cond rfl (fun hc69 => ?_) (fun hc69 => ?_)
            · replace hm := yes_t hc69 hm
              refine wpD_seq ?_
              refine wpD_region ?_
              refine p_pure htab rfl rfl rfl rfl ?_
              refine p_pure htab rfl rfl rfl rfl ?_
              refine p_load (d := eTApiSpan x3) 2 htab rfl rfl rfl rfl rfl rfl rfl rfl ?_
              obtain ⟨x70, q70, hm⟩ := yes_bind hm
              refine p_call0 (r03_None_ok x3 x70 q70) rfl rfl rfl rfl rfl (WkL.refl _) ?_
              rintro _ rfl
              refine p_pure htab rfl rfl rfl rfl ?_
              refine p_pure htab rfl rfl rfl rfl ?_
              refine p_pure htab rfl rfl rfl rfl ?_
              refine ops_nil ?_
              refine then_normal ?_
              refine wpD_ret ?_
              refine block_ret ?_
              refine then_ret ?_
              have er71 := yes_eq hm; subst er71
              refine retX.of (s' := ⟨[(6, .v (.bool (!y7))), (7, .v (.bool (!x70)))], [], []⟩) (WkS.perm (WkS.cons rfl (Wk.refl _) (WkS.cons rfl (Wk.refl _) (WkS.nil))) (List.Perm.refl _) (List.Perm.refl _)) (retD_mk (hh := []) (.inl rfl) (resL_cons (resOne_tmp rfl) (resL_cons (resOne_tmp rfl) (resL_nil))) (List.nil_sublist _) (List.Sublist.refl _) ?_)
              exact ⟨rfl, rfl, rfl⟩
            · replace hm := yes_f hc69 hm
              refine wpD_seq ?_
              refine wpD_region ?_
              refine p_pure htab rfl rfl rfl rfl ?_
              refine p_pure htab rfl rfl rfl rfl ?_
              refine ops_nil ?_
              refine then_normal ?_
              refine wpD_cond rfl (fun hc76 => ?_) (fun hc76 => ?_)
              · replace hm := yes_t hc76 hm
                refine wpD_seq ?_
                obtain ⟨y80, q80, ho80⟩ := yes_bind hm
                refine wpD_mid (Y := Unit) (fun z80 => (⟨[(6, .v (.bool y80.1)), (7, .v (.bool y80.2))], [(b1, Blk.cells [.v (.bool a1.gSome), .v (.int .i64 a1.gLo), .v (.int .i64 a1.gHi)] 23), (b2, Blk.cells [.v (.bool a2.gSome), .v (.int .i64 a2.gLo), .v (.int .i64 a2.gHi)] 23), (b4, Blk.cells [.v (.bool x3.gSome), .v (.int .i64 x3.gLo), .v (.int .i64 x3.gHi)] 23)], []⟩ : S)) ?_ ?_
                · clear hm; have hm := yes_of q80
                  refine wpD_region ?_
                  refine p_pure htab rfl rfl rfl rfl ?_
                  refine p_pure htab rfl rfl rfl rfl ?_
                  refine p_split (i := 98) rfl (fun hg81 => ?_) (fun hg81 => ?_)
                  · replace hm := yes_t hg81 hm
                    refine p_pure htab rfl rfl rfl rfl ?_
                    refine p_pickT rfl rfl rfl rfl rfl rfl ?_
                    refine p_pure htab rfl rfl rfl rfl ?_
                    refine p_pure htab rfl rfl rfl rfl ?_
                    refine p_split (i := 102) rfl (fun hg82 => ?_) (fun hg82 => ?_)
                    · replace hm := yes_t hg82 hm
                      refine p_skip rfl rfl rfl ?_
                      refine p_pickT rfl rfl rfl rfl rfl rfl ?_
                      refine p_pure htab rfl rfl rfl rfl ?_
                      refine p_pure htab rfl rfl rfl rfl ?_
                      refine ops_nil ?_
                      have e80 := yes_eq hm; subst e80
                      refine ⟨rfl, ?_⟩
                      exact WkX.of () (WkS.perm (WkS.cons rfl (Wk.refl _) (WkS.cons rfl (Wk.refl _) (WkS.nil))) (List.Perm.refl _) (List.Perm.refl _))
                    · replace hm := yes_f hg82 hm
                      refine p_pure htab rfl rfl rfl rfl ?_
                      refine p_pickF rfl rfl rfl rfl rfl rfl ?_
                      refine p_pure htab rfl rfl rfl rfl ?_
                      refine p_pure htab rfl rfl rfl rfl ?_
                      refine ops_nil ?_
                      have e80 := yes_eq hm; subst e80
                      refine ⟨rfl, ?_⟩
                      exact WkX.of () (WkS.perm (WkS.cons rfl (Wk.refl _) (WkS.cons rfl (Wk.refl _) (WkS.nil))) (List.Perm.refl _) (List.Perm.refl _))
                  · replace hm := yes_f hg81 hm
                    refine p_skip rfl rfl rfl ?_
                    refine p_pickF rfl rfl rfl rfl rfl rfl ?_
                    refine p_pure htab rfl rfl rfl rfl ?_
                    refine p_pure htab rfl rfl rfl rfl ?_
                    refine p_split (i := 102) rfl (fun hg83 => ?_) (fun hg83 => ?_)
                    · replace hm := yes_t hg83 hm
                      refine p_skip rfl rfl rfl ?_
                      refine p_pickT rfl rfl rfl rfl rfl rfl ?_
                      refine p_pure htab rfl rfl rfl rfl ?_
                      refine p_pure htab rfl rfl rfl rfl ?_
                      refine ops_nil ?_
                      have e80 := yes_eq hm; subst e80
                      refine ⟨rfl, ?_⟩
                      exact WkX.of () (WkS.perm (WkS.cons rfl (Wk.refl _) (WkS.cons rfl (Wk.refl _) (WkS.nil))) (List.Perm.refl _) (List.Perm.refl _))
                    · replace hm := yes_f hg83 hm
                      refine p_pure htab rfl rfl rfl rfl ?_
                      refine p_pickF rfl rfl rfl rfl rfl rfl ?_
                      refine p_pure htab rfl rfl rfl rfl ?_
                      refine p_pure htab rfl rfl rfl rfl ?_
                      refine ops_nil ?_
                      have e80 := yes_eq hm; subst e80
                      refine ⟨rfl, ?_⟩
                      exact WkX.of () (WkS.perm (WkS.cons rfl (Wk.refl _) (WkS.cons rfl (Wk.refl _) (WkS.nil))) (List.Perm.refl _) (List.Perm.refl _))
                · intro s80 hw80; clear hm; have hm := ho80; clear q80 ho80
                  refine then_normal ?_
                  refine wpD_wkX hw80 (fun z80 => ?_)
                  refine wpD_ret ?_
                  refine block_ret ?_
                  refine then_ret ?_
                  have er84 := yes_eq hm; subst er84
                  refine retX.of (s' := ⟨[(6, .v (.bool y80.1)), (7, .v (.bool y80.2))], [], []⟩) (WkS.perm (WkS.cons rfl (Wk.refl _) (WkS.cons rfl (Wk.refl _) (WkS.nil))) (List.Perm.refl _) (List.Perm.refl _)) (retD_mk (hh := []) (.inl rfl) (resL_cons (resOne_tmp rfl) (resL_cons (resOne_tmp rfl) (resL_nil))) (List.nil_sublist _) (List.Sublist.refl _) ?_)
                  exact ⟨rfl, rfl, rfl⟩
              · replace hm := yes_f hc76 hm
                refine wpD_skip ?_
                refine block_normal ?_
                refine then_normal ?_
                refine wpD_seq ?_
                refine wpD_region ?_
                refine p_pure htab rfl rfl rfl rfl ?_
                refine p_pure htab rfl rfl rfl rfl ?_
                refine p_split (i := 106) rfl (fun hg85 => ?_) (fun hg85 => ?_)
                · replace hm := yes_t hg85 hm
                  refine p_skip rfl rfl rfl ?_
                  refine p_pickT rfl rfl rfl rfl rfl rfl ?_
                  refine p_pure htab rfl rfl rfl rfl ?_
                  refine p_pure htab rfl rfl rfl rfl ?_
                  refine p_split (i := 110) rfl (fun hg86 => ?_) (fun hg86 => ?_)
                  · replace hm := yes_t hg86 hm
                    refine p_pure htab rfl rfl rfl rfl ?_
                    refine p_pickT rfl rfl rfl rfl rfl rfl ?_
                    refine p_pure htab rfl rfl rfl rfl ?_
                    refine p_pure htab rfl rfl rfl rfl ?_
                    refine ops_nil ?_
                    refine then_normal ?_
                    refine wpD_ret ?_
                    have er87 := yes_eq hm; subst er87
                    refine retX.of (s' := ⟨[(6, .v (.bool true)), (7, .v (.bool x11))], [], []⟩) (WkS.perm (WkS.cons rfl (Wk.refl _) (WkS.cons rfl (Wk.refl _) (WkS.nil))) (List.Perm.refl _) (List.Perm.refl _)) (retD_mk (hh := []) (.inl rfl) (resL_cons (resOne_tmp rfl) (resL_cons (resOne_tmp rfl) (resL_nil))) (List.nil_sublist _) (List.Sublist.refl _) ?_)
                    exact ⟨rfl, rfl, rfl⟩
                  · replace hm := yes_f hg86 hm
                    refine p_skip rfl rfl rfl ?_
                    refine p_pickF rfl rfl rfl rfl rfl rfl ?_
                    refine p_pure htab rfl rfl rfl rfl ?_
                    refine p_pure htab rfl rfl rfl rfl ?_
                    refine ops_nil ?_
                    refine then_normal ?_
                    refine wpD_ret ?_
                    have er88 := yes_eq hm; subst er88
                    refine retX.of (s' := ⟨[(6, .v (.bool true)), (7, .v (.bool false))], [], []⟩) (WkS.perm (WkS.cons rfl (Wk.refl _) (WkS.cons rfl (Wk.refl _) (WkS.nil))) (List.Perm.refl _) (List.Perm.refl _)) (retD_mk (hh := []) (.inl rfl) (resL_cons (resOne_tmp rfl) (resL_cons (resOne_tmp rfl) (resL_nil))) (List.nil_sublist _) (List.Sublist.refl _) ?_)
                    exact ⟨rfl, rfl, rfl⟩
                · replace hm := yes_f hg85 hm
                  refine p_pure htab rfl rfl rfl rfl ?_
                  refine p_pickF rfl rfl rfl rfl rfl rfl ?_
                  refine p_pure htab rfl rfl rfl rfl ?_
                  refine p_pure htab rfl rfl rfl rfl ?_
                  refine p_split (i := 110) rfl (fun hg89 => ?_) (fun hg89 => ?_)
                  · replace hm := yes_t hg89 hm
                    refine p_pure htab rfl rfl rfl rfl ?_
                    refine p_pickT rfl rfl rfl rfl rfl rfl ?_
                    refine p_pure htab rfl rfl rfl rfl ?_
                    refine p_pure htab rfl rfl rfl rfl ?_
                    refine ops_nil ?_
                    refine then_normal ?_
                    refine wpD_ret ?_
                    have er90 := yes_eq hm; subst er90
                    refine retX.of (s' := ⟨[(6, .v (.bool y15.2)), (7, .v (.bool x11))], [], []⟩) (WkS.perm (WkS.cons rfl (Wk.refl _) (WkS.cons rfl (Wk.refl _) (WkS.nil))) (List.Perm.refl _) (List.Perm.refl _)) (retD_mk (hh := []) (.inl rfl) (resL_cons (resOne_tmp rfl) (resL_cons (resOne_tmp rfl) (resL_nil))) (List.nil_sublist _) (List.Sublist.refl _) ?_)
                    exact ⟨rfl, rfl, rfl⟩
                  · replace hm := yes_f hg89 hm
                    refine p_skip rfl rfl rfl ?_
                    refine p_pickF rfl rfl rfl rfl rfl rfl ?_
                    refine p_pure htab rfl rfl rfl rfl ?_
                    refine p_pure htab rfl rfl rfl rfl ?_
                    refine ops_nil ?_
                    refine then_normal ?_
                    refine wpD_ret ?_
                    have er91 := yes_eq hm; subst er91
                    refine retX.of (s' := ⟨[(6, .v (.bool y15.2)), (7, .v (.bool false))], [], []⟩) (WkS.perm (WkS.cons rfl (Wk.refl _) (WkS.cons rfl (Wk.refl _) (WkS.nil))) (List.Perm.refl _) (List.Perm.refl _)) (retD_mk (hh := []) (.inl rfl) (resL_cons (resOne_tmp rfl) (resL_cons (resOne_tmp rfl) (resL_nil))) (List.nil_sublist _) (List.Sublist.refl _) ?_)
                    exact ⟨rfl, rfl, rfl⟩
noncomputable def r04_truth (a0 : Bool) (a1 : Bool) : Option (TApiSpan) :=
  (Option.bind (α := Bool) (bif a0 then some a1 else some false) fun y3 => (bif y3 then ((r03_Make (0 : Int) (1 : Int)).bind fun x8 => some x8) else (bif a0 then ((r03_Make (1 : Int) (1 : Int)).bind fun x11 => some x11) else ((r03_Make (0 : Int) (0 : Int)).bind fun x13 => some x13))))
set_option maxRecDepth 100000 in
set_option maxHeartbeats 2000000 in
theorem r04_truth_ok (a0 : Bool) (a1 : Bool) (r : TApiSpan) (h0 : r04_truth a0 a1 = some r) : CallsD Try.prog 38 [.v (.bool a0), .v (.bool a1)] [] [] (fun d h k => d = eTApiSpan r ∧ h = [] ∧ k = []) := by
  have hm := yes_of h0
  unfold r04_truth at hm
  clear h0
  refine enterX htab Try.func38 rfl rfl rfl rfl rfl (fun C => ?_)
  refine wpD_seq ?_
  refine wpD_region ?_
  refine p_alloc htab rfl rfl rfl rfl rfl rfl rfl (fun b1 => ?_)
  refine ops_nil ?_
  refine then_normal ?_
  refine wpD_seq ?_
  refine wpD_seq ?_
  obtain ⟨y3, q3, ho3⟩ := yes_bind hm
  refine wpD_mid (Y := Unit) (fun z3 => (⟨[(0, .v (.bool a0)), (4, .ptr b1 0), (8, .v (.bool y3))], [(b1, Blk.cells [.v (.bool false), .v (.int .i64 (0 : Int)), .v (.int .i64 (0 : Int))] 23)], []⟩ : S)) ?_ ?_
  · clear hm; have hm := yes_of q3
    refine wpD_region ?_
    refine p_pure htab rfl rfl rfl rfl ?_
    refine p_pure htab rfl rfl rfl rfl ?_
    refine p_split (i := 6) rfl (fun hg4 => ?_) (fun hg4 => ?_)
    · replace hm := yes_t hg4 hm
      refine p_pure htab rfl rfl rfl rfl ?_
      refine p_pickT rfl rfl rfl rfl rfl rfl ?_
      refine ops_nil ?_
      have e3 := yes_eq hm; subst e3
      refine ⟨rfl, ?_⟩
      exact WkX.of () (WkS.perm (WkS.cons rfl (Wk.refl _) (WkS.cons rfl (Wk.refl _) (WkS.cons rfl (Wk.refl _) (WkS.nil)))) (List.Perm.refl _) (List.Perm.refl _))
    · replace hm := yes_f hg4 hm
      refine p_skip rfl rfl rfl ?_
      refine p_pickF rfl rfl rfl rfl rfl rfl ?_
      refine ops_nil ?_
      have e3 := yes_eq hm; subst e3
      refine ⟨rfl, ?_⟩
      exact WkX.of () (WkS.perm (WkS.cons rfl (Wk.refl _) (WkS.cons rfl (Wk.refl _) (WkS.cons rfl (Wk.refl _) (WkS.nil)))) (List.Perm.refl _) (List.Perm.refl _))
  · intro s3 hw3; clear hm; have hm := ho3; clear q3 ho3
    refine then_normal ?_
    refine wpD_wkX hw3 (fun z3 => ?_)
    refine wpD_cond rfl (fun hc7 => ?_) (fun hc7 => ?_)
    · replace hm := yes_t hc7 hm
      refine wpD_seq ?_
      refine wpD_region ?_
      obtain ⟨x8, q8, hm⟩ := yes_bind hm
      refine p_call0 (r03_Make_ok (0 : Int) (1 : Int) x8 q8) rfl rfl rfl rfl rfl (WkL.refl _) ?_
      rintro _ rfl
      refine p_store (ds' := [.v (.bool x8.gSome), .v (.int .i64 x8.gLo), .v (.int .i64 x8.gHi)]) (h' := [(b1, Blk.cells [.v (.bool x8.gSome), .v (.int .i64 x8.gLo), .v (.int .i64 x8.gHi)] 23)]) 0 htab rfl rfl rfl rfl rfl rfl rfl rfl rfl rfl rfl rfl ?_
      refine ops_nil ?_
      refine then_normal ?_
      refine wpD_ret ?_
      refine then_ret ?_
      have er9 := yes_eq hm; subst er9
      refine retX.of (s' := ⟨[(4, .ptr b1 0)], [(b1, Blk.cells [.v (.bool x8.gSome), .v (.int .i64 x8.gLo), .v (.int .i64 x8.gHi)] 23)], []⟩) (WkS.perm (WkS.cons rfl (Wk.refl _) (WkS.nil)) (List.Perm.refl _) (List.Perm.refl _)) (retD_mk (hh := []) (.inl rfl) (resL_cons (resOne_cell 0 rfl rfl rfl rfl) (resL_nil)) (List.nil_sublist _) (List.Sublist.refl _) ?_)
      exact ⟨rfl, rfl, rfl⟩
    · replace hm := yes_f hc7 hm
      refine wpD_skip ?_
      refine then_normal ?_
      refine wpD_seq ?_
      refine wpD_seq ?_
      refine wpD_region ?_
      refine p_pure htab rfl rfl rfl rfl ?_
      refine ops_nil ?_
      refine then_normal ?_
      refine wpD_cond rfl (fun hc10 => ?_) (fun hc10 => ?_)
      · replace hm := yes_t hc10 hm
        refine wpD_seq ?_
        refine wpD_region ?_
        obtain ⟨x11, q11, hm⟩ := yes_bind hm
        refine p_call0 (r03_Make_ok (1 : Int) (1 : Int) x11 q11) rfl rfl rfl rfl rfl (WkL.refl _) ?_
        rintro _ rfl
        refine p_store (ds' := [.v (.bool x11.gSome), .v (.int .i64 x11.gLo), .v (.int .i64 x11.gHi)]) (h' := [(b1, Blk.cells [.v (.bool x11.gSome), .v (.int .i64 x11.gLo), .v (.int .i64 x11.gHi)] 23)]) 0 htab rfl rfl rfl rfl rfl rfl rfl rfl rfl rfl rfl rfl ?_
        refine ops_nil ?_
        refine then_normal ?_
        refine wpD_ret ?_
        refine then_ret ?_
        have er12 := yes_eq hm; subst er12
        refine retX.of (s' := ⟨[(4, .ptr b1 0)], [(b1, Blk.cells [.v (.bool x11.gSome), .v (.int .i64 x11.gLo), .v (.int .i64 x11.gHi)] 23)], []⟩) (WkS.perm (WkS.cons rfl (Wk.refl _) (WkS.nil)) (List.Perm.refl _) (List.Perm.refl _)) (retD_mk (hh := []) (.inl rfl) (resL_cons (resOne_cell 0 rfl rfl rfl rfl) (resL_nil)) (List.nil_sublist _) (List.Sublist.refl _) ?_)
        exact ⟨rfl, rfl, rfl⟩
      · replace hm := yes_f hc10 hm
        refine wpD_skip ?_
        refine then_normal ?_
        refine wpD_seq ?_
        refine wpD_region ?_
        obtain ⟨x13, q13, hm⟩ := yes_bind hm
        refine p_call0 (r03_Make_ok (0 : Int) (0 : Int) x13 q13) rfl rfl rfl rfl rfl (WkL.refl _) ?_
        rintro _ rfl
        refine p_store (ds' := [.v (.bool x13.gSome), .v (.int .i64 x13.gLo), .v (.int .i64 x13.gHi)]) (h' := [(b1, Blk.cells [.v (.bool x13.gSome), .v (.int .i64 x13.gLo), .v (.int .i64 x13.gHi)] 23)]) 0 htab rfl rfl rfl rfl rfl rfl rfl rfl rfl rfl rfl rfl ?_
        refine ops_nil ?_
        refine then_normal ?_
        refine wpD_ret ?_
        have er14 := yes_eq hm; subst er14
        refine retX.of (s' := ⟨[(4, .ptr b1 0)], [(b1, Blk.cells [.v (.bool x13.gSome), .v (.int .i64 x13.gLo), .v (.int .i64 x13.gHi)] 23)], []⟩) (WkS.perm (WkS.cons rfl (Wk.refl _) (WkS.nil)) (List.Perm.refl _) (List.Perm.refl _)) (retD_mk (hh := []) (.inl rfl) (resL_cons (resOne_cell 0 rfl rfl rfl rfl) (resL_nil)) (List.nil_sublist _) (List.Sublist.refl _) ?_)
        exact ⟨rfl, rfl, rfl⟩
noncomputable def r04_Do (a0 : Int) (a1 : TApiSpan) (a2 : TApiSpan) : Option (TApiSpan) :=
  (Option.bind (α := Bool) ((r03_None a1).bind fun x10 => (bif x10 then some true else ((r03_None a2).bind fun x12 => (bif x12 then some true else (bif (decide (a0 < (7 : Int))) then some true else some (decide ((17 : Int) < a0))))))) fun y9 => (bif y9 then some (⟨false, (0 : Int), (0 : Int)⟩ : TApiSpan) else (Option.bind (α := Bool) (bif (a0 == (7 : Int)) then some (a0 == (7 : Int)) else (Option.bind (α := Bool) (bif (a0 == (10 : Int)) then some (a0 == (10 : Int)) else some (a0 == (11 : Int))) fun y61 => some y61)) fun y58 => (bif y58 then ((r04_corners a0 a1 a2).bind fun x95 => ((r04_around x95).bind fun x97 => some x97)) else (bif (a0 == (8 : Int)) then ((r03_Make (-9223372036854775808 : Int) (-1 : Int)).bind fun x127 => ((r03_Meet a2 x127).bind fun x128 => ((r03_Make (1 : Int) (9223372036854775807 : Int)).bind fun x129 => ((r03_Meet a2 x129).bind fun x130 => ((r03_None x128).bind fun x133 => (Option.bind (α := List TApiWide) (bif (!x133) then ((r04_corners a0 a1 x128).bind fun x140 => ((app 16 ([] : List TApiWide) x140).bind fun x142 => some x142)) else some []) fun y138 => ((r03_None x130).bind fun x144 => (Option.bind (α := List TApiWide) (bif (!x144) then ((r04_corners a0 a1 x130).bind fun x151 => ((app 16 y138 x151).bind fun x153 => some x153)) else some y138) fun y149 => ((r04_around y149).bind fun x154 => some x154))))))))) else (bif (a0 == (9 : Int)) then ((r04_rest a1 a2).bind fun x159 => some x159) else ((r04_may a0 a1 a2).bind fun x161 => ((r04_truth x161.1 x161.2).bind fun x162 => some x162))))))))
set_option maxRecDepth 100000 in
set_option maxHeartbeats 2000000 in
theorem r04_Do_ok (a0 : Int) (a1 : TApiSpan) (a2 : TApiSpan) (r : TApiSpan) (h0 : r04_Do a0 a1 a2 = some r) : CallsD Try.prog 8 [.v (.int .i64 a0), eTApiSpan a1, eTApiSpan a2] [] [] (fun d h k => d = eTApiSpan r ∧ h = [] ∧ k = []) := by
  have hm := yes_of h0
  unfold r04_Do at hm
  clear h0
  refine enterX htab Try.func8 rfl rfl rfl rfl rfl (fun C => ?_)
  refine wpD_seq ?_
  refine wpD_region ?_
  refine p_box rfl rfl rfl rfl rfl rfl rfl (fun b1 => ?_)
  refine p_box rfl rfl rfl rfl rfl rfl rfl (fun b2 => ?_)
  refine p_alloc htab rfl rfl rfl rfl rfl rfl rfl (fun b3 => ?_)
  refine ops_nil ?_
  refine then_normal ?_
  refine wpD_seq ?_
  refine wpD_seq ?_
  obtain ⟨y9, q9, ho9⟩ := yes_bind hm
  refine wpD_mid (Y := Unit) (fun z9 => (⟨[(0, .v (.int .i64 a0)), (4, .ptr b1 0), (5, .ptr b2 0), (6, .ptr b3 0), (25, .v (.bool y9))], [(b1, Blk.cells [.v (.bool a1.gSome), .v (.int .i64 a1.gLo), .v (.int .i64 a1.gHi)] 23), (b2, Blk.cells [.v (.bool a2.gSome), .v (.int .i64 a2.gLo), .v (.int .i64 a2.gHi)] 23), (b3, Blk.cells [.v (.bool false), .v (.int .i64 (0 : Int)), .v (.int .i64 (0 : Int))] 23)], []⟩ : S)) ?_ ?_
  · clear hm; have hm := yes_of q9
    refine wpD_region ?_
    refine p_load (d := eTApiSpan a1) 0 htab rfl rfl rfl rfl rfl rfl rfl rfl ?_
    obtain ⟨x10, q10, hm⟩ := yes_bind hm
    refine p_call0 (r03_None_ok a1 x10 q10) rfl rfl rfl rfl rfl (WkL.refl _) ?_
    rintro _ rfl
    refine p_pure htab rfl rfl rfl rfl ?_
    refine p_split (i := 14) rfl (fun hg11 => ?_) (fun hg11 => ?_)
    · replace hm := yes_t hg11 hm
      refine p_skip rfl rfl rfl ?_
      refine p_skip rfl rfl rfl ?_
      refine p_pickT rfl rfl rfl rfl rfl rfl ?_
      refine p_pure htab rfl rfl rfl rfl ?_
      refine p_skip rfl rfl rfl ?_
      refine p_skip rfl rfl rfl ?_
      refine p_pickT rfl rfl rfl rfl rfl rfl ?_
      refine p_pure htab rfl rfl rfl rfl ?_
      refine p_skip rfl rfl rfl ?_
      refine p_skip rfl rfl rfl ?_
      refine p_pickT rfl rfl rfl rfl rfl rfl ?_
      refine ops_nil ?_
      have e9 := yes_eq hm; subst e9
      refine ⟨rfl, ?_⟩
      exact WkX.of () (WkS.perm (WkS.cons rfl (Wk.refl _) (WkS.cons rfl (Wk.refl _) (WkS.cons rfl (Wk.refl _) (WkS.cons rfl (Wk.refl _) (WkS.cons rfl (Wk.refl _) (WkS.nil)))))) (List.Perm.refl _) (List.Perm.refl _))
    · replace hm := yes_f hg11 hm
      refine p_load (d := eTApiSpan a2) 1 htab rfl rfl rfl rfl rfl rfl rfl rfl ?_
      obtain ⟨x12, q12, hm⟩ := yes_bind hm
      refine p_call0 (r03_None_ok a2 x12 q12) rfl rfl rfl rfl rfl (WkL.refl _) ?_
      rintro _ rfl
      refine p_pickF rfl rfl rfl rfl rfl rfl ?_
      refine p_pure htab rfl rfl rfl rfl ?_
      refine p_split (i := 18) rfl (fun hg13 => ?_) (fun hg13 => ?_)
      · replace hm := yes_t hg13 hm
        refine p_skip rfl rfl rfl ?_
        refine p_skip rfl rfl rfl ?_
        refine p_pickT rfl rfl rfl rfl rfl rfl ?_
        refine p_pure htab rfl rfl rfl rfl ?_
        refine p_skip rfl rfl rfl ?_
        refine p_skip rfl rfl rfl ?_
        refine p_pickT rfl rfl rfl rfl rfl rfl ?_
        refine ops_nil ?_
        have e9 := yes_eq hm; subst e9
        refine ⟨rfl, ?_⟩
        exact WkX.of () (WkS.perm (WkS.cons rfl (Wk.refl _) (WkS.cons rfl (Wk.refl _) (WkS.cons rfl (Wk.refl _) (WkS.cons rfl (Wk.refl _) (WkS.cons rfl (Wk.refl _) (WkS.nil)))))) (List.Perm.refl _) (List.Perm.refl _))
      · replace hm := yes_f hg13 hm
        refine p_pure htab rfl rfl rfl rfl ?_
        refine p_pure htab rfl rfl rfl rfl ?_
        refine p_pickF rfl rfl rfl rfl rfl rfl ?_
        refine p_pure htab rfl rfl rfl rfl ?_
        refine p_split (i := 22) rfl (fun hg14 => ?_) (fun hg14 => ?_)
        · replace hm := yes_t hg14 hm
          refine p_skip rfl rfl rfl ?_
          refine p_skip rfl rfl rfl ?_
          refine p_pickT rfl rfl rfl rfl rfl rfl ?_
          refine ops_nil ?_
          have e9 := yes_eq hm; subst e9
          refine ⟨rfl, ?_⟩
          exact WkX.of () (WkS.perm (WkS.cons rfl (Wk.refl _) (WkS.cons rfl (Wk.refl _) (WkS.cons rfl (Wk.refl _) (WkS.cons rfl (Wk.refl _) (WkS.cons rfl (Wk.refl _) (WkS.nil)))))) (List.Perm.refl _) (List.Perm.refl _))
        · replace hm := yes_f hg14 hm
          refine p_pure htab rfl rfl rfl rfl ?_
          refine p_pure htab rfl rfl rfl rfl ?_
          refine p_pickF rfl rfl rfl rfl rfl rfl ?_
          refine ops_nil ?_
          have e9 := yes_eq hm; subst e9
          refine ⟨rfl, ?_⟩
          exact WkX.of () (WkS.perm (WkS.cons rfl (Wk.refl _) (WkS.cons rfl (Wk.refl _) (WkS.cons rfl (Wk.refl _) (WkS.cons rfl (Wk.refl _) (WkS.cons rfl (Wk.refl _) (WkS.nil)))))) (List.Perm.refl _) (List.Perm.refl _))
  · intro s9 hw9; clear hm; have hm := ho9; clear q9 ho9
    refine then_normal ?_
    refine wpD_wkX hw9 (fun z9 => ?_)
    refine wpD_cond rfl (fun hc16 => ?_) (fun hc16 => ?_)
    · replace hm := yes_t hc16 hm
      refine wpD_seq ?_
      refine wpD_region ?_
      refine p_build (r := [.v (.bool false), .v (.int .i64 (0 : Int)), .v (.int .i64 (0 : Int))]) htab rfl rfl rfl rfl rfl rfl rfl rfl rfl ?_
      refine p_store (ds' := [.v (.bool false), .v (.int .i64 (0 : Int)), .v (.int .i64 (0 : Int))]) (h' := [(b1, Blk.cells [.v (.bool a1.gSome), .v (.int .i64 a1.gLo), .v (.int .i64 a1.gHi)] 23), (b2, Blk.cells [.v (.bool a2.gSome), .v (.int .i64 a2.gLo), .v (.int .i64 a2.gHi)] 23), (b3, Blk.cells [.v (.bool false), .v (.int .i64 (0 : Int)), .v (.int .i64 (0 : Int))] 23)]) 2 htab rfl rfl rfl rfl rfl rfl rfl rfl rfl rfl rfl rfl ?_
      refine ops_nil ?_
      refine then_normal ?_
      refine wpD_ret ?_
      refine then_ret ?_
      have er17 := yes_eq hm; subst er17
      refine retX.of (s' := ⟨[(6, .ptr b3 0)], [(b3, Blk.cells [.v (.bool false), .v (.int .i64 (0 : Int)), .v (.int .i64 (0 : Int))] 23)], []⟩) (WkS.perm (WkS.cons rfl (Wk.refl _) (WkS.nil)) ((perm_at (j := 2) rfl).trans (List.Perm.cons _ (List.Perm.refl _))) (List.Perm.refl _)) (retD_mk (hh := []) (.inl rfl) (resL_cons (resOne_cell 0 rfl rfl rfl rfl) (resL_nil)) (List.nil_sublist _) (List.Sublist.refl _) ?_)
      exact ⟨rfl, rfl, rfl⟩
    · replace hm := yes_f hc16 hm
      refine wpD_skip ?_
      refine then_normal ?_
      refine wpD_seq ?_
      refine wpD_seq ?_
      refine wpD_region ?_
      refine p_pure htab rfl rfl rfl rfl ?_
      refine ops_nil ?_
      refine then_normal ?_
      refine wpD_block ?_
      refine wpD_seq ?_
      refine wpD_seq ?_
      refine wpD_region ?_
      refine p_pure htab rfl rfl rfl rfl ?_
      refine p_pure htab rfl rfl rfl rfl ?_
      refine ops_nil ?_
      refine then_normal ?_
      obtain ⟨y58, q58, ho58⟩ := yes_bind hm
      refine wpD_mid (Y := Unit) (fun z58 => (⟨[(0, .v (.int .i64 a0)), (4, .ptr b1 0), (5, .ptr b2 0), (6, .ptr b3 0), (27, .v (.int .i64 a0)), (28, .v (.bool y58))], [(b1, Blk.cells [.v (.bool a1.gSome), .v (.int .i64 a1.gLo), .v (.int .i64 a1.gHi)] 23), (b2, Blk.cells [.v (.bool a2.gSome), .v (.int .i64 a2.gLo), .v (.int .i64 a2.gHi)] 23), (b3, Blk.cells [.v (.bool false), .v (.int .i64 (0 : Int)), .v (.int .i64 (0 : Int))] 23)], []⟩ : S)) ?_ ?_
      · clear hm; have hm := yes_of q58
        refine wpD_cond rfl (fun hc59 => ?_) (fun hc59 => ?_)
        · replace hm := yes_t hc59 hm
          refine wpD_skip ?_
          have e58 := yes_eq hm; subst e58
          refine ⟨rfl, ?_⟩
          exact WkX.of () (WkS.perm (WkS.cons rfl (Wk.refl _) (WkS.cons rfl (Wk.refl _) (WkS.cons rfl (Wk.refl _) (WkS.cons rfl (Wk.refl _) (WkS.cons rfl (Wk.refl _) (WkS.cons rfl (Wk.refl _) (WkS.nil))))))) (List.Perm.refl _) (List.Perm.refl _))
        · replace hm := yes_f hc59 hm
          refine wpD_seq ?_
          refine wpD_region ?_
          refine p_pure htab rfl rfl rfl rfl ?_
          refine p_pure htab rfl rfl rfl rfl ?_
          refine ops_nil ?_
          refine then_normal ?_
          obtain ⟨y61, q61, ho61⟩ := yes_bind hm
          refine wpD_mid (Y := Unit) (fun z61 => (⟨[(0, .v (.int .i64 a0)), (4, .ptr b1 0), (5, .ptr b2 0), (6, .ptr b3 0), (27, .v (.int .i64 a0)), (28, .v (.bool y61))], [(b1, Blk.cells [.v (.bool a1.gSome), .v (.int .i64 a1.gLo), .v (.int .i64 a1.gHi)] 23), (b2, Blk.cells [.v (.bool a2.gSome), .v (.int .i64 a2.gLo), .v (.int .i64 a2.gHi)] 23), (b3, Blk.cells [.v (.bool false), .v (.int .i64 (0 : Int)), .v (.int .i64 (0 : Int))] 23)], []⟩ : S)) ?_ ?_
          · clear hm; have hm := yes_of q61
            refine wpD_cond rfl (fun hc62 => ?_) (fun hc62 => ?_)
            · replace hm := yes_t hc62 hm
              refine wpD_skip ?_
              have e61 := yes_eq hm; subst e61
              refine ⟨rfl, ?_⟩
              exact WkX.of () (WkS.perm (WkS.cons rfl (Wk.refl _) (WkS.cons rfl (Wk.refl _) (WkS.cons rfl (Wk.refl _) (WkS.cons rfl (Wk.refl _) (WkS.cons rfl (Wk.refl _) (WkS.cons rfl (Wk.refl _) (WkS.nil))))))) (List.Perm.refl _) (List.Perm.refl _))
            · replace hm := yes_f hc62 hm
              refine wpD_region ?_
              refine p_pure htab rfl rfl rfl rfl ?_
              refine p_pure htab rfl rfl rfl rfl ?_
              refine ops_nil ?_
              have e61 := yes_eq hm; subst e61
              refine ⟨rfl, ?_⟩
              exact WkX.of () (WkS.perm (WkS.cons rfl (Wk.refl _) (WkS.cons rfl (Wk.refl _) (WkS.cons rfl (Wk.refl _) (WkS.cons rfl (Wk.refl _) (WkS.cons rfl (Wk.refl _) (WkS.cons rfl (Wk.refl _) (WkS.nil))))))) (List.Perm.refl _) (List.Perm.refl _))
          · intro s61 hw61; clear hm; have hm := ho61; clear q61 ho61
            have e58 := yes_eq hm; subst e58
            refine ⟨rfl, ?_⟩
            refine WkX.trans hw61 (fun z61 => ?_)
            exact WkX.of () (WkS.perm (WkS.cons rfl (Wk.refl _) (WkS.cons rfl (Wk.refl _) (WkS.cons rfl (Wk.refl _) (WkS.cons rfl (Wk.refl _) (WkS.cons rfl (Wk.refl _) (WkS.cons rfl (Wk.refl _) (WkS.nil))))))) (List.Perm.refl _) (List.Perm.refl _))
      · intro s58 hw58; clear hm; have hm := ho58; clear q58 ho58
        refine then_normal ?_
        refine wpD_wkX hw58 (fun z58 => ?_)
        refine wpD_cond rfl (fun hc94 => ?_) (fun hc94 => ?_)
        · replace hm := yes_t hc94 hm
          refine wpD_seq ?_
          refine wpD_region ?_
          refine p_pure htab rfl rfl rfl rfl ?_
          refine p_load (d := eTApiSpan a1) 0 htab rfl rfl rfl rfl rfl rfl rfl rfl ?_
          refine p_load (d := eTApiSpan a2) 1 htab rfl rfl rfl rfl rfl rfl rfl rfl ?_
          obtain ⟨x95, q95, hm⟩ := yes_bind hm
          refine p_call (r04_corners_ok a0 a1 a2 x95 q95) rfl rfl rfl rfl rfl (WkL.refl _) ?_
          rintro _ _ _ ⟨w96, rfl, rfl, rfl⟩
          obtain ⟨x97, q97, hm⟩ := yes_bind hm
          refine p_call0 (r04_around_ok x95 x97 q97) rfl rfl rfl rfl rfl (WkL.cons (Wk.no) (WkL.refl _)) ?_
          rintro _ rfl
          refine p_store (ds' := [.v (.bool x97.gSome), .v (.int .i64 x97.gLo), .v (.int .i64 x97.gHi)]) (h' := [(b1, Blk.cells [.v (.bool a1.gSome), .v (.int .i64 a1.gLo), .v (.int .i64 a1.gHi)] 23), (b2, Blk.cells [.v (.bool a2.gSome), .v (.int .i64 a2.gLo), .v (.int .i64 a2.gHi)] 23), (b3, Blk.cells [.v (.bool x97.gSome), .v (.int .i64 x97.gLo), .v (.int .i64 x97.gHi)] 23)]) 2 htab rfl rfl rfl rfl rfl rfl rfl rfl rfl rfl rfl rfl ?_
          refine ops_nil ?_
          refine then_normal ?_
          refine wpD_ret ?_
          refine block_ret ?_
          refine then_ret ?_
          have er98 := yes_eq hm; subst er98
          refine retX.of (s' := ⟨[(6, .ptr b3 0)], [(b3, Blk.cells [.v (.bool x97.gSome), .v (.int .i64 x97.gLo), .v (.int .i64 x97.gHi)] 23)], []⟩) (WkS.perm (WkS.cons rfl (Wk.refl _) (WkS.nil)) ((perm_at (j := 2) rfl).trans (List.Perm.cons _ (List.Perm.refl _))) (List.Perm.refl _)) (retD_mk (hh := []) (.inl rfl) (resL_cons (resOne_cell 0 rfl rfl rfl rfl) (resL_nil)) (List.nil_sublist _) (List.Sublist.refl _) ?_)
          exact ⟨rfl, rfl, rfl⟩
        · replace hm := yes_f hc94 hm
          refine wpD_seq ?_
          refine wpD_region ?_
          refine p_pure htab rfl rfl rfl rfl ?_
          refine p_pure htab rfl rfl rfl rfl ?_
          refine ops_nil ?_
          refine then_normal ?_
          refine wpD_cond rfl (fun hc126 => ?_) (fun hc126 => ?_)
          · replace hm := yes_t hc126 hm
            refine wpD_seq ?_
            refine wpD_region ?_
            refine p_pure htab rfl rfl rfl rfl ?_
            refine ops_nil ?_
            refine then_normal ?_
            refine wpD_seq ?_
            obtain ⟨x127, q127, hm⟩ := yes_bind hm
            obtain ⟨x128, q128, hm⟩ := yes_bind hm
            obtain ⟨x129, q129, hm⟩ := yes_bind hm
            obtain ⟨x130, q130, hm⟩ := yes_bind hm
            refine wpD_draws 8 [(6, [.v (.bool false), .v (.int .i64 (0 : Int)), .v (.int .i64 (0 : Int))], 23), (7, [.v (.bool false), .v (.int .i64 (0 : Int)), .v (.int .i64 (0 : Int))], 23)] [[],[],[0,1],[],[0,1,2],[0,1,2,3,4],[],[]] [0,1,2,3,4,5,6,7] [[],[],[0,1],[],[0,1,2],[0,1,2,3,4],[],[],[0,1,2,3,4,5,6,7],[0,1,2,3,4,5,6,7,8]] (by kernel_rfl) (by kernel_rfl) (by kernel_rfl) (by rfl) (by rfl) (by kernel_rfl) ?_
            apply Exists.intro
            apply Exists.intro
            apply Exists.intro
            apply Exists.intro
            apply Exists.intro
            apply Exists.intro
            refine ⟨.any, ?_⟩
            refine ⟨.any, ?_⟩
            intro bs
            refine z_eM rfl rfl (xm_load (d := eTApiSpan a2) 1 htab rfl rfl rfl rfl rfl) rfl rfl rfl rfl rfl rfl ?_
            refine z_call rfl rfl (r03_Make_ok (-9223372036854775808 : Int) (-1 : Int) x127 q127) rfl rfl (WkL.refl _) rfl rfl rfl rfl rfl rfl ?_
            refine z_call rfl rfl (r03_Meet_ok a2 x127 x128 q128) rfl rfl (WkL.refl _) rfl rfl rfl rfl rfl rfl ?_
            refine z_eM rfl rfl (xm_load (d := eTApiSpan a2) 1 htab rfl rfl rfl rfl rfl) rfl rfl rfl rfl rfl rfl ?_
            refine z_call rfl rfl (r03_Make_ok (1 : Int) (9223372036854775807 : Int) x129 q129) rfl rfl (WkL.refl _) rfl rfl rfl rfl rfl rfl ?_
            refine z_call rfl rfl (r03_Meet_ok a2 x129 x130 q130) rfl rfl (WkL.refl _) rfl rfl rfl rfl rfl rfl ?_
            refine z_alloc rfl htab rfl rfl rfl rfl rfl rfl rfl rfl (by simp [dOf, eI64]) (by simp) ?_
            refine z_alloc rfl htab rfl rfl rfl rfl rfl rfl rfl rfl (by simp [dOf, eI64]) (by simp) ?_
            refine z_nil rfl (by simp only [List.map_cons, List.map_nil]; exact rfl) (fun e he => by simp [isAl] at he; rcases he with rfl | rfl <;> rfl) ?_
            obtain ⟨b131, hb131⟩ : ∃ b, bs 6 = b := ⟨_, rfl⟩
            obtain ⟨b132, hb132⟩ : ∃ b, bs 7 = b := ⟨_, rfl⟩
            simp only [hb131, hb132]
            clear hb131 hb132
            refine p_store (ds' := [.v (.bool x128.gSome), .v (.int .i64 x128.gLo), .v (.int .i64 x128.gHi)]) (h' := [(b1, Blk.cells [.v (.bool a1.gSome), .v (.int .i64 a1.gLo), .v (.int .i64 a1.gHi)] 23), (b2, Blk.cells [.v (.bool a2.gSome), .v (.int .i64 a2.gLo), .v (.int .i64 a2.gHi)] 23), (b3, Blk.cells [.v (.bool false), .v (.int .i64 (0 : Int)), .v (.int .i64 (0 : Int))] 23), (b131, Blk.cells [.v (.bool x128.gSome), .v (.int .i64 x128.gLo), .v (.int .i64 x128.gHi)] 23), (b132, Blk.cells [.v (.bool false), .v (.int .i64 (0 : Int)), .v (.int .i64 (0 : Int))] 23)]) 3 htab rfl rfl rfl rfl rfl rfl rfl rfl rfl rfl rfl rfl ?_
            refine p_store (ds' := [.v (.bool x130.gSome), .v (.int .i64 x130.gLo), .v (.int .i64 x130.gHi)]) (h' := [(b1, Blk.cells [.v (.bool a1.gSome), .v (.int .i64 a1.gLo), .v (.int .i64 a1.gHi)] 23), (b2, Blk.cells [.v (.bool a2.gSome), .v (.int .i64 a2.gLo), .v (.int .i64 a2.gHi)] 23), (b3, Blk.cells [.v (.bool false), .v (.int .i64 (0 : Int)), .v (.int .i64 (0 : Int))] 23), (b131, Blk.cells [.v (.bool x128.gSome), .v (.int .i64 x128.gLo), .v (.int .i64 x128.gHi)] 23), (b132, Blk.cells [.v (.bool x130.gSome), .v (.int .i64 x130.gLo), .v (.int .i64 x130.gHi)] 23)]) 4 htab rfl rfl rfl rfl rfl rfl rfl rfl rfl rfl rfl rfl ?_
            refine ops_nil ?_
            refine then_normal ?_
            refine wpD_seq ?_
            refine wpD_seq ?_
            refine wpD_region ?_
            refine p_load (d := eTApiSpan x128) 3 htab rfl rfl rfl rfl rfl rfl rfl rfl ?_
            obtain ⟨x133, q133, hm⟩ := yes_bind hm
            refine p_call0 (r03_None_ok x128 x133 q133) rfl rfl rfl rfl rfl (WkL.refl _) ?_
            rintro _ rfl
            refine p_pure htab rfl rfl rfl rfl ?_
            refine ops_nil ?_
            refine then_normal ?_
            obtain ⟨y138, q138, ho138⟩ := yes_bind hm
            refine wpD_mid (Y := Value) (fun z138 => (⟨[(0, .v (.int .i64 a0)), (4, .ptr b1 0), (6, .ptr b3 0), (7, .lst 2 (y138.map eTApiWide) (.cur z138)), (9, .ptr b132 0)], [(b1, Blk.cells [.v (.bool a1.gSome), .v (.int .i64 a1.gLo), .v (.int .i64 a1.gHi)] 23), (b2, Blk.cells [.v (.bool a2.gSome), .v (.int .i64 a2.gLo), .v (.int .i64 a2.gHi)] 23), (b3, Blk.cells [.v (.bool false), .v (.int .i64 (0 : Int)), .v (.int .i64 (0 : Int))] 23), (b131, Blk.cells [.v (.bool x128.gSome), .v (.int .i64 x128.gLo), .v (.int .i64 x128.gHi)] 23), (b132, Blk.cells [.v (.bool x130.gSome), .v (.int .i64 x130.gLo), .v (.int .i64 x130.gHi)] 23)], [(2, z138)]⟩ : S)) ?_ ?_
            · clear hm; have hm := yes_of q138
              refine wpD_cond rfl (fun hc139 => ?_) (fun hc139 => ?_)
              · replace hm := yes_t hc139 hm
                refine wpD_region ?_
                refine p_pure htab rfl rfl rfl rfl ?_
                refine p_pure htab rfl rfl rfl rfl ?_
                refine p_load (d := eTApiSpan a1) 0 htab rfl rfl rfl rfl rfl rfl rfl rfl ?_
                refine p_load (d := eTApiSpan x128) 3 htab rfl rfl rfl rfl rfl rfl rfl rfl ?_
                obtain ⟨x140, q140, hm⟩ := yes_bind hm
                refine p_call (r04_corners_ok a0 a1 x128 x140 q140) rfl rfl rfl rfl rfl (WkL.refl _) ?_
                rintro _ _ _ ⟨w141, rfl, rfl, rfl⟩
                obtain ⟨x142, q142, hm⟩ := yes_bind hm
                refine p_app0 htab rfl rfl rfl rfl rfl rfl rfl rfl rfl rfl rfl rfl rfl rfl rfl (by simpa using app_bound (e := eTApiWide) q142) (fun v142 => ?_)
                refine p_mapD0 (i := 53) q142 rfl ?_
                refine p_pure htab rfl rfl rfl rfl ?_
                refine ops_nil ?_
                have e138 := yes_eq hm; subst e138
                refine ⟨rfl, ?_⟩
                exact WkX.of v142 (WkS.perm (WkS.cons rfl (Wk.refl _) (WkS.cons rfl (Wk.refl _) (WkS.cons rfl (Wk.refl _) (WkS.cons rfl (Wk.refl _) (WkS.cons rfl (Wk.refl _) (WkS.nil)))))) (List.Perm.refl _) (List.Perm.refl _))
              · replace hm := yes_f hc139 hm
                refine wpD_skip ?_
                have e138 := yes_eq hm; subst e138
                refine ⟨rfl, ?_⟩
                refine WkX.tokN (i := 7) 2 rfl (fun w143 => ?_)
                exact WkX.of w143 (WkS.perm (WkS.cons rfl (Wk.refl _) (WkS.cons rfl (Wk.refl _) (WkS.cons rfl (Wk.refl _) (WkS.cons rfl (Wk.refl _) (WkS.cons rfl (Wk.refl _) (WkS.nil)))))) (List.Perm.refl _) (List.Perm.refl _))
            · intro s138 hw138; clear hm; have hm := ho138; clear q138 ho138
              refine then_normal ?_
              refine wpD_wkX hw138 (fun z138 => ?_)
              refine wpD_seq ?_
              refine wpD_seq ?_
              refine wpD_region ?_
              refine p_load (d := eTApiSpan x130) 4 htab rfl rfl rfl rfl rfl rfl rfl rfl ?_
              obtain ⟨x144, q144, hm⟩ := yes_bind hm
              refine p_call0 (r03_None_ok x130 x144 q144) rfl rfl rfl rfl rfl (WkL.refl _) ?_
              rintro _ rfl
              refine p_pure htab rfl rfl rfl rfl ?_
              refine ops_nil ?_
              refine then_normal ?_
              obtain ⟨y149, q149, ho149⟩ := yes_bind hm
              refine wpD_mid (Y := Value) (fun z149 => (⟨[(6, .ptr b3 0), (7, .lst 2 (y149.map eTApiWide) (.cur z149))], [(b1, Blk.cells [.v (.bool a1.gSome), .v (.int .i64 a1.gLo), .v (.int .i64 a1.gHi)] 23), (b2, Blk.cells [.v (.bool a2.gSome), .v (.int .i64 a2.gLo), .v (.int .i64 a2.gHi)] 23), (b3, Blk.cells [.v (.bool false), .v (.int .i64 (0 : Int)), .v (.int .i64 (0 : Int))] 23), (b131, Blk.cells [.v (.bool x128.gSome), .v (.int .i64 x128.gLo), .v (.int .i64 x128.gHi)] 23), (b132, Blk.cells [.v (.bool x130.gSome), .v (.int .i64 x130.gLo), .v (.int .i64 x130.gHi)] 23)], [(2, z149)]⟩ : S)) ?_ ?_
              · clear hm; have hm := yes_of q149
                refine wpD_cond rfl (fun hc150 => ?_) (fun hc150 => ?_)
                · replace hm := yes_t hc150 hm
                  refine wpD_region ?_
                  refine p_pure htab rfl rfl rfl rfl ?_
                  refine p_pure htab rfl rfl rfl rfl ?_
                  refine p_load (d := eTApiSpan a1) 0 htab rfl rfl rfl rfl rfl rfl rfl rfl ?_
                  refine p_load (d := eTApiSpan x130) 4 htab rfl rfl rfl rfl rfl rfl rfl rfl ?_
                  obtain ⟨x151, q151, hm⟩ := yes_bind hm
                  refine p_call (r04_corners_ok a0 a1 x130 x151 q151) rfl rfl rfl rfl rfl (WkL.refl _) ?_
                  rintro _ _ _ ⟨w152, rfl, rfl, rfl⟩
                  obtain ⟨x153, q153, hm⟩ := yes_bind hm
                  refine p_appC 1 htab rfl rfl rfl rfl rfl rfl rfl rfl rfl rfl rfl rfl rfl rfl rfl rfl rfl (app_bound q153) (fun v153 => ?_)
                  refine p_mapD (i := 62) q153 rfl ?_
                  refine p_pure htab rfl rfl rfl rfl ?_
                  refine ops_nil ?_
                  have e149 := yes_eq hm; subst e149
                  refine ⟨rfl, ?_⟩
                  exact WkX.of v153 (WkS.perm (WkS.cons rfl (Wk.refl _) (WkS.cons rfl (Wk.refl _) (WkS.nil))) (List.Perm.refl _) (List.Perm.refl _))
                · replace hm := yes_f hc150 hm
                  refine wpD_skip ?_
                  have e149 := yes_eq hm; subst e149
                  refine ⟨rfl, ?_⟩
                  exact WkX.of z138 (WkS.perm (WkS.cons rfl (Wk.refl _) (WkS.cons rfl (Wk.refl _) (WkS.nil))) (List.Perm.refl _) (List.Perm.refl _))
              · intro s149 hw149; clear hm; have hm := ho149; clear q149 ho149
                refine then_normal ?_
                refine wpD_wkX hw149 (fun z149 => ?_)
                refine wpD_seq ?_
                refine wpD_region ?_
                refine p_pure htab rfl rfl rfl rfl ?_
                obtain ⟨x154, q154, hm⟩ := yes_bind hm
                refine p_call0 (r04_around_ok y149 x154 q154) rfl rfl rfl rfl rfl (WkL.cons (Wk.no) (WkL.refl _)) ?_
                rintro _ rfl
                refine p_store (ds' := [.v (.bool x154.gSome), .v (.int .i64 x154.gLo), .v (.int .i64 x154.gHi)]) (h' := [(b1, Blk.cells [.v (.bool a1.gSome), .v (.int .i64 a1.gLo), .v (.int .i64 a1.gHi)] 23), (b2, Blk.cells [.v (.bool a2.gSome), .v (.int .i64 a2.gLo), .v (.int .i64 a2.gHi)] 23), (b3, Blk.cells [.v (.bool x154.gSome), .v (.int .i64 x154.gLo), .v (.int .i64 x154.gHi)] 23), (b131, Blk.cells [.v (.bool x128.gSome), .v (.int .i64 x128.gLo), .v (.int .i64 x128.gHi)] 23), (b132, Blk.cells [.v (.bool x130.gSome), .v (.int .i64 x130.gLo), .v (.int .i64 x130.gHi)] 23)]) 2 htab rfl rfl rfl rfl rfl rfl rfl rfl rfl rfl rfl rfl ?_
                refine ops_nil ?_
                refine then_normal ?_
                refine wpD_ret ?_
                refine block_ret ?_
                refine then_ret ?_
                have er155 := yes_eq hm; subst er155
                refine retX.of (s' := ⟨[(6, .ptr b3 0)], [(b3, Blk.cells [.v (.bool x154.gSome), .v (.int .i64 x154.gLo), .v (.int .i64 x154.gHi)] 23)], []⟩) (WkS.perm (WkS.cons rfl (Wk.refl _) (WkS.nil)) ((perm_at (j := 2) rfl).trans (List.Perm.cons _ (List.Perm.refl _))) (List.Perm.refl _)) (retD_mk (hh := []) (.inl rfl) (resL_cons (resOne_cell 0 rfl rfl rfl rfl) (resL_nil)) (List.nil_sublist _) (List.Sublist.refl _) ?_)
                exact ⟨rfl, rfl, rfl⟩
          · replace hm := yes_f hc126 hm
            refine wpD_seq ?_
            refine wpD_region ?_
            refine p_pure htab rfl rfl rfl rfl ?_
            refine p_pure htab rfl rfl rfl rfl ?_
            refine ops_nil ?_
            refine then_normal ?_
            refine wpD_cond rfl (fun hc158 => ?_) (fun hc158 => ?_)
            · replace hm := yes_t hc158 hm
              refine wpD_seq ?_
              refine wpD_region ?_
              refine p_load (d := eTApiSpan a1) 0 htab rfl rfl rfl rfl rfl rfl rfl rfl ?_
              refine p_load (d := eTApiSpan a2) 1 htab rfl rfl rfl rfl rfl rfl rfl rfl ?_
              obtain ⟨x159, q159, hm⟩ := yes_bind hm
              refine p_call0 (r04_rest_ok a1 a2 x159 q159) rfl rfl rfl rfl rfl (WkL.refl _) ?_
              rintro _ rfl
              refine p_store (ds' := [.v (.bool x159.gSome), .v (.int .i64 x159.gLo), .v (.int .i64 x159.gHi)]) (h' := [(b1, Blk.cells [.v (.bool a1.gSome), .v (.int .i64 a1.gLo), .v (.int .i64 a1.gHi)] 23), (b2, Blk.cells [.v (.bool a2.gSome), .v (.int .i64 a2.gLo), .v (.int .i64 a2.gHi)] 23), (b3, Blk.cells [.v (.bool x159.gSome), .v (.int .i64 x159.gLo), .v (.int .i64 x159.gHi)] 23)]) 2 htab rfl rfl rfl rfl rfl rfl rfl rfl rfl rfl rfl rfl ?_
              refine ops_nil ?_
              refine then_normal ?_
              refine wpD_ret ?_
              refine block_ret ?_
              refine then_ret ?_
              have er160 := yes_eq hm; subst er160
              refine retX.of (s' := ⟨[(6, .ptr b3 0)], [(b3, Blk.cells [.v (.bool x159.gSome), .v (.int .i64 x159.gLo), .v (.int .i64 x159.gHi)] 23)], []⟩) (WkS.perm (WkS.cons rfl (Wk.refl _) (WkS.nil)) ((perm_at (j := 2) rfl).trans (List.Perm.cons _ (List.Perm.refl _))) (List.Perm.refl _)) (retD_mk (hh := []) (.inl rfl) (resL_cons (resOne_cell 0 rfl rfl rfl rfl) (resL_nil)) (List.nil_sublist _) (List.Sublist.refl _) ?_)
              exact ⟨rfl, rfl, rfl⟩
            · replace hm := yes_f hc158 hm
              refine wpD_skip ?_
              refine block_normal ?_
              refine then_normal ?_
              refine wpD_seq ?_
              refine wpD_region ?_
              refine p_pure htab rfl rfl rfl rfl ?_
              refine p_load (d := eTApiSpan a1) 0 htab rfl rfl rfl rfl rfl rfl rfl rfl ?_
              refine p_load (d := eTApiSpan a2) 1 htab rfl rfl rfl rfl rfl rfl rfl rfl ?_
              obtain ⟨x161, q161, hm⟩ := yes_bind hm
              refine p_call0 (r04_may_ok a0 a1 a2 x161 q161) rfl rfl rfl rfl rfl (WkL.refl _) ?_
              rintro _ rfl
              refine p_pure htab rfl rfl rfl rfl ?_
              refine p_pure htab rfl rfl rfl rfl ?_
              refine p_pure htab rfl rfl rfl rfl ?_
              refine p_pure htab rfl rfl rfl rfl ?_
              refine p_pure htab rfl rfl rfl rfl ?_
              refine ops_nil ?_
              refine then_normal ?_
              refine wpD_seq ?_
              refine wpD_region ?_
              refine p_pure htab rfl rfl rfl rfl ?_
              refine p_pure htab rfl rfl rfl rfl ?_
              obtain ⟨x162, q162, hm⟩ := yes_bind hm
              refine p_call0 (r04_truth_ok x161.1 x161.2 x162 q162) rfl rfl rfl rfl rfl (WkL.refl _) ?_
              rintro _ rfl
              refine p_store (ds' := [.v (.bool x162.gSome), .v (.int .i64 x162.gLo), .v (.int .i64 x162.gHi)]) (h' := [(b1, Blk.cells [.v (.bool a1.gSome), .v (.int .i64 a1.gLo), .v (.int .i64 a1.gHi)] 23), (b2, Blk.cells [.v (.bool a2.gSome), .v (.int .i64 a2.gLo), .v (.int .i64 a2.gHi)] 23), (b3, Blk.cells [.v (.bool x162.gSome), .v (.int .i64 x162.gLo), .v (.int .i64 x162.gHi)] 23)]) 2 htab rfl rfl rfl rfl rfl rfl rfl rfl rfl rfl rfl rfl ?_
              refine ops_nil ?_
              refine then_normal ?_
              refine wpD_ret ?_
              have er163 := yes_eq hm; subst er163
              refine retX.of (s' := ⟨[(6, .ptr b3 0)], [(b3, Blk.cells [.v (.bool x162.gSome), .v (.int .i64 x162.gLo), .v (.int .i64 x162.gHi)] 23)], []⟩) (WkS.perm (WkS.cons rfl (Wk.refl _) (WkS.nil)) ((perm_at (j := 2) rfl).trans (List.Perm.cons _ (List.Perm.refl _))) (List.Perm.refl _)) (retD_mk (hh := []) (.inl rfl) (resL_cons (resOne_cell 0 rfl rfl rfl rfl) (resL_nil)) (List.nil_sublist _) (List.Sublist.refl _) ?_)
              exact ⟨rfl, rfl, rfl⟩
noncomputable def r04_One (a0 : Int) (a1 : TApiSpan) : Option (TApiSpan) :=
  ((r03_None a1).bind fun x3 => (bif x3 then some (⟨false, (0 : Int), (0 : Int)⟩ : TApiSpan) else (bif (a0 == (5 : Int)) then ((r03_Make (0 : Int) (0 : Int)).bind fun x11 => ((r04_Do (11 : Int) x11 a1).bind fun x12 => some x12)) else (bif (a0 == (6 : Int)) then ((r03_Has a1 (0 : Int)).bind fun x15 => (bif (a1.gLo != (0 : Int)) then ((r04_truth x15 true).bind fun x17 => some x17) else ((r04_truth x15 (a1.gHi != (0 : Int))).bind fun x19 => some x19))) else some (⟨false, (0 : Int), (0 : Int)⟩ : TApiSpan)))))
set_option maxRecDepth 100000 in
set_option maxHeartbeats 2000000 in
theorem r04_One_ok (a0 : Int) (a1 : TApiSpan) (r : TApiSpan) (h0 : r04_One a0 a1 = some r) : CallsD Try.prog 13 [.v (.int .i64 a0), eTApiSpan a1] [] [] (fun d h k => d = eTApiSpan r ∧ h = [] ∧ k = []) := by
  have hm := yes_of h0
  unfold r04_One at hm
  clear h0
  refine enterX htab Try.func13 rfl rfl rfl rfl rfl (fun C => ?_)
  refine wpD_seq ?_
  refine wpD_region ?_
  refine p_box rfl rfl rfl rfl rfl rfl rfl (fun b1 => ?_)
  refine p_alloc htab rfl rfl rfl rfl rfl rfl rfl (fun b2 => ?_)
  refine ops_nil ?_
  refine then_normal ?_
  refine wpD_seq ?_
  refine wpD_seq ?_
  refine wpD_region ?_
  refine p_load (d := eTApiSpan a1) 0 htab rfl rfl rfl rfl rfl rfl rfl rfl ?_
  obtain ⟨x3, q3, hm⟩ := yes_bind hm
  refine p_call0 (r03_None_ok a1 x3 q3) rfl rfl rfl rfl rfl (WkL.refl _) ?_
  rintro _ rfl
  refine ops_nil ?_
  refine then_normal ?_
  refine wpD_cond rfl (fun hc5 => ?_) (fun hc5 => ?_)
  · replace hm := yes_t hc5 hm
    refine wpD_seq ?_
    refine wpD_region ?_
    refine p_build (r := [.v (.bool false), .v (.int .i64 (0 : Int)), .v (.int .i64 (0 : Int))]) htab rfl rfl rfl rfl rfl rfl rfl rfl rfl ?_
    refine p_store (ds' := [.v (.bool false), .v (.int .i64 (0 : Int)), .v (.int .i64 (0 : Int))]) (h' := [(b1, Blk.cells [.v (.bool a1.gSome), .v (.int .i64 a1.gLo), .v (.int .i64 a1.gHi)] 23), (b2, Blk.cells [.v (.bool false), .v (.int .i64 (0 : Int)), .v (.int .i64 (0 : Int))] 23)]) 1 htab rfl rfl rfl rfl rfl rfl rfl rfl rfl rfl rfl rfl ?_
    refine ops_nil ?_
    refine then_normal ?_
    refine wpD_ret ?_
    refine then_ret ?_
    have er6 := yes_eq hm; subst er6
    refine retX.of (s' := ⟨[(4, .ptr b2 0)], [(b2, Blk.cells [.v (.bool false), .v (.int .i64 (0 : Int)), .v (.int .i64 (0 : Int))] 23)], []⟩) (WkS.perm (WkS.cons rfl (Wk.refl _) (WkS.nil)) ((perm_at (j := 1) rfl).trans (List.Perm.cons _ (List.Perm.refl _))) (List.Perm.refl _)) (retD_mk (hh := []) (.inl rfl) (resL_cons (resOne_cell 0 rfl rfl rfl rfl) (resL_nil)) (List.nil_sublist _) (List.Sublist.refl _) ?_)
    exact ⟨rfl, rfl, rfl⟩
  · replace hm := yes_f hc5 hm
    refine wpD_skip ?_
    refine then_normal ?_
    refine wpD_seq ?_
    refine wpD_seq ?_
    refine wpD_region ?_
    refine p_pure htab rfl rfl rfl rfl ?_
    refine p_pure htab rfl rfl rfl rfl ?_
    refine ops_nil ?_
    refine then_normal ?_
    refine wpD_cond rfl (fun hc10 => ?_) (fun hc10 => ?_)
    · replace hm := yes_t hc10 hm
      refine wpD_seq ?_
      obtain ⟨x11, q11, hm⟩ := yes_bind hm
      refine wpD_draws 2 [] [[],[]] [0,1] [[],[],[0,1],[0,1,2]] (by kernel_rfl) (by kernel_rfl) (by kernel_rfl) (by rfl) (by rfl) (by kernel_rfl) ?_
      apply Exists.intro
      apply Exists.intro
      intro bs
      refine z_call rfl rfl (r03_Make_ok (0 : Int) (0 : Int) x11 q11) rfl rfl (WkL.refl _) rfl rfl rfl rfl rfl rfl ?_
      refine z_eM rfl rfl (xm_load (d := eTApiSpan a1) 0 htab rfl rfl rfl rfl rfl) rfl rfl rfl rfl rfl rfl ?_
      refine z_nil rfl rfl (fun e he => by simp [isAl] at he) ?_
      obtain ⟨x12, q12, hm⟩ := yes_bind hm
      refine p_call0 (r04_Do_ok (11 : Int) x11 a1 x12 q12) rfl rfl rfl rfl rfl (WkL.refl _) ?_
      rintro _ rfl
      refine p_store (ds' := [.v (.bool x12.gSome), .v (.int .i64 x12.gLo), .v (.int .i64 x12.gHi)]) (h' := [(b1, Blk.cells [.v (.bool a1.gSome), .v (.int .i64 a1.gLo), .v (.int .i64 a1.gHi)] 23), (b2, Blk.cells [.v (.bool x12.gSome), .v (.int .i64 x12.gLo), .v (.int .i64 x12.gHi)] 23)]) 1 htab rfl rfl rfl rfl rfl rfl rfl rfl rfl rfl rfl rfl ?_
      refine ops_nil ?_
      refine then_normal ?_
      refine wpD_ret ?_
      refine then_ret ?_
      have er13 := yes_eq hm; subst er13
      refine retX.of (s' := ⟨[(4, .ptr b2 0)], [(b2, Blk.cells [.v (.bool x12.gSome), .v (.int .i64 x12.gLo), .v (.int .i64 x12.gHi)] 23)], []⟩) (WkS.perm (WkS.cons rfl (Wk.refl _) (WkS.nil)) ((perm_at (j := 1) rfl).trans (List.Perm.cons _ (List.Perm.refl _))) (List.Perm.refl _)) (retD_mk (hh := []) (.inl rfl) (resL_cons (resOne_cell 0 rfl rfl rfl rfl) (resL_nil)) (List.nil_sublist _) (List.Sublist.refl _) ?_)
      exact ⟨rfl, rfl, rfl⟩
    · replace hm := yes_f hc10 hm
      refine wpD_skip ?_
      refine then_normal ?_
      refine wpD_seq ?_
      refine wpD_seq ?_
      refine wpD_region ?_
      refine p_pure htab rfl rfl rfl rfl ?_
      refine p_pure htab rfl rfl rfl rfl ?_
      refine ops_nil ?_
      refine then_normal ?_
      refine wpD_cond rfl (fun hc14 => ?_) (fun hc14 => ?_)
      · replace hm := yes_t hc14 hm
        refine wpD_seq ?_
        obtain ⟨x15, q15, hm⟩ := yes_bind hm
        refine wpD_draws 5 [] [[],[0],[],[2],[2]] [0,1,2] [[],[0],[],[2],[2,3],[0,1,2,3,4],[0,1,2,3,4,5],[0,1,2,3,4,5,6],[0,1,2,3,4,5,6,7],[0,1,2,3,4,5,6,7,8],[0,1,2,3,4,5,6,7,8,9],[0,1,2,3,4,5,6,7,8,9,10]] (by kernel_rfl) (by kernel_rfl) (by kernel_rfl) (by rfl) (by rfl) (by kernel_rfl) ?_
        apply Exists.intro
        apply Exists.intro
        apply Exists.intro
        intro bs
        refine z_eM rfl rfl (xm_load (d := eTApiSpan a1) 0 htab rfl rfl rfl rfl rfl) rfl rfl rfl rfl rfl rfl ?_
        refine z_call rfl rfl (r03_Has_ok a1 (0 : Int) x15 q15) rfl rfl (WkL.refl _) rfl rfl rfl rfl rfl rfl ?_
        refine z_e rfl rfl (ex_pure htab rfl) rfl rfl rfl rfl rfl rfl ?_
        refine z_qM rfl rfl (xm_load 0 htab rfl rfl rfl rfl rfl) rfl rfl rfl rfl rfl rfl ?_
        refine z_q rfl rfl (ex_pure htab rfl) rfl rfl rfl rfl rfl rfl ?_
        refine z_nil rfl rfl (fun e he => by simp [isAl] at he) ?_
        refine p_pure htab rfl rfl rfl rfl ?_
        refine p_split (i := 20) rfl (fun hg16 => ?_) (fun hg16 => ?_)
        · replace hm := yes_t hg16 hm
          refine p_skip rfl rfl rfl ?_
          refine p_skip rfl rfl rfl ?_
          refine p_skip rfl rfl rfl ?_
          refine p_pickT rfl rfl rfl rfl rfl rfl ?_
          obtain ⟨x17, q17, hm⟩ := yes_bind hm
          refine p_call0 (r04_truth_ok x15 true x17 q17) rfl rfl rfl rfl rfl (WkL.refl _) ?_
          rintro _ rfl
          refine p_store (ds' := [.v (.bool x17.gSome), .v (.int .i64 x17.gLo), .v (.int .i64 x17.gHi)]) (h' := [(b1, Blk.cells [.v (.bool a1.gSome), .v (.int .i64 a1.gLo), .v (.int .i64 a1.gHi)] 23), (b2, Blk.cells [.v (.bool x17.gSome), .v (.int .i64 x17.gLo), .v (.int .i64 x17.gHi)] 23)]) 1 htab rfl rfl rfl rfl rfl rfl rfl rfl rfl rfl rfl rfl ?_
          refine ops_nil ?_
          refine then_normal ?_
          refine wpD_ret ?_
          refine then_ret ?_
          have er18 := yes_eq hm; subst er18
          refine retX.of (s' := ⟨[(4, .ptr b2 0)], [(b2, Blk.cells [.v (.bool x17.gSome), .v (.int .i64 x17.gLo), .v (.int .i64 x17.gHi)] 23)], []⟩) (WkS.perm (WkS.cons rfl (Wk.refl _) (WkS.nil)) ((perm_at (j := 1) rfl).trans (List.Perm.cons _ (List.Perm.refl _))) (List.Perm.refl _)) (retD_mk (hh := []) (.inl rfl) (resL_cons (resOne_cell 0 rfl rfl rfl rfl) (resL_nil)) (List.nil_sublist _) (List.Sublist.refl _) ?_)
          exact ⟨rfl, rfl, rfl⟩
        · replace hm := yes_f hg16 hm
          refine p_pure htab rfl rfl rfl rfl ?_
          refine p_load 0 htab rfl rfl rfl rfl rfl rfl rfl rfl ?_
          refine p_pure htab rfl rfl rfl rfl ?_
          refine p_pickF rfl rfl rfl rfl rfl rfl ?_
          obtain ⟨x19, q19, hm⟩ := yes_bind hm
          refine p_call0 (r04_truth_ok x15 (a1.gHi != (0 : Int)) x19 q19) rfl rfl rfl rfl rfl (WkL.refl _) ?_
          rintro _ rfl
          refine p_store (ds' := [.v (.bool x19.gSome), .v (.int .i64 x19.gLo), .v (.int .i64 x19.gHi)]) (h' := [(b1, Blk.cells [.v (.bool a1.gSome), .v (.int .i64 a1.gLo), .v (.int .i64 a1.gHi)] 23), (b2, Blk.cells [.v (.bool x19.gSome), .v (.int .i64 x19.gLo), .v (.int .i64 x19.gHi)] 23)]) 1 htab rfl rfl rfl rfl rfl rfl rfl rfl rfl rfl rfl rfl ?_
          refine ops_nil ?_
          refine then_normal ?_
          refine wpD_ret ?_
          refine then_ret ?_
          have er20 := yes_eq hm; subst er20
          refine retX.of (s' := ⟨[(4, .ptr b2 0)], [(b2, Blk.cells [.v (.bool x19.gSome), .v (.int .i64 x19.gLo), .v (.int .i64 x19.gHi)] 23)], []⟩) (WkS.perm (WkS.cons rfl (Wk.refl _) (WkS.nil)) ((perm_at (j := 1) rfl).trans (List.Perm.cons _ (List.Perm.refl _))) (List.Perm.refl _)) (retD_mk (hh := []) (.inl rfl) (resL_cons (resOne_cell 0 rfl rfl rfl rfl) (resL_nil)) (List.nil_sublist _) (List.Sublist.refl _) ?_)
          exact ⟨rfl, rfl, rfl⟩
      · replace hm := yes_f hc14 hm
        refine wpD_skip ?_
        refine then_normal ?_
        refine wpD_seq ?_
        refine wpD_region ?_
        refine p_build (r := [.v (.bool false), .v (.int .i64 (0 : Int)), .v (.int .i64 (0 : Int))]) htab rfl rfl rfl rfl rfl rfl rfl rfl rfl ?_
        refine p_store (ds' := [.v (.bool false), .v (.int .i64 (0 : Int)), .v (.int .i64 (0 : Int))]) (h' := [(b1, Blk.cells [.v (.bool a1.gSome), .v (.int .i64 a1.gLo), .v (.int .i64 a1.gHi)] 23), (b2, Blk.cells [.v (.bool false), .v (.int .i64 (0 : Int)), .v (.int .i64 (0 : Int))] 23)]) 1 htab rfl rfl rfl rfl rfl rfl rfl rfl rfl rfl rfl rfl ?_
        refine ops_nil ?_
        refine then_normal ?_
        refine wpD_ret ?_
        have er21 := yes_eq hm; subst er21
        refine retX.of (s' := ⟨[(4, .ptr b2 0)], [(b2, Blk.cells [.v (.bool false), .v (.int .i64 (0 : Int)), .v (.int .i64 (0 : Int))] 23)], []⟩) (WkS.perm (WkS.cons rfl (Wk.refl _) (WkS.nil)) ((perm_at (j := 1) rfl).trans (List.Perm.cons _ (List.Perm.refl _))) (List.Perm.refl _)) (retD_mk (hh := []) (.inl rfl) (resL_cons (resOne_cell 0 rfl rfl rfl rfl) (resL_nil)) (List.nil_sublist _) (List.Sublist.refl _) ?_)
        exact ⟨rfl, rfl, rfl⟩
end Go.Proofs.Ytebnbajjenpldaa.Ab
