/- Layer 6: the document's. -/
import Derived.Test.YtjbpfgknhpdkaaaRs1
namespace Go.Proofs.Ytjbpfgknhpdkaaa.Ab
open Go
set_option linter.all false
structure TSondagelaw06Told where
  gOp : Int
  gA : TApiCong
  gB : TApiCong
  gWraps : Bool
def eTSondagelaw06Told (x : TSondagelaw06Told) : D := .agg [.v (.int .i64 x.gOp), .v (.bool x.gA.gSome), .v (.int .i64 x.gA.gM), .v (.int .i64 x.gA.gR), .v (.bool x.gB.gSome), .v (.int .i64 x.gB.gM), .v (.int .i64 x.gB.gR), .v (.bool x.gWraps)]
structure TSondagelaw06Case where
  gOp : Int
  gA : TApiCong
  gB : TApiCong
def eTSondagelaw06Case (x : TSondagelaw06Case) : D := .agg [.v (.int .i64 x.gOp), .v (.bool x.gA.gSome), .v (.int .i64 x.gA.gM), .v (.int .i64 x.gA.gR), .v (.bool x.gB.gSome), .v (.int .i64 x.gB.gM), .v (.int .i64 x.gB.gR)]
structure TSondagelaw06Ints where
  gC : TSondagelaw06Case
  gX : Int
  gY : Int
  gTold : Bool
def eTSondagelaw06Ints (x : TSondagelaw06Ints) : D := .agg [.v (.int .i64 x.gC.gOp), .v (.bool x.gC.gA.gSome), .v (.int .i64 x.gC.gA.gM), .v (.int .i64 x.gC.gA.gR), .v (.bool x.gC.gB.gSome), .v (.int .i64 x.gC.gB.gM), .v (.int .i64 x.gC.gB.gR), .v (.int .i64 x.gX), .v (.int .i64 x.gY), .v (.bool x.gTold)]
noncomputable def r01_Digits (a0 : TApiWide) : Option (T8Uint64) :=
  (Option.bind (α := Int × Int × Int × Int × Int × Int × Int × Int) (loopM (fun (s15 : Int × Int × Int × Int × Int × Int × Int × Int × Int × Int × Int) => (bif (decide (s15.2.2.1 < (4 : Int))) then ((need (inA s15.2.2.1 8)).bind fun x22 => ((need (inA (IntKind.i64.wrap (s15.2.2.1 + (4 : Int))) 8)).bind fun x23 => some (.next ((IntKind.u64.wrap (s15.1.tdiv (65536 : Int))), (IntKind.u64.wrap (s15.2.1.tdiv (65536 : Int))), (IntKind.i64.wrap (s15.2.2.1 + (1 : Int))), (putA (IntKind.i64.wrap (s15.2.2.1 + (4 : Int))) 0 (s15.2.1.tmod (65536 : Int)) (putA s15.2.2.1 0 (s15.1.tmod (65536 : Int)) s15.2.2.2.1)), (putA (IntKind.i64.wrap (s15.2.2.1 + (4 : Int))) 1 (s15.2.1.tmod (65536 : Int)) (putA s15.2.2.1 1 (s15.1.tmod (65536 : Int)) s15.2.2.2.2.1)), (putA (IntKind.i64.wrap (s15.2.2.1 + (4 : Int))) 2 (s15.2.1.tmod (65536 : Int)) (putA s15.2.2.1 2 (s15.1.tmod (65536 : Int)) s15.2.2.2.2.2.1)), (putA (IntKind.i64.wrap (s15.2.2.1 + (4 : Int))) 3 (s15.2.1.tmod (65536 : Int)) (putA s15.2.2.1 3 (s15.1.tmod (65536 : Int)) s15.2.2.2.2.2.2.1)), (putA (IntKind.i64.wrap (s15.2.2.1 + (4 : Int))) 4 (s15.2.1.tmod (65536 : Int)) (putA s15.2.2.1 4 (s15.1.tmod (65536 : Int)) s15.2.2.2.2.2.2.2.1)), (putA (IntKind.i64.wrap (s15.2.2.1 + (4 : Int))) 5 (s15.2.1.tmod (65536 : Int)) (putA s15.2.2.1 5 (s15.1.tmod (65536 : Int)) s15.2.2.2.2.2.2.2.2.1)), (putA (IntKind.i64.wrap (s15.2.2.1 + (4 : Int))) 6 (s15.2.1.tmod (65536 : Int)) (putA s15.2.2.1 6 (s15.1.tmod (65536 : Int)) s15.2.2.2.2.2.2.2.2.2.1)), (putA (IntKind.i64.wrap (s15.2.2.1 + (4 : Int))) 7 (s15.2.1.tmod (65536 : Int)) (putA s15.2.2.1 7 (s15.1.tmod (65536 : Int)) s15.2.2.2.2.2.2.2.2.2.2)))))) else some (.done (s15.2.2.2.1, s15.2.2.2.2.1, s15.2.2.2.2.2.1, s15.2.2.2.2.2.2.1, s15.2.2.2.2.2.2.2.1, s15.2.2.2.2.2.2.2.2.1, s15.2.2.2.2.2.2.2.2.2.1, s15.2.2.2.2.2.2.2.2.2.2)))) (a0.gLo, (IntKind.u64.wrap a0.gHi), (0 : Int), (0 : Int), (0 : Int), (0 : Int), (0 : Int), (0 : Int), (0 : Int), (0 : Int), (0 : Int))) fun y14 => some (⟨y14.1, y14.2.1, y14.2.2.1, y14.2.2.2.1, y14.2.2.2.2.1, y14.2.2.2.2.2.1, y14.2.2.2.2.2.2.1, y14.2.2.2.2.2.2.2⟩ : T8Uint64))
set_option maxRecDepth 100000 in
set_option maxHeartbeats 2000000 in
theorem r01_Digits_ok (a0 : TApiWide) (r : T8Uint64) (h0 : r01_Digits a0 = some r) : CallsD Try.prog 62 [eTApiWide a0] [] [] (fun d h k => d = eT8Uint64 r ∧ h = [] ∧ k = []) := by
  have hm := yes_of h0
  unfold r01_Digits at hm
  clear h0
  refine enterX htab Try.func62 rfl rfl rfl rfl rfl (fun C => ?_)
  refine wpD_seq ?_
  refine wpD_region ?_
  refine p_box rfl rfl rfl rfl rfl rfl rfl (fun b1 => ?_)
  refine p_alloc htab rfl rfl rfl rfl rfl rfl rfl (fun b2 => ?_)
  refine ops_nil ?_
  refine then_normal ?_
  refine wpD_seq ?_
  refine wpD_region ?_
  refine p_alloc htab rfl rfl rfl rfl rfl rfl rfl (fun b3 => ?_)
  refine ops_nil ?_
  refine then_normal ?_
  refine wpD_seq ?_
  refine wpD_draws 6 [] [[],[0],[],[2],[2],[0]] [0,2] [[],[0],[],[2],[2,3],[0,1],[0,1,2,3,4,5]] (by kernel_rfl) (by kernel_rfl) (by kernel_rfl) (by rfl) (by rfl) (by kernel_rfl) ?_
  apply Exists.intro
  apply Exists.intro
  intro bs
  refine z_e rfl rfl (ex_pure htab rfl) rfl rfl rfl rfl rfl rfl ?_
  refine z_qM rfl rfl (xm_load 0 htab rfl rfl rfl rfl rfl) rfl rfl rfl rfl rfl rfl ?_
  refine z_e rfl rfl (ex_pure htab rfl) rfl rfl rfl rfl rfl rfl ?_
  refine z_qM rfl rfl (xm_load 0 htab rfl rfl rfl rfl rfl) rfl rfl rfl rfl rfl rfl ?_
  refine z_q rfl rfl (ex_pure htab rfl) rfl rfl rfl rfl rfl rfl ?_
  refine z_q rfl rfl (ex_pure htab rfl) rfl rfl rfl rfl rfl rfl ?_
  refine z_nil rfl rfl (fun e he => by simp [isAl] at he) ?_
  refine p_pure htab rfl rfl rfl rfl ?_
  refine ops_nil ?_
  refine then_normal ?_
  refine wpD_seq ?_
  refine wpD_seq ?_
  refine wpD_region ?_
  refine p_pure htab rfl rfl rfl rfl ?_
  refine ops_nil ?_
  refine then_normal ?_
  obtain ⟨y14, q14, ho14⟩ := yes_bind hm
  refine wpD_mid (Y := Unit) (fun z14 => (⟨[(2, .ptr b2 0), (3, .ptr b3 0)], [(b1, Blk.cells [.v (.int .i64 a0.gHi), .v (.int .u64 a0.gLo)] 54), (b2, Blk.cells [.v (.int .u64 (0 : Int)), .v (.int .u64 (0 : Int)), .v (.int .u64 (0 : Int)), .v (.int .u64 (0 : Int)), .v (.int .u64 (0 : Int)), .v (.int .u64 (0 : Int)), .v (.int .u64 (0 : Int)), .v (.int .u64 (0 : Int))] 75), (b3, Blk.cells [.v (.int .u64 y14.1), .v (.int .u64 y14.2.1), .v (.int .u64 y14.2.2.1), .v (.int .u64 y14.2.2.2.1), .v (.int .u64 y14.2.2.2.2.1), .v (.int .u64 y14.2.2.2.2.2.1), .v (.int .u64 y14.2.2.2.2.2.2.1), .v (.int .u64 y14.2.2.2.2.2.2.2)] 75)], []⟩ : S)) ?_ ?_
  · clear hm; have hm := yes_of q14
    refine wpD_block ?_
    obtain ⟨u15, hl15, hq15⟩ := yes_m hm
    refine loop_M (Y := Unit) hl15 (fun s15 z15 => (⟨[(2, .ptr b2 0), (3, .ptr b3 0), (4, .v (.int .u64 s15.1)), (5, .v (.int .u64 s15.2.1)), (6, .v (.int .i64 s15.2.2.1))], [(b1, Blk.cells [.v (.int .i64 a0.gHi), .v (.int .u64 a0.gLo)] 54), (b2, Blk.cells [.v (.int .u64 (0 : Int)), .v (.int .u64 (0 : Int)), .v (.int .u64 (0 : Int)), .v (.int .u64 (0 : Int)), .v (.int .u64 (0 : Int)), .v (.int .u64 (0 : Int)), .v (.int .u64 (0 : Int)), .v (.int .u64 (0 : Int))] 75), (b3, Blk.cells [.v (.int .u64 s15.2.2.2.1), .v (.int .u64 s15.2.2.2.2.1), .v (.int .u64 s15.2.2.2.2.2.1), .v (.int .u64 s15.2.2.2.2.2.2.1), .v (.int .u64 s15.2.2.2.2.2.2.2.1), .v (.int .u64 s15.2.2.2.2.2.2.2.2.1), .v (.int .u64 s15.2.2.2.2.2.2.2.2.2.1), .v (.int .u64 s15.2.2.2.2.2.2.2.2.2.2)] 75)], []⟩ : S)) ?_ ?_
    · skip
      exact WkX.of () (WkS.perm (WkS.cons rfl (Wk.refl _) (WkS.cons rfl (Wk.refl _) (WkS.cons rfl (Wk.refl _) (WkS.cons rfl (Wk.refl _) (WkS.cons rfl (Wk.refl _) (WkS.nil)))))) (List.Perm.refl _) (List.Perm.refl _))
    · intro G15 s15 z15 hm
      refine wpD_seq ?_
      refine wpD_seq ?_
      refine wpD_region ?_
      refine p_pure htab rfl rfl rfl rfl ?_
      refine p_pure htab rfl rfl rfl rfl ?_
      refine ops_nil ?_
      refine then_normal ?_
      refine wpD_cond rfl (fun hc21 => ?_) (fun hc21 => ?_)
      · replace hm := yes_t hc21 hm
        refine wpD_skip ?_
        refine then_normal ?_
        refine wpD_seq ?_
        refine wpD_block ?_
        refine wpD_seq ?_
        refine wpD_region ?_
        refine p_pure htab rfl rfl rfl rfl ?_
        refine p_pure htab rfl rfl rfl rfl ?_
        refine p_div rfl rfl rfl rfl rfl rfl rfl (by decide) ?_
        obtain ⟨x22, q22, hm⟩ := yes_bind hm
        refine p_elemA htab rfl rfl rfl rfl rfl rfl rfl rfl rfl (inA_lo q22) (inA_hi q22) ?_
        refine p_store (ds' := [.v (.int .u64 (putA s15.2.2.1 0 (s15.1.tmod (65536 : Int)) s15.2.2.2.1)), .v (.int .u64 (putA s15.2.2.1 1 (s15.1.tmod (65536 : Int)) s15.2.2.2.2.1)), .v (.int .u64 (putA s15.2.2.1 2 (s15.1.tmod (65536 : Int)) s15.2.2.2.2.2.1)), .v (.int .u64 (putA s15.2.2.1 3 (s15.1.tmod (65536 : Int)) s15.2.2.2.2.2.2.1)), .v (.int .u64 (putA s15.2.2.1 4 (s15.1.tmod (65536 : Int)) s15.2.2.2.2.2.2.2.1)), .v (.int .u64 (putA s15.2.2.1 5 (s15.1.tmod (65536 : Int)) s15.2.2.2.2.2.2.2.2.1)), .v (.int .u64 (putA s15.2.2.1 6 (s15.1.tmod (65536 : Int)) s15.2.2.2.2.2.2.2.2.2.1)), .v (.int .u64 (putA s15.2.2.1 7 (s15.1.tmod (65536 : Int)) s15.2.2.2.2.2.2.2.2.2.2))]) (h' := [(b1, Blk.cells [.v (.int .i64 a0.gHi), .v (.int .u64 a0.gLo)] 54), (b2, Blk.cells [.v (.int .u64 (0 : Int)), .v (.int .u64 (0 : Int)), .v (.int .u64 (0 : Int)), .v (.int .u64 (0 : Int)), .v (.int .u64 (0 : Int)), .v (.int .u64 (0 : Int)), .v (.int .u64 (0 : Int)), .v (.int .u64 (0 : Int))] 75), (b3, Blk.cells [.v (.int .u64 (putA s15.2.2.1 0 (s15.1.tmod (65536 : Int)) s15.2.2.2.1)), .v (.int .u64 (putA s15.2.2.1 1 (s15.1.tmod (65536 : Int)) s15.2.2.2.2.1)), .v (.int .u64 (putA s15.2.2.1 2 (s15.1.tmod (65536 : Int)) s15.2.2.2.2.2.1)), .v (.int .u64 (putA s15.2.2.1 3 (s15.1.tmod (65536 : Int)) s15.2.2.2.2.2.2.1)), .v (.int .u64 (putA s15.2.2.1 4 (s15.1.tmod (65536 : Int)) s15.2.2.2.2.2.2.2.1)), .v (.int .u64 (putA s15.2.2.1 5 (s15.1.tmod (65536 : Int)) s15.2.2.2.2.2.2.2.2.1)), .v (.int .u64 (putA s15.2.2.1 6 (s15.1.tmod (65536 : Int)) s15.2.2.2.2.2.2.2.2.2.1)), .v (.int .u64 (putA s15.2.2.1 7 (s15.1.tmod (65536 : Int)) s15.2.2.2.2.2.2.2.2.2.2))] 75)]) 2 htab rfl rfl rfl rfl rfl rfl rfl rfl rfl (ble_at (n := 8) (inA_lo q22) (inA_hi q22) (Nat.le_of_ble_eq_true rfl)) (lay_at (xs := [s15.2.2.2.1, s15.2.2.2.2.1, s15.2.2.2.2.2.1, s15.2.2.2.2.2.2.1, s15.2.2.2.2.2.2.2.1, s15.2.2.2.2.2.2.2.2.1, s15.2.2.2.2.2.2.2.2.2.1, s15.2.2.2.2.2.2.2.2.2.2]) (pre := []) (post := []) (inA_lo q22) (inA_hi q22)) rfl ?_
        refine ops_nil ?_
        refine then_normal ?_
        refine wpD_seq ?_
        refine wpD_region ?_
        refine p_pure htab rfl rfl rfl rfl ?_
        refine p_pure htab rfl rfl rfl rfl ?_
        refine p_pure htab rfl rfl rfl rfl ?_
        refine p_div rfl rfl rfl rfl rfl rfl rfl (by decide) ?_
        obtain ⟨x23, q23, hm⟩ := yes_bind hm
        refine p_elemA htab rfl rfl rfl rfl rfl rfl rfl rfl rfl (inA_lo q23) (inA_hi q23) ?_
        refine p_store (ds' := [.v (.int .u64 (putA (IntKind.i64.wrap (s15.2.2.1 + (4 : Int))) 0 (s15.2.1.tmod (65536 : Int)) (putA s15.2.2.1 0 (s15.1.tmod (65536 : Int)) s15.2.2.2.1))), .v (.int .u64 (putA (IntKind.i64.wrap (s15.2.2.1 + (4 : Int))) 1 (s15.2.1.tmod (65536 : Int)) (putA s15.2.2.1 1 (s15.1.tmod (65536 : Int)) s15.2.2.2.2.1))), .v (.int .u64 (putA (IntKind.i64.wrap (s15.2.2.1 + (4 : Int))) 2 (s15.2.1.tmod (65536 : Int)) (putA s15.2.2.1 2 (s15.1.tmod (65536 : Int)) s15.2.2.2.2.2.1))), .v (.int .u64 (putA (IntKind.i64.wrap (s15.2.2.1 + (4 : Int))) 3 (s15.2.1.tmod (65536 : Int)) (putA s15.2.2.1 3 (s15.1.tmod (65536 : Int)) s15.2.2.2.2.2.2.1))), .v (.int .u64 (putA (IntKind.i64.wrap (s15.2.2.1 + (4 : Int))) 4 (s15.2.1.tmod (65536 : Int)) (putA s15.2.2.1 4 (s15.1.tmod (65536 : Int)) s15.2.2.2.2.2.2.2.1))), .v (.int .u64 (putA (IntKind.i64.wrap (s15.2.2.1 + (4 : Int))) 5 (s15.2.1.tmod (65536 : Int)) (putA s15.2.2.1 5 (s15.1.tmod (65536 : Int)) s15.2.2.2.2.2.2.2.2.1))), .v (.int .u64 (putA (IntKind.i64.wrap (s15.2.2.1 + (4 : Int))) 6 (s15.2.1.tmod (65536 : Int)) (putA s15.2.2.1 6 (s15.1.tmod (65536 : Int)) s15.2.2.2.2.2.2.2.2.2.1))), .v (.int .u64 (putA (IntKind.i64.wrap (s15.2.2.1 + (4 : Int))) 7 (s15.2.1.tmod (65536 : Int)) (putA s15.2.2.1 7 (s15.1.tmod (65536 : Int)) s15.2.2.2.2.2.2.2.2.2.2)))]) (h' := [(b1, Blk.cells [.v (.int .i64 a0.gHi), .v (.int .u64 a0.gLo)] 54), (b2, Blk.cells [.v (.int .u64 (0 : Int)), .v (.int .u64 (0 : Int)), .v (.int .u64 (0 : Int)), .v (.int .u64 (0 : Int)), .v (.int .u64 (0 : Int)), .v (.int .u64 (0 : Int)), .v (.int .u64 (0 : Int)), .v (.int .u64 (0 : Int))] 75), (b3, Blk.cells [.v (.int .u64 (putA (IntKind.i64.wrap (s15.2.2.1 + (4 : Int))) 0 (s15.2.1.tmod (65536 : Int)) (putA s15.2.2.1 0 (s15.1.tmod (65536 : Int)) s15.2.2.2.1))), .v (.int .u64 (putA (IntKind.i64.wrap (s15.2.2.1 + (4 : Int))) 1 (s15.2.1.tmod (65536 : Int)) (putA s15.2.2.1 1 (s15.1.tmod (65536 : Int)) s15.2.2.2.2.1))), .v (.int .u64 (putA (IntKind.i64.wrap (s15.2.2.1 + (4 : Int))) 2 (s15.2.1.tmod (65536 : Int)) (putA s15.2.2.1 2 (s15.1.tmod (65536 : Int)) s15.2.2.2.2.2.1))), .v (.int .u64 (putA (IntKind.i64.wrap (s15.2.2.1 + (4 : Int))) 3 (s15.2.1.tmod (65536 : Int)) (putA s15.2.2.1 3 (s15.1.tmod (65536 : Int)) s15.2.2.2.2.2.2.1))), .v (.int .u64 (putA (IntKind.i64.wrap (s15.2.2.1 + (4 : Int))) 4 (s15.2.1.tmod (65536 : Int)) (putA s15.2.2.1 4 (s15.1.tmod (65536 : Int)) s15.2.2.2.2.2.2.2.1))), .v (.int .u64 (putA (IntKind.i64.wrap (s15.2.2.1 + (4 : Int))) 5 (s15.2.1.tmod (65536 : Int)) (putA s15.2.2.1 5 (s15.1.tmod (65536 : Int)) s15.2.2.2.2.2.2.2.2.1))), .v (.int .u64 (putA (IntKind.i64.wrap (s15.2.2.1 + (4 : Int))) 6 (s15.2.1.tmod (65536 : Int)) (putA s15.2.2.1 6 (s15.1.tmod (65536 : Int)) s15.2.2.2.2.2.2.2.2.2.1))), .v (.int .u64 (putA (IntKind.i64.wrap (s15.2.2.1 + (4 : Int))) 7 (s15.2.1.tmod (65536 : Int)) (putA s15.2.2.1 7 (s15.1.tmod (65536 : Int)) s15.2.2.2.2.2.2.2.2.2.2)))] 75)]) 2 htab rfl rfl rfl rfl rfl rfl rfl rfl rfl (ble_at (n := 8) (inA_lo q23) (inA_hi q23) (Nat.le_of_ble_eq_true rfl)) (lay_at (xs := [(putA s15.2.2.1 0 (s15.1.tmod (65536 : Int)) s15.2.2.2.1), (putA s15.2.2.1 1 (s15.1.tmod (65536 : Int)) s15.2.2.2.2.1), (putA s15.2.2.1 2 (s15.1.tmod (65536 : Int)) s15.2.2.2.2.2.1), (putA s15.2.2.1 3 (s15.1.tmod (65536 : Int)) s15.2.2.2.2.2.2.1), (putA s15.2.2.1 4 (s15.1.tmod (65536 : Int)) s15.2.2.2.2.2.2.2.1), (putA s15.2.2.1 5 (s15.1.tmod (65536 : Int)) s15.2.2.2.2.2.2.2.2.1), (putA s15.2.2.1 6 (s15.1.tmod (65536 : Int)) s15.2.2.2.2.2.2.2.2.2.1), (putA s15.2.2.1 7 (s15.1.tmod (65536 : Int)) s15.2.2.2.2.2.2.2.2.2.2)]) (pre := []) (post := []) (inA_lo q23) (inA_hi q23)) rfl ?_
        refine ops_nil ?_
        refine then_normal ?_
        refine wpD_seq ?_
        refine wpD_region ?_
        refine p_pure htab rfl rfl rfl rfl ?_
        refine p_div rfl rfl rfl rfl rfl rfl rfl (by decide) ?_
        refine p_pure htab rfl rfl rfl rfl ?_
        refine ops_nil ?_
        refine then_normal ?_
        refine wpD_region ?_
        refine p_pure htab rfl rfl rfl rfl ?_
        refine p_div rfl rfl rfl rfl rfl rfl rfl (by decide) ?_
        refine p_pure htab rfl rfl rfl rfl ?_
        refine ops_nil ?_
        refine block_normal ?_
        refine then_normal ?_
        refine wpD_region ?_
        refine p_pure htab rfl rfl rfl rfl ?_
        refine p_pure htab rfl rfl rfl rfl ?_
        refine p_pure htab rfl rfl rfl rfl ?_
        refine ops_nil ?_
        refine then_normal ⟨_, lp_next hm, ?_⟩
        exact WkX.of () (WkS.perm (WkS.cons rfl (Wk.refl _) (WkS.cons rfl (Wk.refl _) (WkS.cons rfl (Wk.refl _) (WkS.cons rfl (Wk.refl _) (WkS.cons rfl (Wk.refl _) (WkS.nil)))))) (List.Perm.refl _) (List.Perm.refl _))
      · replace hm := yes_f hc21 hm
        refine wpD_exit ?_
        refine then_exit ?_
        have e15 := lp_done hm; subst e15; clear hm; have hm := hq15
        refine then_exit ?_
        refine block_hit ?_
        have e14 := yes_eq hm; subst e14
        refine ⟨rfl, ?_⟩
        exact WkX.of () (WkS.perm (WkS.cons rfl (Wk.refl _) (WkS.cons rfl (Wk.refl _) (WkS.nil))) (List.Perm.refl _) (List.Perm.refl _))
  · intro s14 hw14; clear hm; have hm := ho14; clear q14 ho14
    refine then_normal ?_
    refine wpD_wkX hw14 (fun z14 => ?_)
    refine wpD_seq ?_
    refine wpD_region ?_
    refine p_load (d := eT8Uint64 (⟨y14.1, y14.2.1, y14.2.2.1, y14.2.2.2.1, y14.2.2.2.2.1, y14.2.2.2.2.2.1, y14.2.2.2.2.2.2.1, y14.2.2.2.2.2.2.2⟩ : T8Uint64)) 2 htab rfl rfl rfl rfl rfl rfl rfl rfl ?_
    refine p_store (ds' := [.v (.int .u64 y14.1), .v (.int .u64 y14.2.1), .v (.int .u64 y14.2.2.1), .v (.int .u64 y14.2.2.2.1), .v (.int .u64 y14.2.2.2.2.1), .v (.int .u64 y14.2.2.2.2.2.1), .v (.int .u64 y14.2.2.2.2.2.2.1), .v (.int .u64 y14.2.2.2.2.2.2.2)]) (h' := [(b1, Blk.cells [.v (.int .i64 a0.gHi), .v (.int .u64 a0.gLo)] 54), (b2, Blk.cells [.v (.int .u64 y14.1), .v (.int .u64 y14.2.1), .v (.int .u64 y14.2.2.1), .v (.int .u64 y14.2.2.2.1), .v (.int .u64 y14.2.2.2.2.1), .v (.int .u64 y14.2.2.2.2.2.1), .v (.int .u64 y14.2.2.2.2.2.2.1), .v (.int .u64 y14.2.2.2.2.2.2.2)] 75), (b3, Blk.cells [.v (.int .u64 y14.1), .v (.int .u64 y14.2.1), .v (.int .u64 y14.2.2.1), .v (.int .u64 y14.2.2.2.1), .v (.int .u64 y14.2.2.2.2.1), .v (.int .u64 y14.2.2.2.2.2.1), .v (.int .u64 y14.2.2.2.2.2.2.1), .v (.int .u64 y14.2.2.2.2.2.2.2)] 75)]) 1 htab rfl rfl rfl rfl rfl rfl rfl rfl rfl rfl rfl rfl ?_
    refine ops_nil ?_
    refine then_normal ?_
    refine wpD_ret ?_
    have er24 := yes_eq hm; subst er24
    refine retX.of (s' := ⟨[(2, .ptr b2 0)], [(b2, Blk.cells [.v (.int .u64 y14.1), .v (.int .u64 y14.2.1), .v (.int .u64 y14.2.2.1), .v (.int .u64 y14.2.2.2.1), .v (.int .u64 y14.2.2.2.2.1), .v (.int .u64 y14.2.2.2.2.2.1), .v (.int .u64 y14.2.2.2.2.2.2.1), .v (.int .u64 y14.2.2.2.2.2.2.2)] 75)], []⟩) (WkS.perm (WkS.cons rfl (Wk.refl _) (WkS.nil)) ((perm_at (j := 1) rfl).trans (List.Perm.cons _ (List.Perm.refl _))) (List.Perm.refl _)) (retD_mk (hh := []) (.inl rfl) (resL_cons (resOne_cell 0 rfl rfl rfl rfl) (resL_nil)) (List.nil_sublist _) (List.Sublist.refl _) ?_)
    exact ⟨rfl, rfl, rfl⟩
noncomputable def r06_left (a0 : TApiWide) (a1 : Int) : Option (Int) :=
  ((need (pWW a0 (⟨(0 : Int), (0 : Int)⟩ : TApiWide))).bind fun x2 => (Option.bind (α := Int × Int) (bif (decide ((rCmp a0 (⟨(0 : Int), (0 : Int)⟩ : TApiWide)) < (0 : Int))) then ((need (pW a0)).bind fun x7 => some ((rNeg a0).gHi, (rNeg a0).gLo)) else some (a0.gHi, a0.gLo)) fun y5 => ((r01_Digits (⟨y5.1, y5.2⟩ : TApiWide)).bind fun x8 => (Option.bind (α := Int) (loopM (fun (s28 : Int × Int) => (bif (decide ((0 : Int) ≤ s28.2)) then ((need (inA (IntKind.i64.wrap (s28.2.tdiv (16 : Int))) 8)).bind fun x40 => ((idx [x8.g0, x8.g1, x8.g2, x8.g3, x8.g4, x8.g5, x8.g6, x8.g7] (IntKind.i64.wrap (s28.2.tdiv (16 : Int)))).bind fun x41 => ((need (decide (0 ≤ (IntKind.u64.wrap (s28.2.tmod (16 : Int)))))).bind fun x42 => (bif (decide ((IntKind.u64.wrap a1) ≤ (IntKind.u64.wrap ((IntKind.u64.wrap ((2 : Int) * s28.1)) + ((shI .shr .u64 x41 (IntKind.u64.wrap (s28.2.tmod (16 : Int)))).tmod (2 : Int)))))) then some (.next ((IntKind.u64.wrap ((IntKind.u64.wrap ((IntKind.u64.wrap ((2 : Int) * s28.1)) + ((shI .shr .u64 x41 (IntKind.u64.wrap (s28.2.tmod (16 : Int)))).tmod (2 : Int)))) - (IntKind.u64.wrap a1))), (IntKind.i64.wrap (s28.2 - (1 : Int))))) else some (.next ((IntKind.u64.wrap ((IntKind.u64.wrap ((2 : Int) * s28.1)) + ((shI .shr .u64 x41 (IntKind.u64.wrap (s28.2.tmod (16 : Int)))).tmod (2 : Int)))), (IntKind.i64.wrap (s28.2 - (1 : Int))))))))) else some (.done s28.1))) ((0 : Int), (127 : Int))) fun y27 => (Option.bind (α := Bool) (bif (decide ((rCmp a0 (⟨(0 : Int), (0 : Int)⟩ : TApiWide)) < (0 : Int))) then some (decide ((0 : Int) < y27)) else some false) fun y45 => (bif y45 then some (IntKind.i64.wrap (IntKind.u64.wrap ((IntKind.u64.wrap a1) - y27))) else some (IntKind.i64.wrap y27)))))))
set_option maxRecDepth 100000 in
set_option maxHeartbeats 2000000 in
theorem r06_left_ok (a0 : TApiWide) (a1 : Int) (r : Int) (h0 : r06_left a0 a1 = some r) : CallsD Try.prog 30 [eTApiWide a0, .v (.int .i64 a1)] [] [] (fun d h k => d = .v (.int .i64 r) ∧ h = [] ∧ k = []) := by
  have hm := yes_of h0
  unfold r06_left at hm
  clear h0
  refine enterX htab Try.func30 rfl rfl rfl rfl rfl (fun C => ?_)
  refine wpD_seq ?_
  refine wpD_region ?_
  refine p_box rfl rfl rfl rfl rfl rfl rfl (fun b1 => ?_)
  refine p_pure htab rfl rfl rfl rfl ?_
  refine ops_nil ?_
  refine then_normal ?_
  refine wpD_seq ?_
  refine wpD_region ?_
  refine p_load (d := eTApiWide a0) 0 htab rfl rfl rfl rfl rfl rfl rfl rfl ?_
  refine p_build (r := [.v (.int .i64 (0 : Int)), .v (.int .u64 (0 : Int))]) htab rfl rfl rfl rfl rfl rfl rfl rfl rfl ?_
  obtain ⟨x2, q2, hm⟩ := yes_bind hm
  refine p_call0 (rCmp_ok a0 (⟨(0 : Int), (0 : Int)⟩ : TApiWide) (need_ok q2)) rfl rfl rfl rfl rfl (WkL.refl _) ?_
  rintro _ rfl
  refine p_pure htab rfl rfl rfl rfl ?_
  refine p_pure htab rfl rfl rfl rfl ?_
  refine ops_nil ?_
  refine then_normal ?_
  refine wpD_seq ?_
  refine wpD_seq ?_
  refine wpD_region ?_
  refine p_pure htab rfl rfl rfl rfl ?_
  refine ops_nil ?_
  refine then_normal ?_
  obtain ⟨y5, q5, ho5⟩ := yes_bind hm
  refine wpD_mid (Y := Unit) (fun z5 => (⟨[(1, .v (.int .i64 a1)), (2, .ptr b1 0), (5, .v (.bool (decide ((rCmp a0 (⟨(0 : Int), (0 : Int)⟩ : TApiWide)) < (0 : Int)))))], [(b1, Blk.cells [.v (.int .i64 y5.1), .v (.int .u64 y5.2)] 54)], []⟩ : S)) ?_ ?_
  · clear hm; have hm := yes_of q5
    refine wpD_cond rfl (fun hc6 => ?_) (fun hc6 => ?_)
    · replace hm := yes_t hc6 hm
      refine wpD_region ?_
      refine p_load (d := eTApiWide a0) 0 htab rfl rfl rfl rfl rfl rfl rfl rfl ?_
      obtain ⟨x7, q7, hm⟩ := yes_bind hm
      refine p_call0 (rNeg_ok a0 (need_ok q7)) rfl rfl rfl rfl rfl (WkL.refl _) ?_
      rintro _ rfl
      refine p_store (ds' := [.v (.int .i64 ((rNeg a0).gHi)), .v (.int .u64 ((rNeg a0).gLo))]) (h' := [(b1, Blk.cells [.v (.int .i64 ((rNeg a0).gHi)), .v (.int .u64 ((rNeg a0).gLo))] 54)]) 0 htab rfl rfl rfl rfl rfl rfl rfl rfl rfl rfl rfl rfl ?_
      refine ops_nil ?_
      have e5 := yes_eq hm; subst e5
      refine ⟨rfl, ?_⟩
      exact WkX.of () (WkS.perm (WkS.cons rfl (Wk.refl _) (WkS.cons rfl (Wk.refl _) (WkS.cons rfl (Wk.refl _) (WkS.nil)))) (List.Perm.refl _) (List.Perm.refl _))
    · replace hm := yes_f hc6 hm
      refine wpD_skip ?_
      have e5 := yes_eq hm; subst e5
      refine ⟨rfl, ?_⟩
      exact WkX.of () (WkS.perm (WkS.cons rfl (Wk.refl _) (WkS.cons rfl (Wk.refl _) (WkS.cons rfl (Wk.refl _) (WkS.nil)))) (List.Perm.refl _) (List.Perm.refl _))
  · intro s5 hw5; clear hm; have hm := ho5; clear q5 ho5
    refine then_normal ?_
    refine wpD_wkX hw5 (fun z5 => ?_)
    refine wpD_seq ?_
    refine wpD_region ?_
    refine p_load (d := eTApiWide (⟨y5.1, y5.2⟩ : TApiWide)) 0 htab rfl rfl rfl rfl rfl rfl rfl rfl ?_
    obtain ⟨x8, q8, hm⟩ := yes_bind hm
    refine p_call0 (r01_Digits_ok (⟨y5.1, y5.2⟩ : TApiWide) x8 q8) rfl rfl rfl rfl rfl (WkL.refl _) ?_
    rintro _ rfl
    refine p_alloc htab rfl rfl rfl rfl rfl rfl rfl (fun b9 => ?_)
    refine p_store (ds' := [.v (.int .u64 x8.g0), .v (.int .u64 x8.g1), .v (.int .u64 x8.g2), .v (.int .u64 x8.g3), .v (.int .u64 x8.g4), .v (.int .u64 x8.g5), .v (.int .u64 x8.g6), .v (.int .u64 x8.g7)]) (h' := [(b1, Blk.cells [.v (.int .i64 y5.1), .v (.int .u64 y5.2)] 54), (b9, Blk.cells [.v (.int .u64 x8.g0), .v (.int .u64 x8.g1), .v (.int .u64 x8.g2), .v (.int .u64 x8.g3), .v (.int .u64 x8.g4), .v (.int .u64 x8.g5), .v (.int .u64 x8.g6), .v (.int .u64 x8.g7)] 75)]) 1 htab rfl rfl rfl rfl rfl rfl rfl rfl rfl rfl rfl rfl ?_
    refine ops_nil ?_
    refine then_normal ?_
    refine wpD_seq ?_
    refine wpD_region ?_
    refine p_pure htab rfl rfl rfl rfl ?_
    refine p_pure htab rfl rfl rfl rfl ?_
    refine p_pure htab rfl rfl rfl rfl ?_
    refine p_pure htab rfl rfl rfl rfl ?_
    refine ops_nil ?_
    refine then_normal ?_
    refine wpD_seq ?_
    refine wpD_seq ?_
    refine wpD_region ?_
    refine p_pure htab rfl rfl rfl rfl ?_
    refine ops_nil ?_
    refine then_normal ?_
    obtain ⟨y27, q27, ho27⟩ := yes_bind hm
    refine wpD_mid (Y := Unit) (fun z27 => (⟨[(5, .v (.bool (decide ((rCmp a0 (⟨(0 : Int), (0 : Int)⟩ : TApiWide)) < (0 : Int))))), (7, .v (.int .u64 y27)), (8, .v (.int .u64 (IntKind.u64.wrap a1)))], [(b1, Blk.cells [.v (.int .i64 y5.1), .v (.int .u64 y5.2)] 54), (b9, Blk.cells [.v (.int .u64 x8.g0), .v (.int .u64 x8.g1), .v (.int .u64 x8.g2), .v (.int .u64 x8.g3), .v (.int .u64 x8.g4), .v (.int .u64 x8.g5), .v (.int .u64 x8.g6), .v (.int .u64 x8.g7)] 75)], []⟩ : S)) ?_ ?_
    · clear hm; have hm := yes_of q27
      refine wpD_block ?_
      obtain ⟨u28, hl28, hq28⟩ := yes_m hm
      refine loop_M (Y := Unit) hl28 (fun s28 z28 => (⟨[(5, .v (.bool (decide ((rCmp a0 (⟨(0 : Int), (0 : Int)⟩ : TApiWide)) < (0 : Int))))), (6, .ptr b9 0), (7, .v (.int .u64 s28.1)), (8, .v (.int .u64 (IntKind.u64.wrap a1))), (9, .v (.int .i64 s28.2))], [(b1, Blk.cells [.v (.int .i64 y5.1), .v (.int .u64 y5.2)] 54), (b9, Blk.cells [.v (.int .u64 x8.g0), .v (.int .u64 x8.g1), .v (.int .u64 x8.g2), .v (.int .u64 x8.g3), .v (.int .u64 x8.g4), .v (.int .u64 x8.g5), .v (.int .u64 x8.g6), .v (.int .u64 x8.g7)] 75)], []⟩ : S)) ?_ ?_
      · skip
        exact WkX.of () (WkS.perm (WkS.cons rfl (Wk.refl _) (WkS.cons rfl (Wk.refl _) (WkS.cons rfl (Wk.refl _) (WkS.cons rfl (Wk.refl _) (WkS.cons rfl (Wk.refl _) (WkS.nil)))))) (List.Perm.refl _) (List.Perm.refl _))
      · intro G28 s28 z28 hm
        refine wpD_seq ?_
        refine wpD_seq ?_
        refine wpD_region ?_
        refine p_pure htab rfl rfl rfl rfl ?_
        refine p_pure htab rfl rfl rfl rfl ?_
        refine ops_nil ?_
        refine then_normal ?_
        refine wpD_cond rfl (fun hc39 => ?_) (fun hc39 => ?_)
        · replace hm := yes_t hc39 hm
          refine wpD_skip ?_
          refine then_normal ?_
          refine wpD_seq ?_
          refine wpD_block ?_
          refine wpD_seq ?_
          refine wpD_region ?_
          refine p_pure htab rfl rfl rfl rfl ?_
          refine p_pure htab rfl rfl rfl rfl ?_
          refine p_pure htab rfl rfl rfl rfl ?_
          refine p_div rfl rfl rfl rfl rfl rfl rfl (by decide) ?_
          obtain ⟨x40, q40, hm⟩ := yes_bind hm
          refine p_elemA htab rfl rfl rfl rfl rfl rfl rfl rfl rfl (inA_lo q40) (inA_hi q40) ?_
          obtain ⟨x41, q41, hm⟩ := yes_bind hm
          refine p_load (d := .v (.int .u64 x41)) 1 htab rfl rfl rfl rfl rfl rfl rfl (part_at (e := fun x => .v (.int .u64 x)) (xs := [x8.g0, x8.g1, x8.g2, x8.g3, x8.g4, x8.g5, x8.g6, x8.g7]) (pre := []) (post := []) rfl q41) ?_
          refine p_pure htab rfl rfl rfl rfl ?_
          refine p_div rfl rfl rfl rfl rfl rfl rfl (by decide) ?_
          refine p_pure htab rfl rfl rfl rfl ?_
          obtain ⟨x42, q42, hm⟩ := yes_bind hm
          refine p_sh rfl rfl rfl rfl rfl rfl rfl (of_decide_eq_true (need_ok q42)) ?_
          refine p_div rfl rfl rfl rfl rfl rfl rfl (by decide) ?_
          refine p_pure htab rfl rfl rfl rfl ?_
          refine p_pure htab rfl rfl rfl rfl ?_
          refine ops_nil ?_
          refine then_normal ?_
          refine wpD_seq ?_
          refine wpD_region ?_
          refine p_pure htab rfl rfl rfl rfl ?_
          refine p_pure htab rfl rfl rfl rfl ?_
          refine p_pure htab rfl rfl rfl rfl ?_
          refine ops_nil ?_
          refine then_normal ?_
          refine wpD_cond rfl (fun hc43 => ?_) (fun hc43 => ?_)
          · replace hm := yes_t hc43 hm
            refine wpD_region ?_
            refine p_pure htab rfl rfl rfl rfl ?_
            refine p_pure htab rfl rfl rfl rfl ?_
            refine p_pure htab rfl rfl rfl rfl ?_
            refine p_pure htab rfl rfl rfl rfl ?_
            refine ops_nil ?_
            refine block_normal ?_
            refine then_normal ?_
            refine wpD_region ?_
            refine p_pure htab rfl rfl rfl rfl ?_
            refine p_pure htab rfl rfl rfl rfl ?_
            refine p_pure htab rfl rfl rfl rfl ?_
            refine ops_nil ?_
            refine then_normal ⟨_, lp_next hm, ?_⟩
            exact WkX.of () (WkS.perm (WkS.cons rfl (Wk.refl _) (WkS.cons rfl (Wk.refl _) (WkS.cons rfl (Wk.refl _) (WkS.cons rfl (Wk.refl _) (WkS.cons rfl (Wk.refl _) (WkS.nil)))))) (List.Perm.refl _) (List.Perm.refl _))
          · replace hm := yes_f hc43 hm
            refine wpD_skip ?_
            refine block_normal ?_
            refine then_normal ?_
            refine wpD_region ?_
            refine p_pure htab rfl rfl rfl rfl ?_
            refine p_pure htab rfl rfl rfl rfl ?_
            refine p_pure htab rfl rfl rfl rfl ?_
            refine ops_nil ?_
            refine then_normal ⟨_, lp_next hm, ?_⟩
            exact WkX.of () (WkS.perm (WkS.cons rfl (Wk.refl _) (WkS.cons rfl (Wk.refl _) (WkS.cons rfl (Wk.refl _) (WkS.cons rfl (Wk.refl _) (WkS.cons rfl (Wk.refl _) (WkS.nil)))))) (List.Perm.refl _) (List.Perm.refl _))
        · replace hm := yes_f hc39 hm
          refine wpD_exit ?_
          refine then_exit ?_
          have e28 := lp_done hm; subst e28; clear hm; have hm := hq28
          refine then_exit ?_
          refine block_hit ?_
          have e27 := yes_eq hm; subst e27
          refine ⟨rfl, ?_⟩
          exact WkX.of () (WkS.perm (WkS.cons rfl (Wk.refl _) (WkS.cons rfl (Wk.refl _) (WkS.cons rfl (Wk.refl _) (WkS.nil)))) (List.Perm.refl _) (List.Perm.refl _))
    · intro s27 hw27; clear hm; have hm := ho27; clear q27 ho27
      refine then_normal ?_
      refine wpD_wkX hw27 (fun z27 => ?_)
      refine wpD_seq ?_
      refine wpD_seq ?_
      obtain ⟨y45, q45, ho45⟩ := yes_bind hm
      refine wpD_mid (Y := Unit) (fun z45 => (⟨[(7, .v (.int .u64 y27)), (8, .v (.int .u64 (IntKind.u64.wrap a1))), (47, .v (.bool y45))], [(b1, Blk.cells [.v (.int .i64 y5.1), .v (.int .u64 y5.2)] 54), (b9, Blk.cells [.v (.int .u64 x8.g0), .v (.int .u64 x8.g1), .v (.int .u64 x8.g2), .v (.int .u64 x8.g3), .v (.int .u64 x8.g4), .v (.int .u64 x8.g5), .v (.int .u64 x8.g6), .v (.int .u64 x8.g7)] 75)], []⟩ : S)) ?_ ?_
      · clear hm; have hm := yes_of q45
        refine wpD_region ?_
        refine p_pure htab rfl rfl rfl rfl ?_
        refine p_pure htab rfl rfl rfl rfl ?_
        refine p_split (i := 44) rfl (fun hg46 => ?_) (fun hg46 => ?_)
        · replace hm := yes_t hg46 hm
          refine p_pure htab rfl rfl rfl rfl ?_
          refine p_pure htab rfl rfl rfl rfl ?_
          refine p_pickT rfl rfl rfl rfl rfl rfl ?_
          refine ops_nil ?_
          have e45 := yes_eq hm; subst e45
          refine ⟨rfl, ?_⟩
          exact WkX.of () (WkS.perm (WkS.cons rfl (Wk.refl _) (WkS.cons rfl (Wk.refl _) (WkS.cons rfl (Wk.refl _) (WkS.nil)))) (List.Perm.refl _) (List.Perm.refl _))
        · replace hm := yes_f hg46 hm
          refine p_skip rfl rfl rfl ?_
          refine p_skip rfl rfl rfl ?_
          refine p_pickF rfl rfl rfl rfl rfl rfl ?_
          refine ops_nil ?_
          have e45 := yes_eq hm; subst e45
          refine ⟨rfl, ?_⟩
          exact WkX.of () (WkS.perm (WkS.cons rfl (Wk.refl _) (WkS.cons rfl (Wk.refl _) (WkS.cons rfl (Wk.refl _) (WkS.nil)))) (List.Perm.refl _) (List.Perm.refl _))
      · intro s45 hw45; clear hm; have hm := ho45; clear q45 ho45
        refine then_normal ?_
        refine wpD_wkX hw45 (fun z45 => ?_)
        refine wpD_cond rfl (fun hc47 => ?_) (fun hc47 => ?_)
        · replace hm := yes_t hc47 hm
          refine wpD_region ?_
          refine p_pure htab rfl rfl rfl rfl ?_
          refine p_pure htab rfl rfl rfl rfl ?_
          refine p_pure htab rfl rfl rfl rfl ?_
          refine p_pure htab rfl rfl rfl rfl ?_
          refine ops_nil ?_
          refine then_normal ?_
          refine wpD_seq ?_
          refine wpD_region ?_
          refine p_pure htab rfl rfl rfl rfl ?_
          refine p_pure htab rfl rfl rfl rfl ?_
          refine p_pure htab rfl rfl rfl rfl ?_
          refine ops_nil ?_
          refine then_normal ?_
          refine wpD_ret ?_
          have er48 := yes_eq hm; subst er48
          refine retX.of (s' := ⟨[(4, .v (.int .i64 (IntKind.i64.wrap (IntKind.u64.wrap ((IntKind.u64.wrap a1) - y27)))))], [], []⟩) (WkS.perm (WkS.cons rfl (Wk.refl _) (WkS.nil)) (List.Perm.refl _) (List.Perm.refl _)) (retD_mk (hh := []) (.inl rfl) (resL_cons (resOne_tmp rfl) (resL_nil)) (List.nil_sublist _) (List.Sublist.refl _) ?_)
          exact ⟨rfl, rfl, rfl⟩
        · replace hm := yes_f hc47 hm
          refine wpD_skip ?_
          refine then_normal ?_
          refine wpD_seq ?_
          refine wpD_region ?_
          refine p_pure htab rfl rfl rfl rfl ?_
          refine p_pure htab rfl rfl rfl rfl ?_
          refine p_pure htab rfl rfl rfl rfl ?_
          refine ops_nil ?_
          refine then_normal ?_
          refine wpD_ret ?_
          have er49 := yes_eq hm; subst er49
          refine retX.of (s' := ⟨[(4, .v (.int .i64 (IntKind.i64.wrap y27)))], [], []⟩) (WkS.perm (WkS.cons rfl (Wk.refl _) (WkS.nil)) (List.Perm.refl _) (List.Perm.refl _)) (retD_mk (hh := []) (.inl rfl) (resL_cons (resOne_tmp rfl) (resL_nil)) (List.nil_sublist _) (List.Sublist.refl _) ?_)
          exact ⟨rfl, rfl, rfl⟩
noncomputable def r06_of (a0 : Int) (a1 : Int) : Option (TApiCong) :=
  ((r05_Clean (⟨true, a0, a1⟩ : TApiCong)).bind fun x2 => some x2)
set_option maxRecDepth 100000 in
set_option maxHeartbeats 2000000 in
theorem r06_of_ok (a0 : Int) (a1 : Int) (r : TApiCong) (h0 : r06_of a0 a1 = some r) : CallsD Try.prog 25 [.v (.int .i64 a0), .v (.int .i64 a1)] [] [] (fun d h k => d = eTApiCong r ∧ h = [] ∧ k = []) := by
  have hm := yes_of h0
  unfold r06_of at hm
  clear h0
  refine enterX htab Try.func25 rfl rfl rfl rfl rfl (fun C => ?_)
  refine wpD_seq ?_
  refine wpD_region ?_
  refine p_alloc htab rfl rfl rfl rfl rfl rfl rfl (fun b1 => ?_)
  refine ops_nil ?_
  refine then_normal ?_
  refine wpD_seq ?_
  refine wpD_region ?_
  refine p_pure htab rfl rfl rfl rfl ?_
  refine p_pure htab rfl rfl rfl rfl ?_
  refine p_build (r := [.v (.bool true), .v (.int .i64 a0), .v (.int .i64 a1)]) htab rfl rfl rfl rfl rfl rfl rfl rfl rfl ?_
  obtain ⟨x2, q2, hm⟩ := yes_bind hm
  refine p_call0 (r05_Clean_ok (⟨true, a0, a1⟩ : TApiCong) x2 q2) rfl rfl rfl rfl rfl (WkL.refl _) ?_
  rintro _ rfl
  refine p_store (ds' := [.v (.bool x2.gSome), .v (.int .i64 x2.gM), .v (.int .i64 x2.gR)]) (h' := [(b1, Blk.cells [.v (.bool x2.gSome), .v (.int .i64 x2.gM), .v (.int .i64 x2.gR)] 23)]) 0 htab rfl rfl rfl rfl rfl rfl rfl rfl rfl rfl rfl rfl ?_
  refine ops_nil ?_
  refine then_normal ?_
  refine wpD_ret ?_
  have er3 := yes_eq hm; subst er3
  refine retX.of (s' := ⟨[(4, .ptr b1 0)], [(b1, Blk.cells [.v (.bool x2.gSome), .v (.int .i64 x2.gM), .v (.int .i64 x2.gR)] 23)], []⟩) (WkS.perm (WkS.cons rfl (Wk.refl _) (WkS.nil)) (List.Perm.refl _) (List.Perm.refl _)) (retD_mk (hh := []) (.inl rfl) (resL_cons (resOne_cell 0 rfl rfl rfl rfl) (resL_nil)) (List.nil_sublist _) (List.Sublist.refl _) ?_)
  exact ⟨rfl, rfl, rfl⟩
noncomputable def r06_all : Option (TApiCong) :=
  ((r06_of (1 : Int) (0 : Int)).bind fun x2 => some x2)
set_option maxRecDepth 100000 in
set_option maxHeartbeats 2000000 in
theorem r06_all_ok  (r : TApiCong) (h0 : r06_all = some r) : CallsD Try.prog 35 [] [] [] (fun d h k => d = eTApiCong r ∧ h = [] ∧ k = []) := by
  have hm := yes_of h0
  unfold r06_all at hm
  clear h0
  refine enterX htab Try.func35 rfl rfl rfl rfl rfl (fun C => ?_)
  refine wpD_seq ?_
  refine wpD_region ?_
  refine p_alloc htab rfl rfl rfl rfl rfl rfl rfl (fun b1 => ?_)
  refine ops_nil ?_
  refine then_normal ?_
  refine wpD_seq ?_
  refine wpD_region ?_
  obtain ⟨x2, q2, hm⟩ := yes_bind hm
  refine p_call0 (r06_of_ok (1 : Int) (0 : Int) x2 q2) rfl rfl rfl rfl rfl (WkL.refl _) ?_
  rintro _ rfl
  refine p_store (ds' := [.v (.bool x2.gSome), .v (.int .i64 x2.gM), .v (.int .i64 x2.gR)]) (h' := [(b1, Blk.cells [.v (.bool x2.gSome), .v (.int .i64 x2.gM), .v (.int .i64 x2.gR)] 23)]) 0 htab rfl rfl rfl rfl rfl rfl rfl rfl rfl rfl rfl rfl ?_
  refine ops_nil ?_
  refine then_normal ?_
  refine wpD_ret ?_
  have er3 := yes_eq hm; subst er3
  refine retX.of (s' := ⟨[(0, .ptr b1 0)], [(b1, Blk.cells [.v (.bool x2.gSome), .v (.int .i64 x2.gM), .v (.int .i64 x2.gR)] 23)], []⟩) (WkS.perm (WkS.cons rfl (Wk.refl _) (WkS.nil)) (List.Perm.refl _) (List.Perm.refl _)) (retD_mk (hh := []) (.inl rfl) (resL_cons (resOne_cell 0 rfl rfl rfl rfl) (resL_nil)) (List.nil_sublist _) (List.Sublist.refl _) ?_)
  exact ⟨rfl, rfl, rfl⟩
noncomputable def r06_Part (a0 : Int) : Option (Int) :=
  (bif (a0 == (0 : Int)) then some (0 : Int) else (Option.bind (α := Int) (loopM (fun (s10 : Int × Int) => (bif ((s10.2.tmod (2 : Int)) == (0 : Int)) then some (.next ((IntKind.u64.wrap (s10.1 * (2 : Int))), (IntKind.u64.wrap (s10.2.tdiv (2 : Int))))) else some (.done s10.1))) ((1 : Int), (IntKind.u64.wrap a0))) fun y9 => some (IntKind.i64.wrap y9)))
set_option maxRecDepth 100000 in
set_option maxHeartbeats 2000000 in
theorem r06_Part_ok (a0 : Int) (r : Int) (h0 : r06_Part a0 = some r) : CallsD Try.prog 61 [.v (.int .i64 a0)] [] [] (fun d h k => d = .v (.int .i64 r) ∧ h = [] ∧ k = []) := by
  have hm := yes_of h0
  unfold r06_Part at hm
  clear h0
  refine enterX htab Try.func61 rfl rfl rfl rfl rfl (fun C => ?_)
  refine wpD_seq ?_
  refine wpD_region ?_
  refine p_pure htab rfl rfl rfl rfl ?_
  refine ops_nil ?_
  refine then_normal ?_
  refine wpD_seq ?_
  refine wpD_seq ?_
  refine wpD_region ?_
  refine p_pure htab rfl rfl rfl rfl ?_
  refine p_pure htab rfl rfl rfl rfl ?_
  refine ops_nil ?_
  refine then_normal ?_
  refine wpD_cond rfl (fun hc2 => ?_) (fun hc2 => ?_)
  · replace hm := yes_t hc2 hm
    refine wpD_seq ?_
    refine wpD_region ?_
    refine p_pure htab rfl rfl rfl rfl ?_
    refine ops_nil ?_
    refine then_normal ?_
    refine wpD_ret ?_
    refine then_ret ?_
    have er3 := yes_eq hm; subst er3
    refine retX.of (s' := ⟨[(2, .v (.int .i64 (0 : Int)))], [], []⟩) (WkS.perm (WkS.cons rfl (Wk.refl _) (WkS.nil)) (List.Perm.refl _) (List.Perm.refl _)) (retD_mk (hh := []) (.inl rfl) (resL_cons (resOne_tmp rfl) (resL_nil)) (List.nil_sublist _) (List.Sublist.refl _) ?_)
    exact ⟨rfl, rfl, rfl⟩
  · replace hm := yes_f hc2 hm
    refine wpD_skip ?_
    refine then_normal ?_
    refine wpD_seq ?_
    refine wpD_region ?_
    refine p_pure htab rfl rfl rfl rfl ?_
    refine ops_nil ?_
    refine then_normal ?_
    refine wpD_seq ?_
    refine wpD_region ?_
    refine p_pure htab rfl rfl rfl rfl ?_
    refine p_pure htab rfl rfl rfl rfl ?_
    refine p_pure htab rfl rfl rfl rfl ?_
    refine ops_nil ?_
    refine then_normal ?_
    refine wpD_seq ?_
    obtain ⟨y9, q9, ho9⟩ := yes_bind hm
    refine wpD_mid (Y := Unit) (fun z9 => (⟨[(3, .v (.int .u64 y9))], [], []⟩ : S)) ?_ ?_
    · clear hm; have hm := yes_of q9
      refine wpD_block ?_
      obtain ⟨u10, hl10, hq10⟩ := yes_m hm
      refine loop_M (Y := Unit) hl10 (fun s10 z10 => (⟨[(3, .v (.int .u64 s10.1)), (4, .v (.int .u64 s10.2))], [], []⟩ : S)) ?_ ?_
      · skip
        exact WkX.of () (WkS.perm (WkS.cons rfl (Wk.refl _) (WkS.cons rfl (Wk.refl _) (WkS.nil))) (List.Perm.refl _) (List.Perm.refl _))
      · intro G10 s10 z10 hm
        refine wpD_seq ?_
        refine wpD_seq ?_
        refine wpD_region ?_
        refine p_pure htab rfl rfl rfl rfl ?_
        refine p_div rfl rfl rfl rfl rfl rfl rfl (by decide) ?_
        refine p_pure htab rfl rfl rfl rfl ?_
        refine ops_nil ?_
        refine then_normal ?_
        refine wpD_cond rfl (fun hc13 => ?_) (fun hc13 => ?_)
        · replace hm := yes_t hc13 hm
          refine wpD_skip ?_
          refine then_normal ?_
          refine wpD_block ?_
          refine wpD_seq ?_
          refine wpD_region ?_
          refine p_pure htab rfl rfl rfl rfl ?_
          refine p_div rfl rfl rfl rfl rfl rfl rfl (by decide) ?_
          refine p_pure htab rfl rfl rfl rfl ?_
          refine ops_nil ?_
          refine then_normal ?_
          refine wpD_region ?_
          refine p_pure htab rfl rfl rfl rfl ?_
          refine p_pure htab rfl rfl rfl rfl ?_
          refine p_pure htab rfl rfl rfl rfl ?_
          refine ops_nil ?_
          refine block_normal ?_
          refine then_normal ⟨_, lp_next hm, ?_⟩
          exact WkX.of () (WkS.perm (WkS.cons rfl (Wk.refl _) (WkS.cons rfl (Wk.refl _) (WkS.nil))) (List.Perm.refl _) (List.Perm.refl _))
        · replace hm := yes_f hc13 hm
          refine wpD_exit ?_
          refine then_exit ?_
          have e10 := lp_done hm; subst e10; clear hm; have hm := hq10
          refine then_exit ?_
          refine block_hit ?_
          have e9 := yes_eq hm; subst e9
          refine ⟨rfl, ?_⟩
          exact WkX.of () (WkS.perm (WkS.cons rfl (Wk.refl _) (WkS.nil)) (List.Perm.refl _) (List.Perm.refl _))
    · intro s9 hw9; clear hm; have hm := ho9; clear q9 ho9
      refine then_normal ?_
      refine wpD_wkX hw9 (fun z9 => ?_)
      refine wpD_seq ?_
      refine wpD_region ?_
      refine p_pure htab rfl rfl rfl rfl ?_
      refine p_pure htab rfl rfl rfl rfl ?_
      refine p_pure htab rfl rfl rfl rfl ?_
      refine ops_nil ?_
      refine then_normal ?_
      refine wpD_ret ?_
      have er14 := yes_eq hm; subst er14
      refine retX.of (s' := ⟨[(2, .v (.int .i64 (IntKind.i64.wrap y9)))], [], []⟩) (WkS.perm (WkS.cons rfl (Wk.refl _) (WkS.nil)) (List.Perm.refl _) (List.Perm.refl _)) (retD_mk (hh := []) (.inl rfl) (resL_cons (resOne_tmp rfl) (resL_nil)) (List.nil_sublist _) (List.Sublist.refl _) ?_)
      exact ⟨rfl, rfl, rfl⟩
noncomputable def r06_size (a0 : Int) : Option (Int) :=
  ((r05_Apart a0 (0 : Int)).bind fun x1 => some x1)
set_option maxRecDepth 100000 in
set_option maxHeartbeats 2000000 in
theorem r06_size_ok (a0 : Int) (r : Int) (h0 : r06_size a0 = some r) : CallsD Try.prog 32 [.v (.int .i64 a0)] [] [] (fun d h k => d = .v (.int .u64 r) ∧ h = [] ∧ k = []) := by
  have hm := yes_of h0
  unfold r06_size at hm
  clear h0
  refine enterX htab Try.func32 rfl rfl rfl rfl rfl (fun C => ?_)
  refine wpD_seq ?_
  refine wpD_region ?_
  refine p_pure htab rfl rfl rfl rfl ?_
  refine ops_nil ?_
  refine then_normal ?_
  refine wpD_seq ?_
  refine wpD_region ?_
  refine p_pure htab rfl rfl rfl rfl ?_
  obtain ⟨x1, q1, hm⟩ := yes_bind hm
  refine p_call0 (r05_Apart_ok a0 (0 : Int) x1 q1) rfl rfl rfl rfl rfl (WkL.refl _) ?_
  rintro _ rfl
  refine p_pure htab rfl rfl rfl rfl ?_
  refine ops_nil ?_
  refine then_normal ?_
  refine wpD_ret ?_
  have er2 := yes_eq hm; subst er2
  refine retX.of (s' := ⟨[(2, .v (.int .u64 x1))], [], []⟩) (WkS.perm (WkS.cons rfl (Wk.refl _) (WkS.nil)) (List.Perm.refl _) (List.Perm.refl _)) (retD_mk (hh := []) (.inl rfl) (resL_cons (resOne_tmp rfl) (resL_nil)) (List.nil_sublist _) (List.Sublist.refl _) ?_)
  exact ⟨rfl, rfl, rfl⟩
noncomputable def r06_gcd (a0 : Int) (a1 : Int) : Option (Int) :=
  ((r05_Gcd (IntKind.u64.wrap a0) (IntKind.u64.wrap a1)).bind fun x1 => some (IntKind.i64.wrap x1))
set_option maxRecDepth 100000 in
set_option maxHeartbeats 2000000 in
theorem r06_gcd_ok (a0 : Int) (a1 : Int) (r : Int) (h0 : r06_gcd a0 a1 = some r) : CallsD Try.prog 29 [.v (.int .i64 a0), .v (.int .i64 a1)] [] [] (fun d h k => d = .v (.int .i64 r) ∧ h = [] ∧ k = []) := by
  have hm := yes_of h0
  unfold r06_gcd at hm
  clear h0
  refine enterX htab Try.func29 rfl rfl rfl rfl rfl (fun C => ?_)
  refine wpD_seq ?_
  refine wpD_region ?_
  refine p_pure htab rfl rfl rfl rfl ?_
  refine ops_nil ?_
  refine then_normal ?_
  refine wpD_seq ?_
  refine wpD_region ?_
  refine p_pure htab rfl rfl rfl rfl ?_
  refine p_pure htab rfl rfl rfl rfl ?_
  refine p_pure htab rfl rfl rfl rfl ?_
  refine p_pure htab rfl rfl rfl rfl ?_
  obtain ⟨x1, q1, hm⟩ := yes_bind hm
  refine p_call0 (r05_Gcd_ok (IntKind.u64.wrap a0) (IntKind.u64.wrap a1) x1 q1) rfl rfl rfl rfl rfl (WkL.refl _) ?_
  rintro _ rfl
  refine p_pure htab rfl rfl rfl rfl ?_
  refine p_pure htab rfl rfl rfl rfl ?_
  refine ops_nil ?_
  refine then_normal ?_
  refine wpD_ret ?_
  have er2 := yes_eq hm; subst er2
  refine retX.of (s' := ⟨[(4, .v (.int .i64 (IntKind.i64.wrap x1)))], [], []⟩) (WkS.perm (WkS.cons rfl (Wk.refl _) (WkS.nil)) (List.Perm.refl _) (List.Perm.refl _)) (retD_mk (hh := []) (.inl rfl) (resL_cons (resOne_tmp rfl) (resL_nil)) (List.nil_sublist _) (List.Sublist.refl _) ?_)
  exact ⟨rfl, rfl, rfl⟩
noncomputable def r06_cut (a0 : Int) (a1 : Bool) : Option (Int) :=
  (bif a1 then ((r06_Part a0).bind fun x2 => some x2) else some a0)
set_option maxRecDepth 100000 in
set_option maxHeartbeats 2000000 in
theorem r06_cut_ok (a0 : Int) (a1 : Bool) (r : Int) (h0 : r06_cut a0 a1 = some r) : CallsD Try.prog 28 [.v (.int .i64 a0), .v (.bool a1)] [] [] (fun d h k => d = .v (.int .i64 r) ∧ h = [] ∧ k = []) := by
  have hm := yes_of h0
  unfold r06_cut at hm
  clear h0
  refine enterX htab Try.func28 rfl rfl rfl rfl rfl (fun C => ?_)
  refine wpD_seq ?_
  refine wpD_region ?_
  refine p_pure htab rfl rfl rfl rfl ?_
  refine ops_nil ?_
  refine then_normal ?_
  refine wpD_seq ?_
  refine wpD_seq ?_
  refine wpD_region ?_
  refine p_pure htab rfl rfl rfl rfl ?_
  refine ops_nil ?_
  refine then_normal ?_
  refine wpD_cond rfl (fun hc1 => ?_) (fun hc1 => ?_)
  · replace hm := yes_t hc1 hm
    refine wpD_seq ?_
    refine wpD_region ?_
    refine p_pure htab rfl rfl rfl rfl ?_
    obtain ⟨x2, q2, hm⟩ := yes_bind hm
    refine p_call0 (r06_Part_ok a0 x2 q2) rfl rfl rfl rfl rfl (WkL.refl _) ?_
    rintro _ rfl
    refine p_pure htab rfl rfl rfl rfl ?_
    refine ops_nil ?_
    refine then_normal ?_
    refine wpD_ret ?_
    refine then_ret ?_
    have er3 := yes_eq hm; subst er3
    refine retX.of (s' := ⟨[(4, .v (.int .i64 x2))], [], []⟩) (WkS.perm (WkS.cons rfl (Wk.refl _) (WkS.nil)) (List.Perm.refl _) (List.Perm.refl _)) (retD_mk (hh := []) (.inl rfl) (resL_cons (resOne_tmp rfl) (resL_nil)) (List.nil_sublist _) (List.Sublist.refl _) ?_)
    exact ⟨rfl, rfl, rfl⟩
  · replace hm := yes_f hc1 hm
    refine wpD_skip ?_
    refine then_normal ?_
    refine wpD_seq ?_
    refine wpD_region ?_
    refine p_pure htab rfl rfl rfl rfl ?_
    refine p_pure htab rfl rfl rfl rfl ?_
    refine ops_nil ?_
    refine then_normal ?_
    refine wpD_ret ?_
    have er4 := yes_eq hm; subst er4
    refine retX.of (s' := ⟨[(4, .v (.int .i64 a0))], [], []⟩) (WkS.perm (WkS.cons rfl (Wk.refl _) (WkS.nil)) (List.Perm.refl _) (List.Perm.refl _)) (retD_mk (hh := []) (.inl rfl) (resL_cons (resOne_tmp rfl) (resL_nil)) (List.nil_sublist _) (List.Sublist.refl _) ?_)
    exact ⟨rfl, rfl, rfl⟩
noncomputable def r06_product (a0 : TApiCong) (a1 : TApiCong) (a2 : Bool) : Option (TApiCong) :=
  ((need (pII a0.gR a1.gR)).bind fun x4 => (Option.bind (α := Bool) (bif (decide ((0 : Int) < a0.gM)) then some (decide ((0 : Int) < a1.gM)) else some false) fun y7 => (bif y7 then ((r06_gcd a0.gM a1.gM).bind fun x15 => ((r06_cut x15 a2).bind fun x16 => ((r06_left (rMul a0.gR a1.gR) x16).bind fun x17 => ((r06_of x16 x17).bind fun x18 => some x18)))) else (Option.bind (α := Int × Int) (bif (decide ((0 : Int) < a0.gM)) then some (a0.gM, a1.gR) else some (a1.gM, a0.gR)) fun y21 => (bif (y21.2 == (0 : Int)) then ((r06_of (0 : Int) (0 : Int)).bind fun x26 => some x26) else ((need (pII y21.1 y21.2)).bind fun x28 => ((r01_Int (rMul y21.1 y21.2)).bind fun x29 => (Option.bind (α := Int × Bool) (bif (decide (y21.2 < (0 : Int))) then ((need (pII y21.1 y21.2)).bind fun x36 => ((need (pW (rMul y21.1 y21.2))).bind fun x37 => ((r01_Int (rNeg (rMul y21.1 y21.2))).bind fun x38 => some (x38.1, x38.2)))) else some (x29.1, x29.2)) fun y34 => (Option.bind (α := Int) (bif (!y34.2) then some y21.1 else some y34.1) fun y40 => ((r06_cut y40 a2).bind fun x42 => ((r06_left (rMul a0.gR a1.gR) x42).bind fun x43 => ((r06_of x42 x43).bind fun x44 => some x44))))))))))))
set_option maxRecDepth 100000 in
set_option maxHeartbeats 2000000 in
theorem r06_product_ok (a0 : TApiCong) (a1 : TApiCong) (a2 : Bool) (r : TApiCong) (h0 : r06_product a0 a1 a2 = some r) : CallsD Try.prog 26 [eTApiCong a0, eTApiCong a1, .v (.bool a2)] [] [] (fun d h k => d = eTApiCong r ∧ h = [] ∧ k = []) := by
  have hm := yes_of h0
  unfold r06_product at hm
  clear h0
  refine enterX htab Try.func26 rfl rfl rfl rfl rfl (fun C => ?_)
  refine wpD_seq ?_
  refine wpD_region ?_
  refine p_box rfl rfl rfl rfl rfl rfl rfl (fun b1 => ?_)
  refine p_box rfl rfl rfl rfl rfl rfl rfl (fun b2 => ?_)
  refine p_alloc htab rfl rfl rfl rfl rfl rfl rfl (fun b3 => ?_)
  refine ops_nil ?_
  refine then_normal ?_
  refine wpD_seq ?_
  refine wpD_region ?_
  refine p_pure htab rfl rfl rfl rfl ?_
  refine p_load 0 htab rfl rfl rfl rfl rfl rfl rfl rfl ?_
  refine p_pure htab rfl rfl rfl rfl ?_
  refine p_load 1 htab rfl rfl rfl rfl rfl rfl rfl rfl ?_
  obtain ⟨x4, q4, hm⟩ := yes_bind hm
  refine p_call0 (rMul_ok a0.gR a1.gR (need_ok q4)) rfl rfl rfl rfl rfl (WkL.refl _) ?_
  rintro _ rfl
  refine p_alloc htab rfl rfl rfl rfl rfl rfl rfl (fun b5 => ?_)
  refine p_store (ds' := [.v (.int .i64 ((rMul a0.gR a1.gR).gHi)), .v (.int .u64 ((rMul a0.gR a1.gR).gLo))]) (h' := [(b1, Blk.cells [.v (.bool a0.gSome), .v (.int .i64 a0.gM), .v (.int .i64 a0.gR)] 23), (b2, Blk.cells [.v (.bool a1.gSome), .v (.int .i64 a1.gM), .v (.int .i64 a1.gR)] 23), (b3, Blk.cells [.v (.bool false), .v (.int .i64 (0 : Int)), .v (.int .i64 (0 : Int))] 23), (b5, Blk.cells [.v (.int .i64 ((rMul a0.gR a1.gR).gHi)), .v (.int .u64 ((rMul a0.gR a1.gR).gLo))] 54)]) 3 htab rfl rfl rfl rfl rfl rfl rfl rfl rfl rfl rfl rfl ?_
  refine ops_nil ?_
  refine then_normal ?_
  refine wpD_seq ?_
  refine wpD_seq ?_
  obtain ⟨y7, q7, ho7⟩ := yes_bind hm
  refine wpD_mid (Y := Unit) (fun z7 => (⟨[(2, .v (.bool a2)), (3, .ptr b1 0), (4, .ptr b2 0), (6, .ptr b3 0), (7, .ptr b5 0), (25, .v (.bool y7))], [(b1, Blk.cells [.v (.bool a0.gSome), .v (.int .i64 a0.gM), .v (.int .i64 a0.gR)] 23), (b2, Blk.cells [.v (.bool a1.gSome), .v (.int .i64 a1.gM), .v (.int .i64 a1.gR)] 23), (b3, Blk.cells [.v (.bool false), .v (.int .i64 (0 : Int)), .v (.int .i64 (0 : Int))] 23), (b5, Blk.cells [.v (.int .i64 ((rMul a0.gR a1.gR).gHi)), .v (.int .u64 ((rMul a0.gR a1.gR).gLo))] 54)], []⟩ : S)) ?_ ?_
  · clear hm; have hm := yes_of q7
    refine wpD_region ?_
    refine p_pure htab rfl rfl rfl rfl ?_
    refine p_load 0 htab rfl rfl rfl rfl rfl rfl rfl rfl ?_
    refine p_pure htab rfl rfl rfl rfl ?_
    refine p_pure htab rfl rfl rfl rfl ?_
    refine p_split (i := 21) rfl (fun hg8 => ?_) (fun hg8 => ?_)
    · replace hm := yes_t hg8 hm
      refine p_pure htab rfl rfl rfl rfl ?_
      refine p_load 1 htab rfl rfl rfl rfl rfl rfl rfl rfl ?_
      refine p_pure htab rfl rfl rfl rfl ?_
      refine p_pickT rfl rfl rfl rfl rfl rfl ?_
      refine ops_nil ?_
      have e7 := yes_eq hm; subst e7
      refine ⟨rfl, ?_⟩
      exact WkX.of () (WkS.perm (WkS.cons rfl (Wk.refl _) (WkS.cons rfl (Wk.refl _) (WkS.cons rfl (Wk.refl _) (WkS.cons rfl (Wk.refl _) (WkS.cons rfl (Wk.refl _) (WkS.cons rfl (Wk.refl _) (WkS.nil))))))) (List.Perm.refl _) (List.Perm.refl _))
    · replace hm := yes_f hg8 hm
      refine p_skip rfl rfl rfl ?_
      refine p_skip rfl rfl rfl ?_
      refine p_skip rfl rfl rfl ?_
      refine p_pickF rfl rfl rfl rfl rfl rfl ?_
      refine ops_nil ?_
      have e7 := yes_eq hm; subst e7
      refine ⟨rfl, ?_⟩
      exact WkX.of () (WkS.perm (WkS.cons rfl (Wk.refl _) (WkS.cons rfl (Wk.refl _) (WkS.cons rfl (Wk.refl _) (WkS.cons rfl (Wk.refl _) (WkS.cons rfl (Wk.refl _) (WkS.cons rfl (Wk.refl _) (WkS.nil))))))) (List.Perm.refl _) (List.Perm.refl _))
  · intro s7 hw7; clear hm; have hm := ho7; clear q7 ho7
    refine then_normal ?_
    refine wpD_wkX hw7 (fun z7 => ?_)
    refine wpD_cond rfl (fun hc14 => ?_) (fun hc14 => ?_)
    · replace hm := yes_t hc14 hm
      refine wpD_seq ?_
      refine wpD_region ?_
      refine p_pure htab rfl rfl rfl rfl ?_
      refine p_load 0 htab rfl rfl rfl rfl rfl rfl rfl rfl ?_
      refine p_pure htab rfl rfl rfl rfl ?_
      refine p_load 1 htab rfl rfl rfl rfl rfl rfl rfl rfl ?_
      obtain ⟨x15, q15, hm⟩ := yes_bind hm
      refine p_call0 (r06_gcd_ok a0.gM a1.gM x15 q15) rfl rfl rfl rfl rfl (WkL.refl _) ?_
      rintro _ rfl
      refine p_pure htab rfl rfl rfl rfl ?_
      obtain ⟨x16, q16, hm⟩ := yes_bind hm
      refine p_call0 (r06_cut_ok x15 a2 x16 q16) rfl rfl rfl rfl rfl (WkL.refl _) ?_
      rintro _ rfl
      refine p_pure htab rfl rfl rfl rfl ?_
      refine ops_nil ?_
      refine then_normal ?_
      refine wpD_seq ?_
      refine wpD_region ?_
      refine p_pure htab rfl rfl rfl rfl ?_
      refine p_load (d := eTApiWide (rMul a0.gR a1.gR)) 3 htab rfl rfl rfl rfl rfl rfl rfl rfl ?_
      refine p_pure htab rfl rfl rfl rfl ?_
      obtain ⟨x17, q17, hm⟩ := yes_bind hm
      refine p_call0 (r06_left_ok (rMul a0.gR a1.gR) x16 x17 q17) rfl rfl rfl rfl rfl (WkL.refl _) ?_
      rintro _ rfl
      obtain ⟨x18, q18, hm⟩ := yes_bind hm
      refine p_call0 (r06_of_ok x16 x17 x18 q18) rfl rfl rfl rfl rfl (WkL.refl _) ?_
      rintro _ rfl
      refine p_store (ds' := [.v (.bool x18.gSome), .v (.int .i64 x18.gM), .v (.int .i64 x18.gR)]) (h' := [(b1, Blk.cells [.v (.bool a0.gSome), .v (.int .i64 a0.gM), .v (.int .i64 a0.gR)] 23), (b2, Blk.cells [.v (.bool a1.gSome), .v (.int .i64 a1.gM), .v (.int .i64 a1.gR)] 23), (b3, Blk.cells [.v (.bool x18.gSome), .v (.int .i64 x18.gM), .v (.int .i64 x18.gR)] 23), (b5, Blk.cells [.v (.int .i64 ((rMul a0.gR a1.gR).gHi)), .v (.int .u64 ((rMul a0.gR a1.gR).gLo))] 54)]) 2 htab rfl rfl rfl rfl rfl rfl rfl rfl rfl rfl rfl rfl ?_
      refine ops_nil ?_
      refine then_normal ?_
      refine wpD_ret ?_
      refine then_ret ?_
      have er19 := yes_eq hm; subst er19
      refine retX.of (s' := ⟨[(6, .ptr b3 0)], [(b3, Blk.cells [.v (.bool x18.gSome), .v (.int .i64 x18.gM), .v (.int .i64 x18.gR)] 23)], []⟩) (WkS.perm (WkS.cons rfl (Wk.refl _) (WkS.nil)) ((perm_at (j := 2) rfl).trans (List.Perm.cons _ (List.Perm.refl _))) (List.Perm.refl _)) (retD_mk (hh := []) (.inl rfl) (resL_cons (resOne_cell 0 rfl rfl rfl rfl) (resL_nil)) (List.nil_sublist _) (List.Sublist.refl _) ?_)
      exact ⟨rfl, rfl, rfl⟩
    · replace hm := yes_f hc14 hm
      refine wpD_skip ?_
      refine then_normal ?_
      refine wpD_seq ?_
      refine wpD_draws 5 [] [[],[0],[],[2],[0]] [0,2] [[],[0],[],[2],[0,1],[0,1,2,3,4]] (by kernel_rfl) (by kernel_rfl) (by kernel_rfl) (by rfl) (by rfl) (by kernel_rfl) ?_
      apply Exists.intro
      apply Exists.intro
      intro bs
      refine z_e rfl rfl (ex_pure htab rfl) rfl rfl rfl rfl rfl rfl ?_
      refine z_qM rfl rfl (xm_load 1 htab rfl rfl rfl rfl rfl) rfl rfl rfl rfl rfl rfl ?_
      refine z_e rfl rfl (ex_pure htab rfl) rfl rfl rfl rfl rfl rfl ?_
      refine z_qM rfl rfl (xm_load 0 htab rfl rfl rfl rfl rfl) rfl rfl rfl rfl rfl rfl ?_
      refine z_q rfl rfl (ex_pure htab rfl) rfl rfl rfl rfl rfl rfl ?_
      refine z_nil rfl rfl (fun e he => by simp [isAl] at he) ?_
      refine p_pure htab rfl rfl rfl rfl ?_
      refine ops_nil ?_
      refine then_normal ?_
      refine wpD_seq ?_
      refine wpD_seq ?_
      refine wpD_region ?_
      refine p_pure htab rfl rfl rfl rfl ?_
      refine p_load 0 htab rfl rfl rfl rfl rfl rfl rfl rfl ?_
      refine p_pure htab rfl rfl rfl rfl ?_
      refine ops_nil ?_
      refine then_normal ?_
      obtain ⟨y21, q21, ho21⟩ := yes_bind hm
      refine wpD_mid (Y := Unit) (fun z21 => (⟨[(2, .v (.bool a2)), (6, .ptr b3 0), (7, .ptr b5 0), (9, .v (.int .i64 y21.1)), (10, .v (.int .i64 y21.2))], [(b1, Blk.cells [.v (.bool a0.gSome), .v (.int .i64 a0.gM), .v (.int .i64 a0.gR)] 23), (b2, Blk.cells [.v (.bool a1.gSome), .v (.int .i64 a1.gM), .v (.int .i64 a1.gR)] 23), (b3, Blk.cells [.v (.bool false), .v (.int .i64 (0 : Int)), .v (.int .i64 (0 : Int))] 23), (b5, Blk.cells [.v (.int .i64 ((rMul a0.gR a1.gR).gHi)), .v (.int .u64 ((rMul a0.gR a1.gR).gLo))] 54)], []⟩ : S)) ?_ ?_
      · clear hm; have hm := yes_of q21
        refine wpD_cond rfl (fun hc22 => ?_) (fun hc22 => ?_)
        · replace hm := yes_t hc22 hm
          refine wpD_seq ?_
          refine wpD_region ?_
          refine p_pure htab rfl rfl rfl rfl ?_
          refine p_load 0 htab rfl rfl rfl rfl rfl rfl rfl rfl ?_
          refine p_pure htab rfl rfl rfl rfl ?_
          refine ops_nil ?_
          refine then_normal ?_
          refine wpD_region ?_
          refine p_pure htab rfl rfl rfl rfl ?_
          refine p_load 1 htab rfl rfl rfl rfl rfl rfl rfl rfl ?_
          refine p_pure htab rfl rfl rfl rfl ?_
          refine ops_nil ?_
          have e21 := yes_eq hm; subst e21
          refine ⟨rfl, ?_⟩
          exact WkX.of () (WkS.perm (WkS.cons rfl (Wk.refl _) (WkS.cons rfl (Wk.refl _) (WkS.cons rfl (Wk.refl _) (WkS.cons rfl (Wk.refl _) (WkS.cons rfl (Wk.refl _) (WkS.nil)))))) (List.Perm.refl _) (List.Perm.refl _))
        · replace hm := yes_f hc22 hm
          refine wpD_skip ?_
          have e21 := yes_eq hm; subst e21
          refine ⟨rfl, ?_⟩
          exact WkX.of () (WkS.perm (WkS.cons rfl (Wk.refl _) (WkS.cons rfl (Wk.refl _) (WkS.cons rfl (Wk.refl _) (WkS.cons rfl (Wk.refl _) (WkS.cons rfl (Wk.refl _) (WkS.nil)))))) (List.Perm.refl _) (List.Perm.refl _))
      · intro s21 hw21; clear hm; have hm := ho21; clear q21 ho21
        refine then_normal ?_
        refine wpD_wkX hw21 (fun z21 => ?_)
        refine wpD_seq ?_
        refine wpD_seq ?_
        refine wpD_region ?_
        refine p_pure htab rfl rfl rfl rfl ?_
        refine p_pure htab rfl rfl rfl rfl ?_
        refine ops_nil ?_
        refine then_normal ?_
        refine wpD_cond rfl (fun hc25 => ?_) (fun hc25 => ?_)
        · replace hm := yes_t hc25 hm
          refine wpD_seq ?_
          refine wpD_region ?_
          obtain ⟨x26, q26, hm⟩ := yes_bind hm
          refine p_call0 (r06_of_ok (0 : Int) (0 : Int) x26 q26) rfl rfl rfl rfl rfl (WkL.refl _) ?_
          rintro _ rfl
          refine p_store (ds' := [.v (.bool x26.gSome), .v (.int .i64 x26.gM), .v (.int .i64 x26.gR)]) (h' := [(b1, Blk.cells [.v (.bool a0.gSome), .v (.int .i64 a0.gM), .v (.int .i64 a0.gR)] 23), (b2, Blk.cells [.v (.bool a1.gSome), .v (.int .i64 a1.gM), .v (.int .i64 a1.gR)] 23), (b3, Blk.cells [.v (.bool x26.gSome), .v (.int .i64 x26.gM), .v (.int .i64 x26.gR)] 23), (b5, Blk.cells [.v (.int .i64 ((rMul a0.gR a1.gR).gHi)), .v (.int .u64 ((rMul a0.gR a1.gR).gLo))] 54)]) 2 htab rfl rfl rfl rfl rfl rfl rfl rfl rfl rfl rfl rfl ?_
          refine ops_nil ?_
          refine then_normal ?_
          refine wpD_ret ?_
          refine then_ret ?_
          have er27 := yes_eq hm; subst er27
          refine retX.of (s' := ⟨[(6, .ptr b3 0)], [(b3, Blk.cells [.v (.bool x26.gSome), .v (.int .i64 x26.gM), .v (.int .i64 x26.gR)] 23)], []⟩) (WkS.perm (WkS.cons rfl (Wk.refl _) (WkS.nil)) ((perm_at (j := 2) rfl).trans (List.Perm.cons _ (List.Perm.refl _))) (List.Perm.refl _)) (retD_mk (hh := []) (.inl rfl) (resL_cons (resOne_cell 0 rfl rfl rfl rfl) (resL_nil)) (List.nil_sublist _) (List.Sublist.refl _) ?_)
          exact ⟨rfl, rfl, rfl⟩
        · replace hm := yes_f hc25 hm
          refine wpD_skip ?_
          refine then_normal ?_
          refine wpD_seq ?_
          refine wpD_region ?_
          refine p_pure htab rfl rfl rfl rfl ?_
          refine p_pure htab rfl rfl rfl rfl ?_
          obtain ⟨x28, q28, hm⟩ := yes_bind hm
          refine p_call0 (rMul_ok y21.1 y21.2 (need_ok q28)) rfl rfl rfl rfl rfl (WkL.refl _) ?_
          rintro _ rfl
          obtain ⟨x29, q29, hm⟩ := yes_bind hm
          refine p_call0 (r01_Int_ok (rMul y21.1 y21.2) x29 q29) rfl rfl rfl rfl rfl (WkL.refl _) ?_
          rintro _ rfl
          refine p_pure htab rfl rfl rfl rfl ?_
          refine p_pure htab rfl rfl rfl rfl ?_
          refine p_pure htab rfl rfl rfl rfl ?_
          refine p_pure htab rfl rfl rfl rfl ?_
          refine p_pure htab rfl rfl rfl rfl ?_
          refine ops_nil ?_
          refine then_normal ?_
          refine wpD_seq ?_
          refine wpD_seq ?_
          refine wpD_region ?_
          refine p_pure htab rfl rfl rfl rfl ?_
          refine p_pure htab rfl rfl rfl rfl ?_
          refine ops_nil ?_
          refine then_normal ?_
          obtain ⟨y34, q34, ho34⟩ := yes_bind hm
          refine wpD_mid (Y := Unit) (fun z34 => (⟨[(2, .v (.bool a2)), (6, .ptr b3 0), (7, .ptr b5 0), (9, .v (.int .i64 y21.1)), (11, .v (.int .i64 y34.1)), (12, .v (.bool y34.2))], [(b1, Blk.cells [.v (.bool a0.gSome), .v (.int .i64 a0.gM), .v (.int .i64 a0.gR)] 23), (b2, Blk.cells [.v (.bool a1.gSome), .v (.int .i64 a1.gM), .v (.int .i64 a1.gR)] 23), (b3, Blk.cells [.v (.bool false), .v (.int .i64 (0 : Int)), .v (.int .i64 (0 : Int))] 23), (b5, Blk.cells [.v (.int .i64 ((rMul a0.gR a1.gR).gHi)), .v (.int .u64 ((rMul a0.gR a1.gR).gLo))] 54)], []⟩ : S)) ?_ ?_
          · clear hm; have hm := yes_of q34
            refine wpD_cond rfl (fun hc35 => ?_) (fun hc35 => ?_)
            · replace hm := yes_t hc35 hm
              refine wpD_region ?_
              refine p_pure htab rfl rfl rfl rfl ?_
              refine p_pure htab rfl rfl rfl rfl ?_
              obtain ⟨x36, q36, hm⟩ := yes_bind hm
              refine p_call0 (rMul_ok y21.1 y21.2 (need_ok q36)) rfl rfl rfl rfl rfl (WkL.refl _) ?_
              rintro _ rfl
              obtain ⟨x37, q37, hm⟩ := yes_bind hm
              refine p_call0 (rNeg_ok (rMul y21.1 y21.2) (need_ok q37)) rfl rfl rfl rfl rfl (WkL.refl _) ?_
              rintro _ rfl
              obtain ⟨x38, q38, hm⟩ := yes_bind hm
              refine p_call0 (r01_Int_ok (rNeg (rMul y21.1 y21.2)) x38 q38) rfl rfl rfl rfl rfl (WkL.refl _) ?_
              rintro _ rfl
              refine p_pure htab rfl rfl rfl rfl ?_
              refine p_pure htab rfl rfl rfl rfl ?_
              refine p_pure htab rfl rfl rfl rfl ?_
              refine p_pure htab rfl rfl rfl rfl ?_
              refine p_pure htab rfl rfl rfl rfl ?_
              refine ops_nil ?_
              have e34 := yes_eq hm; subst e34
              refine ⟨rfl, ?_⟩
              exact WkX.of () (WkS.perm (WkS.cons rfl (Wk.refl _) (WkS.cons rfl (Wk.refl _) (WkS.cons rfl (Wk.refl _) (WkS.cons rfl (Wk.refl _) (WkS.cons rfl (Wk.refl _) (WkS.cons rfl (Wk.refl _) (WkS.nil))))))) (List.Perm.refl _) (List.Perm.refl _))
            · replace hm := yes_f hc35 hm
              refine wpD_skip ?_
              have e34 := yes_eq hm; subst e34
              refine ⟨rfl, ?_⟩
              exact WkX.of () (WkS.perm (WkS.cons rfl (Wk.refl _) (WkS.cons rfl (Wk.refl _) (WkS.cons rfl (Wk.refl _) (WkS.cons rfl (Wk.refl _) (WkS.cons rfl (Wk.refl _) (WkS.cons rfl (Wk.refl _) (WkS.nil))))))) (List.Perm.refl _) (List.Perm.refl _))
          · intro s34 hw34; clear hm; have hm := ho34; clear q34 ho34
            refine then_normal ?_
            refine wpD_wkX hw34 (fun z34 => ?_)
            refine wpD_seq ?_
            refine wpD_seq ?_
            refine wpD_region ?_
            refine p_pure htab rfl rfl rfl rfl ?_
            refine p_pure htab rfl rfl rfl rfl ?_
            refine ops_nil ?_
            refine then_normal ?_
            obtain ⟨y40, q40, ho40⟩ := yes_bind hm
            refine wpD_mid (Y := Unit) (fun z40 => (⟨[(2, .v (.bool a2)), (6, .ptr b3 0), (7, .ptr b5 0), (11, .v (.int .i64 y40))], [(b1, Blk.cells [.v (.bool a0.gSome), .v (.int .i64 a0.gM), .v (.int .i64 a0.gR)] 23), (b2, Blk.cells [.v (.bool a1.gSome), .v (.int .i64 a1.gM), .v (.int .i64 a1.gR)] 23), (b3, Blk.cells [.v (.bool false), .v (.int .i64 (0 : Int)), .v (.int .i64 (0 : Int))] 23), (b5, Blk.cells [.v (.int .i64 ((rMul a0.gR a1.gR).gHi)), .v (.int .u64 ((rMul a0.gR a1.gR).gLo))] 54)], []⟩ : S)) ?_ ?_
            · clear hm; have hm := yes_of q40
              refine wpD_cond rfl (fun hc41 => ?_) (fun hc41 => ?_)
              · replace hm := yes_t hc41 hm
                refine wpD_region ?_
                refine p_pure htab rfl rfl rfl rfl ?_
                refine p_pure htab rfl rfl rfl rfl ?_
                refine ops_nil ?_
                have e40 := yes_eq hm; subst e40
                refine ⟨rfl, ?_⟩
                exact WkX.of () (WkS.perm (WkS.cons rfl (Wk.refl _) (WkS.cons rfl (Wk.refl _) (WkS.cons rfl (Wk.refl _) (WkS.cons rfl (Wk.refl _) (WkS.nil))))) (List.Perm.refl _) (List.Perm.refl _))
              · replace hm := yes_f hc41 hm
                refine wpD_skip ?_
                have e40 := yes_eq hm; subst e40
                refine ⟨rfl, ?_⟩
                exact WkX.of () (WkS.perm (WkS.cons rfl (Wk.refl _) (WkS.cons rfl (Wk.refl _) (WkS.cons rfl (Wk.refl _) (WkS.cons rfl (Wk.refl _) (WkS.nil))))) (List.Perm.refl _) (List.Perm.refl _))
            · intro s40 hw40; clear hm; have hm := ho40; clear q40 ho40
              refine then_normal ?_
              refine wpD_wkX hw40 (fun z40 => ?_)
              refine wpD_seq ?_
              refine wpD_region ?_
              refine p_pure htab rfl rfl rfl rfl ?_
              refine p_pure htab rfl rfl rfl rfl ?_
              obtain ⟨x42, q42, hm⟩ := yes_bind hm
              refine p_call0 (r06_cut_ok y40 a2 x42 q42) rfl rfl rfl rfl rfl (WkL.refl _) ?_
              rintro _ rfl
              refine p_pure htab rfl rfl rfl rfl ?_
              refine ops_nil ?_
              refine then_normal ?_
              refine wpD_seq ?_
              refine wpD_region ?_
              refine p_pure htab rfl rfl rfl rfl ?_
              refine p_load (d := eTApiWide (rMul a0.gR a1.gR)) 3 htab rfl rfl rfl rfl rfl rfl rfl rfl ?_
              refine p_pure htab rfl rfl rfl rfl ?_
              obtain ⟨x43, q43, hm⟩ := yes_bind hm
              refine p_call0 (r06_left_ok (rMul a0.gR a1.gR) x42 x43 q43) rfl rfl rfl rfl rfl (WkL.refl _) ?_
              rintro _ rfl
              obtain ⟨x44, q44, hm⟩ := yes_bind hm
              refine p_call0 (r06_of_ok x42 x43 x44 q44) rfl rfl rfl rfl rfl (WkL.refl _) ?_
              rintro _ rfl
              refine p_store (ds' := [.v (.bool x44.gSome), .v (.int .i64 x44.gM), .v (.int .i64 x44.gR)]) (h' := [(b1, Blk.cells [.v (.bool a0.gSome), .v (.int .i64 a0.gM), .v (.int .i64 a0.gR)] 23), (b2, Blk.cells [.v (.bool a1.gSome), .v (.int .i64 a1.gM), .v (.int .i64 a1.gR)] 23), (b3, Blk.cells [.v (.bool x44.gSome), .v (.int .i64 x44.gM), .v (.int .i64 x44.gR)] 23), (b5, Blk.cells [.v (.int .i64 ((rMul a0.gR a1.gR).gHi)), .v (.int .u64 ((rMul a0.gR a1.gR).gLo))] 54)]) 2 htab rfl rfl rfl rfl rfl rfl rfl rfl rfl rfl rfl rfl ?_
              refine ops_nil ?_
              refine then_normal ?_
              refine wpD_ret ?_
              have er45 := yes_eq hm; subst er45
              refine retX.of (s' := ⟨[(6, .ptr b3 0)], [(b3, Blk.cells [.v (.bool x44.gSome), .v (.int .i64 x44.gM), .v (.int .i64 x44.gR)] 23)], []⟩) (WkS.perm (WkS.cons rfl (Wk.refl _) (WkS.nil)) ((perm_at (j := 2) rfl).trans (List.Perm.cons _ (List.Perm.refl _))) (List.Perm.refl _)) (retD_mk (hh := []) (.inl rfl) (resL_cons (resOne_cell 0 rfl rfl rfl rfl) (resL_nil)) (List.nil_sublist _) (List.Sublist.refl _) ?_)
              exact ⟨rfl, rfl, rfl⟩
noncomputable def r06_truth (a0 : Int) (a1 : TApiCong) (a2 : TApiCong) : Option (TApiCong) :=
  ((r05_Has a1 (0 : Int)).bind fun x4 => ((r05_Has a2 (0 : Int)).bind fun x5 => (Option.bind (α := Bool × Bool) (bif (a1.gM == (0 : Int)) then (bif (a2.gM == (0 : Int)) then some ((a1.gR == (0 : Int)), (a2.gR == (0 : Int))) else some ((a1.gR == (0 : Int)), false)) else (bif (a2.gM == (0 : Int)) then some (false, (a2.gR == (0 : Int))) else some (false, false))) fun y9 => ((r06_gcd a1.gM a2.gM).bind fun x13 => (bif (a0 == (14 : Int)) then ((r05_Apart a1.gR a2.gR).bind fun x15 => ((need ((IntKind.u64.wrap x13) != 0)).bind fun x16 => (bif ((x15.tmod (IntKind.u64.wrap x13)) != (0 : Int)) then ((r06_of (0 : Int) (0 : Int)).bind fun x18 => some x18) else (r06_all.bind fun x20 => some x20)))) else (bif (a0 == (15 : Int)) then ((r05_Apart a1.gR a2.gR).bind fun x23 => ((need ((IntKind.u64.wrap x13) != 0)).bind fun x24 => (bif ((x23.tmod (IntKind.u64.wrap x13)) != (0 : Int)) then ((r06_of (0 : Int) (1 : Int)).bind fun x26 => some x26) else (r06_all.bind fun x28 => some x28)))) else (bif (a0 == (16 : Int)) then (Option.bind (α := Bool) (bif y9.1 then some true else some y9.2) fun y32 => (bif y32 then ((r06_of (0 : Int) (0 : Int)).bind fun x37 => some x37) else (Option.bind (α := Bool) (bif (!x4) then some (!x5) else some false) fun y40 => (bif y40 then ((r06_of (0 : Int) (1 : Int)).bind fun x43 => some x43) else (r06_all.bind fun x45 => some x45))))) else (bif (a0 == (17 : Int)) then (Option.bind (α := Bool) (bif (!x4) then some true else some (!x5)) fun y49 => (bif y49 then ((r06_of (0 : Int) (1 : Int)).bind fun x52 => some x52) else (r06_all.bind fun x54 => some x54))) else (r06_all.bind fun x56 => some x56)))))))))
set_option maxRecDepth 100000 in
set_option maxHeartbeats 2000000 in
theorem r06_truth_ok (a0 : Int) (a1 : TApiCong) (a2 : TApiCong) (r : TApiCong) (h0 : r06_truth a0 a1 a2 = some r) : CallsD Try.prog 31 [.v (.int .i64 a0), eTApiCong a1, eTApiCong a2] [] [] (fun d h k => d = eTApiCong r ∧ h = [] ∧ k = []) := by
  have hm := yes_of h0
  unfold r06_truth at hm
  clear h0
  refine enterX htab Try.func31 rfl rfl rfl rfl rfl (fun C => ?_)
  refine wpD_seq ?_
  refine wpD_region ?_
  refine p_box rfl rfl rfl rfl rfl rfl rfl (fun b1 => ?_)
  refine p_box rfl rfl rfl rfl rfl rfl rfl (fun b2 => ?_)
  refine p_alloc htab rfl rfl rfl rfl rfl rfl rfl (fun b3 => ?_)
  refine ops_nil ?_
  refine then_normal ?_
  refine wpD_seq ?_
  obtain ⟨x4, q4, hm⟩ := yes_bind hm
  refine wpD_draws 3 [] [[],[0],[]] [0,1,2] [[],[0],[],[0,1,2],[0,1,2,3],[0,1,2,3,4]] (by kernel_rfl) (by kernel_rfl) (by kernel_rfl) (by rfl) (by rfl) (by kernel_rfl) ?_
  apply Exists.intro
  apply Exists.intro
  apply Exists.intro
  intro bs
  refine z_eM rfl rfl (xm_load (d := eTApiCong a1) 0 htab rfl rfl rfl rfl rfl) rfl rfl rfl rfl rfl rfl ?_
  refine z_call rfl rfl (r05_Has_ok a1 (0 : Int) x4 q4) rfl rfl (WkL.refl _) rfl rfl rfl rfl rfl rfl ?_
  refine z_eM rfl rfl (xm_load (d := eTApiCong a2) 1 htab rfl rfl rfl rfl rfl) rfl rfl rfl rfl rfl rfl ?_
  refine z_nil rfl rfl (fun e he => by simp [isAl] at he) ?_
  obtain ⟨x5, q5, hm⟩ := yes_bind hm
  refine p_call0 (r05_Has_ok a2 (0 : Int) x5 q5) rfl rfl rfl rfl rfl (WkL.refl _) ?_
  rintro _ rfl
  refine p_pure htab rfl rfl rfl rfl ?_
  refine p_pure htab rfl rfl rfl rfl ?_
  refine ops_nil ?_
  refine then_normal ?_
  refine wpD_seq ?_
  obtain ⟨y9, q9, ho9⟩ := yes_bind hm
  refine wpD_mid (Y := Unit) (fun z9 => (⟨[(0, .v (.int .i64 a0)), (4, .ptr b1 0), (5, .ptr b2 0), (6, .ptr b3 0), (7, .v (.bool x4)), (8, .v (.bool x5)), (9, .v (.bool y9.1)), (10, .v (.bool y9.2))], [(b1, Blk.cells [.v (.bool a1.gSome), .v (.int .i64 a1.gM), .v (.int .i64 a1.gR)] 23), (b2, Blk.cells [.v (.bool a2.gSome), .v (.int .i64 a2.gM), .v (.int .i64 a2.gR)] 23), (b3, Blk.cells [.v (.bool false), .v (.int .i64 (0 : Int)), .v (.int .i64 (0 : Int))] 23)], []⟩ : S)) ?_ ?_
  · clear hm; have hm := yes_of q9
    refine bycB (a1.gM == (0 : Int)) (fun hs10 => ?_) (fun hs10 => ?_)
    · replace hm := yes_t hs10 hm
      refine bycB (a2.gM == (0 : Int)) (fun hs11 => ?_) (fun hs11 => ?_)
      · replace hm := yes_t hs11 hm
        refine wpD_draws 17 [] [[],[0],[0],[0],[0],[0,4],[0,4],[0,4],[],[8],[8],[0,8],[0,8],[0,8,12],[0,8,12],[0,8,12],[0,4,8]] [0,4,8,12] [[],[0],[0,1],[0,1,2],[0,1,2,3],[0,1,2,3,4],[0,1,2,3,4,5],[0,1,2,3,4,5,6],[],[8],[8,9],[0,1,2,3,8,9,10],[0,1,2,3,8,9,10,11],[0,1,2,3,8,9,10,11,12],[0,1,2,3,8,9,10,11,12,13],[0,1,2,3,8,9,10,11,12,13,14],[0,1,2,3,4,5,6,7,8,9,10,11],[0,1,2,3,4,5,6,7,8,9,10,11,12,13,14,15,16]] (by kernel_rfl) (by kernel_rfl) (by kernel_rfl) (by rfl) (by rfl) (by kernel_rfl) ?_
        apply Exists.intro
        apply Exists.intro
        apply Exists.intro
        apply Exists.intro
        intro bs
        refine z_e rfl rfl (ex_pure htab rfl) rfl rfl rfl rfl rfl rfl ?_
        refine z_qM rfl rfl (xm_load 0 htab rfl rfl rfl rfl rfl) rfl rfl rfl rfl rfl rfl ?_
        refine z_q rfl rfl (ex_pure htab rfl) rfl rfl rfl rfl rfl rfl ?_
        refine z_q rfl rfl (ex_pure htab rfl) rfl rfl rfl rfl rfl rfl ?_
        refine z_known (j := 19) (b' := true) rfl hs10 ?_
        refine z_e rfl rfl (ex_pure htab rfl) rfl rfl rfl rfl rfl rfl ?_
        refine z_qM rfl rfl (xm_load 0 htab rfl rfl rfl rfl rfl) rfl rfl rfl rfl rfl rfl ?_
        refine z_q rfl rfl (ex_pure htab rfl) rfl rfl rfl rfl rfl rfl ?_
        refine z_q rfl rfl (x_pickT rfl rfl rfl) rfl rfl rfl rfl rfl rfl ?_
        refine z_e rfl rfl (ex_pure htab rfl) rfl rfl rfl rfl rfl rfl ?_
        refine z_qM rfl rfl (xm_load 1 htab rfl rfl rfl rfl rfl) rfl rfl rfl rfl rfl rfl ?_
        refine z_q rfl rfl (ex_pure htab rfl) rfl rfl rfl rfl rfl rfl ?_
        refine z_q rfl rfl (ex_pure htab rfl) rfl rfl rfl rfl rfl rfl ?_
        refine z_known (j := 27) (b' := true) rfl hs11 ?_
        refine z_e rfl rfl (ex_pure htab rfl) rfl rfl rfl rfl rfl rfl ?_
        refine z_qM rfl rfl (xm_load 1 htab rfl rfl rfl rfl rfl) rfl rfl rfl rfl rfl rfl ?_
        refine z_q rfl rfl (ex_pure htab rfl) rfl rfl rfl rfl rfl rfl ?_
        refine z_q rfl rfl (x_pickT rfl rfl rfl) rfl rfl rfl rfl rfl rfl ?_
        refine z_q rfl rfl (ex_pure htab rfl) rfl rfl rfl rfl rfl rfl ?_
        refine z_nil rfl rfl (fun e he => by simp [isAl] at he) ?_
        refine p_pure htab rfl rfl rfl rfl ?_
        refine ops_nil ?_
        have e9 := yes_eq hm; subst e9
        refine ⟨rfl, ?_⟩
        exact WkX.of () (WkS.perm (WkS.cons rfl (Wk.refl _) (WkS.cons rfl (Wk.refl _) (WkS.cons rfl (Wk.refl _) (WkS.cons rfl (Wk.refl _) (WkS.cons rfl (Wk.refl _) (WkS.cons rfl (Wk.refl _) (WkS.cons rfl (Wk.refl _) (WkS.cons rfl (Wk.refl _) (WkS.nil))))))))) (List.Perm.refl _) (List.Perm.refl _))
      · replace hm := yes_f hs11 hm
        refine wpD_draws 17 [] [[],[0],[0],[0],[0],[0,4],[0,4],[0,4],[],[8],[8],[0,8],[0,8],[0,8],[0,8],[0,8],[0,4,8]] [0,4,8] [[],[0],[0,1],[0,1,2],[0,1,2,3],[0,1,2,3,4],[0,1,2,3,4,5],[0,1,2,3,4,5,6],[],[8],[8,9],[0,1,2,3,8,9,10],[0,1,2,3,8,9,10,11],[0,1,2,3,8,9,10,11,12],[0,1,2,3,8,9,10,11,12,13],[0,1,2,3,8,9,10,11,12,13,14],[0,1,2,3,4,5,6,7,8,9,10,11],[0,1,2,3,4,5,6,7,8,9,10,11,12,13,14,15,16]] (by kernel_rfl) (by kernel_rfl) (by kernel_rfl) (by rfl) (by rfl) (by kernel_rfl) ?_
        apply Exists.intro
        apply Exists.intro
        apply Exists.intro
        intro bs
        refine z_e rfl rfl (ex_pure htab rfl) rfl rfl rfl rfl rfl rfl ?_
        refine z_qM rfl rfl (xm_load 0 htab rfl rfl rfl rfl rfl) rfl rfl rfl rfl rfl rfl ?_
        refine z_q rfl rfl (ex_pure htab rfl) rfl rfl rfl rfl rfl rfl ?_
        refine z_q rfl rfl (ex_pure htab rfl) rfl rfl rfl rfl rfl rfl ?_
        refine z_known (j := 19) (b' := true) rfl hs10 ?_
        refine z_e rfl rfl (ex_pure htab rfl) rfl rfl rfl rfl rfl rfl ?_
        refine z_qM rfl rfl (xm_load 0 htab rfl rfl rfl rfl rfl) rfl rfl rfl rfl rfl rfl ?_
        refine z_q rfl rfl (ex_pure htab rfl) rfl rfl rfl rfl rfl rfl ?_
        refine z_q rfl rfl (x_pickT rfl rfl rfl) rfl rfl rfl rfl rfl rfl ?_
        refine z_e rfl rfl (ex_pure htab rfl) rfl rfl rfl rfl rfl rfl ?_
        refine z_qM rfl rfl (xm_load 1 htab rfl rfl rfl rfl rfl) rfl rfl rfl rfl rfl rfl ?_
        refine z_q rfl rfl (ex_pure htab rfl) rfl rfl rfl rfl rfl rfl ?_
        refine z_q rfl rfl (ex_pure htab rfl) rfl rfl rfl rfl rfl rfl ?_
        refine z_known (j := 27) (b' := false) rfl hs11 ?_
        refine z_skip rfl rfl rfl rfl ?_
        refine z_skip rfl rfl rfl rfl ?_
        refine z_skip rfl rfl rfl rfl ?_
        refine z_q rfl rfl (x_pickF rfl rfl rfl) rfl rfl rfl rfl rfl rfl ?_
        refine z_q rfl rfl (ex_pure htab rfl) rfl rfl rfl rfl rfl rfl ?_
        refine z_nil rfl rfl (fun e he => by simp [isAl] at he) ?_
        refine p_pure htab rfl rfl rfl rfl ?_
        refine ops_nil ?_
        have e9 := yes_eq hm; subst e9
        refine ⟨rfl, ?_⟩
        exact WkX.of () (WkS.perm (WkS.cons rfl (Wk.refl _) (WkS.cons rfl (Wk.refl _) (WkS.cons rfl (Wk.refl _) (WkS.cons rfl (Wk.refl _) (WkS.cons rfl (Wk.refl _) (WkS.cons rfl (Wk.refl _) (WkS.cons rfl (Wk.refl _) (WkS.cons rfl (Wk.refl _) (WkS.nil))))))))) (List.Perm.refl _) (List.Perm.refl _))
    · replace hm := yes_f hs10 hm
      refine bycB (a2.gM == (0 : Int)) (fun hs12 => ?_) (fun hs12 => ?_)
      · replace hm := yes_t hs12 hm
        refine wpD_draws 17 [] [[],[0],[0],[0],[0],[0],[0],[0],[],[8],[8],[0,8],[0,8],[0,8,12],[0,8,12],[0,8,12],[0,8]] [0,8,12] [[],[0],[0,1],[0,1,2],[0,1,2,3],[0,1,2,3,4],[0,1,2,3,4,5],[0,1,2,3,4,5,6],[],[8],[8,9],[0,1,2,3,8,9,10],[0,1,2,3,8,9,10,11],[0,1,2,3,8,9,10,11,12],[0,1,2,3,8,9,10,11,12,13],[0,1,2,3,8,9,10,11,12,13,14],[0,1,2,3,4,5,6,7,8,9,10,11],[0,1,2,3,4,5,6,7,8,9,10,11,12,13,14,15,16]] (by kernel_rfl) (by kernel_rfl) (by kernel_rfl) (by rfl) (by rfl) (by kernel_rfl) ?_
        apply Exists.intro
        apply Exists.intro
        apply Exists.intro
        intro bs
        refine z_e rfl rfl (ex_pure htab rfl) rfl rfl rfl rfl rfl rfl ?_
        refine z_qM rfl rfl (xm_load 0 htab rfl rfl rfl rfl rfl) rfl rfl rfl rfl rfl rfl ?_
        refine z_q rfl rfl (ex_pure htab rfl) rfl rfl rfl rfl rfl rfl ?_
        refine z_q rfl rfl (ex_pure htab rfl) rfl rfl rfl rfl rfl rfl ?_
        refine z_known (j := 19) (b' := false) rfl hs10 ?_
        refine z_skip rfl rfl rfl rfl ?_
        refine z_skip rfl rfl rfl rfl ?_
        refine z_skip rfl rfl rfl rfl ?_
        refine z_q rfl rfl (x_pickF rfl rfl rfl) rfl rfl rfl rfl rfl rfl ?_
        refine z_e rfl rfl (ex_pure htab rfl) rfl rfl rfl rfl rfl rfl ?_
        refine z_qM rfl rfl (xm_load 1 htab rfl rfl rfl rfl rfl) rfl rfl rfl rfl rfl rfl ?_
        refine z_q rfl rfl (ex_pure htab rfl) rfl rfl rfl rfl rfl rfl ?_
        refine z_q rfl rfl (ex_pure htab rfl) rfl rfl rfl rfl rfl rfl ?_
        refine z_known (j := 27) (b' := true) rfl hs12 ?_
        refine z_e rfl rfl (ex_pure htab rfl) rfl rfl rfl rfl rfl rfl ?_
        refine z_qM rfl rfl (xm_load 1 htab rfl rfl rfl rfl rfl) rfl rfl rfl rfl rfl rfl ?_
        refine z_q rfl rfl (ex_pure htab rfl) rfl rfl rfl rfl rfl rfl ?_
        refine z_q rfl rfl (x_pickT rfl rfl rfl) rfl rfl rfl rfl rfl rfl ?_
        refine z_q rfl rfl (ex_pure htab rfl) rfl rfl rfl rfl rfl rfl ?_
        refine z_nil rfl rfl (fun e he => by simp [isAl] at he) ?_
        refine p_pure htab rfl rfl rfl rfl ?_
        refine ops_nil ?_
        have e9 := yes_eq hm; subst e9
        refine ⟨rfl, ?_⟩
        exact WkX.of () (WkS.perm (WkS.cons rfl (Wk.refl _) (WkS.cons rfl (Wk.refl _) (WkS.cons rfl (Wk.refl _) (WkS.cons rfl (Wk.refl _) (WkS.cons rfl (Wk.refl _) (WkS.cons rfl (Wk.refl _) (WkS.cons rfl (Wk.refl _) (WkS.cons rfl (Wk.refl _) (WkS.nil))))))))) (List.Perm.refl _) (List.Perm.refl _))
      · replace hm := yes_f hs12 hm
        refine wpD_draws 17 [] [[],[0],[0],[0],[0],[0],[0],[0],[],[8],[8],[0,8],[0,8],[0,8],[0,8],[0,8],[0,8]] [0,8] [[],[0],[0,1],[0,1,2],[0,1,2,3],[0,1,2,3,4],[0,1,2,3,4,5],[0,1,2,3,4,5,6],[],[8],[8,9],[0,1,2,3,8,9,10],[0,1,2,3,8,9,10,11],[0,1,2,3,8,9,10,11,12],[0,1,2,3,8,9,10,11,12,13],[0,1,2,3,8,9,10,11,12,13,14],[0,1,2,3,4,5,6,7,8,9,10,11],[0,1,2,3,4,5,6,7,8,9,10,11,12,13,14,15,16]] (by kernel_rfl) (by kernel_rfl) (by kernel_rfl) (by rfl) (by rfl) (by kernel_rfl) ?_
        apply Exists.intro
        apply Exists.intro
        intro bs
        refine z_e rfl rfl (ex_pure htab rfl) rfl rfl rfl rfl rfl rfl ?_
        refine z_qM rfl rfl (xm_load 0 htab rfl rfl rfl rfl rfl) rfl rfl rfl rfl rfl rfl ?_
        refine z_q rfl rfl (ex_pure htab rfl) rfl rfl rfl rfl rfl rfl ?_
        refine z_q rfl rfl (ex_pure htab rfl) rfl rfl rfl rfl rfl rfl ?_
        refine z_known (j := 19) (b' := false) rfl hs10 ?_
        refine z_skip rfl rfl rfl rfl ?_
        refine z_skip rfl rfl rfl rfl ?_
        refine z_skip rfl rfl rfl rfl ?_
        refine z_q rfl rfl (x_pickF rfl rfl rfl) rfl rfl rfl rfl rfl rfl ?_
        refine z_e rfl rfl (ex_pure htab rfl) rfl rfl rfl rfl rfl rfl ?_
        refine z_qM rfl rfl (xm_load 1 htab rfl rfl rfl rfl rfl) rfl rfl rfl rfl rfl rfl ?_
        refine z_q rfl rfl (ex_pure htab rfl) rfl rfl rfl rfl rfl rfl ?_
        refine z_q rfl rfl (ex_pure htab rfl) rfl rfl rfl rfl rfl rfl ?_
        refine z_known (j := 27) (b' := false) rfl hs12 ?_
        refine z_skip rfl rfl rfl rfl ?_
        refine z_skip rfl rfl rfl rfl ?_
        refine z_skip rfl rfl rfl rfl ?_
        refine z_q rfl rfl (x_pickF rfl rfl rfl) rfl rfl rfl rfl rfl rfl ?_
        refine z_q rfl rfl (ex_pure htab rfl) rfl rfl rfl rfl rfl rfl ?_
        refine z_nil rfl rfl (fun e he => by simp [isAl] at he) ?_
        refine p_pure htab rfl rfl rfl rfl ?_
        refine ops_nil ?_
        have e9 := yes_eq hm; subst e9
        refine ⟨rfl, ?_⟩
        exact WkX.of () (WkS.perm (WkS.cons rfl (Wk.refl _) (WkS.cons rfl (Wk.refl _) (WkS.cons rfl (Wk.refl _) (WkS.cons rfl (Wk.refl _) (WkS.cons rfl (Wk.refl _) (WkS.cons rfl (Wk.refl _) (WkS.cons rfl (Wk.refl _) (WkS.cons rfl (Wk.refl _) (WkS.nil))))))))) (List.Perm.refl _) (List.Perm.refl _))
  · intro s9 hw9; clear hm; have hm := ho9; clear q9 ho9
    refine then_normal ?_
    refine wpD_wkX hw9 (fun z9 => ?_)
    refine wpD_seq ?_
    refine wpD_region ?_
    refine p_pure htab rfl rfl rfl rfl ?_
    refine p_load 0 htab rfl rfl rfl rfl rfl rfl rfl rfl ?_
    refine p_pure htab rfl rfl rfl rfl ?_
    refine p_load 1 htab rfl rfl rfl rfl rfl rfl rfl rfl ?_
    obtain ⟨x13, q13, hm⟩ := yes_bind hm
    refine p_call0 (r06_gcd_ok a1.gM a2.gM x13 q13) rfl rfl rfl rfl rfl (WkL.refl _) ?_
    rintro _ rfl
    refine p_pure htab rfl rfl rfl rfl ?_
    refine p_pure htab rfl rfl rfl rfl ?_
    refine ops_nil ?_
    refine then_normal ?_
    refine wpD_seq ?_
    refine wpD_seq ?_
    refine wpD_region ?_
    refine p_pure htab rfl rfl rfl rfl ?_
    refine ops_nil ?_
    refine then_normal ?_
    refine wpD_block ?_
    refine wpD_seq ?_
    refine wpD_region ?_
    refine p_pure htab rfl rfl rfl rfl ?_
    refine p_pure htab rfl rfl rfl rfl ?_
    refine ops_nil ?_
    refine then_normal ?_
    refine wpD_cond rfl (fun hc14 => ?_) (fun hc14 => ?_)
    · replace hm := yes_t hc14 hm
      refine wpD_seq ?_
      refine wpD_region ?_
      refine p_pure htab rfl rfl rfl rfl ?_
      refine p_load 0 htab rfl rfl rfl rfl rfl rfl rfl rfl ?_
      refine p_pure htab rfl rfl rfl rfl ?_
      refine p_load 1 htab rfl rfl rfl rfl rfl rfl rfl rfl ?_
      obtain ⟨x15, q15, hm⟩ := yes_bind hm
      refine p_call0 (r05_Apart_ok a1.gR a2.gR x15 q15) rfl rfl rfl rfl rfl (WkL.refl _) ?_
      rintro _ rfl
      refine p_pure htab rfl rfl rfl rfl ?_
      obtain ⟨x16, q16, hm⟩ := yes_bind hm
      refine p_div rfl rfl rfl rfl rfl rfl rfl (by simpa using need_ok q16) ?_
      refine p_pure htab rfl rfl rfl rfl ?_
      refine ops_nil ?_
      refine then_normal ?_
      refine wpD_cond rfl (fun hc17 => ?_) (fun hc17 => ?_)
      · replace hm := yes_t hc17 hm
        refine wpD_seq ?_
        refine wpD_region ?_
        obtain ⟨x18, q18, hm⟩ := yes_bind hm
        refine p_call0 (r06_of_ok (0 : Int) (0 : Int) x18 q18) rfl rfl rfl rfl rfl (WkL.refl _) ?_
        rintro _ rfl
        refine p_store (ds' := [.v (.bool x18.gSome), .v (.int .i64 x18.gM), .v (.int .i64 x18.gR)]) (h' := [(b1, Blk.cells [.v (.bool a1.gSome), .v (.int .i64 a1.gM), .v (.int .i64 a1.gR)] 23), (b2, Blk.cells [.v (.bool a2.gSome), .v (.int .i64 a2.gM), .v (.int .i64 a2.gR)] 23), (b3, Blk.cells [.v (.bool x18.gSome), .v (.int .i64 x18.gM), .v (.int .i64 x18.gR)] 23)]) 2 htab rfl rfl rfl rfl rfl rfl rfl rfl rfl rfl rfl rfl ?_
        refine ops_nil ?_
        refine then_normal ?_
        refine wpD_ret ?_
        refine block_ret ?_
        refine then_ret ?_
        have er19 := yes_eq hm; subst er19
        refine retX.of (s' := ⟨[(6, .ptr b3 0)], [(b3, Blk.cells [.v (.bool x18.gSome), .v (.int .i64 x18.gM), .v (.int .i64 x18.gR)] 23)], []⟩) (WkS.perm (WkS.cons rfl (Wk.refl _) (WkS.nil)) ((perm_at (j := 2) rfl).trans (List.Perm.cons _ (List.Perm.refl _))) (List.Perm.refl _)) (retD_mk (hh := []) (.inl rfl) (resL_cons (resOne_cell 0 rfl rfl rfl rfl) (resL_nil)) (List.nil_sublist _) (List.Sublist.refl _) ?_)
        exact ⟨rfl, rfl, rfl⟩
      · replace hm := yes_f hc17 hm
        refine wpD_skip ?_
        refine block_normal ?_
        refine then_normal ?_
        refine wpD_seq ?_
        refine wpD_region ?_
        obtain ⟨x20, q20, hm⟩ := yes_bind hm
        refine p_call0 (r06_all_ok  x20 q20) rfl rfl rfl rfl rfl (WkL.refl _) ?_
        rintro _ rfl
        refine p_store (ds' := [.v (.bool x20.gSome), .v (.int .i64 x20.gM), .v (.int .i64 x20.gR)]) (h' := [(b1, Blk.cells [.v (.bool a1.gSome), .v (.int .i64 a1.gM), .v (.int .i64 a1.gR)] 23), (b2, Blk.cells [.v (.bool a2.gSome), .v (.int .i64 a2.gM), .v (.int .i64 a2.gR)] 23), (b3, Blk.cells [.v (.bool x20.gSome), .v (.int .i64 x20.gM), .v (.int .i64 x20.gR)] 23)]) 2 htab rfl rfl rfl rfl rfl rfl rfl rfl rfl rfl rfl rfl ?_
        refine ops_nil ?_
        refine then_normal ?_
        refine wpD_ret ?_
        have er21 := yes_eq hm; subst er21
        refine retX.of (s' := ⟨[(6, .ptr b3 0)], [(b3, Blk.cells [.v (.bool x20.gSome), .v (.int .i64 x20.gM), .v (.int .i64 x20.gR)] 23)], []⟩) (WkS.perm (WkS.cons rfl (Wk.refl _) (WkS.nil)) ((perm_at (j := 2) rfl).trans (List.Perm.cons _ (List.Perm.refl _))) (List.Perm.refl _)) (retD_mk (hh := []) (.inl rfl) (resL_cons (resOne_cell 0 rfl rfl rfl rfl) (resL_nil)) (List.nil_sublist _) (List.Sublist.refl _) ?_)
        exact ⟨rfl, rfl, rfl⟩
    · replace hm := yes_f hc14 hm
      refine wpD_seq ?_
      refine wpD_region ?_
      refine p_pure htab rfl rfl rfl rfl ?_
      refine p_pure htab rfl rfl rfl rfl ?_
      refine ops_nil ?_
      refine then_normal ?_
      refine wpD_cond rfl (fun hc22 => ?_) (fun hc22 => ?_)
      · replace hm := yes_t hc22 hm
        refine wpD_seq ?_
        refine wpD_region ?_
        refine p_pure htab rfl rfl rfl rfl ?_
        refine p_load 0 htab rfl rfl rfl rfl rfl rfl rfl rfl ?_
        refine p_pure htab rfl rfl rfl rfl ?_
        refine p_load 1 htab rfl rfl rfl rfl rfl rfl rfl rfl ?_
        obtain ⟨x23, q23, hm⟩ := yes_bind hm
        refine p_call0 (r05_Apart_ok a1.gR a2.gR x23 q23) rfl rfl rfl rfl rfl (WkL.refl _) ?_
        rintro _ rfl
        refine p_pure htab rfl rfl rfl rfl ?_
        obtain ⟨x24, q24, hm⟩ := yes_bind hm
        refine p_div rfl rfl rfl rfl rfl rfl rfl (by simpa using need_ok q24) ?_
        refine p_pure htab rfl rfl rfl rfl ?_
        refine ops_nil ?_
        refine then_normal ?_
        refine wpD_cond rfl (fun hc25 => ?_) (fun hc25 => ?_)
        · replace hm := yes_t hc25 hm
          refine wpD_seq ?_
          refine wpD_region ?_
          obtain ⟨x26, q26, hm⟩ := yes_bind hm
          refine p_call0 (r06_of_ok (0 : Int) (1 : Int) x26 q26) rfl rfl rfl rfl rfl (WkL.refl _) ?_
          rintro _ rfl
          refine p_store (ds' := [.v (.bool x26.gSome), .v (.int .i64 x26.gM), .v (.int .i64 x26.gR)]) (h' := [(b1, Blk.cells [.v (.bool a1.gSome), .v (.int .i64 a1.gM), .v (.int .i64 a1.gR)] 23), (b2, Blk.cells [.v (.bool a2.gSome), .v (.int .i64 a2.gM), .v (.int .i64 a2.gR)] 23), (b3, Blk.cells [.v (.bool x26.gSome), .v (.int .i64 x26.gM), .v (.int .i64 x26.gR)] 23)]) 2 htab rfl rfl rfl rfl rfl rfl rfl rfl rfl rfl rfl rfl ?_
          refine ops_nil ?_
          refine then_normal ?_
          refine wpD_ret ?_
          refine block_ret ?_
          refine then_ret ?_
          have er27 := yes_eq hm; subst er27
          refine retX.of (s' := ⟨[(6, .ptr b3 0)], [(b3, Blk.cells [.v (.bool x26.gSome), .v (.int .i64 x26.gM), .v (.int .i64 x26.gR)] 23)], []⟩) (WkS.perm (WkS.cons rfl (Wk.refl _) (WkS.nil)) ((perm_at (j := 2) rfl).trans (List.Perm.cons _ (List.Perm.refl _))) (List.Perm.refl _)) (retD_mk (hh := []) (.inl rfl) (resL_cons (resOne_cell 0 rfl rfl rfl rfl) (resL_nil)) (List.nil_sublist _) (List.Sublist.refl _) ?_)
          exact ⟨rfl, rfl, rfl⟩
        · replace hm := yes_f hc25 hm
          refine wpD_skip ?_
          refine block_normal ?_
          refine then_normal ?_
          refine wpD_seq ?_
          refine wpD_region ?_
          obtain ⟨x28, q28, hm⟩ := yes_bind hm
          refine p_call0 (r06_all_ok  x28 q28) rfl rfl rfl rfl rfl (WkL.refl _) ?_
          rintro _ rfl
          refine p_store (ds' := [.v (.bool x28.gSome), .v (.int .i64 x28.gM), .v (.int .i64 x28.gR)]) (h' := [(b1, Blk.cells [.v (.bool a1.gSome), .v (.int .i64 a1.gM), .v (.int .i64 a1.gR)] 23), (b2, Blk.cells [.v (.bool a2.gSome), .v (.int .i64 a2.gM), .v (.int .i64 a2.gR)] 23), (b3, Blk.cells [.v (.bool x28.gSome), .v (.int .i64 x28.gM), .v (.int .i64 x28.gR)] 23)]) 2 htab rfl rfl rfl rfl rfl rfl rfl rfl rfl rfl rfl rfl ?_
          refine ops_nil ?_
          refine then_normal ?_
          refine wpD_ret ?_
          have er29 := yes_eq hm; subst er29
          refine retX.of (s' := ⟨[(6, .ptr b3 0)], [(b3, Blk.cells [.v (.bool x28.gSome), .v (.int .i64 x28.gM), .v (.int .i64 x28.gR)] 23)], []⟩) (WkS.perm (WkS.cons rfl (Wk.refl _) (WkS.nil)) ((perm_at (j := 2) rfl).trans (List.Perm.cons _ (List.Perm.refl _))) (List.Perm.refl _)) (retD_mk (hh := []) (.inl rfl) (resL_cons (resOne_cell 0 rfl rfl rfl rfl) (resL_nil)) (List.nil_sublist _) (List.Sublist.refl _) ?_)
          exact ⟨rfl, rfl, rfl⟩
      · replace hm := yes_f hc22 hm
        refine wpD_seq ?_
        refine wpD_region ?_
        refine p_pure htab rfl rfl rfl rfl ?_
        refine p_pure htab rfl rfl rfl rfl ?_
        refine ops_nil ?_
        refine then_normal ?_
        refine wpD_cond rfl (fun hc30 => ?_) (fun hc30 => ?_)
        · replace hm := yes_t hc30 hm
          refine wpD_seq ?_
          refine wpD_seq ?_
          obtain ⟨y32, q32, ho32⟩ := yes_bind hm
          refine wpD_mid (Y := Unit) (fun z32 => (⟨[(6, .ptr b3 0), (7, .v (.bool x4)), (8, .v (.bool x5)), (66, .v (.bool y32))], [(b1, Blk.cells [.v (.bool a1.gSome), .v (.int .i64 a1.gM), .v (.int .i64 a1.gR)] 23), (b2, Blk.cells [.v (.bool a2.gSome), .v (.int .i64 a2.gM), .v (.int .i64 a2.gR)] 23), (b3, Blk.cells [.v (.bool false), .v (.int .i64 (0 : Int)), .v (.int .i64 (0 : Int))] 23)], []⟩ : S)) ?_ ?_
          · clear hm; have hm := yes_of q32
            refine wpD_region ?_
            refine p_pure htab rfl rfl rfl rfl ?_
            refine p_pure htab rfl rfl rfl rfl ?_
            refine p_split (i := 64) rfl (fun hg33 => ?_) (fun hg33 => ?_)
            · replace hm := yes_t hg33 hm
              refine p_skip rfl rfl rfl ?_
              refine p_pickT rfl rfl rfl rfl rfl rfl ?_
              refine ops_nil ?_
              have e32 := yes_eq hm; subst e32
              refine ⟨rfl, ?_⟩
              exact WkX.of () (WkS.perm (WkS.cons rfl (Wk.refl _) (WkS.cons rfl (Wk.refl _) (WkS.cons rfl (Wk.refl _) (WkS.cons rfl (Wk.refl _) (WkS.nil))))) (List.Perm.refl _) (List.Perm.refl _))
            · replace hm := yes_f hg33 hm
              refine p_pure htab rfl rfl rfl rfl ?_
              refine p_pickF rfl rfl rfl rfl rfl rfl ?_
              refine ops_nil ?_
              have e32 := yes_eq hm; subst e32
              refine ⟨rfl, ?_⟩
              exact WkX.of () (WkS.perm (WkS.cons rfl (Wk.refl _) (WkS.cons rfl (Wk.refl _) (WkS.cons rfl (Wk.refl _) (WkS.cons rfl (Wk.refl _) (WkS.nil))))) (List.Perm.refl _) (List.Perm.refl _))
          · intro s32 hw32; clear hm; have hm := ho32; clear q32 ho32
            refine then_normal ?_
            refine wpD_wkX hw32 (fun z32 => ?_)
            refine wpD_cond rfl (fun hc36 => ?_) (fun hc36 => ?_)
            · replace hm := yes_t hc36 hm
              refine wpD_seq ?_
              refine wpD_region ?_
              obtain ⟨x37, q37, hm⟩ := yes_bind hm
              refine p_call0 (r06_of_ok (0 : Int) (0 : Int) x37 q37) rfl rfl rfl rfl rfl (WkL.refl _) ?_
              rintro _ rfl
              refine p_store (ds' := [.v (.bool x37.gSome), .v (.int .i64 x37.gM), .v (.int .i64 x37.gR)]) (h' := [(b1, Blk.cells [.v (.bool a1.gSome), .v (.int .i64 a1.gM), .v (.int .i64 a1.gR)] 23), (b2, Blk.cells [.v (.bool a2.gSome), .v (.int .i64 a2.gM), .v (.int .i64 a2.gR)] 23), (b3, Blk.cells [.v (.bool x37.gSome), .v (.int .i64 x37.gM), .v (.int .i64 x37.gR)] 23)]) 2 htab rfl rfl rfl rfl rfl rfl rfl rfl rfl rfl rfl rfl ?_
              refine ops_nil ?_
              refine then_normal ?_
              refine wpD_ret ?_
              refine then_ret ?_
              refine block_ret ?_
              refine then_ret ?_
              have er38 := yes_eq hm; subst er38
              refine retX.of (s' := ⟨[(6, .ptr b3 0)], [(b3, Blk.cells [.v (.bool x37.gSome), .v (.int .i64 x37.gM), .v (.int .i64 x37.gR)] 23)], []⟩) (WkS.perm (WkS.cons rfl (Wk.refl _) (WkS.nil)) ((perm_at (j := 2) rfl).trans (List.Perm.cons _ (List.Perm.refl _))) (List.Perm.refl _)) (retD_mk (hh := []) (.inl rfl) (resL_cons (resOne_cell 0 rfl rfl rfl rfl) (resL_nil)) (List.nil_sublist _) (List.Sublist.refl _) ?_)
              exact ⟨rfl, rfl, rfl⟩
            · replace hm := yes_f hc36 hm
              refine wpD_skip ?_
              refine then_normal ?_
              refine wpD_seq ?_
              obtain ⟨y40, q40, ho40⟩ := yes_bind hm
              refine wpD_mid (Y := Unit) (fun z40 => (⟨[(6, .ptr b3 0), (73, .v (.bool y40))], [(b1, Blk.cells [.v (.bool a1.gSome), .v (.int .i64 a1.gM), .v (.int .i64 a1.gR)] 23), (b2, Blk.cells [.v (.bool a2.gSome), .v (.int .i64 a2.gM), .v (.int .i64 a2.gR)] 23), (b3, Blk.cells [.v (.bool false), .v (.int .i64 (0 : Int)), .v (.int .i64 (0 : Int))] 23)], []⟩ : S)) ?_ ?_
              · clear hm; have hm := yes_of q40
                refine wpD_region ?_
                refine p_pure htab rfl rfl rfl rfl ?_
                refine p_pure htab rfl rfl rfl rfl ?_
                refine p_pure htab rfl rfl rfl rfl ?_
                refine p_split (i := 70) rfl (fun hg41 => ?_) (fun hg41 => ?_)
                · replace hm := yes_t hg41 hm
                  refine p_pure htab rfl rfl rfl rfl ?_
                  refine p_pure htab rfl rfl rfl rfl ?_
                  refine p_pickT rfl rfl rfl rfl rfl rfl ?_
                  refine ops_nil ?_
                  have e40 := yes_eq hm; subst e40
                  refine ⟨rfl, ?_⟩
                  exact WkX.of () (WkS.perm (WkS.cons rfl (Wk.refl _) (WkS.cons rfl (Wk.refl _) (WkS.nil))) (List.Perm.refl _) (List.Perm.refl _))
                · replace hm := yes_f hg41 hm
                  refine p_skip rfl rfl rfl ?_
                  refine p_skip rfl rfl rfl ?_
                  refine p_pickF rfl rfl rfl rfl rfl rfl ?_
                  refine ops_nil ?_
                  have e40 := yes_eq hm; subst e40
                  refine ⟨rfl, ?_⟩
                  exact WkX.of () (WkS.perm (WkS.cons rfl (Wk.refl _) (WkS.cons rfl (Wk.refl _) (WkS.nil))) (List.Perm.refl _) (List.Perm.refl _))
              · intro s40 hw40; clear hm; have hm := ho40; clear q40 ho40
                refine then_normal ?_
                refine wpD_wkX hw40 (fun z40 => ?_)
                refine wpD_cond rfl (fun hc42 => ?_) (fun hc42 => ?_)
                · replace hm := yes_t hc42 hm
                  refine wpD_seq ?_
                  refine wpD_region ?_
                  obtain ⟨x43, q43, hm⟩ := yes_bind hm
                  refine p_call0 (r06_of_ok (0 : Int) (1 : Int) x43 q43) rfl rfl rfl rfl rfl (WkL.refl _) ?_
                  rintro _ rfl
                  refine p_store (ds' := [.v (.bool x43.gSome), .v (.int .i64 x43.gM), .v (.int .i64 x43.gR)]) (h' := [(b1, Blk.cells [.v (.bool a1.gSome), .v (.int .i64 a1.gM), .v (.int .i64 a1.gR)] 23), (b2, Blk.cells [.v (.bool a2.gSome), .v (.int .i64 a2.gM), .v (.int .i64 a2.gR)] 23), (b3, Blk.cells [.v (.bool x43.gSome), .v (.int .i64 x43.gM), .v (.int .i64 x43.gR)] 23)]) 2 htab rfl rfl rfl rfl rfl rfl rfl rfl rfl rfl rfl rfl ?_
                  refine ops_nil ?_
                  refine then_normal ?_
                  refine wpD_ret ?_
                  refine block_ret ?_
                  refine then_ret ?_
                  have er44 := yes_eq hm; subst er44
                  refine retX.of (s' := ⟨[(6, .ptr b3 0)], [(b3, Blk.cells [.v (.bool x43.gSome), .v (.int .i64 x43.gM), .v (.int .i64 x43.gR)] 23)], []⟩) (WkS.perm (WkS.cons rfl (Wk.refl _) (WkS.nil)) ((perm_at (j := 2) rfl).trans (List.Perm.cons _ (List.Perm.refl _))) (List.Perm.refl _)) (retD_mk (hh := []) (.inl rfl) (resL_cons (resOne_cell 0 rfl rfl rfl rfl) (resL_nil)) (List.nil_sublist _) (List.Sublist.refl _) ?_)
                  exact ⟨rfl, rfl, rfl⟩
                · replace hm := yes_f hc42 hm
                  refine wpD_skip ?_
                  refine block_normal ?_
                  refine then_normal ?_
                  refine wpD_seq ?_
                  refine wpD_region ?_
                  obtain ⟨x45, q45, hm⟩ := yes_bind hm
                  refine p_call0 (r06_all_ok  x45 q45) rfl rfl rfl rfl rfl (WkL.refl _) ?_
                  rintro _ rfl
                  refine p_store (ds' := [.v (.bool x45.gSome), .v (.int .i64 x45.gM), .v (.int .i64 x45.gR)]) (h' := [(b1, Blk.cells [.v (.bool a1.gSome), .v (.int .i64 a1.gM), .v (.int .i64 a1.gR)] 23), (b2, Blk.cells [.v (.bool a2.gSome), .v (.int .i64 a2.gM), .v (.int .i64 a2.gR)] 23), (b3, Blk.cells [.v (.bool x45.gSome), .v (.int .i64 x45.gM), .v (.int .i64 x45.gR)] 23)]) 2 htab rfl rfl rfl rfl rfl rfl rfl rfl rfl rfl rfl rfl ?_
                  refine ops_nil ?_
                  refine then_normal ?_
                  refine wpD_ret ?_
                  have er46 := yes_eq hm; subst er46
                  refine retX.of (s' := ⟨[(6, .ptr b3 0)], [(b3, Blk.cells [.v (.bool x45.gSome), .v (.int .i64 x45.gM), .v (.int .i64 x45.gR)] 23)], []⟩) (WkS.perm (WkS.cons rfl (Wk.refl _) (WkS.nil)) ((perm_at (j := 2) rfl).trans (List.Perm.cons _ (List.Perm.refl _))) (List.Perm.refl _)) (retD_mk (hh := []) (.inl rfl) (resL_cons (resOne_cell 0 rfl rfl rfl rfl) (resL_nil)) (List.nil_sublist _) (List.Sublist.refl _) ?_)
                  exact ⟨rfl, rfl, rfl⟩
        · replace hm := yes_f hc30 hm
          refine wpD_seq ?_
          refine wpD_region ?_
          refine p_pure htab rfl rfl rfl rfl ?_
          refine p_pure htab rfl rfl rfl rfl ?_
          refine ops_nil ?_
          refine then_normal ?_
          refine wpD_cond rfl (fun hc47 => ?_) (fun hc47 => ?_)
          · replace hm := yes_t hc47 hm
            refine wpD_seq ?_
            obtain ⟨y49, q49, ho49⟩ := yes_bind hm
            refine wpD_mid (Y := Unit) (fun z49 => (⟨[(6, .ptr b3 0), (82, .v (.bool y49))], [(b1, Blk.cells [.v (.bool a1.gSome), .v (.int .i64 a1.gM), .v (.int .i64 a1.gR)] 23), (b2, Blk.cells [.v (.bool a2.gSome), .v (.int .i64 a2.gM), .v (.int .i64 a2.gR)] 23), (b3, Blk.cells [.v (.bool false), .v (.int .i64 (0 : Int)), .v (.int .i64 (0 : Int))] 23)], []⟩ : S)) ?_ ?_
            · clear hm; have hm := yes_of q49
              refine wpD_region ?_
              refine p_pure htab rfl rfl rfl rfl ?_
              refine p_pure htab rfl rfl rfl rfl ?_
              refine p_pure htab rfl rfl rfl rfl ?_
              refine p_split (i := 79) rfl (fun hg50 => ?_) (fun hg50 => ?_)
              · replace hm := yes_t hg50 hm
                refine p_skip rfl rfl rfl ?_
                refine p_skip rfl rfl rfl ?_
                refine p_pickT rfl rfl rfl rfl rfl rfl ?_
                refine ops_nil ?_
                have e49 := yes_eq hm; subst e49
                refine ⟨rfl, ?_⟩
                exact WkX.of () (WkS.perm (WkS.cons rfl (Wk.refl _) (WkS.cons rfl (Wk.refl _) (WkS.nil))) (List.Perm.refl _) (List.Perm.refl _))
              · replace hm := yes_f hg50 hm
                refine p_pure htab rfl rfl rfl rfl ?_
                refine p_pure htab rfl rfl rfl rfl ?_
                refine p_pickF rfl rfl rfl rfl rfl rfl ?_
                refine ops_nil ?_
                have e49 := yes_eq hm; subst e49
                refine ⟨rfl, ?_⟩
                exact WkX.of () (WkS.perm (WkS.cons rfl (Wk.refl _) (WkS.cons rfl (Wk.refl _) (WkS.nil))) (List.Perm.refl _) (List.Perm.refl _))
            · intro s49 hw49; clear hm; have hm := ho49; clear q49 ho49
              refine then_normal ?_
              refine wpD_wkX hw49 (fun z49 => ?_)
              refine wpD_cond rfl (fun hc51 => ?_) (fun hc51 => ?_)
              · replace hm := yes_t hc51 hm
                refine wpD_seq ?_
                refine wpD_region ?_
                obtain ⟨x52, q52, hm⟩ := yes_bind hm
                refine p_call0 (r06_of_ok (0 : Int) (1 : Int) x52 q52) rfl rfl rfl rfl rfl (WkL.refl _) ?_
                rintro _ rfl
                refine p_store (ds' := [.v (.bool x52.gSome), .v (.int .i64 x52.gM), .v (.int .i64 x52.gR)]) (h' := [(b1, Blk.cells [.v (.bool a1.gSome), .v (.int .i64 a1.gM), .v (.int .i64 a1.gR)] 23), (b2, Blk.cells [.v (.bool a2.gSome), .v (.int .i64 a2.gM), .v (.int .i64 a2.gR)] 23), (b3, Blk.cells [.v (.bool x52.gSome), .v (.int .i64 x52.gM), .v (.int .i64 x52.gR)] 23)]) 2 htab rfl rfl rfl rfl rfl rfl rfl rfl rfl rfl rfl rfl ?_
                refine ops_nil ?_
                refine then_normal ?_
                refine wpD_ret ?_
                refine block_ret ?_
                refine then_ret ?_
                have er53 := yes_eq hm; subst er53
                refine retX.of (s' := ⟨[(6, .ptr b3 0)], [(b3, Blk.cells [.v (.bool x52.gSome), .v (.int .i64 x52.gM), .v (.int .i64 x52.gR)] 23)], []⟩) (WkS.perm (WkS.cons rfl (Wk.refl _) (WkS.nil)) ((perm_at (j := 2) rfl).trans (List.Perm.cons _ (List.Perm.refl _))) (List.Perm.refl _)) (retD_mk (hh := []) (.inl rfl) (resL_cons (resOne_cell 0 rfl rfl rfl rfl) (resL_nil)) (List.nil_sublist _) (List.Sublist.refl _) ?_)
                exact ⟨rfl, rfl, rfl⟩
              · replace hm := yes_f hc51 hm
                refine wpD_skip ?_
                refine block_normal ?_
                refine then_normal ?_
                refine wpD_seq ?_
                refine wpD_region ?_
                obtain ⟨x54, q54, hm⟩ := yes_bind hm
                refine p_call0 (r06_all_ok  x54 q54) rfl rfl rfl rfl rfl (WkL.refl _) ?_
                rintro _ rfl
                refine p_store (ds' := [.v (.bool x54.gSome), .v (.int .i64 x54.gM), .v (.int .i64 x54.gR)]) (h' := [(b1, Blk.cells [.v (.bool a1.gSome), .v (.int .i64 a1.gM), .v (.int .i64 a1.gR)] 23), (b2, Blk.cells [.v (.bool a2.gSome), .v (.int .i64 a2.gM), .v (.int .i64 a2.gR)] 23), (b3, Blk.cells [.v (.bool x54.gSome), .v (.int .i64 x54.gM), .v (.int .i64 x54.gR)] 23)]) 2 htab rfl rfl rfl rfl rfl rfl rfl rfl rfl rfl rfl rfl ?_
                refine ops_nil ?_
                refine then_normal ?_
                refine wpD_ret ?_
                have er55 := yes_eq hm; subst er55
                refine retX.of (s' := ⟨[(6, .ptr b3 0)], [(b3, Blk.cells [.v (.bool x54.gSome), .v (.int .i64 x54.gM), .v (.int .i64 x54.gR)] 23)], []⟩) (WkS.perm (WkS.cons rfl (Wk.refl _) (WkS.nil)) ((perm_at (j := 2) rfl).trans (List.Perm.cons _ (List.Perm.refl _))) (List.Perm.refl _)) (retD_mk (hh := []) (.inl rfl) (resL_cons (resOne_cell 0 rfl rfl rfl rfl) (resL_nil)) (List.nil_sublist _) (List.Sublist.refl _) ?_)
                exact ⟨rfl, rfl, rfl⟩
          · replace hm := yes_f hc47 hm
            refine wpD_skip ?_
            refine block_normal ?_
            refine then_normal ?_
            refine wpD_seq ?_
            refine wpD_region ?_
            obtain ⟨x56, q56, hm⟩ := yes_bind hm
            refine p_call0 (r06_all_ok  x56 q56) rfl rfl rfl rfl rfl (WkL.refl _) ?_
            rintro _ rfl
            refine p_store (ds' := [.v (.bool x56.gSome), .v (.int .i64 x56.gM), .v (.int .i64 x56.gR)]) (h' := [(b1, Blk.cells [.v (.bool a1.gSome), .v (.int .i64 a1.gM), .v (.int .i64 a1.gR)] 23), (b2, Blk.cells [.v (.bool a2.gSome), .v (.int .i64 a2.gM), .v (.int .i64 a2.gR)] 23), (b3, Blk.cells [.v (.bool x56.gSome), .v (.int .i64 x56.gM), .v (.int .i64 x56.gR)] 23)]) 2 htab rfl rfl rfl rfl rfl rfl rfl rfl rfl rfl rfl rfl ?_
            refine ops_nil ?_
            refine then_normal ?_
            refine wpD_ret ?_
            have er57 := yes_eq hm; subst er57
            refine retX.of (s' := ⟨[(6, .ptr b3 0)], [(b3, Blk.cells [.v (.bool x56.gSome), .v (.int .i64 x56.gM), .v (.int .i64 x56.gR)] 23)], []⟩) (WkS.perm (WkS.cons rfl (Wk.refl _) (WkS.nil)) ((perm_at (j := 2) rfl).trans (List.Perm.cons _ (List.Perm.refl _))) (List.Perm.refl _)) (retD_mk (hh := []) (.inl rfl) (resL_cons (resOne_cell 0 rfl rfl rfl rfl) (resL_nil)) (List.nil_sublist _) (List.Sublist.refl _) ?_)
            exact ⟨rfl, rfl, rfl⟩
noncomputable def r06_Do (a0 : Int) (a1 : TApiCong) (a2 : TApiCong) (a3 : Bool) : Option (TApiCong) :=
  ((r05_Clean a1).bind fun x4 => ((r05_Clean a2).bind fun x5 => (Option.bind (α := Bool) (bif (!x4.gSome) then some true else (bif (!x5.gSome) then some true else (bif (decide (a0 < (7 : Int))) then some true else some (decide ((17 : Int) < a0))))) fun y9 => (bif y9 then some (⟨false, (0 : Int), (0 : Int)⟩ : TApiCong) else (Option.bind (α := Bool) (bif (x4.gM == (0 : Int)) then some (x5.gM == (0 : Int)) else some false) fun y17 => (bif y17 then ((r02_Do a0 x4.gR x5.gR).bind fun x24 => (bif (x24.2 != (0 : Int)) then some (⟨false, (0 : Int), (0 : Int)⟩ : TApiCong) else ((r06_of (0 : Int) x24.1).bind fun x28 => some x28))) else (bif (a0 == (7 : Int)) then ((r06_product x4 x5 a3).bind fun x55 => some x55) else (Option.bind (α := Bool) (bif (a0 == (10 : Int)) then some (a0 == (10 : Int)) else some (a0 == (11 : Int))) fun y58 => (bif y58 then ((r02_Exact a0 x4.gR x5.gR).bind fun x68 => ((r06_gcd x4.gM x5.gM).bind fun x70 => ((r06_cut x70 a3).bind fun x71 => ((r06_left x68.1 x71).bind fun x72 => ((r06_of x71 x72).bind fun x73 => some x73))))) else (bif (decide ((9 : Int) < a0)) then ((r06_truth a0 x4 x5).bind fun x78 => some x78) else (Option.bind (α := Bool) (bif (x5.gM == (0 : Int)) then some (x5.gR == (0 : Int)) else some false) fun y81 => (bif y81 then some (⟨false, (0 : Int), (0 : Int)⟩ : TApiCong) else ((r06_size x5.gR).bind fun x86 => (bif (a0 == (9 : Int)) then ((r06_gcd x4.gM x5.gM).bind fun x92 => ((r05_Gcd (IntKind.u64.wrap x92) x86).bind fun x93 => ((r06_of (IntKind.i64.wrap x93) x4.gR).bind fun x94 => some x94))) else (Option.bind (α := Bool) (bif (x5.gM == (0 : Int)) then (bif (!a3) then ((need (x86 != 0)).bind fun x105 => (bif (((IntKind.u64.wrap x4.gM).tmod x86) == (0 : Int)) then ((r06_size x4.gR).bind fun x107 => ((need (x86 != 0)).bind fun x108 => some ((x107.tmod x86) == (0 : Int)))) else some false)) else some false) else some false) fun y102 => (bif y102 then ((need (x86 != 0)).bind fun x110 => ((r02_Quotient x4.gR x5.gR).bind fun x111 => ((r06_of (IntKind.i64.wrap (IntKind.u64.wrap ((IntKind.u64.wrap x4.gM).tdiv x86))) x111).bind fun x112 => some x112))) else (r06_all.bind fun x114 => some x114)))))))))))))))))
set_option maxRecDepth 100000 in
set_option maxHeartbeats 2000000 in
theorem r06_Do_ok (a0 : Int) (a1 : TApiCong) (a2 : TApiCong) (a3 : Bool) (r : TApiCong) (h0 : r06_Do a0 a1 a2 a3 = some r) : CallsD Try.prog 7 [.v (.int .i64 a0), eTApiCong a1, eTApiCong a2, .v (.bool a3)] [] [] (fun d h k => d = eTApiCong r ∧ h = [] ∧ k = []) := by
  have hm := yes_of h0
  unfold r06_Do at hm
  clear h0
  refine enterX htab Try.func7 rfl rfl rfl rfl rfl (fun C => ?_)
  refine wpD_seq ?_
  refine wpD_region ?_
  refine p_box rfl rfl rfl rfl rfl rfl rfl (fun b1 => ?_)
  refine p_box rfl rfl rfl rfl rfl rfl rfl (fun b2 => ?_)
  refine p_alloc htab rfl rfl rfl rfl rfl rfl rfl (fun b3 => ?_)
  refine ops_nil ?_
  refine then_normal ?_
  refine wpD_seq ?_
  obtain ⟨x4, q4, hm⟩ := yes_bind hm
  refine wpD_draws 3 [] [[],[0],[]] [0,1,2] [[],[0],[],[0,1,2],[0,1,2,3],[0,1,2,3,4]] (by kernel_rfl) (by kernel_rfl) (by kernel_rfl) (by rfl) (by rfl) (by kernel_rfl) ?_
  apply Exists.intro
  apply Exists.intro
  apply Exists.intro
  intro bs
  refine z_eM rfl rfl (xm_load (d := eTApiCong a1) 0 htab rfl rfl rfl rfl rfl) rfl rfl rfl rfl rfl rfl ?_
  refine z_call rfl rfl (r05_Clean_ok a1 x4 q4) rfl rfl (WkL.refl _) rfl rfl rfl rfl rfl rfl ?_
  refine z_eM rfl rfl (xm_load (d := eTApiCong a2) 1 htab rfl rfl rfl rfl rfl) rfl rfl rfl rfl rfl rfl ?_
  refine z_nil rfl rfl (fun e he => by simp [isAl] at he) ?_
  obtain ⟨x5, q5, hm⟩ := yes_bind hm
  refine p_call0 (r05_Clean_ok a2 x5 q5) rfl rfl rfl rfl rfl (WkL.refl _) ?_
  rintro _ rfl
  refine p_store (ds' := [.v (.bool x4.gSome), .v (.int .i64 x4.gM), .v (.int .i64 x4.gR)]) (h' := [(b1, Blk.cells [.v (.bool x4.gSome), .v (.int .i64 x4.gM), .v (.int .i64 x4.gR)] 23), (b2, Blk.cells [.v (.bool a2.gSome), .v (.int .i64 a2.gM), .v (.int .i64 a2.gR)] 23), (b3, Blk.cells [.v (.bool false), .v (.int .i64 (0 : Int)), .v (.int .i64 (0 : Int))] 23)]) 0 htab rfl rfl rfl rfl rfl rfl rfl rfl rfl rfl rfl rfl ?_
  refine p_store (ds' := [.v (.bool x5.gSome), .v (.int .i64 x5.gM), .v (.int .i64 x5.gR)]) (h' := [(b1, Blk.cells [.v (.bool x4.gSome), .v (.int .i64 x4.gM), .v (.int .i64 x4.gR)] 23), (b2, Blk.cells [.v (.bool x5.gSome), .v (.int .i64 x5.gM), .v (.int .i64 x5.gR)] 23), (b3, Blk.cells [.v (.bool false), .v (.int .i64 (0 : Int)), .v (.int .i64 (0 : Int))] 23)]) 1 htab rfl rfl rfl rfl rfl rfl rfl rfl rfl rfl rfl rfl ?_
  refine ops_nil ?_
  refine then_normal ?_
  refine wpD_seq ?_
  refine wpD_seq ?_
  obtain ⟨y9, q9, ho9⟩ := yes_bind hm
  refine wpD_mid (Y := Unit) (fun z9 => (⟨[(0, .v (.int .i64 a0)), (3, .v (.bool a3)), (5, .ptr b1 0), (6, .ptr b2 0), (8, .ptr b3 0), (35, .v (.bool y9))], [(b1, Blk.cells [.v (.bool x4.gSome), .v (.int .i64 x4.gM), .v (.int .i64 x4.gR)] 23), (b2, Blk.cells [.v (.bool x5.gSome), .v (.int .i64 x5.gM), .v (.int .i64 x5.gR)] 23), (b3, Blk.cells [.v (.bool false), .v (.int .i64 (0 : Int)), .v (.int .i64 (0 : Int))] 23)], []⟩ : S)) ?_ ?_
  · clear hm; have hm := yes_of q9
    refine wpD_region ?_
    refine p_pure htab rfl rfl rfl rfl ?_
    refine p_load 0 htab rfl rfl rfl rfl rfl rfl rfl rfl ?_
    refine p_pure htab rfl rfl rfl rfl ?_
    refine p_pure htab rfl rfl rfl rfl ?_
    refine p_split (i := 23) rfl (fun hg10 => ?_) (fun hg10 => ?_)
    · replace hm := yes_t hg10 hm
      refine p_skip rfl rfl rfl ?_
      refine p_skip rfl rfl rfl ?_
      refine p_skip rfl rfl rfl ?_
      refine p_pickT rfl rfl rfl rfl rfl rfl ?_
      refine p_pure htab rfl rfl rfl rfl ?_
      refine p_skip rfl rfl rfl ?_
      refine p_skip rfl rfl rfl ?_
      refine p_pickT rfl rfl rfl rfl rfl rfl ?_
      refine p_pure htab rfl rfl rfl rfl ?_
      refine p_skip rfl rfl rfl ?_
      refine p_skip rfl rfl rfl ?_
      refine p_pickT rfl rfl rfl rfl rfl rfl ?_
      refine ops_nil ?_
      have e9 := yes_eq hm; subst e9
      refine ⟨rfl, ?_⟩
      exact WkX.of () (WkS.perm (WkS.cons rfl (Wk.refl _) (WkS.cons rfl (Wk.refl _) (WkS.cons rfl (Wk.refl _) (WkS.cons rfl (Wk.refl _) (WkS.cons rfl (Wk.refl _) (WkS.cons rfl (Wk.refl _) (WkS.nil))))))) (List.Perm.refl _) (List.Perm.refl _))
    · replace hm := yes_f hg10 hm
      refine p_pure htab rfl rfl rfl rfl ?_
      refine p_load 1 htab rfl rfl rfl rfl rfl rfl rfl rfl ?_
      refine p_pure htab rfl rfl rfl rfl ?_
      refine p_pickF rfl rfl rfl rfl rfl rfl ?_
      refine p_pure htab rfl rfl rfl rfl ?_
      refine p_split (i := 28) rfl (fun hg11 => ?_) (fun hg11 => ?_)
      · replace hm := yes_t hg11 hm
        refine p_skip rfl rfl rfl ?_
        refine p_skip rfl rfl rfl ?_
        refine p_pickT rfl rfl rfl rfl rfl rfl ?_
        refine p_pure htab rfl rfl rfl rfl ?_
        refine p_skip rfl rfl rfl ?_
        refine p_skip rfl rfl rfl ?_
        refine p_pickT rfl rfl rfl rfl rfl rfl ?_
        refine ops_nil ?_
        have e9 := yes_eq hm; subst e9
        refine ⟨rfl, ?_⟩
        exact WkX.of () (WkS.perm (WkS.cons rfl (Wk.refl _) (WkS.cons rfl (Wk.refl _) (WkS.cons rfl (Wk.refl _) (WkS.cons rfl (Wk.refl _) (WkS.cons rfl (Wk.refl _) (WkS.cons rfl (Wk.refl _) (WkS.nil))))))) (List.Perm.refl _) (List.Perm.refl _))
      · replace hm := yes_f hg11 hm
        refine p_pure htab rfl rfl rfl rfl ?_
        refine p_pure htab rfl rfl rfl rfl ?_
        refine p_pickF rfl rfl rfl rfl rfl rfl ?_
        refine p_pure htab rfl rfl rfl rfl ?_
        refine p_split (i := 32) rfl (fun hg12 => ?_) (fun hg12 => ?_)
        · replace hm := yes_t hg12 hm
          refine p_skip rfl rfl rfl ?_
          refine p_skip rfl rfl rfl ?_
          refine p_pickT rfl rfl rfl rfl rfl rfl ?_
          refine ops_nil ?_
          have e9 := yes_eq hm; subst e9
          refine ⟨rfl, ?_⟩
          exact WkX.of () (WkS.perm (WkS.cons rfl (Wk.refl _) (WkS.cons rfl (Wk.refl _) (WkS.cons rfl (Wk.refl _) (WkS.cons rfl (Wk.refl _) (WkS.cons rfl (Wk.refl _) (WkS.cons rfl (Wk.refl _) (WkS.nil))))))) (List.Perm.refl _) (List.Perm.refl _))
        · replace hm := yes_f hg12 hm
          refine p_pure htab rfl rfl rfl rfl ?_
          refine p_pure htab rfl rfl rfl rfl ?_
          refine p_pickF rfl rfl rfl rfl rfl rfl ?_
          refine ops_nil ?_
          have e9 := yes_eq hm; subst e9
          refine ⟨rfl, ?_⟩
          exact WkX.of () (WkS.perm (WkS.cons rfl (Wk.refl _) (WkS.cons rfl (Wk.refl _) (WkS.cons rfl (Wk.refl _) (WkS.cons rfl (Wk.refl _) (WkS.cons rfl (Wk.refl _) (WkS.cons rfl (Wk.refl _) (WkS.nil))))))) (List.Perm.refl _) (List.Perm.refl _))
  · intro s9 hw9; clear hm; have hm := ho9; clear q9 ho9
    refine then_normal ?_
    refine wpD_wkX hw9 (fun z9 => ?_)
    refine wpD_cond rfl (fun hc14 => ?_) (fun hc14 => ?_)
    · replace hm := yes_t hc14 hm
      refine wpD_seq ?_
      refine wpD_region ?_
      refine p_build (r := [.v (.bool false), .v (.int .i64 (0 : Int)), .v (.int .i64 (0 : Int))]) htab rfl rfl rfl rfl rfl rfl rfl rfl rfl ?_
      refine p_store (ds' := [.v (.bool false), .v (.int .i64 (0 : Int)), .v (.int .i64 (0 : Int))]) (h' := [(b1, Blk.cells [.v (.bool x4.gSome), .v (.int .i64 x4.gM), .v (.int .i64 x4.gR)] 23), (b2, Blk.cells [.v (.bool x5.gSome), .v (.int .i64 x5.gM), .v (.int .i64 x5.gR)] 23), (b3, Blk.cells [.v (.bool false), .v (.int .i64 (0 : Int)), .v (.int .i64 (0 : Int))] 23)]) 2 htab rfl rfl rfl rfl rfl rfl rfl rfl rfl rfl rfl rfl ?_
      refine ops_nil ?_
      refine then_normal ?_
      refine wpD_ret ?_
      refine then_ret ?_
      have er15 := yes_eq hm; subst er15
      refine retX.of (s' := ⟨[(8, .ptr b3 0)], [(b3, Blk.cells [.v (.bool false), .v (.int .i64 (0 : Int)), .v (.int .i64 (0 : Int))] 23)], []⟩) (WkS.perm (WkS.cons rfl (Wk.refl _) (WkS.nil)) ((perm_at (j := 2) rfl).trans (List.Perm.cons _ (List.Perm.refl _))) (List.Perm.refl _)) (retD_mk (hh := []) (.inl rfl) (resL_cons (resOne_cell 0 rfl rfl rfl rfl) (resL_nil)) (List.nil_sublist _) (List.Sublist.refl _) ?_)
      exact ⟨rfl, rfl, rfl⟩
    · replace hm := yes_f hc14 hm
      refine wpD_skip ?_
      refine then_normal ?_
      refine wpD_seq ?_
      refine wpD_seq ?_
      obtain ⟨y17, q17, ho17⟩ := yes_bind hm
      refine wpD_mid (Y := Unit) (fun z17 => (⟨[(0, .v (.int .i64 a0)), (3, .v (.bool a3)), (5, .ptr b1 0), (6, .ptr b2 0), (8, .ptr b3 0), (44, .v (.bool y17))], [(b1, Blk.cells [.v (.bool x4.gSome), .v (.int .i64 x4.gM), .v (.int .i64 x4.gR)] 23), (b2, Blk.cells [.v (.bool x5.gSome), .v (.int .i64 x5.gM), .v (.int .i64 x5.gR)] 23), (b3, Blk.cells [.v (.bool false), .v (.int .i64 (0 : Int)), .v (.int .i64 (0 : Int))] 23)], []⟩ : S)) ?_ ?_
      · clear hm; have hm := yes_of q17
        refine wpD_region ?_
        refine p_pure htab rfl rfl rfl rfl ?_
        refine p_load 0 htab rfl rfl rfl rfl rfl rfl rfl rfl ?_
        refine p_pure htab rfl rfl rfl rfl ?_
        refine p_pure htab rfl rfl rfl rfl ?_
        refine p_split (i := 40) rfl (fun hg18 => ?_) (fun hg18 => ?_)
        · replace hm := yes_t hg18 hm
          refine p_pure htab rfl rfl rfl rfl ?_
          refine p_load 1 htab rfl rfl rfl rfl rfl rfl rfl rfl ?_
          refine p_pure htab rfl rfl rfl rfl ?_
          refine p_pickT rfl rfl rfl rfl rfl rfl ?_
          refine ops_nil ?_
          have e17 := yes_eq hm; subst e17
          refine ⟨rfl, ?_⟩
          exact WkX.of () (WkS.perm (WkS.cons rfl (Wk.refl _) (WkS.cons rfl (Wk.refl _) (WkS.cons rfl (Wk.refl _) (WkS.cons rfl (Wk.refl _) (WkS.cons rfl (Wk.refl _) (WkS.cons rfl (Wk.refl _) (WkS.nil))))))) (List.Perm.refl _) (List.Perm.refl _))
        · replace hm := yes_f hg18 hm
          refine p_skip rfl rfl rfl ?_
          refine p_skip rfl rfl rfl ?_
          refine p_skip rfl rfl rfl ?_
          refine p_pickF rfl rfl rfl rfl rfl rfl ?_
          refine ops_nil ?_
          have e17 := yes_eq hm; subst e17
          refine ⟨rfl, ?_⟩
          exact WkX.of () (WkS.perm (WkS.cons rfl (Wk.refl _) (WkS.cons rfl (Wk.refl _) (WkS.cons rfl (Wk.refl _) (WkS.cons rfl (Wk.refl _) (WkS.cons rfl (Wk.refl _) (WkS.cons rfl (Wk.refl _) (WkS.nil))))))) (List.Perm.refl _) (List.Perm.refl _))
      · intro s17 hw17; clear hm; have hm := ho17; clear q17 ho17
        refine then_normal ?_
        refine wpD_wkX hw17 (fun z17 => ?_)
        refine wpD_cond rfl (fun hc23 => ?_) (fun hc23 => ?_)
        · replace hm := yes_t hc23 hm
          refine wpD_seq ?_
          refine wpD_region ?_
          refine p_pure htab rfl rfl rfl rfl ?_
          refine p_pure htab rfl rfl rfl rfl ?_
          refine p_load 0 htab rfl rfl rfl rfl rfl rfl rfl rfl ?_
          refine p_pure htab rfl rfl rfl rfl ?_
          refine p_load 1 htab rfl rfl rfl rfl rfl rfl rfl rfl ?_
          obtain ⟨x24, q24, hm⟩ := yes_bind hm
          refine p_call0 (r02_Do_ok a0 x4.gR x5.gR x24 q24) rfl rfl rfl rfl rfl (WkL.refl _) ?_
          rintro _ rfl
          refine p_pure htab rfl rfl rfl rfl ?_
          refine p_pure htab rfl rfl rfl rfl ?_
          refine p_pure htab rfl rfl rfl rfl ?_
          refine p_pure htab rfl rfl rfl rfl ?_
          refine p_pure htab rfl rfl rfl rfl ?_
          refine ops_nil ?_
          refine then_normal ?_
          refine wpD_seq ?_
          refine wpD_seq ?_
          refine wpD_region ?_
          refine p_pure htab rfl rfl rfl rfl ?_
          refine p_pure htab rfl rfl rfl rfl ?_
          refine ops_nil ?_
          refine then_normal ?_
          refine wpD_cond rfl (fun hc26 => ?_) (fun hc26 => ?_)
          · replace hm := yes_t hc26 hm
            refine wpD_seq ?_
            refine wpD_region ?_
            refine p_build (r := [.v (.bool false), .v (.int .i64 (0 : Int)), .v (.int .i64 (0 : Int))]) htab rfl rfl rfl rfl rfl rfl rfl rfl rfl ?_
            refine p_store (ds' := [.v (.bool false), .v (.int .i64 (0 : Int)), .v (.int .i64 (0 : Int))]) (h' := [(b1, Blk.cells [.v (.bool x4.gSome), .v (.int .i64 x4.gM), .v (.int .i64 x4.gR)] 23), (b2, Blk.cells [.v (.bool x5.gSome), .v (.int .i64 x5.gM), .v (.int .i64 x5.gR)] 23), (b3, Blk.cells [.v (.bool false), .v (.int .i64 (0 : Int)), .v (.int .i64 (0 : Int))] 23)]) 2 htab rfl rfl rfl rfl rfl rfl rfl rfl rfl rfl rfl rfl ?_
            refine ops_nil ?_
            refine then_normal ?_
            refine wpD_ret ?_
            refine then_ret ?_
            refine then_ret ?_
            have er27 := yes_eq hm; subst er27
            refine retX.of (s' := ⟨[(8, .ptr b3 0)], [(b3, Blk.cells [.v (.bool false), .v (.int .i64 (0 : Int)), .v (.int .i64 (0 : Int))] 23)], []⟩) (WkS.perm (WkS.cons rfl (Wk.refl _) (WkS.nil)) ((perm_at (j := 2) rfl).trans (List.Perm.cons _ (List.Perm.refl _))) (List.Perm.refl _)) (retD_mk (hh := []) (.inl rfl) (resL_cons (resOne_cell 0 rfl rfl rfl rfl) (resL_nil)) (List.nil_sublist _) (List.Sublist.refl _) ?_)
            exact ⟨rfl, rfl, rfl⟩
          · replace hm := yes_f hc26 hm
            refine wpD_skip ?_
            refine then_normal ?_
            refine wpD_seq ?_
            refine wpD_region ?_
            refine p_pure htab rfl rfl rfl rfl ?_
            obtain ⟨x28, q28, hm⟩ := yes_bind hm
            refine p_call0 (r06_of_ok (0 : Int) x24.1 x28 q28) rfl rfl rfl rfl rfl (WkL.refl _) ?_
            rintro _ rfl
            refine p_store (ds' := [.v (.bool x28.gSome), .v (.int .i64 x28.gM), .v (.int .i64 x28.gR)]) (h' := [(b1, Blk.cells [.v (.bool x4.gSome), .v (.int .i64 x4.gM), .v (.int .i64 x4.gR)] 23), (b2, Blk.cells [.v (.bool x5.gSome), .v (.int .i64 x5.gM), .v (.int .i64 x5.gR)] 23), (b3, Blk.cells [.v (.bool x28.gSome), .v (.int .i64 x28.gM), .v (.int .i64 x28.gR)] 23)]) 2 htab rfl rfl rfl rfl rfl rfl rfl rfl rfl rfl rfl rfl ?_
            refine ops_nil ?_
            refine then_normal ?_
            refine wpD_ret ?_
            refine then_ret ?_
            have er29 := yes_eq hm; subst er29
            refine retX.of (s' := ⟨[(8, .ptr b3 0)], [(b3, Blk.cells [.v (.bool x28.gSome), .v (.int .i64 x28.gM), .v (.int .i64 x28.gR)] 23)], []⟩) (WkS.perm (WkS.cons rfl (Wk.refl _) (WkS.nil)) ((perm_at (j := 2) rfl).trans (List.Perm.cons _ (List.Perm.refl _))) (List.Perm.refl _)) (retD_mk (hh := []) (.inl rfl) (resL_cons (resOne_cell 0 rfl rfl rfl rfl) (resL_nil)) (List.nil_sublist _) (List.Sublist.refl _) ?_)
            exact ⟨rfl, rfl, rfl⟩
        · replace hm := yes_f hc23 hm
          refine wpD_skip ?_
          refine then_normal ?_
          refine wpD_seq ?_
          refine wpD_seq ?_
          refine wpD_region ?_
          refine p_pure htab rfl rfl rfl rfl ?_
          refine ops_nil ?_
          refine then_normal ?_
          refine wpD_block ?_
          refine wpD_seq ?_
          refine wpD_region ?_
          refine p_pure htab rfl rfl rfl rfl ?_
          refine p_pure htab rfl rfl rfl rfl ?_
          refine ops_nil ?_
          refine then_normal ?_
          refine wpD_cond rfl (fun hc54 => ?_) (fun hc54 => ?_)
          · replace hm := yes_t hc54 hm
            refine wpD_seq ?_
            refine wpD_region ?_
            refine p_load (d := eTApiCong x4) 0 htab rfl rfl rfl rfl rfl rfl rfl rfl ?_
            refine p_load (d := eTApiCong x5) 1 htab rfl rfl rfl rfl rfl rfl rfl rfl ?_
            refine p_pure htab rfl rfl rfl rfl ?_
            obtain ⟨x55, q55, hm⟩ := yes_bind hm
            refine p_call0 (r06_product_ok x4 x5 a3 x55 q55) rfl rfl rfl rfl rfl (WkL.refl _) ?_
            rintro _ rfl
            refine p_store (ds' := [.v (.bool x55.gSome), .v (.int .i64 x55.gM), .v (.int .i64 x55.gR)]) (h' := [(b1, Blk.cells [.v (.bool x4.gSome), .v (.int .i64 x4.gM), .v (.int .i64 x4.gR)] 23), (b2, Blk.cells [.v (.bool x5.gSome), .v (.int .i64 x5.gM), .v (.int .i64 x5.gR)] 23), (b3, Blk.cells [.v (.bool x55.gSome), .v (.int .i64 x55.gM), .v (.int .i64 x55.gR)] 23)]) 2 htab rfl rfl rfl rfl rfl rfl rfl rfl rfl rfl rfl rfl ?_
            refine ops_nil ?_
            refine then_normal ?_
            refine wpD_ret ?_
            refine block_ret ?_
            refine then_ret ?_
            have er56 := yes_eq hm; subst er56
            refine retX.of (s' := ⟨[(8, .ptr b3 0)], [(b3, Blk.cells [.v (.bool x55.gSome), .v (.int .i64 x55.gM), .v (.int .i64 x55.gR)] 23)], []⟩) (WkS.perm (WkS.cons rfl (Wk.refl _) (WkS.nil)) ((perm_at (j := 2) rfl).trans (List.Perm.cons _ (List.Perm.refl _))) (List.Perm.refl _)) (retD_mk (hh := []) (.inl rfl) (resL_cons (resOne_cell 0 rfl rfl rfl rfl) (resL_nil)) (List.nil_sublist _) (List.Sublist.refl _) ?_)
            exact ⟨rfl, rfl, rfl⟩
          · replace hm := yes_f hc54 hm
            refine wpD_seq ?_
            refine wpD_seq ?_
            refine wpD_region ?_
            refine p_pure htab rfl rfl rfl rfl ?_
            refine p_pure htab rfl rfl rfl rfl ?_
            refine ops_nil ?_
            refine then_normal ?_
            obtain ⟨y58, q58, ho58⟩ := yes_bind hm
            refine wpD_mid (Y := Unit) (fun z58 => (⟨[(0, .v (.int .i64 a0)), (3, .v (.bool a3)), (5, .ptr b1 0), (6, .ptr b2 0), (8, .ptr b3 0), (66, .v (.bool y58))], [(b1, Blk.cells [.v (.bool x4.gSome), .v (.int .i64 x4.gM), .v (.int .i64 x4.gR)] 23), (b2, Blk.cells [.v (.bool x5.gSome), .v (.int .i64 x5.gM), .v (.int .i64 x5.gR)] 23), (b3, Blk.cells [.v (.bool false), .v (.int .i64 (0 : Int)), .v (.int .i64 (0 : Int))] 23)], []⟩ : S)) ?_ ?_
            · clear hm; have hm := yes_of q58
              refine wpD_cond rfl (fun hc59 => ?_) (fun hc59 => ?_)
              · replace hm := yes_t hc59 hm
                refine wpD_skip ?_
                have e58 := yes_eq hm; subst e58
                refine ⟨rfl, ?_⟩
                exact WkX.of () (WkS.perm (WkS.cons rfl (Wk.refl _) (WkS.cons rfl (Wk.refl _) (WkS.cons rfl (Wk.refl _) (WkS.cons rfl (Wk.refl _) (WkS.cons rfl (Wk.refl _) (WkS.cons rfl (Wk.refl _) (WkS.nil))))))) (List.Perm.refl _) (List.Perm.refl _))
              · replace hm := yes_f hc59 hm
                refine wpD_region ?_
                refine p_pure htab rfl rfl rfl rfl ?_
                refine p_pure htab rfl rfl rfl rfl ?_
                refine ops_nil ?_
                have e58 := yes_eq hm; subst e58
                refine ⟨rfl, ?_⟩
                exact WkX.of () (WkS.perm (WkS.cons rfl (Wk.refl _) (WkS.cons rfl (Wk.refl _) (WkS.cons rfl (Wk.refl _) (WkS.cons rfl (Wk.refl _) (WkS.cons rfl (Wk.refl _) (WkS.cons rfl (Wk.refl _) (WkS.nil))))))) (List.Perm.refl _) (List.Perm.refl _))
            · intro s58 hw58; clear hm; have hm := ho58; clear q58 ho58
              refine then_normal ?_
              refine wpD_wkX hw58 (fun z58 => ?_)
              refine wpD_cond rfl (fun hc67 => ?_) (fun hc67 => ?_)
              · replace hm := yes_t hc67 hm
                refine wpD_seq ?_
                refine wpD_region ?_
                refine p_pure htab rfl rfl rfl rfl ?_
                refine p_pure htab rfl rfl rfl rfl ?_
                refine p_load 0 htab rfl rfl rfl rfl rfl rfl rfl rfl ?_
                refine p_pure htab rfl rfl rfl rfl ?_
                refine p_load 1 htab rfl rfl rfl rfl rfl rfl rfl rfl ?_
                obtain ⟨x68, q68, hm⟩ := yes_bind hm
                refine p_call0 (r02_Exact_ok a0 x4.gR x5.gR x68 q68) rfl rfl rfl rfl rfl (WkL.refl _) ?_
                rintro _ rfl
                refine p_pure htab rfl rfl rfl rfl ?_
                refine p_pure htab rfl rfl rfl rfl ?_
                refine p_pure htab rfl rfl rfl rfl ?_
                refine p_alloc htab rfl rfl rfl rfl rfl rfl rfl (fun b69 => ?_)
                refine p_store (ds' := [.v (.int .i64 x68.1.gHi), .v (.int .u64 x68.1.gLo)]) (h' := [(b1, Blk.cells [.v (.bool x4.gSome), .v (.int .i64 x4.gM), .v (.int .i64 x4.gR)] 23), (b2, Blk.cells [.v (.bool x5.gSome), .v (.int .i64 x5.gM), .v (.int .i64 x5.gR)] 23), (b3, Blk.cells [.v (.bool false), .v (.int .i64 (0 : Int)), .v (.int .i64 (0 : Int))] 23), (b69, Blk.cells [.v (.int .i64 x68.1.gHi), .v (.int .u64 x68.1.gLo)] 54)]) 3 htab rfl rfl rfl rfl rfl rfl rfl rfl rfl rfl rfl rfl ?_
                refine p_pure htab rfl rfl rfl rfl ?_
                refine ops_nil ?_
                refine then_normal ?_
                refine wpD_seq ?_
                refine wpD_region ?_
                refine p_pure htab rfl rfl rfl rfl ?_
                refine p_load 0 htab rfl rfl rfl rfl rfl rfl rfl rfl ?_
                refine p_pure htab rfl rfl rfl rfl ?_
                refine p_load 1 htab rfl rfl rfl rfl rfl rfl rfl rfl ?_
                obtain ⟨x70, q70, hm⟩ := yes_bind hm
                refine p_call0 (r06_gcd_ok x4.gM x5.gM x70 q70) rfl rfl rfl rfl rfl (WkL.refl _) ?_
                rintro _ rfl
                refine p_pure htab rfl rfl rfl rfl ?_
                obtain ⟨x71, q71, hm⟩ := yes_bind hm
                refine p_call0 (r06_cut_ok x70 a3 x71 q71) rfl rfl rfl rfl rfl (WkL.refl _) ?_
                rintro _ rfl
                refine p_pure htab rfl rfl rfl rfl ?_
                refine ops_nil ?_
                refine then_normal ?_
                refine wpD_seq ?_
                refine wpD_region ?_
                refine p_pure htab rfl rfl rfl rfl ?_
                refine p_load (d := eTApiWide x68.1) 3 htab rfl rfl rfl rfl rfl rfl rfl rfl ?_
                refine p_pure htab rfl rfl rfl rfl ?_
                obtain ⟨x72, q72, hm⟩ := yes_bind hm
                refine p_call0 (r06_left_ok x68.1 x71 x72 q72) rfl rfl rfl rfl rfl (WkL.refl _) ?_
                rintro _ rfl
                obtain ⟨x73, q73, hm⟩ := yes_bind hm
                refine p_call0 (r06_of_ok x71 x72 x73 q73) rfl rfl rfl rfl rfl (WkL.refl _) ?_
                rintro _ rfl
                refine p_store (ds' := [.v (.bool x73.gSome), .v (.int .i64 x73.gM), .v (.int .i64 x73.gR)]) (h' := [(b1, Blk.cells [.v (.bool x4.gSome), .v (.int .i64 x4.gM), .v (.int .i64 x4.gR)] 23), (b2, Blk.cells [.v (.bool x5.gSome), .v (.int .i64 x5.gM), .v (.int .i64 x5.gR)] 23), (b3, Blk.cells [.v (.bool x73.gSome), .v (.int .i64 x73.gM), .v (.int .i64 x73.gR)] 23), (b69, Blk.cells [.v (.int .i64 x68.1.gHi), .v (.int .u64 x68.1.gLo)] 54)]) 2 htab rfl rfl rfl rfl rfl rfl rfl rfl rfl rfl rfl rfl ?_
                refine ops_nil ?_
                refine then_normal ?_
                refine wpD_ret ?_
                refine block_ret ?_
                refine then_ret ?_
                have er74 := yes_eq hm; subst er74
                refine retX.of (s' := ⟨[(8, .ptr b3 0)], [(b3, Blk.cells [.v (.bool x73.gSome), .v (.int .i64 x73.gM), .v (.int .i64 x73.gR)] 23)], []⟩) (WkS.perm (WkS.cons rfl (Wk.refl _) (WkS.nil)) ((perm_at (j := 2) rfl).trans (List.Perm.cons _ (List.Perm.refl _))) (List.Perm.refl _)) (retD_mk (hh := []) (.inl rfl) (resL_cons (resOne_cell 0 rfl rfl rfl rfl) (resL_nil)) (List.nil_sublist _) (List.Sublist.refl _) ?_)
                exact ⟨rfl, rfl, rfl⟩
              · replace hm := yes_f hc67 hm
                refine wpD_skip ?_
                refine block_normal ?_
                refine then_normal ?_
                refine wpD_seq ?_
                refine wpD_seq ?_
                refine wpD_region ?_
                refine p_pure htab rfl rfl rfl rfl ?_
                refine p_pure htab rfl rfl rfl rfl ?_
                refine ops_nil ?_
                refine then_normal ?_
                refine wpD_cond rfl (fun hc77 => ?_) (fun hc77 => ?_)
                · replace hm := yes_t hc77 hm
                  refine wpD_seq ?_
                  refine wpD_region ?_
                  refine p_pure htab rfl rfl rfl rfl ?_
                  refine p_load (d := eTApiCong x4) 0 htab rfl rfl rfl rfl rfl rfl rfl rfl ?_
                  refine p_load (d := eTApiCong x5) 1 htab rfl rfl rfl rfl rfl rfl rfl rfl ?_
                  obtain ⟨x78, q78, hm⟩ := yes_bind hm
                  refine p_call0 (r06_truth_ok a0 x4 x5 x78 q78) rfl rfl rfl rfl rfl (WkL.refl _) ?_
                  rintro _ rfl
                  refine p_store (ds' := [.v (.bool x78.gSome), .v (.int .i64 x78.gM), .v (.int .i64 x78.gR)]) (h' := [(b1, Blk.cells [.v (.bool x4.gSome), .v (.int .i64 x4.gM), .v (.int .i64 x4.gR)] 23), (b2, Blk.cells [.v (.bool x5.gSome), .v (.int .i64 x5.gM), .v (.int .i64 x5.gR)] 23), (b3, Blk.cells [.v (.bool x78.gSome), .v (.int .i64 x78.gM), .v (.int .i64 x78.gR)] 23)]) 2 htab rfl rfl rfl rfl rfl rfl rfl rfl rfl rfl rfl rfl ?_
                  refine ops_nil ?_
                  refine then_normal ?_
                  refine wpD_ret ?_
                  refine then_ret ?_
                  have er79 := yes_eq hm; subst er79
                  refine retX.of (s' := ⟨[(8, .ptr b3 0)], [(b3, Blk.cells [.v (.bool x78.gSome), .v (.int .i64 x78.gM), .v (.int .i64 x78.gR)] 23)], []⟩) (WkS.perm (WkS.cons rfl (Wk.refl _) (WkS.nil)) ((perm_at (j := 2) rfl).trans (List.Perm.cons _ (List.Perm.refl _))) (List.Perm.refl _)) (retD_mk (hh := []) (.inl rfl) (resL_cons (resOne_cell 0 rfl rfl rfl rfl) (resL_nil)) (List.nil_sublist _) (List.Sublist.refl _) ?_)
                  exact ⟨rfl, rfl, rfl⟩
                · replace hm := yes_f hc77 hm
                  refine wpD_skip ?_
                  refine then_normal ?_
                  refine wpD_seq ?_
                  refine wpD_seq ?_
                  obtain ⟨y81, q81, ho81⟩ := yes_bind hm
                  refine wpD_mid (Y := Unit) (fun z81 => (⟨[(0, .v (.int .i64 a0)), (3, .v (.bool a3)), (5, .ptr b1 0), (6, .ptr b2 0), (8, .ptr b3 0), (103, .v (.bool y81))], [(b1, Blk.cells [.v (.bool x4.gSome), .v (.int .i64 x4.gM), .v (.int .i64 x4.gR)] 23), (b2, Blk.cells [.v (.bool x5.gSome), .v (.int .i64 x5.gM), .v (.int .i64 x5.gR)] 23), (b3, Blk.cells [.v (.bool false), .v (.int .i64 (0 : Int)), .v (.int .i64 (0 : Int))] 23)], []⟩ : S)) ?_ ?_
                  · clear hm; have hm := yes_of q81
                    refine wpD_region ?_
                    refine p_pure htab rfl rfl rfl rfl ?_
                    refine p_load 1 htab rfl rfl rfl rfl rfl rfl rfl rfl ?_
                    refine p_pure htab rfl rfl rfl rfl ?_
                    refine p_pure htab rfl rfl rfl rfl ?_
                    refine p_split (i := 99) rfl (fun hg82 => ?_) (fun hg82 => ?_)
                    · replace hm := yes_t hg82 hm
                      refine p_pure htab rfl rfl rfl rfl ?_
                      refine p_load 1 htab rfl rfl rfl rfl rfl rfl rfl rfl ?_
                      refine p_pure htab rfl rfl rfl rfl ?_
                      refine p_pickT rfl rfl rfl rfl rfl rfl ?_
                      refine ops_nil ?_
                      have e81 := yes_eq hm; subst e81
                      refine ⟨rfl, ?_⟩
                      exact WkX.of () (WkS.perm (WkS.cons rfl (Wk.refl _) (WkS.cons rfl (Wk.refl _) (WkS.cons rfl (Wk.refl _) (WkS.cons rfl (Wk.refl _) (WkS.cons rfl (Wk.refl _) (WkS.cons rfl (Wk.refl _) (WkS.nil))))))) (List.Perm.refl _) (List.Perm.refl _))
                    · replace hm := yes_f hg82 hm
                      refine p_skip rfl rfl rfl ?_
                      refine p_skip rfl rfl rfl ?_
                      refine p_skip rfl rfl rfl ?_
                      refine p_pickF rfl rfl rfl rfl rfl rfl ?_
                      refine ops_nil ?_
                      have e81 := yes_eq hm; subst e81
                      refine ⟨rfl, ?_⟩
                      exact WkX.of () (WkS.perm (WkS.cons rfl (Wk.refl _) (WkS.cons rfl (Wk.refl _) (WkS.cons rfl (Wk.refl _) (WkS.cons rfl (Wk.refl _) (WkS.cons rfl (Wk.refl _) (WkS.cons rfl (Wk.refl _) (WkS.nil))))))) (List.Perm.refl _) (List.Perm.refl _))
                  · intro s81 hw81; clear hm; have hm := ho81; clear q81 ho81
                    refine then_normal ?_
                    refine wpD_wkX hw81 (fun z81 => ?_)
                    refine wpD_cond rfl (fun hc84 => ?_) (fun hc84 => ?_)
                    · replace hm := yes_t hc84 hm
                      refine wpD_seq ?_
                      refine wpD_region ?_
                      refine p_build (r := [.v (.bool false), .v (.int .i64 (0 : Int)), .v (.int .i64 (0 : Int))]) htab rfl rfl rfl rfl rfl rfl rfl rfl rfl ?_
                      refine p_store (ds' := [.v (.bool false), .v (.int .i64 (0 : Int)), .v (.int .i64 (0 : Int))]) (h' := [(b1, Blk.cells [.v (.bool x4.gSome), .v (.int .i64 x4.gM), .v (.int .i64 x4.gR)] 23), (b2, Blk.cells [.v (.bool x5.gSome), .v (.int .i64 x5.gM), .v (.int .i64 x5.gR)] 23), (b3, Blk.cells [.v (.bool false), .v (.int .i64 (0 : Int)), .v (.int .i64 (0 : Int))] 23)]) 2 htab rfl rfl rfl rfl rfl rfl rfl rfl rfl rfl rfl rfl ?_
                      refine ops_nil ?_
                      refine then_normal ?_
                      refine wpD_ret ?_
                      refine then_ret ?_
                      have er85 := yes_eq hm; subst er85
                      refine retX.of (s' := ⟨[(8, .ptr b3 0)], [(b3, Blk.cells [.v (.bool false), .v (.int .i64 (0 : Int)), .v (.int .i64 (0 : Int))] 23)], []⟩) (WkS.perm (WkS.cons rfl (Wk.refl _) (WkS.nil)) ((perm_at (j := 2) rfl).trans (List.Perm.cons _ (List.Perm.refl _))) (List.Perm.refl _)) (retD_mk (hh := []) (.inl rfl) (resL_cons (resOne_cell 0 rfl rfl rfl rfl) (resL_nil)) (List.nil_sublist _) (List.Sublist.refl _) ?_)
                      exact ⟨rfl, rfl, rfl⟩
                    · replace hm := yes_f hc84 hm
                      refine wpD_skip ?_
                      refine then_normal ?_
                      refine wpD_seq ?_
                      refine wpD_region ?_
                      refine p_pure htab rfl rfl rfl rfl ?_
                      refine p_load 1 htab rfl rfl rfl rfl rfl rfl rfl rfl ?_
                      obtain ⟨x86, q86, hm⟩ := yes_bind hm
                      refine p_call0 (r06_size_ok x5.gR x86 q86) rfl rfl rfl rfl rfl (WkL.refl _) ?_
                      rintro _ rfl
                      refine p_pure htab rfl rfl rfl rfl ?_
                      refine ops_nil ?_
                      refine then_normal ?_
                      refine wpD_seq ?_
                      refine wpD_seq ?_
                      refine wpD_region ?_
                      refine p_pure htab rfl rfl rfl rfl ?_
                      refine p_pure htab rfl rfl rfl rfl ?_
                      refine ops_nil ?_
                      refine then_normal ?_
                      refine wpD_cond rfl (fun hc91 => ?_) (fun hc91 => ?_)
                      · replace hm := yes_t hc91 hm
                        refine wpD_seq ?_
                        refine wpD_region ?_
                        refine p_pure htab rfl rfl rfl rfl ?_
                        refine p_load 0 htab rfl rfl rfl rfl rfl rfl rfl rfl ?_
                        refine p_pure htab rfl rfl rfl rfl ?_
                        refine p_load 1 htab rfl rfl rfl rfl rfl rfl rfl rfl ?_
                        obtain ⟨x92, q92, hm⟩ := yes_bind hm
                        refine p_call0 (r06_gcd_ok x4.gM x5.gM x92 q92) rfl rfl rfl rfl rfl (WkL.refl _) ?_
                        rintro _ rfl
                        refine p_pure htab rfl rfl rfl rfl ?_
                        refine p_pure htab rfl rfl rfl rfl ?_
                        obtain ⟨x93, q93, hm⟩ := yes_bind hm
                        refine p_call0 (r05_Gcd_ok (IntKind.u64.wrap x92) x86 x93 q93) rfl rfl rfl rfl rfl (WkL.refl _) ?_
                        rintro _ rfl
                        refine p_pure htab rfl rfl rfl rfl ?_
                        refine ops_nil ?_
                        refine then_normal ?_
                        refine wpD_seq ?_
                        refine wpD_region ?_
                        refine p_pure htab rfl rfl rfl rfl ?_
                        refine p_pure htab rfl rfl rfl rfl ?_
                        refine p_pure htab rfl rfl rfl rfl ?_
                        refine p_load 0 htab rfl rfl rfl rfl rfl rfl rfl rfl ?_
                        obtain ⟨x94, q94, hm⟩ := yes_bind hm
                        refine p_call0 (r06_of_ok (IntKind.i64.wrap x93) x4.gR x94 q94) rfl rfl rfl rfl rfl (WkL.refl _) ?_
                        rintro _ rfl
                        refine p_store (ds' := [.v (.bool x94.gSome), .v (.int .i64 x94.gM), .v (.int .i64 x94.gR)]) (h' := [(b1, Blk.cells [.v (.bool x4.gSome), .v (.int .i64 x4.gM), .v (.int .i64 x4.gR)] 23), (b2, Blk.cells [.v (.bool x5.gSome), .v (.int .i64 x5.gM), .v (.int .i64 x5.gR)] 23), (b3, Blk.cells [.v (.bool x94.gSome), .v (.int .i64 x94.gM), .v (.int .i64 x94.gR)] 23)]) 2 htab rfl rfl rfl rfl rfl rfl rfl rfl rfl rfl rfl rfl ?_
                        refine ops_nil ?_
                        refine then_normal ?_
                        refine wpD_ret ?_
                        refine then_ret ?_
                        have er95 := yes_eq hm; subst er95
                        refine retX.of (s' := ⟨[(8, .ptr b3 0)], [(b3, Blk.cells [.v (.bool x94.gSome), .v (.int .i64 x94.gM), .v (.int .i64 x94.gR)] 23)], []⟩) (WkS.perm (WkS.cons rfl (Wk.refl _) (WkS.nil)) ((perm_at (j := 2) rfl).trans (List.Perm.cons _ (List.Perm.refl _))) (List.Perm.refl _)) (retD_mk (hh := []) (.inl rfl) (resL_cons (resOne_cell 0 rfl rfl rfl rfl) (resL_nil)) (List.nil_sublist _) (List.Sublist.refl _) ?_)
                        exact ⟨rfl, rfl, rfl⟩
                      · replace hm := yes_f hc91 hm
                        refine wpD_skip ?_
                        refine then_normal ?_
                        refine wpD_seq ?_
                        refine wpD_seq ?_
                        obtain ⟨y102, q102, ho102⟩ := yes_bind hm
                        refine wpD_mid (Y := Unit) (fun z102 => (⟨[(5, .ptr b1 0), (6, .ptr b2 0), (8, .ptr b3 0), (14, .v (.int .u64 x86)), (145, .v (.bool y102))], [(b1, Blk.cells [.v (.bool x4.gSome), .v (.int .i64 x4.gM), .v (.int .i64 x4.gR)] 23), (b2, Blk.cells [.v (.bool x5.gSome), .v (.int .i64 x5.gM), .v (.int .i64 x5.gR)] 23), (b3, Blk.cells [.v (.bool false), .v (.int .i64 (0 : Int)), .v (.int .i64 (0 : Int))] 23)], []⟩ : S)) ?_ ?_
                        · clear hm; have hm := yes_of q102
                          refine wpD_region ?_
                          refine p_pure htab rfl rfl rfl rfl ?_
                          refine p_load 1 htab rfl rfl rfl rfl rfl rfl rfl rfl ?_
                          refine p_pure htab rfl rfl rfl rfl ?_
                          refine p_pure htab rfl rfl rfl rfl ?_
                          refine p_split (i := 126) rfl (fun hg103 => ?_) (fun hg103 => ?_)
                          · replace hm := yes_t hg103 hm
                            refine p_pure htab rfl rfl rfl rfl ?_
                            refine p_pure htab rfl rfl rfl rfl ?_
                            refine p_pickT rfl rfl rfl rfl rfl rfl ?_
                            refine p_pure htab rfl rfl rfl rfl ?_
                            refine p_split (i := 130) rfl (fun hg104 => ?_) (fun hg104 => ?_)
                            · replace hm := yes_t hg104 hm
                              refine p_pure htab rfl rfl rfl rfl ?_
                              refine p_load 0 htab rfl rfl rfl rfl rfl rfl rfl rfl ?_
                              refine p_pure htab rfl rfl rfl rfl ?_
                              refine p_pure htab rfl rfl rfl rfl ?_
                              obtain ⟨x105, q105, hm⟩ := yes_bind hm
                              refine p_div rfl rfl rfl rfl rfl rfl rfl (by simpa using need_ok q105) ?_
                              refine p_pure htab rfl rfl rfl rfl ?_
                              refine p_pickT rfl rfl rfl rfl rfl rfl ?_
                              refine p_pure htab rfl rfl rfl rfl ?_
                              refine p_split (i := 138) rfl (fun hg106 => ?_) (fun hg106 => ?_)
                              · replace hm := yes_t hg106 hm
                                refine p_pure htab rfl rfl rfl rfl ?_
                                refine p_load 0 htab rfl rfl rfl rfl rfl rfl rfl rfl ?_
                                obtain ⟨x107, q107, hm⟩ := yes_bind hm
                                refine p_call0 (r06_size_ok x4.gR x107 q107) rfl rfl rfl rfl rfl (WkL.refl _) ?_
                                rintro _ rfl
                                refine p_pure htab rfl rfl rfl rfl ?_
                                obtain ⟨x108, q108, hm⟩ := yes_bind hm
                                refine p_div rfl rfl rfl rfl rfl rfl rfl (by simpa using need_ok q108) ?_
                                refine p_pure htab rfl rfl rfl rfl ?_
                                refine p_pickT rfl rfl rfl rfl rfl rfl ?_
                                refine ops_nil ?_
                                have e102 := yes_eq hm; subst e102
                                refine ⟨rfl, ?_⟩
                                exact WkX.of () (WkS.perm (WkS.cons rfl (Wk.refl _) (WkS.cons rfl (Wk.refl _) (WkS.cons rfl (Wk.refl _) (WkS.cons rfl (Wk.refl _) (WkS.cons rfl (Wk.refl _) (WkS.nil)))))) (List.Perm.refl _) (List.Perm.refl _))
                              · replace hm := yes_f hg106 hm
                                refine p_skip rfl rfl rfl ?_
                                refine p_skip rfl rfl rfl ?_
                                refine p_skip rfl rfl rfl ?_
                                refine p_skip rfl rfl rfl ?_
                                refine p_skip rfl rfl rfl ?_
                                refine p_skip rfl rfl rfl ?_
                                refine p_pickF rfl rfl rfl rfl rfl rfl ?_
                                refine ops_nil ?_
                                have e102 := yes_eq hm; subst e102
                                refine ⟨rfl, ?_⟩
                                exact WkX.of () (WkS.perm (WkS.cons rfl (Wk.refl _) (WkS.cons rfl (Wk.refl _) (WkS.cons rfl (Wk.refl _) (WkS.cons rfl (Wk.refl _) (WkS.cons rfl (Wk.refl _) (WkS.nil)))))) (List.Perm.refl _) (List.Perm.refl _))
                            · replace hm := yes_f hg104 hm
                              refine p_skip rfl rfl rfl ?_
                              refine p_skip rfl rfl rfl ?_
                              refine p_skip rfl rfl rfl ?_
                              refine p_skip rfl rfl rfl ?_
                              refine p_skip rfl rfl rfl ?_
                              refine p_skip rfl rfl rfl ?_
                              refine p_pickF rfl rfl rfl rfl rfl rfl ?_
                              refine p_pure htab rfl rfl rfl rfl ?_
                              refine p_skip rfl rfl rfl ?_
                              refine p_skip rfl rfl rfl ?_
                              refine p_skip rfl rfl rfl ?_
                              refine p_skip rfl rfl rfl ?_
                              refine p_skip rfl rfl rfl ?_
                              refine p_skip rfl rfl rfl ?_
                              refine p_pickF rfl rfl rfl rfl rfl rfl ?_
                              refine ops_nil ?_
                              have e102 := yes_eq hm; subst e102
                              refine ⟨rfl, ?_⟩
                              exact WkX.of () (WkS.perm (WkS.cons rfl (Wk.refl _) (WkS.cons rfl (Wk.refl _) (WkS.cons rfl (Wk.refl _) (WkS.cons rfl (Wk.refl _) (WkS.cons rfl (Wk.refl _) (WkS.nil)))))) (List.Perm.refl _) (List.Perm.refl _))
                          · replace hm := yes_f hg103 hm
                            refine p_skip rfl rfl rfl ?_
                            refine p_skip rfl rfl rfl ?_
                            refine p_pickF rfl rfl rfl rfl rfl rfl ?_
                            refine p_pure htab rfl rfl rfl rfl ?_
                            refine p_skip rfl rfl rfl ?_
                            refine p_skip rfl rfl rfl ?_
                            refine p_skip rfl rfl rfl ?_
                            refine p_skip rfl rfl rfl ?_
                            refine p_skip rfl rfl rfl ?_
                            refine p_skip rfl rfl rfl ?_
                            refine p_pickF rfl rfl rfl rfl rfl rfl ?_
                            refine p_pure htab rfl rfl rfl rfl ?_
                            refine p_skip rfl rfl rfl ?_
                            refine p_skip rfl rfl rfl ?_
                            refine p_skip rfl rfl rfl ?_
                            refine p_skip rfl rfl rfl ?_
                            refine p_skip rfl rfl rfl ?_
                            refine p_skip rfl rfl rfl ?_
                            refine p_pickF rfl rfl rfl rfl rfl rfl ?_
                            refine ops_nil ?_
                            have e102 := yes_eq hm; subst e102
                            refine ⟨rfl, ?_⟩
                            exact WkX.of () (WkS.perm (WkS.cons rfl (Wk.refl _) (WkS.cons rfl (Wk.refl _) (WkS.cons rfl (Wk.refl _) (WkS.cons rfl (Wk.refl _) (WkS.cons rfl (Wk.refl _) (WkS.nil)))))) (List.Perm.refl _) (List.Perm.refl _))
                        · intro s102 hw102; clear hm; have hm := ho102; clear q102 ho102
                          refine then_normal ?_
                          refine wpD_wkX hw102 (fun z102 => ?_)
                          refine wpD_cond rfl (fun hc109 => ?_) (fun hc109 => ?_)
                          · replace hm := yes_t hc109 hm
                            refine wpD_seq ?_
                            obtain ⟨x110, q110, hm⟩ := yes_bind hm
                            obtain ⟨x111, q111, hm⟩ := yes_bind hm
                            refine wpD_draws 11 [] [[],[0],[0],[],[0],[0],[],[6],[],[8],[6,8]] [0,6,8,10] [[],[0],[0,1],[],[0,1,2,3],[0,1,2,3,4],[],[6],[],[8],[6,7,8,9],[0,1,2,3,4,5,6,7,8,9,10],[0,1,2,3,4,5,6,7,8,9,10,11]] (by kernel_rfl) (by kernel_rfl) (by kernel_rfl) (by rfl) (by rfl) (by kernel_rfl) ?_
                            apply Exists.intro
                            apply Exists.intro
                            apply Exists.intro
                            apply Exists.intro
                            intro bs
                            refine z_e rfl rfl (ex_pure htab rfl) rfl rfl rfl rfl rfl rfl ?_
                            refine z_qM rfl rfl (xm_load 0 htab rfl rfl rfl rfl rfl) rfl rfl rfl rfl rfl rfl ?_
                            refine z_q rfl rfl (ex_pure htab rfl) rfl rfl rfl rfl rfl rfl ?_
                            refine z_q rfl rfl (ex_pure htab rfl) rfl rfl rfl rfl rfl rfl ?_
                            refine z_q rfl rfl (x_div rfl rfl rfl rfl (by simpa using need_ok q110)) rfl rfl rfl rfl rfl rfl ?_
                            refine z_q rfl rfl (ex_pure htab rfl) rfl rfl rfl rfl rfl rfl ?_
                            refine z_e rfl rfl (ex_pure htab rfl) rfl rfl rfl rfl rfl rfl ?_
                            refine z_qM rfl rfl (xm_load 0 htab rfl rfl rfl rfl rfl) rfl rfl rfl rfl rfl rfl ?_
                            refine z_e rfl rfl (ex_pure htab rfl) rfl rfl rfl rfl rfl rfl ?_
                            refine z_qM rfl rfl (xm_load 1 htab rfl rfl rfl rfl rfl) rfl rfl rfl rfl rfl rfl ?_
                            refine z_call rfl rfl (r02_Quotient_ok x4.gR x5.gR x111 q111) rfl rfl (WkL.refl _) rfl rfl rfl rfl rfl rfl ?_
                            refine z_nil rfl rfl (fun e he => by simp [isAl] at he) ?_
                            obtain ⟨x112, q112, hm⟩ := yes_bind hm
                            refine p_call0 (r06_of_ok (IntKind.i64.wrap (IntKind.u64.wrap ((IntKind.u64.wrap x4.gM).tdiv x86))) x111 x112 q112) rfl rfl rfl rfl rfl (WkL.refl _) ?_
                            rintro _ rfl
                            refine p_store (ds' := [.v (.bool x112.gSome), .v (.int .i64 x112.gM), .v (.int .i64 x112.gR)]) (h' := [(b1, Blk.cells [.v (.bool x4.gSome), .v (.int .i64 x4.gM), .v (.int .i64 x4.gR)] 23), (b2, Blk.cells [.v (.bool x5.gSome), .v (.int .i64 x5.gM), .v (.int .i64 x5.gR)] 23), (b3, Blk.cells [.v (.bool x112.gSome), .v (.int .i64 x112.gM), .v (.int .i64 x112.gR)] 23)]) 2 htab rfl rfl rfl rfl rfl rfl rfl rfl rfl rfl rfl rfl ?_
                            refine ops_nil ?_
                            refine then_normal ?_
                            refine wpD_ret ?_
                            refine then_ret ?_
                            have er113 := yes_eq hm; subst er113
                            refine retX.of (s' := ⟨[(8, .ptr b3 0)], [(b3, Blk.cells [.v (.bool x112.gSome), .v (.int .i64 x112.gM), .v (.int .i64 x112.gR)] 23)], []⟩) (WkS.perm (WkS.cons rfl (Wk.refl _) (WkS.nil)) ((perm_at (j := 2) rfl).trans (List.Perm.cons _ (List.Perm.refl _))) (List.Perm.refl _)) (retD_mk (hh := []) (.inl rfl) (resL_cons (resOne_cell 0 rfl rfl rfl rfl) (resL_nil)) (List.nil_sublist _) (List.Sublist.refl _) ?_)
                            exact ⟨rfl, rfl, rfl⟩
                          · replace hm := yes_f hc109 hm
                            refine wpD_skip ?_
                            refine then_normal ?_
                            refine wpD_seq ?_
                            refine wpD_region ?_
                            obtain ⟨x114, q114, hm⟩ := yes_bind hm
                            refine p_call0 (r06_all_ok  x114 q114) rfl rfl rfl rfl rfl (WkL.refl _) ?_
                            rintro _ rfl
                            refine p_store (ds' := [.v (.bool x114.gSome), .v (.int .i64 x114.gM), .v (.int .i64 x114.gR)]) (h' := [(b1, Blk.cells [.v (.bool x4.gSome), .v (.int .i64 x4.gM), .v (.int .i64 x4.gR)] 23), (b2, Blk.cells [.v (.bool x5.gSome), .v (.int .i64 x5.gM), .v (.int .i64 x5.gR)] 23), (b3, Blk.cells [.v (.bool x114.gSome), .v (.int .i64 x114.gM), .v (.int .i64 x114.gR)] 23)]) 2 htab rfl rfl rfl rfl rfl rfl rfl rfl rfl rfl rfl rfl ?_
                            refine ops_nil ?_
                            refine then_normal ?_
                            refine wpD_ret ?_
                            have er115 := yes_eq hm; subst er115
                            refine retX.of (s' := ⟨[(8, .ptr b3 0)], [(b3, Blk.cells [.v (.bool x114.gSome), .v (.int .i64 x114.gM), .v (.int .i64 x114.gR)] 23)], []⟩) (WkS.perm (WkS.cons rfl (Wk.refl _) (WkS.nil)) ((perm_at (j := 2) rfl).trans (List.Perm.cons _ (List.Perm.refl _))) (List.Perm.refl _)) (retD_mk (hh := []) (.inl rfl) (resL_cons (resOne_cell 0 rfl rfl rfl rfl) (resL_nil)) (List.nil_sublist _) (List.Sublist.refl _) ?_)
                            exact ⟨rfl, rfl, rfl⟩
noncomputable def l06_lives : Option (Bool) :=
  ((residue_Do (7 : Int) (⟨true, (1 : Int), (0 : Int)⟩ : TApiCong) (⟨true, (0 : Int), (4 : Int)⟩ : TApiCong) false).bind fun x1 => (bif (x1.gSome == true && (x1.gM == (4 : Int) && (x1.gR == (0 : Int) && true))) then ((residue_Part (24 : Int)).bind fun x3 => some (x3 == (8 : Int))) else some false))
set_option maxRecDepth 100000 in
set_option maxHeartbeats 2000000 in
theorem l06_lives_ok  (r : Bool) (h0 : l06_lives = some r) : CallsD Try.prog 8 [] [] [] (fun d h k => d = .v (.bool r) ∧ h = [] ∧ k = []) := by
  have hm := yes_of h0
  unfold l06_lives at hm
  clear h0
  refine enterX htab Try.func8 rfl rfl rfl rfl rfl (fun C => ?_)
  refine wpD_seq ?_
  refine wpD_region ?_
  refine p_pure htab rfl rfl rfl rfl ?_
  refine ops_nil ?_
  refine then_normal ?_
  refine wpD_seq ?_
  refine wpD_region ?_
  refine p_build (r := [.v (.bool true), .v (.int .i64 (1 : Int)), .v (.int .i64 (0 : Int))]) htab rfl rfl rfl rfl rfl rfl rfl rfl rfl ?_
  refine p_build (r := [.v (.bool true), .v (.int .i64 (0 : Int)), .v (.int .i64 (4 : Int))]) htab rfl rfl rfl rfl rfl rfl rfl rfl rfl ?_
  obtain ⟨x1, q1, hm⟩ := yes_bind hm
  refine p_call0 (residue_Do_ok (7 : Int) (⟨true, (1 : Int), (0 : Int)⟩ : TApiCong) (⟨true, (0 : Int), (4 : Int)⟩ : TApiCong) false x1 q1) rfl rfl rfl rfl rfl (WkL.refl _) ?_
  rintro _ rfl
  refine p_build (r := [.v (.bool true), .v (.int .i64 (4 : Int)), .v (.int .i64 (0 : Int))]) htab rfl rfl rfl rfl rfl rfl rfl rfl rfl ?_
  refine p_eqS htab rfl rfl rfl rfl rfl eqt23 rfl rfl rfl rfl rfl ?_
  refine p_pure htab rfl rfl rfl rfl ?_
  refine p_split (i := 6) rfl (fun hg2 => ?_) (fun hg2 => ?_)
  · replace hm := yes_t hg2 hm
    obtain ⟨x3, q3, hm⟩ := yes_bind hm
    refine p_call0 (residue_Part_ok (24 : Int) x3 q3) rfl rfl rfl rfl rfl (WkL.refl _) ?_
    rintro _ rfl
    refine p_pure htab rfl rfl rfl rfl ?_
    refine p_pickT rfl rfl rfl rfl rfl rfl ?_
    refine p_pure htab rfl rfl rfl rfl ?_
    refine ops_nil ?_
    refine then_normal ?_
    refine wpD_ret ?_
    have er4 := yes_eq hm; subst er4
    refine retX.of (s' := ⟨[(0, .v (.bool (x3 == (8 : Int))))], [], []⟩) (WkS.perm (WkS.cons rfl (Wk.refl _) (WkS.nil)) (List.Perm.refl _) (List.Perm.refl _)) (retD_mk (hh := []) (.inl rfl) (resL_cons (resOne_tmp rfl) (resL_nil)) (List.nil_sublist _) (List.Sublist.refl _) ?_)
    exact ⟨rfl, rfl, rfl⟩
  · replace hm := yes_f hg2 hm
    refine p_skip rfl rfl rfl ?_
    refine p_skip rfl rfl rfl ?_
    refine p_pickF rfl rfl rfl rfl rfl rfl ?_
    refine p_pure htab rfl rfl rfl rfl ?_
    refine ops_nil ?_
    refine then_normal ?_
    refine wpD_ret ?_
    have er5 := yes_eq hm; subst er5
    refine retX.of (s' := ⟨[(0, .v (.bool false))], [], []⟩) (WkS.perm (WkS.cons rfl (Wk.refl _) (WkS.nil)) (List.Perm.refl _) (List.Perm.refl _)) (retD_mk (hh := []) (.inl rfl) (resL_cons (resOne_tmp rfl) (resL_nil)) (List.nil_sublist _) (List.Sublist.refl _) ?_)
    exact ⟨rfl, rfl, rfl⟩
noncomputable def l06_wraps (a0 : Int) (a1 : Int) (a2 : Int) : Option (Bool) :=
  (bif (a0 == (8 : Int)) then (Option.bind (α := Bool) (bif (a1 == (-9223372036854775808 : Int)) then some (a2 == (-1 : Int)) else some false) fun y5 => some y5) else ((r02_Exact a0 a1 a2).bind fun x8 => ((r01_Int x8.1).bind fun x10 => (bif x8.2 then some (!x10.2) else some false))))
set_option maxRecDepth 100000 in
set_option maxHeartbeats 2000000 in
theorem l06_wraps_ok (a0 : Int) (a1 : Int) (a2 : Int) (r : Bool) (h0 : l06_wraps a0 a1 a2 = some r) : CallsD Try.prog 11 [.v (.int .i64 a0), .v (.int .i64 a1), .v (.int .i64 a2)] [] [] (fun d h k => d = .v (.bool r) ∧ h = [] ∧ k = []) := by
  have hm := yes_of h0
  unfold l06_wraps at hm
  clear h0
  refine enterX htab Try.func11 rfl rfl rfl rfl rfl (fun C => ?_)
  refine wpD_seq ?_
  refine wpD_region ?_
  refine p_pure htab rfl rfl rfl rfl ?_
  refine ops_nil ?_
  refine then_normal ?_
  refine wpD_seq ?_
  refine wpD_seq ?_
  refine wpD_region ?_
  refine p_pure htab rfl rfl rfl rfl ?_
  refine p_pure htab rfl rfl rfl rfl ?_
  refine ops_nil ?_
  refine then_normal ?_
  refine wpD_cond rfl (fun hc3 => ?_) (fun hc3 => ?_)
  · replace hm := yes_t hc3 hm
    refine wpD_seq ?_
    obtain ⟨y5, q5, ho5⟩ := yes_bind hm
    refine wpD_mid (Y := Unit) (fun z5 => (⟨[(6, .v (.bool y5))], [], []⟩ : S)) ?_ ?_
    · clear hm; have hm := yes_of q5
      refine wpD_region ?_
      refine p_pure htab rfl rfl rfl rfl ?_
      refine p_pure htab rfl rfl rfl rfl ?_
      refine p_pure htab rfl rfl rfl rfl ?_
      refine p_split (i := 15) rfl (fun hg6 => ?_) (fun hg6 => ?_)
      · replace hm := yes_t hg6 hm
        refine p_pure htab rfl rfl rfl rfl ?_
        refine p_pure htab rfl rfl rfl rfl ?_
        refine p_pickT rfl rfl rfl rfl rfl rfl ?_
        refine p_pure htab rfl rfl rfl rfl ?_
        refine ops_nil ?_
        have e5 := yes_eq hm; subst e5
        refine ⟨rfl, ?_⟩
        exact WkX.of () (WkS.perm (WkS.cons rfl (Wk.refl _) (WkS.nil)) (List.Perm.refl _) (List.Perm.refl _))
      · replace hm := yes_f hg6 hm
        refine p_skip rfl rfl rfl ?_
        refine p_skip rfl rfl rfl ?_
        refine p_pickF rfl rfl rfl rfl rfl rfl ?_
        refine p_pure htab rfl rfl rfl rfl ?_
        refine ops_nil ?_
        have e5 := yes_eq hm; subst e5
        refine ⟨rfl, ?_⟩
        exact WkX.of () (WkS.perm (WkS.cons rfl (Wk.refl _) (WkS.nil)) (List.Perm.refl _) (List.Perm.refl _))
    · intro s5 hw5; clear hm; have hm := ho5; clear q5 ho5
      refine then_normal ?_
      refine wpD_wkX hw5 (fun z5 => ?_)
      refine wpD_ret ?_
      refine then_ret ?_
      have er7 := yes_eq hm; subst er7
      refine retX.of (s' := ⟨[(6, .v (.bool y5))], [], []⟩) (WkS.perm (WkS.cons rfl (Wk.refl _) (WkS.nil)) (List.Perm.refl _) (List.Perm.refl _)) (retD_mk (hh := []) (.inl rfl) (resL_cons (resOne_tmp rfl) (resL_nil)) (List.nil_sublist _) (List.Sublist.refl _) ?_)
      exact ⟨rfl, rfl, rfl⟩
  · replace hm := yes_f hc3 hm
    refine wpD_skip ?_
    refine then_normal ?_
    refine wpD_seq ?_
    refine wpD_region ?_
    refine p_pure htab rfl rfl rfl rfl ?_
    refine p_pure htab rfl rfl rfl rfl ?_
    refine p_pure htab rfl rfl rfl rfl ?_
    obtain ⟨x8, q8, hm⟩ := yes_bind hm
    refine p_call0 (r02_Exact_ok a0 a1 a2 x8 q8) rfl rfl rfl rfl rfl (WkL.refl _) ?_
    rintro _ rfl
    refine p_pure htab rfl rfl rfl rfl ?_
    refine p_pure htab rfl rfl rfl rfl ?_
    refine p_pure htab rfl rfl rfl rfl ?_
    refine p_alloc htab rfl rfl rfl rfl rfl rfl rfl (fun b9 => ?_)
    refine p_store (ds' := [.v (.int .i64 x8.1.gHi), .v (.int .u64 x8.1.gLo)]) (h' := [(b9, Blk.cells [.v (.int .i64 x8.1.gHi), .v (.int .u64 x8.1.gLo)] 54)]) 0 htab rfl rfl rfl rfl rfl rfl rfl rfl rfl rfl rfl rfl ?_
    refine p_pure htab rfl rfl rfl rfl ?_
    refine ops_nil ?_
    refine then_normal ?_
    refine wpD_seq ?_
    refine wpD_region ?_
    refine p_load (d := eTApiWide x8.1) 0 htab rfl rfl rfl rfl rfl rfl rfl rfl ?_
    obtain ⟨x10, q10, hm⟩ := yes_bind hm
    refine p_call0 (r01_Int_ok x8.1 x10 q10) rfl rfl rfl rfl rfl (WkL.refl _) ?_
    rintro _ rfl
    refine p_pure htab rfl rfl rfl rfl ?_
    refine p_pure htab rfl rfl rfl rfl ?_
    refine p_pure htab rfl rfl rfl rfl ?_
    refine p_pure htab rfl rfl rfl rfl ?_
    refine p_pure htab rfl rfl rfl rfl ?_
    refine ops_nil ?_
    refine then_normal ?_
    refine wpD_seq ?_
    refine wpD_region ?_
    refine p_pure htab rfl rfl rfl rfl ?_
    refine p_pure htab rfl rfl rfl rfl ?_
    refine p_split (i := 32) rfl (fun hg11 => ?_) (fun hg11 => ?_)
    · replace hm := yes_t hg11 hm
      refine p_pure htab rfl rfl rfl rfl ?_
      refine p_pure htab rfl rfl rfl rfl ?_
      refine p_pickT rfl rfl rfl rfl rfl rfl ?_
      refine p_pure htab rfl rfl rfl rfl ?_
      refine ops_nil ?_
      refine then_normal ?_
      refine wpD_ret ?_
      have er12 := yes_eq hm; subst er12
      refine retX.of (s' := ⟨[(6, .v (.bool (!x10.2)))], [], []⟩) (WkS.perm (WkS.cons rfl (Wk.refl _) (WkS.nil)) (List.Perm.refl _) (List.Perm.refl _)) (retD_mk (hh := []) (.inl rfl) (resL_cons (resOne_tmp rfl) (resL_nil)) (List.nil_sublist _) (List.Sublist.refl _) ?_)
      exact ⟨rfl, rfl, rfl⟩
    · replace hm := yes_f hg11 hm
      refine p_skip rfl rfl rfl ?_
      refine p_skip rfl rfl rfl ?_
      refine p_pickF rfl rfl rfl rfl rfl rfl ?_
      refine p_pure htab rfl rfl rfl rfl ?_
      refine ops_nil ?_
      refine then_normal ?_
      refine wpD_ret ?_
      have er13 := yes_eq hm; subst er13
      refine retX.of (s' := ⟨[(6, .v (.bool false))], [], []⟩) (WkS.perm (WkS.cons rfl (Wk.refl _) (WkS.nil)) (List.Perm.refl _) (List.Perm.refl _)) (retD_mk (hh := []) (.inl rfl) (resL_cons (resOne_tmp rfl) (resL_nil)) (List.nil_sublist _) (List.Sublist.refl _) ?_)
      exact ⟨rfl, rfl, rfl⟩
noncomputable def l06_ResidueDoes (a0 : TSondagelaw06Told) : Option (Bool) :=
  ((residue_Do a0.gOp a0.gA a0.gB a0.gWraps).bind fun x2 => ((r06_Do a0.gOp a0.gA a0.gB a0.gWraps).bind fun x3 => (bif (x2.gSome == x3.gSome && (x2.gM == x3.gM && (x2.gR == x3.gR && true))) then (l06_lives.bind fun x5 => some x5) else some false)))
set_option maxRecDepth 100000 in
set_option maxHeartbeats 2000000 in
theorem l06_ResidueDoes_ok (a0 : TSondagelaw06Told) (r : Bool) (h0 : l06_ResidueDoes a0 = some r) : CallsD Try.prog 3 [eTSondagelaw06Told a0] [] [] (fun d h k => d = .v (.bool r) ∧ h = [] ∧ k = []) := by
  have hm := yes_of h0
  unfold l06_ResidueDoes at hm
  clear h0
  refine enterX htab Try.func3 rfl rfl rfl rfl rfl (fun C => ?_)
  refine wpD_seq ?_
  refine wpD_region ?_
  refine p_box rfl rfl rfl rfl rfl rfl rfl (fun b1 => ?_)
  refine p_pure htab rfl rfl rfl rfl ?_
  refine ops_nil ?_
  refine then_normal ?_
  refine wpD_seq ?_
  obtain ⟨x2, q2, hm⟩ := yes_bind hm
  refine wpD_draws 17 [] [[],[0],[],[2],[],[4],[],[6],[0,2,3,4,5,6],[],[9],[],[11],[],[13],[],[15]] [0,2,3,4,5,6,8,9,11,12,13,14,15] [[],[0],[],[2],[],[4],[],[6],[0,1,2,3,4,5,6,7],[],[9],[],[11],[],[13],[],[15],[0,1,2,3,4,5,6,7,8,9,10,11,12,13,14,15,16],[0,1,2,3,4,5,6,7,8,9,10,11,12,13,14,15,16,17],[0,1,2,3,4,5,6,7,8,9,10,11,12,13,14,15,16,17,18],[0,1,2,3,4,5,6,7,8,9,10,11,12,13,14,15,16,17,18,19],[0,1,2,3,4,5,6,7,8,9,10,11,12,13,14,15,16,17,18,19,20],[0,1,2,3,4,5,6,7,8,9,10,11,12,13,14,15,16,17,18,19,20,21]] (by kernel_rfl) (by kernel_rfl) (by kernel_rfl) (by rfl) (by rfl) (by kernel_rfl) ?_
  apply Exists.intro
  apply Exists.intro
  apply Exists.intro
  apply Exists.intro
  apply Exists.intro
  apply Exists.intro
  apply Exists.intro
  apply Exists.intro
  apply Exists.intro
  apply Exists.intro
  apply Exists.intro
  apply Exists.intro
  apply Exists.intro
  intro bs
  refine z_e rfl rfl (ex_pure htab rfl) rfl rfl rfl rfl rfl rfl ?_
  refine z_qM rfl rfl (xm_load 0 htab rfl rfl rfl rfl rfl) rfl rfl rfl rfl rfl rfl ?_
  refine z_e rfl rfl (ex_pure htab rfl) rfl rfl rfl rfl rfl rfl ?_
  refine z_eM rfl rfl (xm_load (d := eTApiCong a0.gA) 0 htab rfl rfl rfl rfl rfl) rfl rfl rfl rfl rfl rfl ?_
  refine z_e rfl rfl (ex_pure htab rfl) rfl rfl rfl rfl rfl rfl ?_
  refine z_eM rfl rfl (xm_load (d := eTApiCong a0.gB) 0 htab rfl rfl rfl rfl rfl) rfl rfl rfl rfl rfl rfl ?_
  refine z_e rfl rfl (ex_pure htab rfl) rfl rfl rfl rfl rfl rfl ?_
  refine z_qM rfl rfl (xm_load 0 htab rfl rfl rfl rfl rfl) rfl rfl rfl rfl rfl rfl ?_
  refine z_call rfl rfl (residue_Do_ok a0.gOp a0.gA a0.gB a0.gWraps x2 q2) rfl rfl (WkL.refl _) rfl rfl rfl rfl rfl rfl ?_
  refine z_e rfl rfl (ex_pure htab rfl) rfl rfl rfl rfl rfl rfl ?_
  refine z_qM rfl rfl (xm_load 0 htab rfl rfl rfl rfl rfl) rfl rfl rfl rfl rfl rfl ?_
  refine z_e rfl rfl (ex_pure htab rfl) rfl rfl rfl rfl rfl rfl ?_
  refine z_eM rfl rfl (xm_load (d := eTApiCong a0.gA) 0 htab rfl rfl rfl rfl rfl) rfl rfl rfl rfl rfl rfl ?_
  refine z_e rfl rfl (ex_pure htab rfl) rfl rfl rfl rfl rfl rfl ?_
  refine z_eM rfl rfl (xm_load (d := eTApiCong a0.gB) 0 htab rfl rfl rfl rfl rfl) rfl rfl rfl rfl rfl rfl ?_
  refine z_e rfl rfl (ex_pure htab rfl) rfl rfl rfl rfl rfl rfl ?_
  refine z_qM rfl rfl (xm_load 0 htab rfl rfl rfl rfl rfl) rfl rfl rfl rfl rfl rfl ?_
  refine z_nil rfl rfl (fun e he => by simp [isAl] at he) ?_
  obtain ⟨x3, q3, hm⟩ := yes_bind hm
  refine p_call0 (r06_Do_ok a0.gOp a0.gA a0.gB a0.gWraps x3 q3) rfl rfl rfl rfl rfl (WkL.refl _) ?_
  rintro _ rfl
  refine p_eqS htab rfl rfl rfl rfl rfl eqt23 rfl rfl rfl rfl rfl ?_
  refine p_pure htab rfl rfl rfl rfl ?_
  refine p_split (i := 22) rfl (fun hg4 => ?_) (fun hg4 => ?_)
  · replace hm := yes_t hg4 hm
    obtain ⟨x5, q5, hm⟩ := yes_bind hm
    refine p_call0 (l06_lives_ok  x5 q5) rfl rfl rfl rfl rfl (WkL.refl _) ?_
    rintro _ rfl
    refine p_pickT rfl rfl rfl rfl rfl rfl ?_
    refine p_pure htab rfl rfl rfl rfl ?_
    refine ops_nil ?_
    refine then_normal ?_
    refine wpD_ret ?_
    have er6 := yes_eq hm; subst er6
    refine retX.of (s' := ⟨[(2, .v (.bool x5))], [], []⟩) (WkS.perm (WkS.cons rfl (Wk.refl _) (WkS.nil)) (List.Perm.refl _) (List.Perm.refl _)) (retD_mk (hh := []) (.inl rfl) (resL_cons (resOne_tmp rfl) (resL_nil)) (List.nil_sublist _) (List.Sublist.refl _) ?_)
    exact ⟨rfl, rfl, rfl⟩
  · replace hm := yes_f hg4 hm
    refine p_skip rfl rfl rfl ?_
    refine p_pickF rfl rfl rfl rfl rfl rfl ?_
    refine p_pure htab rfl rfl rfl rfl ?_
    refine ops_nil ?_
    refine then_normal ?_
    refine wpD_ret ?_
    have er7 := yes_eq hm; subst er7
    refine retX.of (s' := ⟨[(2, .v (.bool false))], [], []⟩) (WkS.perm (WkS.cons rfl (Wk.refl _) (WkS.nil)) (List.Perm.refl _) (List.Perm.refl _)) (retD_mk (hh := []) (.inl rfl) (resL_cons (resOne_tmp rfl) (resL_nil)) (List.nil_sublist _) (List.Sublist.refl _) ?_)
    exact ⟨rfl, rfl, rfl⟩
noncomputable def l06_ResidueExact (a0 : Int) (a1 : Int) (a2 : Int) : Option (Bool) :=
  ((r02_Do a0 a1 a2).bind fun x3 => (Option.bind (α := Bool × Int) (bif (x3.2 == (0 : Int)) then some (true, x3.1) else some (false, (0 : Int))) fun y6 => ((residue_Do a0 (⟨true, (0 : Int), a1⟩ : TApiCong) (⟨true, (0 : Int), a2⟩ : TApiCong) false).bind fun x8 => (bif (x8.gSome == y6.1 && (x8.gM == (0 : Int) && (x8.gR == y6.2 && true))) then ((residue_Do a0 (⟨true, (0 : Int), a1⟩ : TApiCong) (⟨true, (0 : Int), a2⟩ : TApiCong) true).bind fun x10 => (bif (x10.gSome == y6.1 && (x10.gM == (0 : Int) && (x10.gR == y6.2 && true))) then (l06_lives.bind fun x12 => some x12) else some false)) else some false))))
set_option maxRecDepth 100000 in
set_option maxHeartbeats 2000000 in
theorem l06_ResidueExact_ok (a0 : Int) (a1 : Int) (a2 : Int) (r : Bool) (h0 : l06_ResidueExact a0 a1 a2 = some r) : CallsD Try.prog 4 [.v (.int .i64 a0), .v (.int .i64 a1), .v (.int .i64 a2)] [] [] (fun d h k => d = .v (.bool r) ∧ h = [] ∧ k = []) := by
  have hm := yes_of h0
  unfold l06_ResidueExact at hm
  clear h0
  refine enterX htab Try.func4 rfl rfl rfl rfl rfl (fun C => ?_)
  refine wpD_seq ?_
  refine wpD_region ?_
  refine p_pure htab rfl rfl rfl rfl ?_
  refine ops_nil ?_
  refine then_normal ?_
  refine wpD_seq ?_
  refine wpD_region ?_
  refine p_pure htab rfl rfl rfl rfl ?_
  refine p_build (r := [.v (.bool true), .v (.int .i64 (0 : Int)), .v (.int .i64 a1)]) htab rfl rfl rfl rfl rfl rfl rfl rfl rfl ?_
  refine p_pure htab rfl rfl rfl rfl ?_
  refine p_build (r := [.v (.bool true), .v (.int .i64 (0 : Int)), .v (.int .i64 a2)]) htab rfl rfl rfl rfl rfl rfl rfl rfl rfl ?_
  refine p_alloc htab rfl rfl rfl rfl rfl rfl rfl (fun b1 => ?_)
  refine p_alloc htab rfl rfl rfl rfl rfl rfl rfl (fun b2 => ?_)
  refine p_store (ds' := [.v (.bool true), .v (.int .i64 (0 : Int)), .v (.int .i64 a1)]) (h' := [(b1, Blk.cells [.v (.bool true), .v (.int .i64 (0 : Int)), .v (.int .i64 a1)] 23), (b2, Blk.cells [.v (.bool false), .v (.int .i64 (0 : Int)), .v (.int .i64 (0 : Int))] 23)]) 0 htab rfl rfl rfl rfl rfl rfl rfl rfl rfl rfl rfl rfl ?_
  refine p_store (ds' := [.v (.bool true), .v (.int .i64 (0 : Int)), .v (.int .i64 a2)]) (h' := [(b1, Blk.cells [.v (.bool true), .v (.int .i64 (0 : Int)), .v (.int .i64 a1)] 23), (b2, Blk.cells [.v (.bool true), .v (.int .i64 (0 : Int)), .v (.int .i64 a2)] 23)]) 1 htab rfl rfl rfl rfl rfl rfl rfl rfl rfl rfl rfl rfl ?_
  refine ops_nil ?_
  refine then_normal ?_
  refine wpD_seq ?_
  refine wpD_region ?_
  refine p_pure htab rfl rfl rfl rfl ?_
  refine p_pure htab rfl rfl rfl rfl ?_
  refine p_pure htab rfl rfl rfl rfl ?_
  obtain ⟨x3, q3, hm⟩ := yes_bind hm
  refine p_call0 (r02_Do_ok a0 a1 a2 x3 q3) rfl rfl rfl rfl rfl (WkL.refl _) ?_
  rintro _ rfl
  refine p_pure htab rfl rfl rfl rfl ?_
  refine p_pure htab rfl rfl rfl rfl ?_
  refine p_pure htab rfl rfl rfl rfl ?_
  refine p_pure htab rfl rfl rfl rfl ?_
  refine p_pure htab rfl rfl rfl rfl ?_
  refine ops_nil ?_
  refine then_normal ?_
  refine wpD_seq ?_
  refine wpD_region ?_
  refine p_build (r := [.v (.bool false), .v (.int .i64 (0 : Int)), .v (.int .i64 (0 : Int))]) htab rfl rfl rfl rfl rfl rfl rfl rfl rfl ?_
  refine p_alloc htab rfl rfl rfl rfl rfl rfl rfl (fun b4 => ?_)
  refine p_store (ds' := [.v (.bool false), .v (.int .i64 (0 : Int)), .v (.int .i64 (0 : Int))]) (h' := [(b1, Blk.cells [.v (.bool true), .v (.int .i64 (0 : Int)), .v (.int .i64 a1)] 23), (b2, Blk.cells [.v (.bool true), .v (.int .i64 (0 : Int)), .v (.int .i64 a2)] 23), (b4, Blk.cells [.v (.bool false), .v (.int .i64 (0 : Int)), .v (.int .i64 (0 : Int))] 23)]) 2 htab rfl rfl rfl rfl rfl rfl rfl rfl rfl rfl rfl rfl ?_
  refine ops_nil ?_
  refine then_normal ?_
  refine wpD_seq ?_
  refine wpD_seq ?_
  refine wpD_region ?_
  refine p_pure htab rfl rfl rfl rfl ?_
  refine p_pure htab rfl rfl rfl rfl ?_
  refine ops_nil ?_
  refine then_normal ?_
  obtain ⟨y6, q6, ho6⟩ := yes_bind hm
  refine wpD_mid (Y := Unit) (fun z6 => (⟨[(0, .v (.int .i64 a0)), (7, .ptr b1 0), (8, .ptr b2 0), (11, .ptr b4 0)], [(b1, Blk.cells [.v (.bool true), .v (.int .i64 (0 : Int)), .v (.int .i64 a1)] 23), (b2, Blk.cells [.v (.bool true), .v (.int .i64 (0 : Int)), .v (.int .i64 a2)] 23), (b4, Blk.cells [.v (.bool y6.1), .v (.int .i64 (0 : Int)), .v (.int .i64 y6.2)] 23)], []⟩ : S)) ?_ ?_
  · clear hm; have hm := yes_of q6
    refine wpD_cond rfl (fun hc7 => ?_) (fun hc7 => ?_)
    · replace hm := yes_t hc7 hm
      refine wpD_region ?_
      refine p_pure htab rfl rfl rfl rfl ?_
      refine p_build (r := [.v (.bool true), .v (.int .i64 (0 : Int)), .v (.int .i64 x3.1)]) htab rfl rfl rfl rfl rfl rfl rfl rfl rfl ?_
      refine p_store (ds' := [.v (.bool true), .v (.int .i64 (0 : Int)), .v (.int .i64 x3.1)]) (h' := [(b1, Blk.cells [.v (.bool true), .v (.int .i64 (0 : Int)), .v (.int .i64 a1)] 23), (b2, Blk.cells [.v (.bool true), .v (.int .i64 (0 : Int)), .v (.int .i64 a2)] 23), (b4, Blk.cells [.v (.bool true), .v (.int .i64 (0 : Int)), .v (.int .i64 x3.1)] 23)]) 2 htab rfl rfl rfl rfl rfl rfl rfl rfl rfl rfl rfl rfl ?_
      refine ops_nil ?_
      have e6 := yes_eq hm; subst e6
      refine ⟨rfl, ?_⟩
      exact WkX.of () (WkS.perm (WkS.cons rfl (Wk.refl _) (WkS.cons rfl (Wk.refl _) (WkS.cons rfl (Wk.refl _) (WkS.cons rfl (Wk.refl _) (WkS.nil))))) (List.Perm.refl _) (List.Perm.refl _))
    · replace hm := yes_f hc7 hm
      refine wpD_skip ?_
      have e6 := yes_eq hm; subst e6
      refine ⟨rfl, ?_⟩
      exact WkX.of () (WkS.perm (WkS.cons rfl (Wk.refl _) (WkS.cons rfl (Wk.refl _) (WkS.cons rfl (Wk.refl _) (WkS.cons rfl (Wk.refl _) (WkS.nil))))) (List.Perm.refl _) (List.Perm.refl _))
  · intro s6 hw6; clear hm; have hm := ho6; clear q6 ho6
    refine then_normal ?_
    refine wpD_wkX hw6 (fun z6 => ?_)
    refine wpD_seq ?_
    obtain ⟨x8, q8, hm⟩ := yes_bind hm
    refine bycB (x8.gSome == y6.1 && (x8.gM == (0 : Int) && (x8.gR == y6.2 && true))) (fun hs9 => ?_) (fun hs9 => ?_)
    · replace hm := yes_t hs9 hm
      obtain ⟨x10, q10, hm⟩ := yes_bind hm
      refine wpD_draws 12 [] [[],[],[],[1,2],[],[1,2,3,4],[1,2,3,4],[1,2,3,4],[1,2,3,4],[1,2,3,4],[1,2,3,4,8,9],[1,2,3,4]] [1,2,3,4,8,9,10,11] [[],[],[],[0,1,2],[],[0,1,2,3,4],[0,1,2,3,4,5],[0,1,2,3,4,5,6],[0,1,2,3,4,5,6],[0,1,2,3,4,5,6],[0,1,2,3,4,5,6,7,8,9],[0,1,2,3,4,5,6],[0,1,2,3,4,5,6,7,8,9,10,11],[0,1,2,3,4,5,6,7,8,9,10,11,12],[0,1,2,3,4,5,6,7,8,9,10,11,12,13],[0,1,2,3,4,5,6,7,8,9,10,11,12,13,14],[0,1,2,3,4,5,6,7,8,9,10,11,12,13,14,15],[0,1,2,3,4,5,6,7,8,9,10,11,12,13,14,15,16]] (by kernel_rfl) (by kernel_rfl) (by kernel_rfl) (by rfl) (by rfl) (by kernel_rfl) ?_
      apply Exists.intro
      apply Exists.intro
      apply Exists.intro
      apply Exists.intro
      apply Exists.intro
      apply Exists.intro
      apply Exists.intro
      apply Exists.intro
      intro bs
      refine z_q rfl rfl (ex_pure htab rfl) rfl rfl rfl rfl rfl rfl ?_
      refine z_eM rfl rfl (xm_load (d := eTApiCong (⟨true, (0 : Int), a1⟩ : TApiCong)) 0 htab rfl rfl rfl rfl rfl) rfl rfl rfl rfl rfl rfl ?_
      refine z_eM rfl rfl (xm_load (d := eTApiCong (⟨true, (0 : Int), a2⟩ : TApiCong)) 1 htab rfl rfl rfl rfl rfl) rfl rfl rfl rfl rfl rfl ?_
      refine z_call rfl rfl (residue_Do_ok a0 (⟨true, (0 : Int), a1⟩ : TApiCong) (⟨true, (0 : Int), a2⟩ : TApiCong) false x8 q8) rfl rfl (WkL.refl _) rfl rfl rfl rfl rfl rfl ?_
      refine z_eM rfl rfl (xm_load (d := eTApiCong (⟨y6.1, (0 : Int), y6.2⟩ : TApiCong)) 2 htab rfl rfl rfl rfl rfl) rfl rfl rfl rfl rfl rfl ?_
      refine z_q rfl rfl (x_eqS htab rfl rfl eqt23 rfl rfl rfl rfl rfl) rfl rfl rfl rfl rfl rfl ?_
      refine z_q rfl rfl (ex_pure htab rfl) rfl rfl rfl rfl rfl rfl ?_
      refine z_known (j := 34) (b' := true) rfl hs9 ?_
      refine z_q rfl rfl (ex_pure htab rfl) rfl rfl rfl rfl rfl rfl ?_
      refine z_eM rfl rfl (xm_load (d := eTApiCong (⟨true, (0 : Int), a1⟩ : TApiCong)) 0 htab rfl rfl rfl rfl rfl) rfl rfl rfl rfl rfl rfl ?_
      refine z_eM rfl rfl (xm_load (d := eTApiCong (⟨true, (0 : Int), a2⟩ : TApiCong)) 1 htab rfl rfl rfl rfl rfl) rfl rfl rfl rfl rfl rfl ?_
      refine z_call rfl rfl (residue_Do_ok a0 (⟨true, (0 : Int), a1⟩ : TApiCong) (⟨true, (0 : Int), a2⟩ : TApiCong) true x10 q10) rfl rfl (WkL.refl _) rfl rfl rfl rfl rfl rfl ?_
      refine z_eM rfl rfl (xm_load (d := eTApiCong (⟨y6.1, (0 : Int), y6.2⟩ : TApiCong)) 2 htab rfl rfl rfl rfl rfl) rfl rfl rfl rfl rfl rfl ?_
      refine z_nil rfl rfl (fun e he => by simp [isAl] at he) ?_
      refine p_eqS htab rfl rfl rfl rfl rfl eqt23 rfl rfl rfl rfl rfl ?_
      refine p_pickT rfl rfl rfl rfl rfl rfl ?_
      refine p_pure htab rfl rfl rfl rfl ?_
      refine p_split (i := 42) rfl (fun hg11 => ?_) (fun hg11 => ?_)
      · replace hm := yes_t hg11 hm
        obtain ⟨x12, q12, hm⟩ := yes_bind hm
        refine p_call0 (l06_lives_ok  x12 q12) rfl rfl rfl rfl rfl (WkL.refl _) ?_
        rintro _ rfl
        refine p_pickT rfl rfl rfl rfl rfl rfl ?_
        refine p_pure htab rfl rfl rfl rfl ?_
        refine ops_nil ?_
        refine then_normal ?_
        refine wpD_ret ?_
        have er13 := yes_eq hm; subst er13
        refine retX.of (s' := ⟨[(6, .v (.bool x12))], [], []⟩) (WkS.perm (WkS.cons rfl (Wk.refl _) (WkS.nil)) (List.Perm.refl _) (List.Perm.refl _)) (retD_mk (hh := []) (.inl rfl) (resL_cons (resOne_tmp rfl) (resL_nil)) (List.nil_sublist _) (List.Sublist.refl _) ?_)
        exact ⟨rfl, rfl, rfl⟩
      · replace hm := yes_f hg11 hm
        refine p_skip rfl rfl rfl ?_
        refine p_pickF rfl rfl rfl rfl rfl rfl ?_
        refine p_pure htab rfl rfl rfl rfl ?_
        refine ops_nil ?_
        refine then_normal ?_
        refine wpD_ret ?_
        have er14 := yes_eq hm; subst er14
        refine retX.of (s' := ⟨[(6, .v (.bool false))], [], []⟩) (WkS.perm (WkS.cons rfl (Wk.refl _) (WkS.nil)) (List.Perm.refl _) (List.Perm.refl _)) (retD_mk (hh := []) (.inl rfl) (resL_cons (resOne_tmp rfl) (resL_nil)) (List.nil_sublist _) (List.Sublist.refl _) ?_)
        exact ⟨rfl, rfl, rfl⟩
    · replace hm := yes_f hs9 hm
      refine wpD_draws 12 [] [[],[],[],[1,2],[],[1,2,3,4],[1,2,3,4],[1,2,3,4],[1,2,3,4],[1,2,3,4],[1,2,3,4],[1,2,3,4]] [1,2,3,4] [[],[],[],[0,1,2],[],[0,1,2,3,4],[0,1,2,3,4,5],[0,1,2,3,4,5,6],[0,1,2,3,4,5,6],[0,1,2,3,4,5,6],[0,1,2,3,4,5,6,7,8,9],[0,1,2,3,4,5,6],[0,1,2,3,4,5,6,7,8,9,10,11],[0,1,2,3,4,5,6,7,8,9,10,11,12],[0,1,2,3,4,5,6,7,8,9,10,11,12,13],[0,1,2,3,4,5,6,7,8,9,10,11,12,13,14],[0,1,2,3,4,5,6,7,8,9,10,11,12,13,14,15],[0,1,2,3,4,5,6,7,8,9,10,11,12,13,14,15,16]] (by kernel_rfl) (by kernel_rfl) (by kernel_rfl) (by rfl) (by rfl) (by kernel_rfl) ?_
      apply Exists.intro
      apply Exists.intro
      apply Exists.intro
      apply Exists.intro
      intro bs
      refine z_q rfl rfl (ex_pure htab rfl) rfl rfl rfl rfl rfl rfl ?_
      refine z_eM rfl rfl (xm_load (d := eTApiCong (⟨true, (0 : Int), a1⟩ : TApiCong)) 0 htab rfl rfl rfl rfl rfl) rfl rfl rfl rfl rfl rfl ?_
      refine z_eM rfl rfl (xm_load (d := eTApiCong (⟨true, (0 : Int), a2⟩ : TApiCong)) 1 htab rfl rfl rfl rfl rfl) rfl rfl rfl rfl rfl rfl ?_
      refine z_call rfl rfl (residue_Do_ok a0 (⟨true, (0 : Int), a1⟩ : TApiCong) (⟨true, (0 : Int), a2⟩ : TApiCong) false x8 q8) rfl rfl (WkL.refl _) rfl rfl rfl rfl rfl rfl ?_
      refine z_eM rfl rfl (xm_load (d := eTApiCong (⟨y6.1, (0 : Int), y6.2⟩ : TApiCong)) 2 htab rfl rfl rfl rfl rfl) rfl rfl rfl rfl rfl rfl ?_
      refine z_q rfl rfl (x_eqS htab rfl rfl eqt23 rfl rfl rfl rfl rfl) rfl rfl rfl rfl rfl rfl ?_
      refine z_q rfl rfl (ex_pure htab rfl) rfl rfl rfl rfl rfl rfl ?_
      refine z_known (j := 34) (b' := false) rfl hs9 ?_
      refine z_skip rfl rfl rfl rfl ?_
      refine z_skip rfl rfl rfl rfl ?_
      refine z_skip rfl rfl rfl rfl ?_
      refine z_skip rfl rfl rfl rfl ?_
      refine z_skip rfl rfl rfl rfl ?_
      refine z_nil rfl rfl (fun e he => by simp [isAl] at he) ?_
      refine p_skip rfl rfl rfl ?_
      refine p_pickF rfl rfl rfl rfl rfl rfl ?_
      refine p_pure htab rfl rfl rfl rfl ?_
      refine p_skip rfl rfl rfl ?_
      refine p_pickF rfl rfl rfl rfl rfl rfl ?_
      refine p_pure htab rfl rfl rfl rfl ?_
      refine ops_nil ?_
      refine then_normal ?_
      refine wpD_ret ?_
      have er15 := yes_eq hm; subst er15
      refine retX.of (s' := ⟨[(6, .v (.bool false))], [], []⟩) (WkS.perm (WkS.cons rfl (Wk.refl _) (WkS.nil)) (List.Perm.refl _) (List.Perm.refl _)) (retD_mk (hh := []) (.inl rfl) (resL_cons (resOne_tmp rfl) (resL_nil)) (List.nil_sublist _) (List.Sublist.refl _) ?_)
      exact ⟨rfl, rfl, rfl⟩

end Go.Proofs.Ytjbpfgknhpdkaaa.Ab
