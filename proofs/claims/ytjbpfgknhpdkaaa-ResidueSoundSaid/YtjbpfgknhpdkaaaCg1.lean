/- Layer 5, the program's. -/
import Derived.Test.YtjbpfgknhpdkaaaWk2
namespace Go.Proofs.Ytjbpfgknhpdkaaa.Ab
open Go
set_option linter.all false
structure TApiCong where
  gSome : Bool
  gM : Int
  gR : Int
def eTApiCong (x : TApiCong) : D := .agg [.v (.bool x.gSome), .v (.int .i64 x.gM), .v (.int .i64 x.gR)]
noncomputable def cong_Mod (a0 : Int) (a1 : Int) : Option (Int) :=
  (bif (decide (a1 ≤ (0 : Int))) then some a0 else ((need (a1 != 0)).bind fun x4 => (bif (decide ((a0.tmod a1) < (0 : Int))) then some (IntKind.i64.wrap ((a0.tmod a1) + a1)) else some (a0.tmod a1))))
set_option maxRecDepth 100000 in
set_option maxHeartbeats 2000000 in
theorem cong_Mod_ok (a0 : Int) (a1 : Int) (r : Int) (h0 : cong_Mod a0 a1 = some r) : CallsD Try.prog 66 [.v (.int .i64 a0), .v (.int .i64 a1)] [] [] (fun d h k => d = .v (.int .i64 r) ∧ h = [] ∧ k = []) := by
  have hm := yes_of h0
  unfold cong_Mod at hm
  clear h0
  refine enterX htab Try.func66 rfl rfl rfl rfl rfl (fun C => ?_)
  refine wpD_seq ?_
  refine wpD_region ?_
  refine p_pure htab rfl rfl rfl rfl ?_
  refine ops_nil ?_
  refine then_normal ?_
  refine wpD_seq ?_
  refine wpD_seq ?_
  refine wpD_region ?_
  refine p_pure htab rfl rfl rfl rfl ?_
  refine p_pure htab rfl rfl rfl rfl ?_
  refine ops_nil ?_
  refine then_normal ?_
  refine wpD_cond rfl (fun hc2 => ?_) (fun hc2 => ?_)
  · replace hm := yes_t hc2 hm
    refine wpD_seq ?_
    refine wpD_region ?_
    refine p_pure htab rfl rfl rfl rfl ?_
    refine p_pure htab rfl rfl rfl rfl ?_
    refine ops_nil ?_
    refine then_normal ?_
    refine wpD_ret ?_
    refine then_ret ?_
    have er3 := yes_eq hm; subst er3
    refine retX.of (s' := ⟨[(4, .v (.int .i64 a0))], [], []⟩) (WkS.perm (WkS.cons rfl (Wk.refl _) (WkS.nil)) (List.Perm.refl _) (List.Perm.refl _)) (retD_mk (hh := []) (.inl rfl) (resL_cons (resOne_tmp rfl) (resL_nil)) (List.nil_sublist _) (List.Sublist.refl _) ?_)
    exact ⟨rfl, rfl, rfl⟩
  · replace hm := yes_f hc2 hm
    refine wpD_skip ?_
    refine then_normal ?_
    refine wpD_seq ?_
    refine wpD_region ?_
    refine p_pure htab rfl rfl rfl rfl ?_
    refine p_pure htab rfl rfl rfl rfl ?_
    obtain ⟨x4, q4, hm⟩ := yes_bind hm
    refine p_div rfl rfl rfl rfl rfl rfl rfl (by simpa using need_ok q4) ?_
    refine p_pure htab rfl rfl rfl rfl ?_
    refine ops_nil ?_
    refine then_normal ?_
    refine wpD_seq ?_
    refine wpD_seq ?_
    refine wpD_region ?_
    refine p_pure htab rfl rfl rfl rfl ?_
    refine p_pure htab rfl rfl rfl rfl ?_
    refine ops_nil ?_
    refine then_normal ?_
    refine wpD_cond rfl (fun hc5 => ?_) (fun hc5 => ?_)
    · replace hm := yes_t hc5 hm
      refine wpD_region ?_
      refine p_pure htab rfl rfl rfl rfl ?_
      refine p_pure htab rfl rfl rfl rfl ?_
      refine p_pure htab rfl rfl rfl rfl ?_
      refine p_pure htab rfl rfl rfl rfl ?_
      refine ops_nil ?_
      refine then_normal ?_
      refine wpD_seq ?_
      refine wpD_region ?_
      refine p_pure htab rfl rfl rfl rfl ?_
      refine p_pure htab rfl rfl rfl rfl ?_
      refine ops_nil ?_
      refine then_normal ?_
      refine wpD_ret ?_
      have er6 := yes_eq hm; subst er6
      refine retX.of (s' := ⟨[(4, .v (.int .i64 (IntKind.i64.wrap ((a0.tmod a1) + a1))))], [], []⟩) (WkS.perm (WkS.cons rfl (Wk.refl _) (WkS.nil)) (List.Perm.refl _) (List.Perm.refl _)) (retD_mk (hh := []) (.inl rfl) (resL_cons (resOne_tmp rfl) (resL_nil)) (List.nil_sublist _) (List.Sublist.refl _) ?_)
      exact ⟨rfl, rfl, rfl⟩
    · replace hm := yes_f hc5 hm
      refine wpD_skip ?_
      refine then_normal ?_
      refine wpD_seq ?_
      refine wpD_region ?_
      refine p_pure htab rfl rfl rfl rfl ?_
      refine p_pure htab rfl rfl rfl rfl ?_
      refine ops_nil ?_
      refine then_normal ?_
      refine wpD_ret ?_
      have er7 := yes_eq hm; subst er7
      refine retX.of (s' := ⟨[(4, .v (.int .i64 (a0.tmod a1)))], [], []⟩) (WkS.perm (WkS.cons rfl (Wk.refl _) (WkS.nil)) (List.Perm.refl _) (List.Perm.refl _)) (retD_mk (hh := []) (.inl rfl) (resL_cons (resOne_tmp rfl) (resL_nil)) (List.nil_sublist _) (List.Sublist.refl _) ?_)
      exact ⟨rfl, rfl, rfl⟩
noncomputable def cong_Gcd (a0 : Int) (a1 : Int) : Option (Int) :=
  (loopM (fun (s1 : Int × Int) => (bif (s1.2 == (0 : Int)) then some (.done s1.1) else ((need (s1.2 != 0)).bind fun x9 => some (.next (s1.2, (s1.1.tmod s1.2)))))) (a0, a1))
set_option maxRecDepth 100000 in
set_option maxHeartbeats 2000000 in
theorem cong_Gcd_ok (a0 : Int) (a1 : Int) (r : Int) (h0 : cong_Gcd a0 a1 = some r) : CallsD Try.prog 56 [.v (.int .u64 a0), .v (.int .u64 a1)] [] [] (fun d h k => d = .v (.int .u64 r) ∧ h = [] ∧ k = []) := by
  have hm := yes_of h0
  unfold cong_Gcd at hm
  clear h0
  refine enterX htab Try.func56 rfl rfl rfl rfl rfl (fun C => ?_)
  refine wpD_seq ?_
  refine wpD_region ?_
  refine p_pure htab rfl rfl rfl rfl ?_
  refine ops_nil ?_
  refine then_normal ?_
  obtain ⟨u1, hl1, hq1⟩ := yes_m hm
  refine scope_L (Y := Unit) 0 hl1 (fun s1 z1 => (⟨[(0, .v (.int .u64 s1.1)), (1, .v (.int .u64 s1.2))], [], []⟩ : S)) rfl ?_ ?_
  · intro Q' hr
    refine wpD_seq (wpD_label (then_normal ?_))
    refine wpD_wkX (S1 := (fun s1 z1 => (⟨[(0, .v (.int .u64 s1.1)), (1, .v (.int .u64 s1.2))], [], []⟩ : S)) (a0, a1)) ?_ (fun zz => hr zz)
    exact WkX.of () (WkS.perm (WkS.cons rfl (Wk.refl _) (WkS.cons rfl (Wk.refl _) (WkS.nil))) (List.Perm.refl _) (List.Perm.refl _))
  · intro G1 s1 z1 hm
    refine wpD_seq ?_
    refine wpD_seq ?_
    refine wpD_region ?_
    refine p_pure htab rfl rfl rfl rfl ?_
    refine p_pure htab rfl rfl rfl rfl ?_
    refine ops_nil ?_
    refine then_normal ?_
    refine wpD_cond rfl (fun hc7 => ?_) (fun hc7 => ?_)
    · replace hm := yes_t hc7 hm
      refine wpD_seq ?_
      refine wpD_region ?_
      refine p_pure htab rfl rfl rfl rfl ?_
      refine p_pure htab rfl rfl rfl rfl ?_
      refine ops_nil ?_
      refine then_normal ?_
      refine wpD_ret ?_
      refine then_ret ?_
      have e1 := lp_done hm; subst e1; clear hm; have hm := hq1
      refine back_ret ?_
      have er8 := yes_eq hm; subst er8
      refine retX.of (s' := ⟨[(4, .v (.int .u64 s1.1))], [], []⟩) (WkS.perm (WkS.cons rfl (Wk.refl _) (WkS.nil)) (List.Perm.refl _) (List.Perm.refl _)) (retD_mk (hh := []) (.inl rfl) (resL_cons (resOne_tmp rfl) (resL_nil)) (List.nil_sublist _) (List.Sublist.refl _) ?_)
      exact ⟨rfl, rfl, rfl⟩
    · replace hm := yes_f hc7 hm
      refine wpD_skip ?_
      refine then_normal ?_
      refine wpD_seq ?_
      obtain ⟨x9, q9, hm⟩ := yes_bind hm
      refine wpD_draws 5 [] [[],[],[],[],[]] [] [[],[],[],[1,2],[0,1],[0,1,2,3,4]] (by kernel_rfl) (by kernel_rfl) (by kernel_rfl) (by rfl) (by rfl) (by kernel_rfl) ?_
      intro bs
      refine z_q rfl rfl (ex_pure htab rfl) rfl rfl rfl rfl rfl rfl ?_
      refine z_q rfl rfl (ex_pure htab rfl) rfl rfl rfl rfl rfl rfl ?_
      refine z_q rfl rfl (ex_pure htab rfl) rfl rfl rfl rfl rfl rfl ?_
      refine z_q rfl rfl (x_div rfl rfl rfl rfl (by simpa using need_ok q9)) rfl rfl rfl rfl rfl rfl ?_
      refine z_q rfl rfl (ex_pure htab rfl) rfl rfl rfl rfl rfl rfl ?_
      refine z_nil rfl rfl (fun e he => by simp [isAl] at he) ?_
      refine p_pure htab rfl rfl rfl rfl ?_
      refine ops_nil ?_
      refine then_normal ?_
      refine wpD_goto ?_
      refine back_goto ⟨_, lp_next hm, ?_⟩
      exact WkX.of () (WkS.perm (WkS.cons rfl (Wk.refl _) (WkS.cons rfl (Wk.refl _) (WkS.nil))) (List.Perm.refl _) (List.Perm.refl _))
noncomputable def cong_Of (a0 : Int) (a1 : Int) : Option (TApiCong) :=
  (Option.bind (α := Int) (bif (decide (a0 < (0 : Int))) then some (1 : Int) else some a0) fun y3 => ((cong_Mod a1 y3).bind fun x5 => some (⟨true, y3, x5⟩ : TApiCong)))
set_option maxRecDepth 100000 in
set_option maxHeartbeats 2000000 in
theorem cong_Of_ok (a0 : Int) (a1 : Int) (r : TApiCong) (h0 : cong_Of a0 a1 = some r) : CallsD Try.prog 49 [.v (.int .i64 a0), .v (.int .i64 a1)] [] [] (fun d h k => d = eTApiCong r ∧ h = [] ∧ k = []) := by
  have hm := yes_of h0
  unfold cong_Of at hm
  clear h0
  refine enterX htab Try.func49 rfl rfl rfl rfl rfl (fun C => ?_)
  refine wpD_seq ?_
  refine wpD_region ?_
  refine p_alloc htab rfl rfl rfl rfl rfl rfl rfl (fun b1 => ?_)
  refine ops_nil ?_
  refine then_normal ?_
  refine wpD_seq ?_
  refine wpD_seq ?_
  refine wpD_region ?_
  refine p_pure htab rfl rfl rfl rfl ?_
  refine p_pure htab rfl rfl rfl rfl ?_
  refine ops_nil ?_
  refine then_normal ?_
  obtain ⟨y3, q3, ho3⟩ := yes_bind hm
  refine wpD_mid (Y := Unit) (fun z3 => (⟨[(0, .v (.int .i64 y3)), (1, .v (.int .i64 a1)), (4, .ptr b1 0)], [(b1, Blk.cells [.v (.bool false), .v (.int .i64 (0 : Int)), .v (.int .i64 (0 : Int))] 23)], []⟩ : S)) ?_ ?_
  · clear hm; have hm := yes_of q3
    refine wpD_cond rfl (fun hc4 => ?_) (fun hc4 => ?_)
    · replace hm := yes_t hc4 hm
      refine wpD_region ?_
      refine p_pure htab rfl rfl rfl rfl ?_
      refine ops_nil ?_
      have e3 := yes_eq hm; subst e3
      refine ⟨rfl, ?_⟩
      exact WkX.of () (WkS.perm (WkS.cons rfl (Wk.refl _) (WkS.cons rfl (Wk.refl _) (WkS.cons rfl (Wk.refl _) (WkS.nil)))) (List.Perm.refl _) (List.Perm.refl _))
    · replace hm := yes_f hc4 hm
      refine wpD_skip ?_
      have e3 := yes_eq hm; subst e3
      refine ⟨rfl, ?_⟩
      exact WkX.of () (WkS.perm (WkS.cons rfl (Wk.refl _) (WkS.cons rfl (Wk.refl _) (WkS.cons rfl (Wk.refl _) (WkS.nil)))) (List.Perm.refl _) (List.Perm.refl _))
  · intro s3 hw3; clear hm; have hm := ho3; clear q3 ho3
    refine then_normal ?_
    refine wpD_wkX hw3 (fun z3 => ?_)
    refine wpD_seq ?_
    refine wpD_region ?_
    refine p_pure htab rfl rfl rfl rfl ?_
    refine p_pure htab rfl rfl rfl rfl ?_
    refine p_pure htab rfl rfl rfl rfl ?_
    obtain ⟨x5, q5, hm⟩ := yes_bind hm
    refine p_call0 (cong_Mod_ok a1 y3 x5 q5) rfl rfl rfl rfl rfl (WkL.refl _) ?_
    rintro _ rfl
    refine p_build (r := [.v (.bool true), .v (.int .i64 y3), .v (.int .i64 x5)]) htab rfl rfl rfl rfl rfl rfl rfl rfl rfl ?_
    refine p_store (ds' := [.v (.bool true), .v (.int .i64 y3), .v (.int .i64 x5)]) (h' := [(b1, Blk.cells [.v (.bool true), .v (.int .i64 y3), .v (.int .i64 x5)] 23)]) 0 htab rfl rfl rfl rfl rfl rfl rfl rfl rfl rfl rfl rfl ?_
    refine ops_nil ?_
    refine then_normal ?_
    refine wpD_ret ?_
    have er6 := yes_eq hm; subst er6
    refine retX.of (s' := ⟨[(4, .ptr b1 0)], [(b1, Blk.cells [.v (.bool true), .v (.int .i64 y3), .v (.int .i64 x5)] 23)], []⟩) (WkS.perm (WkS.cons rfl (Wk.refl _) (WkS.nil)) (List.Perm.refl _) (List.Perm.refl _)) (retD_mk (hh := []) (.inl rfl) (resL_cons (resOne_cell 0 rfl rfl rfl rfl) (resL_nil)) (List.nil_sublist _) (List.Sublist.refl _) ?_)
    exact ⟨rfl, rfl, rfl⟩
noncomputable def cong_One (a0 : Int) : Option (TApiCong) :=
  ((cong_Of (0 : Int) a0).bind fun x2 => some x2)
set_option maxRecDepth 100000 in
set_option maxHeartbeats 2000000 in
theorem cong_One_ok (a0 : Int) (r : TApiCong) (h0 : cong_One a0 = some r) : CallsD Try.prog 17 [.v (.int .i64 a0)] [] [] (fun d h k => d = eTApiCong r ∧ h = [] ∧ k = []) := by
  have hm := yes_of h0
  unfold cong_One at hm
  clear h0
  refine enterX htab Try.func17 rfl rfl rfl rfl rfl (fun C => ?_)
  refine wpD_seq ?_
  refine wpD_region ?_
  refine p_alloc htab rfl rfl rfl rfl rfl rfl rfl (fun b1 => ?_)
  refine ops_nil ?_
  refine then_normal ?_
  refine wpD_seq ?_
  refine wpD_region ?_
  refine p_pure htab rfl rfl rfl rfl ?_
  obtain ⟨x2, q2, hm⟩ := yes_bind hm
  refine p_call0 (cong_Of_ok (0 : Int) a0 x2 q2) rfl rfl rfl rfl rfl (WkL.refl _) ?_
  rintro _ rfl
  refine p_store (ds' := [.v (.bool x2.gSome), .v (.int .i64 x2.gM), .v (.int .i64 x2.gR)]) (h' := [(b1, Blk.cells [.v (.bool x2.gSome), .v (.int .i64 x2.gM), .v (.int .i64 x2.gR)] 23)]) 0 htab rfl rfl rfl rfl rfl rfl rfl rfl rfl rfl rfl rfl ?_
  refine ops_nil ?_
  refine then_normal ?_
  refine wpD_ret ?_
  have er3 := yes_eq hm; subst er3
  refine retX.of (s' := ⟨[(2, .ptr b1 0)], [(b1, Blk.cells [.v (.bool x2.gSome), .v (.int .i64 x2.gM), .v (.int .i64 x2.gR)] 23)], []⟩) (WkS.perm (WkS.cons rfl (Wk.refl _) (WkS.nil)) (List.Perm.refl _) (List.Perm.refl _)) (retD_mk (hh := []) (.inl rfl) (resL_cons (resOne_cell 0 rfl rfl rfl rfl) (resL_nil)) (List.nil_sublist _) (List.Sublist.refl _) ?_)
  exact ⟨rfl, rfl, rfl⟩
noncomputable def cong_All : Option (TApiCong) :=
  ((cong_Of (1 : Int) (0 : Int)).bind fun x2 => some x2)
set_option maxRecDepth 100000 in
set_option maxHeartbeats 2000000 in
theorem cong_All_ok  (r : TApiCong) (h0 : cong_All = some r) : CallsD Try.prog 48 [] [] [] (fun d h k => d = eTApiCong r ∧ h = [] ∧ k = []) := by
  have hm := yes_of h0
  unfold cong_All at hm
  clear h0
  refine enterX htab Try.func48 rfl rfl rfl rfl rfl (fun C => ?_)
  refine wpD_seq ?_
  refine wpD_region ?_
  refine p_alloc htab rfl rfl rfl rfl rfl rfl rfl (fun b1 => ?_)
  refine ops_nil ?_
  refine then_normal ?_
  refine wpD_seq ?_
  refine wpD_region ?_
  obtain ⟨x2, q2, hm⟩ := yes_bind hm
  refine p_call0 (cong_Of_ok (1 : Int) (0 : Int) x2 q2) rfl rfl rfl rfl rfl (WkL.refl _) ?_
  rintro _ rfl
  refine p_store (ds' := [.v (.bool x2.gSome), .v (.int .i64 x2.gM), .v (.int .i64 x2.gR)]) (h' := [(b1, Blk.cells [.v (.bool x2.gSome), .v (.int .i64 x2.gM), .v (.int .i64 x2.gR)] 23)]) 0 htab rfl rfl rfl rfl rfl rfl rfl rfl rfl rfl rfl rfl ?_
  refine ops_nil ?_
  refine then_normal ?_
  refine wpD_ret ?_
  have er3 := yes_eq hm; subst er3
  refine retX.of (s' := ⟨[(0, .ptr b1 0)], [(b1, Blk.cells [.v (.bool x2.gSome), .v (.int .i64 x2.gM), .v (.int .i64 x2.gR)] 23)], []⟩) (WkS.perm (WkS.cons rfl (Wk.refl _) (WkS.nil)) (List.Perm.refl _) (List.Perm.refl _)) (retD_mk (hh := []) (.inl rfl) (resL_cons (resOne_cell 0 rfl rfl rfl rfl) (resL_nil)) (List.nil_sublist _) (List.Sublist.refl _) ?_)
  exact ⟨rfl, rfl, rfl⟩
noncomputable def cong_None (a0 : TApiCong) : Option (Bool) :=
  some (!a0.gSome)
set_option maxRecDepth 100000 in
set_option maxHeartbeats 2000000 in
theorem cong_None_ok (a0 : TApiCong) (r : Bool) (h0 : cong_None a0 = some r) : CallsD Try.prog 15 [eTApiCong a0] [] [] (fun d h k => d = .v (.bool r) ∧ h = [] ∧ k = []) := by
  have hm := yes_of h0
  unfold cong_None at hm
  clear h0
  refine enterX htab Try.func15 rfl rfl rfl rfl rfl (fun C => ?_)
  refine wpD_seq ?_
  refine wpD_region ?_
  refine p_box rfl rfl rfl rfl rfl rfl rfl (fun b1 => ?_)
  refine p_pure htab rfl rfl rfl rfl ?_
  refine ops_nil ?_
  refine then_normal ?_
  refine wpD_seq ?_
  refine wpD_region ?_
  refine p_pure htab rfl rfl rfl rfl ?_
  refine p_load 0 htab rfl rfl rfl rfl rfl rfl rfl rfl ?_
  refine p_pure htab rfl rfl rfl rfl ?_
  refine p_pure htab rfl rfl rfl rfl ?_
  refine ops_nil ?_
  refine then_normal ?_
  refine wpD_ret ?_
  have er2 := yes_eq hm; subst er2
  refine retX.of (s' := ⟨[(2, .v (.bool (!a0.gSome)))], [], []⟩) (WkS.perm (WkS.cons rfl (Wk.refl _) (WkS.nil)) (List.Perm.refl _) (List.Perm.refl _)) (retD_mk (hh := []) (.inl rfl) (resL_cons (resOne_tmp rfl) (resL_nil)) (List.nil_sublist _) (List.Sublist.refl _) ?_)
  exact ⟨rfl, rfl, rfl⟩
noncomputable def cong_Clean (a0 : TApiCong) : Option (TApiCong) :=
  (bif (!a0.gSome) then some (⟨false, (0 : Int), (0 : Int)⟩ : TApiCong) else ((cong_Of a0.gM a0.gR).bind fun x6 => some x6))
set_option maxRecDepth 100000 in
set_option maxHeartbeats 2000000 in
theorem cong_Clean_ok (a0 : TApiCong) (r : TApiCong) (h0 : cong_Clean a0 = some r) : CallsD Try.prog 14 [eTApiCong a0] [] [] (fun d h k => d = eTApiCong r ∧ h = [] ∧ k = []) := by
  have hm := yes_of h0
  unfold cong_Clean at hm
  clear h0
  refine enterX htab Try.func14 rfl rfl rfl rfl rfl (fun C => ?_)
  refine wpD_seq ?_
  refine wpD_region ?_
  refine p_box rfl rfl rfl rfl rfl rfl rfl (fun b1 => ?_)
  refine p_alloc htab rfl rfl rfl rfl rfl rfl rfl (fun b2 => ?_)
  refine ops_nil ?_
  refine then_normal ?_
  refine wpD_seq ?_
  refine wpD_seq ?_
  refine wpD_region ?_
  refine p_pure htab rfl rfl rfl rfl ?_
  refine p_load 0 htab rfl rfl rfl rfl rfl rfl rfl rfl ?_
  refine p_pure htab rfl rfl rfl rfl ?_
  refine ops_nil ?_
  refine then_normal ?_
  refine wpD_cond rfl (fun hc4 => ?_) (fun hc4 => ?_)
  · replace hm := yes_t hc4 hm
    refine wpD_seq ?_
    refine wpD_region ?_
    refine p_build (r := [.v (.bool false), .v (.int .i64 (0 : Int)), .v (.int .i64 (0 : Int))]) htab rfl rfl rfl rfl rfl rfl rfl rfl rfl ?_
    refine p_store (ds' := [.v (.bool false), .v (.int .i64 (0 : Int)), .v (.int .i64 (0 : Int))]) (h' := [(b1, Blk.cells [.v (.bool a0.gSome), .v (.int .i64 a0.gM), .v (.int .i64 a0.gR)] 23), (b2, Blk.cells [.v (.bool false), .v (.int .i64 (0 : Int)), .v (.int .i64 (0 : Int))] 23)]) 1 htab rfl rfl rfl rfl rfl rfl rfl rfl rfl rfl rfl rfl ?_
    refine ops_nil ?_
    refine then_normal ?_
    refine wpD_ret ?_
    refine then_ret ?_
    have er5 := yes_eq hm; subst er5
    refine retX.of (s' := ⟨[(2, .ptr b2 0)], [(b2, Blk.cells [.v (.bool false), .v (.int .i64 (0 : Int)), .v (.int .i64 (0 : Int))] 23)], []⟩) (WkS.perm (WkS.cons rfl (Wk.refl _) (WkS.nil)) ((perm_at (j := 1) rfl).trans (List.Perm.cons _ (List.Perm.refl _))) (List.Perm.refl _)) (retD_mk (hh := []) (.inl rfl) (resL_cons (resOne_cell 0 rfl rfl rfl rfl) (resL_nil)) (List.nil_sublist _) (List.Sublist.refl _) ?_)
    exact ⟨rfl, rfl, rfl⟩
  · replace hm := yes_f hc4 hm
    refine wpD_skip ?_
    refine then_normal ?_
    refine wpD_seq ?_
    refine wpD_region ?_
    refine p_pure htab rfl rfl rfl rfl ?_
    refine p_load 0 htab rfl rfl rfl rfl rfl rfl rfl rfl ?_
    refine p_pure htab rfl rfl rfl rfl ?_
    refine p_load 0 htab rfl rfl rfl rfl rfl rfl rfl rfl ?_
    obtain ⟨x6, q6, hm⟩ := yes_bind hm
    refine p_call0 (cong_Of_ok a0.gM a0.gR x6 q6) rfl rfl rfl rfl rfl (WkL.refl _) ?_
    rintro _ rfl
    refine p_store (ds' := [.v (.bool x6.gSome), .v (.int .i64 x6.gM), .v (.int .i64 x6.gR)]) (h' := [(b1, Blk.cells [.v (.bool a0.gSome), .v (.int .i64 a0.gM), .v (.int .i64 a0.gR)] 23), (b2, Blk.cells [.v (.bool x6.gSome), .v (.int .i64 x6.gM), .v (.int .i64 x6.gR)] 23)]) 1 htab rfl rfl rfl rfl rfl rfl rfl rfl rfl rfl rfl rfl ?_
    refine ops_nil ?_
    refine then_normal ?_
    refine wpD_ret ?_
    have er7 := yes_eq hm; subst er7
    refine retX.of (s' := ⟨[(2, .ptr b2 0)], [(b2, Blk.cells [.v (.bool x6.gSome), .v (.int .i64 x6.gM), .v (.int .i64 x6.gR)] 23)], []⟩) (WkS.perm (WkS.cons rfl (Wk.refl _) (WkS.nil)) ((perm_at (j := 1) rfl).trans (List.Perm.cons _ (List.Perm.refl _))) (List.Perm.refl _)) (retD_mk (hh := []) (.inl rfl) (resL_cons (resOne_cell 0 rfl rfl rfl rfl) (resL_nil)) (List.nil_sublist _) (List.Sublist.refl _) ?_)
    exact ⟨rfl, rfl, rfl⟩
noncomputable def cong_Has (a0 : TApiCong) (a1 : Int) : Option (Bool) :=
  ((cong_Clean a0).bind fun x2 => (bif x2.gSome then ((cong_Mod a1 x2.gM).bind fun x5 => some (x5 == x2.gR)) else some false))
set_option maxRecDepth 100000 in
set_option maxHeartbeats 2000000 in
theorem cong_Has_ok (a0 : TApiCong) (a1 : Int) (r : Bool) (h0 : cong_Has a0 a1 = some r) : CallsD Try.prog 47 [eTApiCong a0, .v (.int .i64 a1)] [] [] (fun d h k => d = .v (.bool r) ∧ h = [] ∧ k = []) := by
  have hm := yes_of h0
  unfold cong_Has at hm
  clear h0
  refine enterX htab Try.func47 rfl rfl rfl rfl rfl (fun C => ?_)
  refine wpD_seq ?_
  refine wpD_region ?_
  refine p_box rfl rfl rfl rfl rfl rfl rfl (fun b1 => ?_)
  refine p_pure htab rfl rfl rfl rfl ?_
  refine ops_nil ?_
  refine then_normal ?_
  refine wpD_seq ?_
  refine wpD_region ?_
  refine p_load (d := eTApiCong a0) 0 htab rfl rfl rfl rfl rfl rfl rfl rfl ?_
  obtain ⟨x2, q2, hm⟩ := yes_bind hm
  refine p_call0 (cong_Clean_ok a0 x2 q2) rfl rfl rfl rfl rfl (WkL.refl _) ?_
  rintro _ rfl
  refine p_alloc htab rfl rfl rfl rfl rfl rfl rfl (fun b3 => ?_)
  refine p_store (ds' := [.v (.bool x2.gSome), .v (.int .i64 x2.gM), .v (.int .i64 x2.gR)]) (h' := [(b1, Blk.cells [.v (.bool a0.gSome), .v (.int .i64 a0.gM), .v (.int .i64 a0.gR)] 23), (b3, Blk.cells [.v (.bool x2.gSome), .v (.int .i64 x2.gM), .v (.int .i64 x2.gR)] 23)]) 1 htab rfl rfl rfl rfl rfl rfl rfl rfl rfl rfl rfl rfl ?_
  refine ops_nil ?_
  refine then_normal ?_
  refine wpD_seq ?_
  refine bycB x2.gSome (fun hs4 => ?_) (fun hs4 => ?_)
  · replace hm := yes_t hs4 hm
    obtain ⟨x5, q5, hm⟩ := yes_bind hm
    refine wpD_draws 9 [] [[],[0],[0],[0],[0],[0,4],[0,4],[0],[0,7]] [0,4,6,7] [[],[0],[0,1],[0,1,2],[0,1,2],[0,1,2,4],[0,1,2,3,4,5],[0,1,2],[0,1,2,7],[0,1,2,3,4,5,6,7,8],[0,1,2,3,4,5,6,7,8,9],[0,1,2,3,4,5,6,7,8,9,10]] (by kernel_rfl) (by kernel_rfl) (by kernel_rfl) (by rfl) (by rfl) (by kernel_rfl) ?_
    apply Exists.intro
    apply Exists.intro
    apply Exists.intro
    apply Exists.intro
    intro bs
    refine z_e rfl rfl (ex_pure htab rfl) rfl rfl rfl rfl rfl rfl ?_
    refine z_qM rfl rfl (xm_load 1 htab rfl rfl rfl rfl rfl) rfl rfl rfl rfl rfl rfl ?_
    refine z_q rfl rfl (ex_pure htab rfl) rfl rfl rfl rfl rfl rfl ?_
    refine z_known (j := 10) (b' := true) rfl hs4 ?_
    refine z_q rfl rfl (ex_pure htab rfl) rfl rfl rfl rfl rfl rfl ?_
    refine z_e rfl rfl (ex_pure htab rfl) rfl rfl rfl rfl rfl rfl ?_
    refine z_qM rfl rfl (xm_load 1 htab rfl rfl rfl rfl rfl) rfl rfl rfl rfl rfl rfl ?_
    refine z_call rfl rfl (cong_Mod_ok a1 x2.gM x5 q5) rfl rfl (WkL.refl _) rfl rfl rfl rfl rfl rfl ?_
    refine z_e rfl rfl (ex_pure htab rfl) rfl rfl rfl rfl rfl rfl ?_
    refine z_qM rfl rfl (xm_load 1 htab rfl rfl rfl rfl rfl) rfl rfl rfl rfl rfl rfl ?_
    refine z_nil rfl rfl (fun e he => by simp [isAl] at he) ?_
    refine p_pure htab rfl rfl rfl rfl ?_
    refine p_pickT rfl rfl rfl rfl rfl rfl ?_
    refine p_pure htab rfl rfl rfl rfl ?_
    refine ops_nil ?_
    refine then_normal ?_
    refine wpD_ret ?_
    have er6 := yes_eq hm; subst er6
    refine retX.of (s' := ⟨[(4, .v (.bool (x5 == x2.gR)))], [], []⟩) (WkS.perm (WkS.cons rfl (Wk.refl _) (WkS.nil)) (List.Perm.refl _) (List.Perm.refl _)) (retD_mk (hh := []) (.inl rfl) (resL_cons (resOne_tmp rfl) (resL_nil)) (List.nil_sublist _) (List.Sublist.refl _) ?_)
    exact ⟨rfl, rfl, rfl⟩
  · replace hm := yes_f hs4 hm
    refine wpD_draws 9 [] [[],[0],[0],[0],[0],[0],[0],[0],[0]] [0] [[],[0],[0,1],[0,1,2],[0,1,2],[0,1,2,4],[0,1,2,3,4,5],[0,1,2],[0,1,2,7],[0,1,2,3,4,5,6,7,8],[0,1,2,3,4,5,6,7,8,9],[0,1,2,3,4,5,6,7,8,9,10]] (by kernel_rfl) (by kernel_rfl) (by kernel_rfl) (by rfl) (by rfl) (by kernel_rfl) ?_
    apply Exists.intro
    intro bs
    refine z_e rfl rfl (ex_pure htab rfl) rfl rfl rfl rfl rfl rfl ?_
    refine z_qM rfl rfl (xm_load 1 htab rfl rfl rfl rfl rfl) rfl rfl rfl rfl rfl rfl ?_
    refine z_q rfl rfl (ex_pure htab rfl) rfl rfl rfl rfl rfl rfl ?_
    refine z_known (j := 10) (b' := false) rfl hs4 ?_
    refine z_skip rfl rfl rfl rfl ?_
    refine z_skip rfl rfl rfl rfl ?_
    refine z_skip rfl rfl rfl rfl ?_
    refine z_skip rfl rfl rfl rfl ?_
    refine z_skip rfl rfl rfl rfl ?_
    refine z_skip rfl rfl rfl rfl ?_
    refine z_nil rfl rfl (fun e he => by simp [isAl] at he) ?_
    refine p_skip rfl rfl rfl ?_
    refine p_pickF rfl rfl rfl rfl rfl rfl ?_
    refine p_pure htab rfl rfl rfl rfl ?_
    refine ops_nil ?_
    refine then_normal ?_
    refine wpD_ret ?_
    have er7 := yes_eq hm; subst er7
    refine retX.of (s' := ⟨[(4, .v (.bool false))], [], []⟩) (WkS.perm (WkS.cons rfl (Wk.refl _) (WkS.nil)) (List.Perm.refl _) (List.Perm.refl _)) (retD_mk (hh := []) (.inl rfl) (resL_cons (resOne_tmp rfl) (resL_nil)) (List.nil_sublist _) (List.Sublist.refl _) ?_)
    exact ⟨rfl, rfl, rfl⟩
noncomputable def r05_rest (a0 : Int) (a1 : Int) : Option (Int) :=
  ((need (a1 != 0)).bind fun x1 => (bif (decide ((a0.tmod a1) < (0 : Int))) then some (IntKind.i64.wrap ((a0.tmod a1) + a1)) else some (a0.tmod a1)))
set_option maxRecDepth 100000 in
set_option maxHeartbeats 2000000 in
theorem r05_rest_ok (a0 : Int) (a1 : Int) (r : Int) (h0 : r05_rest a0 a1 = some r) : CallsD Try.prog 43 [.v (.int .i64 a0), .v (.int .i64 a1)] [] [] (fun d h k => d = .v (.int .i64 r) ∧ h = [] ∧ k = []) := by
  have hm := yes_of h0
  unfold r05_rest at hm
  clear h0
  refine enterX htab Try.func43 rfl rfl rfl rfl rfl (fun C => ?_)
  refine wpD_seq ?_
  refine wpD_region ?_
  refine p_pure htab rfl rfl rfl rfl ?_
  refine ops_nil ?_
  refine then_normal ?_
  refine wpD_seq ?_
  refine wpD_region ?_
  refine p_pure htab rfl rfl rfl rfl ?_
  refine p_pure htab rfl rfl rfl rfl ?_
  obtain ⟨x1, q1, hm⟩ := yes_bind hm
  refine p_div rfl rfl rfl rfl rfl rfl rfl (by simpa using need_ok q1) ?_
  refine p_pure htab rfl rfl rfl rfl ?_
  refine ops_nil ?_
  refine then_normal ?_
  refine wpD_seq ?_
  refine wpD_seq ?_
  refine wpD_region ?_
  refine p_pure htab rfl rfl rfl rfl ?_
  refine p_pure htab rfl rfl rfl rfl ?_
  refine ops_nil ?_
  refine then_normal ?_
  refine wpD_cond rfl (fun hc2 => ?_) (fun hc2 => ?_)
  · replace hm := yes_t hc2 hm
    refine wpD_seq ?_
    refine wpD_region ?_
    refine p_pure htab rfl rfl rfl rfl ?_
    refine p_pure htab rfl rfl rfl rfl ?_
    refine p_pure htab rfl rfl rfl rfl ?_
    refine p_pure htab rfl rfl rfl rfl ?_
    refine ops_nil ?_
    refine then_normal ?_
    refine wpD_ret ?_
    refine then_ret ?_
    have er3 := yes_eq hm; subst er3
    refine retX.of (s' := ⟨[(4, .v (.int .i64 (IntKind.i64.wrap ((a0.tmod a1) + a1))))], [], []⟩) (WkS.perm (WkS.cons rfl (Wk.refl _) (WkS.nil)) (List.Perm.refl _) (List.Perm.refl _)) (retD_mk (hh := []) (.inl rfl) (resL_cons (resOne_tmp rfl) (resL_nil)) (List.nil_sublist _) (List.Sublist.refl _) ?_)
    exact ⟨rfl, rfl, rfl⟩
  · replace hm := yes_f hc2 hm
    refine wpD_skip ?_
    refine then_normal ?_
    refine wpD_seq ?_
    refine wpD_region ?_
    refine p_pure htab rfl rfl rfl rfl ?_
    refine p_pure htab rfl rfl rfl rfl ?_
    refine ops_nil ?_
    refine then_normal ?_
    refine wpD_ret ?_
    have er4 := yes_eq hm; subst er4
    refine retX.of (s' := ⟨[(4, .v (.int .i64 (a0.tmod a1)))], [], []⟩) (WkS.perm (WkS.cons rfl (Wk.refl _) (WkS.nil)) (List.Perm.refl _) (List.Perm.refl _)) (retD_mk (hh := []) (.inl rfl) (resL_cons (resOne_tmp rfl) (resL_nil)) (List.nil_sublist _) (List.Sublist.refl _) ?_)
    exact ⟨rfl, rfl, rfl⟩
noncomputable def r05_Clean (a0 : TApiCong) : Option (TApiCong) :=
  (bif (!a0.gSome) then some (⟨false, (0 : Int), (0 : Int)⟩ : TApiCong) else (Option.bind (α := Int) (bif (decide (a0.gM < (0 : Int))) then some (1 : Int) else some a0.gM) fun y7 => (bif (y7 == (0 : Int)) then some (⟨true, (0 : Int), a0.gR⟩ : TApiCong) else ((r05_rest a0.gR y7).bind fun x12 => some (⟨true, y7, x12⟩ : TApiCong)))))
set_option maxRecDepth 100000 in
set_option maxHeartbeats 2000000 in
theorem r05_Clean_ok (a0 : TApiCong) (r : TApiCong) (h0 : r05_Clean a0 = some r) : CallsD Try.prog 24 [eTApiCong a0] [] [] (fun d h k => d = eTApiCong r ∧ h = [] ∧ k = []) := by
  have hm := yes_of h0
  unfold r05_Clean at hm
  clear h0
  refine enterX htab Try.func24 rfl rfl rfl rfl rfl (fun C => ?_)
  refine wpD_seq ?_
  refine wpD_region ?_
  refine p_box rfl rfl rfl rfl rfl rfl rfl (fun b1 => ?_)
  refine p_alloc htab rfl rfl rfl rfl rfl rfl rfl (fun b2 => ?_)
  refine ops_nil ?_
  refine then_normal ?_
  refine wpD_seq ?_
  refine wpD_seq ?_
  refine wpD_region ?_
  refine p_pure htab rfl rfl rfl rfl ?_
  refine p_load 0 htab rfl rfl rfl rfl rfl rfl rfl rfl ?_
  refine p_pure htab rfl rfl rfl rfl ?_
  refine ops_nil ?_
  refine then_normal ?_
  refine wpD_cond rfl (fun hc4 => ?_) (fun hc4 => ?_)
  · replace hm := yes_t hc4 hm
    refine wpD_seq ?_
    refine wpD_region ?_
    refine p_build (r := [.v (.bool false), .v (.int .i64 (0 : Int)), .v (.int .i64 (0 : Int))]) htab rfl rfl rfl rfl rfl rfl rfl rfl rfl ?_
    refine p_store (ds' := [.v (.bool false), .v (.int .i64 (0 : Int)), .v (.int .i64 (0 : Int))]) (h' := [(b1, Blk.cells [.v (.bool a0.gSome), .v (.int .i64 a0.gM), .v (.int .i64 a0.gR)] 23), (b2, Blk.cells [.v (.bool false), .v (.int .i64 (0 : Int)), .v (.int .i64 (0 : Int))] 23)]) 1 htab rfl rfl rfl rfl rfl rfl rfl rfl rfl rfl rfl rfl ?_
    refine ops_nil ?_
    refine then_normal ?_
    refine wpD_ret ?_
    refine then_ret ?_
    have er5 := yes_eq hm; subst er5
    refine retX.of (s' := ⟨[(2, .ptr b2 0)], [(b2, Blk.cells [.v (.bool false), .v (.int .i64 (0 : Int)), .v (.int .i64 (0 : Int))] 23)], []⟩) (WkS.perm (WkS.cons rfl (Wk.refl _) (WkS.nil)) ((perm_at (j := 1) rfl).trans (List.Perm.cons _ (List.Perm.refl _))) (List.Perm.refl _)) (retD_mk (hh := []) (.inl rfl) (resL_cons (resOne_cell 0 rfl rfl rfl rfl) (resL_nil)) (List.nil_sublist _) (List.Sublist.refl _) ?_)
    exact ⟨rfl, rfl, rfl⟩
  · replace hm := yes_f hc4 hm
    refine wpD_skip ?_
    refine then_normal ?_
    refine wpD_seq ?_
    refine wpD_region ?_
    refine p_pure htab rfl rfl rfl rfl ?_
    refine p_load 0 htab rfl rfl rfl rfl rfl rfl rfl rfl ?_
    refine p_pure htab rfl rfl rfl rfl ?_
    refine ops_nil ?_
    refine then_normal ?_
    refine wpD_seq ?_
    refine wpD_seq ?_
    refine wpD_region ?_
    refine p_pure htab rfl rfl rfl rfl ?_
    refine p_pure htab rfl rfl rfl rfl ?_
    refine ops_nil ?_
    refine then_normal ?_
    obtain ⟨y7, q7, ho7⟩ := yes_bind hm
    refine wpD_mid (Y := Unit) (fun z7 => (⟨[(1, .ptr b1 0), (2, .ptr b2 0), (3, .v (.int .i64 y7))], [(b1, Blk.cells [.v (.bool a0.gSome), .v (.int .i64 a0.gM), .v (.int .i64 a0.gR)] 23), (b2, Blk.cells [.v (.bool false), .v (.int .i64 (0 : Int)), .v (.int .i64 (0 : Int))] 23)], []⟩ : S)) ?_ ?_
    · clear hm; have hm := yes_of q7
      refine wpD_cond rfl (fun hc8 => ?_) (fun hc8 => ?_)
      · replace hm := yes_t hc8 hm
        refine wpD_region ?_
        refine p_pure htab rfl rfl rfl rfl ?_
        refine ops_nil ?_
        have e7 := yes_eq hm; subst e7
        refine ⟨rfl, ?_⟩
        exact WkX.of () (WkS.perm (WkS.cons rfl (Wk.refl _) (WkS.cons rfl (Wk.refl _) (WkS.cons rfl (Wk.refl _) (WkS.nil)))) (List.Perm.refl _) (List.Perm.refl _))
      · replace hm := yes_f hc8 hm
        refine wpD_skip ?_
        have e7 := yes_eq hm; subst e7
        refine ⟨rfl, ?_⟩
        exact WkX.of () (WkS.perm (WkS.cons rfl (Wk.refl _) (WkS.cons rfl (Wk.refl _) (WkS.cons rfl (Wk.refl _) (WkS.nil)))) (List.Perm.refl _) (List.Perm.refl _))
    · intro s7 hw7; clear hm; have hm := ho7; clear q7 ho7
      refine then_normal ?_
      refine wpD_wkX hw7 (fun z7 => ?_)
      refine wpD_seq ?_
      refine wpD_seq ?_
      refine wpD_region ?_
      refine p_pure htab rfl rfl rfl rfl ?_
      refine p_pure htab rfl rfl rfl rfl ?_
      refine ops_nil ?_
      refine then_normal ?_
      refine wpD_cond rfl (fun hc10 => ?_) (fun hc10 => ?_)
      · replace hm := yes_t hc10 hm
        refine wpD_seq ?_
        refine wpD_region ?_
        refine p_pure htab rfl rfl rfl rfl ?_
        refine p_load 0 htab rfl rfl rfl rfl rfl rfl rfl rfl ?_
        refine p_build (r := [.v (.bool true), .v (.int .i64 (0 : Int)), .v (.int .i64 a0.gR)]) htab rfl rfl rfl rfl rfl rfl rfl rfl rfl ?_
        refine p_store (ds' := [.v (.bool true), .v (.int .i64 (0 : Int)), .v (.int .i64 a0.gR)]) (h' := [(b1, Blk.cells [.v (.bool a0.gSome), .v (.int .i64 a0.gM), .v (.int .i64 a0.gR)] 23), (b2, Blk.cells [.v (.bool true), .v (.int .i64 (0 : Int)), .v (.int .i64 a0.gR)] 23)]) 1 htab rfl rfl rfl rfl rfl rfl rfl rfl rfl rfl rfl rfl ?_
        refine ops_nil ?_
        refine then_normal ?_
        refine wpD_ret ?_
        refine then_ret ?_
        have er11 := yes_eq hm; subst er11
        refine retX.of (s' := ⟨[(2, .ptr b2 0)], [(b2, Blk.cells [.v (.bool true), .v (.int .i64 (0 : Int)), .v (.int .i64 a0.gR)] 23)], []⟩) (WkS.perm (WkS.cons rfl (Wk.refl _) (WkS.nil)) ((perm_at (j := 1) rfl).trans (List.Perm.cons _ (List.Perm.refl _))) (List.Perm.refl _)) (retD_mk (hh := []) (.inl rfl) (resL_cons (resOne_cell 0 rfl rfl rfl rfl) (resL_nil)) (List.nil_sublist _) (List.Sublist.refl _) ?_)
        exact ⟨rfl, rfl, rfl⟩
      · replace hm := yes_f hc10 hm
        refine wpD_skip ?_
        refine then_normal ?_
        refine wpD_seq ?_
        refine wpD_region ?_
        refine p_pure htab rfl rfl rfl rfl ?_
        refine p_pure htab rfl rfl rfl rfl ?_
        refine p_load 0 htab rfl rfl rfl rfl rfl rfl rfl rfl ?_
        refine p_pure htab rfl rfl rfl rfl ?_
        obtain ⟨x12, q12, hm⟩ := yes_bind hm
        refine p_call0 (r05_rest_ok a0.gR y7 x12 q12) rfl rfl rfl rfl rfl (WkL.refl _) ?_
        rintro _ rfl
        refine p_build (r := [.v (.bool true), .v (.int .i64 y7), .v (.int .i64 x12)]) htab rfl rfl rfl rfl rfl rfl rfl rfl rfl ?_
        refine p_store (ds' := [.v (.bool true), .v (.int .i64 y7), .v (.int .i64 x12)]) (h' := [(b1, Blk.cells [.v (.bool a0.gSome), .v (.int .i64 a0.gM), .v (.int .i64 a0.gR)] 23), (b2, Blk.cells [.v (.bool true), .v (.int .i64 y7), .v (.int .i64 x12)] 23)]) 1 htab rfl rfl rfl rfl rfl rfl rfl rfl rfl rfl rfl rfl ?_
        refine ops_nil ?_
        refine then_normal ?_
        refine wpD_ret ?_
        have er13 := yes_eq hm; subst er13
        refine retX.of (s' := ⟨[(2, .ptr b2 0)], [(b2, Blk.cells [.v (.bool true), .v (.int .i64 y7), .v (.int .i64 x12)] 23)], []⟩) (WkS.perm (WkS.cons rfl (Wk.refl _) (WkS.nil)) ((perm_at (j := 1) rfl).trans (List.Perm.cons _ (List.Perm.refl _))) (List.Perm.refl _)) (retD_mk (hh := []) (.inl rfl) (resL_cons (resOne_cell 0 rfl rfl rfl rfl) (resL_nil)) (List.nil_sublist _) (List.Sublist.refl _) ?_)
        exact ⟨rfl, rfl, rfl⟩
noncomputable def r05_Has (a0 : TApiCong) (a1 : Int) : Option (Bool) :=
  ((r05_Clean a0).bind fun x2 => (bif (!x2.gSome) then some false else (bif (x2.gM == (0 : Int)) then some (a1 == x2.gR) else ((r05_rest a1 x2.gM).bind fun x9 => some (x9 == x2.gR)))))
set_option maxRecDepth 100000 in
set_option maxHeartbeats 2000000 in
theorem r05_Has_ok (a0 : TApiCong) (a1 : Int) (r : Bool) (h0 : r05_Has a0 a1 = some r) : CallsD Try.prog 10 [eTApiCong a0, .v (.int .i64 a1)] [] [] (fun d h k => d = .v (.bool r) ∧ h = [] ∧ k = []) := by
  have hm := yes_of h0
  unfold r05_Has at hm
  clear h0
  refine enterX htab Try.func10 rfl rfl rfl rfl rfl (fun C => ?_)
  refine wpD_seq ?_
  refine wpD_region ?_
  refine p_box rfl rfl rfl rfl rfl rfl rfl (fun b1 => ?_)
  refine p_pure htab rfl rfl rfl rfl ?_
  refine ops_nil ?_
  refine then_normal ?_
  refine wpD_seq ?_
  refine wpD_region ?_
  refine p_load (d := eTApiCong a0) 0 htab rfl rfl rfl rfl rfl rfl rfl rfl ?_
  obtain ⟨x2, q2, hm⟩ := yes_bind hm
  refine p_call0 (r05_Clean_ok a0 x2 q2) rfl rfl rfl rfl rfl (WkL.refl _) ?_
  rintro _ rfl
  refine p_store (ds' := [.v (.bool x2.gSome), .v (.int .i64 x2.gM), .v (.int .i64 x2.gR)]) (h' := [(b1, Blk.cells [.v (.bool x2.gSome), .v (.int .i64 x2.gM), .v (.int .i64 x2.gR)] 23)]) 0 htab rfl rfl rfl rfl rfl rfl rfl rfl rfl rfl rfl rfl ?_
  refine ops_nil ?_
  refine then_normal ?_
  refine wpD_seq ?_
  refine wpD_seq ?_
  refine wpD_region ?_
  refine p_pure htab rfl rfl rfl rfl ?_
  refine p_load 0 htab rfl rfl rfl rfl rfl rfl rfl rfl ?_
  refine p_pure htab rfl rfl rfl rfl ?_
  refine ops_nil ?_
  refine then_normal ?_
  refine wpD_cond rfl (fun hc4 => ?_) (fun hc4 => ?_)
  · replace hm := yes_t hc4 hm
    refine wpD_seq ?_
    refine wpD_region ?_
    refine p_pure htab rfl rfl rfl rfl ?_
    refine ops_nil ?_
    refine then_normal ?_
    refine wpD_ret ?_
    refine then_ret ?_
    have er5 := yes_eq hm; subst er5
    refine retX.of (s' := ⟨[(4, .v (.bool false))], [], []⟩) (WkS.perm (WkS.cons rfl (Wk.refl _) (WkS.nil)) (List.Perm.refl _) (List.Perm.refl _)) (retD_mk (hh := []) (.inl rfl) (resL_cons (resOne_tmp rfl) (resL_nil)) (List.nil_sublist _) (List.Sublist.refl _) ?_)
    exact ⟨rfl, rfl, rfl⟩
  · replace hm := yes_f hc4 hm
    refine wpD_skip ?_
    refine then_normal ?_
    refine wpD_seq ?_
    refine wpD_seq ?_
    refine wpD_region ?_
    refine p_pure htab rfl rfl rfl rfl ?_
    refine p_load 0 htab rfl rfl rfl rfl rfl rfl rfl rfl ?_
    refine p_pure htab rfl rfl rfl rfl ?_
    refine ops_nil ?_
    refine then_normal ?_
    refine wpD_cond rfl (fun hc7 => ?_) (fun hc7 => ?_)
    · replace hm := yes_t hc7 hm
      refine wpD_seq ?_
      refine wpD_region ?_
      refine p_pure htab rfl rfl rfl rfl ?_
      refine p_pure htab rfl rfl rfl rfl ?_
      refine p_load 0 htab rfl rfl rfl rfl rfl rfl rfl rfl ?_
      refine p_pure htab rfl rfl rfl rfl ?_
      refine p_pure htab rfl rfl rfl rfl ?_
      refine ops_nil ?_
      refine then_normal ?_
      refine wpD_ret ?_
      refine then_ret ?_
      have er8 := yes_eq hm; subst er8
      refine retX.of (s' := ⟨[(4, .v (.bool (a1 == x2.gR)))], [], []⟩) (WkS.perm (WkS.cons rfl (Wk.refl _) (WkS.nil)) (List.Perm.refl _) (List.Perm.refl _)) (retD_mk (hh := []) (.inl rfl) (resL_cons (resOne_tmp rfl) (resL_nil)) (List.nil_sublist _) (List.Sublist.refl _) ?_)
      exact ⟨rfl, rfl, rfl⟩
    · replace hm := yes_f hc7 hm
      refine wpD_skip ?_
      refine then_normal ?_
      refine wpD_seq ?_
      obtain ⟨x9, q9, hm⟩ := yes_bind hm
      refine wpD_draws 6 [] [[],[],[1],[1],[],[4]] [1,3,4] [[],[],[1],[0,1,2],[],[4],[0,1,2,3,4,5],[0,1,2,3,4,5,6]] (by kernel_rfl) (by kernel_rfl) (by kernel_rfl) (by rfl) (by rfl) (by kernel_rfl) ?_
      apply Exists.intro
      apply Exists.intro
      apply Exists.intro
      intro bs
      refine z_q rfl rfl (ex_pure htab rfl) rfl rfl rfl rfl rfl rfl ?_
      refine z_e rfl rfl (ex_pure htab rfl) rfl rfl rfl rfl rfl rfl ?_
      refine z_qM rfl rfl (xm_load 0 htab rfl rfl rfl rfl rfl) rfl rfl rfl rfl rfl rfl ?_
      refine z_call rfl rfl (r05_rest_ok a1 x2.gM x9 q9) rfl rfl (WkL.refl _) rfl rfl rfl rfl rfl rfl ?_
      refine z_e rfl rfl (ex_pure htab rfl) rfl rfl rfl rfl rfl rfl ?_
      refine z_qM rfl rfl (xm_load 0 htab rfl rfl rfl rfl rfl) rfl rfl rfl rfl rfl rfl ?_
      refine z_nil rfl rfl (fun e he => by simp [isAl] at he) ?_
      refine p_pure htab rfl rfl rfl rfl ?_
      refine p_pure htab rfl rfl rfl rfl ?_
      refine ops_nil ?_
      refine then_normal ?_
      refine wpD_ret ?_
      have er10 := yes_eq hm; subst er10
      refine retX.of (s' := ⟨[(4, .v (.bool (x9 == x2.gR)))], [], []⟩) (WkS.perm (WkS.cons rfl (Wk.refl _) (WkS.nil)) (List.Perm.refl _) (List.Perm.refl _)) (retD_mk (hh := []) (.inl rfl) (resL_cons (resOne_tmp rfl) (resL_nil)) (List.nil_sublist _) (List.Sublist.refl _) ?_)
      exact ⟨rfl, rfl, rfl⟩
noncomputable def r05_Gcd (a0 : Int) (a1 : Int) : Option (Int) :=
  (Option.bind (α := Int × Int) (loopM (fun (s25 : Int × Int) => (Option.bind (α := Bool) (bif (s25.1 != (0 : Int)) then some (s25.2 != (0 : Int)) else some false) fun y41 => (bif y41 then (bif (decide (s25.2 ≤ s25.1)) then ((need (s25.2 != 0)).bind fun x45 => some (.next ((s25.1.tmod s25.2), s25.2))) else ((need (s25.1 != 0)).bind fun x46 => some (.next (s25.1, (s25.2.tmod s25.1))))) else some (.done (s25.1, s25.2))))) (a0, a1)) fun y24 => some (IntKind.u64.wrap (y24.1 + y24.2)))
set_option maxRecDepth 100000 in
set_option maxHeartbeats 2000000 in
theorem r05_Gcd_ok (a0 : Int) (a1 : Int) (r : Int) (h0 : r05_Gcd a0 a1 = some r) : CallsD Try.prog 33 [.v (.int .u64 a0), .v (.int .u64 a1)] [] [] (fun d h k => d = .v (.int .u64 r) ∧ h = [] ∧ k = []) := by
  have hm := yes_of h0
  unfold r05_Gcd at hm
  clear h0
  refine enterX htab Try.func33 rfl rfl rfl rfl rfl (fun C => ?_)
  refine wpD_seq ?_
  refine wpD_region ?_
  refine p_pure htab rfl rfl rfl rfl ?_
  refine ops_nil ?_
  refine then_normal ?_
  refine wpD_seq ?_
  obtain ⟨y24, q24, ho24⟩ := yes_bind hm
  refine wpD_mid (Y := Unit) (fun z24 => (⟨[(0, .v (.int .u64 y24.1)), (1, .v (.int .u64 y24.2))], [], []⟩ : S)) ?_ ?_
  · clear hm; have hm := yes_of q24
    refine wpD_block ?_
    obtain ⟨u25, hl25, hq25⟩ := yes_m hm
    refine loop_M (Y := Unit) hl25 (fun s25 z25 => (⟨[(0, .v (.int .u64 s25.1)), (1, .v (.int .u64 s25.2))], [], []⟩ : S)) ?_ ?_
    · skip
      exact WkX.of () (WkS.perm (WkS.cons rfl (Wk.refl _) (WkS.cons rfl (Wk.refl _) (WkS.nil))) (List.Perm.refl _) (List.Perm.refl _))
    · intro G25 s25 z25 hm
      refine wpD_seq ?_
      refine wpD_seq ?_
      obtain ⟨y41, q41, ho41⟩ := yes_bind hm
      refine wpD_mid (Y := Unit) (fun z41 => (⟨[(0, .v (.int .u64 s25.1)), (1, .v (.int .u64 s25.2)), (10, .v (.bool y41))], [], []⟩ : S)) ?_ ?_
      · clear hm; have hm := yes_of q41
        refine wpD_region ?_
        refine p_pure htab rfl rfl rfl rfl ?_
        refine p_pure htab rfl rfl rfl rfl ?_
        refine p_pure htab rfl rfl rfl rfl ?_
        refine p_split (i := 7) rfl (fun hg42 => ?_) (fun hg42 => ?_)
        · replace hm := yes_t hg42 hm
          refine p_pure htab rfl rfl rfl rfl ?_
          refine p_pure htab rfl rfl rfl rfl ?_
          refine p_pickT rfl rfl rfl rfl rfl rfl ?_
          refine ops_nil ?_
          have e41 := yes_eq hm; subst e41
          refine ⟨rfl, ?_⟩
          exact WkX.of () (WkS.perm (WkS.cons rfl (Wk.refl _) (WkS.cons rfl (Wk.refl _) (WkS.cons rfl (Wk.refl _) (WkS.nil)))) (List.Perm.refl _) (List.Perm.refl _))
        · replace hm := yes_f hg42 hm
          refine p_skip rfl rfl rfl ?_
          refine p_skip rfl rfl rfl ?_
          refine p_pickF rfl rfl rfl rfl rfl rfl ?_
          refine ops_nil ?_
          have e41 := yes_eq hm; subst e41
          refine ⟨rfl, ?_⟩
          exact WkX.of () (WkS.perm (WkS.cons rfl (Wk.refl _) (WkS.cons rfl (Wk.refl _) (WkS.cons rfl (Wk.refl _) (WkS.nil)))) (List.Perm.refl _) (List.Perm.refl _))
      · intro s41 hw41; clear hm; have hm := ho41; clear q41 ho41
        refine then_normal ?_
        refine wpD_wkX hw41 (fun z41 => ?_)
        refine wpD_cond rfl (fun hc43 => ?_) (fun hc43 => ?_)
        · replace hm := yes_t hc43 hm
          refine wpD_skip ?_
          refine then_normal ?_
          refine wpD_block ?_
          refine wpD_seq ?_
          refine wpD_region ?_
          refine p_pure htab rfl rfl rfl rfl ?_
          refine p_pure htab rfl rfl rfl rfl ?_
          refine p_pure htab rfl rfl rfl rfl ?_
          refine ops_nil ?_
          refine then_normal ?_
          refine wpD_cond rfl (fun hc44 => ?_) (fun hc44 => ?_)
          · replace hm := yes_t hc44 hm
            refine wpD_region ?_
            refine p_pure htab rfl rfl rfl rfl ?_
            refine p_pure htab rfl rfl rfl rfl ?_
            obtain ⟨x45, q45, hm⟩ := yes_bind hm
            refine p_div rfl rfl rfl rfl rfl rfl rfl (by simpa using need_ok q45) ?_
            refine p_pure htab rfl rfl rfl rfl ?_
            refine ops_nil ?_
            refine block_normal ?_
            refine then_normal ⟨_, lp_next hm, ?_⟩
            exact WkX.of () (WkS.perm (WkS.cons rfl (Wk.refl _) (WkS.cons rfl (Wk.refl _) (WkS.nil))) (List.Perm.refl _) (List.Perm.refl _))
          · replace hm := yes_f hc44 hm
            refine wpD_region ?_
            refine p_pure htab rfl rfl rfl rfl ?_
            refine p_pure htab rfl rfl rfl rfl ?_
            obtain ⟨x46, q46, hm⟩ := yes_bind hm
            refine p_div rfl rfl rfl rfl rfl rfl rfl (by simpa using need_ok q46) ?_
            refine p_pure htab rfl rfl rfl rfl ?_
            refine ops_nil ?_
            refine block_normal ?_
            refine then_normal ⟨_, lp_next hm, ?_⟩
            exact WkX.of () (WkS.perm (WkS.cons rfl (Wk.refl _) (WkS.cons rfl (Wk.refl _) (WkS.nil))) (List.Perm.refl _) (List.Perm.refl _))
        · replace hm := yes_f hc43 hm
          refine wpD_exit ?_
          refine then_exit ?_
          have e25 := lp_done hm; subst e25; clear hm; have hm := hq25
          refine then_exit ?_
          refine block_hit ?_
          have e24 := yes_eq hm; subst e24
          refine ⟨rfl, ?_⟩
          exact WkX.of () (WkS.perm (WkS.cons rfl (Wk.refl _) (WkS.cons rfl (Wk.refl _) (WkS.nil))) (List.Perm.refl _) (List.Perm.refl _))
  · intro s24 hw24; clear hm; have hm := ho24; clear q24 ho24
    refine then_normal ?_
    refine wpD_wkX hw24 (fun z24 => ?_)
    refine wpD_seq ?_
    refine wpD_region ?_
    refine p_pure htab rfl rfl rfl rfl ?_
    refine p_pure htab rfl rfl rfl rfl ?_
    refine p_pure htab rfl rfl rfl rfl ?_
    refine p_pure htab rfl rfl rfl rfl ?_
    refine ops_nil ?_
    refine then_normal ?_
    refine wpD_ret ?_
    have er47 := yes_eq hm; subst er47
    refine retX.of (s' := ⟨[(4, .v (.int .u64 (IntKind.u64.wrap (y24.1 + y24.2))))], [], []⟩) (WkS.perm (WkS.cons rfl (Wk.refl _) (WkS.nil)) (List.Perm.refl _) (List.Perm.refl _)) (retD_mk (hh := []) (.inl rfl) (resL_cons (resOne_tmp rfl) (resL_nil)) (List.nil_sublist _) (List.Sublist.refl _) ?_)
    exact ⟨rfl, rfl, rfl⟩
noncomputable def wide_best (a0 : TApiWide) (a1 : Int) (a2 : List TApiWide) : Option (TApiWide) :=
  (Option.bind (α := Int × Int) (loopM (fun (s21 : Int × Int × Int) => (bif (decide (s21.1 < (a2.length : Int))) then ((idx a2 s21.1).bind fun x33 => ((need (pWW x33 (⟨s21.2.1, s21.2.2⟩ : TApiWide))).bind fun x35 => (bif ((wCmp x33 (⟨s21.2.1, s21.2.2⟩ : TApiWide)) == a1) then some (.next ((IntKind.i64.wrap (s21.1 + (1 : Int))), x33.gHi, x33.gLo)) else some (.next ((IntKind.i64.wrap (s21.1 + (1 : Int))), s21.2.1, s21.2.2))))) else some (.done (s21.2.1, s21.2.2)))) ((0 : Int), a0.gHi, a0.gLo)) fun y20 => some (⟨y20.1, y20.2⟩ : TApiWide))
set_option maxRecDepth 100000 in
set_option maxHeartbeats 2000000 in
theorem wide_best_ok (a0 : TApiWide) (a1 : Int) (a2 : List TApiWide) (r : TApiWide) (h0 : wide_best a0 a1 a2 = some r) : CallsD Try.prog 86 [eTApiWide a0, .v (.int .i64 a1), .lst 2 (a2.map eTApiWide) .no] [] [] (fun d h k => d = eTApiWide r ∧ h = [] ∧ k = []) := by
  have hm := yes_of h0
  unfold wide_best at hm
  clear h0
  refine enterX htab Try.func86 rfl rfl rfl rfl rfl (fun C => ?_)
  refine wpD_seq ?_
  refine wpD_region ?_
  refine p_box rfl rfl rfl rfl rfl rfl rfl (fun b1 => ?_)
  refine p_alloc htab rfl rfl rfl rfl rfl rfl rfl (fun b2 => ?_)
  refine ops_nil ?_
  refine then_normal ?_
  refine wpD_seq ?_
  refine wpD_seq ?_
  refine wpD_region ?_
  refine p_pure htab rfl rfl rfl rfl ?_
  refine p_lenL htab rfl rfl rfl rfl rfl rfl rfl (by first | exact map_len | rfl) ?_
  refine p_pure htab rfl rfl rfl rfl ?_
  refine ops_nil ?_
  refine then_normal ?_
  obtain ⟨y20, q20, ho20⟩ := yes_bind hm
  refine wpD_mid (Y := Unit) (fun z20 => (⟨[(3, .ptr b1 0), (6, .ptr b2 0)], [(b1, Blk.cells [.v (.int .i64 y20.1), .v (.int .u64 y20.2)] 54), (b2, Blk.cells [.v (.int .i64 (0 : Int)), .v (.int .u64 (0 : Int))] 54)], []⟩ : S)) ?_ ?_
  · clear hm; have hm := yes_of q20
    refine wpD_block ?_
    obtain ⟨u21, hl21, hq21⟩ := yes_m hm
    refine loop_M (Y := Unit) hl21 (fun s21 z21 => (⟨[(1, .v (.int .i64 a1)), (3, .ptr b1 0), (6, .ptr b2 0), (9, .lst 2 (a2.map eTApiWide) .no), (10, .v (.int .i64 (a2.length : Int))), (11, .v (.int .i64 s21.1))], [(b1, Blk.cells [.v (.int .i64 s21.2.1), .v (.int .u64 s21.2.2)] 54), (b2, Blk.cells [.v (.int .i64 (0 : Int)), .v (.int .u64 (0 : Int))] 54)], []⟩ : S)) ?_ ?_
    · skip
      exact WkX.of () (WkS.perm (WkS.cons rfl (Wk.refl _) (WkS.cons rfl (Wk.refl _) (WkS.cons rfl (Wk.refl _) (WkS.cons rfl (Wk.refl _) (WkS.cons rfl (Wk.refl _) (WkS.cons rfl (Wk.refl _) (WkS.nil))))))) (List.Perm.refl _) (List.Perm.refl _))
    · intro G21 s21 z21 hm
      refine wpD_seq ?_
      refine wpD_region ?_
      refine p_pure htab rfl rfl rfl rfl ?_
      refine ops_nil ?_
      refine then_normal ?_
      refine wpD_seq ?_
      refine wpD_cond rfl (fun hc32 => ?_) (fun hc32 => ?_)
      · replace hm := yes_t hc32 hm
        refine wpD_skip ?_
        refine then_normal ?_
        refine wpD_seq ?_
        refine wpD_block ?_
        refine wpD_seq ?_
        refine wpD_region ?_
        obtain ⟨x33, q33, hm⟩ := yes_bind hm
        refine p_elem htab rfl rfl rfl rfl rfl rfl rfl rfl rfl rfl (idx_nonneg q33) (idx_map q33) ?_
        refine p_loadEl (d := eTApiWide x33) htab rfl rfl rfl rfl rfl rfl rfl rfl ?_
        refine p_alloc htab rfl rfl rfl rfl rfl rfl rfl (fun b34 => ?_)
        refine p_store (ds' := [.v (.int .i64 x33.gHi), .v (.int .u64 x33.gLo)]) (h' := [(b1, Blk.cells [.v (.int .i64 s21.2.1), .v (.int .u64 s21.2.2)] 54), (b2, Blk.cells [.v (.int .i64 (0 : Int)), .v (.int .u64 (0 : Int))] 54), (b34, Blk.cells [.v (.int .i64 x33.gHi), .v (.int .u64 x33.gLo)] 54)]) 2 htab rfl rfl rfl rfl rfl rfl rfl rfl rfl rfl rfl rfl ?_
        refine ops_nil ?_
        refine then_normal ?_
        refine wpD_seq ?_
        refine wpD_region ?_
        refine p_load (d := eTApiWide x33) 2 htab rfl rfl rfl rfl rfl rfl rfl rfl ?_
        refine p_load (d := eTApiWide (⟨s21.2.1, s21.2.2⟩ : TApiWide)) 0 htab rfl rfl rfl rfl rfl rfl rfl rfl ?_
        obtain ⟨x35, q35, hm⟩ := yes_bind hm
        refine p_call0 (wCmp_ok x33 (⟨s21.2.1, s21.2.2⟩ : TApiWide) (need_ok q35)) rfl rfl rfl rfl rfl (WkL.refl _) ?_
        rintro _ rfl
        refine p_pure htab rfl rfl rfl rfl ?_
        refine p_pure htab rfl rfl rfl rfl ?_
        refine ops_nil ?_
        refine then_normal ?_
        refine wpD_cond rfl (fun hc36 => ?_) (fun hc36 => ?_)
        · replace hm := yes_t hc36 hm
          refine wpD_region ?_
          refine p_load (d := eTApiWide x33) 2 htab rfl rfl rfl rfl rfl rfl rfl rfl ?_
          refine p_store (ds' := [.v (.int .i64 x33.gHi), .v (.int .u64 x33.gLo)]) (h' := [(b1, Blk.cells [.v (.int .i64 x33.gHi), .v (.int .u64 x33.gLo)] 54), (b2, Blk.cells [.v (.int .i64 (0 : Int)), .v (.int .u64 (0 : Int))] 54), (b34, Blk.cells [.v (.int .i64 x33.gHi), .v (.int .u64 x33.gLo)] 54)]) 0 htab rfl rfl rfl rfl rfl rfl rfl rfl rfl rfl rfl rfl ?_
          refine ops_nil ?_
          refine block_normal ?_
          refine then_normal ?_
          refine wpD_region ?_
          refine p_pure htab rfl rfl rfl rfl ?_
          refine p_pure htab rfl rfl rfl rfl ?_
          refine ops_nil ?_
          refine then_normal ⟨_, lp_next hm, ?_⟩
          exact WkX.of () (WkS.perm (WkS.cons rfl (Wk.refl _) (WkS.cons rfl (Wk.refl _) (WkS.cons rfl (Wk.refl _) (WkS.cons rfl (Wk.refl _) (WkS.cons rfl (Wk.refl _) (WkS.cons rfl (Wk.refl _) (WkS.nil))))))) (List.Perm.refl _) (List.Perm.refl _))
        · replace hm := yes_f hc36 hm
          refine wpD_skip ?_
          refine block_normal ?_
          refine then_normal ?_
          refine wpD_region ?_
          refine p_pure htab rfl rfl rfl rfl ?_
          refine p_pure htab rfl rfl rfl rfl ?_
          refine ops_nil ?_
          refine then_normal ⟨_, lp_next hm, ?_⟩
          exact WkX.of () (WkS.perm (WkS.cons rfl (Wk.refl _) (WkS.cons rfl (Wk.refl _) (WkS.cons rfl (Wk.refl _) (WkS.cons rfl (Wk.refl _) (WkS.cons rfl (Wk.refl _) (WkS.cons rfl (Wk.refl _) (WkS.nil))))))) (List.Perm.refl _) (List.Perm.refl _))
      · replace hm := yes_f hc32 hm
        refine wpD_exit ?_
        refine then_exit ?_
        have e21 := lp_done hm; subst e21; clear hm; have hm := hq21
        refine then_exit ?_
        refine block_hit ?_
        have e20 := yes_eq hm; subst e20
        refine ⟨rfl, ?_⟩
        exact WkX.of () (WkS.perm (WkS.cons rfl (Wk.refl _) (WkS.cons rfl (Wk.refl _) (WkS.nil))) (List.Perm.refl _) (List.Perm.refl _))
  · intro s20 hw20; clear hm; have hm := ho20; clear q20 ho20
    refine then_normal ?_
    refine wpD_wkX hw20 (fun z20 => ?_)
    refine wpD_seq ?_
    refine wpD_region ?_
    refine p_load (d := eTApiWide (⟨y20.1, y20.2⟩ : TApiWide)) 0 htab rfl rfl rfl rfl rfl rfl rfl rfl ?_
    refine p_store (ds' := [.v (.int .i64 y20.1), .v (.int .u64 y20.2)]) (h' := [(b1, Blk.cells [.v (.int .i64 y20.1), .v (.int .u64 y20.2)] 54), (b2, Blk.cells [.v (.int .i64 y20.1), .v (.int .u64 y20.2)] 54)]) 1 htab rfl rfl rfl rfl rfl rfl rfl rfl rfl rfl rfl rfl ?_
    refine ops_nil ?_
    refine then_normal ?_
    refine wpD_ret ?_
    have er37 := yes_eq hm; subst er37
    refine retX.of (s' := ⟨[(6, .ptr b2 0)], [(b2, Blk.cells [.v (.int .i64 y20.1), .v (.int .u64 y20.2)] 54)], []⟩) (WkS.perm (WkS.cons rfl (Wk.refl _) (WkS.nil)) ((perm_at (j := 1) rfl).trans (List.Perm.cons _ (List.Perm.refl _))) (List.Perm.refl _)) (retD_mk (hh := []) (.inl rfl) (resL_cons (resOne_cell 0 rfl rfl rfl rfl) (resL_nil)) (List.nil_sublist _) (List.Sublist.refl _) ?_)
    exact ⟨rfl, rfl, rfl⟩
noncomputable def wide_Max (a0 : TApiWide) (a1 : List TApiWide) : Option (TApiWide) :=
  ((wide_best a0 (1 : Int) a1).bind fun x3 => some x3)
set_option maxRecDepth 100000 in
set_option maxHeartbeats 2000000 in
theorem wide_Max_ok (a0 : TApiWide) (a1 : List TApiWide) (r : TApiWide) (h0 : wide_Max a0 a1 = some r) : CallsD Try.prog 83 [eTApiWide a0, .lst 2 (a1.map eTApiWide) .no] [] [] (fun d h k => d = eTApiWide r ∧ h = [] ∧ k = []) := by
  have hm := yes_of h0
  unfold wide_Max at hm
  clear h0
  refine enterX htab Try.func83 rfl rfl rfl rfl rfl (fun C => ?_)
  refine wpD_seq ?_
  refine wpD_region ?_
  refine p_box rfl rfl rfl rfl rfl rfl rfl (fun b1 => ?_)
  refine p_alloc htab rfl rfl rfl rfl rfl rfl rfl (fun b2 => ?_)
  refine ops_nil ?_
  refine then_normal ?_
  refine wpD_seq ?_
  refine wpD_region ?_
  refine p_load (d := eTApiWide a0) 0 htab rfl rfl rfl rfl rfl rfl rfl rfl ?_
  refine p_pure htab rfl rfl rfl rfl ?_
  obtain ⟨x3, q3, hm⟩ := yes_bind hm
  refine p_call0 (wide_best_ok a0 (1 : Int) a1 x3 q3) rfl rfl rfl rfl rfl (WkL.refl _) ?_
  rintro _ rfl
  refine p_store (ds' := [.v (.int .i64 x3.gHi), .v (.int .u64 x3.gLo)]) (h' := [(b1, Blk.cells [.v (.int .i64 a0.gHi), .v (.int .u64 a0.gLo)] 54), (b2, Blk.cells [.v (.int .i64 x3.gHi), .v (.int .u64 x3.gLo)] 54)]) 1 htab rfl rfl rfl rfl rfl rfl rfl rfl rfl rfl rfl rfl ?_
  refine ops_nil ?_
  refine then_normal ?_
  refine wpD_ret ?_
  have er4 := yes_eq hm; subst er4
  refine retX.of (s' := ⟨[(4, .ptr b2 0)], [(b2, Blk.cells [.v (.int .i64 x3.gHi), .v (.int .u64 x3.gLo)] 54)], []⟩) (WkS.perm (WkS.cons rfl (Wk.refl _) (WkS.nil)) ((perm_at (j := 1) rfl).trans (List.Perm.cons _ (List.Perm.refl _))) (List.Perm.refl _)) (retD_mk (hh := []) (.inl rfl) (resL_cons (resOne_cell 0 rfl rfl rfl rfl) (resL_nil)) (List.nil_sublist _) (List.Sublist.refl _) ?_)
  exact ⟨rfl, rfl, rfl⟩
noncomputable def wide_Int (a0 : TApiWide) : Option (Int × Bool) :=
  ((need (pW a0)).bind fun x2 => ((need (pI (wLow a0))).bind fun x3 => (bif (!(((wOf (wLow a0)).gHi) == a0.gHi && (((wOf (wLow a0)).gLo) == a0.gLo && true))) then some ((0 : Int), false) else some ((wLow a0), true))))
set_option maxRecDepth 100000 in
set_option maxHeartbeats 2000000 in
theorem wide_Int_ok (a0 : TApiWide) (r : Int × Bool) (h0 : wide_Int a0 = some r) : CallsD Try.prog 73 [eTApiWide a0] [] [] (fun d h k => d = .tup [.v (.int .i64 r.1), .v (.bool r.2)] ∧ h = [] ∧ k = []) := by
  have hm := yes_of h0
  unfold wide_Int at hm
  clear h0
  refine enterX htab Try.func73 rfl rfl rfl rfl rfl (fun C => ?_)
  refine wpD_seq ?_
  refine wpD_region ?_
  refine p_box rfl rfl rfl rfl rfl rfl rfl (fun b1 => ?_)
  refine p_pure htab rfl rfl rfl rfl ?_
  refine p_pure htab rfl rfl rfl rfl ?_
  refine ops_nil ?_
  refine then_normal ?_
  refine wpD_seq ?_
  refine wpD_region ?_
  refine p_load (d := eTApiWide a0) 0 htab rfl rfl rfl rfl rfl rfl rfl rfl ?_
  obtain ⟨x2, q2, hm⟩ := yes_bind hm
  refine p_call0 (wLow_ok a0 (need_ok q2)) rfl rfl rfl rfl rfl (WkL.refl _) ?_
  rintro _ rfl
  refine p_pure htab rfl rfl rfl rfl ?_
  refine ops_nil ?_
  refine then_normal ?_
  refine wpD_seq ?_
  refine wpD_seq ?_
  obtain ⟨x3, q3, hm⟩ := yes_bind hm
  refine wpD_draws 3 [] [[],[],[]] [1,2] [[],[0],[],[0,1,2]] (by kernel_rfl) (by kernel_rfl) (by kernel_rfl) (by rfl) (by rfl) (by kernel_rfl) ?_
  apply Exists.intro
  apply Exists.intro
  intro bs
  refine z_q rfl rfl (ex_pure htab rfl) rfl rfl rfl rfl rfl rfl ?_
  refine z_call rfl rfl (wOf_ok (wLow a0) (need_ok q3)) rfl rfl (WkL.refl _) rfl rfl rfl rfl rfl rfl ?_
  refine z_eM rfl rfl (xm_load (d := eTApiWide a0) 0 htab rfl rfl rfl rfl rfl) rfl rfl rfl rfl rfl rfl ?_
  refine z_nil rfl rfl (fun e he => by simp [isAl] at he) ?_
  refine p_eqS htab rfl rfl rfl rfl rfl eqt54 rfl rfl rfl rfl rfl ?_
  refine ops_nil ?_
  refine then_normal ?_
  refine wpD_cond rfl (fun hc4 => ?_) (fun hc4 => ?_)
  · replace hm := yes_t hc4 hm
    refine wpD_seq ?_
    refine wpD_region ?_
    refine p_pure htab rfl rfl rfl rfl ?_
    refine p_pure htab rfl rfl rfl rfl ?_
    refine ops_nil ?_
    refine then_normal ?_
    refine wpD_ret ?_
    refine then_ret ?_
    have er5 := yes_eq hm; subst er5
    refine retX.of (s' := ⟨[(2, .v (.int .i64 (0 : Int))), (3, .v (.bool false))], [], []⟩) (WkS.perm (WkS.cons rfl (Wk.refl _) (WkS.cons rfl (Wk.refl _) (WkS.nil))) (List.Perm.refl _) (List.Perm.refl _)) (retD_mk (hh := []) (.inl rfl) (resL_cons (resOne_tmp rfl) (resL_cons (resOne_tmp rfl) (resL_nil))) (List.nil_sublist _) (List.Sublist.refl _) ?_)
    exact ⟨rfl, rfl, rfl⟩
  · replace hm := yes_f hc4 hm
    refine wpD_skip ?_
    refine then_normal ?_
    refine wpD_seq ?_
    refine wpD_region ?_
    refine p_pure htab rfl rfl rfl rfl ?_
    refine p_pure htab rfl rfl rfl rfl ?_
    refine p_pure htab rfl rfl rfl rfl ?_
    refine ops_nil ?_
    refine then_normal ?_
    refine wpD_ret ?_
    have er6 := yes_eq hm; subst er6
    refine retX.of (s' := ⟨[(2, .v (.int .i64 (wLow a0))), (3, .v (.bool true))], [], []⟩) (WkS.perm (WkS.cons rfl (Wk.refl _) (WkS.cons rfl (Wk.refl _) (WkS.nil))) (List.Perm.refl _) (List.Perm.refl _)) (retD_mk (hh := []) (.inl rfl) (resL_cons (resOne_tmp rfl) (resL_cons (resOne_tmp rfl) (resL_nil))) (List.nil_sublist _) (List.Sublist.refl _) ?_)
    exact ⟨rfl, rfl, rfl⟩
noncomputable def r01_Int (a0 : TApiWide) : Option (Int × Bool) :=
  (Option.bind (α := Bool) ((need (pI (-9223372036854775808 : Int))).bind fun x8 => ((need (pWW a0 (rOf (-9223372036854775808 : Int)))).bind fun x9 => (bif (decide ((rCmp a0 (rOf (-9223372036854775808 : Int))) < (0 : Int))) then some true else ((need (pI (9223372036854775807 : Int))).bind fun x11 => ((need (pWW a0 (rOf (9223372036854775807 : Int)))).bind fun x12 => some (decide ((0 : Int) < (rCmp a0 (rOf (9223372036854775807 : Int)))))))))) fun y7 => (bif y7 then some ((0 : Int), false) else some ((IntKind.i64.wrap a0.gLo), true)))
set_option maxRecDepth 100000 in
set_option maxHeartbeats 2000000 in
theorem r01_Int_ok (a0 : TApiWide) (r : Int × Bool) (h0 : r01_Int a0 = some r) : CallsD Try.prog 44 [eTApiWide a0] [] [] (fun d h k => d = .tup [.v (.int .i64 r.1), .v (.bool r.2)] ∧ h = [] ∧ k = []) := by
  have hm := yes_of h0
  unfold r01_Int at hm
  clear h0
  refine enterX htab Try.func44 rfl rfl rfl rfl rfl (fun C => ?_)
  refine wpD_seq ?_
  refine wpD_region ?_
  refine p_box rfl rfl rfl rfl rfl rfl rfl (fun b1 => ?_)
  refine p_pure htab rfl rfl rfl rfl ?_
  refine p_pure htab rfl rfl rfl rfl ?_
  refine ops_nil ?_
  refine then_normal ?_
  refine wpD_seq ?_
  refine wpD_seq ?_
  obtain ⟨y7, q7, ho7⟩ := yes_bind hm
  refine wpD_mid (Y := Unit) (fun z7 => (⟨[(1, .ptr b1 0), (13, .v (.bool y7))], [(b1, Blk.cells [.v (.int .i64 a0.gHi), .v (.int .u64 a0.gLo)] 54)], []⟩ : S)) ?_ ?_
  · clear hm; have hm := yes_of q7
    obtain ⟨x8, q8, hm⟩ := yes_bind hm
    obtain ⟨x9, q9, hm⟩ := yes_bind hm
    refine bycB (decide ((rCmp a0 (rOf (-9223372036854775808 : Int))) < (0 : Int))) (fun hs10 => ?_) (fun hs10 => ?_)
    · replace hm := yes_t hs10 hm
      refine wpD_draws 7 [] [[],[],[0,1],[0,1,2],[0,1,2],[0,1,2],[0,1,2]] [0,1,2] [[],[],[0,1],[0,1,2],[0,1,2,3],[0,1,2,3,4],[0,1,2,3,4],[0,1,2,3,4,5,6],[0,1,2,3,4,5,6,7],[0,1,2,3,4,5,6,7,8]] (by kernel_rfl) (by kernel_rfl) (by kernel_rfl) (by rfl) (by rfl) (by kernel_rfl) ?_
      apply Exists.intro
      apply Exists.intro
      apply Exists.intro
      intro bs
      refine z_eM rfl rfl (xm_load (d := eTApiWide a0) 0 htab rfl rfl rfl rfl rfl) rfl rfl rfl rfl rfl rfl ?_
      refine z_call rfl rfl (rOf_ok (-9223372036854775808 : Int) (need_ok q8)) rfl rfl (WkL.refl _) rfl rfl rfl rfl rfl rfl ?_
      refine z_call rfl rfl (rCmp_ok a0 (rOf (-9223372036854775808 : Int)) (need_ok q9)) rfl rfl (WkL.refl _) rfl rfl rfl rfl rfl rfl ?_
      refine z_q rfl rfl (ex_pure htab rfl) rfl rfl rfl rfl rfl rfl ?_
      refine z_q rfl rfl (ex_pure htab rfl) rfl rfl rfl rfl rfl rfl ?_
      refine z_known (j := 8) (b' := true) rfl hs10 ?_
      refine z_skip rfl rfl rfl rfl ?_
      refine z_skip rfl rfl rfl rfl ?_
      refine z_nil rfl rfl (fun e he => by simp [isAl] at he) ?_
      refine p_skip rfl rfl rfl ?_
      refine p_skip rfl rfl rfl ?_
      refine p_pickT rfl rfl rfl rfl rfl rfl ?_
      refine ops_nil ?_
      have e7 := yes_eq hm; subst e7
      refine ⟨rfl, ?_⟩
      exact WkX.of () (WkS.perm (WkS.cons rfl (Wk.refl _) (WkS.cons rfl (Wk.refl _) (WkS.nil))) (List.Perm.refl _) (List.Perm.refl _))
    · replace hm := yes_f hs10 hm
      obtain ⟨x11, q11, hm⟩ := yes_bind hm
      refine wpD_draws 7 [] [[],[],[0,1],[0,1,2],[0,1,2],[0,1,2],[0,1,2]] [0,1,2,5,6] [[],[],[0,1],[0,1,2],[0,1,2,3],[0,1,2,3,4],[0,1,2,3,4],[0,1,2,3,4,5,6],[0,1,2,3,4,5,6,7],[0,1,2,3,4,5,6,7,8]] (by kernel_rfl) (by kernel_rfl) (by kernel_rfl) (by rfl) (by rfl) (by kernel_rfl) ?_
      apply Exists.intro
      apply Exists.intro
      apply Exists.intro
      apply Exists.intro
      apply Exists.intro
      intro bs
      refine z_eM rfl rfl (xm_load (d := eTApiWide a0) 0 htab rfl rfl rfl rfl rfl) rfl rfl rfl rfl rfl rfl ?_
      refine z_call rfl rfl (rOf_ok (-9223372036854775808 : Int) (need_ok q8)) rfl rfl (WkL.refl _) rfl rfl rfl rfl rfl rfl ?_
      refine z_call rfl rfl (rCmp_ok a0 (rOf (-9223372036854775808 : Int)) (need_ok q9)) rfl rfl (WkL.refl _) rfl rfl rfl rfl rfl rfl ?_
      refine z_q rfl rfl (ex_pure htab rfl) rfl rfl rfl rfl rfl rfl ?_
      refine z_q rfl rfl (ex_pure htab rfl) rfl rfl rfl rfl rfl rfl ?_
      refine z_known (j := 8) (b' := false) rfl hs10 ?_
      refine z_eM rfl rfl (xm_load (d := eTApiWide a0) 0 htab rfl rfl rfl rfl rfl) rfl rfl rfl rfl rfl rfl ?_
      refine z_call rfl rfl (rOf_ok (9223372036854775807 : Int) (need_ok q11)) rfl rfl (WkL.refl _) rfl rfl rfl rfl rfl rfl ?_
      refine z_nil rfl rfl (fun e he => by simp [isAl] at he) ?_
      obtain ⟨x12, q12, hm⟩ := yes_bind hm
      refine p_call0 (rCmp_ok a0 (rOf (9223372036854775807 : Int)) (need_ok q12)) rfl rfl rfl rfl rfl (WkL.refl _) ?_
      rintro _ rfl
      refine p_pure htab rfl rfl rfl rfl ?_
      refine p_pickF rfl rfl rfl rfl rfl rfl ?_
      refine ops_nil ?_
      have e7 := yes_eq hm; subst e7
      refine ⟨rfl, ?_⟩
      exact WkX.of () (WkS.perm (WkS.cons rfl (Wk.refl _) (WkS.cons rfl (Wk.refl _) (WkS.nil))) (List.Perm.refl _) (List.Perm.refl _))
  · intro s7 hw7; clear hm; have hm := ho7; clear q7 ho7
    refine then_normal ?_
    refine wpD_wkX hw7 (fun z7 => ?_)
    refine wpD_cond rfl (fun hc14 => ?_) (fun hc14 => ?_)
    · replace hm := yes_t hc14 hm
      refine wpD_seq ?_
      refine wpD_region ?_
      refine p_pure htab rfl rfl rfl rfl ?_
      refine p_pure htab rfl rfl rfl rfl ?_
      refine ops_nil ?_
      refine then_normal ?_
      refine wpD_ret ?_
      refine then_ret ?_
      have er15 := yes_eq hm; subst er15
      refine retX.of (s' := ⟨[(2, .v (.int .i64 (0 : Int))), (3, .v (.bool false))], [], []⟩) (WkS.perm (WkS.cons rfl (Wk.refl _) (WkS.cons rfl (Wk.refl _) (WkS.nil))) (List.Perm.refl _) (List.Perm.refl _)) (retD_mk (hh := []) (.inl rfl) (resL_cons (resOne_tmp rfl) (resL_cons (resOne_tmp rfl) (resL_nil))) (List.nil_sublist _) (List.Sublist.refl _) ?_)
      exact ⟨rfl, rfl, rfl⟩
    · replace hm := yes_f hc14 hm
      refine wpD_skip ?_
      refine then_normal ?_
      refine wpD_seq ?_
      refine wpD_region ?_
      refine p_pure htab rfl rfl rfl rfl ?_
      refine p_load 0 htab rfl rfl rfl rfl rfl rfl rfl rfl ?_
      refine p_pure htab rfl rfl rfl rfl ?_
      refine p_pure htab rfl rfl rfl rfl ?_
      refine p_pure htab rfl rfl rfl rfl ?_
      refine ops_nil ?_
      refine then_normal ?_
      refine wpD_ret ?_
      have er16 := yes_eq hm; subst er16
      refine retX.of (s' := ⟨[(2, .v (.int .i64 (IntKind.i64.wrap a0.gLo))), (3, .v (.bool true))], [], []⟩) (WkS.perm (WkS.cons rfl (Wk.refl _) (WkS.cons rfl (Wk.refl _) (WkS.nil))) (List.Perm.refl _) (List.Perm.refl _)) (retD_mk (hh := []) (.inl rfl) (resL_cons (resOne_tmp rfl) (resL_cons (resOne_tmp rfl) (resL_nil))) (List.nil_sublist _) (List.Sublist.refl _) ?_)
      exact ⟨rfl, rfl, rfl⟩
noncomputable def cong_apart (a0 : Int) (a1 : Int) : Option (Int) :=
  ((need (pI a0)).bind fun x1 => ((need (pI a1)).bind fun x2 => ((need (pWW (wOf a0) (wOf a1))).bind fun x3 => ((need (pW (wSub (wOf a0) (wOf a1)))).bind fun x5 => ((wide_Max (wSub (wOf a0) (wOf a1)) ([(wNeg (wSub (wOf a0) (wOf a1)))] : List TApiWide)).bind fun x6 => some x6.gLo)))))
set_option maxRecDepth 100000 in
set_option maxHeartbeats 2000000 in
theorem cong_apart_ok (a0 : Int) (a1 : Int) (r : Int) (h0 : cong_apart a0 a1 = some r) : CallsD Try.prog 80 [.v (.int .i64 a0), .v (.int .i64 a1)] [] [] (fun d h k => d = .v (.int .u64 r) ∧ h = [] ∧ k = []) := by
  have hm := yes_of h0
  unfold cong_apart at hm
  clear h0
  refine enterX htab Try.func80 rfl rfl rfl rfl rfl (fun C => ?_)
  refine wpD_seq ?_
  refine wpD_region ?_
  refine p_pure htab rfl rfl rfl rfl ?_
  refine ops_nil ?_
  refine then_normal ?_
  refine wpD_seq ?_
  refine wpD_region ?_
  refine p_pure htab rfl rfl rfl rfl ?_
  obtain ⟨x1, q1, hm⟩ := yes_bind hm
  refine p_call0 (wOf_ok a0 (need_ok q1)) rfl rfl rfl rfl rfl (WkL.refl _) ?_
  rintro _ rfl
  refine p_pure htab rfl rfl rfl rfl ?_
  obtain ⟨x2, q2, hm⟩ := yes_bind hm
  refine p_call0 (wOf_ok a1 (need_ok q2)) rfl rfl rfl rfl rfl (WkL.refl _) ?_
  rintro _ rfl
  obtain ⟨x3, q3, hm⟩ := yes_bind hm
  refine p_call0 (wSub_ok (wOf a0) (wOf a1) (need_ok q3)) rfl rfl rfl rfl rfl (WkL.refl _) ?_
  rintro _ rfl
  refine p_alloc htab rfl rfl rfl rfl rfl rfl rfl (fun b4 => ?_)
  refine p_store (ds' := [.v (.int .i64 ((wSub (wOf a0) (wOf a1)).gHi)), .v (.int .u64 ((wSub (wOf a0) (wOf a1)).gLo))]) (h' := [(b4, Blk.cells [.v (.int .i64 ((wSub (wOf a0) (wOf a1)).gHi)), .v (.int .u64 ((wSub (wOf a0) (wOf a1)).gLo))] 54)]) 0 htab rfl rfl rfl rfl rfl rfl rfl rfl rfl rfl rfl rfl ?_
  refine ops_nil ?_
  refine then_normal ?_
  refine wpD_seq ?_
  obtain ⟨x5, q5, hm⟩ := yes_bind hm
  refine wpD_draws 4 [] [[],[],[1],[1,2]] [0,1,2,3] [[],[],[1],[1,2],[0,1,2,3],[0,1,2,3,4],[0,1,2,3,4,5]] (by kernel_rfl) (by kernel_rfl) (by kernel_rfl) (by rfl) (by rfl) (by kernel_rfl) ?_
  apply Exists.intro
  apply Exists.intro
  apply Exists.intro
  apply Exists.intro
  intro bs
  refine z_eM rfl rfl (xm_load (d := eTApiWide (wSub (wOf a0) (wOf a1))) 0 htab rfl rfl rfl rfl rfl) rfl rfl rfl rfl rfl rfl ?_
  refine z_eM rfl rfl (xm_load (d := eTApiWide (wSub (wOf a0) (wOf a1))) 0 htab rfl rfl rfl rfl rfl) rfl rfl rfl rfl rfl rfl ?_
  refine z_call rfl rfl (wNeg_ok (wSub (wOf a0) (wOf a1)) (need_ok q5)) rfl rfl (WkL.refl _) rfl rfl rfl rfl rfl rfl ?_
  refine z_E rfl rfl (ExE.wk (x_lit htab rfl rfl rfl rfl rfl rfl rfl rfl rfl rfl rfl) (show Wk _ (.lst 2 (([(wNeg (wSub (wOf a0) (wOf a1)))] : List TApiWide).map eTApiWide) .full) from Wk.lst0 (.cons (WkC.refl _) (.nil)))) rfl rfl rfl rfl rfl rfl ?_
  refine z_nil rfl rfl (fun e he => by simp [isAl] at he) ?_
  obtain ⟨x6, q6, hm⟩ := yes_bind hm
  refine p_call0 (wide_Max_ok (wSub (wOf a0) (wOf a1)) ([(wNeg (wSub (wOf a0) (wOf a1)))] : List TApiWide) x6 q6) rfl rfl rfl rfl rfl (WkL.cons (Wk.refl _) (WkL.cons (Wk.no) (WkL.refl _))) ?_
  rintro _ rfl
  refine p_pure htab rfl rfl rfl rfl ?_
  refine p_pure htab rfl rfl rfl rfl ?_
  refine ops_nil ?_
  refine then_normal ?_
  refine wpD_ret ?_
  have er7 := yes_eq hm; subst er7
  refine retX.of (s' := ⟨[(4, .v (.int .u64 x6.gLo))], [], []⟩) (WkS.perm (WkS.cons rfl (Wk.refl _) (WkS.nil)) (List.Perm.refl _) (List.Perm.refl _)) (retD_mk (hh := []) (.inl rfl) (resL_cons (resOne_tmp rfl) (resL_nil)) (List.nil_sublist _) (List.Sublist.refl _) ?_)
  exact ⟨rfl, rfl, rfl⟩

end Go.Proofs.Ytjbpfgknhpdkaaa.Ab
