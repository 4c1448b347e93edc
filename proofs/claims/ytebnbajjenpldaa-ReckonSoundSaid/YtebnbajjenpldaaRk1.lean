/- Layers 3 and 4: what the program's functions compute. -/
import Derived.Test.YtebnbajjenpldaaWk
import Derived.Test.YtebnbajjenpldaaTr6
namespace Go.Proofs.Ytebnbajjenpldaa.Ab
open Go
set_option linter.all false
structure TApiSpan where
  gSome : Bool
  gLo : Int
  gHi : Int
def eTApiSpan (x : TApiSpan) : D := .agg [.v (.bool x.gSome), .v (.int .i64 x.gLo), .v (.int .i64 x.gHi)]
structure T8Uint64 where
  g0 : Int
  g1 : Int
  g2 : Int
  g3 : Int
  g4 : Int
  g5 : Int
  g6 : Int
  g7 : Int
def eT8Uint64 (x : T8Uint64) : D := .agg [.v (.int .u64 x.g0), .v (.int .u64 x.g1), .v (.int .u64 x.g2), .v (.int .u64 x.g3), .v (.int .u64 x.g4), .v (.int .u64 x.g5), .v (.int .u64 x.g6), .v (.int .u64 x.g7)]
structure T2ApiWide where
  g0 : TApiWide
  g1 : TApiWide
def eT2ApiWide (x : T2ApiWide) : D := .agg [.v (.int .i64 x.g0.gHi), .v (.int .u64 x.g0.gLo), .v (.int .i64 x.g1.gHi), .v (.int .u64 x.g1.gLo)]
structure T2ApiSpan where
  g0 : TApiSpan
  g1 : TApiSpan
def eT2ApiSpan (x : T2ApiSpan) : D := .agg [.v (.bool x.g0.gSome), .v (.int .i64 x.g0.gLo), .v (.int .i64 x.g0.gHi), .v (.bool x.g1.gSome), .v (.int .i64 x.g1.gLo), .v (.int .i64 x.g1.gHi)]
noncomputable def span_None (a0 : TApiSpan) : Option (Bool) :=
  (bif (!a0.gSome) then some true else some (decide (a0.gHi < a0.gLo)))
set_option maxRecDepth 100000 in
set_option maxHeartbeats 2000000 in
theorem span_None_ok (a0 : TApiSpan) (r : Bool) (h0 : span_None a0 = some r) : CallsD Try.prog 25 [eTApiSpan a0] [] [] (fun d h k => d = .v (.bool r) ∧ h = [] ∧ k = []) := by
  have hm := yes_of h0
  unfold span_None at hm
  clear h0
  refine enterX htab Try.func25 rfl rfl rfl rfl rfl (fun C => ?_)
  refine wpD_seq ?_
  refine wpD_region ?_
  refine p_box rfl rfl rfl rfl rfl rfl rfl (fun b1 => ?_)
  refine p_pure htab rfl rfl rfl rfl ?_
  refine ops_nil ?_
  refine then_normal ?_
  refine wpD_seq ?_
  refine wpD_region ?_
  refine p_pure htab rfl rfl rfl rfl ?_
  refine p_load 0 htab rfl rfl rfl rfl rfl rfl rfl rfl ?_
  refine p_pure htab rfl rfl rfl rfl ?_
  refine p_pure htab rfl rfl rfl rfl ?_
  refine p_split (i := 6) rfl (fun hg2 => ?_) (fun hg2 => ?_)
  · replace hm := yes_t hg2 hm
    refine p_skip rfl rfl rfl ?_
    refine p_skip rfl rfl rfl ?_
    refine p_skip rfl rfl rfl ?_
    refine p_skip rfl rfl rfl ?_
    refine p_skip rfl rfl rfl ?_
    refine p_pickT rfl rfl rfl rfl rfl rfl ?_
    refine p_pure htab rfl rfl rfl rfl ?_
    refine ops_nil ?_
    refine then_normal ?_
    refine wpD_ret ?_
    have er3 := yes_eq hm; subst er3
    refine retX.of (s' := ⟨[(2, .v (.bool true))], [], []⟩) (WkS.perm (WkS.cons rfl (Wk.refl _) (WkS.nil)) (List.Perm.refl _) (List.Perm.refl _)) (retD_mk (hh := []) (.inl rfl) (resL_cons (resOne_tmp rfl) (resL_nil)) (List.nil_sublist _) (List.Sublist.refl _) ?_)
    exact ⟨rfl, rfl, rfl⟩
  · replace hm := yes_f hg2 hm
    refine p_pure htab rfl rfl rfl rfl ?_
    refine p_load 0 htab rfl rfl rfl rfl rfl rfl rfl rfl ?_
    refine p_pure htab rfl rfl rfl rfl ?_
    refine p_load 0 htab rfl rfl rfl rfl rfl rfl rfl rfl ?_
    refine p_pure htab rfl rfl rfl rfl ?_
    refine p_pickF rfl rfl rfl rfl rfl rfl ?_
    refine p_pure htab rfl rfl rfl rfl ?_
    refine ops_nil ?_
    refine then_normal ?_
    refine wpD_ret ?_
    have er4 := yes_eq hm; subst er4
    refine retX.of (s' := ⟨[(2, .v (.bool (decide (a0.gHi < a0.gLo))))], [], []⟩) (WkS.perm (WkS.cons rfl (Wk.refl _) (WkS.nil)) (List.Perm.refl _) (List.Perm.refl _)) (retD_mk (hh := []) (.inl rfl) (resL_cons (resOne_tmp rfl) (resL_nil)) (List.nil_sublist _) (List.Sublist.refl _) ?_)
    exact ⟨rfl, rfl, rfl⟩
noncomputable def span_Has (a0 : TApiSpan) (a1 : Int) : Option (Bool) :=
  (bif a0.gSome then (bif (decide (a0.gLo ≤ a1)) then some (decide (a1 ≤ a0.gHi)) else some false) else some false)
set_option maxRecDepth 100000 in
set_option maxHeartbeats 2000000 in
theorem span_Has_ok (a0 : TApiSpan) (a1 : Int) (r : Bool) (h0 : span_Has a0 a1 = some r) : CallsD Try.prog 22 [eTApiSpan a0, .v (.int .i64 a1)] [] [] (fun d h k => d = .v (.bool r) ∧ h = [] ∧ k = []) := by
  have hm := yes_of h0
  unfold span_Has at hm
  clear h0
  refine enterX htab Try.func22 rfl rfl rfl rfl rfl (fun C => ?_)
  refine wpD_seq ?_
  refine wpD_region ?_
  refine p_box rfl rfl rfl rfl rfl rfl rfl (fun b1 => ?_)
  refine p_pure htab rfl rfl rfl rfl ?_
  refine ops_nil ?_
  refine then_normal ?_
  refine wpD_seq ?_
  refine wpD_region ?_
  refine p_pure htab rfl rfl rfl rfl ?_
  refine p_load 0 htab rfl rfl rfl rfl rfl rfl rfl rfl ?_
  refine p_pure htab rfl rfl rfl rfl ?_
  refine p_split (i := 7) rfl (fun hg2 => ?_) (fun hg2 => ?_)
  · replace hm := yes_t hg2 hm
    refine p_pure htab rfl rfl rfl rfl ?_
    refine p_load 0 htab rfl rfl rfl rfl rfl rfl rfl rfl ?_
    refine p_pure htab rfl rfl rfl rfl ?_
    refine p_pure htab rfl rfl rfl rfl ?_
    refine p_pickT rfl rfl rfl rfl rfl rfl ?_
    refine p_pure htab rfl rfl rfl rfl ?_
    refine p_split (i := 13) rfl (fun hg3 => ?_) (fun hg3 => ?_)
    · replace hm := yes_t hg3 hm
      refine p_pure htab rfl rfl rfl rfl ?_
      refine p_pure htab rfl rfl rfl rfl ?_
      refine p_load 0 htab rfl rfl rfl rfl rfl rfl rfl rfl ?_
      refine p_pure htab rfl rfl rfl rfl ?_
      refine p_pickT rfl rfl rfl rfl rfl rfl ?_
      refine p_pure htab rfl rfl rfl rfl ?_
      refine ops_nil ?_
      refine then_normal ?_
      refine wpD_ret ?_
      have er4 := yes_eq hm; subst er4
      refine retX.of (s' := ⟨[(4, .v (.bool (decide (a1 ≤ a0.gHi))))], [], []⟩) (WkS.perm (WkS.cons rfl (Wk.refl _) (WkS.nil)) (List.Perm.refl _) (List.Perm.refl _)) (retD_mk (hh := []) (.inl rfl) (resL_cons (resOne_tmp rfl) (resL_nil)) (List.nil_sublist _) (List.Sublist.refl _) ?_)
      exact ⟨rfl, rfl, rfl⟩
    · replace hm := yes_f hg3 hm
      refine p_skip rfl rfl rfl ?_
      refine p_skip rfl rfl rfl ?_
      refine p_skip rfl rfl rfl ?_
      refine p_skip rfl rfl rfl ?_
      refine p_pickF rfl rfl rfl rfl rfl rfl ?_
      refine p_pure htab rfl rfl rfl rfl ?_
      refine ops_nil ?_
      refine then_normal ?_
      refine wpD_ret ?_
      have er5 := yes_eq hm; subst er5
      refine retX.of (s' := ⟨[(4, .v (.bool false))], [], []⟩) (WkS.perm (WkS.cons rfl (Wk.refl _) (WkS.nil)) (List.Perm.refl _) (List.Perm.refl _)) (retD_mk (hh := []) (.inl rfl) (resL_cons (resOne_tmp rfl) (resL_nil)) (List.nil_sublist _) (List.Sublist.refl _) ?_)
      exact ⟨rfl, rfl, rfl⟩
  · replace hm := yes_f hg2 hm
    refine p_skip rfl rfl rfl ?_
    refine p_skip rfl rfl rfl ?_
    refine p_skip rfl rfl rfl ?_
    refine p_skip rfl rfl rfl ?_
    refine p_pickF rfl rfl rfl rfl rfl rfl ?_
    refine p_pure htab rfl rfl rfl rfl ?_
    refine p_skip rfl rfl rfl ?_
    refine p_skip rfl rfl rfl ?_
    refine p_skip rfl rfl rfl ?_
    refine p_skip rfl rfl rfl ?_
    refine p_pickF rfl rfl rfl rfl rfl rfl ?_
    refine p_pure htab rfl rfl rfl rfl ?_
    refine ops_nil ?_
    refine then_normal ?_
    refine wpD_ret ?_
    have er6 := yes_eq hm; subst er6
    refine retX.of (s' := ⟨[(4, .v (.bool false))], [], []⟩) (WkS.perm (WkS.cons rfl (Wk.refl _) (WkS.nil)) (List.Perm.refl _) (List.Perm.refl _)) (retD_mk (hh := []) (.inl rfl) (resL_cons (resOne_tmp rfl) (resL_nil)) (List.nil_sublist _) (List.Sublist.refl _) ?_)
    exact ⟨rfl, rfl, rfl⟩
noncomputable def span_Of (a0 : Int) (a1 : Int) : Option (TApiSpan) :=
  (bif (decide (a1 < a0)) then some (⟨false, (0 : Int), (0 : Int)⟩ : TApiSpan) else some (⟨true, a0, a1⟩ : TApiSpan))
set_option maxRecDepth 100000 in
set_option maxHeartbeats 2000000 in
theorem span_Of_ok (a0 : Int) (a1 : Int) (r : TApiSpan) (h0 : span_Of a0 a1 = some r) : CallsD Try.prog 40 [.v (.int .i64 a0), .v (.int .i64 a1)] [] [] (fun d h k => d = eTApiSpan r ∧ h = [] ∧ k = []) := by
  have hm := yes_of h0
  unfold span_Of at hm
  clear h0
  refine enterX htab Try.func40 rfl rfl rfl rfl rfl (fun C => ?_)
  refine wpD_seq ?_
  refine wpD_region ?_
  refine p_alloc htab rfl rfl rfl rfl rfl rfl rfl (fun b1 => ?_)
  refine ops_nil ?_
  refine then_normal ?_
  refine wpD_seq ?_
  refine wpD_seq ?_
  refine wpD_region ?_
  refine p_pure htab rfl rfl rfl rfl ?_
  refine p_pure htab rfl rfl rfl rfl ?_
  refine p_pure htab rfl rfl rfl rfl ?_
  refine ops_nil ?_
  refine then_normal ?_
  refine wpD_cond rfl (fun hc3 => ?_) (fun hc3 => ?_)
  · replace hm := yes_t hc3 hm
    refine wpD_seq ?_
    refine wpD_region ?_
    refine p_build (r := [.v (.bool false), .v (.int .i64 (0 : Int)), .v (.int .i64 (0 : Int))]) htab rfl rfl rfl rfl rfl rfl rfl rfl rfl ?_
    refine p_store (ds' := [.v (.bool false), .v (.int .i64 (0 : Int)), .v (.int .i64 (0 : Int))]) (h' := [(b1, Blk.cells [.v (.bool false), .v (.int .i64 (0 : Int)), .v (.int .i64 (0 : Int))] 23)]) 0 htab rfl rfl rfl rfl rfl rfl rfl rfl rfl rfl rfl rfl ?_
    refine ops_nil ?_
    refine then_normal ?_
    refine wpD_ret ?_
    refine then_ret ?_
    have er4 := yes_eq hm; subst er4
    refine retX.of (s' := ⟨[(4, .ptr b1 0)], [(b1, Blk.cells [.v (.bool false), .v (.int .i64 (0 : Int)), .v (.int .i64 (0 : Int))] 23)], []⟩) (WkS.perm (WkS.cons rfl (Wk.refl _) (WkS.nil)) (List.Perm.refl _) (List.Perm.refl _)) (retD_mk (hh := []) (.inl rfl) (resL_cons (resOne_cell 0 rfl rfl rfl rfl) (resL_nil)) (List.nil_sublist _) (List.Sublist.refl _) ?_)
    exact ⟨rfl, rfl, rfl⟩
  · replace hm := yes_f hc3 hm
    refine wpD_skip ?_
    refine then_normal ?_
    refine wpD_seq ?_
    refine wpD_region ?_
    refine p_pure htab rfl rfl rfl rfl ?_
    refine p_pure htab rfl rfl rfl rfl ?_
    refine p_build (r := [.v (.bool true), .v (.int .i64 a0), .v (.int .i64 a1)]) htab rfl rfl rfl rfl rfl rfl rfl rfl rfl ?_
    refine p_store (ds' := [.v (.bool true), .v (.int .i64 a0), .v (.int .i64 a1)]) (h' := [(b1, Blk.cells [.v (.bool true), .v (.int .i64 a0), .v (.int .i64 a1)] 23)]) 0 htab rfl rfl rfl rfl rfl rfl rfl rfl rfl rfl rfl rfl ?_
    refine ops_nil ?_
    refine then_normal ?_
    refine wpD_ret ?_
    have er5 := yes_eq hm; subst er5
    refine retX.of (s' := ⟨[(4, .ptr b1 0)], [(b1, Blk.cells [.v (.bool true), .v (.int .i64 a0), .v (.int .i64 a1)] 23)], []⟩) (WkS.perm (WkS.cons rfl (Wk.refl _) (WkS.nil)) (List.Perm.refl _) (List.Perm.refl _)) (retD_mk (hh := []) (.inl rfl) (resL_cons (resOne_cell 0 rfl rfl rfl rfl) (resL_nil)) (List.nil_sublist _) (List.Sublist.refl _) ?_)
    exact ⟨rfl, rfl, rfl⟩
noncomputable def span_One (a0 : Int) : Option (TApiSpan) :=
  ((span_Of a0 a0).bind fun x2 => some x2)
set_option maxRecDepth 100000 in
set_option maxHeartbeats 2000000 in
theorem span_One_ok (a0 : Int) (r : TApiSpan) (h0 : span_One a0 = some r) : CallsD Try.prog 16 [.v (.int .i64 a0)] [] [] (fun d h k => d = eTApiSpan r ∧ h = [] ∧ k = []) := by
  have hm := yes_of h0
  unfold span_One at hm
  clear h0
  refine enterX htab Try.func16 rfl rfl rfl rfl rfl (fun C => ?_)
  refine wpD_seq ?_
  refine wpD_region ?_
  refine p_alloc htab rfl rfl rfl rfl rfl rfl rfl (fun b1 => ?_)
  refine ops_nil ?_
  refine then_normal ?_
  refine wpD_seq ?_
  refine wpD_region ?_
  refine p_pure htab rfl rfl rfl rfl ?_
  refine p_pure htab rfl rfl rfl rfl ?_
  obtain ⟨x2, q2, hm⟩ := yes_bind hm
  refine p_call0 (span_Of_ok a0 a0 x2 q2) rfl rfl rfl rfl rfl (WkL.refl _) ?_
  rintro _ rfl
  refine p_store (ds' := [.v (.bool x2.gSome), .v (.int .i64 x2.gLo), .v (.int .i64 x2.gHi)]) (h' := [(b1, Blk.cells [.v (.bool x2.gSome), .v (.int .i64 x2.gLo), .v (.int .i64 x2.gHi)] 23)]) 0 htab rfl rfl rfl rfl rfl rfl rfl rfl rfl rfl rfl rfl ?_
  refine ops_nil ?_
  refine then_normal ?_
  refine wpD_ret ?_
  have er3 := yes_eq hm; subst er3
  refine retX.of (s' := ⟨[(2, .ptr b1 0)], [(b1, Blk.cells [.v (.bool x2.gSome), .v (.int .i64 x2.gLo), .v (.int .i64 x2.gHi)] 23)], []⟩) (WkS.perm (WkS.cons rfl (Wk.refl _) (WkS.nil)) (List.Perm.refl _) (List.Perm.refl _)) (retD_mk (hh := []) (.inl rfl) (resL_cons (resOne_cell 0 rfl rfl rfl rfl) (resL_nil)) (List.nil_sublist _) (List.Sublist.refl _) ?_)
  exact ⟨rfl, rfl, rfl⟩
noncomputable def span_All : Option (TApiSpan) :=
  ((span_Of (-9223372036854775808 : Int) (9223372036854775807 : Int)).bind fun x2 => some x2)
set_option maxRecDepth 100000 in
set_option maxHeartbeats 2000000 in
theorem span_All_ok  (r : TApiSpan) (h0 : span_All = some r) : CallsD Try.prog 45 [] [] [] (fun d h k => d = eTApiSpan r ∧ h = [] ∧ k = []) := by
  have hm := yes_of h0
  unfold span_All at hm
  clear h0
  refine enterX htab Try.func45 rfl rfl rfl rfl rfl (fun C => ?_)
  refine wpD_seq ?_
  refine wpD_region ?_
  refine p_alloc htab rfl rfl rfl rfl rfl rfl rfl (fun b1 => ?_)
  refine ops_nil ?_
  refine then_normal ?_
  refine wpD_seq ?_
  refine wpD_region ?_
  obtain ⟨x2, q2, hm⟩ := yes_bind hm
  refine p_call0 (span_Of_ok (-9223372036854775808 : Int) (9223372036854775807 : Int) x2 q2) rfl rfl rfl rfl rfl (WkL.refl _) ?_
  rintro _ rfl
  refine p_store (ds' := [.v (.bool x2.gSome), .v (.int .i64 x2.gLo), .v (.int .i64 x2.gHi)]) (h' := [(b1, Blk.cells [.v (.bool x2.gSome), .v (.int .i64 x2.gLo), .v (.int .i64 x2.gHi)] 23)]) 0 htab rfl rfl rfl rfl rfl rfl rfl rfl rfl rfl rfl rfl ?_
  refine ops_nil ?_
  refine then_normal ?_
  refine wpD_ret ?_
  have er3 := yes_eq hm; subst er3
  refine retX.of (s' := ⟨[(0, .ptr b1 0)], [(b1, Blk.cells [.v (.bool x2.gSome), .v (.int .i64 x2.gLo), .v (.int .i64 x2.gHi)] 23)], []⟩) (WkS.perm (WkS.cons rfl (Wk.refl _) (WkS.nil)) (List.Perm.refl _) (List.Perm.refl _)) (retD_mk (hh := []) (.inl rfl) (resL_cons (resOne_cell 0 rfl rfl rfl rfl) (resL_nil)) (List.nil_sublist _) (List.Sublist.refl _) ?_)
  exact ⟨rfl, rfl, rfl⟩
noncomputable def span_Clean (a0 : TApiSpan) : Option (TApiSpan) :=
  ((span_None a0).bind fun x3 => (bif x3 then some (⟨false, (0 : Int), (0 : Int)⟩ : TApiSpan) else some a0))
set_option maxRecDepth 100000 in
set_option maxHeartbeats 2000000 in
theorem span_Clean_ok (a0 : TApiSpan) (r : TApiSpan) (h0 : span_Clean a0 = some r) : CallsD Try.prog 57 [eTApiSpan a0] [] [] (fun d h k => d = eTApiSpan r ∧ h = [] ∧ k = []) := by
  have hm := yes_of h0
  unfold span_Clean at hm
  clear h0
  refine enterX htab Try.func57 rfl rfl rfl rfl rfl (fun C => ?_)
  refine wpD_seq ?_
  refine wpD_region ?_
  refine p_box rfl rfl rfl rfl rfl rfl rfl (fun b1 => ?_)
  refine p_alloc htab rfl rfl rfl rfl rfl rfl rfl (fun b2 => ?_)
  refine ops_nil ?_
  refine then_normal ?_
  refine wpD_seq ?_
  refine wpD_seq ?_
  refine wpD_region ?_
  refine p_load (d := eTApiSpan a0) 0 htab rfl rfl rfl rfl rfl rfl rfl rfl ?_
  obtain ⟨x3, q3, hm⟩ := yes_bind hm
  refine p_call0 (span_None_ok a0 x3 q3) rfl rfl rfl rfl rfl (WkL.refl _) ?_
  rintro _ rfl
  refine ops_nil ?_
  refine then_normal ?_
  refine wpD_cond rfl (fun hc4 => ?_) (fun hc4 => ?_)
  · replace hm := yes_t hc4 hm
    refine wpD_seq ?_
    refine wpD_region ?_
    refine p_build (r := [.v (.bool false), .v (.int .i64 (0 : Int)), .v (.int .i64 (0 : Int))]) htab rfl rfl rfl rfl rfl rfl rfl rfl rfl ?_
    refine p_store (ds' := [.v (.bool false), .v (.int .i64 (0 : Int)), .v (.int .i64 (0 : Int))]) (h' := [(b1, Blk.cells [.v (.bool a0.gSome), .v (.int .i64 a0.gLo), .v (.int .i64 a0.gHi)] 23), (b2, Blk.cells [.v (.bool false), .v (.int .i64 (0 : Int)), .v (.int .i64 (0 : Int))] 23)]) 1 htab rfl rfl rfl rfl rfl rfl rfl rfl rfl rfl rfl rfl ?_
    refine ops_nil ?_
    refine then_normal ?_
    refine wpD_ret ?_
    refine then_ret ?_
    have er5 := yes_eq hm; subst er5
    refine retX.of (s' := ⟨[(2, .ptr b2 0)], [(b2, Blk.cells [.v (.bool false), .v (.int .i64 (0 : Int)), .v (.int .i64 (0 : Int))] 23)], []⟩) (WkS.perm (WkS.cons rfl (Wk.refl _) (WkS.nil)) ((perm_at (j := 1) rfl).trans (List.Perm.cons _ (List.Perm.refl _))) (List.Perm.refl _)) (retD_mk (hh := []) (.inl rfl) (resL_cons (resOne_cell 0 rfl rfl rfl rfl) (resL_nil)) (List.nil_sublist _) (List.Sublist.refl _) ?_)
    exact ⟨rfl, rfl, rfl⟩
  · replace hm := yes_f hc4 hm
    refine wpD_skip ?_
    refine then_normal ?_
    refine wpD_seq ?_
    refine wpD_region ?_
    refine p_load (d := eTApiSpan a0) 0 htab rfl rfl rfl rfl rfl rfl rfl rfl ?_
    refine p_store (ds' := [.v (.bool a0.gSome), .v (.int .i64 a0.gLo), .v (.int .i64 a0.gHi)]) (h' := [(b1, Blk.cells [.v (.bool a0.gSome), .v (.int .i64 a0.gLo), .v (.int .i64 a0.gHi)] 23), (b2, Blk.cells [.v (.bool a0.gSome), .v (.int .i64 a0.gLo), .v (.int .i64 a0.gHi)] 23)]) 1 htab rfl rfl rfl rfl rfl rfl rfl rfl rfl rfl rfl rfl ?_
    refine ops_nil ?_
    refine then_normal ?_
    refine wpD_ret ?_
    have er6 := yes_eq hm; subst er6
    refine retX.of (s' := ⟨[(2, .ptr b2 0)], [(b2, Blk.cells [.v (.bool a0.gSome), .v (.int .i64 a0.gLo), .v (.int .i64 a0.gHi)] 23)], []⟩) (WkS.perm (WkS.cons rfl (Wk.refl _) (WkS.nil)) ((perm_at (j := 1) rfl).trans (List.Perm.cons _ (List.Perm.refl _))) (List.Perm.refl _)) (retD_mk (hh := []) (.inl rfl) (resL_cons (resOne_cell 0 rfl rfl rfl rfl) (resL_nil)) (List.nil_sublist _) (List.Sublist.refl _) ?_)
    exact ⟨rfl, rfl, rfl⟩
noncomputable def span_Join (a0 : TApiSpan) (a1 : TApiSpan) : Option (TApiSpan) :=
  ((span_None a0).bind fun x9 => (bif x9 then ((span_Clean a1).bind fun x15 => some x15) else ((span_None a1).bind fun x17 => (bif x17 then some a0 else ((span_Of (min a0.gLo a1.gLo) (max a0.gHi a1.gHi)).bind fun x21 => some x21)))))
set_option maxRecDepth 100000 in
set_option maxHeartbeats 2000000 in
theorem span_Join_ok (a0 : TApiSpan) (a1 : TApiSpan) (r : TApiSpan) (h0 : span_Join a0 a1 = some r) : CallsD Try.prog 23 [eTApiSpan a0, eTApiSpan a1] [] [] (fun d h k => d = eTApiSpan r ∧ h = [] ∧ k = []) := by
  have hm := yes_of h0
  unfold span_Join at hm
  clear h0
  refine enterX htab Try.func23 rfl rfl rfl rfl rfl (fun C => ?_)
  refine wpD_seq ?_
  refine wpD_region ?_
  refine p_box rfl rfl rfl rfl rfl rfl rfl (fun b1 => ?_)
  refine p_box rfl rfl rfl rfl rfl rfl rfl (fun b2 => ?_)
  refine p_alloc htab rfl rfl rfl rfl rfl rfl rfl (fun b3 => ?_)
  refine ops_nil ?_
  refine then_normal ?_
  refine wpD_seq ?_
  refine wpD_block ?_
  refine wpD_seq ?_
  refine wpD_region ?_
  refine p_load (d := eTApiSpan a0) 0 htab rfl rfl rfl rfl rfl rfl rfl rfl ?_
  obtain ⟨x9, q9, hm⟩ := yes_bind hm
  refine p_call0 (span_None_ok a0 x9 q9) rfl rfl rfl rfl rfl (WkL.refl _) ?_
  rintro _ rfl
  refine p_pure htab rfl rfl rfl rfl ?_
  refine ops_nil ?_
  refine then_normal ?_
  refine wpD_cond rfl (fun hc14 => ?_) (fun hc14 => ?_)
  · replace hm := yes_t hc14 hm
    refine wpD_seq ?_
    refine wpD_region ?_
    refine p_load (d := eTApiSpan a1) 1 htab rfl rfl rfl rfl rfl rfl rfl rfl ?_
    obtain ⟨x15, q15, hm⟩ := yes_bind hm
    refine p_call0 (span_Clean_ok a1 x15 q15) rfl rfl rfl rfl rfl (WkL.refl _) ?_
    rintro _ rfl
    refine p_store (ds' := [.v (.bool x15.gSome), .v (.int .i64 x15.gLo), .v (.int .i64 x15.gHi)]) (h' := [(b1, Blk.cells [.v (.bool a0.gSome), .v (.int .i64 a0.gLo), .v (.int .i64 a0.gHi)] 23), (b2, Blk.cells [.v (.bool a1.gSome), .v (.int .i64 a1.gLo), .v (.int .i64 a1.gHi)] 23), (b3, Blk.cells [.v (.bool x15.gSome), .v (.int .i64 x15.gLo), .v (.int .i64 x15.gHi)] 23)]) 2 htab rfl rfl rfl rfl rfl rfl rfl rfl rfl rfl rfl rfl ?_
    refine ops_nil ?_
    refine then_normal ?_
    refine wpD_ret ?_
    refine block_ret ?_
    refine then_ret ?_
    have er16 := yes_eq hm; subst er16
    refine retX.of (s' := ⟨[(4, .ptr b3 0)], [(b3, Blk.cells [.v (.bool x15.gSome), .v (.int .i64 x15.gLo), .v (.int .i64 x15.gHi)] 23)], []⟩) (WkS.perm (WkS.cons rfl (Wk.refl _) (WkS.nil)) ((perm_at (j := 2) rfl).trans (List.Perm.cons _ (List.Perm.refl _))) (List.Perm.refl _)) (retD_mk (hh := []) (.inl rfl) (resL_cons (resOne_cell 0 rfl rfl rfl rfl) (resL_nil)) (List.nil_sublist _) (List.Sublist.refl _) ?_)
    exact ⟨rfl, rfl, rfl⟩
  · replace hm := yes_f hc14 hm
    refine wpD_seq ?_
    refine wpD_region ?_
    refine p_load (d := eTApiSpan a1) 1 htab rfl rfl rfl rfl rfl rfl rfl rfl ?_
    obtain ⟨x17, q17, hm⟩ := yes_bind hm
    refine p_call0 (span_None_ok a1 x17 q17) rfl rfl rfl rfl rfl (WkL.refl _) ?_
    rintro _ rfl
    refine p_pure htab rfl rfl rfl rfl ?_
    refine ops_nil ?_
    refine then_normal ?_
    refine wpD_cond rfl (fun hc19 => ?_) (fun hc19 => ?_)
    · replace hm := yes_t hc19 hm
      refine wpD_seq ?_
      refine wpD_region ?_
      refine p_load (d := eTApiSpan a0) 0 htab rfl rfl rfl rfl rfl rfl rfl rfl ?_
      refine p_store (ds' := [.v (.bool a0.gSome), .v (.int .i64 a0.gLo), .v (.int .i64 a0.gHi)]) (h' := [(b1, Blk.cells [.v (.bool a0.gSome), .v (.int .i64 a0.gLo), .v (.int .i64 a0.gHi)] 23), (b2, Blk.cells [.v (.bool a1.gSome), .v (.int .i64 a1.gLo), .v (.int .i64 a1.gHi)] 23), (b3, Blk.cells [.v (.bool a0.gSome), .v (.int .i64 a0.gLo), .v (.int .i64 a0.gHi)] 23)]) 2 htab rfl rfl rfl rfl rfl rfl rfl rfl rfl rfl rfl rfl ?_
      refine ops_nil ?_
      refine then_normal ?_
      refine wpD_ret ?_
      refine block_ret ?_
      refine then_ret ?_
      have er20 := yes_eq hm; subst er20
      refine retX.of (s' := ⟨[(4, .ptr b3 0)], [(b3, Blk.cells [.v (.bool a0.gSome), .v (.int .i64 a0.gLo), .v (.int .i64 a0.gHi)] 23)], []⟩) (WkS.perm (WkS.cons rfl (Wk.refl _) (WkS.nil)) ((perm_at (j := 2) rfl).trans (List.Perm.cons _ (List.Perm.refl _))) (List.Perm.refl _)) (retD_mk (hh := []) (.inl rfl) (resL_cons (resOne_cell 0 rfl rfl rfl rfl) (resL_nil)) (List.nil_sublist _) (List.Sublist.refl _) ?_)
      exact ⟨rfl, rfl, rfl⟩
    · replace hm := yes_f hc19 hm
      refine wpD_skip ?_
      refine block_normal ?_
      refine then_normal ?_
      refine wpD_seq ?_
      refine wpD_region ?_
      refine p_pure htab rfl rfl rfl rfl ?_
      refine p_load 0 htab rfl rfl rfl rfl rfl rfl rfl rfl ?_
      refine p_pure htab rfl rfl rfl rfl ?_
      refine p_load 1 htab rfl rfl rfl rfl rfl rfl rfl rfl ?_
      refine p_min rfl rfl rfl rfl rfl rfl ?_
      refine p_pure htab rfl rfl rfl rfl ?_
      refine p_load 0 htab rfl rfl rfl rfl rfl rfl rfl rfl ?_
      refine p_pure htab rfl rfl rfl rfl ?_
      refine p_load 1 htab rfl rfl rfl rfl rfl rfl rfl rfl ?_
      refine p_max rfl rfl rfl rfl rfl rfl ?_
      obtain ⟨x21, q21, hm⟩ := yes_bind hm
      refine p_call0 (span_Of_ok (min a0.gLo a1.gLo) (max a0.gHi a1.gHi) x21 q21) rfl rfl rfl rfl rfl (WkL.refl _) ?_
      rintro _ rfl
      refine p_store (ds' := [.v (.bool x21.gSome), .v (.int .i64 x21.gLo), .v (.int .i64 x21.gHi)]) (h' := [(b1, Blk.cells [.v (.bool a0.gSome), .v (.int .i64 a0.gLo), .v (.int .i64 a0.gHi)] 23), (b2, Blk.cells [.v (.bool a1.gSome), .v (.int .i64 a1.gLo), .v (.int .i64 a1.gHi)] 23), (b3, Blk.cells [.v (.bool x21.gSome), .v (.int .i64 x21.gLo), .v (.int .i64 x21.gHi)] 23)]) 2 htab rfl rfl rfl rfl rfl rfl rfl rfl rfl rfl rfl rfl ?_
      refine ops_nil ?_
      refine then_normal ?_
      refine wpD_ret ?_
      have er22 := yes_eq hm; subst er22
      refine retX.of (s' := ⟨[(4, .ptr b3 0)], [(b3, Blk.cells [.v (.bool x21.gSome), .v (.int .i64 x21.gLo), .v (.int .i64 x21.gHi)] 23)], []⟩) (WkS.perm (WkS.cons rfl (Wk.refl _) (WkS.nil)) ((perm_at (j := 2) rfl).trans (List.Perm.cons _ (List.Perm.refl _))) (List.Perm.refl _)) (retD_mk (hh := []) (.inl rfl) (resL_cons (resOne_cell 0 rfl rfl rfl rfl) (resL_nil)) (List.nil_sublist _) (List.Sublist.refl _) ?_)
      exact ⟨rfl, rfl, rfl⟩
noncomputable def span_Leq (a0 : TApiSpan) (a1 : TApiSpan) : Option (Bool) :=
  ((span_None a0).bind fun x3 => (bif x3 then some true else ((span_Has a1 a0.gLo).bind fun x6 => (bif x6 then ((span_Has a1 a0.gHi).bind fun x8 => some x8) else some false))))
set_option maxRecDepth 100000 in
set_option maxHeartbeats 2000000 in
theorem span_Leq_ok (a0 : TApiSpan) (a1 : TApiSpan) (r : Bool) (h0 : span_Leq a0 a1 = some r) : CallsD Try.prog 24 [eTApiSpan a0, eTApiSpan a1] [] [] (fun d h k => d = .v (.bool r) ∧ h = [] ∧ k = []) := by
  have hm := yes_of h0
  unfold span_Leq at hm
  clear h0
  refine enterX htab Try.func24 rfl rfl rfl rfl rfl (fun C => ?_)
  refine wpD_seq ?_
  refine wpD_region ?_
  refine p_box rfl rfl rfl rfl rfl rfl rfl (fun b1 => ?_)
  refine p_box rfl rfl rfl rfl rfl rfl rfl (fun b2 => ?_)
  refine p_pure htab rfl rfl rfl rfl ?_
  refine ops_nil ?_
  refine then_normal ?_
  refine wpD_seq ?_
  refine wpD_region ?_
  refine p_load (d := eTApiSpan a0) 0 htab rfl rfl rfl rfl rfl rfl rfl rfl ?_
  obtain ⟨x3, q3, hm⟩ := yes_bind hm
  refine p_call0 (span_None_ok a0 x3 q3) rfl rfl rfl rfl rfl (WkL.refl _) ?_
  rintro _ rfl
  refine p_pure htab rfl rfl rfl rfl ?_
  refine p_split (i := 7) rfl (fun hg4 => ?_) (fun hg4 => ?_)
  · replace hm := yes_t hg4 hm
    refine p_skip rfl rfl rfl ?_
    refine p_skip rfl rfl rfl ?_
    refine p_skip rfl rfl rfl ?_
    refine p_skip rfl rfl rfl ?_
    refine p_skip rfl rfl rfl ?_
    refine p_skip rfl rfl rfl ?_
    refine p_skip rfl rfl rfl ?_
    refine p_skip rfl rfl rfl ?_
    refine p_skip rfl rfl rfl ?_
    refine p_skip rfl rfl rfl ?_
    refine p_pickT rfl rfl rfl rfl rfl rfl ?_
    refine p_pure htab rfl rfl rfl rfl ?_
    refine ops_nil ?_
    refine then_normal ?_
    refine wpD_ret ?_
    have er5 := yes_eq hm; subst er5
    refine retX.of (s' := ⟨[(4, .v (.bool true))], [], []⟩) (WkS.perm (WkS.cons rfl (Wk.refl _) (WkS.nil)) (List.Perm.refl _) (List.Perm.refl _)) (retD_mk (hh := []) (.inl rfl) (resL_cons (resOne_tmp rfl) (resL_nil)) (List.nil_sublist _) (List.Sublist.refl _) ?_)
    exact ⟨rfl, rfl, rfl⟩
  · replace hm := yes_f hg4 hm
    refine p_load (d := eTApiSpan a1) 1 htab rfl rfl rfl rfl rfl rfl rfl rfl ?_
    refine p_pure htab rfl rfl rfl rfl ?_
    refine p_load 0 htab rfl rfl rfl rfl rfl rfl rfl rfl ?_
    obtain ⟨x6, q6, hm⟩ := yes_bind hm
    refine p_call0 (span_Has_ok a1 a0.gLo x6 q6) rfl rfl rfl rfl rfl (WkL.refl _) ?_
    rintro _ rfl
    refine p_pure htab rfl rfl rfl rfl ?_
    refine p_split (i := 12) rfl (fun hg7 => ?_) (fun hg7 => ?_)
    · replace hm := yes_t hg7 hm
      refine p_load (d := eTApiSpan a1) 1 htab rfl rfl rfl rfl rfl rfl rfl rfl ?_
      refine p_pure htab rfl rfl rfl rfl ?_
      refine p_load 0 htab rfl rfl rfl rfl rfl rfl rfl rfl ?_
      obtain ⟨x8, q8, hm⟩ := yes_bind hm
      refine p_call0 (span_Has_ok a1 a0.gHi x8 q8) rfl rfl rfl rfl rfl (WkL.refl _) ?_
      rintro _ rfl
      refine p_pickT rfl rfl rfl rfl rfl rfl ?_
      refine p_pickF rfl rfl rfl rfl rfl rfl ?_
      refine p_pure htab rfl rfl rfl rfl ?_
      refine ops_nil ?_
      refine then_normal ?_
      refine wpD_ret ?_
      have er9 := yes_eq hm; subst er9
      refine retX.of (s' := ⟨[(4, .v (.bool x8))], [], []⟩) (WkS.perm (WkS.cons rfl (Wk.refl _) (WkS.nil)) (List.Perm.refl _) (List.Perm.refl _)) (retD_mk (hh := []) (.inl rfl) (resL_cons (resOne_tmp rfl) (resL_nil)) (List.nil_sublist _) (List.Sublist.refl _) ?_)
      exact ⟨rfl, rfl, rfl⟩
    · replace hm := yes_f hg7 hm
      refine p_skip rfl rfl rfl ?_
      refine p_skip rfl rfl rfl ?_
      refine p_skip rfl rfl rfl ?_
      refine p_skip rfl rfl rfl ?_
      refine p_pickF rfl rfl rfl rfl rfl rfl ?_
      refine p_pickF rfl rfl rfl rfl rfl rfl ?_
      refine p_pure htab rfl rfl rfl rfl ?_
      refine ops_nil ?_
      refine then_normal ?_
      refine wpD_ret ?_
      have er10 := yes_eq hm; subst er10
      refine retX.of (s' := ⟨[(4, .v (.bool false))], [], []⟩) (WkS.perm (WkS.cons rfl (Wk.refl _) (WkS.nil)) (List.Perm.refl _) (List.Perm.refl _)) (retD_mk (hh := []) (.inl rfl) (resL_cons (resOne_tmp rfl) (resL_nil)) (List.nil_sublist _) (List.Sublist.refl _) ?_)
      exact ⟨rfl, rfl, rfl⟩
noncomputable def span_Meet (a0 : TApiSpan) (a1 : TApiSpan) : Option (TApiSpan) :=
  (Option.bind (α := Bool) ((span_None a0).bind fun x8 => (bif x8 then some true else ((span_None a1).bind fun x10 => some x10))) fun y7 => (bif y7 then some (⟨false, (0 : Int), (0 : Int)⟩ : TApiSpan) else ((span_Of (max a0.gLo a1.gLo) (min a0.gHi a1.gHi)).bind fun x14 => some x14)))
set_option maxRecDepth 100000 in
set_option maxHeartbeats 2000000 in
theorem span_Meet_ok (a0 : TApiSpan) (a1 : TApiSpan) (r : TApiSpan) (h0 : span_Meet a0 a1 = some r) : CallsD Try.prog 81 [eTApiSpan a0, eTApiSpan a1] [] [] (fun d h k => d = eTApiSpan r ∧ h = [] ∧ k = []) := by
  have hm := yes_of h0
  unfold span_Meet at hm
  clear h0
  refine enterX htab Try.func81 rfl rfl rfl rfl rfl (fun C => ?_)
  refine wpD_seq ?_
  refine wpD_region ?_
  refine p_box rfl rfl rfl rfl rfl rfl rfl (fun b1 => ?_)
  refine p_box rfl rfl rfl rfl rfl rfl rfl (fun b2 => ?_)
  refine p_alloc htab rfl rfl rfl rfl rfl rfl rfl (fun b3 => ?_)
  refine ops_nil ?_
  refine then_normal ?_
  refine wpD_seq ?_
  refine wpD_seq ?_
  obtain ⟨y7, q7, ho7⟩ := yes_bind hm
  refine wpD_mid (Y := Unit) (fun z7 => (⟨[(2, .ptr b1 0), (3, .ptr b2 0), (4, .ptr b3 0), (10, .v (.bool y7))], [(b1, Blk.cells [.v (.bool a0.gSome), .v (.int .i64 a0.gLo), .v (.int .i64 a0.gHi)] 23), (b2, Blk.cells [.v (.bool a1.gSome), .v (.int .i64 a1.gLo), .v (.int .i64 a1.gHi)] 23), (b3, Blk.cells [.v (.bool false), .v (.int .i64 (0 : Int)), .v (.int .i64 (0 : Int))] 23)], []⟩ : S)) ?_ ?_
  · clear hm; have hm := yes_of q7
    refine wpD_region ?_
    refine p_load (d := eTApiSpan a0) 0 htab rfl rfl rfl rfl rfl rfl rfl rfl ?_
    obtain ⟨x8, q8, hm⟩ := yes_bind hm
    refine p_call0 (span_None_ok a0 x8 q8) rfl rfl rfl rfl rfl (WkL.refl _) ?_
    rintro _ rfl
    refine p_pure htab rfl rfl rfl rfl ?_
    refine p_split (i := 7) rfl (fun hg9 => ?_) (fun hg9 => ?_)
    · replace hm := yes_t hg9 hm
      refine p_skip rfl rfl rfl ?_
      refine p_skip rfl rfl rfl ?_
      refine p_pickT rfl rfl rfl rfl rfl rfl ?_
      refine ops_nil ?_
      have e7 := yes_eq hm; subst e7
      refine ⟨rfl, ?_⟩
      exact WkX.of () (WkS.perm (WkS.cons rfl (Wk.refl _) (WkS.cons rfl (Wk.refl _) (WkS.cons rfl (Wk.refl _) (WkS.cons rfl (Wk.refl _) (WkS.nil))))) (List.Perm.refl _) (List.Perm.refl _))
    · replace hm := yes_f hg9 hm
      refine p_load (d := eTApiSpan a1) 1 htab rfl rfl rfl rfl rfl rfl rfl rfl ?_
      obtain ⟨x10, q10, hm⟩ := yes_bind hm
      refine p_call0 (span_None_ok a1 x10 q10) rfl rfl rfl rfl rfl (WkL.refl _) ?_
      rintro _ rfl
      refine p_pickF rfl rfl rfl rfl rfl rfl ?_
      refine ops_nil ?_
      have e7 := yes_eq hm; subst e7
      refine ⟨rfl, ?_⟩
      exact WkX.of () (WkS.perm (WkS.cons rfl (Wk.refl _) (WkS.cons rfl (Wk.refl _) (WkS.cons rfl (Wk.refl _) (WkS.cons rfl (Wk.refl _) (WkS.nil))))) (List.Perm.refl _) (List.Perm.refl _))
  · intro s7 hw7; clear hm; have hm := ho7; clear q7 ho7
    refine then_normal ?_
    refine wpD_wkX hw7 (fun z7 => ?_)
    refine wpD_cond rfl (fun hc12 => ?_) (fun hc12 => ?_)
    · replace hm := yes_t hc12 hm
      refine wpD_seq ?_
      refine wpD_region ?_
      refine p_build (r := [.v (.bool false), .v (.int .i64 (0 : Int)), .v (.int .i64 (0 : Int))]) htab rfl rfl rfl rfl rfl rfl rfl rfl rfl ?_
      refine p_store (ds' := [.v (.bool false), .v (.int .i64 (0 : Int)), .v (.int .i64 (0 : Int))]) (h' := [(b1, Blk.cells [.v (.bool a0.gSome), .v (.int .i64 a0.gLo), .v (.int .i64 a0.gHi)] 23), (b2, Blk.cells [.v (.bool a1.gSome), .v (.int .i64 a1.gLo), .v (.int .i64 a1.gHi)] 23), (b3, Blk.cells [.v (.bool false), .v (.int .i64 (0 : Int)), .v (.int .i64 (0 : Int))] 23)]) 2 htab rfl rfl rfl rfl rfl rfl rfl rfl rfl rfl rfl rfl ?_
      refine ops_nil ?_
      refine then_normal ?_
      refine wpD_ret ?_
      refine then_ret ?_
      have er13 := yes_eq hm; subst er13
      refine retX.of (s' := ⟨[(4, .ptr b3 0)], [(b3, Blk.cells [.v (.bool false), .v (.int .i64 (0 : Int)), .v (.int .i64 (0 : Int))] 23)], []⟩) (WkS.perm (WkS.cons rfl (Wk.refl _) (WkS.nil)) ((perm_at (j := 2) rfl).trans (List.Perm.cons _ (List.Perm.refl _))) (List.Perm.refl _)) (retD_mk (hh := []) (.inl rfl) (resL_cons (resOne_cell 0 rfl rfl rfl rfl) (resL_nil)) (List.nil_sublist _) (List.Sublist.refl _) ?_)
      exact ⟨rfl, rfl, rfl⟩
    · replace hm := yes_f hc12 hm
      refine wpD_skip ?_
      refine then_normal ?_
      refine wpD_seq ?_
      refine wpD_region ?_
      refine p_pure htab rfl rfl rfl rfl ?_
      refine p_load 0 htab rfl rfl rfl rfl rfl rfl rfl rfl ?_
      refine p_pure htab rfl rfl rfl rfl ?_
      refine p_load 1 htab rfl rfl rfl rfl rfl rfl rfl rfl ?_
      refine p_max rfl rfl rfl rfl rfl rfl ?_
      refine p_pure htab rfl rfl rfl rfl ?_
      refine p_load 0 htab rfl rfl rfl rfl rfl rfl rfl rfl ?_
      refine p_pure htab rfl rfl rfl rfl ?_
      refine p_load 1 htab rfl rfl rfl rfl rfl rfl rfl rfl ?_
      refine p_min rfl rfl rfl rfl rfl rfl ?_
      obtain ⟨x14, q14, hm⟩ := yes_bind hm
      refine p_call0 (span_Of_ok (max a0.gLo a1.gLo) (min a0.gHi a1.gHi) x14 q14) rfl rfl rfl rfl rfl (WkL.refl _) ?_
      rintro _ rfl
      refine p_store (ds' := [.v (.bool x14.gSome), .v (.int .i64 x14.gLo), .v (.int .i64 x14.gHi)]) (h' := [(b1, Blk.cells [.v (.bool a0.gSome), .v (.int .i64 a0.gLo), .v (.int .i64 a0.gHi)] 23), (b2, Blk.cells [.v (.bool a1.gSome), .v (.int .i64 a1.gLo), .v (.int .i64 a1.gHi)] 23), (b3, Blk.cells [.v (.bool x14.gSome), .v (.int .i64 x14.gLo), .v (.int .i64 x14.gHi)] 23)]) 2 htab rfl rfl rfl rfl rfl rfl rfl rfl rfl rfl rfl rfl ?_
      refine ops_nil ?_
      refine then_normal ?_
      refine wpD_ret ?_
      have er15 := yes_eq hm; subst er15
      refine retX.of (s' := ⟨[(4, .ptr b3 0)], [(b3, Blk.cells [.v (.bool x14.gSome), .v (.int .i64 x14.gLo), .v (.int .i64 x14.gHi)] 23)], []⟩) (WkS.perm (WkS.cons rfl (Wk.refl _) (WkS.nil)) ((perm_at (j := 2) rfl).trans (List.Perm.cons _ (List.Perm.refl _))) (List.Perm.refl _)) (retD_mk (hh := []) (.inl rfl) (resL_cons (resOne_cell 0 rfl rfl rfl rfl) (resL_nil)) (List.nil_sublist _) (List.Sublist.refl _) ?_)
      exact ⟨rfl, rfl, rfl⟩
noncomputable def wide_best (a0 : TApiWide) (a1 : Int) (a2 : List TApiWide) : Option (TApiWide) :=
  (Option.bind (α := Int × Int) (loopM (fun (s21 : Int × Int × Int) => (bif (decide (s21.1 < (a2.length : Int))) then ((idx a2 s21.1).bind fun x33 => ((need (pWW x33 (⟨s21.2.1, s21.2.2⟩ : TApiWide))).bind fun x35 => (bif ((wCmp x33 (⟨s21.2.1, s21.2.2⟩ : TApiWide)) == a1) then some (.next ((IntKind.i64.wrap (s21.1 + (1 : Int))), x33.gHi, x33.gLo)) else some (.next ((IntKind.i64.wrap (s21.1 + (1 : Int))), s21.2.1, s21.2.2))))) else some (.done (s21.2.1, s21.2.2)))) ((0 : Int), a0.gHi, a0.gLo)) fun y20 => some (⟨y20.1, y20.2⟩ : TApiWide))
set_option maxRecDepth 100000 in
set_option maxHeartbeats 2000000 in
theorem wide_best_ok (a0 : TApiWide) (a1 : Int) (a2 : List TApiWide) (r : TApiWide) (h0 : wide_best a0 a1 a2 = some r) : CallsD Try.prog 80 [eTApiWide a0, .v (.int .i64 a1), .lst 2 (a2.map eTApiWide) .no] [] [] (fun d h k => d = eTApiWide r ∧ h = [] ∧ k = []) := by
  have hm := yes_of h0
  unfold wide_best at hm
  clear h0
  refine enterX htab Try.func80 rfl rfl rfl rfl rfl (fun C => ?_)
  refine wpD_seq ?_
  refine wpD_region ?_
  refine p_box rfl rfl rfl rfl rfl rfl rfl (fun b1 => ?_)
  refine p_alloc htab rfl rfl rfl rfl rfl rfl rfl (fun b2 => ?_)
  refine ops_nil ?_
  refine then_normal ?_
  refine wpD_seq ?_
  refine wpD_seq ?_
  refine wpD_region ?_
  refine p_pure htab rfl rfl rfl rfl ?_
  refine p_lenL htab rfl rfl rfl rfl rfl rfl rfl (by first | exact map_len | rfl) ?_
  refine p_pure htab rfl rfl rfl rfl ?_
  refine ops_nil ?_
  refine then_normal ?_
  obtain ⟨y20, q20, ho20⟩ := yes_bind hm
  refine wpD_mid (Y := Unit) (fun z20 => (⟨[(3, .ptr b1 0), (6, .ptr b2 0)], [(b1, Blk.cells [.v (.int .i64 y20.1), .v (.int .u64 y20.2)] 31), (b2, Blk.cells [.v (.int .i64 (0 : Int)), .v (.int .u64 (0 : Int))] 31)], []⟩ : S)) ?_ ?_
  · clear hm; have hm := yes_of q20
    refine wpD_block ?_
    obtain ⟨u21, hl21, hq21⟩ := yes_m hm
    refine loop_M (Y := Unit) hl21 (fun s21 z21 => (⟨[(1, .v (.int .i64 a1)), (3, .ptr b1 0), (6, .ptr b2 0), (9, .lst 2 (a2.map eTApiWide) .no), (10, .v (.int .i64 (a2.length : Int))), (11, .v (.int .i64 s21.1))], [(b1, Blk.cells [.v (.int .i64 s21.2.1), .v (.int .u64 s21.2.2)] 31), (b2, Blk.cells [.v (.int .i64 (0 : Int)), .v (.int .u64 (0 : Int))] 31)], []⟩ : S)) ?_ ?_
    · skip
      exact WkX.of () (WkS.perm (WkS.cons rfl (Wk.refl _) (WkS.cons rfl (Wk.refl _) (WkS.cons rfl (Wk.refl _) (WkS.cons rfl (Wk.refl _) (WkS.cons rfl (Wk.refl _) (WkS.cons rfl (Wk.refl _) (WkS.nil))))))) (List.Perm.refl _) (List.Perm.refl _))
    · intro G21 s21 z21 hm
      refine wpD_seq ?_
      refine wpD_region ?_
      refine p_pure htab rfl rfl rfl rfl ?_
      refine ops_nil ?_
      refine then_normal ?_
      refine wpD_seq ?_
      refine wpD_cond rfl (fun hc32 => ?_) (fun hc32 => ?_)
      · replace hm := yes_t hc32 hm
        refine wpD_skip ?_
        refine then_normal ?_
        refine wpD_seq ?_
        refine wpD_block ?_
        refine wpD_seq ?_
        refine wpD_region ?_
        obtain ⟨x33, q33, hm⟩ := yes_bind hm
        refine p_elem htab rfl rfl rfl rfl rfl rfl rfl rfl rfl rfl (idx_nonneg q33) (idx_map q33) ?_
        refine p_loadEl (d := eTApiWide x33) htab rfl rfl rfl rfl rfl rfl rfl rfl ?_
        refine p_alloc htab rfl rfl rfl rfl rfl rfl rfl (fun b34 => ?_)
        refine p_store (ds' := [.v (.int .i64 x33.gHi), .v (.int .u64 x33.gLo)]) (h' := [(b1, Blk.cells [.v (.int .i64 s21.2.1), .v (.int .u64 s21.2.2)] 31), (b2, Blk.cells [.v (.int .i64 (0 : Int)), .v (.int .u64 (0 : Int))] 31), (b34, Blk.cells [.v (.int .i64 x33.gHi), .v (.int .u64 x33.gLo)] 31)]) 2 htab rfl rfl rfl rfl rfl rfl rfl rfl rfl rfl rfl rfl ?_
        refine ops_nil ?_
        refine then_normal ?_
        refine wpD_seq ?_
        refine wpD_region ?_
        refine p_load (d := eTApiWide x33) 2 htab rfl rfl rfl rfl rfl rfl rfl rfl ?_
        refine p_load (d := eTApiWide (⟨s21.2.1, s21.2.2⟩ : TApiWide)) 0 htab rfl rfl rfl rfl rfl rfl rfl rfl ?_
        obtain ⟨x35, q35, hm⟩ := yes_bind hm
        refine p_call0 (wCmp_ok x33 (⟨s21.2.1, s21.2.2⟩ : TApiWide) (need_ok q35)) rfl rfl rfl rfl rfl (WkL.refl _) ?_
        rintro _ rfl
        refine p_pure htab rfl rfl rfl rfl ?_
        refine p_pure htab rfl rfl rfl rfl ?_
        refine ops_nil ?_
        refine then_normal ?_
        refine wpD_cond rfl (fun hc36 => ?_) (fun hc36 => ?_)
        · replace hm := yes_t hc36 hm
          refine wpD_region ?_
          refine p_load (d := eTApiWide x33) 2 htab rfl rfl rfl rfl rfl rfl rfl rfl ?_
          refine p_store (ds' := [.v (.int .i64 x33.gHi), .v (.int .u64 x33.gLo)]) (h' := [(b1, Blk.cells [.v (.int .i64 x33.gHi), .v (.int .u64 x33.gLo)] 31), (b2, Blk.cells [.v (.int .i64 (0 : Int)), .v (.int .u64 (0 : Int))] 31), (b34, Blk.cells [.v (.int .i64 x33.gHi), .v (.int .u64 x33.gLo)] 31)]) 0 htab rfl rfl rfl rfl rfl rfl rfl rfl rfl rfl rfl rfl ?_
          refine ops_nil ?_
          refine block_normal ?_
          refine then_normal ?_
          refine wpD_region ?_
          refine p_pure htab rfl rfl rfl rfl ?_
          refine p_pure htab rfl rfl rfl rfl ?_
          refine ops_nil ?_
          refine then_normal ⟨_, lp_next hm, ?_⟩
          exact WkX.of () (WkS.perm (WkS.cons rfl (Wk.refl _) (WkS.cons rfl (Wk.refl _) (WkS.cons rfl (Wk.refl _) (WkS.cons rfl (Wk.refl _) (WkS.cons rfl (Wk.refl _) (WkS.cons rfl (Wk.refl _) (WkS.nil))))))) (List.Perm.refl _) (List.Perm.refl _))
        · replace hm := yes_f hc36 hm
          refine wpD_skip ?_
          refine block_normal ?_
          refine then_normal ?_
          refine wpD_region ?_
          refine p_pure htab rfl rfl rfl rfl ?_
          refine p_pure htab rfl rfl rfl rfl ?_
          refine ops_nil ?_
          refine then_normal ⟨_, lp_next hm, ?_⟩
          exact WkX.of () (WkS.perm (WkS.cons rfl (Wk.refl _) (WkS.cons rfl (Wk.refl _) (WkS.cons rfl (Wk.refl _) (WkS.cons rfl (Wk.refl _) (WkS.cons rfl (Wk.refl _) (WkS.cons rfl (Wk.refl _) (WkS.nil))))))) (List.Perm.refl _) (List.Perm.refl _))
      · replace hm := yes_f hc32 hm
        refine wpD_exit ?_
        refine then_exit ?_
        have e21 := lp_done hm; subst e21; clear hm; have hm := hq21
        refine then_exit ?_
        refine block_hit ?_
        have e20 := yes_eq hm; subst e20
        refine ⟨rfl, ?_⟩
        exact WkX.of () (WkS.perm (WkS.cons rfl (Wk.refl _) (WkS.cons rfl (Wk.refl _) (WkS.nil))) (List.Perm.refl _) (List.Perm.refl _))
  · intro s20 hw20; clear hm; have hm := ho20; clear q20 ho20
    refine then_normal ?_
    refine wpD_wkX hw20 (fun z20 => ?_)
    refine wpD_seq ?_
    refine wpD_region ?_
    refine p_load (d := eTApiWide (⟨y20.1, y20.2⟩ : TApiWide)) 0 htab rfl rfl rfl rfl rfl rfl rfl rfl ?_
    refine p_store (ds' := [.v (.int .i64 y20.1), .v (.int .u64 y20.2)]) (h' := [(b1, Blk.cells [.v (.int .i64 y20.1), .v (.int .u64 y20.2)] 31), (b2, Blk.cells [.v (.int .i64 y20.1), .v (.int .u64 y20.2)] 31)]) 1 htab rfl rfl rfl rfl rfl rfl rfl rfl rfl rfl rfl rfl ?_
    refine ops_nil ?_
    refine then_normal ?_
    refine wpD_ret ?_
    have er37 := yes_eq hm; subst er37
    refine retX.of (s' := ⟨[(6, .ptr b2 0)], [(b2, Blk.cells [.v (.int .i64 y20.1), .v (.int .u64 y20.2)] 31)], []⟩) (WkS.perm (WkS.cons rfl (Wk.refl _) (WkS.nil)) ((perm_at (j := 1) rfl).trans (List.Perm.cons _ (List.Perm.refl _))) (List.Perm.refl _)) (retD_mk (hh := []) (.inl rfl) (resL_cons (resOne_cell 0 rfl rfl rfl rfl) (resL_nil)) (List.nil_sublist _) (List.Sublist.refl _) ?_)
    exact ⟨rfl, rfl, rfl⟩
noncomputable def wide_Min (a0 : TApiWide) (a1 : List TApiWide) : Option (TApiWide) :=
  ((wide_best a0 (-1 : Int) a1).bind fun x3 => some x3)
set_option maxRecDepth 100000 in
set_option maxHeartbeats 2000000 in
theorem wide_Min_ok (a0 : TApiWide) (a1 : List TApiWide) (r : TApiWide) (h0 : wide_Min a0 a1 = some r) : CallsD Try.prog 61 [eTApiWide a0, .lst 2 (a1.map eTApiWide) .no] [] [] (fun d h k => d = eTApiWide r ∧ h = [] ∧ k = []) := by
  have hm := yes_of h0
  unfold wide_Min at hm
  clear h0
  refine enterX htab Try.func61 rfl rfl rfl rfl rfl (fun C => ?_)
  refine wpD_seq ?_
  refine wpD_region ?_
  refine p_box rfl rfl rfl rfl rfl rfl rfl (fun b1 => ?_)
  refine p_alloc htab rfl rfl rfl rfl rfl rfl rfl (fun b2 => ?_)
  refine ops_nil ?_
  refine then_normal ?_
  refine wpD_seq ?_
  refine wpD_region ?_
  refine p_load (d := eTApiWide a0) 0 htab rfl rfl rfl rfl rfl rfl rfl rfl ?_
  refine p_pure htab rfl rfl rfl rfl ?_
  obtain ⟨x3, q3, hm⟩ := yes_bind hm
  refine p_call0 (wide_best_ok a0 (-1 : Int) a1 x3 q3) rfl rfl rfl rfl rfl (WkL.refl _) ?_
  rintro _ rfl
  refine p_store (ds' := [.v (.int .i64 x3.gHi), .v (.int .u64 x3.gLo)]) (h' := [(b1, Blk.cells [.v (.int .i64 a0.gHi), .v (.int .u64 a0.gLo)] 31), (b2, Blk.cells [.v (.int .i64 x3.gHi), .v (.int .u64 x3.gLo)] 31)]) 1 htab rfl rfl rfl rfl rfl rfl rfl rfl rfl rfl rfl rfl ?_
  refine ops_nil ?_
  refine then_normal ?_
  refine wpD_ret ?_
  have er4 := yes_eq hm; subst er4
  refine retX.of (s' := ⟨[(4, .ptr b2 0)], [(b2, Blk.cells [.v (.int .i64 x3.gHi), .v (.int .u64 x3.gLo)] 31)], []⟩) (WkS.perm (WkS.cons rfl (Wk.refl _) (WkS.nil)) ((perm_at (j := 1) rfl).trans (List.Perm.cons _ (List.Perm.refl _))) (List.Perm.refl _)) (retD_mk (hh := []) (.inl rfl) (resL_cons (resOne_cell 0 rfl rfl rfl rfl) (resL_nil)) (List.nil_sublist _) (List.Sublist.refl _) ?_)
  exact ⟨rfl, rfl, rfl⟩
noncomputable def wide_Max (a0 : TApiWide) (a1 : List TApiWide) : Option (TApiWide) :=
  ((wide_best a0 (1 : Int) a1).bind fun x3 => some x3)
set_option maxRecDepth 100000 in
set_option maxHeartbeats 2000000 in
theorem wide_Max_ok (a0 : TApiWide) (a1 : List TApiWide) (r : TApiWide) (h0 : wide_Max a0 a1 = some r) : CallsD Try.prog 62 [eTApiWide a0, .lst 2 (a1.map eTApiWide) .no] [] [] (fun d h k => d = eTApiWide r ∧ h = [] ∧ k = []) := by
  have hm := yes_of h0
  unfold wide_Max at hm
  clear h0
  refine enterX htab Try.func62 rfl rfl rfl rfl rfl (fun C => ?_)
  refine wpD_seq ?_
  refine wpD_region ?_
  refine p_box rfl rfl rfl rfl rfl rfl rfl (fun b1 => ?_)
  refine p_alloc htab rfl rfl rfl rfl rfl rfl rfl (fun b2 => ?_)
  refine ops_nil ?_
  refine then_normal ?_
  refine wpD_seq ?_
  refine wpD_region ?_
  refine p_load (d := eTApiWide a0) 0 htab rfl rfl rfl rfl rfl rfl rfl rfl ?_
  refine p_pure htab rfl rfl rfl rfl ?_
  obtain ⟨x3, q3, hm⟩ := yes_bind hm
  refine p_call0 (wide_best_ok a0 (1 : Int) a1 x3 q3) rfl rfl rfl rfl rfl (WkL.refl _) ?_
  rintro _ rfl
  refine p_store (ds' := [.v (.int .i64 x3.gHi), .v (.int .u64 x3.gLo)]) (h' := [(b1, Blk.cells [.v (.int .i64 a0.gHi), .v (.int .u64 a0.gLo)] 31), (b2, Blk.cells [.v (.int .i64 x3.gHi), .v (.int .u64 x3.gLo)] 31)]) 1 htab rfl rfl rfl rfl rfl rfl rfl rfl rfl rfl rfl rfl ?_
  refine ops_nil ?_
  refine then_normal ?_
  refine wpD_ret ?_
  have er4 := yes_eq hm; subst er4
  refine retX.of (s' := ⟨[(4, .ptr b2 0)], [(b2, Blk.cells [.v (.int .i64 x3.gHi), .v (.int .u64 x3.gLo)] 31)], []⟩) (WkS.perm (WkS.cons rfl (Wk.refl _) (WkS.nil)) ((perm_at (j := 1) rfl).trans (List.Perm.cons _ (List.Perm.refl _))) (List.Perm.refl _)) (retD_mk (hh := []) (.inl rfl) (resL_cons (resOne_cell 0 rfl rfl rfl rfl) (resL_nil)) (List.nil_sublist _) (List.Sublist.refl _) ?_)
  exact ⟨rfl, rfl, rfl⟩
noncomputable def wide_Int (a0 : TApiWide) : Option (Int × Bool) :=
  ((need (pW a0)).bind fun x2 => ((need (pI (wLow a0))).bind fun x3 => (bif (!(((wOf (wLow a0)).gHi) == a0.gHi && (((wOf (wLow a0)).gLo) == a0.gLo && true))) then some ((0 : Int), false) else some ((wLow a0), true))))
set_option maxRecDepth 100000 in
set_option maxHeartbeats 2000000 in
theorem wide_Int_ok (a0 : TApiWide) (r : Int × Bool) (h0 : wide_Int a0 = some r) : CallsD Try.prog 85 [eTApiWide a0] [] [] (fun d h k => d = .tup [.v (.int .i64 r.1), .v (.bool r.2)] ∧ h = [] ∧ k = []) := by
  have hm := yes_of h0
  unfold wide_Int at hm
  clear h0
  refine enterX htab Try.func85 rfl rfl rfl rfl rfl (fun C => ?_)
  refine wpD_seq ?_
  refine wpD_region ?_
  refine p_box rfl rfl rfl rfl rfl rfl rfl (fun b1 => ?_)
  refine p_pure htab rfl rfl rfl rfl ?_
  refine p_pure htab rfl rfl rfl rfl ?_
  refine ops_nil ?_
  refine then_normal ?_
  refine wpD_seq ?_
  refine wpD_region ?_
  refine p_load (d := eTApiWide a0) 0 htab rfl rfl rfl rfl rfl rfl rfl rfl ?_
  obtain ⟨x2, q2, hm⟩ := yes_bind hm
  refine p_call0 (wLow_ok a0 (need_ok q2)) rfl rfl rfl rfl rfl (WkL.refl _) ?_
  rintro _ rfl
  refine p_pure htab rfl rfl rfl rfl ?_
  refine ops_nil ?_
  refine then_normal ?_
  refine wpD_seq ?_
  refine wpD_seq ?_
  obtain ⟨x3, q3, hm⟩ := yes_bind hm
  refine wpD_draws 3 [] [[],[],[]] [1,2] [[],[0],[],[0,1,2]] (by kernel_rfl) (by kernel_rfl) (by kernel_rfl) (by rfl) (by rfl) (by kernel_rfl) ?_
  apply Exists.intro
  apply Exists.intro
  intro bs
  refine z_q rfl rfl (ex_pure htab rfl) rfl rfl rfl rfl rfl rfl ?_
  refine z_call rfl rfl (wOf_ok (wLow a0) (need_ok q3)) rfl rfl (WkL.refl _) rfl rfl rfl rfl rfl rfl ?_
  refine z_eM rfl rfl (xm_load (d := eTApiWide a0) 0 htab rfl rfl rfl rfl rfl) rfl rfl rfl rfl rfl rfl ?_
  refine z_nil rfl rfl (fun e he => by simp [isAl] at he) ?_
  refine p_eqS htab rfl rfl rfl rfl rfl eqt31 rfl rfl rfl rfl rfl ?_
  refine ops_nil ?_
  refine then_normal ?_
  refine wpD_cond rfl (fun hc4 => ?_) (fun hc4 => ?_)
  · replace hm := yes_t hc4 hm
    refine wpD_seq ?_
    refine wpD_region ?_
    refine p_pure htab rfl rfl rfl rfl ?_
    refine p_pure htab rfl rfl rfl rfl ?_
    refine ops_nil ?_
    refine then_normal ?_
    refine wpD_ret ?_
    refine then_ret ?_
    have er5 := yes_eq hm; subst er5
    refine retX.of (s' := ⟨[(2, .v (.int .i64 (0 : Int))), (3, .v (.bool false))], [], []⟩) (WkS.perm (WkS.cons rfl (Wk.refl _) (WkS.cons rfl (Wk.refl _) (WkS.nil))) (List.Perm.refl _) (List.Perm.refl _)) (retD_mk (hh := []) (.inl rfl) (resL_cons (resOne_tmp rfl) (resL_cons (resOne_tmp rfl) (resL_nil))) (List.nil_sublist _) (List.Sublist.refl _) ?_)
    exact ⟨rfl, rfl, rfl⟩
  · replace hm := yes_f hc4 hm
    refine wpD_skip ?_
    refine then_normal ?_
    refine wpD_seq ?_
    refine wpD_region ?_
    refine p_pure htab rfl rfl rfl rfl ?_
    refine p_pure htab rfl rfl rfl rfl ?_
    refine p_pure htab rfl rfl rfl rfl ?_
    refine ops_nil ?_
    refine then_normal ?_
    refine wpD_ret ?_
    have er6 := yes_eq hm; subst er6
    refine retX.of (s' := ⟨[(2, .v (.int .i64 (wLow a0))), (3, .v (.bool true))], [], []⟩) (WkS.perm (WkS.cons rfl (Wk.refl _) (WkS.cons rfl (Wk.refl _) (WkS.nil))) (List.Perm.refl _) (List.Perm.refl _)) (retD_mk (hh := []) (.inl rfl) (resL_cons (resOne_tmp rfl) (resL_cons (resOne_tmp rfl) (resL_nil))) (List.nil_sublist _) (List.Sublist.refl _) ?_)
    exact ⟨rfl, rfl, rfl⟩
noncomputable def wrap_Exact (a0 : Int) (a1 : Int) (a2 : Int) : Option (TApiWide × Bool) :=
  (bif (a0 == (10 : Int)) then ((need (pI a1)).bind fun x3 => ((need (pI a2)).bind fun x4 => ((need (pWW (wOf a1) (wOf a2))).bind fun x5 => some ((wAdd (wOf a1) (wOf a2)), true)))) else (bif (a0 == (11 : Int)) then ((need (pI a1)).bind fun x8 => ((need (pI a2)).bind fun x9 => ((need (pWW (wOf a1) (wOf a2))).bind fun x10 => some ((wSub (wOf a1) (wOf a2)), true)))) else (bif (a0 == (7 : Int)) then ((need (pII a1 a2)).bind fun x13 => some ((wMul a1 a2), true)) else some ((⟨(0 : Int), (0 : Int)⟩ : TApiWide), false))))
set_option maxRecDepth 100000 in
set_option maxHeartbeats 2000000 in
theorem wrap_Exact_ok (a0 : Int) (a1 : Int) (a2 : Int) (r : TApiWide × Bool) (h0 : wrap_Exact a0 a1 a2 = some r) : CallsD Try.prog 27 [.v (.int .i64 a0), .v (.int .i64 a1), .v (.int .i64 a2)] [] [] (fun d h k => d = .tup [eTApiWide r.1, .v (.bool r.2)] ∧ h = [] ∧ k = []) := by
  have hm := yes_of h0
  unfold wrap_Exact at hm
  clear h0
  refine enterX htab Try.func27 rfl rfl rfl rfl rfl (fun C => ?_)
  refine wpD_seq ?_
  refine wpD_region ?_
  refine p_alloc htab rfl rfl rfl rfl rfl rfl rfl (fun b1 => ?_)
  refine p_pure htab rfl rfl rfl rfl ?_
  refine ops_nil ?_
  refine then_normal ?_
  refine wpD_seq ?_
  refine wpD_seq ?_
  refine wpD_region ?_
  refine p_pure htab rfl rfl rfl rfl ?_
  refine ops_nil ?_
  refine then_normal ?_
  refine wpD_block ?_
  refine wpD_seq ?_
  refine wpD_region ?_
  refine p_pure htab rfl rfl rfl rfl ?_
  refine p_pure htab rfl rfl rfl rfl ?_
  refine ops_nil ?_
  refine then_normal ?_
  refine wpD_cond rfl (fun hc2 => ?_) (fun hc2 => ?_)
  · replace hm := yes_t hc2 hm
    refine wpD_seq ?_
    refine wpD_region ?_
    refine p_pure htab rfl rfl rfl rfl ?_
    obtain ⟨x3, q3, hm⟩ := yes_bind hm
    refine p_call0 (wOf_ok a1 (need_ok q3)) rfl rfl rfl rfl rfl (WkL.refl _) ?_
    rintro _ rfl
    refine p_pure htab rfl rfl rfl rfl ?_
    obtain ⟨x4, q4, hm⟩ := yes_bind hm
    refine p_call0 (wOf_ok a2 (need_ok q4)) rfl rfl rfl rfl rfl (WkL.refl _) ?_
    rintro _ rfl
    obtain ⟨x5, q5, hm⟩ := yes_bind hm
    refine p_call0 (wAdd_ok (wOf a1) (wOf a2) (need_ok q5)) rfl rfl rfl rfl rfl (WkL.refl _) ?_
    rintro _ rfl
    refine p_store (ds' := [.v (.int .i64 ((wAdd (wOf a1) (wOf a2)).gHi)), .v (.int .u64 ((wAdd (wOf a1) (wOf a2)).gLo))]) (h' := [(b1, Blk.cells [.v (.int .i64 ((wAdd (wOf a1) (wOf a2)).gHi)), .v (.int .u64 ((wAdd (wOf a1) (wOf a2)).gLo))] 31)]) 0 htab rfl rfl rfl rfl rfl rfl rfl rfl rfl rfl rfl rfl ?_
    refine p_pure htab rfl rfl rfl rfl ?_
    refine ops_nil ?_
    refine then_normal ?_
    refine wpD_ret ?_
    refine block_ret ?_
    refine then_ret ?_
    have er6 := yes_eq hm; subst er6
    refine retX.of (s' := ⟨[(6, .ptr b1 0), (7, .v (.bool true))], [(b1, Blk.cells [.v (.int .i64 ((wAdd (wOf a1) (wOf a2)).gHi)), .v (.int .u64 ((wAdd (wOf a1) (wOf a2)).gLo))] 31)], []⟩) (WkS.perm (WkS.cons rfl (Wk.refl _) (WkS.cons rfl (Wk.refl _) (WkS.nil))) (List.Perm.refl _) (List.Perm.refl _)) (retD_mk (hh := []) (.inl rfl) (resL_cons (resOne_cell 0 rfl rfl rfl rfl) (resL_cons (resOne_tmp rfl) (resL_nil))) (List.nil_sublist _) (List.Sublist.refl _) ?_)
    exact ⟨rfl, rfl, rfl⟩
  · replace hm := yes_f hc2 hm
    refine wpD_seq ?_
    refine wpD_region ?_
    refine p_pure htab rfl rfl rfl rfl ?_
    refine p_pure htab rfl rfl rfl rfl ?_
    refine ops_nil ?_
    refine then_normal ?_
    refine wpD_cond rfl (fun hc7 => ?_) (fun hc7 => ?_)
    · replace hm := yes_t hc7 hm
      refine wpD_seq ?_
      refine wpD_region ?_
      refine p_pure htab rfl rfl rfl rfl ?_
      obtain ⟨x8, q8, hm⟩ := yes_bind hm
      refine p_call0 (wOf_ok a1 (need_ok q8)) rfl rfl rfl rfl rfl (WkL.refl _) ?_
      rintro _ rfl
      refine p_pure htab rfl rfl rfl rfl ?_
      obtain ⟨x9, q9, hm⟩ := yes_bind hm
      refine p_call0 (wOf_ok a2 (need_ok q9)) rfl rfl rfl rfl rfl (WkL.refl _) ?_
      rintro _ rfl
      obtain ⟨x10, q10, hm⟩ := yes_bind hm
      refine p_call0 (wSub_ok (wOf a1) (wOf a2) (need_ok q10)) rfl rfl rfl rfl rfl (WkL.refl _) ?_
      rintro _ rfl
      refine p_store (ds' := [.v (.int .i64 ((wSub (wOf a1) (wOf a2)).gHi)), .v (.int .u64 ((wSub (wOf a1) (wOf a2)).gLo))]) (h' := [(b1, Blk.cells [.v (.int .i64 ((wSub (wOf a1) (wOf a2)).gHi)), .v (.int .u64 ((wSub (wOf a1) (wOf a2)).gLo))] 31)]) 0 htab rfl rfl rfl rfl rfl rfl rfl rfl rfl rfl rfl rfl ?_
      refine p_pure htab rfl rfl rfl rfl ?_
      refine ops_nil ?_
      refine then_normal ?_
      refine wpD_ret ?_
      refine block_ret ?_
      refine then_ret ?_
      have er11 := yes_eq hm; subst er11
      refine retX.of (s' := ⟨[(6, .ptr b1 0), (7, .v (.bool true))], [(b1, Blk.cells [.v (.int .i64 ((wSub (wOf a1) (wOf a2)).gHi)), .v (.int .u64 ((wSub (wOf a1) (wOf a2)).gLo))] 31)], []⟩) (WkS.perm (WkS.cons rfl (Wk.refl _) (WkS.cons rfl (Wk.refl _) (WkS.nil))) (List.Perm.refl _) (List.Perm.refl _)) (retD_mk (hh := []) (.inl rfl) (resL_cons (resOne_cell 0 rfl rfl rfl rfl) (resL_cons (resOne_tmp rfl) (resL_nil))) (List.nil_sublist _) (List.Sublist.refl _) ?_)
      exact ⟨rfl, rfl, rfl⟩
    · replace hm := yes_f hc7 hm
      refine wpD_seq ?_
      refine wpD_region ?_
      refine p_pure htab rfl rfl rfl rfl ?_
      refine p_pure htab rfl rfl rfl rfl ?_
      refine ops_nil ?_
      refine then_normal ?_
      refine wpD_cond rfl (fun hc12 => ?_) (fun hc12 => ?_)
      · replace hm := yes_t hc12 hm
        refine wpD_seq ?_
        refine wpD_region ?_
        refine p_pure htab rfl rfl rfl rfl ?_
        refine p_pure htab rfl rfl rfl rfl ?_
        obtain ⟨x13, q13, hm⟩ := yes_bind hm
        refine p_call0 (wMul_ok a1 a2 (need_ok q13)) rfl rfl rfl rfl rfl (WkL.refl _) ?_
        rintro _ rfl
        refine p_store (ds' := [.v (.int .i64 ((wMul a1 a2).gHi)), .v (.int .u64 ((wMul a1 a2).gLo))]) (h' := [(b1, Blk.cells [.v (.int .i64 ((wMul a1 a2).gHi)), .v (.int .u64 ((wMul a1 a2).gLo))] 31)]) 0 htab rfl rfl rfl rfl rfl rfl rfl rfl rfl rfl rfl rfl ?_
        refine p_pure htab rfl rfl rfl rfl ?_
        refine ops_nil ?_
        refine then_normal ?_
        refine wpD_ret ?_
        refine block_ret ?_
        refine then_ret ?_
        have er14 := yes_eq hm; subst er14
        refine retX.of (s' := ⟨[(6, .ptr b1 0), (7, .v (.bool true))], [(b1, Blk.cells [.v (.int .i64 ((wMul a1 a2).gHi)), .v (.int .u64 ((wMul a1 a2).gLo))] 31)], []⟩) (WkS.perm (WkS.cons rfl (Wk.refl _) (WkS.cons rfl (Wk.refl _) (WkS.nil))) (List.Perm.refl _) (List.Perm.refl _)) (retD_mk (hh := []) (.inl rfl) (resL_cons (resOne_cell 0 rfl rfl rfl rfl) (resL_cons (resOne_tmp rfl) (resL_nil))) (List.nil_sublist _) (List.Sublist.refl _) ?_)
        exact ⟨rfl, rfl, rfl⟩
      · replace hm := yes_f hc12 hm
        refine wpD_skip ?_
        refine block_normal ?_
        refine then_normal ?_
        refine wpD_seq ?_
        refine wpD_region ?_
        refine p_build (r := [.v (.int .i64 (0 : Int)), .v (.int .u64 (0 : Int))]) htab rfl rfl rfl rfl rfl rfl rfl rfl rfl ?_
        refine p_store (ds' := [.v (.int .i64 (0 : Int)), .v (.int .u64 (0 : Int))]) (h' := [(b1, Blk.cells [.v (.int .i64 (0 : Int)), .v (.int .u64 (0 : Int))] 31)]) 0 htab rfl rfl rfl rfl rfl rfl rfl rfl rfl rfl rfl rfl ?_
        refine p_pure htab rfl rfl rfl rfl ?_
        refine ops_nil ?_
        refine then_normal ?_
        refine wpD_ret ?_
        have er15 := yes_eq hm; subst er15
        refine retX.of (s' := ⟨[(6, .ptr b1 0), (7, .v (.bool false))], [(b1, Blk.cells [.v (.int .i64 (0 : Int)), .v (.int .u64 (0 : Int))] 31)], []⟩) (WkS.perm (WkS.cons rfl (Wk.refl _) (WkS.cons rfl (Wk.refl _) (WkS.nil))) (List.Perm.refl _) (List.Perm.refl _)) (retD_mk (hh := []) (.inl rfl) (resL_cons (resOne_cell 0 rfl rfl rfl rfl) (resL_cons (resOne_tmp rfl) (resL_nil))) (List.nil_sublist _) (List.Sublist.refl _) ?_)
        exact ⟨rfl, rfl, rfl⟩
noncomputable def wrap_parts (a0 : Int) (a1 : Int) (a2 : Int) : Option (Int × Int) :=
  (bif (a2 == (0 : Int)) then some ((0 : Int), (10 : Int)) else (bif (a2 == (-1 : Int)) then (bif (a0 == (8 : Int)) then some ((IntKind.i64.wrap (0 - a1)), (0 : Int)) else some ((0 : Int), (0 : Int))) else (bif (a0 == (8 : Int)) then ((need (a2 != 0)).bind fun x25 => some ((IntKind.i64.wrap (a1.tdiv a2)), (0 : Int))) else ((need (a2 != 0)).bind fun x27 => some ((a1.tmod a2), (0 : Int))))))
set_option maxRecDepth 100000 in
set_option maxHeartbeats 2000000 in
theorem wrap_parts_ok (a0 : Int) (a1 : Int) (a2 : Int) (r : Int × Int) (h0 : wrap_parts a0 a1 a2 = some r) : CallsD Try.prog 82 [.v (.int .i64 a0), .v (.int .i64 a1), .v (.int .i64 a2)] [] [] (fun d h k => d = .tup [.v (.int .i64 r.1), .v (.int .i64 r.2)] ∧ h = [] ∧ k = []) := by
  have hm := yes_of h0
  unfold wrap_parts at hm
  clear h0
  refine enterX htab Try.func82 rfl rfl rfl rfl rfl (fun C => ?_)
  refine wpD_seq ?_
  refine wpD_region ?_
  refine p_pure htab rfl rfl rfl rfl ?_
  refine p_pure htab rfl rfl rfl rfl ?_
  refine ops_nil ?_
  refine then_normal ?_
  refine wpD_seq ?_
  refine wpD_block ?_
  refine wpD_seq ?_
  refine wpD_region ?_
  refine p_pure htab rfl rfl rfl rfl ?_
  refine p_pure htab rfl rfl rfl rfl ?_
  refine p_pure htab rfl rfl rfl rfl ?_
  refine ops_nil ?_
  refine then_normal ?_
  refine wpD_cond rfl (fun hc11 => ?_) (fun hc11 => ?_)
  · replace hm := yes_t hc11 hm
    refine wpD_seq ?_
    refine wpD_region ?_
    refine p_pure htab rfl rfl rfl rfl ?_
    refine p_pure htab rfl rfl rfl rfl ?_
    refine ops_nil ?_
    refine then_normal ?_
    refine wpD_ret ?_
    refine block_ret ?_
    refine then_ret ?_
    have er12 := yes_eq hm; subst er12
    refine retX.of (s' := ⟨[(6, .v (.int .i64 (0 : Int))), (7, .v (.int .i64 (10 : Int)))], [], []⟩) (WkS.perm (WkS.cons rfl (Wk.refl _) (WkS.cons rfl (Wk.refl _) (WkS.nil))) (List.Perm.refl _) (List.Perm.refl _)) (retD_mk (hh := []) (.inl rfl) (resL_cons (resOne_tmp rfl) (resL_cons (resOne_tmp rfl) (resL_nil))) (List.nil_sublist _) (List.Sublist.refl _) ?_)
    exact ⟨rfl, rfl, rfl⟩
  · replace hm := yes_f hc11 hm
    refine wpD_seq ?_
    refine wpD_region ?_
    refine p_pure htab rfl rfl rfl rfl ?_
    refine p_pure htab rfl rfl rfl rfl ?_
    refine p_pure htab rfl rfl rfl rfl ?_
    refine ops_nil ?_
    refine then_normal ?_
    refine wpD_cond rfl (fun hc17 => ?_) (fun hc17 => ?_)
    · replace hm := yes_t hc17 hm
      refine wpD_seq ?_
      refine wpD_seq ?_
      refine wpD_region ?_
      refine p_pure htab rfl rfl rfl rfl ?_
      refine p_pure htab rfl rfl rfl rfl ?_
      refine ops_nil ?_
      refine then_normal ?_
      refine wpD_cond rfl (fun hc19 => ?_) (fun hc19 => ?_)
      · replace hm := yes_t hc19 hm
        refine wpD_seq ?_
        refine wpD_region ?_
        refine p_pure htab rfl rfl rfl rfl ?_
        refine p_pure htab rfl rfl rfl rfl ?_
        refine p_pure htab rfl rfl rfl rfl ?_
        refine p_pure htab rfl rfl rfl rfl ?_
        refine ops_nil ?_
        refine then_normal ?_
        refine wpD_ret ?_
        refine then_ret ?_
        refine block_ret ?_
        refine then_ret ?_
        have er20 := yes_eq hm; subst er20
        refine retX.of (s' := ⟨[(6, .v (.int .i64 (IntKind.i64.wrap (0 - a1)))), (7, .v (.int .i64 (0 : Int)))], [], []⟩) (WkS.perm (WkS.cons rfl (Wk.refl _) (WkS.cons rfl (Wk.refl _) (WkS.nil))) (List.Perm.refl _) (List.Perm.refl _)) (retD_mk (hh := []) (.inl rfl) (resL_cons (resOne_tmp rfl) (resL_cons (resOne_tmp rfl) (resL_nil))) (List.nil_sublist _) (List.Sublist.refl _) ?_)
        exact ⟨rfl, rfl, rfl⟩
      · replace hm := yes_f hc19 hm
        refine wpD_skip ?_
        refine then_normal ?_
        refine wpD_seq ?_
        refine wpD_region ?_
        refine p_pure htab rfl rfl rfl rfl ?_
        refine p_pure htab rfl rfl rfl rfl ?_
        refine ops_nil ?_
        refine then_normal ?_
        refine wpD_ret ?_
        refine block_ret ?_
        refine then_ret ?_
        have er21 := yes_eq hm; subst er21
        refine retX.of (s' := ⟨[(6, .v (.int .i64 (0 : Int))), (7, .v (.int .i64 (0 : Int)))], [], []⟩) (WkS.perm (WkS.cons rfl (Wk.refl _) (WkS.cons rfl (Wk.refl _) (WkS.nil))) (List.Perm.refl _) (List.Perm.refl _)) (retD_mk (hh := []) (.inl rfl) (resL_cons (resOne_tmp rfl) (resL_cons (resOne_tmp rfl) (resL_nil))) (List.nil_sublist _) (List.Sublist.refl _) ?_)
        exact ⟨rfl, rfl, rfl⟩
    · replace hm := yes_f hc17 hm
      refine wpD_seq ?_
      refine wpD_region ?_
      refine p_pure htab rfl rfl rfl rfl ?_
      refine p_pure htab rfl rfl rfl rfl ?_
      refine p_pure htab rfl rfl rfl rfl ?_
      refine ops_nil ?_
      refine then_normal ?_
      refine wpD_cond rfl (fun hc24 => ?_) (fun hc24 => ?_)
      · replace hm := yes_t hc24 hm
        refine wpD_seq ?_
        refine wpD_region ?_
        refine p_pure htab rfl rfl rfl rfl ?_
        refine p_pure htab rfl rfl rfl rfl ?_
        obtain ⟨x25, q25, hm⟩ := yes_bind hm
        refine p_div rfl rfl rfl rfl rfl rfl rfl (by simpa using need_ok q25) ?_
        refine p_pure htab rfl rfl rfl rfl ?_
        refine p_pure htab rfl rfl rfl rfl ?_
        refine ops_nil ?_
        refine then_normal ?_
        refine wpD_ret ?_
        refine block_ret ?_
        refine then_ret ?_
        have er26 := yes_eq hm; subst er26
        refine retX.of (s' := ⟨[(6, .v (.int .i64 (IntKind.i64.wrap (a1.tdiv a2)))), (7, .v (.int .i64 (0 : Int)))], [], []⟩) (WkS.perm (WkS.cons rfl (Wk.refl _) (WkS.cons rfl (Wk.refl _) (WkS.nil))) (List.Perm.refl _) (List.Perm.refl _)) (retD_mk (hh := []) (.inl rfl) (resL_cons (resOne_tmp rfl) (resL_cons (resOne_tmp rfl) (resL_nil))) (List.nil_sublist _) (List.Sublist.refl _) ?_)
        exact ⟨rfl, rfl, rfl⟩
      · replace hm := yes_f hc24 hm
        refine wpD_skip ?_
        refine block_normal ?_
        refine then_normal ?_
        refine wpD_seq ?_
        refine wpD_region ?_
        refine p_pure htab rfl rfl rfl rfl ?_
        refine p_pure htab rfl rfl rfl rfl ?_
        obtain ⟨x27, q27, hm⟩ := yes_bind hm
        refine p_div rfl rfl rfl rfl rfl rfl rfl (by simpa using need_ok q27) ?_
        refine p_pure htab rfl rfl rfl rfl ?_
        refine p_pure htab rfl rfl rfl rfl ?_
        refine ops_nil ?_
        refine then_normal ?_
        refine wpD_ret ?_
        have er28 := yes_eq hm; subst er28
        refine retX.of (s' := ⟨[(6, .v (.int .i64 (a1.tmod a2))), (7, .v (.int .i64 (0 : Int)))], [], []⟩) (WkS.perm (WkS.cons rfl (Wk.refl _) (WkS.cons rfl (Wk.refl _) (WkS.nil))) (List.Perm.refl _) (List.Perm.refl _)) (retD_mk (hh := []) (.inl rfl) (resL_cons (resOne_tmp rfl) (resL_cons (resOne_tmp rfl) (resL_nil))) (List.nil_sublist _) (List.Sublist.refl _) ?_)
        exact ⟨rfl, rfl, rfl⟩
noncomputable def wrap_holds (a0 : Int) (a1 : Int) (a2 : Int) : Option (Bool × Bool) :=
  (bif (a0 == (12 : Int)) then some ((decide (a1 < a2)), true) else (bif (a0 == (13 : Int)) then some ((decide (a1 ≤ a2)), true) else (bif (a0 == (14 : Int)) then some ((a1 == a2), true) else (bif (a0 == (15 : Int)) then some ((a1 != a2), true) else (bif (a0 == (16 : Int)) then (Option.bind (α := Bool) (bif (a1 != (0 : Int)) then some (a2 != (0 : Int)) else some false) fun y49 => some (y49, true)) else (bif (a0 == (17 : Int)) then (Option.bind (α := Bool) (bif (a1 != (0 : Int)) then some true else some (a2 != (0 : Int))) fun y56 => some (y56, true)) else some (false, false)))))))
set_option maxRecDepth 100000 in
set_option maxHeartbeats 2000000 in
theorem wrap_holds_ok (a0 : Int) (a1 : Int) (a2 : Int) (r : Bool × Bool) (h0 : wrap_holds a0 a1 a2 = some r) : CallsD Try.prog 83 [.v (.int .i64 a0), .v (.int .i64 a1), .v (.int .i64 a2)] [] [] (fun d h k => d = .tup [.v (.bool r.1), .v (.bool r.2)] ∧ h = [] ∧ k = []) := by
  have hm := yes_of h0
  unfold wrap_holds at hm
  clear h0
  refine enterX htab Try.func83 rfl rfl rfl rfl rfl (fun C => ?_)
  refine wpD_seq ?_
  refine wpD_region ?_
  refine p_pure htab rfl rfl rfl rfl ?_
  refine p_pure htab rfl rfl rfl rfl ?_
  refine ops_nil ?_
  refine then_normal ?_
  refine wpD_scope 4 (jumpsD_succ ?_)
  refine wpD_seq ?_
  refine wpD_region ?_
  refine p_pure htab rfl rfl rfl rfl ?_
  refine ops_nil ?_
  refine then_normal ?_
  refine wpD_seq ?_
  refine wpD_seq ?_
  refine wpD_region ?_
  refine p_pure htab rfl rfl rfl rfl ?_
  refine ops_nil ?_
  refine then_normal ?_
  refine wpD_block ?_
  refine wpD_seq ?_
  refine wpD_region ?_
  refine p_pure htab rfl rfl rfl rfl ?_
  refine p_pure htab rfl rfl rfl rfl ?_
  refine ops_nil ?_
  refine then_normal ?_
  refine wpD_cond rfl (fun hc17 => ?_) (fun hc17 => ?_)
  · replace hm := yes_t hc17 hm
    refine wpD_seq ?_
    refine wpD_region ?_
    refine p_pure htab rfl rfl rfl rfl ?_
    refine p_pure htab rfl rfl rfl rfl ?_
    refine p_pure htab rfl rfl rfl rfl ?_
    refine p_pure htab rfl rfl rfl rfl ?_
    refine ops_nil ?_
    refine then_normal ?_
    refine wpD_goto ?_
    refine block_goto ?_
    refine then_goto ?_
    refine scope_goto rfl (jumpsD_succ ?_)
    refine wpD_seq ?_
    refine wpD_skip ?_
    refine then_normal ?_
    refine wpD_seq ?_
    refine wpD_region ?_
    refine p_pure htab rfl rfl rfl rfl ?_
    refine p_pure htab rfl rfl rfl rfl ?_
    refine p_pure htab rfl rfl rfl rfl ?_
    refine ops_nil ?_
    refine then_normal ?_
    refine wpD_ret ?_
    refine scope_ret ?_
    have er18 := yes_eq hm; subst er18
    refine retX.of (s' := ⟨[(6, .v (.bool (decide (a1 < a2)))), (7, .v (.bool true))], [], []⟩) (WkS.perm (WkS.cons rfl (Wk.refl _) (WkS.cons rfl (Wk.refl _) (WkS.nil))) (List.Perm.refl _) (List.Perm.refl _)) (retD_mk (hh := []) (.inl rfl) (resL_cons (resOne_tmp rfl) (resL_cons (resOne_tmp rfl) (resL_nil))) (List.nil_sublist _) (List.Sublist.refl _) ?_)
    exact ⟨rfl, rfl, rfl⟩
  · replace hm := yes_f hc17 hm
    refine wpD_seq ?_
    refine wpD_region ?_
    refine p_pure htab rfl rfl rfl rfl ?_
    refine p_pure htab rfl rfl rfl rfl ?_
    refine ops_nil ?_
    refine then_normal ?_
    refine wpD_cond rfl (fun hc26 => ?_) (fun hc26 => ?_)
    · replace hm := yes_t hc26 hm
      refine wpD_seq ?_
      refine wpD_region ?_
      refine p_pure htab rfl rfl rfl rfl ?_
      refine p_pure htab rfl rfl rfl rfl ?_
      refine p_pure htab rfl rfl rfl rfl ?_
      refine p_pure htab rfl rfl rfl rfl ?_
      refine ops_nil ?_
      refine then_normal ?_
      refine wpD_goto ?_
      refine block_goto ?_
      refine then_goto ?_
      refine scope_goto rfl (jumpsD_succ ?_)
      refine wpD_seq ?_
      refine wpD_skip ?_
      refine then_normal ?_
      refine wpD_seq ?_
      refine wpD_region ?_
      refine p_pure htab rfl rfl rfl rfl ?_
      refine p_pure htab rfl rfl rfl rfl ?_
      refine p_pure htab rfl rfl rfl rfl ?_
      refine ops_nil ?_
      refine then_normal ?_
      refine wpD_ret ?_
      refine scope_ret ?_
      have er27 := yes_eq hm; subst er27
      refine retX.of (s' := ⟨[(6, .v (.bool (decide (a1 ≤ a2)))), (7, .v (.bool true))], [], []⟩) (WkS.perm (WkS.cons rfl (Wk.refl _) (WkS.cons rfl (Wk.refl _) (WkS.nil))) (List.Perm.refl _) (List.Perm.refl _)) (retD_mk (hh := []) (.inl rfl) (resL_cons (resOne_tmp rfl) (resL_cons (resOne_tmp rfl) (resL_nil))) (List.nil_sublist _) (List.Sublist.refl _) ?_)
      exact ⟨rfl, rfl, rfl⟩
    · replace hm := yes_f hc26 hm
      refine wpD_seq ?_
      refine wpD_region ?_
      refine p_pure htab rfl rfl rfl rfl ?_
      refine p_pure htab rfl rfl rfl rfl ?_
      refine ops_nil ?_
      refine then_normal ?_
      refine wpD_cond rfl (fun hc34 => ?_) (fun hc34 => ?_)
      · replace hm := yes_t hc34 hm
        refine wpD_seq ?_
        refine wpD_region ?_
        refine p_pure htab rfl rfl rfl rfl ?_
        refine p_pure htab rfl rfl rfl rfl ?_
        refine p_pure htab rfl rfl rfl rfl ?_
        refine p_pure htab rfl rfl rfl rfl ?_
        refine ops_nil ?_
        refine then_normal ?_
        refine wpD_goto ?_
        refine block_goto ?_
        refine then_goto ?_
        refine scope_goto rfl (jumpsD_succ ?_)
        refine wpD_seq ?_
        refine wpD_skip ?_
        refine then_normal ?_
        refine wpD_seq ?_
        refine wpD_region ?_
        refine p_pure htab rfl rfl rfl rfl ?_
        refine p_pure htab rfl rfl rfl rfl ?_
        refine p_pure htab rfl rfl rfl rfl ?_
        refine ops_nil ?_
        refine then_normal ?_
        refine wpD_ret ?_
        refine scope_ret ?_
        have er35 := yes_eq hm; subst er35
        refine retX.of (s' := ⟨[(6, .v (.bool (a1 == a2))), (7, .v (.bool true))], [], []⟩) (WkS.perm (WkS.cons rfl (Wk.refl _) (WkS.cons rfl (Wk.refl _) (WkS.nil))) (List.Perm.refl _) (List.Perm.refl _)) (retD_mk (hh := []) (.inl rfl) (resL_cons (resOne_tmp rfl) (resL_cons (resOne_tmp rfl) (resL_nil))) (List.nil_sublist _) (List.Sublist.refl _) ?_)
        exact ⟨rfl, rfl, rfl⟩
      · replace hm := yes_f hc34 hm
        refine wpD_seq ?_
        refine wpD_region ?_
        refine p_pure htab rfl rfl rfl rfl ?_
        refine p_pure htab rfl rfl rfl rfl ?_
        refine ops_nil ?_
        refine then_normal ?_
        refine wpD_cond rfl (fun hc41 => ?_) (fun hc41 => ?_)
        · replace hm := yes_t hc41 hm
          refine wpD_seq ?_
          refine wpD_region ?_
          refine p_pure htab rfl rfl rfl rfl ?_
          refine p_pure htab rfl rfl rfl rfl ?_
          refine p_pure htab rfl rfl rfl rfl ?_
          refine p_pure htab rfl rfl rfl rfl ?_
          refine ops_nil ?_
          refine then_normal ?_
          refine wpD_goto ?_
          refine block_goto ?_
          refine then_goto ?_
          refine scope_goto rfl (jumpsD_succ ?_)
          refine wpD_seq ?_
          refine wpD_skip ?_
          refine then_normal ?_
          refine wpD_seq ?_
          refine wpD_region ?_
          refine p_pure htab rfl rfl rfl rfl ?_
          refine p_pure htab rfl rfl rfl rfl ?_
          refine p_pure htab rfl rfl rfl rfl ?_
          refine ops_nil ?_
          refine then_normal ?_
          refine wpD_ret ?_
          refine scope_ret ?_
          have er42 := yes_eq hm; subst er42
          refine retX.of (s' := ⟨[(6, .v (.bool (a1 != a2))), (7, .v (.bool true))], [], []⟩) (WkS.perm (WkS.cons rfl (Wk.refl _) (WkS.cons rfl (Wk.refl _) (WkS.nil))) (List.Perm.refl _) (List.Perm.refl _)) (retD_mk (hh := []) (.inl rfl) (resL_cons (resOne_tmp rfl) (resL_cons (resOne_tmp rfl) (resL_nil))) (List.nil_sublist _) (List.Sublist.refl _) ?_)
          exact ⟨rfl, rfl, rfl⟩
        · replace hm := yes_f hc41 hm
          refine wpD_seq ?_
          refine wpD_region ?_
          refine p_pure htab rfl rfl rfl rfl ?_
          refine p_pure htab rfl rfl rfl rfl ?_
          refine ops_nil ?_
          refine then_normal ?_
          refine wpD_cond rfl (fun hc47 => ?_) (fun hc47 => ?_)
          · replace hm := yes_t hc47 hm
            refine wpD_seq ?_
            obtain ⟨y49, q49, ho49⟩ := yes_bind hm
            refine wpD_mid (Y := Unit) (fun z49 => (⟨[(8, .v (.bool y49))], [], []⟩ : S)) ?_ ?_
            · clear hm; have hm := yes_of q49
              refine wpD_region ?_
              refine p_pure htab rfl rfl rfl rfl ?_
              refine p_pure htab rfl rfl rfl rfl ?_
              refine p_pure htab rfl rfl rfl rfl ?_
              refine p_split (i := 34) rfl (fun hg50 => ?_) (fun hg50 => ?_)
              · replace hm := yes_t hg50 hm
                refine p_pure htab rfl rfl rfl rfl ?_
                refine p_pure htab rfl rfl rfl rfl ?_
                refine p_pickT rfl rfl rfl rfl rfl rfl ?_
                refine p_pure htab rfl rfl rfl rfl ?_
                refine ops_nil ?_
                have e49 := yes_eq hm; subst e49
                refine ⟨rfl, ?_⟩
                exact WkX.of () (WkS.perm (WkS.cons rfl (Wk.refl _) (WkS.nil)) (List.Perm.refl _) (List.Perm.refl _))
              · replace hm := yes_f hg50 hm
                refine p_skip rfl rfl rfl ?_
                refine p_skip rfl rfl rfl ?_
                refine p_pickF rfl rfl rfl rfl rfl rfl ?_
                refine p_pure htab rfl rfl rfl rfl ?_
                refine ops_nil ?_
                have e49 := yes_eq hm; subst e49
                refine ⟨rfl, ?_⟩
                exact WkX.of () (WkS.perm (WkS.cons rfl (Wk.refl _) (WkS.nil)) (List.Perm.refl _) (List.Perm.refl _))
            · intro s49 hw49; clear hm; have hm := ho49; clear q49 ho49
              refine then_normal ?_
              refine wpD_wkX hw49 (fun z49 => ?_)
              refine wpD_goto ?_
              refine block_goto ?_
              refine then_goto ?_
              refine scope_goto rfl (jumpsD_succ ?_)
              refine wpD_seq ?_
              refine wpD_skip ?_
              refine then_normal ?_
              refine wpD_seq ?_
              refine wpD_region ?_
              refine p_pure htab rfl rfl rfl rfl ?_
              refine p_pure htab rfl rfl rfl rfl ?_
              refine p_pure htab rfl rfl rfl rfl ?_
              refine ops_nil ?_
              refine then_normal ?_
              refine wpD_ret ?_
              refine scope_ret ?_
              have er51 := yes_eq hm; subst er51
              refine retX.of (s' := ⟨[(6, .v (.bool y49)), (7, .v (.bool true))], [], []⟩) (WkS.perm (WkS.cons rfl (Wk.refl _) (WkS.cons rfl (Wk.refl _) (WkS.nil))) (List.Perm.refl _) (List.Perm.refl _)) (retD_mk (hh := []) (.inl rfl) (resL_cons (resOne_tmp rfl) (resL_cons (resOne_tmp rfl) (resL_nil))) (List.nil_sublist _) (List.Sublist.refl _) ?_)
              exact ⟨rfl, rfl, rfl⟩
          · replace hm := yes_f hc47 hm
            refine wpD_seq ?_
            refine wpD_region ?_
            refine p_pure htab rfl rfl rfl rfl ?_
            refine p_pure htab rfl rfl rfl rfl ?_
            refine ops_nil ?_
            refine then_normal ?_
            refine wpD_cond rfl (fun hc54 => ?_) (fun hc54 => ?_)
            · replace hm := yes_t hc54 hm
              refine wpD_seq ?_
              obtain ⟨y56, q56, ho56⟩ := yes_bind hm
              refine wpD_mid (Y := Unit) (fun z56 => (⟨[(8, .v (.bool y56))], [], []⟩ : S)) ?_ ?_
              · clear hm; have hm := yes_of q56
                refine wpD_region ?_
                refine p_pure htab rfl rfl rfl rfl ?_
                refine p_pure htab rfl rfl rfl rfl ?_
                refine p_pure htab rfl rfl rfl rfl ?_
                refine p_split (i := 42) rfl (fun hg57 => ?_) (fun hg57 => ?_)
                · replace hm := yes_t hg57 hm
                  refine p_skip rfl rfl rfl ?_
                  refine p_skip rfl rfl rfl ?_
                  refine p_pickT rfl rfl rfl rfl rfl rfl ?_
                  refine p_pure htab rfl rfl rfl rfl ?_
                  refine ops_nil ?_
                  have e56 := yes_eq hm; subst e56
                  refine ⟨rfl, ?_⟩
                  exact WkX.of () (WkS.perm (WkS.cons rfl (Wk.refl _) (WkS.nil)) (List.Perm.refl _) (List.Perm.refl _))
                · replace hm := yes_f hg57 hm
                  refine p_pure htab rfl rfl rfl rfl ?_
                  refine p_pure htab rfl rfl rfl rfl ?_
                  refine p_pickF rfl rfl rfl rfl rfl rfl ?_
                  refine p_pure htab rfl rfl rfl rfl ?_
                  refine ops_nil ?_
                  have e56 := yes_eq hm; subst e56
                  refine ⟨rfl, ?_⟩
                  exact WkX.of () (WkS.perm (WkS.cons rfl (Wk.refl _) (WkS.nil)) (List.Perm.refl _) (List.Perm.refl _))
              · intro s56 hw56; clear hm; have hm := ho56; clear q56 ho56
                refine then_normal ?_
                refine wpD_wkX hw56 (fun z56 => ?_)
                refine wpD_goto ?_
                refine block_goto ?_
                refine then_goto ?_
                refine scope_goto rfl (jumpsD_succ ?_)
                refine wpD_seq ?_
                refine wpD_skip ?_
                refine then_normal ?_
                refine wpD_seq ?_
                refine wpD_region ?_
                refine p_pure htab rfl rfl rfl rfl ?_
                refine p_pure htab rfl rfl rfl rfl ?_
                refine p_pure htab rfl rfl rfl rfl ?_
                refine ops_nil ?_
                refine then_normal ?_
                refine wpD_ret ?_
                refine scope_ret ?_
                have er58 := yes_eq hm; subst er58
                refine retX.of (s' := ⟨[(6, .v (.bool y56)), (7, .v (.bool true))], [], []⟩) (WkS.perm (WkS.cons rfl (Wk.refl _) (WkS.cons rfl (Wk.refl _) (WkS.nil))) (List.Perm.refl _) (List.Perm.refl _)) (retD_mk (hh := []) (.inl rfl) (resL_cons (resOne_tmp rfl) (resL_cons (resOne_tmp rfl) (resL_nil))) (List.nil_sublist _) (List.Sublist.refl _) ?_)
                exact ⟨rfl, rfl, rfl⟩
            · replace hm := yes_f hc54 hm
              refine wpD_skip ?_
              refine block_normal ?_
              refine then_normal ?_
              refine wpD_seq ?_
              refine wpD_seq ?_
              refine wpD_region ?_
              refine p_pure htab rfl rfl rfl rfl ?_
              refine p_pure htab rfl rfl rfl rfl ?_
              refine ops_nil ?_
              refine then_normal ?_
              refine wpD_ret ?_
              refine then_ret ?_
              refine scope_ret ?_
              have er59 := yes_eq hm; subst er59
              refine retX.of (s' := ⟨[(6, .v (.bool false)), (7, .v (.bool false))], [], []⟩) (WkS.perm (WkS.cons rfl (Wk.refl _) (WkS.cons rfl (Wk.refl _) (WkS.nil))) (List.Perm.refl _) (List.Perm.refl _)) (retD_mk (hh := []) (.inl rfl) (resL_cons (resOne_tmp rfl) (resL_cons (resOne_tmp rfl) (resL_nil))) (List.nil_sublist _) (List.Sublist.refl _) ?_)
              exact ⟨rfl, rfl, rfl⟩
noncomputable def wrap_truth (a0 : Bool) : Option (Int) :=
  (bif a0 then some (1 : Int) else some (0 : Int))
set_option maxRecDepth 100000 in
set_option maxHeartbeats 2000000 in
theorem wrap_truth_ok (a0 : Bool) (r : Int) (h0 : wrap_truth a0 = some r) : CallsD Try.prog 84 [.v (.bool a0)] [] [] (fun d h k => d = .v (.int .i64 r) ∧ h = [] ∧ k = []) := by
  have hm := yes_of h0
  unfold wrap_truth at hm
  clear h0
  refine enterX htab Try.func84 rfl rfl rfl rfl rfl (fun C => ?_)
  refine wpD_seq ?_
  refine wpD_region ?_
  refine p_pure htab rfl rfl rfl rfl ?_
  refine ops_nil ?_
  refine then_normal ?_
  refine wpD_seq ?_
  refine wpD_seq ?_
  refine wpD_region ?_
  refine p_pure htab rfl rfl rfl rfl ?_
  refine ops_nil ?_
  refine then_normal ?_
  refine wpD_cond rfl (fun hc1 => ?_) (fun hc1 => ?_)
  · replace hm := yes_t hc1 hm
    refine wpD_seq ?_
    refine wpD_region ?_
    refine p_pure htab rfl rfl rfl rfl ?_
    refine ops_nil ?_
    refine then_normal ?_
    refine wpD_ret ?_
    refine then_ret ?_
    have er2 := yes_eq hm; subst er2
    refine retX.of (s' := ⟨[(2, .v (.int .i64 (1 : Int)))], [], []⟩) (WkS.perm (WkS.cons rfl (Wk.refl _) (WkS.nil)) (List.Perm.refl _) (List.Perm.refl _)) (retD_mk (hh := []) (.inl rfl) (resL_cons (resOne_tmp rfl) (resL_nil)) (List.nil_sublist _) (List.Sublist.refl _) ?_)
    exact ⟨rfl, rfl, rfl⟩
  · replace hm := yes_f hc1 hm
    refine wpD_skip ?_
    refine then_normal ?_
    refine wpD_seq ?_
    refine wpD_region ?_
    refine p_pure htab rfl rfl rfl rfl ?_
    refine ops_nil ?_
    refine then_normal ?_
    refine wpD_ret ?_
    have er3 := yes_eq hm; subst er3
    refine retX.of (s' := ⟨[(2, .v (.int .i64 (0 : Int)))], [], []⟩) (WkS.perm (WkS.cons rfl (Wk.refl _) (WkS.nil)) (List.Perm.refl _) (List.Perm.refl _)) (retD_mk (hh := []) (.inl rfl) (resL_cons (resOne_tmp rfl) (resL_nil)) (List.nil_sublist _) (List.Sublist.refl _) ?_)
    exact ⟨rfl, rfl, rfl⟩
noncomputable def wrap_Do (a0 : Int) (a1 : Int) (a2 : Int) : Option (Int × Int) :=
  ((wrap_Exact a0 a1 a2).bind fun x1 => (bif x1.2 then ((need (pW x1.1)).bind fun x6 => some ((wLow x1.1), (0 : Int))) else (Option.bind (α := Bool) (bif (a0 == (8 : Int)) then some true else some (a0 == (9 : Int))) fun y9 => (bif y9 then ((wrap_parts a0 a1 a2).bind fun x14 => some (x14.1, x14.2)) else ((wrap_holds a0 a1 a2).bind fun x16 => (bif (!x16.2) then some ((0 : Int), (2 : Int)) else ((wrap_truth x16.1).bind fun x20 => some (x20, (0 : Int)))))))))
set_option maxRecDepth 100000 in
set_option maxHeartbeats 2000000 in
theorem wrap_Do_ok (a0 : Int) (a1 : Int) (a2 : Int) (r : Int × Int) (h0 : wrap_Do a0 a1 a2 = some r) : CallsD Try.prog 65 [.v (.int .i64 a0), .v (.int .i64 a1), .v (.int .i64 a2)] [] [] (fun d h k => d = .tup [.v (.int .i64 r.1), .v (.int .i64 r.2)] ∧ h = [] ∧ k = []) := by
  have hm := yes_of h0
  unfold wrap_Do at hm
  clear h0
  refine enterX htab Try.func65 rfl rfl rfl rfl rfl (fun C => ?_)
  refine wpD_seq ?_
  refine wpD_region ?_
  refine p_pure htab rfl rfl rfl rfl ?_
  refine p_pure htab rfl rfl rfl rfl ?_
  refine ops_nil ?_
  refine then_normal ?_
  refine wpD_seq ?_
  refine wpD_seq ?_
  refine wpD_region ?_
  refine p_pure htab rfl rfl rfl rfl ?_
  refine p_pure htab rfl rfl rfl rfl ?_
  refine p_pure htab rfl rfl rfl rfl ?_
  obtain ⟨x1, q1, hm⟩ := yes_bind hm
  refine p_call0 (wrap_Exact_ok a0 a1 a2 x1 q1) rfl rfl rfl rfl rfl (WkL.refl _) ?_
  rintro _ rfl
  refine p_pure htab rfl rfl rfl rfl ?_
  refine p_pure htab rfl rfl rfl rfl ?_
  refine p_pure htab rfl rfl rfl rfl ?_
  refine p_alloc htab rfl rfl rfl rfl rfl rfl rfl (fun b2 => ?_)
  refine p_store (ds' := [.v (.int .i64 x1.1.gHi), .v (.int .u64 x1.1.gLo)]) (h' := [(b2, Blk.cells [.v (.int .i64 x1.1.gHi), .v (.int .u64 x1.1.gLo)] 31)]) 0 htab rfl rfl rfl rfl rfl rfl rfl rfl rfl rfl rfl rfl ?_
  refine p_pure htab rfl rfl rfl rfl ?_
  refine ops_nil ?_
  refine then_normal ?_
  refine wpD_seq ?_
  refine wpD_region ?_
  refine p_pure htab rfl rfl rfl rfl ?_
  refine ops_nil ?_
  refine then_normal ?_
  refine wpD_cond rfl (fun hc5 => ?_) (fun hc5 => ?_)
  · replace hm := yes_t hc5 hm
    refine wpD_seq ?_
    refine wpD_region ?_
    refine p_load (d := eTApiWide x1.1) 0 htab rfl rfl rfl rfl rfl rfl rfl rfl ?_
    obtain ⟨x6, q6, hm⟩ := yes_bind hm
    refine p_call0 (wLow_ok x1.1 (need_ok q6)) rfl rfl rfl rfl rfl (WkL.refl _) ?_
    rintro _ rfl
    refine p_pure htab rfl rfl rfl rfl ?_
    refine p_pure htab rfl rfl rfl rfl ?_
    refine ops_nil ?_
    refine then_normal ?_
    refine wpD_ret ?_
    refine then_ret ?_
    have er7 := yes_eq hm; subst er7
    refine retX.of (s' := ⟨[(6, .v (.int .i64 (wLow x1.1))), (7, .v (.int .i64 (0 : Int)))], [], []⟩) (WkS.perm (WkS.cons rfl (Wk.refl _) (WkS.cons rfl (Wk.refl _) (WkS.nil))) (List.Perm.refl _) (List.Perm.refl _)) (retD_mk (hh := []) (.inl rfl) (resL_cons (resOne_tmp rfl) (resL_cons (resOne_tmp rfl) (resL_nil))) (List.nil_sublist _) (List.Sublist.refl _) ?_)
    exact ⟨rfl, rfl, rfl⟩
  · replace hm := yes_f hc5 hm
    refine wpD_skip ?_
    refine then_normal ?_
    refine wpD_seq ?_
    refine wpD_seq ?_
    obtain ⟨y9, q9, ho9⟩ := yes_bind hm
    refine wpD_mid (Y := Unit) (fun z9 => (⟨[(0, .v (.int .i64 a0)), (1, .v (.int .i64 a1)), (2, .v (.int .i64 a2)), (27, .v (.bool y9))], [(b2, Blk.cells [.v (.int .i64 x1.1.gHi), .v (.int .u64 x1.1.gLo)] 31)], []⟩ : S)) ?_ ?_
    · clear hm; have hm := yes_of q9
      refine wpD_region ?_
      refine p_pure htab rfl rfl rfl rfl ?_
      refine p_pure htab rfl rfl rfl rfl ?_
      refine p_pure htab rfl rfl rfl rfl ?_
      refine p_split (i := 24) rfl (fun hg10 => ?_) (fun hg10 => ?_)
      · replace hm := yes_t hg10 hm
        refine p_skip rfl rfl rfl ?_
        refine p_skip rfl rfl rfl ?_
        refine p_pickT rfl rfl rfl rfl rfl rfl ?_
        refine ops_nil ?_
        have e9 := yes_eq hm; subst e9
        refine ⟨rfl, ?_⟩
        exact WkX.of () (WkS.perm (WkS.cons rfl (Wk.refl _) (WkS.cons rfl (Wk.refl _) (WkS.cons rfl (Wk.refl _) (WkS.cons rfl (Wk.refl _) (WkS.nil))))) (List.Perm.refl _) (List.Perm.refl _))
      · replace hm := yes_f hg10 hm
        refine p_pure htab rfl rfl rfl rfl ?_
        refine p_pure htab rfl rfl rfl rfl ?_
        refine p_pickF rfl rfl rfl rfl rfl rfl ?_
        refine ops_nil ?_
        have e9 := yes_eq hm; subst e9
        refine ⟨rfl, ?_⟩
        exact WkX.of () (WkS.perm (WkS.cons rfl (Wk.refl _) (WkS.cons rfl (Wk.refl _) (WkS.cons rfl (Wk.refl _) (WkS.cons rfl (Wk.refl _) (WkS.nil))))) (List.Perm.refl _) (List.Perm.refl _))
    · intro s9 hw9; clear hm; have hm := ho9; clear q9 ho9
      refine then_normal ?_
      refine wpD_wkX hw9 (fun z9 => ?_)
      refine wpD_cond rfl (fun hc13 => ?_) (fun hc13 => ?_)
      · replace hm := yes_t hc13 hm
        refine wpD_seq ?_
        refine wpD_region ?_
        refine p_pure htab rfl rfl rfl rfl ?_
        refine p_pure htab rfl rfl rfl rfl ?_
        refine p_pure htab rfl rfl rfl rfl ?_
        obtain ⟨x14, q14, hm⟩ := yes_bind hm
        refine p_call0 (wrap_parts_ok a0 a1 a2 x14 q14) rfl rfl rfl rfl rfl (WkL.refl _) ?_
        rintro _ rfl
        refine p_pure htab rfl rfl rfl rfl ?_
        refine p_pure htab rfl rfl rfl rfl ?_
        refine p_pure htab rfl rfl rfl rfl ?_
        refine p_pure htab rfl rfl rfl rfl ?_
        refine ops_nil ?_
        refine then_normal ?_
        refine wpD_ret ?_
        refine then_ret ?_
        have er15 := yes_eq hm; subst er15
        refine retX.of (s' := ⟨[(6, .v (.int .i64 x14.1)), (7, .v (.int .i64 x14.2))], [], []⟩) (WkS.perm (WkS.cons rfl (Wk.refl _) (WkS.cons rfl (Wk.refl _) (WkS.nil))) (List.Perm.refl _) (List.Perm.refl _)) (retD_mk (hh := []) (.inl rfl) (resL_cons (resOne_tmp rfl) (resL_cons (resOne_tmp rfl) (resL_nil))) (List.nil_sublist _) (List.Sublist.refl _) ?_)
        exact ⟨rfl, rfl, rfl⟩
      · replace hm := yes_f hc13 hm
        refine wpD_skip ?_
        refine then_normal ?_
        refine wpD_seq ?_
        refine wpD_region ?_
        refine p_pure htab rfl rfl rfl rfl ?_
        refine p_pure htab rfl rfl rfl rfl ?_
        refine p_pure htab rfl rfl rfl rfl ?_
        obtain ⟨x16, q16, hm⟩ := yes_bind hm
        refine p_call0 (wrap_holds_ok a0 a1 a2 x16 q16) rfl rfl rfl rfl rfl (WkL.refl _) ?_
        rintro _ rfl
        refine p_pure htab rfl rfl rfl rfl ?_
        refine p_pure htab rfl rfl rfl rfl ?_
        refine p_pure htab rfl rfl rfl rfl ?_
        refine p_pure htab rfl rfl rfl rfl ?_
        refine p_pure htab rfl rfl rfl rfl ?_
        refine ops_nil ?_
        refine then_normal ?_
        refine wpD_seq ?_
        refine wpD_seq ?_
        refine wpD_region ?_
        refine p_pure htab rfl rfl rfl rfl ?_
        refine p_pure htab rfl rfl rfl rfl ?_
        refine ops_nil ?_
        refine then_normal ?_
        refine wpD_cond rfl (fun hc18 => ?_) (fun hc18 => ?_)
        · replace hm := yes_t hc18 hm
          refine wpD_seq ?_
          refine wpD_region ?_
          refine p_pure htab rfl rfl rfl rfl ?_
          refine p_pure htab rfl rfl rfl rfl ?_
          refine ops_nil ?_
          refine then_normal ?_
          refine wpD_ret ?_
          refine then_ret ?_
          have er19 := yes_eq hm; subst er19
          refine retX.of (s' := ⟨[(6, .v (.int .i64 (0 : Int))), (7, .v (.int .i64 (2 : Int)))], [], []⟩) (WkS.perm (WkS.cons rfl (Wk.refl _) (WkS.cons rfl (Wk.refl _) (WkS.nil))) (List.Perm.refl _) (List.Perm.refl _)) (retD_mk (hh := []) (.inl rfl) (resL_cons (resOne_tmp rfl) (resL_cons (resOne_tmp rfl) (resL_nil))) (List.nil_sublist _) (List.Sublist.refl _) ?_)
          exact ⟨rfl, rfl, rfl⟩
        · replace hm := yes_f hc18 hm
          refine wpD_skip ?_
          refine then_normal ?_
          refine wpD_seq ?_
          refine wpD_region ?_
          refine p_pure htab rfl rfl rfl rfl ?_
          obtain ⟨x20, q20, hm⟩ := yes_bind hm
          refine p_call0 (wrap_truth_ok x16.1 x20 q20) rfl rfl rfl rfl rfl (WkL.refl _) ?_
          rintro _ rfl
          refine p_pure htab rfl rfl rfl rfl ?_
          refine p_pure htab rfl rfl rfl rfl ?_
          refine ops_nil ?_
          refine then_normal ?_
          refine wpD_ret ?_
          have er21 := yes_eq hm; subst er21
          refine retX.of (s' := ⟨[(6, .v (.int .i64 x20)), (7, .v (.int .i64 (0 : Int)))], [], []⟩) (WkS.perm (WkS.cons rfl (Wk.refl _) (WkS.cons rfl (Wk.refl _) (WkS.nil))) (List.Perm.refl _) (List.Perm.refl _)) (retD_mk (hh := []) (.inl rfl) (resL_cons (resOne_tmp rfl) (resL_cons (resOne_tmp rfl) (resL_nil))) (List.nil_sublist _) (List.Sublist.refl _) ?_)
          exact ⟨rfl, rfl, rfl⟩
noncomputable def reckon_Do1 (a0 : Int) (a1 : Int) (a2 : Int) : Option (TApiWide) :=
  ((wrap_Exact a2 a0 a1).bind fun x2 => some x2.1)
set_option maxRecDepth 100000 in
set_option maxHeartbeats 2000000 in
theorem reckon_Do1_ok (a0 : Int) (a1 : Int) (a2 : Int) (b0 : Nat) (T0 : TypeId) (r : TApiWide) (h0 : reckon_Do1 a0 a1 a2 = some r) : CallsD Try.prog 26 [.v (.int .i64 a0), .v (.int .i64 a1), .ptr b0 0] [(b0, Blk.cells [.v (.int .i64 a2)] T0)] [] (fun d h k => d = eTApiWide r ∧ h = [(b0, Blk.cells [.v (.int .i64 a2)] T0)] ∧ k = []) := by
  have hm := yes_of h0
  unfold reckon_Do1 at hm
  clear h0
  refine enterX htab Try.func26 rfl rfl rfl rfl rfl (fun C => ?_)
  refine wpD_seq ?_
  refine wpD_region ?_
  refine p_alloc htab rfl rfl rfl rfl rfl rfl rfl (fun b1 => ?_)
  refine ops_nil ?_
  refine then_normal ?_
  refine wpD_seq ?_
  refine wpD_region ?_
  refine p_load 0 htab rfl rfl rfl rfl rfl rfl rfl rfl ?_
  refine p_pure htab rfl rfl rfl rfl ?_
  refine p_pure htab rfl rfl rfl rfl ?_
  obtain ⟨x2, q2, hm⟩ := yes_bind hm
  refine p_call0 (wrap_Exact_ok a2 a0 a1 x2 q2) rfl rfl rfl rfl rfl (WkL.refl _) ?_
  rintro _ rfl
  refine p_pure htab rfl rfl rfl rfl ?_
  refine p_pure htab rfl rfl rfl rfl ?_
  refine p_pure htab rfl rfl rfl rfl ?_
  refine p_alloc htab rfl rfl rfl rfl rfl rfl rfl (fun b3 => ?_)
  refine p_store (ds' := [.v (.int .i64 x2.1.gHi), .v (.int .u64 x2.1.gLo)]) (h' := [(b0, Blk.cells [.v (.int .i64 a2)] T0), (b1, Blk.cells [.v (.int .i64 (0 : Int)), .v (.int .u64 (0 : Int))] 31), (b3, Blk.cells [.v (.int .i64 x2.1.gHi), .v (.int .u64 x2.1.gLo)] 31)]) 2 htab rfl rfl rfl rfl rfl rfl rfl rfl rfl rfl rfl rfl ?_
  refine p_pure htab rfl rfl rfl rfl ?_
  refine ops_nil ?_
  refine then_normal ?_
  refine wpD_seq ?_
  refine wpD_region ?_
  refine p_load (d := eTApiWide x2.1) 2 htab rfl rfl rfl rfl rfl rfl rfl rfl ?_
  refine p_store (ds' := [.v (.int .i64 x2.1.gHi), .v (.int .u64 x2.1.gLo)]) (h' := [(b0, Blk.cells [.v (.int .i64 a2)] T0), (b1, Blk.cells [.v (.int .i64 x2.1.gHi), .v (.int .u64 x2.1.gLo)] 31), (b3, Blk.cells [.v (.int .i64 x2.1.gHi), .v (.int .u64 x2.1.gLo)] 31)]) 1 htab rfl rfl rfl rfl rfl rfl rfl rfl rfl rfl rfl rfl ?_
  refine ops_nil ?_
  refine then_normal ?_
  refine wpD_ret ?_
  have er4 := yes_eq hm; subst er4
  refine retX.of (s' := ⟨[(5, .ptr b1 0)], [(b0, Blk.cells [.v (.int .i64 a2)] T0), (b1, Blk.cells [.v (.int .i64 x2.1.gHi), .v (.int .u64 x2.1.gLo)] 31)], []⟩) (WkS.perm (WkS.cons rfl (Wk.refl _) (WkS.nil)) (List.Perm.refl _) (List.Perm.refl _)) (retD_mk (hh := [(b0, Blk.cells [.v (.int .i64 a2)] T0)]) (.inl rfl) (resL_cons (resOne_cell 1 rfl rfl rfl rfl) (resL_nil)) (List.sublist_append_left [_] _) (List.Sublist.refl _) ?_)
  exact ⟨rfl, rfl, rfl⟩
noncomputable def reckon_cornersE (a0 : TApiSpan) (a1 : TApiSpan) (a2 : Int) : Option (List TApiWide) :=
  ((reckon_Do1 a0.gLo a1.gLo a2).bind fun x3 => ((reckon_Do1 a0.gLo a1.gHi a2).bind fun x4 => ((reckon_Do1 a0.gHi a1.gLo a2).bind fun x5 => ((reckon_Do1 a0.gHi a1.gHi a2).bind fun x6 => some ([x3, x4, x5, x6] : List TApiWide)))))
set_option maxRecDepth 100000 in
set_option maxHeartbeats 2000000 in
theorem reckon_cornersE_ok (a0 : TApiSpan) (a1 : TApiSpan) (a2 : Int) (b0 : Nat) (T0 : TypeId) (r : List TApiWide) (h0 : reckon_cornersE a0 a1 a2 = some r) : CallsD Try.prog 29 [eTApiSpan a0, eTApiSpan a1, .fn (.func 26) [] [.ptr b0 0]] [(b0, Blk.cells [.v (.int .i64 a2)] T0)] [] (fun d h k => ∃ y0, d = .lst 2 (r.map eTApiWide) (.cur y0) ∧ h = [(b0, Blk.cells [.v (.int .i64 a2)] T0)] ∧ k = [(2, y0)]) := by
  have hm := yes_of h0
  unfold reckon_cornersE at hm
  clear h0
  refine enterX htab Try.func29 rfl rfl rfl rfl rfl (fun C => ?_)
  refine wpD_seq ?_
  refine wpD_region ?_
  refine p_box rfl rfl rfl rfl rfl rfl rfl (fun b1 => ?_)
  refine p_box rfl rfl rfl rfl rfl rfl rfl (fun b2 => ?_)
  refine p_pure htab rfl rfl rfl rfl ?_
  refine ops_nil ?_
  refine then_normal ?_
  refine wpD_seq ?_
  obtain ⟨x3, q3, hm⟩ := yes_bind hm
  obtain ⟨x4, q4, hm⟩ := yes_bind hm
  obtain ⟨x5, q5, hm⟩ := yes_bind hm
  refine wpD_draws 23 [] [[],[],[1],[],[3],[0,1,3],[],[],[7],[],[9],[0,1,3,5,6,7,9],[],[],[13],[],[15],[0,1,3,5,6,7,9,11,12,13,15],[],[],[19],[],[21]] [0,1,3,5,6,7,9,11,12,13,15,17,18,19,21] [[],[],[1],[],[3],[0,1,2,3,4],[],[],[7],[],[9],[0,1,2,3,4,5,6,7,8,9,10],[],[],[13],[],[15],[0,1,2,3,4,5,6,7,8,9,10,11,12,13,14,15,16],[],[],[19],[],[21],[0,1,2,3,4,5,6,7,8,9,10,11,12,13,14,15,16,17,18,19,20,21,22],[0,1,2,3,4,5,6,7,8,9,10,11,12,13,14,15,16,17,18,19,20,21,22,23],[0,1,2,3,4,5,6,7,8,9,10,11,12,13,14,15,16,17,18,19,20,21,22,23,24]] (by kernel_rfl) (by kernel_rfl) (by kernel_rfl) (by rfl) (by rfl) (by kernel_rfl) ?_
  apply Exists.intro
  apply Exists.intro
  apply Exists.intro
  apply Exists.intro
  apply Exists.intro
  apply Exists.intro
  apply Exists.intro
  apply Exists.intro
  apply Exists.intro
  apply Exists.intro
  apply Exists.intro
  apply Exists.intro
  apply Exists.intro
  apply Exists.intro
  apply Exists.intro
  intro bs
  refine z_e rfl rfl (ex_pure htab rfl) rfl rfl rfl rfl rfl rfl ?_
  refine z_e rfl rfl (ex_pure htab rfl) rfl rfl rfl rfl rfl rfl ?_
  refine z_qM rfl rfl (xm_load 1 htab rfl rfl rfl rfl rfl) rfl rfl rfl rfl rfl rfl ?_
  refine z_e rfl rfl (ex_pure htab rfl) rfl rfl rfl rfl rfl rfl ?_
  refine z_qM rfl rfl (xm_load 2 htab rfl rfl rfl rfl rfl) rfl rfl rfl rfl rfl rfl ?_
  refine z_callVB 0 rfl rfl (reckon_Do1_ok a0.gLo a1.gLo a2 b0 T0 x3 q3) rfl rfl rfl rfl (WkL.refl _) rfl rfl rfl rfl rfl rfl rfl ?_
  refine z_e rfl rfl (ex_pure htab rfl) rfl rfl rfl rfl rfl rfl ?_
  refine z_e rfl rfl (ex_pure htab rfl) rfl rfl rfl rfl rfl rfl ?_
  refine z_qM rfl rfl (xm_load 1 htab rfl rfl rfl rfl rfl) rfl rfl rfl rfl rfl rfl ?_
  refine z_e rfl rfl (ex_pure htab rfl) rfl rfl rfl rfl rfl rfl ?_
  refine z_qM rfl rfl (xm_load 2 htab rfl rfl rfl rfl rfl) rfl rfl rfl rfl rfl rfl ?_
  refine z_callVB 0 rfl rfl (reckon_Do1_ok a0.gLo a1.gHi a2 b0 T0 x4 q4) rfl rfl rfl rfl (WkL.refl _) rfl rfl rfl rfl rfl rfl rfl ?_
  refine z_e rfl rfl (ex_pure htab rfl) rfl rfl rfl rfl rfl rfl ?_
  refine z_e rfl rfl (ex_pure htab rfl) rfl rfl rfl rfl rfl rfl ?_
  refine z_qM rfl rfl (xm_load 1 htab rfl rfl rfl rfl rfl) rfl rfl rfl rfl rfl rfl ?_
  refine z_e rfl rfl (ex_pure htab rfl) rfl rfl rfl rfl rfl rfl ?_
  refine z_qM rfl rfl (xm_load 2 htab rfl rfl rfl rfl rfl) rfl rfl rfl rfl rfl rfl ?_
  refine z_callVB 0 rfl rfl (reckon_Do1_ok a0.gHi a1.gLo a2 b0 T0 x5 q5) rfl rfl rfl rfl (WkL.refl _) rfl rfl rfl rfl rfl rfl rfl ?_
  refine z_e rfl rfl (ex_pure htab rfl) rfl rfl rfl rfl rfl rfl ?_
  refine z_e rfl rfl (ex_pure htab rfl) rfl rfl rfl rfl rfl rfl ?_
  refine z_qM rfl rfl (xm_load 1 htab rfl rfl rfl rfl rfl) rfl rfl rfl rfl rfl rfl ?_
  refine z_e rfl rfl (ex_pure htab rfl) rfl rfl rfl rfl rfl rfl ?_
  refine z_qM rfl rfl (xm_load 2 htab rfl rfl rfl rfl rfl) rfl rfl rfl rfl rfl rfl ?_
  refine z_nil rfl rfl (fun e he => by simp [isAl] at he) ?_
  obtain ⟨x6, q6, hm⟩ := yes_bind hm
  refine p_callVB (R' := fun d x k => d = eTApiWide x6 ∧ x = (b0, Blk.cells [.v (.int .i64 a2)] T0) ∧ k = []) 0 (reckon_Do1_ok a0.gHi a1.gHi a2 b0 T0 x6 q6) (fun d h k ⟨e1, e2, e3⟩ => ⟨_, e2, e1, rfl, e3⟩) rfl rfl rfl rfl rfl rfl rfl (WkL.refl _) rfl (List.Perm.refl _) ?_
  rintro _ _ _ ⟨rfl, rfl, rfl⟩
  refine p_lit htab rfl rfl rfl rfl rfl rfl rfl rfl rfl rfl rfl rfl rfl rfl ?_
  refine p_eq (i := 31) (d' := .lst 2 (([x3, x4, x5, x6] : List TApiWide).map eTApiWide) .full) rfl (Wk.lst0 (.cons (WkC.refl _) (.cons (WkC.refl _) (.cons (WkC.refl _) (.cons (WkC.refl _) (.nil)))))) ?_
  refine p_pure htab rfl rfl rfl rfl ?_
  refine ops_nil ?_
  refine then_normal ?_
  refine wpD_ret ?_
  have er7 := yes_eq hm; subst er7
  refine retX.tokF (i := 6) rfl (fun w8 => ?_)
  refine retX.of (s' := ⟨[(6, .lst 2 (([x3, x4, x5, x6] : List TApiWide).map eTApiWide) (.cur w8))], [(b0, Blk.cells [.v (.int .i64 a2)] T0)], [(2, w8)]⟩) (WkS.perm (WkS.cons rfl (Wk.refl _) (WkS.nil)) (List.Perm.refl _) (List.Perm.refl _)) (retD_mk (hh := [(b0, Blk.cells [.v (.int .i64 a2)] T0)]) (.inl rfl) (resL_cons (resOne_tmp rfl) (resL_nil)) (List.Sublist.refl _) (List.Sublist.refl _) ?_)
  exact ⟨w8, rfl, rfl, rfl⟩
noncomputable def reckon_quotient (a0 : Int) (a1 : Int) : Option (TApiWide) :=
  (bif (a1 == (-1 : Int)) then ((need (pI a0)).bind fun x6 => ((need (pW (wOf a0))).bind fun x7 => some (wNeg (wOf a0)))) else ((need (a1 != 0)).bind fun x9 => ((need (pI (IntKind.i64.wrap (a0.tdiv a1)))).bind fun x10 => some (wOf (IntKind.i64.wrap (a0.tdiv a1))))))
set_option maxRecDepth 100000 in
set_option maxHeartbeats 2000000 in
theorem reckon_quotient_ok (a0 : Int) (a1 : Int) (r : TApiWide) (h0 : reckon_quotient a0 a1 = some r) : CallsD Try.prog 64 [.v (.int .i64 a0), .v (.int .i64 a1)] [] [] (fun d h k => d = eTApiWide r ∧ h = [] ∧ k = []) := by
  have hm := yes_of h0
  unfold reckon_quotient at hm
  clear h0
  refine enterX htab Try.func64 rfl rfl rfl rfl rfl (fun C => ?_)
  refine wpD_seq ?_
  refine wpD_region ?_
  refine p_alloc htab rfl rfl rfl rfl rfl rfl rfl (fun b1 => ?_)
  refine ops_nil ?_
  refine then_normal ?_
  refine wpD_seq ?_
  refine wpD_seq ?_
  refine wpD_region ?_
  refine p_pure htab rfl rfl rfl rfl ?_
  refine p_pure htab rfl rfl rfl rfl ?_
  refine ops_nil ?_
  refine then_normal ?_
  refine wpD_cond rfl (fun hc5 => ?_) (fun hc5 => ?_)
  · replace hm := yes_t hc5 hm
    refine wpD_seq ?_
    refine wpD_region ?_
    refine p_pure htab rfl rfl rfl rfl ?_
    obtain ⟨x6, q6, hm⟩ := yes_bind hm
    refine p_call0 (wOf_ok a0 (need_ok q6)) rfl rfl rfl rfl rfl (WkL.refl _) ?_
    rintro _ rfl
    obtain ⟨x7, q7, hm⟩ := yes_bind hm
    refine p_call0 (wNeg_ok (wOf a0) (need_ok q7)) rfl rfl rfl rfl rfl (WkL.refl _) ?_
    rintro _ rfl
    refine p_store (ds' := [.v (.int .i64 ((wNeg (wOf a0)).gHi)), .v (.int .u64 ((wNeg (wOf a0)).gLo))]) (h' := [(b1, Blk.cells [.v (.int .i64 ((wNeg (wOf a0)).gHi)), .v (.int .u64 ((wNeg (wOf a0)).gLo))] 31)]) 0 htab rfl rfl rfl rfl rfl rfl rfl rfl rfl rfl rfl rfl ?_
    refine ops_nil ?_
    refine then_normal ?_
    refine wpD_ret ?_
    refine then_ret ?_
    have er8 := yes_eq hm; subst er8
    refine retX.of (s' := ⟨[(4, .ptr b1 0)], [(b1, Blk.cells [.v (.int .i64 ((wNeg (wOf a0)).gHi)), .v (.int .u64 ((wNeg (wOf a0)).gLo))] 31)], []⟩) (WkS.perm (WkS.cons rfl (Wk.refl _) (WkS.nil)) (List.Perm.refl _) (List.Perm.refl _)) (retD_mk (hh := []) (.inl rfl) (resL_cons (resOne_cell 0 rfl rfl rfl rfl) (resL_nil)) (List.nil_sublist _) (List.Sublist.refl _) ?_)
    exact ⟨rfl, rfl, rfl⟩
  · replace hm := yes_f hc5 hm
    refine wpD_skip ?_
    refine then_normal ?_
    refine wpD_seq ?_
    refine wpD_region ?_
    refine p_pure htab rfl rfl rfl rfl ?_
    refine p_pure htab rfl rfl rfl rfl ?_
    obtain ⟨x9, q9, hm⟩ := yes_bind hm
    refine p_div rfl rfl rfl rfl rfl rfl rfl (by simpa using need_ok q9) ?_
    obtain ⟨x10, q10, hm⟩ := yes_bind hm
    refine p_call0 (wOf_ok (IntKind.i64.wrap (a0.tdiv a1)) (need_ok q10)) rfl rfl rfl rfl rfl (WkL.refl _) ?_
    rintro _ rfl
    refine p_store (ds' := [.v (.int .i64 ((wOf (IntKind.i64.wrap (a0.tdiv a1))).gHi)), .v (.int .u64 ((wOf (IntKind.i64.wrap (a0.tdiv a1))).gLo))]) (h' := [(b1, Blk.cells [.v (.int .i64 ((wOf (IntKind.i64.wrap (a0.tdiv a1))).gHi)), .v (.int .u64 ((wOf (IntKind.i64.wrap (a0.tdiv a1))).gLo))] 31)]) 0 htab rfl rfl rfl rfl rfl rfl rfl rfl rfl rfl rfl rfl ?_
    refine ops_nil ?_
    refine then_normal ?_
    refine wpD_ret ?_
    have er11 := yes_eq hm; subst er11
    refine retX.of (s' := ⟨[(4, .ptr b1 0)], [(b1, Blk.cells [.v (.int .i64 ((wOf (IntKind.i64.wrap (a0.tdiv a1))).gHi)), .v (.int .u64 ((wOf (IntKind.i64.wrap (a0.tdiv a1))).gLo))] 31)], []⟩) (WkS.perm (WkS.cons rfl (Wk.refl _) (WkS.nil)) (List.Perm.refl _) (List.Perm.refl _)) (retD_mk (hh := []) (.inl rfl) (resL_cons (resOne_cell 0 rfl rfl rfl rfl) (resL_nil)) (List.nil_sublist _) (List.Sublist.refl _) ?_)
    exact ⟨rfl, rfl, rfl⟩
noncomputable def reckon_cornersQ (a0 : TApiSpan) (a1 : TApiSpan) : Option (List TApiWide) :=
  ((reckon_quotient a0.gLo a1.gLo).bind fun x3 => ((reckon_quotient a0.gLo a1.gHi).bind fun x4 => ((reckon_quotient a0.gHi a1.gLo).bind fun x5 => ((reckon_quotient a0.gHi a1.gHi).bind fun x6 => some ([x3, x4, x5, x6] : List TApiWide)))))
set_option maxRecDepth 100000 in
set_option maxHeartbeats 2000000 in
theorem reckon_cornersQ_ok (a0 : TApiSpan) (a1 : TApiSpan) (r : List TApiWide) (h0 : reckon_cornersQ a0 a1 = some r) : CallsD Try.prog 29 [eTApiSpan a0, eTApiSpan a1, .fn (.func 64) [] []] [] [] (fun d h k => ∃ y0, d = .lst 2 (r.map eTApiWide) (.cur y0) ∧ h = [] ∧ k = [(2, y0)]) := by
  have hm := yes_of h0
  unfold reckon_cornersQ at hm
  clear h0
  refine enterX htab Try.func29 rfl rfl rfl rfl rfl (fun C => ?_)
  refine wpD_seq ?_
  refine wpD_region ?_
  refine p_box rfl rfl rfl rfl rfl rfl rfl (fun b1 => ?_)
  refine p_box rfl rfl rfl rfl rfl rfl rfl (fun b2 => ?_)
  refine p_pure htab rfl rfl rfl rfl ?_
  refine ops_nil ?_
  refine then_normal ?_
  refine wpD_seq ?_
  obtain ⟨x3, q3, hm⟩ := yes_bind hm
  obtain ⟨x4, q4, hm⟩ := yes_bind hm
  obtain ⟨x5, q5, hm⟩ := yes_bind hm
  refine wpD_draws 23 [] [[],[],[1],[],[3],[0,1,3],[],[],[7],[],[9],[0,1,3,5,6,7,9],[],[],[13],[],[15],[0,1,3,5,6,7,9,11,12,13,15],[],[],[19],[],[21]] [0,1,3,5,6,7,9,11,12,13,15,17,18,19,21] [[],[],[1],[],[3],[0,1,2,3,4],[],[],[7],[],[9],[0,1,2,3,4,5,6,7,8,9,10],[],[],[13],[],[15],[0,1,2,3,4,5,6,7,8,9,10,11,12,13,14,15,16],[],[],[19],[],[21],[0,1,2,3,4,5,6,7,8,9,10,11,12,13,14,15,16,17,18,19,20,21,22],[0,1,2,3,4,5,6,7,8,9,10,11,12,13,14,15,16,17,18,19,20,21,22,23],[0,1,2,3,4,5,6,7,8,9,10,11,12,13,14,15,16,17,18,19,20,21,22,23,24]] (by kernel_rfl) (by kernel_rfl) (by kernel_rfl) (by rfl) (by rfl) (by kernel_rfl) ?_
  apply Exists.intro
  apply Exists.intro
  apply Exists.intro
  apply Exists.intro
  apply Exists.intro
  apply Exists.intro
  apply Exists.intro
  apply Exists.intro
  apply Exists.intro
  apply Exists.intro
  apply Exists.intro
  apply Exists.intro
  apply Exists.intro
  apply Exists.intro
  apply Exists.intro
  intro bs
  refine z_e rfl rfl (ex_pure htab rfl) rfl rfl rfl rfl rfl rfl ?_
  refine z_e rfl rfl (ex_pure htab rfl) rfl rfl rfl rfl rfl rfl ?_
  refine z_qM rfl rfl (xm_load 0 htab rfl rfl rfl rfl rfl) rfl rfl rfl rfl rfl rfl ?_
  refine z_e rfl rfl (ex_pure htab rfl) rfl rfl rfl rfl rfl rfl ?_
  refine z_qM rfl rfl (xm_load 1 htab rfl rfl rfl rfl rfl) rfl rfl rfl rfl rfl rfl ?_
  refine z_callV rfl rfl (reckon_quotient_ok a0.gLo a1.gLo x3 q3) rfl rfl rfl rfl (WkL.refl _) rfl rfl rfl rfl rfl rfl ?_
  refine z_e rfl rfl (ex_pure htab rfl) rfl rfl rfl rfl rfl rfl ?_
  refine z_e rfl rfl (ex_pure htab rfl) rfl rfl rfl rfl rfl rfl ?_
  refine z_qM rfl rfl (xm_load 0 htab rfl rfl rfl rfl rfl) rfl rfl rfl rfl rfl rfl ?_
  refine z_e rfl rfl (ex_pure htab rfl) rfl rfl rfl rfl rfl rfl ?_
  refine z_qM rfl rfl (xm_load 1 htab rfl rfl rfl rfl rfl) rfl rfl rfl rfl rfl rfl ?_
  refine z_callV rfl rfl (reckon_quotient_ok a0.gLo a1.gHi x4 q4) rfl rfl rfl rfl (WkL.refl _) rfl rfl rfl rfl rfl rfl ?_
  refine z_e rfl rfl (ex_pure htab rfl) rfl rfl rfl rfl rfl rfl ?_
  refine z_e rfl rfl (ex_pure htab rfl) rfl rfl rfl rfl rfl rfl ?_
  refine z_qM rfl rfl (xm_load 0 htab rfl rfl rfl rfl rfl) rfl rfl rfl rfl rfl rfl ?_
  refine z_e rfl rfl (ex_pure htab rfl) rfl rfl rfl rfl rfl rfl ?_
  refine z_qM rfl rfl (xm_load 1 htab rfl rfl rfl rfl rfl) rfl rfl rfl rfl rfl rfl ?_
  refine z_callV rfl rfl (reckon_quotient_ok a0.gHi a1.gLo x5 q5) rfl rfl rfl rfl (WkL.refl _) rfl rfl rfl rfl rfl rfl ?_
  refine z_e rfl rfl (ex_pure htab rfl) rfl rfl rfl rfl rfl rfl ?_
  refine z_e rfl rfl (ex_pure htab rfl) rfl rfl rfl rfl rfl rfl ?_
  refine z_qM rfl rfl (xm_load 0 htab rfl rfl rfl rfl rfl) rfl rfl rfl rfl rfl rfl ?_
  refine z_e rfl rfl (ex_pure htab rfl) rfl rfl rfl rfl rfl rfl ?_
  refine z_qM rfl rfl (xm_load 1 htab rfl rfl rfl rfl rfl) rfl rfl rfl rfl rfl rfl ?_
  refine z_nil rfl rfl (fun e he => by simp [isAl] at he) ?_
  obtain ⟨x6, q6, hm⟩ := yes_bind hm
  refine p_callV0 (reckon_quotient_ok a0.gHi a1.gHi x6 q6) rfl rfl rfl rfl rfl rfl rfl (WkL.refl _) ?_
  rintro _ rfl
  refine p_lit htab rfl rfl rfl rfl rfl rfl rfl rfl rfl rfl rfl rfl rfl rfl ?_
  refine p_eq (i := 31) (d' := .lst 2 (([x3, x4, x5, x6] : List TApiWide).map eTApiWide) .full) rfl (Wk.lst0 (.cons (WkC.refl _) (.cons (WkC.refl _) (.cons (WkC.refl _) (.cons (WkC.refl _) (.nil)))))) ?_
  refine p_pure htab rfl rfl rfl rfl ?_
  refine ops_nil ?_
  refine then_normal ?_
  refine wpD_ret ?_
  have er7 := yes_eq hm; subst er7
  refine retX.tokF (i := 6) rfl (fun w8 => ?_)
  refine retX.of (s' := ⟨[(6, .lst 2 (([x3, x4, x5, x6] : List TApiWide).map eTApiWide) (.cur w8))], [], [(2, w8)]⟩) (WkS.perm (WkS.cons rfl (Wk.refl _) (WkS.nil)) (List.Perm.refl _) (List.Perm.refl _)) (retD_mk (hh := []) (.inl rfl) (resL_cons (resOne_tmp rfl) (resL_nil)) (List.nil_sublist _) (List.Sublist.refl _) ?_)
  exact ⟨w8, rfl, rfl, rfl⟩
theorem reckon_cornersQ_ok0 (a0 : TApiSpan) (a1 : TApiSpan) (r : List TApiWide) (h0 : reckon_cornersQ a0 a1 = some r) : CallsD Try.prog 29 [eTApiSpan a0, eTApiSpan a1, .fn (.func 64) [] []] [] [] (fun d h k => d = .lst 2 (r.map eTApiWide) .no ∧ h = [] ∧ k = []) :=
  (reckon_cornersQ_ok a0 a1 r h0).drop fun d h k ⟨y0, e, _, _⟩ => by subst e; exact Wk.no
noncomputable def reckon_Wrap (a0 : TApiWide) (a1 : TApiWide) : Option (TApiSpan) :=
  ((need (pWW a1 a0)).bind fun x4 => ((need (pWW a0 a1)).bind fun x10 => (bif (decide ((0 : Int) < (wCmp a0 a1))) then some (⟨false, (0 : Int), (0 : Int)⟩ : TApiSpan) else (bif (((wSub a1 a0).gHi) != (0 : Int)) then (span_All.bind fun x19 => some x19) else ((need (pW a0)).bind fun x21 => ((need (pW a1)).bind fun x22 => (bif (decide ((wLow a1) < (wLow a0))) then (span_All.bind fun x26 => some x26) else ((span_Of (wLow a0) (wLow a1)).bind fun x28 => some x28))))))))
set_option maxRecDepth 100000 in
set_option maxHeartbeats 2000000 in
theorem reckon_Wrap_ok (a0 : TApiWide) (a1 : TApiWide) (r : TApiSpan) (h0 : reckon_Wrap a0 a1 = some r) : CallsD Try.prog 14 [eTApiWide a0, eTApiWide a1] [] [] (fun d h k => d = eTApiSpan r ∧ h = [] ∧ k = []) := by
  have hm := yes_of h0
  unfold reckon_Wrap at hm
  clear h0
  refine enterX htab Try.func14 rfl rfl rfl rfl rfl (fun C => ?_)
  refine wpD_seq ?_
  refine wpD_region ?_
  refine p_box rfl rfl rfl rfl rfl rfl rfl (fun b1 => ?_)
  refine p_box rfl rfl rfl rfl rfl rfl rfl (fun b2 => ?_)
  refine p_alloc htab rfl rfl rfl rfl rfl rfl rfl (fun b3 => ?_)
  refine ops_nil ?_
  refine then_normal ?_
  refine wpD_seq ?_
  refine wpD_region ?_
  refine p_load (d := eTApiWide a1) 1 htab rfl rfl rfl rfl rfl rfl rfl rfl ?_
  refine p_load (d := eTApiWide a0) 0 htab rfl rfl rfl rfl rfl rfl rfl rfl ?_
  obtain ⟨x4, q4, hm⟩ := yes_bind hm
  refine p_call0 (wSub_ok a1 a0 (need_ok q4)) rfl rfl rfl rfl rfl (WkL.refl _) ?_
  rintro _ rfl
  refine p_alloc htab rfl rfl rfl rfl rfl rfl rfl (fun b5 => ?_)
  refine p_store (ds' := [.v (.int .i64 ((wSub a1 a0).gHi)), .v (.int .u64 ((wSub a1 a0).gLo))]) (h' := [(b1, Blk.cells [.v (.int .i64 a0.gHi), .v (.int .u64 a0.gLo)] 31), (b2, Blk.cells [.v (.int .i64 a1.gHi), .v (.int .u64 a1.gLo)] 31), (b3, Blk.cells [.v (.bool false), .v (.int .i64 (0 : Int)), .v (.int .i64 (0 : Int))] 23), (b5, Blk.cells [.v (.int .i64 ((wSub a1 a0).gHi)), .v (.int .u64 ((wSub a1 a0).gLo))] 31)]) 3 htab rfl rfl rfl rfl rfl rfl rfl rfl rfl rfl rfl rfl ?_
  refine ops_nil ?_
  refine then_normal ?_
  refine wpD_seq ?_
  refine wpD_block ?_
  refine wpD_seq ?_
  refine wpD_region ?_
  refine p_load (d := eTApiWide a0) 0 htab rfl rfl rfl rfl rfl rfl rfl rfl ?_
  refine p_load (d := eTApiWide a1) 1 htab rfl rfl rfl rfl rfl rfl rfl rfl ?_
  obtain ⟨x10, q10, hm⟩ := yes_bind hm
  refine p_call0 (wCmp_ok a0 a1 (need_ok q10)) rfl rfl rfl rfl rfl (WkL.refl _) ?_
  rintro _ rfl
  refine p_pure htab rfl rfl rfl rfl ?_
  refine p_pure htab rfl rfl rfl rfl ?_
  refine ops_nil ?_
  refine then_normal ?_
  refine wpD_cond rfl (fun hc14 => ?_) (fun hc14 => ?_)
  · replace hm := yes_t hc14 hm
    refine wpD_seq ?_
    refine wpD_region ?_
    refine p_build (r := [.v (.bool false), .v (.int .i64 (0 : Int)), .v (.int .i64 (0 : Int))]) htab rfl rfl rfl rfl rfl rfl rfl rfl rfl ?_
    refine p_store (ds' := [.v (.bool false), .v (.int .i64 (0 : Int)), .v (.int .i64 (0 : Int))]) (h' := [(b1, Blk.cells [.v (.int .i64 a0.gHi), .v (.int .u64 a0.gLo)] 31), (b2, Blk.cells [.v (.int .i64 a1.gHi), .v (.int .u64 a1.gLo)] 31), (b3, Blk.cells [.v (.bool false), .v (.int .i64 (0 : Int)), .v (.int .i64 (0 : Int))] 23), (b5, Blk.cells [.v (.int .i64 ((wSub a1 a0).gHi)), .v (.int .u64 ((wSub a1 a0).gLo))] 31)]) 2 htab rfl rfl rfl rfl rfl rfl rfl rfl rfl rfl rfl rfl ?_
    refine ops_nil ?_
    refine then_normal ?_
    refine wpD_ret ?_
    refine block_ret ?_
    refine then_ret ?_
    have er15 := yes_eq hm; subst er15
    refine retX.of (s' := ⟨[(4, .ptr b3 0)], [(b3, Blk.cells [.v (.bool false), .v (.int .i64 (0 : Int)), .v (.int .i64 (0 : Int))] 23)], []⟩) (WkS.perm (WkS.cons rfl (Wk.refl _) (WkS.nil)) ((perm_at (j := 2) rfl).trans (List.Perm.cons _ (List.Perm.refl _))) (List.Perm.refl _)) (retD_mk (hh := []) (.inl rfl) (resL_cons (resOne_cell 0 rfl rfl rfl rfl) (resL_nil)) (List.nil_sublist _) (List.Sublist.refl _) ?_)
    exact ⟨rfl, rfl, rfl⟩
  · replace hm := yes_f hc14 hm
    refine wpD_seq ?_
    refine wpD_region ?_
    refine p_pure htab rfl rfl rfl rfl ?_
    refine p_load 3 htab rfl rfl rfl rfl rfl rfl rfl rfl ?_
    refine p_pure htab rfl rfl rfl rfl ?_
    refine p_pure htab rfl rfl rfl rfl ?_
    refine ops_nil ?_
    refine then_normal ?_
    refine wpD_cond rfl (fun hc18 => ?_) (fun hc18 => ?_)
    · replace hm := yes_t hc18 hm
      refine wpD_seq ?_
      refine wpD_region ?_
      obtain ⟨x19, q19, hm⟩ := yes_bind hm
      refine p_call0 (span_All_ok  x19 q19) rfl rfl rfl rfl rfl (WkL.refl _) ?_
      rintro _ rfl
      refine p_store (ds' := [.v (.bool x19.gSome), .v (.int .i64 x19.gLo), .v (.int .i64 x19.gHi)]) (h' := [(b1, Blk.cells [.v (.int .i64 a0.gHi), .v (.int .u64 a0.gLo)] 31), (b2, Blk.cells [.v (.int .i64 a1.gHi), .v (.int .u64 a1.gLo)] 31), (b3, Blk.cells [.v (.bool x19.gSome), .v (.int .i64 x19.gLo), .v (.int .i64 x19.gHi)] 23), (b5, Blk.cells [.v (.int .i64 ((wSub a1 a0).gHi)), .v (.int .u64 ((wSub a1 a0).gLo))] 31)]) 2 htab rfl rfl rfl rfl rfl rfl rfl rfl rfl rfl rfl rfl ?_
      refine ops_nil ?_
      refine then_normal ?_
      refine wpD_ret ?_
      refine block_ret ?_
      refine then_ret ?_
      have er20 := yes_eq hm; subst er20
      refine retX.of (s' := ⟨[(4, .ptr b3 0)], [(b3, Blk.cells [.v (.bool x19.gSome), .v (.int .i64 x19.gLo), .v (.int .i64 x19.gHi)] 23)], []⟩) (WkS.perm (WkS.cons rfl (Wk.refl _) (WkS.nil)) ((perm_at (j := 2) rfl).trans (List.Perm.cons _ (List.Perm.refl _))) (List.Perm.refl _)) (retD_mk (hh := []) (.inl rfl) (resL_cons (resOne_cell 0 rfl rfl rfl rfl) (resL_nil)) (List.nil_sublist _) (List.Sublist.refl _) ?_)
      exact ⟨rfl, rfl, rfl⟩
    · replace hm := yes_f hc18 hm
      refine wpD_skip ?_
      refine block_normal ?_
      refine then_normal ?_
      refine wpD_seq ?_
      obtain ⟨x21, q21, hm⟩ := yes_bind hm
      refine wpD_draws 3 [] [[],[0],[]] [0,1,2] [[],[0],[],[0,1,2],[0,1,2,3],[0,1,2,3,4]] (by kernel_rfl) (by kernel_rfl) (by kernel_rfl) (by rfl) (by rfl) (by kernel_rfl) ?_
      apply Exists.intro
      apply Exists.intro
      apply Exists.intro
      intro bs
      refine z_eM rfl rfl (xm_load (d := eTApiWide a0) 0 htab rfl rfl rfl rfl rfl) rfl rfl rfl rfl rfl rfl ?_
      refine z_call rfl rfl (wLow_ok a0 (need_ok q21)) rfl rfl (WkL.refl _) rfl rfl rfl rfl rfl rfl ?_
      refine z_eM rfl rfl (xm_load (d := eTApiWide a1) 1 htab rfl rfl rfl rfl rfl) rfl rfl rfl rfl rfl rfl ?_
      refine z_nil rfl rfl (fun e he => by simp [isAl] at he) ?_
      obtain ⟨x22, q22, hm⟩ := yes_bind hm
      refine p_call0 (wLow_ok a1 (need_ok q22)) rfl rfl rfl rfl rfl (WkL.refl _) ?_
      rintro _ rfl
      refine p_pure htab rfl rfl rfl rfl ?_
      refine p_pure htab rfl rfl rfl rfl ?_
      refine ops_nil ?_
      refine then_normal ?_
      refine wpD_seq ?_
      refine wpD_seq ?_
      refine wpD_region ?_
      refine p_pure htab rfl rfl rfl rfl ?_
      refine p_pure htab rfl rfl rfl rfl ?_
      refine p_pure htab rfl rfl rfl rfl ?_
      refine ops_nil ?_
      refine then_normal ?_
      refine wpD_cond rfl (fun hc25 => ?_) (fun hc25 => ?_)
      · replace hm := yes_t hc25 hm
        refine wpD_seq ?_
        refine wpD_region ?_
        obtain ⟨x26, q26, hm⟩ := yes_bind hm
        refine p_call0 (span_All_ok  x26 q26) rfl rfl rfl rfl rfl (WkL.refl _) ?_
        rintro _ rfl
        refine p_store (ds' := [.v (.bool x26.gSome), .v (.int .i64 x26.gLo), .v (.int .i64 x26.gHi)]) (h' := [(b1, Blk.cells [.v (.int .i64 a0.gHi), .v (.int .u64 a0.gLo)] 31), (b2, Blk.cells [.v (.int .i64 a1.gHi), .v (.int .u64 a1.gLo)] 31), (b3, Blk.cells [.v (.bool x26.gSome), .v (.int .i64 x26.gLo), .v (.int .i64 x26.gHi)] 23), (b5, Blk.cells [.v (.int .i64 ((wSub a1 a0).gHi)), .v (.int .u64 ((wSub a1 a0).gLo))] 31)]) 2 htab rfl rfl rfl rfl rfl rfl rfl rfl rfl rfl rfl rfl ?_
        refine ops_nil ?_
        refine then_normal ?_
        refine wpD_ret ?_
        refine then_ret ?_
        have er27 := yes_eq hm; subst er27
        refine retX.of (s' := ⟨[(4, .ptr b3 0)], [(b3, Blk.cells [.v (.bool x26.gSome), .v (.int .i64 x26.gLo), .v (.int .i64 x26.gHi)] 23)], []⟩) (WkS.perm (WkS.cons rfl (Wk.refl _) (WkS.nil)) ((perm_at (j := 2) rfl).trans (List.Perm.cons _ (List.Perm.refl _))) (List.Perm.refl _)) (retD_mk (hh := []) (.inl rfl) (resL_cons (resOne_cell 0 rfl rfl rfl rfl) (resL_nil)) (List.nil_sublist _) (List.Sublist.refl _) ?_)
        exact ⟨rfl, rfl, rfl⟩
      · replace hm := yes_f hc25 hm
        refine wpD_skip ?_
        refine then_normal ?_
        refine wpD_seq ?_
        refine wpD_region ?_
        refine p_pure htab rfl rfl rfl rfl ?_
        refine p_pure htab rfl rfl rfl rfl ?_
        obtain ⟨x28, q28, hm⟩ := yes_bind hm
        refine p_call0 (span_Of_ok (wLow a0) (wLow a1) x28 q28) rfl rfl rfl rfl rfl (WkL.refl _) ?_
        rintro _ rfl
        refine p_store (ds' := [.v (.bool x28.gSome), .v (.int .i64 x28.gLo), .v (.int .i64 x28.gHi)]) (h' := [(b1, Blk.cells [.v (.int .i64 a0.gHi), .v (.int .u64 a0.gLo)] 31), (b2, Blk.cells [.v (.int .i64 a1.gHi), .v (.int .u64 a1.gLo)] 31), (b3, Blk.cells [.v (.bool x28.gSome), .v (.int .i64 x28.gLo), .v (.int .i64 x28.gHi)] 23), (b5, Blk.cells [.v (.int .i64 ((wSub a1 a0).gHi)), .v (.int .u64 ((wSub a1 a0).gLo))] 31)]) 2 htab rfl rfl rfl rfl rfl rfl rfl rfl rfl rfl rfl rfl ?_
        refine ops_nil ?_
        refine then_normal ?_
        refine wpD_ret ?_
        have er29 := yes_eq hm; subst er29
        refine retX.of (s' := ⟨[(4, .ptr b3 0)], [(b3, Blk.cells [.v (.bool x28.gSome), .v (.int .i64 x28.gLo), .v (.int .i64 x28.gHi)] 23)], []⟩) (WkS.perm (WkS.cons rfl (Wk.refl _) (WkS.nil)) ((perm_at (j := 2) rfl).trans (List.Perm.cons _ (List.Perm.refl _))) (List.Perm.refl _)) (retD_mk (hh := []) (.inl rfl) (resL_cons (resOne_cell 0 rfl rfl rfl rfl) (resL_nil)) (List.nil_sublist _) (List.Sublist.refl _) ?_)
        exact ⟨rfl, rfl, rfl⟩
noncomputable def reckon_around (a0 : List TApiWide) : Option (TApiSpan) :=
  (bif ((a0.length : Int) == (0 : Int)) then some (⟨false, (0 : Int), (0 : Int)⟩ : TApiSpan) else ((idx a0 (0 : Int)).bind fun x5 => ((wide_Min x5 a0).bind fun x6 => ((idx a0 (0 : Int)).bind fun x7 => ((wide_Max x7 a0).bind fun x8 => ((reckon_Wrap x6 x8).bind fun x9 => some x9))))))
set_option maxRecDepth 100000 in
set_option maxHeartbeats 2000000 in
theorem reckon_around_ok (a0 : List TApiWide) (r : TApiSpan) (h0 : reckon_around a0 = some r) : CallsD Try.prog 28 [.lst 2 (a0.map eTApiWide) .no] [] [] (fun d h k => d = eTApiSpan r ∧ h = [] ∧ k = []) := by
  have hm := yes_of h0
  unfold reckon_around at hm
  clear h0
  refine enterX htab Try.func28 rfl rfl rfl rfl rfl (fun C => ?_)
  refine wpD_seq ?_
  refine wpD_region ?_
  refine p_alloc htab rfl rfl rfl rfl rfl rfl rfl (fun b1 => ?_)
  refine ops_nil ?_
  refine then_normal ?_
  refine wpD_seq ?_
  refine wpD_seq ?_
  refine wpD_region ?_
  refine p_pure htab rfl rfl rfl rfl ?_
  refine p_lenL htab rfl rfl rfl rfl rfl rfl rfl (by first | exact map_len | rfl) ?_
  refine p_pure htab rfl rfl rfl rfl ?_
  refine ops_nil ?_
  refine then_normal ?_
  refine wpD_cond rfl (fun hc3 => ?_) (fun hc3 => ?_)
  · replace hm := yes_t hc3 hm
    refine wpD_seq ?_
    refine wpD_region ?_
    refine p_build (r := [.v (.bool false), .v (.int .i64 (0 : Int)), .v (.int .i64 (0 : Int))]) htab rfl rfl rfl rfl rfl rfl rfl rfl rfl ?_
    refine p_store (ds' := [.v (.bool false), .v (.int .i64 (0 : Int)), .v (.int .i64 (0 : Int))]) (h' := [(b1, Blk.cells [.v (.bool false), .v (.int .i64 (0 : Int)), .v (.int .i64 (0 : Int))] 23)]) 0 htab rfl rfl rfl rfl rfl rfl rfl rfl rfl rfl rfl rfl ?_
    refine ops_nil ?_
    refine then_normal ?_
    refine wpD_ret ?_
    refine then_ret ?_
    have er4 := yes_eq hm; subst er4
    refine retX.of (s' := ⟨[(2, .ptr b1 0)], [(b1, Blk.cells [.v (.bool false), .v (.int .i64 (0 : Int)), .v (.int .i64 (0 : Int))] 23)], []⟩) (WkS.perm (WkS.cons rfl (Wk.refl _) (WkS.nil)) (List.Perm.refl _) (List.Perm.refl _)) (retD_mk (hh := []) (.inl rfl) (resL_cons (resOne_cell 0 rfl rfl rfl rfl) (resL_nil)) (List.nil_sublist _) (List.Sublist.refl _) ?_)
    exact ⟨rfl, rfl, rfl⟩
  · replace hm := yes_f hc3 hm
    refine wpD_skip ?_
    refine then_normal ?_
    refine wpD_seq ?_
    obtain ⟨x5, q5, hm⟩ := yes_bind hm
    obtain ⟨x6, q6, hm⟩ := yes_bind hm
    obtain ⟨x7, q7, hm⟩ := yes_bind hm
    refine wpD_draws 9 [] [[],[0],[0,1],[],[0,1,2,3],[],[5],[5,6],[]] [0,1,2,3,4,5,6,7,8] [[],[0],[0,1],[],[0,1,2,3],[],[5],[5,6],[],[0,1,2,3,4,5,6,7,8],[0,1,2,3,4,5,6,7,8,9],[0,1,2,3,4,5,6,7,8,9,10]] (by kernel_rfl) (by kernel_rfl) (by kernel_rfl) (by rfl) (by rfl) (by kernel_rfl) ?_
    apply Exists.intro
    apply Exists.intro
    apply Exists.intro
    apply Exists.intro
    apply Exists.intro
    apply Exists.intro
    apply Exists.intro
    apply Exists.intro
    apply Exists.intro
    intro bs
    refine z_e rfl rfl (ex_pure htab rfl) rfl rfl rfl rfl rfl rfl ?_
    refine z_e rfl rfl (x_elem htab rfl rfl rfl rfl rfl rfl rfl (idx_nonneg q5) (idx_map q5)) rfl rfl rfl rfl rfl rfl ?_
    refine z_eM rfl rfl (xm_loadEl (d := eTApiWide x5) htab rfl rfl rfl rfl rfl) rfl rfl rfl rfl rfl rfl ?_
    refine z_e rfl rfl (ex_pure htab rfl) rfl rfl rfl rfl rfl rfl ?_
    refine z_call rfl rfl (wide_Min_ok x5 a0 x6 q6) rfl rfl (WkL.refl _) rfl rfl rfl rfl rfl rfl ?_
    refine z_e rfl rfl (ex_pure htab rfl) rfl rfl rfl rfl rfl rfl ?_
    refine z_e rfl rfl (x_elem htab rfl rfl rfl rfl rfl rfl rfl (idx_nonneg q7) (idx_map q7)) rfl rfl rfl rfl rfl rfl ?_
    refine z_eM rfl rfl (xm_loadEl (d := eTApiWide x7) htab rfl rfl rfl rfl rfl) rfl rfl rfl rfl rfl rfl ?_
    refine z_e rfl rfl (ex_pure htab rfl) rfl rfl rfl rfl rfl rfl ?_
    refine z_nil rfl rfl (fun e he => by simp [isAl] at he) ?_
    obtain ⟨x8, q8, hm⟩ := yes_bind hm
    refine p_call0 (wide_Max_ok x7 a0 x8 q8) rfl rfl rfl rfl rfl (WkL.refl _) ?_
    rintro _ rfl
    obtain ⟨x9, q9, hm⟩ := yes_bind hm
    refine p_call0 (reckon_Wrap_ok x6 x8 x9 q9) rfl rfl rfl rfl rfl (WkL.refl _) ?_
    rintro _ rfl
    refine p_store (ds' := [.v (.bool x9.gSome), .v (.int .i64 x9.gLo), .v (.int .i64 x9.gHi)]) (h' := [(b1, Blk.cells [.v (.bool x9.gSome), .v (.int .i64 x9.gLo), .v (.int .i64 x9.gHi)] 23)]) 0 htab rfl rfl rfl rfl rfl rfl rfl rfl rfl rfl rfl rfl ?_
    refine ops_nil ?_
    refine then_normal ?_
    refine wpD_ret ?_
    have er10 := yes_eq hm; subst er10
    refine retX.of (s' := ⟨[(2, .ptr b1 0)], [(b1, Blk.cells [.v (.bool x9.gSome), .v (.int .i64 x9.gLo), .v (.int .i64 x9.gHi)] 23)], []⟩) (WkS.perm (WkS.cons rfl (Wk.refl _) (WkS.nil)) (List.Perm.refl _) (List.Perm.refl _)) (retD_mk (hh := []) (.inl rfl) (resL_cons (resOne_cell 0 rfl rfl rfl rfl) (resL_nil)) (List.nil_sublist _) (List.Sublist.refl _) ?_)
    exact ⟨rfl, rfl, rfl⟩
noncomputable def reckon_parts (a0 : TApiSpan) : Option (List TApiSpan) :=
  ((span_Of (-9223372036854775808 : Int) (-1 : Int)).bind fun x2 => ((span_Of (1 : Int) (9223372036854775807 : Int)).bind fun x3 => (Option.bind (α := List TApiSpan) (loopM (fun (s32 : List TApiSpan × Int) => (bif (decide (s32.2 < (2 : Int))) then ((idx ([x2, x3] : List TApiSpan) s32.2).bind fun x51 => ((span_Meet a0 x51).bind fun x53 => ((span_None x53).bind fun x55 => (bif (!x55) then ((app 24 s32.1 ([x53] : List TApiSpan)).bind fun x57 => some (.next (x57, (IntKind.i64.wrap (s32.2 + (1 : Int)))))) else some (.next (s32.1, (IntKind.i64.wrap (s32.2 + (1 : Int))))))))) else some (.done s32.1))) ([], (0 : Int))) fun y31 => some y31)))
set_option maxRecDepth 100000 in
set_option maxHeartbeats 2000000 in
theorem reckon_parts_ok (a0 : TApiSpan) (r : List TApiSpan) (h0 : reckon_parts a0 = some r) : CallsD Try.prog 63 [eTApiSpan a0] [] [] (fun d h k => ∃ y0, d = .lst 3 (r.map eTApiSpan) (.cur y0) ∧ h = [] ∧ k = [(3, y0)]) := by
  have hm := yes_of h0
  unfold reckon_parts at hm
  clear h0
  refine enterX htab Try.func63 rfl rfl rfl rfl rfl (fun C => ?_)
  refine wpD_seq ?_
  refine wpD_region ?_
  refine p_box rfl rfl rfl rfl rfl rfl rfl (fun b1 => ?_)
  refine p_pure htab rfl rfl rfl rfl ?_
  refine ops_nil ?_
  refine then_normal ?_
  refine wpD_seq ?_
  refine wpD_region ?_
  refine p_pure htab rfl rfl rfl rfl ?_
  refine ops_nil ?_
  refine then_normal ?_
  refine wpD_seq ?_
  refine wpD_seq ?_
  refine wpD_region ?_
  obtain ⟨x2, q2, hm⟩ := yes_bind hm
  refine p_call0 (span_Of_ok (-9223372036854775808 : Int) (-1 : Int) x2 q2) rfl rfl rfl rfl rfl (WkL.refl _) ?_
  rintro _ rfl
  obtain ⟨x3, q3, hm⟩ := yes_bind hm
  refine p_call0 (span_Of_ok (1 : Int) (9223372036854775807 : Int) x3 q3) rfl rfl rfl rfl rfl (WkL.refl _) ?_
  rintro _ rfl
  refine p_buildA (r := [.v (.bool x2.gSome), .v (.int .i64 x2.gLo), .v (.int .i64 x2.gHi), .v (.bool x3.gSome), .v (.int .i64 x3.gLo), .v (.int .i64 x3.gHi)]) htab rfl rfl rfl rfl rfl rfl rfl rfl rfl ?_
  refine p_pure htab rfl rfl rfl rfl ?_
  refine ops_nil ?_
  refine then_normal ?_
  obtain ⟨y31, q31, ho31⟩ := yes_bind hm
  refine wpD_mid (Y := Value) (fun z31 => (⟨[(3, .lst 3 (y31.map eTApiSpan) (.cur z31))], [(b1, Blk.cells [.v (.bool a0.gSome), .v (.int .i64 a0.gLo), .v (.int .i64 a0.gHi)] 23)], [(3, z31)]⟩ : S)) ?_ ?_
  · clear hm; have hm := yes_of q31
    refine wpD_block ?_
    obtain ⟨u32, hl32, hq32⟩ := yes_m hm
    refine loop_M (Y := Value) hl32 (fun s32 z32 => (⟨[(1, .ptr b1 0), (3, .lst 3 (s32.1.map eTApiSpan) (.cur z32)), (9, eT2ApiSpan (⟨x2, x3⟩ : T2ApiSpan)), (10, .v (.int .i64 s32.2))], [(b1, Blk.cells [.v (.bool a0.gSome), .v (.int .i64 a0.gLo), .v (.int .i64 a0.gHi)] 23)], [(3, z32)]⟩ : S)) ?_ ?_
    · skip
      refine WkX.tokN (i := 3) 3 rfl (fun w49 => ?_)
      exact WkX.of w49 (WkS.perm (WkS.cons rfl (Wk.refl _) (WkS.cons rfl (Wk.refl _) (WkS.cons rfl (Wk.refl _) (WkS.cons rfl (Wk.refl _) (WkS.nil))))) (List.Perm.refl _) (List.Perm.refl _))
    · intro G32 s32 z32 hm
      refine wpD_seq ?_
      refine wpD_region ?_
      refine p_pure htab rfl rfl rfl rfl ?_
      refine ops_nil ?_
      refine then_normal ?_
      refine wpD_seq ?_
      refine wpD_cond rfl (fun hc50 => ?_) (fun hc50 => ?_)
      · replace hm := yes_t hc50 hm
        refine wpD_skip ?_
        refine then_normal ?_
        refine wpD_seq ?_
        refine wpD_block ?_
        refine wpD_seq ?_
        refine wpD_region ?_
        obtain ⟨x51, q51, hm⟩ := yes_bind hm
        refine p_idxA (d := eTApiSpan x51) htab rfl rfl rfl rfl rfl rfl rfl rfl rfl (idx_nonneg q51) (idx_lt' q51 rfl) (part_st (c := fun (y : TApiSpan) => [.v (.bool y.gSome), .v (.int .i64 y.gLo), .v (.int .i64 y.gHi)]) (xs := ([x2, x3] : List TApiSpan)) rfl rfl (fun _ _ => rfl) q51) ?_
        refine p_alloc htab rfl rfl rfl rfl rfl rfl rfl (fun b52 => ?_)
        refine p_store (ds' := [.v (.bool x51.gSome), .v (.int .i64 x51.gLo), .v (.int .i64 x51.gHi)]) (h' := [(b1, Blk.cells [.v (.bool a0.gSome), .v (.int .i64 a0.gLo), .v (.int .i64 a0.gHi)] 23), (b52, Blk.cells [.v (.bool x51.gSome), .v (.int .i64 x51.gLo), .v (.int .i64 x51.gHi)] 23)]) 1 htab rfl rfl rfl rfl rfl rfl rfl rfl rfl rfl rfl rfl ?_
        refine ops_nil ?_
        refine then_normal ?_
        refine wpD_seq ?_
        refine wpD_region ?_
        refine p_load (d := eTApiSpan a0) 0 htab rfl rfl rfl rfl rfl rfl rfl rfl ?_
        refine p_load (d := eTApiSpan x51) 1 htab rfl rfl rfl rfl rfl rfl rfl rfl ?_
        obtain ⟨x53, q53, hm⟩ := yes_bind hm
        refine p_call0 (span_Meet_ok a0 x51 x53 q53) rfl rfl rfl rfl rfl (WkL.refl _) ?_
        rintro _ rfl
        refine p_alloc htab rfl rfl rfl rfl rfl rfl rfl (fun b54 => ?_)
        refine p_store (ds' := [.v (.bool x53.gSome), .v (.int .i64 x53.gLo), .v (.int .i64 x53.gHi)]) (h' := [(b1, Blk.cells [.v (.bool a0.gSome), .v (.int .i64 a0.gLo), .v (.int .i64 a0.gHi)] 23), (b52, Blk.cells [.v (.bool x51.gSome), .v (.int .i64 x51.gLo), .v (.int .i64 x51.gHi)] 23), (b54, Blk.cells [.v (.bool x53.gSome), .v (.int .i64 x53.gLo), .v (.int .i64 x53.gHi)] 23)]) 2 htab rfl rfl rfl rfl rfl rfl rfl rfl rfl rfl rfl rfl ?_
        refine ops_nil ?_
        refine then_normal ?_
        refine wpD_seq ?_
        refine wpD_region ?_
        refine p_load (d := eTApiSpan x53) 2 htab rfl rfl rfl rfl rfl rfl rfl rfl ?_
        obtain ⟨x55, q55, hm⟩ := yes_bind hm
        refine p_call0 (span_None_ok x53 x55 q55) rfl rfl rfl rfl rfl (WkL.refl _) ?_
        rintro _ rfl
        refine p_pure htab rfl rfl rfl rfl ?_
        refine ops_nil ?_
        refine then_normal ?_
        refine wpD_cond rfl (fun hc56 => ?_) (fun hc56 => ?_)
        · replace hm := yes_t hc56 hm
          refine wpD_region ?_
          refine p_pure htab rfl rfl rfl rfl ?_
          refine p_load (d := eTApiSpan x53) 2 htab rfl rfl rfl rfl rfl rfl rfl rfl ?_
          refine p_lit htab rfl rfl rfl rfl rfl rfl rfl rfl rfl rfl rfl rfl rfl rfl ?_
          refine p_eq (i := 21) (d' := .lst 3 (([x53] : List TApiSpan).map eTApiSpan) .full) rfl (Wk.lst0 (.cons (WkC.refl _) (.nil))) ?_
          obtain ⟨x57, q57, hm⟩ := yes_bind hm
          refine p_appC 0 htab rfl rfl rfl rfl rfl rfl rfl rfl rfl rfl rfl rfl rfl rfl rfl rfl rfl (app_bound q57) (fun v57 => ?_)
          refine p_mapD (i := 22) q57 rfl ?_
          refine p_pure htab rfl rfl rfl rfl ?_
          refine ops_nil ?_
          refine block_normal ?_
          refine then_normal ?_
          refine wpD_region ?_
          refine p_pure htab rfl rfl rfl rfl ?_
          refine p_pure htab rfl rfl rfl rfl ?_
          refine ops_nil ?_
          refine then_normal ⟨_, lp_next hm, ?_⟩
          exact WkX.of v57 (WkS.perm (WkS.cons rfl (Wk.refl _) (WkS.cons rfl (Wk.refl _) (WkS.cons rfl (Wk.refl _) (WkS.cons rfl (Wk.refl _) (WkS.nil))))) (List.Perm.refl _) (List.Perm.refl _))
        · replace hm := yes_f hc56 hm
          refine wpD_skip ?_
          refine block_normal ?_
          refine then_normal ?_
          refine wpD_region ?_
          refine p_pure htab rfl rfl rfl rfl ?_
          refine p_pure htab rfl rfl rfl rfl ?_
          refine ops_nil ?_
          refine then_normal ⟨_, lp_next hm, ?_⟩
          exact WkX.of z32 (WkS.perm (WkS.cons rfl (Wk.refl _) (WkS.cons rfl (Wk.refl _) (WkS.cons rfl (Wk.refl _) (WkS.cons rfl (Wk.refl _) (WkS.nil))))) (List.Perm.refl _) (List.Perm.refl _))
      · replace hm := yes_f hc50 hm
        refine wpD_exit ?_
        refine then_exit ?_
        have e32 := lp_done hm; subst e32; clear hm; have hm := hq32
        refine then_exit ?_
        refine block_hit ?_
        have e31 := yes_eq hm; subst e31
        refine ⟨rfl, ?_⟩
        exact WkX.of z32 (WkS.perm (WkS.cons rfl (Wk.refl _) (WkS.nil)) (List.Perm.refl _) (List.Perm.refl _))
  · intro s31 hw31; clear hm; have hm := ho31; clear q31 ho31
    refine then_normal ?_
    refine wpD_wkX hw31 (fun z31 => ?_)
    refine wpD_seq ?_
    refine wpD_region ?_
    refine p_pure htab rfl rfl rfl rfl ?_
    refine p_pure htab rfl rfl rfl rfl ?_
    refine ops_nil ?_
    refine then_normal ?_
    refine wpD_ret ?_
    have er58 := yes_eq hm; subst er58
    refine retX.of (s' := ⟨[(2, .lst 3 (y31.map eTApiSpan) (.cur z31))], [], [(3, z31)]⟩) (WkS.perm (WkS.cons rfl (Wk.refl _) (WkS.nil)) (List.Perm.refl _) (List.Perm.refl _)) (retD_mk (hh := []) (.inl rfl) (resL_cons (resOne_tmp rfl) (resL_nil)) (List.nil_sublist _) (List.Sublist.refl _) ?_)
    exact ⟨z31, rfl, rfl, rfl⟩
theorem reckon_parts_ok0 (a0 : TApiSpan) (r : List TApiSpan) (h0 : reckon_parts a0 = some r) : CallsD Try.prog 63 [eTApiSpan a0] [] [] (fun d h k => d = .lst 3 (r.map eTApiSpan) .no ∧ h = [] ∧ k = []) :=
  (reckon_parts_ok a0 r h0).drop fun d h k ⟨y0, e, _, _⟩ => by subst e; exact Wk.no
noncomputable def reckon_divide (a0 : TApiSpan) (a1 : TApiSpan) : Option (TApiSpan) :=
  ((reckon_parts a1).bind fun x4 => (Option.bind (α := List TApiWide) (loopM (fun (s28 : List TApiWide × Int) => (bif (decide (s28.2 < (x4.length : Int))) then ((idx x4 s28.2).bind fun x43 => ((reckon_cornersQ a0 x43).bind fun x45 => ((app 16 s28.1 x45).bind fun x47 => some (.next (x47, (IntKind.i64.wrap (s28.2 + (1 : Int)))))))) else some (.done s28.1))) ([], (0 : Int))) fun y27 => ((reckon_around y27).bind fun x48 => some x48)))
set_option maxRecDepth 100000 in
set_option maxHeartbeats 2000000 in
theorem reckon_divide_ok (a0 : TApiSpan) (a1 : TApiSpan) (r : TApiSpan) (h0 : reckon_divide a0 a1 = some r) : CallsD Try.prog 30 [eTApiSpan a0, eTApiSpan a1] [] [] (fun d h k => d = eTApiSpan r ∧ h = [] ∧ k = []) := by
  have hm := yes_of h0
  unfold reckon_divide at hm
  clear h0
  refine enterX htab Try.func30 rfl rfl rfl rfl rfl (fun C => ?_)
  refine wpD_seq ?_
  refine wpD_region ?_
  refine p_box rfl rfl rfl rfl rfl rfl rfl (fun b1 => ?_)
  refine p_box rfl rfl rfl rfl rfl rfl rfl (fun b2 => ?_)
  refine p_alloc htab rfl rfl rfl rfl rfl rfl rfl (fun b3 => ?_)
  refine ops_nil ?_
  refine then_normal ?_
  refine wpD_seq ?_
  refine wpD_region ?_
  refine p_pure htab rfl rfl rfl rfl ?_
  refine ops_nil ?_
  refine then_normal ?_
  refine wpD_seq ?_
  refine wpD_seq ?_
  refine wpD_region ?_
  refine p_load (d := eTApiSpan a1) 1 htab rfl rfl rfl rfl rfl rfl rfl rfl ?_
  obtain ⟨x4, q4, hm⟩ := yes_bind hm
  refine p_call (reckon_parts_ok a1 x4 q4) rfl rfl rfl rfl rfl (WkL.refl _) ?_
  rintro _ _ _ ⟨w5, rfl, rfl, rfl⟩
  refine p_lenL htab rfl rfl rfl rfl rfl rfl rfl (by first | exact map_len | rfl) ?_
  refine p_pure htab rfl rfl rfl rfl ?_
  refine ops_nil ?_
  refine then_normal ?_
  obtain ⟨y27, q27, ho27⟩ := yes_bind hm
  refine wpD_mid (Y := Value) (fun z27 => (⟨[(4, .ptr b3 0), (5, .lst 2 (y27.map eTApiWide) (.cur z27))], [(b1, Blk.cells [.v (.bool a0.gSome), .v (.int .i64 a0.gLo), .v (.int .i64 a0.gHi)] 23), (b2, Blk.cells [.v (.bool a1.gSome), .v (.int .i64 a1.gLo), .v (.int .i64 a1.gHi)] 23), (b3, Blk.cells [.v (.bool false), .v (.int .i64 (0 : Int)), .v (.int .i64 (0 : Int))] 23)], [(2, z27), (3, w5)]⟩ : S)) ?_ ?_
  · clear hm; have hm := yes_of q27
    refine wpD_block ?_
    obtain ⟨u28, hl28, hq28⟩ := yes_m hm
    refine loop_M (Y := Value) hl28 (fun s28 z28 => (⟨[(2, .ptr b1 0), (4, .ptr b3 0), (5, .lst 2 (s28.1.map eTApiWide) (.cur z28)), (9, .lst 3 (x4.map eTApiSpan) (.cur w5)), (10, .v (.int .i64 (x4.length : Int))), (11, .v (.int .i64 s28.2))], [(b1, Blk.cells [.v (.bool a0.gSome), .v (.int .i64 a0.gLo), .v (.int .i64 a0.gHi)] 23), (b2, Blk.cells [.v (.bool a1.gSome), .v (.int .i64 a1.gLo), .v (.int .i64 a1.gHi)] 23), (b3, Blk.cells [.v (.bool false), .v (.int .i64 (0 : Int)), .v (.int .i64 (0 : Int))] 23)], [(2, z28), (3, w5)]⟩ : S)) ?_ ?_
    · skip
      refine WkX.tokN (i := 5) 2 rfl (fun w41 => ?_)
      exact WkX.of w41 (WkS.perm (WkS.cons rfl (Wk.refl _) (WkS.cons rfl (Wk.refl _) (WkS.cons rfl (Wk.refl _) (WkS.cons rfl (Wk.refl _) (WkS.cons rfl (Wk.refl _) (WkS.cons rfl (Wk.refl _) (WkS.nil))))))) (List.Perm.refl _) (List.Perm.refl _))
    · intro G28 s28 z28 hm
      refine wpD_seq ?_
      refine wpD_region ?_
      refine p_pure htab rfl rfl rfl rfl ?_
      refine ops_nil ?_
      refine then_normal ?_
      refine wpD_seq ?_
      refine wpD_cond rfl (fun hc42 => ?_) (fun hc42 => ?_)
      · replace hm := yes_t hc42 hm
        refine wpD_skip ?_
        refine then_normal ?_
        refine wpD_seq ?_
        refine wpD_block ?_
        refine wpD_seq ?_
        refine wpD_region ?_
        obtain ⟨x43, q43, hm⟩ := yes_bind hm
        refine p_elem htab rfl rfl rfl rfl rfl rfl rfl rfl rfl rfl (idx_nonneg q43) (idx_map q43) ?_
        refine p_loadEl (d := eTApiSpan x43) htab rfl rfl rfl rfl rfl rfl rfl rfl ?_
        refine p_alloc htab rfl rfl rfl rfl rfl rfl rfl (fun b44 => ?_)
        refine p_store (ds' := [.v (.bool x43.gSome), .v (.int .i64 x43.gLo), .v (.int .i64 x43.gHi)]) (h' := [(b1, Blk.cells [.v (.bool a0.gSome), .v (.int .i64 a0.gLo), .v (.int .i64 a0.gHi)] 23), (b2, Blk.cells [.v (.bool a1.gSome), .v (.int .i64 a1.gLo), .v (.int .i64 a1.gHi)] 23), (b3, Blk.cells [.v (.bool false), .v (.int .i64 (0 : Int)), .v (.int .i64 (0 : Int))] 23), (b44, Blk.cells [.v (.bool x43.gSome), .v (.int .i64 x43.gLo), .v (.int .i64 x43.gHi)] 23)]) 3 htab rfl rfl rfl rfl rfl rfl rfl rfl rfl rfl rfl rfl ?_
        refine ops_nil ?_
        refine then_normal ?_
        refine wpD_region ?_
        refine p_pure htab rfl rfl rfl rfl ?_
        refine p_load (d := eTApiSpan a0) 0 htab rfl rfl rfl rfl rfl rfl rfl rfl ?_
        refine p_load (d := eTApiSpan x43) 3 htab rfl rfl rfl rfl rfl rfl rfl rfl ?_
        obtain ⟨x45, q45, hm⟩ := yes_bind hm
        refine p_call (reckon_cornersQ_ok a0 x43 x45 q45) rfl rfl rfl rfl rfl (WkL.refl _) ?_
        rintro _ _ _ ⟨w46, rfl, rfl, rfl⟩
        obtain ⟨x47, q47, hm⟩ := yes_bind hm
        refine p_appC 1 htab rfl rfl rfl rfl rfl rfl rfl rfl rfl rfl rfl rfl rfl rfl rfl rfl rfl (app_bound q47) (fun v47 => ?_)
        refine p_mapD (i := 19) q47 rfl ?_
        refine p_pure htab rfl rfl rfl rfl ?_
        refine ops_nil ?_
        refine block_normal ?_
        refine then_normal ?_
        refine wpD_region ?_
        refine p_pure htab rfl rfl rfl rfl ?_
        refine p_pure htab rfl rfl rfl rfl ?_
        refine ops_nil ?_
        refine then_normal ⟨_, lp_next hm, ?_⟩
        exact WkX.of v47 (WkS.perm (WkS.cons rfl (Wk.refl _) (WkS.cons rfl (Wk.refl _) (WkS.cons rfl (Wk.refl _) (WkS.cons rfl (Wk.refl _) (WkS.cons rfl (Wk.refl _) (WkS.cons rfl (Wk.refl _) (WkS.nil))))))) (List.Perm.refl _) ((perm_at (j := 0) rfl).trans (List.Perm.cons _ ((perm_at (j := 1) rfl).trans (List.Perm.cons _ (List.Perm.refl _))))))
      · replace hm := yes_f hc42 hm
        refine wpD_exit ?_
        refine then_exit ?_
        have e28 := lp_done hm; subst e28; clear hm; have hm := hq28
        refine then_exit ?_
        refine block_hit ?_
        have e27 := yes_eq hm; subst e27
        refine ⟨rfl, ?_⟩
        exact WkX.of z28 (WkS.perm (WkS.cons rfl (Wk.refl _) (WkS.cons rfl (Wk.refl _) (WkS.nil))) (List.Perm.refl _) (List.Perm.refl _))
  · intro s27 hw27; clear hm; have hm := ho27; clear q27 ho27
    refine then_normal ?_
    refine wpD_wkX hw27 (fun z27 => ?_)
    refine wpD_seq ?_
    refine wpD_region ?_
    refine p_pure htab rfl rfl rfl rfl ?_
    obtain ⟨x48, q48, hm⟩ := yes_bind hm
    refine p_call0 (reckon_around_ok y27 x48 q48) rfl rfl rfl rfl rfl (WkL.cons (Wk.no) (WkL.refl _)) ?_
    rintro _ rfl
    refine p_store (ds' := [.v (.bool x48.gSome), .v (.int .i64 x48.gLo), .v (.int .i64 x48.gHi)]) (h' := [(b1, Blk.cells [.v (.bool a0.gSome), .v (.int .i64 a0.gLo), .v (.int .i64 a0.gHi)] 23), (b2, Blk.cells [.v (.bool a1.gSome), .v (.int .i64 a1.gLo), .v (.int .i64 a1.gHi)] 23), (b3, Blk.cells [.v (.bool x48.gSome), .v (.int .i64 x48.gLo), .v (.int .i64 x48.gHi)] 23)]) 2 htab rfl rfl rfl rfl rfl rfl rfl rfl rfl rfl rfl rfl ?_
    refine ops_nil ?_
    refine then_normal ?_
    refine wpD_ret ?_
    have er49 := yes_eq hm; subst er49
    refine retX.of (s' := ⟨[(4, .ptr b3 0)], [(b3, Blk.cells [.v (.bool x48.gSome), .v (.int .i64 x48.gLo), .v (.int .i64 x48.gHi)] 23)], []⟩) (WkS.perm (WkS.cons rfl (Wk.refl _) (WkS.nil)) ((perm_at (j := 2) rfl).trans (List.Perm.cons _ (List.Perm.refl _))) (List.Perm.refl _)) (retD_mk (hh := []) (.inl rfl) (resL_cons (resOne_cell 0 rfl rfl rfl rfl) (resL_nil)) (List.nil_sublist _) (List.Sublist.refl _) ?_)
    exact ⟨rfl, rfl, rfl⟩
noncomputable def reckon_size (a0 : Int) : Option (TApiWide) :=
  ((need (pI a0)).bind fun x2 => ((need (pW (wOf a0))).bind fun x4 => ((wide_Max (wOf a0) ([(wNeg (wOf a0))] : List TApiWide)).bind fun x5 => some x5)))
set_option maxRecDepth 100000 in
set_option maxHeartbeats 2000000 in
theorem reckon_size_ok (a0 : Int) (r : TApiWide) (h0 : reckon_size a0 = some r) : CallsD Try.prog 67 [.v (.int .i64 a0)] [] [] (fun d h k => d = eTApiWide r ∧ h = [] ∧ k = []) := by
  have hm := yes_of h0
  unfold reckon_size at hm
  clear h0
  refine enterX htab Try.func67 rfl rfl rfl rfl rfl (fun C => ?_)
  refine wpD_seq ?_
  refine wpD_region ?_
  refine p_alloc htab rfl rfl rfl rfl rfl rfl rfl (fun b1 => ?_)
  refine ops_nil ?_
  refine then_normal ?_
  refine wpD_seq ?_
  refine wpD_region ?_
  refine p_pure htab rfl rfl rfl rfl ?_
  obtain ⟨x2, q2, hm⟩ := yes_bind hm
  refine p_call0 (wOf_ok a0 (need_ok q2)) rfl rfl rfl rfl rfl (WkL.refl _) ?_
  rintro _ rfl
  refine p_alloc htab rfl rfl rfl rfl rfl rfl rfl (fun b3 => ?_)
  refine p_store (ds' := [.v (.int .i64 ((wOf a0).gHi)), .v (.int .u64 ((wOf a0).gLo))]) (h' := [(b1, Blk.cells [.v (.int .i64 (0 : Int)), .v (.int .u64 (0 : Int))] 31), (b3, Blk.cells [.v (.int .i64 ((wOf a0).gHi)), .v (.int .u64 ((wOf a0).gLo))] 31)]) 1 htab rfl rfl rfl rfl rfl rfl rfl rfl rfl rfl rfl rfl ?_
  refine ops_nil ?_
  refine then_normal ?_
  refine wpD_seq ?_
  obtain ⟨x4, q4, hm⟩ := yes_bind hm
  refine wpD_draws 4 [] [[],[],[1],[1,2]] [0,1,2,3] [[],[],[1],[1,2],[0,1,2,3],[0,1,2,3,4]] (by kernel_rfl) (by kernel_rfl) (by kernel_rfl) (by rfl) (by rfl) (by kernel_rfl) ?_
  apply Exists.intro
  apply Exists.intro
  apply Exists.intro
  apply Exists.intro
  intro bs
  refine z_eM rfl rfl (xm_load (d := eTApiWide (wOf a0)) 1 htab rfl rfl rfl rfl rfl) rfl rfl rfl rfl rfl rfl ?_
  refine z_eM rfl rfl (xm_load (d := eTApiWide (wOf a0)) 1 htab rfl rfl rfl rfl rfl) rfl rfl rfl rfl rfl rfl ?_
  refine z_call rfl rfl (wNeg_ok (wOf a0) (need_ok q4)) rfl rfl (WkL.refl _) rfl rfl rfl rfl rfl rfl ?_
  refine z_E rfl rfl (ExE.wk (x_lit htab rfl rfl rfl rfl rfl rfl rfl rfl rfl rfl rfl) (show Wk _ (.lst 2 (([(wNeg (wOf a0))] : List TApiWide).map eTApiWide) .full) from Wk.lst0 (.cons (WkC.refl _) (.nil)))) rfl rfl rfl rfl rfl rfl ?_
  refine z_nil rfl rfl (fun e he => by simp [isAl] at he) ?_
  obtain ⟨x5, q5, hm⟩ := yes_bind hm
  refine p_call0 (wide_Max_ok (wOf a0) ([(wNeg (wOf a0))] : List TApiWide) x5 q5) rfl rfl rfl rfl rfl (WkL.cons (Wk.refl _) (WkL.cons (Wk.no) (WkL.refl _))) ?_
  rintro _ rfl
  refine p_store (ds' := [.v (.int .i64 x5.gHi), .v (.int .u64 x5.gLo)]) (h' := [(b1, Blk.cells [.v (.int .i64 x5.gHi), .v (.int .u64 x5.gLo)] 31), (b3, Blk.cells [.v (.int .i64 ((wOf a0).gHi)), .v (.int .u64 ((wOf a0).gLo))] 31)]) 0 htab rfl rfl rfl rfl rfl rfl rfl rfl rfl rfl rfl rfl ?_
  refine ops_nil ?_
  refine then_normal ?_
  refine wpD_ret ?_
  have er6 := yes_eq hm; subst er6
  refine retX.of (s' := ⟨[(2, .ptr b1 0)], [(b1, Blk.cells [.v (.int .i64 x5.gHi), .v (.int .u64 x5.gLo)] 31)], []⟩) (WkS.perm (WkS.cons rfl (Wk.refl _) (WkS.nil)) (List.Perm.refl _) (List.Perm.refl _)) (retD_mk (hh := []) (.inl rfl) (resL_cons (resOne_cell 0 rfl rfl rfl rfl) (resL_nil)) (List.nil_sublist _) (List.Sublist.refl _) ?_)
  exact ⟨rfl, rfl, rfl⟩
noncomputable def reckon_rest (a0 : TApiSpan) (a1 : TApiSpan) : Option (TApiSpan) :=
  ((reckon_parts a1).bind fun x4 => (bif ((x4.length : Int) == (0 : Int)) then some (⟨false, (0 : Int), (0 : Int)⟩ : TApiSpan) else (Option.bind (α := Bool) (bif (a0.gLo == a0.gHi) then some (a1.gLo == a1.gHi) else some false) fun y10 => (bif y10 then ((wrap_Do (9 : Int) a0.gLo a1.gLo).bind fun x16 => ((span_One x16.1).bind fun x17 => some x17)) else ((reckon_size a1.gLo).bind fun x19 => ((reckon_size a1.gHi).bind fun x20 => ((wide_Max x19 ([x20] : List TApiWide)).bind fun x21 => ((need (pI (1 : Int))).bind fun x22 => ((need (pWW x21 (wOf (1 : Int)))).bind fun x23 => ((need (pW (wSub x21 (wOf (1 : Int))))).bind fun x24 => (Option.bind (α := Int) (bif (decide (a0.gLo < (0 : Int))) then some (max a0.gLo (IntKind.i64.wrap (0 - (wClamp (wSub x21 (wOf (1 : Int))))))) else some (0 : Int)) fun y26 => (Option.bind (α := Int) (bif (decide ((0 : Int) < a0.gHi)) then some (min a0.gHi (wClamp (wSub x21 (wOf (1 : Int))))) else some (0 : Int)) fun y29 => ((span_Of y26 y29).bind fun x31 => some x31)))))))))))))
set_option maxRecDepth 100000 in
set_option maxHeartbeats 2000000 in
theorem reckon_rest_ok (a0 : TApiSpan) (a1 : TApiSpan) (r : TApiSpan) (h0 : reckon_rest a0 a1 = some r) : CallsD Try.prog 31 [eTApiSpan a0, eTApiSpan a1] [] [] (fun d h k => d = eTApiSpan r ∧ h = [] ∧ k = []) := by
  have hm := yes_of h0
  unfold reckon_rest at hm
  clear h0
  refine enterX htab Try.func31 rfl rfl rfl rfl rfl (fun C => ?_)
  refine wpD_seq ?_
  refine wpD_region ?_
  refine p_box rfl rfl rfl rfl rfl rfl rfl (fun b1 => ?_)
  refine p_box rfl rfl rfl rfl rfl rfl rfl (fun b2 => ?_)
  refine p_alloc htab rfl rfl rfl rfl rfl rfl rfl (fun b3 => ?_)
  refine ops_nil ?_
  refine then_normal ?_
  refine wpD_seq ?_
  refine wpD_region ?_
  refine p_load (d := eTApiSpan a1) 1 htab rfl rfl rfl rfl rfl rfl rfl rfl ?_
  obtain ⟨x4, q4, hm⟩ := yes_bind hm
  refine p_call (reckon_parts_ok a1 x4 q4) rfl rfl rfl rfl rfl (WkL.refl _) ?_
  rintro _ _ _ ⟨w5, rfl, rfl, rfl⟩
  refine p_pure htab rfl rfl rfl rfl ?_
  refine ops_nil ?_
  refine then_normal ?_
  refine wpD_seq ?_
  refine wpD_seq ?_
  refine wpD_region ?_
  refine p_pure htab rfl rfl rfl rfl ?_
  refine p_lenL htab rfl rfl rfl rfl rfl rfl rfl (by first | exact map_len | rfl) ?_
  refine p_pure htab rfl rfl rfl rfl ?_
  refine ops_nil ?_
  refine then_normal ?_
  refine wpD_cond rfl (fun hc7 => ?_) (fun hc7 => ?_)
  · replace hm := yes_t hc7 hm
    refine wpD_seq ?_
    refine wpD_region ?_
    refine p_build (r := [.v (.bool false), .v (.int .i64 (0 : Int)), .v (.int .i64 (0 : Int))]) htab rfl rfl rfl rfl rfl rfl rfl rfl rfl ?_
    refine p_store (ds' := [.v (.bool false), .v (.int .i64 (0 : Int)), .v (.int .i64 (0 : Int))]) (h' := [(b1, Blk.cells [.v (.bool a0.gSome), .v (.int .i64 a0.gLo), .v (.int .i64 a0.gHi)] 23), (b2, Blk.cells [.v (.bool a1.gSome), .v (.int .i64 a1.gLo), .v (.int .i64 a1.gHi)] 23), (b3, Blk.cells [.v (.bool false), .v (.int .i64 (0 : Int)), .v (.int .i64 (0 : Int))] 23)]) 2 htab rfl rfl rfl rfl rfl rfl rfl rfl rfl rfl rfl rfl ?_
    refine ops_nil ?_
    refine then_normal ?_
    refine wpD_ret ?_
    refine then_ret ?_
    have er8 := yes_eq hm; subst er8
    refine retX.of (s' := ⟨[(4, .ptr b3 0)], [(b3, Blk.cells [.v (.bool false), .v (.int .i64 (0 : Int)), .v (.int .i64 (0 : Int))] 23)], []⟩) (WkS.perm (WkS.cons rfl (Wk.refl _) (WkS.nil)) ((perm_at (j := 2) rfl).trans (List.Perm.cons _ (List.Perm.refl _))) (List.Perm.refl _)) (retD_mk (hh := []) (.inl rfl) (resL_cons (resOne_cell 0 rfl rfl rfl rfl) (resL_nil)) (List.nil_sublist _) (List.Sublist.refl _) ?_)
    exact ⟨rfl, rfl, rfl⟩
  · replace hm := yes_f hc7 hm
    refine wpD_skip ?_
    refine then_normal ?_
    refine wpD_seq ?_
    refine wpD_seq ?_
    obtain ⟨y10, q10, ho10⟩ := yes_bind hm
    refine wpD_mid (Y := Unit) (fun z10 => (⟨[(2, .ptr b1 0), (3, .ptr b2 0), (4, .ptr b3 0), (28, .v (.bool y10))], [(b1, Blk.cells [.v (.bool a0.gSome), .v (.int .i64 a0.gLo), .v (.int .i64 a0.gHi)] 23), (b2, Blk.cells [.v (.bool a1.gSome), .v (.int .i64 a1.gLo), .v (.int .i64 a1.gHi)] 23), (b3, Blk.cells [.v (.bool false), .v (.int .i64 (0 : Int)), .v (.int .i64 (0 : Int))] 23)], [(3, w5)]⟩ : S)) ?_ ?_
    · clear hm; have hm := yes_of q10
      refine wpD_region ?_
      refine p_pure htab rfl rfl rfl rfl ?_
      refine p_load 0 htab rfl rfl rfl rfl rfl rfl rfl rfl ?_
      refine p_pure htab rfl rfl rfl rfl ?_
      refine p_load 0 htab rfl rfl rfl rfl rfl rfl rfl rfl ?_
      refine p_pure htab rfl rfl rfl rfl ?_
      refine p_pure htab rfl rfl rfl rfl ?_
      refine p_split (i := 22) rfl (fun hg11 => ?_) (fun hg11 => ?_)
      · replace hm := yes_t hg11 hm
        refine p_pure htab rfl rfl rfl rfl ?_
        refine p_load 1 htab rfl rfl rfl rfl rfl rfl rfl rfl ?_
        refine p_pure htab rfl rfl rfl rfl ?_
        refine p_load 1 htab rfl rfl rfl rfl rfl rfl rfl rfl ?_
        refine p_pure htab rfl rfl rfl rfl ?_
        refine p_pickT rfl rfl rfl rfl rfl rfl ?_
        refine ops_nil ?_
        have e10 := yes_eq hm; subst e10
        refine ⟨rfl, ?_⟩
        exact WkX.of () (WkS.perm (WkS.cons rfl (Wk.refl _) (WkS.cons rfl (Wk.refl _) (WkS.cons rfl (Wk.refl _) (WkS.cons rfl (Wk.refl _) (WkS.nil))))) (List.Perm.refl _) (List.Perm.refl _))
      · replace hm := yes_f hg11 hm
        refine p_skip rfl rfl rfl ?_
        refine p_skip rfl rfl rfl ?_
        refine p_skip rfl rfl rfl ?_
        refine p_skip rfl rfl rfl ?_
        refine p_skip rfl rfl rfl ?_
        refine p_pickF rfl rfl rfl rfl rfl rfl ?_
        refine ops_nil ?_
        have e10 := yes_eq hm; subst e10
        refine ⟨rfl, ?_⟩
        exact WkX.of () (WkS.perm (WkS.cons rfl (Wk.refl _) (WkS.cons rfl (Wk.refl _) (WkS.cons rfl (Wk.refl _) (WkS.cons rfl (Wk.refl _) (WkS.nil))))) (List.Perm.refl _) (List.Perm.refl _))
    · intro s10 hw10; clear hm; have hm := ho10; clear q10 ho10
      refine then_normal ?_
      refine wpD_wkX hw10 (fun z10 => ?_)
      refine wpD_cond rfl (fun hc15 => ?_) (fun hc15 => ?_)
      · replace hm := yes_t hc15 hm
        refine wpD_seq ?_
        refine wpD_region ?_
        refine p_pure htab rfl rfl rfl rfl ?_
        refine p_load 0 htab rfl rfl rfl rfl rfl rfl rfl rfl ?_
        refine p_pure htab rfl rfl rfl rfl ?_
        refine p_load 1 htab rfl rfl rfl rfl rfl rfl rfl rfl ?_
        obtain ⟨x16, q16, hm⟩ := yes_bind hm
        refine p_call0 (wrap_Do_ok (9 : Int) a0.gLo a1.gLo x16 q16) rfl rfl rfl rfl rfl (WkL.refl _) ?_
        rintro _ rfl
        refine p_pure htab rfl rfl rfl rfl ?_
        refine p_pure htab rfl rfl rfl rfl ?_
        refine p_pure htab rfl rfl rfl rfl ?_
        refine p_pure htab rfl rfl rfl rfl ?_
        refine p_pure htab rfl rfl rfl rfl ?_
        refine ops_nil ?_
        refine then_normal ?_
        refine wpD_seq ?_
        refine wpD_region ?_
        refine p_pure htab rfl rfl rfl rfl ?_
        obtain ⟨x17, q17, hm⟩ := yes_bind hm
        refine p_call0 (span_One_ok x16.1 x17 q17) rfl rfl rfl rfl rfl (WkL.refl _) ?_
        rintro _ rfl
        refine p_store (ds' := [.v (.bool x17.gSome), .v (.int .i64 x17.gLo), .v (.int .i64 x17.gHi)]) (h' := [(b1, Blk.cells [.v (.bool a0.gSome), .v (.int .i64 a0.gLo), .v (.int .i64 a0.gHi)] 23), (b2, Blk.cells [.v (.bool a1.gSome), .v (.int .i64 a1.gLo), .v (.int .i64 a1.gHi)] 23), (b3, Blk.cells [.v (.bool x17.gSome), .v (.int .i64 x17.gLo), .v (.int .i64 x17.gHi)] 23)]) 2 htab rfl rfl rfl rfl rfl rfl rfl rfl rfl rfl rfl rfl ?_
        refine ops_nil ?_
        refine then_normal ?_
        refine wpD_ret ?_
        refine then_ret ?_
        have er18 := yes_eq hm; subst er18
        refine retX.of (s' := ⟨[(4, .ptr b3 0)], [(b3, Blk.cells [.v (.bool x17.gSome), .v (.int .i64 x17.gLo), .v (.int .i64 x17.gHi)] 23)], []⟩) (WkS.perm (WkS.cons rfl (Wk.refl _) (WkS.nil)) ((perm_at (j := 2) rfl).trans (List.Perm.cons _ (List.Perm.refl _))) (List.Perm.refl _)) (retD_mk (hh := []) (.inl rfl) (resL_cons (resOne_cell 0 rfl rfl rfl rfl) (resL_nil)) (List.nil_sublist _) (List.Sublist.refl _) ?_)
        exact ⟨rfl, rfl, rfl⟩
      · replace hm := yes_f hc15 hm
        refine wpD_skip ?_
        refine then_normal ?_
        refine wpD_seq ?_
        obtain ⟨x19, q19, hm⟩ := yes_bind hm
        refine wpD_draws 5 [] [[],[0],[0],[],[3]] [0,2,3] [[],[0],[0,1],[],[3],[0,1,2,3,4],[0,1,2,3,4,5],[0,1,2,3,4,5,6],[0,1,2,3,4,5,6,7],[0,1,2,3,4,5,6,7,8],[0,1,2,3,4,5,6,7,8,9],[0,1,2,3,4,5,6,7,8,9,10]] (by kernel_rfl) (by kernel_rfl) (by kernel_rfl) (by rfl) (by rfl) (by kernel_rfl) ?_
        apply Exists.intro
        apply Exists.intro
        apply Exists.intro
        intro bs
        refine z_e rfl rfl (ex_pure htab rfl) rfl rfl rfl rfl rfl rfl ?_
        refine z_qM rfl rfl (xm_load 1 htab rfl rfl rfl rfl rfl) rfl rfl rfl rfl rfl rfl ?_
        refine z_call rfl rfl (reckon_size_ok a1.gLo x19 q19) rfl rfl (WkL.refl _) rfl rfl rfl rfl rfl rfl ?_
        refine z_e rfl rfl (ex_pure htab rfl) rfl rfl rfl rfl rfl rfl ?_
        refine z_qM rfl rfl (xm_load 1 htab rfl rfl rfl rfl rfl) rfl rfl rfl rfl rfl rfl ?_
        refine z_nil rfl rfl (fun e he => by simp [isAl] at he) ?_
        obtain ⟨x20, q20, hm⟩ := yes_bind hm
        refine p_call0 (reckon_size_ok a1.gHi x20 q20) rfl rfl rfl rfl rfl (WkL.refl _) ?_
        rintro _ rfl
        refine p_lit htab rfl rfl rfl rfl rfl rfl rfl rfl rfl rfl rfl rfl rfl rfl ?_
        refine p_eq (i := 45) (d' := .lst 2 (([x20] : List TApiWide).map eTApiWide) .full) rfl (Wk.lst0 (.cons (WkC.refl _) (.nil))) ?_
        obtain ⟨x21, q21, hm⟩ := yes_bind hm
        refine p_call0 (wide_Max_ok x19 ([x20] : List TApiWide) x21 q21) rfl rfl rfl rfl rfl (WkL.cons (Wk.refl _) (WkL.cons (Wk.no) (WkL.refl _))) ?_
        rintro _ rfl
        obtain ⟨x22, q22, hm⟩ := yes_bind hm
        refine p_call0 (wOf_ok (1 : Int) (need_ok q22)) rfl rfl rfl rfl rfl (WkL.refl _) ?_
        rintro _ rfl
        obtain ⟨x23, q23, hm⟩ := yes_bind hm
        refine p_call0 (wSub_ok x21 (wOf (1 : Int)) (need_ok q23)) rfl rfl rfl rfl rfl (WkL.refl _) ?_
        rintro _ rfl
        obtain ⟨x24, q24, hm⟩ := yes_bind hm
        refine p_call0 (wClamp_ok (wSub x21 (wOf (1 : Int))) (need_ok q24)) rfl rfl rfl rfl rfl (WkL.refl _) ?_
        rintro _ rfl
        refine p_pure htab rfl rfl rfl rfl ?_
        refine ops_nil ?_
        refine then_normal ?_
        refine wpD_seq ?_
        refine wpD_region ?_
        refine p_pure htab rfl rfl rfl rfl ?_
        refine p_pure htab rfl rfl rfl rfl ?_
        refine ops_nil ?_
        refine then_normal ?_
        refine wpD_seq ?_
        refine wpD_seq ?_
        refine wpD_region ?_
        refine p_pure htab rfl rfl rfl rfl ?_
        refine p_load 0 htab rfl rfl rfl rfl rfl rfl rfl rfl ?_
        refine p_pure htab rfl rfl rfl rfl ?_
        refine ops_nil ?_
        refine then_normal ?_
        obtain ⟨y26, q26, ho26⟩ := yes_bind hm
        refine wpD_mid (Y := Unit) (fun z26 => (⟨[(2, .ptr b1 0), (4, .ptr b3 0), (8, .v (.int .i64 (wClamp (wSub x21 (wOf (1 : Int)))))), (9, .v (.int .i64 y26)), (10, .v (.int .i64 (0 : Int)))], [(b1, Blk.cells [.v (.bool a0.gSome), .v (.int .i64 a0.gLo), .v (.int .i64 a0.gHi)] 23), (b2, Blk.cells [.v (.bool a1.gSome), .v (.int .i64 a1.gLo), .v (.int .i64 a1.gHi)] 23), (b3, Blk.cells [.v (.bool false), .v (.int .i64 (0 : Int)), .v (.int .i64 (0 : Int))] 23)], [(3, w5)]⟩ : S)) ?_ ?_
        · clear hm; have hm := yes_of q26
          refine wpD_cond rfl (fun hc27 => ?_) (fun hc27 => ?_)
          · replace hm := yes_t hc27 hm
            refine wpD_region ?_
            refine p_pure htab rfl rfl rfl rfl ?_
            refine p_load 0 htab rfl rfl rfl rfl rfl rfl rfl rfl ?_
            refine p_pure htab rfl rfl rfl rfl ?_
            refine p_pure htab rfl rfl rfl rfl ?_
            refine p_max rfl rfl rfl rfl rfl rfl ?_
            refine p_pure htab rfl rfl rfl rfl ?_
            refine ops_nil ?_
            have e26 := yes_eq hm; subst e26
            refine ⟨rfl, ?_⟩
            exact WkX.of () (WkS.perm (WkS.cons rfl (Wk.refl _) (WkS.cons rfl (Wk.refl _) (WkS.cons rfl (Wk.refl _) (WkS.cons rfl (Wk.refl _) (WkS.cons rfl (Wk.refl _) (WkS.nil)))))) (List.Perm.refl _) (List.Perm.refl _))
          · replace hm := yes_f hc27 hm
            refine wpD_skip ?_
            have e26 := yes_eq hm; subst e26
            refine ⟨rfl, ?_⟩
            exact WkX.of () (WkS.perm (WkS.cons rfl (Wk.refl _) (WkS.cons rfl (Wk.refl _) (WkS.cons rfl (Wk.refl _) (WkS.cons rfl (Wk.refl _) (WkS.cons rfl (Wk.refl _) (WkS.nil)))))) (List.Perm.refl _) (List.Perm.refl _))
        · intro s26 hw26; clear hm; have hm := ho26; clear q26 ho26
          refine then_normal ?_
          refine wpD_wkX hw26 (fun z26 => ?_)
          refine wpD_seq ?_
          refine wpD_seq ?_
          refine wpD_region ?_
          refine p_pure htab rfl rfl rfl rfl ?_
          refine p_load 0 htab rfl rfl rfl rfl rfl rfl rfl rfl ?_
          refine p_pure htab rfl rfl rfl rfl ?_
          refine ops_nil ?_
          refine then_normal ?_
          obtain ⟨y29, q29, ho29⟩ := yes_bind hm
          refine wpD_mid (Y := Unit) (fun z29 => (⟨[(4, .ptr b3 0), (9, .v (.int .i64 y26)), (10, .v (.int .i64 y29))], [(b1, Blk.cells [.v (.bool a0.gSome), .v (.int .i64 a0.gLo), .v (.int .i64 a0.gHi)] 23), (b2, Blk.cells [.v (.bool a1.gSome), .v (.int .i64 a1.gLo), .v (.int .i64 a1.gHi)] 23), (b3, Blk.cells [.v (.bool false), .v (.int .i64 (0 : Int)), .v (.int .i64 (0 : Int))] 23)], [(3, w5)]⟩ : S)) ?_ ?_
          · clear hm; have hm := yes_of q29
            refine wpD_cond rfl (fun hc30 => ?_) (fun hc30 => ?_)
            · replace hm := yes_t hc30 hm
              refine wpD_region ?_
              refine p_pure htab rfl rfl rfl rfl ?_
              refine p_load 0 htab rfl rfl rfl rfl rfl rfl rfl rfl ?_
              refine p_pure htab rfl rfl rfl rfl ?_
              refine p_min rfl rfl rfl rfl rfl rfl ?_
              refine p_pure htab rfl rfl rfl rfl ?_
              refine ops_nil ?_
              have e29 := yes_eq hm; subst e29
              refine ⟨rfl, ?_⟩
              exact WkX.of () (WkS.perm (WkS.cons rfl (Wk.refl _) (WkS.cons rfl (Wk.refl _) (WkS.cons rfl (Wk.refl _) (WkS.nil)))) (List.Perm.refl _) (List.Perm.refl _))
            · replace hm := yes_f hc30 hm
              refine wpD_skip ?_
              have e29 := yes_eq hm; subst e29
              refine ⟨rfl, ?_⟩
              exact WkX.of () (WkS.perm (WkS.cons rfl (Wk.refl _) (WkS.cons rfl (Wk.refl _) (WkS.cons rfl (Wk.refl _) (WkS.nil)))) (List.Perm.refl _) (List.Perm.refl _))
          · intro s29 hw29; clear hm; have hm := ho29; clear q29 ho29
            refine then_normal ?_
            refine wpD_wkX hw29 (fun z29 => ?_)
            refine wpD_seq ?_
            refine wpD_region ?_
            refine p_pure htab rfl rfl rfl rfl ?_
            refine p_pure htab rfl rfl rfl rfl ?_
            obtain ⟨x31, q31, hm⟩ := yes_bind hm
            refine p_call0 (span_Of_ok y26 y29 x31 q31) rfl rfl rfl rfl rfl (WkL.refl _) ?_
            rintro _ rfl
            refine p_store (ds' := [.v (.bool x31.gSome), .v (.int .i64 x31.gLo), .v (.int .i64 x31.gHi)]) (h' := [(b1, Blk.cells [.v (.bool a0.gSome), .v (.int .i64 a0.gLo), .v (.int .i64 a0.gHi)] 23), (b2, Blk.cells [.v (.bool a1.gSome), .v (.int .i64 a1.gLo), .v (.int .i64 a1.gHi)] 23), (b3, Blk.cells [.v (.bool x31.gSome), .v (.int .i64 x31.gLo), .v (.int .i64 x31.gHi)] 23)]) 2 htab rfl rfl rfl rfl rfl rfl rfl rfl rfl rfl rfl rfl ?_
            refine ops_nil ?_
            refine then_normal ?_
            refine wpD_ret ?_
            have er32 := yes_eq hm; subst er32
            refine retX.of (s' := ⟨[(4, .ptr b3 0)], [(b3, Blk.cells [.v (.bool x31.gSome), .v (.int .i64 x31.gLo), .v (.int .i64 x31.gHi)] 23)], []⟩) (WkS.perm (WkS.cons rfl (Wk.refl _) (WkS.nil)) ((perm_at (j := 2) rfl).trans (List.Perm.cons _ (List.Perm.refl _))) (List.Perm.refl _)) (retD_mk (hh := []) (.inl rfl) (resL_cons (resOne_cell 0 rfl rfl rfl rfl) (resL_nil)) (List.nil_sublist _) (List.Sublist.refl _) ?_)
            exact ⟨rfl, rfl, rfl⟩
noncomputable def reckon_truth (a0 : Bool) (a1 : Bool) : Option (TApiSpan) :=
  (bif a0 then ((span_One (1 : Int)).bind fun x3 => some x3) else (bif a1 then ((span_One (0 : Int)).bind fun x6 => some x6) else ((span_Of (0 : Int) (1 : Int)).bind fun x8 => some x8)))
set_option maxRecDepth 100000 in
set_option maxHeartbeats 2000000 in
theorem reckon_truth_ok (a0 : Bool) (a1 : Bool) (r : TApiSpan) (h0 : reckon_truth a0 a1 = some r) : CallsD Try.prog 41 [.v (.bool a0), .v (.bool a1)] [] [] (fun d h k => d = eTApiSpan r ∧ h = [] ∧ k = []) := by
  have hm := yes_of h0
  unfold reckon_truth at hm
  clear h0
  refine enterX htab Try.func41 rfl rfl rfl rfl rfl (fun C => ?_)
  refine wpD_seq ?_
  refine wpD_region ?_
  refine p_alloc htab rfl rfl rfl rfl rfl rfl rfl (fun b1 => ?_)
  refine ops_nil ?_
  refine then_normal ?_
  refine wpD_seq ?_
  refine wpD_block ?_
  refine wpD_seq ?_
  refine wpD_region ?_
  refine p_pure htab rfl rfl rfl rfl ?_
  refine p_pure htab rfl rfl rfl rfl ?_
  refine ops_nil ?_
  refine then_normal ?_
  refine wpD_cond rfl (fun hc2 => ?_) (fun hc2 => ?_)
  · replace hm := yes_t hc2 hm
    refine wpD_seq ?_
    refine wpD_region ?_
    obtain ⟨x3, q3, hm⟩ := yes_bind hm
    refine p_call0 (span_One_ok (1 : Int) x3 q3) rfl rfl rfl rfl rfl (WkL.refl _) ?_
    rintro _ rfl
    refine p_store (ds' := [.v (.bool x3.gSome), .v (.int .i64 x3.gLo), .v (.int .i64 x3.gHi)]) (h' := [(b1, Blk.cells [.v (.bool x3.gSome), .v (.int .i64 x3.gLo), .v (.int .i64 x3.gHi)] 23)]) 0 htab rfl rfl rfl rfl rfl rfl rfl rfl rfl rfl rfl rfl ?_
    refine ops_nil ?_
    refine then_normal ?_
    refine wpD_ret ?_
    refine block_ret ?_
    refine then_ret ?_
    have er4 := yes_eq hm; subst er4
    refine retX.of (s' := ⟨[(4, .ptr b1 0)], [(b1, Blk.cells [.v (.bool x3.gSome), .v (.int .i64 x3.gLo), .v (.int .i64 x3.gHi)] 23)], []⟩) (WkS.perm (WkS.cons rfl (Wk.refl _) (WkS.nil)) (List.Perm.refl _) (List.Perm.refl _)) (retD_mk (hh := []) (.inl rfl) (resL_cons (resOne_cell 0 rfl rfl rfl rfl) (resL_nil)) (List.nil_sublist _) (List.Sublist.refl _) ?_)
    exact ⟨rfl, rfl, rfl⟩
  · replace hm := yes_f hc2 hm
    refine wpD_seq ?_
    refine wpD_region ?_
    refine p_pure htab rfl rfl rfl rfl ?_
    refine p_pure htab rfl rfl rfl rfl ?_
    refine ops_nil ?_
    refine then_normal ?_
    refine wpD_cond rfl (fun hc5 => ?_) (fun hc5 => ?_)
    · replace hm := yes_t hc5 hm
      refine wpD_seq ?_
      refine wpD_region ?_
      obtain ⟨x6, q6, hm⟩ := yes_bind hm
      refine p_call0 (span_One_ok (0 : Int) x6 q6) rfl rfl rfl rfl rfl (WkL.refl _) ?_
      rintro _ rfl
      refine p_store (ds' := [.v (.bool x6.gSome), .v (.int .i64 x6.gLo), .v (.int .i64 x6.gHi)]) (h' := [(b1, Blk.cells [.v (.bool x6.gSome), .v (.int .i64 x6.gLo), .v (.int .i64 x6.gHi)] 23)]) 0 htab rfl rfl rfl rfl rfl rfl rfl rfl rfl rfl rfl rfl ?_
      refine ops_nil ?_
      refine then_normal ?_
      refine wpD_ret ?_
      refine block_ret ?_
      refine then_ret ?_
      have er7 := yes_eq hm; subst er7
      refine retX.of (s' := ⟨[(4, .ptr b1 0)], [(b1, Blk.cells [.v (.bool x6.gSome), .v (.int .i64 x6.gLo), .v (.int .i64 x6.gHi)] 23)], []⟩) (WkS.perm (WkS.cons rfl (Wk.refl _) (WkS.nil)) (List.Perm.refl _) (List.Perm.refl _)) (retD_mk (hh := []) (.inl rfl) (resL_cons (resOne_cell 0 rfl rfl rfl rfl) (resL_nil)) (List.nil_sublist _) (List.Sublist.refl _) ?_)
      exact ⟨rfl, rfl, rfl⟩
    · replace hm := yes_f hc5 hm
      refine wpD_skip ?_
      refine block_normal ?_
      refine then_normal ?_
      refine wpD_seq ?_
      refine wpD_region ?_
      obtain ⟨x8, q8, hm⟩ := yes_bind hm
      refine p_call0 (span_Of_ok (0 : Int) (1 : Int) x8 q8) rfl rfl rfl rfl rfl (WkL.refl _) ?_
      rintro _ rfl
      refine p_store (ds' := [.v (.bool x8.gSome), .v (.int .i64 x8.gLo), .v (.int .i64 x8.gHi)]) (h' := [(b1, Blk.cells [.v (.bool x8.gSome), .v (.int .i64 x8.gLo), .v (.int .i64 x8.gHi)] 23)]) 0 htab rfl rfl rfl rfl rfl rfl rfl rfl rfl rfl rfl rfl ?_
      refine ops_nil ?_
      refine then_normal ?_
      refine wpD_ret ?_
      have er9 := yes_eq hm; subst er9
      refine retX.of (s' := ⟨[(4, .ptr b1 0)], [(b1, Blk.cells [.v (.bool x8.gSome), .v (.int .i64 x8.gLo), .v (.int .i64 x8.gHi)] 23)], []⟩) (WkS.perm (WkS.cons rfl (Wk.refl _) (WkS.nil)) (List.Perm.refl _) (List.Perm.refl _)) (retD_mk (hh := []) (.inl rfl) (resL_cons (resOne_cell 0 rfl rfl rfl rfl) (resL_nil)) (List.nil_sublist _) (List.Sublist.refl _) ?_)
      exact ⟨rfl, rfl, rfl⟩
noncomputable def reckon_alone (a0 : TApiSpan) (a1 : Int) : Option (Bool) :=
  (bif (a0.gLo == a1) then some (a0.gHi == a1) else some false)
set_option maxRecDepth 100000 in
set_option maxHeartbeats 2000000 in
theorem reckon_alone_ok (a0 : TApiSpan) (a1 : Int) (r : Bool) (h0 : reckon_alone a0 a1 = some r) : CallsD Try.prog 42 [eTApiSpan a0, .v (.int .i64 a1)] [] [] (fun d h k => d = .v (.bool r) ∧ h = [] ∧ k = []) := by
  have hm := yes_of h0
  unfold reckon_alone at hm
  clear h0
  refine enterX htab Try.func42 rfl rfl rfl rfl rfl (fun C => ?_)
  refine wpD_seq ?_
  refine wpD_region ?_
  refine p_box rfl rfl rfl rfl rfl rfl rfl (fun b1 => ?_)
  refine p_pure htab rfl rfl rfl rfl ?_
  refine ops_nil ?_
  refine then_normal ?_
  refine wpD_seq ?_
  refine wpD_region ?_
  refine p_pure htab rfl rfl rfl rfl ?_
  refine p_load 0 htab rfl rfl rfl rfl rfl rfl rfl rfl ?_
  refine p_pure htab rfl rfl rfl rfl ?_
  refine p_pure htab rfl rfl rfl rfl ?_
  refine p_pure htab rfl rfl rfl rfl ?_
  refine p_split (i := 9) rfl (fun hg2 => ?_) (fun hg2 => ?_)
  · replace hm := yes_t hg2 hm
    refine p_pure htab rfl rfl rfl rfl ?_
    refine p_load 0 htab rfl rfl rfl rfl rfl rfl rfl rfl ?_
    refine p_pure htab rfl rfl rfl rfl ?_
    refine p_pure htab rfl rfl rfl rfl ?_
    refine p_pickT rfl rfl rfl rfl rfl rfl ?_
    refine p_pure htab rfl rfl rfl rfl ?_
    refine ops_nil ?_
    refine then_normal ?_
    refine wpD_ret ?_
    have er3 := yes_eq hm; subst er3
    refine retX.of (s' := ⟨[(4, .v (.bool (a0.gHi == a1)))], [], []⟩) (WkS.perm (WkS.cons rfl (Wk.refl _) (WkS.nil)) (List.Perm.refl _) (List.Perm.refl _)) (retD_mk (hh := []) (.inl rfl) (resL_cons (resOne_tmp rfl) (resL_nil)) (List.nil_sublist _) (List.Sublist.refl _) ?_)
    exact ⟨rfl, rfl, rfl⟩
  · replace hm := yes_f hg2 hm
    refine p_skip rfl rfl rfl ?_
    refine p_skip rfl rfl rfl ?_
    refine p_skip rfl rfl rfl ?_
    refine p_skip rfl rfl rfl ?_
    refine p_pickF rfl rfl rfl rfl rfl rfl ?_
    refine p_pure htab rfl rfl rfl rfl ?_
    refine ops_nil ?_
    refine then_normal ?_
    refine wpD_ret ?_
    have er4 := yes_eq hm; subst er4
    refine retX.of (s' := ⟨[(4, .v (.bool false))], [], []⟩) (WkS.perm (WkS.cons rfl (Wk.refl _) (WkS.nil)) (List.Perm.refl _) (List.Perm.refl _)) (retD_mk (hh := []) (.inl rfl) (resL_cons (resOne_tmp rfl) (resL_nil)) (List.nil_sublist _) (List.Sublist.refl _) ?_)
    exact ⟨rfl, rfl, rfl⟩
noncomputable def reckon_compare (a0 : Int) (a1 : TApiSpan) (a2 : TApiSpan) : Option (TApiSpan) :=
  (Option.bind (α := Bool) (bif (decide (a1.gHi < a2.gLo)) then some true else some (decide (a2.gHi < a1.gLo))) fun y5 => (Option.bind (α := Bool) (bif (a1.gLo == a1.gHi) then some (a2.gSome == a1.gSome && (a2.gLo == a1.gLo && (a2.gHi == a1.gHi && true))) else some false) fun y8 => (bif (a0 == (12 : Int)) then ((reckon_truth (decide (a1.gHi < a2.gLo)) (decide (a2.gHi ≤ a1.gLo))).bind fun x11 => some x11) else (bif (a0 == (13 : Int)) then ((reckon_truth (decide (a1.gHi ≤ a2.gLo)) (decide (a2.gHi < a1.gLo))).bind fun x14 => some x14) else (bif (a0 == (14 : Int)) then ((reckon_truth y8 y5).bind fun x17 => some x17) else (bif (a0 == (15 : Int)) then ((reckon_truth y5 y8).bind fun x20 => some x20) else (bif (a0 == (16 : Int)) then ((span_Has a1 (0 : Int)).bind fun x23 => (bif (!x23) then ((span_Has a2 (0 : Int)).bind fun x25 => ((reckon_alone a1 (0 : Int)).bind fun x26 => (bif x26 then ((reckon_truth (!x25) true).bind fun x28 => some x28) else ((reckon_alone a2 (0 : Int)).bind fun x30 => ((reckon_truth (!x25) x30).bind fun x31 => some x31))))) else ((reckon_alone a1 (0 : Int)).bind fun x33 => (bif x33 then ((reckon_truth false true).bind fun x35 => some x35) else ((reckon_alone a2 (0 : Int)).bind fun x37 => ((reckon_truth false x37).bind fun x38 => some x38)))))) else (bif (a0 == (17 : Int)) then ((span_Has a1 (0 : Int)).bind fun x41 => (bif (!x41) then ((reckon_alone a1 (0 : Int)).bind fun x43 => (bif x43 then ((reckon_alone a2 (0 : Int)).bind fun x45 => ((reckon_truth true x45).bind fun x46 => some x46)) else ((reckon_truth true false).bind fun x48 => some x48))) else ((span_Has a2 (0 : Int)).bind fun x50 => ((reckon_alone a1 (0 : Int)).bind fun x51 => (bif x51 then ((reckon_alone a2 (0 : Int)).bind fun x53 => ((reckon_truth (!x50) x53).bind fun x54 => some x54)) else ((reckon_truth (!x50) false).bind fun x56 => some x56)))))) else some (⟨false, (0 : Int), (0 : Int)⟩ : TApiSpan)))))))))
set_option maxRecDepth 100000 in
set_option maxHeartbeats 2000000 in
theorem reckon_compare_ok (a0 : Int) (a1 : TApiSpan) (a2 : TApiSpan) (r : TApiSpan) (h0 : reckon_compare a0 a1 a2 = some r) : CallsD Try.prog 32 [.v (.int .i64 a0), eTApiSpan a1, eTApiSpan a2] [] [] (fun d h k => d = eTApiSpan r ∧ h = [] ∧ k = []) := by
  have hm := yes_of h0
  unfold reckon_compare at hm
  clear h0
  refine enterX htab Try.func32 rfl rfl rfl rfl rfl (fun C => ?_)
  refine wpD_seq ?_
  refine wpD_region ?_
  refine p_box rfl rfl rfl rfl rfl rfl rfl (fun b1 => ?_)
  refine p_box rfl rfl rfl rfl rfl rfl rfl (fun b2 => ?_)
  refine p_alloc htab rfl rfl rfl rfl rfl rfl rfl (fun b3 => ?_)
  refine ops_nil ?_
  refine then_normal ?_
  refine wpD_seq ?_
  obtain ⟨y5, q5, ho5⟩ := yes_bind hm
  refine wpD_mid (Y := Unit) (fun z5 => (⟨[(0, .v (.int .i64 a0)), (4, .ptr b1 0), (5, .ptr b2 0), (6, .ptr b3 0), (7, .v (.bool y5))], [(b1, Blk.cells [.v (.bool a1.gSome), .v (.int .i64 a1.gLo), .v (.int .i64 a1.gHi)] 23), (b2, Blk.cells [.v (.bool a2.gSome), .v (.int .i64 a2.gLo), .v (.int .i64 a2.gHi)] 23), (b3, Blk.cells [.v (.bool false), .v (.int .i64 (0 : Int)), .v (.int .i64 (0 : Int))] 23)], []⟩ : S)) ?_ ?_
  · clear hm; have hm := yes_of q5
    refine wpD_region ?_
    refine p_pure htab rfl rfl rfl rfl ?_
    refine p_load 0 htab rfl rfl rfl rfl rfl rfl rfl rfl ?_
    refine p_pure htab rfl rfl rfl rfl ?_
    refine p_load 1 htab rfl rfl rfl rfl rfl rfl rfl rfl ?_
    refine p_pure htab rfl rfl rfl rfl ?_
    refine p_pure htab rfl rfl rfl rfl ?_
    refine p_split (i := 14) rfl (fun hg6 => ?_) (fun hg6 => ?_)
    · replace hm := yes_t hg6 hm
      refine p_skip rfl rfl rfl ?_
      refine p_skip rfl rfl rfl ?_
      refine p_skip rfl rfl rfl ?_
      refine p_skip rfl rfl rfl ?_
      refine p_skip rfl rfl rfl ?_
      refine p_pickT rfl rfl rfl rfl rfl rfl ?_
      refine p_pure htab rfl rfl rfl rfl ?_
      refine ops_nil ?_
      have e5 := yes_eq hm; subst e5
      refine ⟨rfl, ?_⟩
      exact WkX.of () (WkS.perm (WkS.cons rfl (Wk.refl _) (WkS.cons rfl (Wk.refl _) (WkS.cons rfl (Wk.refl _) (WkS.cons rfl (Wk.refl _) (WkS.cons rfl (Wk.refl _) (WkS.nil)))))) (List.Perm.refl _) (List.Perm.refl _))
    · replace hm := yes_f hg6 hm
      refine p_pure htab rfl rfl rfl rfl ?_
      refine p_load 1 htab rfl rfl rfl rfl rfl rfl rfl rfl ?_
      refine p_pure htab rfl rfl rfl rfl ?_
      refine p_load 0 htab rfl rfl rfl rfl rfl rfl rfl rfl ?_
      refine p_pure htab rfl rfl rfl rfl ?_
      refine p_pickF rfl rfl rfl rfl rfl rfl ?_
      refine p_pure htab rfl rfl rfl rfl ?_
      refine ops_nil ?_
      have e5 := yes_eq hm; subst e5
      refine ⟨rfl, ?_⟩
      exact WkX.of () (WkS.perm (WkS.cons rfl (Wk.refl _) (WkS.cons rfl (Wk.refl _) (WkS.cons rfl (Wk.refl _) (WkS.cons rfl (Wk.refl _) (WkS.cons rfl (Wk.refl _) (WkS.nil)))))) (List.Perm.refl _) (List.Perm.refl _))
  · intro s5 hw5; clear hm; have hm := ho5; clear q5 ho5
    refine then_normal ?_
    refine wpD_wkX hw5 (fun z5 => ?_)
    refine wpD_seq ?_
    obtain ⟨y8, q8, ho8⟩ := yes_bind hm
    refine wpD_mid (Y := Unit) (fun z8 => (⟨[(0, .v (.int .i64 a0)), (4, .ptr b1 0), (5, .ptr b2 0), (6, .ptr b3 0), (7, .v (.bool y5)), (8, .v (.bool y8))], [(b1, Blk.cells [.v (.bool a1.gSome), .v (.int .i64 a1.gLo), .v (.int .i64 a1.gHi)] 23), (b2, Blk.cells [.v (.bool a2.gSome), .v (.int .i64 a2.gLo), .v (.int .i64 a2.gHi)] 23), (b3, Blk.cells [.v (.bool false), .v (.int .i64 (0 : Int)), .v (.int .i64 (0 : Int))] 23)], []⟩ : S)) ?_ ?_
    · clear hm; have hm := yes_of q8
      refine wpD_region ?_
      refine p_pure htab rfl rfl rfl rfl ?_
      refine p_load 0 htab rfl rfl rfl rfl rfl rfl rfl rfl ?_
      refine p_pure htab rfl rfl rfl rfl ?_
      refine p_load 0 htab rfl rfl rfl rfl rfl rfl rfl rfl ?_
      refine p_pure htab rfl rfl rfl rfl ?_
      refine p_pure htab rfl rfl rfl rfl ?_
      refine p_split (i := 26) rfl (fun hg9 => ?_) (fun hg9 => ?_)
      · replace hm := yes_t hg9 hm
        refine p_load (d := eTApiSpan a2) 1 htab rfl rfl rfl rfl rfl rfl rfl rfl ?_
        refine p_load (d := eTApiSpan a1) 0 htab rfl rfl rfl rfl rfl rfl rfl rfl ?_
        refine p_eqS htab rfl rfl rfl rfl rfl eqt23 rfl rfl rfl rfl rfl ?_
        refine p_pickT rfl rfl rfl rfl rfl rfl ?_
        refine p_pure htab rfl rfl rfl rfl ?_
        refine ops_nil ?_
        have e8 := yes_eq hm; subst e8
        refine ⟨rfl, ?_⟩
        exact WkX.of () (WkS.perm (WkS.cons rfl (Wk.refl _) (WkS.cons rfl (Wk.refl _) (WkS.cons rfl (Wk.refl _) (WkS.cons rfl (Wk.refl _) (WkS.cons rfl (Wk.refl _) (WkS.cons rfl (Wk.refl _) (WkS.nil))))))) (List.Perm.refl _) (List.Perm.refl _))
      · replace hm := yes_f hg9 hm
        refine p_skip rfl rfl rfl ?_
        refine p_skip rfl rfl rfl ?_
        refine p_skip rfl rfl rfl ?_
        refine p_pickF rfl rfl rfl rfl rfl rfl ?_
        refine p_pure htab rfl rfl rfl rfl ?_
        refine ops_nil ?_
        have e8 := yes_eq hm; subst e8
        refine ⟨rfl, ?_⟩
        exact WkX.of () (WkS.perm (WkS.cons rfl (Wk.refl _) (WkS.cons rfl (Wk.refl _) (WkS.cons rfl (Wk.refl _) (WkS.cons rfl (Wk.refl _) (WkS.cons rfl (Wk.refl _) (WkS.cons rfl (Wk.refl _) (WkS.nil))))))) (List.Perm.refl _) (List.Perm.refl _))
    · intro s8 hw8; clear hm; have hm := ho8; clear q8 ho8
      refine then_normal ?_
      refine wpD_wkX hw8 (fun z8 => ?_)
      refine wpD_seq ?_
      refine wpD_seq ?_
      refine wpD_region ?_
      refine p_pure htab rfl rfl rfl rfl ?_
      refine ops_nil ?_
      refine then_normal ?_
      refine wpD_block ?_
      refine wpD_seq ?_
      refine wpD_region ?_
      refine p_pure htab rfl rfl rfl rfl ?_
      refine p_pure htab rfl rfl rfl rfl ?_
      refine ops_nil ?_
      refine then_normal ?_
      refine wpD_cond rfl (fun hc10 => ?_) (fun hc10 => ?_)
      · replace hm := yes_t hc10 hm
        refine wpD_seq ?_
        refine wpD_region ?_
        refine p_pure htab rfl rfl rfl rfl ?_
        refine p_load 0 htab rfl rfl rfl rfl rfl rfl rfl rfl ?_
        refine p_pure htab rfl rfl rfl rfl ?_
        refine p_load 1 htab rfl rfl rfl rfl rfl rfl rfl rfl ?_
        refine p_pure htab rfl rfl rfl rfl ?_
        refine p_pure htab rfl rfl rfl rfl ?_
        refine p_load 0 htab rfl rfl rfl rfl rfl rfl rfl rfl ?_
        refine p_pure htab rfl rfl rfl rfl ?_
        refine p_load 1 htab rfl rfl rfl rfl rfl rfl rfl rfl ?_
        refine p_pure htab rfl rfl rfl rfl ?_
        obtain ⟨x11, q11, hm⟩ := yes_bind hm
        refine p_call0 (reckon_truth_ok (decide (a1.gHi < a2.gLo)) (decide (a2.gHi ≤ a1.gLo)) x11 q11) rfl rfl rfl rfl rfl (WkL.refl _) ?_
        rintro _ rfl
        refine p_store (ds' := [.v (.bool x11.gSome), .v (.int .i64 x11.gLo), .v (.int .i64 x11.gHi)]) (h' := [(b1, Blk.cells [.v (.bool a1.gSome), .v (.int .i64 a1.gLo), .v (.int .i64 a1.gHi)] 23), (b2, Blk.cells [.v (.bool a2.gSome), .v (.int .i64 a2.gLo), .v (.int .i64 a2.gHi)] 23), (b3, Blk.cells [.v (.bool x11.gSome), .v (.int .i64 x11.gLo), .v (.int .i64 x11.gHi)] 23)]) 2 htab rfl rfl rfl rfl rfl rfl rfl rfl rfl rfl rfl rfl ?_
        refine ops_nil ?_
        refine then_normal ?_
        refine wpD_ret ?_
        refine block_ret ?_
        refine then_ret ?_
        have er12 := yes_eq hm; subst er12
        refine retX.of (s' := ⟨[(6, .ptr b3 0)], [(b3, Blk.cells [.v (.bool x11.gSome), .v (.int .i64 x11.gLo), .v (.int .i64 x11.gHi)] 23)], []⟩) (WkS.perm (WkS.cons rfl (Wk.refl _) (WkS.nil)) ((perm_at (j := 2) rfl).trans (List.Perm.cons _ (List.Perm.refl _))) (List.Perm.refl _)) (retD_mk (hh := []) (.inl rfl) (resL_cons (resOne_cell 0 rfl rfl rfl rfl) (resL_nil)) (List.nil_sublist _) (List.Sublist.refl _) ?_)
        exact ⟨rfl, rfl, rfl⟩
      · replace hm := yes_f hc10 hm
        refine wpD_seq ?_
        refine wpD_region ?_
        refine p_pure htab rfl rfl rfl rfl ?_
        refine p_pure htab rfl rfl rfl rfl ?_
        refine ops_nil ?_
        refine then_normal ?_
        refine wpD_cond rfl (fun hc13 => ?_) (fun hc13 => ?_)
        · replace hm := yes_t hc13 hm
          refine wpD_seq ?_
          refine wpD_region ?_
          refine p_pure htab rfl rfl rfl rfl ?_
          refine p_load 0 htab rfl rfl rfl rfl rfl rfl rfl rfl ?_
          refine p_pure htab rfl rfl rfl rfl ?_
          refine p_load 1 htab rfl rfl rfl rfl rfl rfl rfl rfl ?_
          refine p_pure htab rfl rfl rfl rfl ?_
          refine p_pure htab rfl rfl rfl rfl ?_
          refine p_load 0 htab rfl rfl rfl rfl rfl rfl rfl rfl ?_
          refine p_pure htab rfl rfl rfl rfl ?_
          refine p_load 1 htab rfl rfl rfl rfl rfl rfl rfl rfl ?_
          refine p_pure htab rfl rfl rfl rfl ?_
          obtain ⟨x14, q14, hm⟩ := yes_bind hm
          refine p_call0 (reckon_truth_ok (decide (a1.gHi ≤ a2.gLo)) (decide (a2.gHi < a1.gLo)) x14 q14) rfl rfl rfl rfl rfl (WkL.refl _) ?_
          rintro _ rfl
          refine p_store (ds' := [.v (.bool x14.gSome), .v (.int .i64 x14.gLo), .v (.int .i64 x14.gHi)]) (h' := [(b1, Blk.cells [.v (.bool a1.gSome), .v (.int .i64 a1.gLo), .v (.int .i64 a1.gHi)] 23), (b2, Blk.cells [.v (.bool a2.gSome), .v (.int .i64 a2.gLo), .v (.int .i64 a2.gHi)] 23), (b3, Blk.cells [.v (.bool x14.gSome), .v (.int .i64 x14.gLo), .v (.int .i64 x14.gHi)] 23)]) 2 htab rfl rfl rfl rfl rfl rfl rfl rfl rfl rfl rfl rfl ?_
          refine ops_nil ?_
          refine then_normal ?_
          refine wpD_ret ?_
          refine block_ret ?_
          refine then_ret ?_
          have er15 := yes_eq hm; subst er15
          refine retX.of (s' := ⟨[(6, .ptr b3 0)], [(b3, Blk.cells [.v (.bool x14.gSome), .v (.int .i64 x14.gLo), .v (.int .i64 x14.gHi)] 23)], []⟩) (WkS.perm (WkS.cons rfl (Wk.refl _) (WkS.nil)) ((perm_at (j := 2) rfl).trans (List.Perm.cons _ (List.Perm.refl _))) (List.Perm.refl _)) (retD_mk (hh := []) (.inl rfl) (resL_cons (resOne_cell 0 rfl rfl rfl rfl) (resL_nil)) (List.nil_sublist _) (List.Sublist.refl _) ?_)
          exact ⟨rfl, rfl, rfl⟩
        · replace hm := yes_f hc13 hm
          refine wpD_seq ?_
          refine wpD_region ?_
          refine p_pure htab rfl rfl rfl rfl ?_
          refine p_pure htab rfl rfl rfl rfl ?_
          refine ops_nil ?_
          refine then_normal ?_
          refine wpD_cond rfl (fun hc16 => ?_) (fun hc16 => ?_)
          · replace hm := yes_t hc16 hm
            refine wpD_seq ?_
            refine wpD_region ?_
            refine p_pure htab rfl rfl rfl rfl ?_
            refine p_pure htab rfl rfl rfl rfl ?_
            obtain ⟨x17, q17, hm⟩ := yes_bind hm
            refine p_call0 (reckon_truth_ok y8 y5 x17 q17) rfl rfl rfl rfl rfl (WkL.refl _) ?_
            rintro _ rfl
            refine p_store (ds' := [.v (.bool x17.gSome), .v (.int .i64 x17.gLo), .v (.int .i64 x17.gHi)]) (h' := [(b1, Blk.cells [.v (.bool a1.gSome), .v (.int .i64 a1.gLo), .v (.int .i64 a1.gHi)] 23), (b2, Blk.cells [.v (.bool a2.gSome), .v (.int .i64 a2.gLo), .v (.int .i64 a2.gHi)] 23), (b3, Blk.cells [.v (.bool x17.gSome), .v (.int .i64 x17.gLo), .v (.int .i64 x17.gHi)] 23)]) 2 htab rfl rfl rfl rfl rfl rfl rfl rfl rfl rfl rfl rfl ?_
            refine ops_nil ?_
            refine then_normal ?_
            refine wpD_ret ?_
            refine block_ret ?_
            refine then_ret ?_
            have er18 := yes_eq hm; subst er18
            refine retX.of (s' := ⟨[(6, .ptr b3 0)], [(b3, Blk.cells [.v (.bool x17.gSome), .v (.int .i64 x17.gLo), .v (.int .i64 x17.gHi)] 23)], []⟩) (WkS.perm (WkS.cons rfl (Wk.refl _) (WkS.nil)) ((perm_at (j := 2) rfl).trans (List.Perm.cons _ (List.Perm.refl _))) (List.Perm.refl _)) (retD_mk (hh := []) (.inl rfl) (resL_cons (resOne_cell 0 rfl rfl rfl rfl) (resL_nil)) (List.nil_sublist _) (List.Sublist.refl _) ?_)
            exact ⟨rfl, rfl, rfl⟩
          · replace hm := yes_f hc16 hm
            refine wpD_seq ?_
            refine wpD_region ?_
            refine p_pure htab rfl rfl rfl rfl ?_
            refine p_pure htab rfl rfl rfl rfl ?_
            refine ops_nil ?_
            refine then_normal ?_
            refine wpD_cond rfl (fun hc19 => ?_) (fun hc19 => ?_)
            · replace hm := yes_t hc19 hm
              refine wpD_seq ?_
              refine wpD_region ?_
              refine p_pure htab rfl rfl rfl rfl ?_
              refine p_pure htab rfl rfl rfl rfl ?_
              obtain ⟨x20, q20, hm⟩ := yes_bind hm
              refine p_call0 (reckon_truth_ok y5 y8 x20 q20) rfl rfl rfl rfl rfl (WkL.refl _) ?_
              rintro _ rfl
              refine p_store (ds' := [.v (.bool x20.gSome), .v (.int .i64 x20.gLo), .v (.int .i64 x20.gHi)]) (h' := [(b1, Blk.cells [.v (.bool a1.gSome), .v (.int .i64 a1.gLo), .v (.int .i64 a1.gHi)] 23), (b2, Blk.cells [.v (.bool a2.gSome), .v (.int .i64 a2.gLo), .v (.int .i64 a2.gHi)] 23), (b3, Blk.cells [.v (.bool x20.gSome), .v (.int .i64 x20.gLo), .v (.int .i64 x20.gHi)] 23)]) 2 htab rfl rfl rfl rfl rfl rfl rfl rfl rfl rfl rfl rfl ?_
              refine ops_nil ?_
              refine then_normal ?_
              refine wpD_ret ?_
              refine block_ret ?_
              refine then_ret ?_
              have er21 := yes_eq hm; subst er21
              refine retX.of (s' := ⟨[(6, .ptr b3 0)], [(b3, Blk.cells [.v (.bool x20.gSome), .v (.int .i64 x20.gLo), .v (.int .i64 x20.gHi)] 23)], []⟩) (WkS.perm (WkS.cons rfl (Wk.refl _) (WkS.nil)) ((perm_at (j := 2) rfl).trans (List.Perm.cons _ (List.Perm.refl _))) (List.Perm.refl _)) (retD_mk (hh := []) (.inl rfl) (resL_cons (resOne_cell 0 rfl rfl rfl rfl) (resL_nil)) (List.nil_sublist _) (List.Sublist.refl _) ?_)
              exact ⟨rfl, rfl, rfl⟩
            · replace hm := yes_f hc19 hm
              refine wpD_seq ?_
              refine wpD_region ?_
              refine p_pure htab rfl rfl rfl rfl ?_
              refine p_pure htab rfl rfl rfl rfl ?_
              refine ops_nil ?_
              refine then_normal ?_
              refine wpD_cond rfl (fun hc22 => ?_) (fun hc22 => ?_)
              · replace hm := yes_t hc22 hm
                refine wpD_seq ?_
                obtain ⟨x23, q23, hm⟩ := yes_bind hm
                refine bycB (!x23) (fun hs24 => ?_) (fun hs24 => ?_)
                · replace hm := yes_t hs24 hm
                  obtain ⟨x25, q25, hm⟩ := yes_bind hm
                  obtain ⟨x26, q26, hm⟩ := yes_bind hm
                  refine bycB x26 (fun hs27 => ?_) (fun hs27 => ?_)
                  · replace hm := yes_t hs27 hm
                    refine wpD_draws 14 [] [[],[0],[0,1],[0,1],[0,1],[0,1,4],[0,1,4,5],[0,1,4,5],[],[0,1,4,5,8],[0,1,4,5,8,9],[0,1,4,5,8,9],[0,1,4,5,8,9],[0,1,4,5,8,9]] [0,1,4,5,8,9] [[],[0],[0,1],[0,1,2],[0,1,2,3],[0,1,2,3,4],[0,1,2,3,4,5],[0,1,2,3,4,5,6],[],[0,1,2,3,4,5,8],[0,1,2,3,4,5,8,9],[0,1,2,3,4,5,8,9,10],[0,1,2,3,4,5,8,9,10,11],[0,1,2,3,4,5,8,9,10,11,12],[0,1,2,3,4,5,6,7,8,9,10,11,12,13],[0,1,2,3,4,5,6,7,8,9,10,11,12,13,14]] (by kernel_rfl) (by kernel_rfl) (by kernel_rfl) (by rfl) (by rfl) (by kernel_rfl) ?_
                    apply Exists.intro
                    apply Exists.intro
                    apply Exists.intro
                    apply Exists.intro
                    apply Exists.intro
                    apply Exists.intro
                    intro bs
                    refine z_eM rfl rfl (xm_load (d := eTApiSpan a1) 0 htab rfl rfl rfl rfl rfl) rfl rfl rfl rfl rfl rfl ?_
                    refine z_call rfl rfl (span_Has_ok a1 (0 : Int) x23 q23) rfl rfl (WkL.refl _) rfl rfl rfl rfl rfl rfl ?_
                    refine z_q rfl rfl (ex_pure htab rfl) rfl rfl rfl rfl rfl rfl ?_
                    refine z_q rfl rfl (ex_pure htab rfl) rfl rfl rfl rfl rfl rfl ?_
                    refine z_known (j := 73) (b' := true) rfl hs24 ?_
                    refine z_eM rfl rfl (xm_load (d := eTApiSpan a2) 1 htab rfl rfl rfl rfl rfl) rfl rfl rfl rfl rfl rfl ?_
                    refine z_call rfl rfl (span_Has_ok a2 (0 : Int) x25 q25) rfl rfl (WkL.refl _) rfl rfl rfl rfl rfl rfl ?_
                    refine z_q rfl rfl (ex_pure htab rfl) rfl rfl rfl rfl rfl rfl ?_
                    refine z_q rfl rfl (x_pickT rfl rfl rfl) rfl rfl rfl rfl rfl rfl ?_
                    refine z_eM rfl rfl (xm_load (d := eTApiSpan a1) 0 htab rfl rfl rfl rfl rfl) rfl rfl rfl rfl rfl rfl ?_
                    refine z_call rfl rfl (reckon_alone_ok a1 (0 : Int) x26 q26) rfl rfl (WkL.refl _) rfl rfl rfl rfl rfl rfl ?_
                    refine z_q rfl rfl (ex_pure htab rfl) rfl rfl rfl rfl rfl rfl ?_
                    refine z_known (j := 80) (b' := true) rfl hs27 ?_
                    refine z_skip rfl rfl rfl rfl ?_
                    refine z_skip rfl rfl rfl rfl ?_
                    refine z_q rfl rfl (x_pickT rfl rfl rfl) rfl rfl rfl rfl rfl rfl ?_
                    refine z_nil rfl rfl (fun e he => by simp [isAl] at he) ?_
                    obtain ⟨x28, q28, hm⟩ := yes_bind hm
                    refine p_call0 (reckon_truth_ok (!x25) true x28 q28) rfl rfl rfl rfl rfl (WkL.refl _) ?_
                    rintro _ rfl
                    refine p_store (ds' := [.v (.bool x28.gSome), .v (.int .i64 x28.gLo), .v (.int .i64 x28.gHi)]) (h' := [(b1, Blk.cells [.v (.bool a1.gSome), .v (.int .i64 a1.gLo), .v (.int .i64 a1.gHi)] 23), (b2, Blk.cells [.v (.bool a2.gSome), .v (.int .i64 a2.gLo), .v (.int .i64 a2.gHi)] 23), (b3, Blk.cells [.v (.bool x28.gSome), .v (.int .i64 x28.gLo), .v (.int .i64 x28.gHi)] 23)]) 2 htab rfl rfl rfl rfl rfl rfl rfl rfl rfl rfl rfl rfl ?_
                    refine ops_nil ?_
                    refine then_normal ?_
                    refine wpD_ret ?_
                    refine block_ret ?_
                    refine then_ret ?_
                    have er29 := yes_eq hm; subst er29
                    refine retX.of (s' := ⟨[(6, .ptr b3 0)], [(b3, Blk.cells [.v (.bool x28.gSome), .v (.int .i64 x28.gLo), .v (.int .i64 x28.gHi)] 23)], []⟩) (WkS.perm (WkS.cons rfl (Wk.refl _) (WkS.nil)) ((perm_at (j := 2) rfl).trans (List.Perm.cons _ (List.Perm.refl _))) (List.Perm.refl _)) (retD_mk (hh := []) (.inl rfl) (resL_cons (resOne_cell 0 rfl rfl rfl rfl) (resL_nil)) (List.nil_sublist _) (List.Sublist.refl _) ?_)
                    exact ⟨rfl, rfl, rfl⟩
                  · replace hm := yes_f hs27 hm
                    obtain ⟨x30, q30, hm⟩ := yes_bind hm
                    refine wpD_draws 14 [] [[],[0],[0,1],[0,1],[0,1],[0,1,4],[0,1,4,5],[0,1,4,5],[],[0,1,4,5,8],[0,1,4,5,8,9],[0,1,4,5,8,9],[0,1,4,5,8,9,11],[0,1,4,5,8,9,11,12]] [0,1,4,5,8,9,11,12] [[],[0],[0,1],[0,1,2],[0,1,2,3],[0,1,2,3,4],[0,1,2,3,4,5],[0,1,2,3,4,5,6],[],[0,1,2,3,4,5,8],[0,1,2,3,4,5,8,9],[0,1,2,3,4,5,8,9,10],[0,1,2,3,4,5,8,9,10,11],[0,1,2,3,4,5,8,9,10,11,12],[0,1,2,3,4,5,6,7,8,9,10,11,12,13],[0,1,2,3,4,5,6,7,8,9,10,11,12,13,14]] (by kernel_rfl) (by kernel_rfl) (by kernel_rfl) (by rfl) (by rfl) (by kernel_rfl) ?_
                    apply Exists.intro
                    apply Exists.intro
                    apply Exists.intro
                    apply Exists.intro
                    apply Exists.intro
                    apply Exists.intro
                    apply Exists.intro
                    apply Exists.intro
                    intro bs
                    refine z_eM rfl rfl (xm_load (d := eTApiSpan a1) 0 htab rfl rfl rfl rfl rfl) rfl rfl rfl rfl rfl rfl ?_
                    refine z_call rfl rfl (span_Has_ok a1 (0 : Int) x23 q23) rfl rfl (WkL.refl _) rfl rfl rfl rfl rfl rfl ?_
                    refine z_q rfl rfl (ex_pure htab rfl) rfl rfl rfl rfl rfl rfl ?_
                    refine z_q rfl rfl (ex_pure htab rfl) rfl rfl rfl rfl rfl rfl ?_
                    refine z_known (j := 73) (b' := true) rfl hs24 ?_
                    refine z_eM rfl rfl (xm_load (d := eTApiSpan a2) 1 htab rfl rfl rfl rfl rfl) rfl rfl rfl rfl rfl rfl ?_
                    refine z_call rfl rfl (span_Has_ok a2 (0 : Int) x25 q25) rfl rfl (WkL.refl _) rfl rfl rfl rfl rfl rfl ?_
                    refine z_q rfl rfl (ex_pure htab rfl) rfl rfl rfl rfl rfl rfl ?_
                    refine z_q rfl rfl (x_pickT rfl rfl rfl) rfl rfl rfl rfl rfl rfl ?_
                    refine z_eM rfl rfl (xm_load (d := eTApiSpan a1) 0 htab rfl rfl rfl rfl rfl) rfl rfl rfl rfl rfl rfl ?_
                    refine z_call rfl rfl (reckon_alone_ok a1 (0 : Int) x26 q26) rfl rfl (WkL.refl _) rfl rfl rfl rfl rfl rfl ?_
                    refine z_q rfl rfl (ex_pure htab rfl) rfl rfl rfl rfl rfl rfl ?_
                    refine z_known (j := 80) (b' := false) rfl hs27 ?_
                    refine z_eM rfl rfl (xm_load (d := eTApiSpan a2) 1 htab rfl rfl rfl rfl rfl) rfl rfl rfl rfl rfl rfl ?_
                    refine z_call rfl rfl (reckon_alone_ok a2 (0 : Int) x30 q30) rfl rfl (WkL.refl _) rfl rfl rfl rfl rfl rfl ?_
                    refine z_q rfl rfl (x_pickF rfl rfl rfl) rfl rfl rfl rfl rfl rfl ?_
                    refine z_nil rfl rfl (fun e he => by simp [isAl] at he) ?_
                    obtain ⟨x31, q31, hm⟩ := yes_bind hm
                    refine p_call0 (reckon_truth_ok (!x25) x30 x31 q31) rfl rfl rfl rfl rfl (WkL.refl _) ?_
                    rintro _ rfl
                    refine p_store (ds' := [.v (.bool x31.gSome), .v (.int .i64 x31.gLo), .v (.int .i64 x31.gHi)]) (h' := [(b1, Blk.cells [.v (.bool a1.gSome), .v (.int .i64 a1.gLo), .v (.int .i64 a1.gHi)] 23), (b2, Blk.cells [.v (.bool a2.gSome), .v (.int .i64 a2.gLo), .v (.int .i64 a2.gHi)] 23), (b3, Blk.cells [.v (.bool x31.gSome), .v (.int .i64 x31.gLo), .v (.int .i64 x31.gHi)] 23)]) 2 htab rfl rfl rfl rfl rfl rfl rfl rfl rfl rfl rfl rfl ?_
                    refine ops_nil ?_
                    refine then_normal ?_
                    refine wpD_ret ?_
                    refine block_ret ?_
                    refine then_ret ?_
                    have er32 := yes_eq hm; subst er32
                    refine retX.of (s' := ⟨[(6, .ptr b3 0)], [(b3, Blk.cells [.v (.bool x31.gSome), .v (.int .i64 x31.gLo), .v (.int .i64 x31.gHi)] 23)], []⟩) (WkS.perm (WkS.cons rfl (Wk.refl _) (WkS.nil)) ((perm_at (j := 2) rfl).trans (List.Perm.cons _ (List.Perm.refl _))) (List.Perm.refl _)) (retD_mk (hh := []) (.inl rfl) (resL_cons (resOne_cell 0 rfl rfl rfl rfl) (resL_nil)) (List.nil_sublist _) (List.Sublist.refl _) ?_)
                    exact ⟨rfl, rfl, rfl⟩
                · replace hm := yes_f hs24 hm
                  obtain ⟨x33, q33, hm⟩ := yes_bind hm
                  refine bycB x33 (fun hs34 => ?_) (fun hs34 => ?_)
                  · replace hm := yes_t hs34 hm
                    refine wpD_draws 14 [] [[],[0],[0,1],[0,1],[0,1],[0,1],[0,1],[0,1],[],[0,1,8],[0,1,8,9],[0,1,8,9],[0,1,8,9],[0,1,8,9]] [0,1,8,9] [[],[0],[0,1],[0,1,2],[0,1,2,3],[0,1,2,3,4],[0,1,2,3,4,5],[0,1,2,3,4,5,6],[],[0,1,2,3,4,5,8],[0,1,2,3,4,5,8,9],[0,1,2,3,4,5,8,9,10],[0,1,2,3,4,5,8,9,10,11],[0,1,2,3,4,5,8,9,10,11,12],[0,1,2,3,4,5,6,7,8,9,10,11,12,13],[0,1,2,3,4,5,6,7,8,9,10,11,12,13,14]] (by kernel_rfl) (by kernel_rfl) (by kernel_rfl) (by rfl) (by rfl) (by kernel_rfl) ?_
                    apply Exists.intro
                    apply Exists.intro
                    apply Exists.intro
                    apply Exists.intro
                    intro bs
                    refine z_eM rfl rfl (xm_load (d := eTApiSpan a1) 0 htab rfl rfl rfl rfl rfl) rfl rfl rfl rfl rfl rfl ?_
                    refine z_call rfl rfl (span_Has_ok a1 (0 : Int) x23 q23) rfl rfl (WkL.refl _) rfl rfl rfl rfl rfl rfl ?_
                    refine z_q rfl rfl (ex_pure htab rfl) rfl rfl rfl rfl rfl rfl ?_
                    refine z_q rfl rfl (ex_pure htab rfl) rfl rfl rfl rfl rfl rfl ?_
                    refine z_known (j := 73) (b' := false) rfl hs24 ?_
                    refine z_skip rfl rfl rfl rfl ?_
                    refine z_skip rfl rfl rfl rfl ?_
                    refine z_skip rfl rfl rfl rfl ?_
                    refine z_q rfl rfl (x_pickF rfl rfl rfl) rfl rfl rfl rfl rfl rfl ?_
                    refine z_eM rfl rfl (xm_load (d := eTApiSpan a1) 0 htab rfl rfl rfl rfl rfl) rfl rfl rfl rfl rfl rfl ?_
                    refine z_call rfl rfl (reckon_alone_ok a1 (0 : Int) x33 q33) rfl rfl (WkL.refl _) rfl rfl rfl rfl rfl rfl ?_
                    refine z_q rfl rfl (ex_pure htab rfl) rfl rfl rfl rfl rfl rfl ?_
                    refine z_known (j := 80) (b' := true) rfl hs34 ?_
                    refine z_skip rfl rfl rfl rfl ?_
                    refine z_skip rfl rfl rfl rfl ?_
                    refine z_q rfl rfl (x_pickT rfl rfl rfl) rfl rfl rfl rfl rfl rfl ?_
                    refine z_nil rfl rfl (fun e he => by simp [isAl] at he) ?_
                    obtain ⟨x35, q35, hm⟩ := yes_bind hm
                    refine p_call0 (reckon_truth_ok false true x35 q35) rfl rfl rfl rfl rfl (WkL.refl _) ?_
                    rintro _ rfl
                    refine p_store (ds' := [.v (.bool x35.gSome), .v (.int .i64 x35.gLo), .v (.int .i64 x35.gHi)]) (h' := [(b1, Blk.cells [.v (.bool a1.gSome), .v (.int .i64 a1.gLo), .v (.int .i64 a1.gHi)] 23), (b2, Blk.cells [.v (.bool a2.gSome), .v (.int .i64 a2.gLo), .v (.int .i64 a2.gHi)] 23), (b3, Blk.cells [.v (.bool x35.gSome), .v (.int .i64 x35.gLo), .v (.int .i64 x35.gHi)] 23)]) 2 htab rfl rfl rfl rfl rfl rfl rfl rfl rfl rfl rfl rfl ?_
                    refine ops_nil ?_
                    refine then_normal ?_
                    refine wpD_ret ?_
                    refine block_ret ?_
                    refine then_ret ?_
                    have er36 := yes_eq hm; subst er36
                    refine retX.of (s' := ⟨[(6, .ptr b3 0)], [(b3, Blk.cells [.v (.bool x35.gSome), .v (.int .i64 x35.gLo), .v (.int .i64 x35.gHi)] 23)], []⟩) (WkS.perm (WkS.cons rfl (Wk.refl _) (WkS.nil)) ((perm_at (j := 2) rfl).trans (List.Perm.cons _ (List.Perm.refl _))) (List.Perm.refl _)) (retD_mk (hh := []) (.inl rfl) (resL_cons (resOne_cell 0 rfl rfl rfl rfl) (resL_nil)) (List.nil_sublist _) (List.Sublist.refl _) ?_)
                    exact ⟨rfl, rfl, rfl⟩
                  · replace hm := yes_f hs34 hm
                    obtain ⟨x37, q37, hm⟩ := yes_bind hm
                    refine wpD_draws 14 [] [[],[0],[0,1],[0,1],[0,1],[0,1],[0,1],[0,1],[],[0,1,8],[0,1,8,9],[0,1,8,9],[0,1,8,9,11],[0,1,8,9,11,12]] [0,1,8,9,11,12] [[],[0],[0,1],[0,1,2],[0,1,2,3],[0,1,2,3,4],[0,1,2,3,4,5],[0,1,2,3,4,5,6],[],[0,1,2,3,4,5,8],[0,1,2,3,4,5,8,9],[0,1,2,3,4,5,8,9,10],[0,1,2,3,4,5,8,9,10,11],[0,1,2,3,4,5,8,9,10,11,12],[0,1,2,3,4,5,6,7,8,9,10,11,12,13],[0,1,2,3,4,5,6,7,8,9,10,11,12,13,14]] (by kernel_rfl) (by kernel_rfl) (by kernel_rfl) (by rfl) (by rfl) (by kernel_rfl) ?_
                    apply Exists.intro
                    apply Exists.intro
                    apply Exists.intro
                    apply Exists.intro
                    apply Exists.intro
                    apply Exists.intro
                    intro bs
                    refine z_eM rfl rfl (xm_load (d := eTApiSpan a1) 0 htab rfl rfl rfl rfl rfl) rfl rfl rfl rfl rfl rfl ?_
                    refine z_call rfl rfl (span_Has_ok a1 (0 : Int) x23 q23) rfl rfl (WkL.refl _) rfl rfl rfl rfl rfl rfl ?_
                    refine z_q rfl rfl (ex_pure htab rfl) rfl rfl rfl rfl rfl rfl ?_
                    refine z_q rfl rfl (ex_pure htab rfl) rfl rfl rfl rfl rfl rfl ?_
                    refine z_known (j := 73) (b' := false) rfl hs24 ?_
                    refine z_skip rfl rfl rfl rfl ?_
                    refine z_skip rfl rfl rfl rfl ?_
                    refine z_skip rfl rfl rfl rfl ?_
                    refine z_q rfl rfl (x_pickF rfl rfl rfl) rfl rfl rfl rfl rfl rfl ?_
                    refine z_eM rfl rfl (xm_load (d := eTApiSpan a1) 0 htab rfl rfl rfl rfl rfl) rfl rfl rfl rfl rfl rfl ?_
                    refine z_call rfl rfl (reckon_alone_ok a1 (0 : Int) x33 q33) rfl rfl (WkL.refl _) rfl rfl rfl rfl rfl rfl ?_
                    refine z_q rfl rfl (ex_pure htab rfl) rfl rfl rfl rfl rfl rfl ?_
                    refine z_known (j := 80) (b' := false) rfl hs34 ?_
                    refine z_eM rfl rfl (xm_load (d := eTApiSpan a2) 1 htab rfl rfl rfl rfl rfl) rfl rfl rfl rfl rfl rfl ?_
                    refine z_call rfl rfl (reckon_alone_ok a2 (0 : Int) x37 q37) rfl rfl (WkL.refl _) rfl rfl rfl rfl rfl rfl ?_
                    refine z_q rfl rfl (x_pickF rfl rfl rfl) rfl rfl rfl rfl rfl rfl ?_
                    refine z_nil rfl rfl (fun e he => by simp [isAl] at he) ?_
                    obtain ⟨x38, q38, hm⟩ := yes_bind hm
                    refine p_call0 (reckon_truth_ok false x37 x38 q38) rfl rfl rfl rfl rfl (WkL.refl _) ?_
                    rintro _ rfl
                    refine p_store (ds' := [.v (.bool x38.gSome), .v (.int .i64 x38.gLo), .v (.int .i64 x38.gHi)]) (h' := [(b1, Blk.cells [.v (.bool a1.gSome), .v (.int .i64 a1.gLo), .v (.int .i64 a1.gHi)] 23), (b2, Blk.cells [.v (.bool a2.gSome), .v (.int .i64 a2.gLo), .v (.int .i64 a2.gHi)] 23), (b3, Blk.cells [.v (.bool x38.gSome), .v (.int .i64 x38.gLo), .v (.int .i64 x38.gHi)] 23)]) 2 htab rfl rfl rfl rfl rfl rfl rfl rfl rfl rfl rfl rfl ?_
                    refine ops_nil ?_
                    refine then_normal ?_
                    refine wpD_ret ?_
                    refine block_ret ?_
                    refine then_ret ?_
                    have er39 := yes_eq hm; subst er39
                    refine retX.of (s' := ⟨[(6, .ptr b3 0)], [(b3, Blk.cells [.v (.bool x38.gSome), .v (.int .i64 x38.gLo), .v (.int .i64 x38.gHi)] 23)], []⟩) (WkS.perm (WkS.cons rfl (Wk.refl _) (WkS.nil)) ((perm_at (j := 2) rfl).trans (List.Perm.cons _ (List.Perm.refl _))) (List.Perm.refl _)) (retD_mk (hh := []) (.inl rfl) (resL_cons (resOne_cell 0 rfl rfl rfl rfl) (resL_nil)) (List.nil_sublist _) (List.Sublist.refl _) ?_)
                    exact ⟨rfl, rfl, rfl⟩
              · replace hm := yes_f hc22 hm
                refine wpD_seq ?_
                refine wpD_region ?_
                refine p_pure htab rfl rfl rfl rfl ?_
                refine p_pure htab rfl rfl rfl rfl ?_
                refine ops_nil ?_
                refine then_normal ?_
                refine wpD_cond rfl (fun hc40 => ?_) (fun hc40 => ?_)
                · replace hm := yes_t hc40 hm
                  refine wpD_seq ?_
                  obtain ⟨x41, q41, hm⟩ := yes_bind hm
                  refine bycB (!x41) (fun hs42 => ?_) (fun hs42 => ?_)
                  · replace hm := yes_t hs42 hm
                    obtain ⟨x43, q43, hm⟩ := yes_bind hm
                    refine bycB x43 (fun hs44 => ?_) (fun hs44 => ?_)
                    · replace hm := yes_t hs44 hm
                      obtain ⟨x45, q45, hm⟩ := yes_bind hm
                      refine wpD_draws 14 [] [[],[0],[0,1],[0,1],[0,1],[0,1],[0,1],[0,1],[],[0,1,8],[0,1,8,9],[0,1,8,9],[0,1,8,9,11],[0,1,8,9,11,12]] [0,1,8,9,11,12] [[],[0],[0,1],[0,1,2],[0,1,2,3],[0,1,2,3,4],[0,1,2,3,4,5],[0,1,2,3,4,5,6],[],[0,1,2,3,4,5,8],[0,1,2,3,4,5,8,9],[0,1,2,3,4,5,8,9,10],[0,1,2,3,4,5,8,9,10,11],[0,1,2,3,4,5,8,9,10,11,12],[0,1,2,3,4,5,6,7,8,9,10,11,12,13],[0,1,2,3,4,5,6,7,8,9,10,11,12,13,14]] (by kernel_rfl) (by kernel_rfl) (by kernel_rfl) (by rfl) (by rfl) (by kernel_rfl) ?_
                      apply Exists.intro
                      apply Exists.intro
                      apply Exists.intro
                      apply Exists.intro
                      apply Exists.intro
                      apply Exists.intro
                      intro bs
                      refine z_eM rfl rfl (xm_load (d := eTApiSpan a1) 0 htab rfl rfl rfl rfl rfl) rfl rfl rfl rfl rfl rfl ?_
                      refine z_call rfl rfl (span_Has_ok a1 (0 : Int) x41 q41) rfl rfl (WkL.refl _) rfl rfl rfl rfl rfl rfl ?_
                      refine z_q rfl rfl (ex_pure htab rfl) rfl rfl rfl rfl rfl rfl ?_
                      refine z_q rfl rfl (ex_pure htab rfl) rfl rfl rfl rfl rfl rfl ?_
                      refine z_known (j := 90) (b' := true) rfl hs42 ?_
                      refine z_skip rfl rfl rfl rfl ?_
                      refine z_skip rfl rfl rfl rfl ?_
                      refine z_skip rfl rfl rfl rfl ?_
                      refine z_q rfl rfl (x_pickT rfl rfl rfl) rfl rfl rfl rfl rfl rfl ?_
                      refine z_eM rfl rfl (xm_load (d := eTApiSpan a1) 0 htab rfl rfl rfl rfl rfl) rfl rfl rfl rfl rfl rfl ?_
                      refine z_call rfl rfl (reckon_alone_ok a1 (0 : Int) x43 q43) rfl rfl (WkL.refl _) rfl rfl rfl rfl rfl rfl ?_
                      refine z_q rfl rfl (ex_pure htab rfl) rfl rfl rfl rfl rfl rfl ?_
                      refine z_known (j := 97) (b' := true) rfl hs44 ?_
                      refine z_eM rfl rfl (xm_load (d := eTApiSpan a2) 1 htab rfl rfl rfl rfl rfl) rfl rfl rfl rfl rfl rfl ?_
                      refine z_call rfl rfl (reckon_alone_ok a2 (0 : Int) x45 q45) rfl rfl (WkL.refl _) rfl rfl rfl rfl rfl rfl ?_
                      refine z_q rfl rfl (x_pickT rfl rfl rfl) rfl rfl rfl rfl rfl rfl ?_
                      refine z_nil rfl rfl (fun e he => by simp [isAl] at he) ?_
                      obtain ⟨x46, q46, hm⟩ := yes_bind hm
                      refine p_call0 (reckon_truth_ok true x45 x46 q46) rfl rfl rfl rfl rfl (WkL.refl _) ?_
                      rintro _ rfl
                      refine p_store (ds' := [.v (.bool x46.gSome), .v (.int .i64 x46.gLo), .v (.int .i64 x46.gHi)]) (h' := [(b1, Blk.cells [.v (.bool a1.gSome), .v (.int .i64 a1.gLo), .v (.int .i64 a1.gHi)] 23), (b2, Blk.cells [.v (.bool a2.gSome), .v (.int .i64 a2.gLo), .v (.int .i64 a2.gHi)] 23), (b3, Blk.cells [.v (.bool x46.gSome), .v (.int .i64 x46.gLo), .v (.int .i64 x46.gHi)] 23)]) 2 htab rfl rfl rfl rfl rfl rfl rfl rfl rfl rfl rfl rfl ?_
                      refine ops_nil ?_
                      refine then_normal ?_
                      refine wpD_ret ?_
                      refine block_ret ?_
                      refine then_ret ?_
                      have er47 := yes_eq hm; subst er47
                      refine retX.of (s' := ⟨[(6, .ptr b3 0)], [(b3, Blk.cells [.v (.bool x46.gSome), .v (.int .i64 x46.gLo), .v (.int .i64 x46.gHi)] 23)], []⟩) (WkS.perm (WkS.cons rfl (Wk.refl _) (WkS.nil)) ((perm_at (j := 2) rfl).trans (List.Perm.cons _ (List.Perm.refl _))) (List.Perm.refl _)) (retD_mk (hh := []) (.inl rfl) (resL_cons (resOne_cell 0 rfl rfl rfl rfl) (resL_nil)) (List.nil_sublist _) (List.Sublist.refl _) ?_)
                      exact ⟨rfl, rfl, rfl⟩
                    · replace hm := yes_f hs44 hm
                      refine wpD_draws 14 [] [[],[0],[0,1],[0,1],[0,1],[0,1],[0,1],[0,1],[],[0,1,8],[0,1,8,9],[0,1,8,9],[0,1,8,9],[0,1,8,9]] [0,1,8,9] [[],[0],[0,1],[0,1,2],[0,1,2,3],[0,1,2,3,4],[0,1,2,3,4,5],[0,1,2,3,4,5,6],[],[0,1,2,3,4,5,8],[0,1,2,3,4,5,8,9],[0,1,2,3,4,5,8,9,10],[0,1,2,3,4,5,8,9,10,11],[0,1,2,3,4,5,8,9,10,11,12],[0,1,2,3,4,5,6,7,8,9,10,11,12,13],[0,1,2,3,4,5,6,7,8,9,10,11,12,13,14]] (by kernel_rfl) (by kernel_rfl) (by kernel_rfl) (by rfl) (by rfl) (by kernel_rfl) ?_
                      apply Exists.intro
                      apply Exists.intro
                      apply Exists.intro
                      apply Exists.intro
                      intro bs
                      refine z_eM rfl rfl (xm_load (d := eTApiSpan a1) 0 htab rfl rfl rfl rfl rfl) rfl rfl rfl rfl rfl rfl ?_
                      refine z_call rfl rfl (span_Has_ok a1 (0 : Int) x41 q41) rfl rfl (WkL.refl _) rfl rfl rfl rfl rfl rfl ?_
                      refine z_q rfl rfl (ex_pure htab rfl) rfl rfl rfl rfl rfl rfl ?_
                      refine z_q rfl rfl (ex_pure htab rfl) rfl rfl rfl rfl rfl rfl ?_
                      refine z_known (j := 90) (b' := true) rfl hs42 ?_
                      refine z_skip rfl rfl rfl rfl ?_
                      refine z_skip rfl rfl rfl rfl ?_
                      refine z_skip rfl rfl rfl rfl ?_
                      refine z_q rfl rfl (x_pickT rfl rfl rfl) rfl rfl rfl rfl rfl rfl ?_
                      refine z_eM rfl rfl (xm_load (d := eTApiSpan a1) 0 htab rfl rfl rfl rfl rfl) rfl rfl rfl rfl rfl rfl ?_
                      refine z_call rfl rfl (reckon_alone_ok a1 (0 : Int) x43 q43) rfl rfl (WkL.refl _) rfl rfl rfl rfl rfl rfl ?_
                      refine z_q rfl rfl (ex_pure htab rfl) rfl rfl rfl rfl rfl rfl ?_
                      refine z_known (j := 97) (b' := false) rfl hs44 ?_
                      refine z_skip rfl rfl rfl rfl ?_
                      refine z_skip rfl rfl rfl rfl ?_
                      refine z_q rfl rfl (x_pickF rfl rfl rfl) rfl rfl rfl rfl rfl rfl ?_
                      refine z_nil rfl rfl (fun e he => by simp [isAl] at he) ?_
                      obtain ⟨x48, q48, hm⟩ := yes_bind hm
                      refine p_call0 (reckon_truth_ok true false x48 q48) rfl rfl rfl rfl rfl (WkL.refl _) ?_
                      rintro _ rfl
                      refine p_store (ds' := [.v (.bool x48.gSome), .v (.int .i64 x48.gLo), .v (.int .i64 x48.gHi)]) (h' := [(b1, Blk.cells [.v (.bool a1.gSome), .v (.int .i64 a1.gLo), .v (.int .i64 a1.gHi)] 23), (b2, Blk.cells [.v (.bool a2.gSome), .v (.int .i64 a2.gLo), .v (.int .i64 a2.gHi)] 23), (b3, Blk.cells [.v (.bool x48.gSome), .v (.int .i64 x48.gLo), .v (.int .i64 x48.gHi)] 23)]) 2 htab rfl rfl rfl rfl rfl rfl rfl rfl rfl rfl rfl rfl ?_
                      refine ops_nil ?_
                      refine then_normal ?_
                      refine wpD_ret ?_
                      refine block_ret ?_
                      refine then_ret ?_
                      have er49 := yes_eq hm; subst er49
                      refine retX.of (s' := ⟨[(6, .ptr b3 0)], [(b3, Blk.cells [.v (.bool x48.gSome), .v (.int .i64 x48.gLo), .v (.int .i64 x48.gHi)] 23)], []⟩) (WkS.perm (WkS.cons rfl (Wk.refl _) (WkS.nil)) ((perm_at (j := 2) rfl).trans (List.Perm.cons _ (List.Perm.refl _))) (List.Perm.refl _)) (retD_mk (hh := []) (.inl rfl) (resL_cons (resOne_cell 0 rfl rfl rfl rfl) (resL_nil)) (List.nil_sublist _) (List.Sublist.refl _) ?_)
                      exact ⟨rfl, rfl, rfl⟩
                  · replace hm := yes_f hs42 hm
                    obtain ⟨x50, q50, hm⟩ := yes_bind hm
                    obtain ⟨x51, q51, hm⟩ := yes_bind hm
                    refine bycB x51 (fun hs52 => ?_) (fun hs52 => ?_)
                    · replace hm := yes_t hs52 hm
                      obtain ⟨x53, q53, hm⟩ := yes_bind hm
                      refine wpD_draws 14 [] [[],[0],[0,1],[0,1],[0,1],[0,1,4],[0,1,4,5],[0,1,4,5],[],[0,1,4,5,8],[0,1,4,5,8,9],[0,1,4,5,8,9],[0,1,4,5,8,9,11],[0,1,4,5,8,9,11,12]] [0,1,4,5,8,9,11,12] [[],[0],[0,1],[0,1,2],[0,1,2,3],[0,1,2,3,4],[0,1,2,3,4,5],[0,1,2,3,4,5,6],[],[0,1,2,3,4,5,8],[0,1,2,3,4,5,8,9],[0,1,2,3,4,5,8,9,10],[0,1,2,3,4,5,8,9,10,11],[0,1,2,3,4,5,8,9,10,11,12],[0,1,2,3,4,5,6,7,8,9,10,11,12,13],[0,1,2,3,4,5,6,7,8,9,10,11,12,13,14]] (by kernel_rfl) (by kernel_rfl) (by kernel_rfl) (by rfl) (by rfl) (by kernel_rfl) ?_
                      apply Exists.intro
                      apply Exists.intro
                      apply Exists.intro
                      apply Exists.intro
                      apply Exists.intro
                      apply Exists.intro
                      apply Exists.intro
                      apply Exists.intro
                      intro bs
                      refine z_eM rfl rfl (xm_load (d := eTApiSpan a1) 0 htab rfl rfl rfl rfl rfl) rfl rfl rfl rfl rfl rfl ?_
                      refine z_call rfl rfl (span_Has_ok a1 (0 : Int) x41 q41) rfl rfl (WkL.refl _) rfl rfl rfl rfl rfl rfl ?_
                      refine z_q rfl rfl (ex_pure htab rfl) rfl rfl rfl rfl rfl rfl ?_
                      refine z_q rfl rfl (ex_pure htab rfl) rfl rfl rfl rfl rfl rfl ?_
                      refine z_known (j := 90) (b' := false) rfl hs42 ?_
                      refine z_eM rfl rfl (xm_load (d := eTApiSpan a2) 1 htab rfl rfl rfl rfl rfl) rfl rfl rfl rfl rfl rfl ?_
                      refine z_call rfl rfl (span_Has_ok a2 (0 : Int) x50 q50) rfl rfl (WkL.refl _) rfl rfl rfl rfl rfl rfl ?_
                      refine z_q rfl rfl (ex_pure htab rfl) rfl rfl rfl rfl rfl rfl ?_
                      refine z_q rfl rfl (x_pickF rfl rfl rfl) rfl rfl rfl rfl rfl rfl ?_
                      refine z_eM rfl rfl (xm_load (d := eTApiSpan a1) 0 htab rfl rfl rfl rfl rfl) rfl rfl rfl rfl rfl rfl ?_
                      refine z_call rfl rfl (reckon_alone_ok a1 (0 : Int) x51 q51) rfl rfl (WkL.refl _) rfl rfl rfl rfl rfl rfl ?_
                      refine z_q rfl rfl (ex_pure htab rfl) rfl rfl rfl rfl rfl rfl ?_
                      refine z_known (j := 97) (b' := true) rfl hs52 ?_
                      refine z_eM rfl rfl (xm_load (d := eTApiSpan a2) 1 htab rfl rfl rfl rfl rfl) rfl rfl rfl rfl rfl rfl ?_
                      refine z_call rfl rfl (reckon_alone_ok a2 (0 : Int) x53 q53) rfl rfl (WkL.refl _) rfl rfl rfl rfl rfl rfl ?_
                      refine z_q rfl rfl (x_pickT rfl rfl rfl) rfl rfl rfl rfl rfl rfl ?_
                      refine z_nil rfl rfl (fun e he => by simp [isAl] at he) ?_
                      obtain ⟨x54, q54, hm⟩ := yes_bind hm
                      refine p_call0 (reckon_truth_ok (!x50) x53 x54 q54) rfl rfl rfl rfl rfl (WkL.refl _) ?_
                      rintro _ rfl
                      refine p_store (ds' := [.v (.bool x54.gSome), .v (.int .i64 x54.gLo), .v (.int .i64 x54.gHi)]) (h' := [(b1, Blk.cells [.v (.bool a1.gSome), .v (.int .i64 a1.gLo), .v (.int .i64 a1.gHi)] 23), (b2, Blk.cells [.v (.bool a2.gSome), .v (.int .i64 a2.gLo), .v (.int .i64 a2.gHi)] 23), (b3, Blk.cells [.v (.bool x54.gSome), .v (.int .i64 x54.gLo), .v (.int .i64 x54.gHi)] 23)]) 2 htab rfl rfl rfl rfl rfl rfl rfl rfl rfl rfl rfl rfl ?_
                      refine ops_nil ?_
                      refine then_normal ?_
                      refine wpD_ret ?_
                      refine block_ret ?_
                      refine then_ret ?_
                      have er55 := yes_eq hm; subst er55
                      refine retX.of (s' := ⟨[(6, .ptr b3 0)], [(b3, Blk.cells [.v (.bool x54.gSome), .v (.int .i64 x54.gLo), .v (.int .i64 x54.gHi)] 23)], []⟩) (WkS.perm (WkS.cons rfl (Wk.refl _) (WkS.nil)) ((perm_at (j := 2) rfl).trans (List.Perm.cons _ (List.Perm.refl _))) (List.Perm.refl _)) (retD_mk (hh := []) (.inl rfl) (resL_cons (resOne_cell 0 rfl rfl rfl rfl) (resL_nil)) (List.nil_sublist _) (List.Sublist.refl _) ?_)
                      exact ⟨rfl, rfl, rfl⟩
                    · replace hm := yes_f hs52 hm
                      refine wpD_draws 14 [] [[],[0],[0,1],[0,1],[0,1],[0,1,4],[0,1,4,5],[0,1,4,5],[],[0,1,4,5,8],[0,1,4,5,8,9],[0,1,4,5,8,9],[0,1,4,5,8,9],[0,1,4,5,8,9]] [0,1,4,5,8,9] [[],[0],[0,1],[0,1,2],[0,1,2,3],[0,1,2,3,4],[0,1,2,3,4,5],[0,1,2,3,4,5,6],[],[0,1,2,3,4,5,8],[0,1,2,3,4,5,8,9],[0,1,2,3,4,5,8,9,10],[0,1,2,3,4,5,8,9,10,11],[0,1,2,3,4,5,8,9,10,11,12],[0,1,2,3,4,5,6,7,8,9,10,11,12,13],[0,1,2,3,4,5,6,7,8,9,10,11,12,13,14]] (by kernel_rfl) (by kernel_rfl) (by kernel_rfl) (by rfl) (by rfl) (by kernel_rfl) ?_
                      apply Exists.intro
                      apply Exists.intro
                      apply Exists.intro
                      apply Exists.intro
                      apply Exists.intro
                      apply Exists.intro
                      intro bs
                      refine z_eM rfl rfl (xm_load (d := eTApiSpan a1) 0 htab rfl rfl rfl rfl rfl) rfl rfl rfl rfl rfl rfl ?_
                      refine z_call rfl rfl (span_Has_ok a1 (0 : Int) x41 q41) rfl rfl (WkL.refl _) rfl rfl rfl rfl rfl rfl ?_
                      refine z_q rfl rfl (ex_pure htab rfl) rfl rfl rfl rfl rfl rfl ?_
                      refine z_q rfl rfl (ex_pure htab rfl) rfl rfl rfl rfl rfl rfl ?_
                      refine z_known (j := 90) (b' := false) rfl hs42 ?_
                      refine z_eM rfl rfl (xm_load (d := eTApiSpan a2) 1 htab rfl rfl rfl rfl rfl) rfl rfl rfl rfl rfl rfl ?_
                      refine z_call rfl rfl (span_Has_ok a2 (0 : Int) x50 q50) rfl rfl (WkL.refl _) rfl rfl rfl rfl rfl rfl ?_
                      refine z_q rfl rfl (ex_pure htab rfl) rfl rfl rfl rfl rfl rfl ?_
                      refine z_q rfl rfl (x_pickF rfl rfl rfl) rfl rfl rfl rfl rfl rfl ?_
                      refine z_eM rfl rfl (xm_load (d := eTApiSpan a1) 0 htab rfl rfl rfl rfl rfl) rfl rfl rfl rfl rfl rfl ?_
                      refine z_call rfl rfl (reckon_alone_ok a1 (0 : Int) x51 q51) rfl rfl (WkL.refl _) rfl rfl rfl rfl rfl rfl ?_
                      refine z_q rfl rfl (ex_pure htab rfl) rfl rfl rfl rfl rfl rfl ?_
                      refine z_known (j := 97) (b' := false) rfl hs52 ?_
                      refine z_skip rfl rfl rfl rfl ?_
                      refine z_skip rfl rfl rfl rfl ?_
                      refine z_q rfl rfl (x_pickF rfl rfl rfl) rfl rfl rfl rfl rfl rfl ?_
                      refine z_nil rfl rfl (fun e he => by simp [isAl] at he) ?_
                      obtain ⟨x56, q56, hm⟩ := yes_bind hm
                      refine p_call0 (reckon_truth_ok (!x50) false x56 q56) rfl rfl rfl rfl rfl (WkL.refl _) ?_
                      rintro _ rfl
                      refine p_store (ds' := [.v (.bool x56.gSome), .v (.int .i64 x56.gLo), .v (.int .i64 x56.gHi)]) (h' := [(b1, Blk.cells [.v (.bool a1.gSome), .v (.int .i64 a1.gLo), .v (.int .i64 a1.gHi)] 23), (b2, Blk.cells [.v (.bool a2.gSome), .v (.int .i64 a2.gLo), .v (.int .i64 a2.gHi)] 23), (b3, Blk.cells [.v (.bool x56.gSome), .v (.int .i64 x56.gLo), .v (.int .i64 x56.gHi)] 23)]) 2 htab rfl rfl rfl rfl rfl rfl rfl rfl rfl rfl rfl rfl ?_
                      refine ops_nil ?_
                      refine then_normal ?_
                      refine wpD_ret ?_
                      refine block_ret ?_
                      refine then_ret ?_
                      have er57 := yes_eq hm; subst er57
                      refine retX.of (s' := ⟨[(6, .ptr b3 0)], [(b3, Blk.cells [.v (.bool x56.gSome), .v (.int .i64 x56.gLo), .v (.int .i64 x56.gHi)] 23)], []⟩) (WkS.perm (WkS.cons rfl (Wk.refl _) (WkS.nil)) ((perm_at (j := 2) rfl).trans (List.Perm.cons _ (List.Perm.refl _))) (List.Perm.refl _)) (retD_mk (hh := []) (.inl rfl) (resL_cons (resOne_cell 0 rfl rfl rfl rfl) (resL_nil)) (List.nil_sublist _) (List.Sublist.refl _) ?_)
                      exact ⟨rfl, rfl, rfl⟩
                · replace hm := yes_f hc40 hm
                  refine wpD_skip ?_
                  refine block_normal ?_
                  refine then_normal ?_
                  refine wpD_seq ?_
                  refine wpD_region ?_
                  refine p_build (r := [.v (.bool false), .v (.int .i64 (0 : Int)), .v (.int .i64 (0 : Int))]) htab rfl rfl rfl rfl rfl rfl rfl rfl rfl ?_
                  refine p_store (ds' := [.v (.bool false), .v (.int .i64 (0 : Int)), .v (.int .i64 (0 : Int))]) (h' := [(b1, Blk.cells [.v (.bool a1.gSome), .v (.int .i64 a1.gLo), .v (.int .i64 a1.gHi)] 23), (b2, Blk.cells [.v (.bool a2.gSome), .v (.int .i64 a2.gLo), .v (.int .i64 a2.gHi)] 23), (b3, Blk.cells [.v (.bool false), .v (.int .i64 (0 : Int)), .v (.int .i64 (0 : Int))] 23)]) 2 htab rfl rfl rfl rfl rfl rfl rfl rfl rfl rfl rfl rfl ?_
                  refine ops_nil ?_
                  refine then_normal ?_
                  refine wpD_ret ?_
                  have er58 := yes_eq hm; subst er58
                  refine retX.of (s' := ⟨[(6, .ptr b3 0)], [(b3, Blk.cells [.v (.bool false), .v (.int .i64 (0 : Int)), .v (.int .i64 (0 : Int))] 23)], []⟩) (WkS.perm (WkS.cons rfl (Wk.refl _) (WkS.nil)) ((perm_at (j := 2) rfl).trans (List.Perm.cons _ (List.Perm.refl _))) (List.Perm.refl _)) (retD_mk (hh := []) (.inl rfl) (resL_cons (resOne_cell 0 rfl rfl rfl rfl) (resL_nil)) (List.nil_sublist _) (List.Sublist.refl _) ?_)
                  exact ⟨rfl, rfl, rfl⟩
noncomputable def reckon_Do (a0 : Int) (a1 : TApiSpan) (a2 : TApiSpan) : Option (TApiSpan) :=
  (Option.bind (α := Bool) ((span_None a1).bind fun x9 => (bif x9 then some true else ((span_None a2).bind fun x11 => some x11))) fun y8 => (bif y8 then some (⟨false, (0 : Int), (0 : Int)⟩ : TApiSpan) else (Option.bind (α := Bool) (bif (a0 == (10 : Int)) then some (a0 == (10 : Int)) else (Option.bind (α := Bool) (bif (a0 == (11 : Int)) then some (a0 == (11 : Int)) else some (a0 == (7 : Int))) fun y35 => some y35)) fun y32 => (bif y32 then ((reckon_cornersE a1 a2 a0).bind fun x46 => ((reckon_around x46).bind fun x48 => some x48)) else (bif (a0 == (8 : Int)) then ((reckon_divide a1 a2).bind fun x55 => some x55) else (bif (a0 == (9 : Int)) then ((reckon_rest a1 a2).bind fun x60 => some x60) else ((reckon_compare a0 a1 a2).bind fun x62 => some x62)))))))
set_option maxRecDepth 100000 in
set_option maxHeartbeats 2000000 in
theorem reckon_Do_ok (a0 : Int) (a1 : TApiSpan) (a2 : TApiSpan) (r : TApiSpan) (h0 : reckon_Do a0 a1 a2 = some r) : CallsD Try.prog 7 [.v (.int .i64 a0), eTApiSpan a1, eTApiSpan a2] [] [] (fun d h k => d = eTApiSpan r ∧ h = [] ∧ k = []) := by
  have hm := yes_of h0
  unfold reckon_Do at hm
  clear h0
  refine enterX htab Try.func7 rfl rfl rfl rfl rfl (fun C => ?_)
  refine wpD_seq ?_
  refine wpD_region ?_
  refine p_box rfl rfl rfl rfl rfl rfl rfl (fun b1 => ?_)
  refine p_box rfl rfl rfl rfl rfl rfl rfl (fun b2 => ?_)
  refine p_box rfl rfl rfl rfl rfl rfl rfl (fun b3 => ?_)
  refine p_alloc htab rfl rfl rfl rfl rfl rfl rfl (fun b4 => ?_)
  refine ops_nil ?_
  refine then_normal ?_
  refine wpD_seq ?_
  refine wpD_seq ?_
  obtain ⟨y8, q8, ho8⟩ := yes_bind hm
  refine wpD_mid (Y := Unit) (fun z8 => (⟨[(3, .ptr b1 0), (4, .ptr b2 0), (5, .ptr b3 0), (6, .ptr b4 0), (13, .v (.bool y8))], [(b1, Blk.cells [.v (.int .i64 a0)] 3), (b2, Blk.cells [.v (.bool a1.gSome), .v (.int .i64 a1.gLo), .v (.int .i64 a1.gHi)] 23), (b3, Blk.cells [.v (.bool a2.gSome), .v (.int .i64 a2.gLo), .v (.int .i64 a2.gHi)] 23), (b4, Blk.cells [.v (.bool false), .v (.int .i64 (0 : Int)), .v (.int .i64 (0 : Int))] 23)], []⟩ : S)) ?_ ?_
  · clear hm; have hm := yes_of q8
    refine wpD_region ?_
    refine p_load (d := eTApiSpan a1) 1 htab rfl rfl rfl rfl rfl rfl rfl rfl ?_
    obtain ⟨x9, q9, hm⟩ := yes_bind hm
    refine p_call0 (span_None_ok a1 x9 q9) rfl rfl rfl rfl rfl (WkL.refl _) ?_
    rintro _ rfl
    refine p_pure htab rfl rfl rfl rfl ?_
    refine p_split (i := 10) rfl (fun hg10 => ?_) (fun hg10 => ?_)
    · replace hm := yes_t hg10 hm
      refine p_skip rfl rfl rfl ?_
      refine p_skip rfl rfl rfl ?_
      refine p_pickT rfl rfl rfl rfl rfl rfl ?_
      refine ops_nil ?_
      have e8 := yes_eq hm; subst e8
      refine ⟨rfl, ?_⟩
      exact WkX.of () (WkS.perm (WkS.cons rfl (Wk.refl _) (WkS.cons rfl (Wk.refl _) (WkS.cons rfl (Wk.refl _) (WkS.cons rfl (Wk.refl _) (WkS.cons rfl (Wk.refl _) (WkS.nil)))))) (List.Perm.refl _) (List.Perm.refl _))
    · replace hm := yes_f hg10 hm
      refine p_load (d := eTApiSpan a2) 2 htab rfl rfl rfl rfl rfl rfl rfl rfl ?_
      obtain ⟨x11, q11, hm⟩ := yes_bind hm
      refine p_call0 (span_None_ok a2 x11 q11) rfl rfl rfl rfl rfl (WkL.refl _) ?_
      rintro _ rfl
      refine p_pickF rfl rfl rfl rfl rfl rfl ?_
      refine ops_nil ?_
      have e8 := yes_eq hm; subst e8
      refine ⟨rfl, ?_⟩
      exact WkX.of () (WkS.perm (WkS.cons rfl (Wk.refl _) (WkS.cons rfl (Wk.refl _) (WkS.cons rfl (Wk.refl _) (WkS.cons rfl (Wk.refl _) (WkS.cons rfl (Wk.refl _) (WkS.nil)))))) (List.Perm.refl _) (List.Perm.refl _))
  · intro s8 hw8; clear hm; have hm := ho8; clear q8 ho8
    refine then_normal ?_
    refine wpD_wkX hw8 (fun z8 => ?_)
    refine wpD_cond rfl (fun hc13 => ?_) (fun hc13 => ?_)
    · replace hm := yes_t hc13 hm
      refine wpD_seq ?_
      refine wpD_region ?_
      refine p_build (r := [.v (.bool false), .v (.int .i64 (0 : Int)), .v (.int .i64 (0 : Int))]) htab rfl rfl rfl rfl rfl rfl rfl rfl rfl ?_
      refine p_store (ds' := [.v (.bool false), .v (.int .i64 (0 : Int)), .v (.int .i64 (0 : Int))]) (h' := [(b1, Blk.cells [.v (.int .i64 a0)] 3), (b2, Blk.cells [.v (.bool a1.gSome), .v (.int .i64 a1.gLo), .v (.int .i64 a1.gHi)] 23), (b3, Blk.cells [.v (.bool a2.gSome), .v (.int .i64 a2.gLo), .v (.int .i64 a2.gHi)] 23), (b4, Blk.cells [.v (.bool false), .v (.int .i64 (0 : Int)), .v (.int .i64 (0 : Int))] 23)]) 3 htab rfl rfl rfl rfl rfl rfl rfl rfl rfl rfl rfl rfl ?_
      refine ops_nil ?_
      refine then_normal ?_
      refine wpD_ret ?_
      refine then_ret ?_
      have er14 := yes_eq hm; subst er14
      refine retX.of (s' := ⟨[(6, .ptr b4 0)], [(b4, Blk.cells [.v (.bool false), .v (.int .i64 (0 : Int)), .v (.int .i64 (0 : Int))] 23)], []⟩) (WkS.perm (WkS.cons rfl (Wk.refl _) (WkS.nil)) ((perm_at (j := 3) rfl).trans (List.Perm.cons _ (List.Perm.refl _))) (List.Perm.refl _)) (retD_mk (hh := []) (.inl rfl) (resL_cons (resOne_cell 0 rfl rfl rfl rfl) (resL_nil)) (List.nil_sublist _) (List.Sublist.refl _) ?_)
      exact ⟨rfl, rfl, rfl⟩
    · replace hm := yes_f hc13 hm
      refine wpD_skip ?_
      refine then_normal ?_
      refine wpD_seq ?_
      refine wpD_region ?_
      refine p_pure htab rfl rfl rfl rfl ?_
      refine p_pure htab rfl rfl rfl rfl ?_
      refine ops_nil ?_
      refine then_normal ?_
      refine wpD_seq ?_
      refine wpD_seq ?_
      refine wpD_region ?_
      refine p_load 0 htab rfl rfl rfl rfl rfl rfl rfl rfl ?_
      refine ops_nil ?_
      refine then_normal ?_
      refine wpD_block ?_
      refine wpD_seq ?_
      refine wpD_seq ?_
      refine wpD_region ?_
      refine p_pure htab rfl rfl rfl rfl ?_
      refine p_pure htab rfl rfl rfl rfl ?_
      refine ops_nil ?_
      refine then_normal ?_
      obtain ⟨y32, q32, ho32⟩ := yes_bind hm
      refine wpD_mid (Y := Unit) (fun z32 => (⟨[(3, .ptr b1 0), (4, .ptr b2 0), (5, .ptr b3 0), (6, .ptr b4 0), (7, .fn (.func 26) [] [.ptr b1 0]), (16, .v (.int .i64 a0)), (17, .v (.bool y32))], [(b1, Blk.cells [.v (.int .i64 a0)] 3), (b2, Blk.cells [.v (.bool a1.gSome), .v (.int .i64 a1.gLo), .v (.int .i64 a1.gHi)] 23), (b3, Blk.cells [.v (.bool a2.gSome), .v (.int .i64 a2.gLo), .v (.int .i64 a2.gHi)] 23), (b4, Blk.cells [.v (.bool false), .v (.int .i64 (0 : Int)), .v (.int .i64 (0 : Int))] 23)], []⟩ : S)) ?_ ?_
      · clear hm; have hm := yes_of q32
        refine wpD_cond rfl (fun hc33 => ?_) (fun hc33 => ?_)
        · replace hm := yes_t hc33 hm
          refine wpD_skip ?_
          have e32 := yes_eq hm; subst e32
          refine ⟨rfl, ?_⟩
          exact WkX.of () (WkS.perm (WkS.cons rfl (Wk.refl _) (WkS.cons rfl (Wk.refl _) (WkS.cons rfl (Wk.refl _) (WkS.cons rfl (Wk.refl _) (WkS.cons rfl (Wk.refl _) (WkS.cons rfl (Wk.refl _) (WkS.cons rfl (Wk.refl _) (WkS.nil)))))))) (List.Perm.refl _) (List.Perm.refl _))
        · replace hm := yes_f hc33 hm
          refine wpD_seq ?_
          refine wpD_region ?_
          refine p_pure htab rfl rfl rfl rfl ?_
          refine p_pure htab rfl rfl rfl rfl ?_
          refine ops_nil ?_
          refine then_normal ?_
          obtain ⟨y35, q35, ho35⟩ := yes_bind hm
          refine wpD_mid (Y := Unit) (fun z35 => (⟨[(3, .ptr b1 0), (4, .ptr b2 0), (5, .ptr b3 0), (6, .ptr b4 0), (7, .fn (.func 26) [] [.ptr b1 0]), (16, .v (.int .i64 a0)), (17, .v (.bool y35))], [(b1, Blk.cells [.v (.int .i64 a0)] 3), (b2, Blk.cells [.v (.bool a1.gSome), .v (.int .i64 a1.gLo), .v (.int .i64 a1.gHi)] 23), (b3, Blk.cells [.v (.bool a2.gSome), .v (.int .i64 a2.gLo), .v (.int .i64 a2.gHi)] 23), (b4, Blk.cells [.v (.bool false), .v (.int .i64 (0 : Int)), .v (.int .i64 (0 : Int))] 23)], []⟩ : S)) ?_ ?_
          · clear hm; have hm := yes_of q35
            refine wpD_cond rfl (fun hc36 => ?_) (fun hc36 => ?_)
            · replace hm := yes_t hc36 hm
              refine wpD_skip ?_
              have e35 := yes_eq hm; subst e35
              refine ⟨rfl, ?_⟩
              exact WkX.of () (WkS.perm (WkS.cons rfl (Wk.refl _) (WkS.cons rfl (Wk.refl _) (WkS.cons rfl (Wk.refl _) (WkS.cons rfl (Wk.refl _) (WkS.cons rfl (Wk.refl _) (WkS.cons rfl (Wk.refl _) (WkS.cons rfl (Wk.refl _) (WkS.nil)))))))) (List.Perm.refl _) (List.Perm.refl _))
            · replace hm := yes_f hc36 hm
              refine wpD_region ?_
              refine p_pure htab rfl rfl rfl rfl ?_
              refine p_pure htab rfl rfl rfl rfl ?_
              refine ops_nil ?_
              have e35 := yes_eq hm; subst e35
              refine ⟨rfl, ?_⟩
              exact WkX.of () (WkS.perm (WkS.cons rfl (Wk.refl _) (WkS.cons rfl (Wk.refl _) (WkS.cons rfl (Wk.refl _) (WkS.cons rfl (Wk.refl _) (WkS.cons rfl (Wk.refl _) (WkS.cons rfl (Wk.refl _) (WkS.cons rfl (Wk.refl _) (WkS.nil)))))))) (List.Perm.refl _) (List.Perm.refl _))
          · intro s35 hw35; clear hm; have hm := ho35; clear q35 ho35
            have e32 := yes_eq hm; subst e32
            refine ⟨rfl, ?_⟩
            refine WkX.trans hw35 (fun z35 => ?_)
            exact WkX.of () (WkS.perm (WkS.cons rfl (Wk.refl _) (WkS.cons rfl (Wk.refl _) (WkS.cons rfl (Wk.refl _) (WkS.cons rfl (Wk.refl _) (WkS.cons rfl (Wk.refl _) (WkS.cons rfl (Wk.refl _) (WkS.cons rfl (Wk.refl _) (WkS.nil)))))))) (List.Perm.refl _) (List.Perm.refl _))
      · intro s32 hw32; clear hm; have hm := ho32; clear q32 ho32
        refine then_normal ?_
        refine wpD_wkX hw32 (fun z32 => ?_)
        refine wpD_cond rfl (fun hc45 => ?_) (fun hc45 => ?_)
        · replace hm := yes_t hc45 hm
          refine wpD_seq ?_
          refine wpD_region ?_
          refine p_load (d := eTApiSpan a1) 1 htab rfl rfl rfl rfl rfl rfl rfl rfl ?_
          refine p_load (d := eTApiSpan a2) 2 htab rfl rfl rfl rfl rfl rfl rfl rfl ?_
          refine p_pure htab rfl rfl rfl rfl ?_
          obtain ⟨x46, q46, hm⟩ := yes_bind hm
          refine p_callB (R' := fun d x k => ∃ y0, d = .lst 2 (x46.map eTApiWide) (.cur y0) ∧ x = (b1, Blk.cells [.v (.int .i64 a0)] 3) ∧ k = [(2, y0)]) 0 (reckon_cornersE_ok a1 a2 a0 b1 3 x46 q46) (fun d h k ⟨y0, e1, e2, e3⟩ => ⟨_, e2, y0, e1, rfl, e3⟩) rfl rfl rfl rfl rfl (WkL.refl _) rfl (List.Perm.refl _) ?_
          rintro _ _ _ ⟨w47, rfl, rfl, rfl⟩
          obtain ⟨x48, q48, hm⟩ := yes_bind hm
          refine p_call0 (reckon_around_ok x46 x48 q48) rfl rfl rfl rfl rfl (WkL.cons (Wk.no) (WkL.refl _)) ?_
          rintro _ rfl
          refine p_store (ds' := [.v (.bool x48.gSome), .v (.int .i64 x48.gLo), .v (.int .i64 x48.gHi)]) (h' := [(b1, Blk.cells [.v (.int .i64 a0)] 3), (b2, Blk.cells [.v (.bool a1.gSome), .v (.int .i64 a1.gLo), .v (.int .i64 a1.gHi)] 23), (b3, Blk.cells [.v (.bool a2.gSome), .v (.int .i64 a2.gLo), .v (.int .i64 a2.gHi)] 23), (b4, Blk.cells [.v (.bool x48.gSome), .v (.int .i64 x48.gLo), .v (.int .i64 x48.gHi)] 23)]) 3 htab rfl rfl rfl rfl rfl rfl rfl rfl rfl rfl rfl rfl ?_
          refine ops_nil ?_
          refine then_normal ?_
          refine wpD_ret ?_
          refine block_ret ?_
          refine then_ret ?_
          have er49 := yes_eq hm; subst er49
          refine retX.of (s' := ⟨[(6, .ptr b4 0)], [(b4, Blk.cells [.v (.bool x48.gSome), .v (.int .i64 x48.gLo), .v (.int .i64 x48.gHi)] 23)], []⟩) (WkS.perm (WkS.cons rfl (Wk.refl _) (WkS.nil)) ((perm_at (j := 3) rfl).trans (List.Perm.cons _ (List.Perm.refl _))) (List.Perm.refl _)) (retD_mk (hh := []) (.inl rfl) (resL_cons (resOne_cell 0 rfl rfl rfl rfl) (resL_nil)) (List.nil_sublist _) (List.Sublist.refl _) ?_)
          exact ⟨rfl, rfl, rfl⟩
        · replace hm := yes_f hc45 hm
          refine wpD_seq ?_
          refine wpD_region ?_
          refine p_pure htab rfl rfl rfl rfl ?_
          refine p_pure htab rfl rfl rfl rfl ?_
          refine ops_nil ?_
          refine then_normal ?_
          refine wpD_cond rfl (fun hc54 => ?_) (fun hc54 => ?_)
          · replace hm := yes_t hc54 hm
            refine wpD_seq ?_
            refine wpD_region ?_
            refine p_load (d := eTApiSpan a1) 1 htab rfl rfl rfl rfl rfl rfl rfl rfl ?_
            refine p_load (d := eTApiSpan a2) 2 htab rfl rfl rfl rfl rfl rfl rfl rfl ?_
            obtain ⟨x55, q55, hm⟩ := yes_bind hm
            refine p_call0 (reckon_divide_ok a1 a2 x55 q55) rfl rfl rfl rfl rfl (WkL.refl _) ?_
            rintro _ rfl
            refine p_store (ds' := [.v (.bool x55.gSome), .v (.int .i64 x55.gLo), .v (.int .i64 x55.gHi)]) (h' := [(b1, Blk.cells [.v (.int .i64 a0)] 3), (b2, Blk.cells [.v (.bool a1.gSome), .v (.int .i64 a1.gLo), .v (.int .i64 a1.gHi)] 23), (b3, Blk.cells [.v (.bool a2.gSome), .v (.int .i64 a2.gLo), .v (.int .i64 a2.gHi)] 23), (b4, Blk.cells [.v (.bool x55.gSome), .v (.int .i64 x55.gLo), .v (.int .i64 x55.gHi)] 23)]) 3 htab rfl rfl rfl rfl rfl rfl rfl rfl rfl rfl rfl rfl ?_
            refine ops_nil ?_
            refine then_normal ?_
            refine wpD_ret ?_
            refine block_ret ?_
            refine then_ret ?_
            have er56 := yes_eq hm; subst er56
            refine retX.of (s' := ⟨[(6, .ptr b4 0)], [(b4, Blk.cells [.v (.bool x55.gSome), .v (.int .i64 x55.gLo), .v (.int .i64 x55.gHi)] 23)], []⟩) (WkS.perm (WkS.cons rfl (Wk.refl _) (WkS.nil)) ((perm_at (j := 3) rfl).trans (List.Perm.cons _ (List.Perm.refl _))) (List.Perm.refl _)) (retD_mk (hh := []) (.inl rfl) (resL_cons (resOne_cell 0 rfl rfl rfl rfl) (resL_nil)) (List.nil_sublist _) (List.Sublist.refl _) ?_)
            exact ⟨rfl, rfl, rfl⟩
          · replace hm := yes_f hc54 hm
            refine wpD_seq ?_
            refine wpD_region ?_
            refine p_pure htab rfl rfl rfl rfl ?_
            refine p_pure htab rfl rfl rfl rfl ?_
            refine ops_nil ?_
            refine then_normal ?_
            refine wpD_cond rfl (fun hc59 => ?_) (fun hc59 => ?_)
            · replace hm := yes_t hc59 hm
              refine wpD_seq ?_
              refine wpD_region ?_
              refine p_load (d := eTApiSpan a1) 1 htab rfl rfl rfl rfl rfl rfl rfl rfl ?_
              refine p_load (d := eTApiSpan a2) 2 htab rfl rfl rfl rfl rfl rfl rfl rfl ?_
              obtain ⟨x60, q60, hm⟩ := yes_bind hm
              refine p_call0 (reckon_rest_ok a1 a2 x60 q60) rfl rfl rfl rfl rfl (WkL.refl _) ?_
              rintro _ rfl
              refine p_store (ds' := [.v (.bool x60.gSome), .v (.int .i64 x60.gLo), .v (.int .i64 x60.gHi)]) (h' := [(b1, Blk.cells [.v (.int .i64 a0)] 3), (b2, Blk.cells [.v (.bool a1.gSome), .v (.int .i64 a1.gLo), .v (.int .i64 a1.gHi)] 23), (b3, Blk.cells [.v (.bool a2.gSome), .v (.int .i64 a2.gLo), .v (.int .i64 a2.gHi)] 23), (b4, Blk.cells [.v (.bool x60.gSome), .v (.int .i64 x60.gLo), .v (.int .i64 x60.gHi)] 23)]) 3 htab rfl rfl rfl rfl rfl rfl rfl rfl rfl rfl rfl rfl ?_
              refine ops_nil ?_
              refine then_normal ?_
              refine wpD_ret ?_
              refine block_ret ?_
              refine then_ret ?_
              have er61 := yes_eq hm; subst er61
              refine retX.of (s' := ⟨[(6, .ptr b4 0)], [(b4, Blk.cells [.v (.bool x60.gSome), .v (.int .i64 x60.gLo), .v (.int .i64 x60.gHi)] 23)], []⟩) (WkS.perm (WkS.cons rfl (Wk.refl _) (WkS.nil)) ((perm_at (j := 3) rfl).trans (List.Perm.cons _ (List.Perm.refl _))) (List.Perm.refl _)) (retD_mk (hh := []) (.inl rfl) (resL_cons (resOne_cell 0 rfl rfl rfl rfl) (resL_nil)) (List.nil_sublist _) (List.Sublist.refl _) ?_)
              exact ⟨rfl, rfl, rfl⟩
            · replace hm := yes_f hc59 hm
              refine wpD_skip ?_
              refine block_normal ?_
              refine then_normal ?_
              refine wpD_seq ?_
              refine wpD_region ?_
              refine p_load 0 htab rfl rfl rfl rfl rfl rfl rfl rfl ?_
              refine p_load (d := eTApiSpan a1) 1 htab rfl rfl rfl rfl rfl rfl rfl rfl ?_
              refine p_load (d := eTApiSpan a2) 2 htab rfl rfl rfl rfl rfl rfl rfl rfl ?_
              obtain ⟨x62, q62, hm⟩ := yes_bind hm
              refine p_call0 (reckon_compare_ok a0 a1 a2 x62 q62) rfl rfl rfl rfl rfl (WkL.refl _) ?_
              rintro _ rfl
              refine p_store (ds' := [.v (.bool x62.gSome), .v (.int .i64 x62.gLo), .v (.int .i64 x62.gHi)]) (h' := [(b1, Blk.cells [.v (.int .i64 a0)] 3), (b2, Blk.cells [.v (.bool a1.gSome), .v (.int .i64 a1.gLo), .v (.int .i64 a1.gHi)] 23), (b3, Blk.cells [.v (.bool a2.gSome), .v (.int .i64 a2.gLo), .v (.int .i64 a2.gHi)] 23), (b4, Blk.cells [.v (.bool x62.gSome), .v (.int .i64 x62.gLo), .v (.int .i64 x62.gHi)] 23)]) 3 htab rfl rfl rfl rfl rfl rfl rfl rfl rfl rfl rfl rfl ?_
              refine ops_nil ?_
              refine then_normal ?_
              refine wpD_ret ?_
              have er63 := yes_eq hm; subst er63
              refine retX.of (s' := ⟨[(6, .ptr b4 0)], [(b4, Blk.cells [.v (.bool x62.gSome), .v (.int .i64 x62.gLo), .v (.int .i64 x62.gHi)] 23)], []⟩) (WkS.perm (WkS.cons rfl (Wk.refl _) (WkS.nil)) ((perm_at (j := 3) rfl).trans (List.Perm.cons _ (List.Perm.refl _))) (List.Perm.refl _)) (retD_mk (hh := []) (.inl rfl) (resL_cons (resOne_cell 0 rfl rfl rfl rfl) (resL_nil)) (List.nil_sublist _) (List.Sublist.refl _) ?_)
              exact ⟨rfl, rfl, rfl⟩
noncomputable def reckon_One (a0 : Int) (a1 : TApiSpan) : Option (TApiSpan) :=
  ((span_None a1).bind fun x3 => (bif x3 then some (⟨false, (0 : Int), (0 : Int)⟩ : TApiSpan) else (bif (a0 == (5 : Int)) then ((span_One (0 : Int)).bind fun x8 => ((reckon_Do (11 : Int) x8 a1).bind fun x9 => some x9)) else (bif (a0 == (6 : Int)) then ((reckon_alone a1 (0 : Int)).bind fun x12 => ((span_Has a1 (0 : Int)).bind fun x13 => ((reckon_truth x12 (!x13)).bind fun x14 => some x14))) else some (⟨false, (0 : Int), (0 : Int)⟩ : TApiSpan)))))
set_option maxRecDepth 100000 in
set_option maxHeartbeats 2000000 in
theorem reckon_One_ok (a0 : Int) (a1 : TApiSpan) (r : TApiSpan) (h0 : reckon_One a0 a1 = some r) : CallsD Try.prog 12 [.v (.int .i64 a0), eTApiSpan a1] [] [] (fun d h k => d = eTApiSpan r ∧ h = [] ∧ k = []) := by
  have hm := yes_of h0
  unfold reckon_One at hm
  clear h0
  refine enterX htab Try.func12 rfl rfl rfl rfl rfl (fun C => ?_)
  refine wpD_seq ?_
  refine wpD_region ?_
  refine p_box rfl rfl rfl rfl rfl rfl rfl (fun b1 => ?_)
  refine p_alloc htab rfl rfl rfl rfl rfl rfl rfl (fun b2 => ?_)
  refine ops_nil ?_
  refine then_normal ?_
  refine wpD_seq ?_
  refine wpD_seq ?_
  refine wpD_region ?_
  refine p_load (d := eTApiSpan a1) 0 htab rfl rfl rfl rfl rfl rfl rfl rfl ?_
  obtain ⟨x3, q3, hm⟩ := yes_bind hm
  refine p_call0 (span_None_ok a1 x3 q3) rfl rfl rfl rfl rfl (WkL.refl _) ?_
  rintro _ rfl
  refine ops_nil ?_
  refine then_normal ?_
  refine wpD_cond rfl (fun hc5 => ?_) (fun hc5 => ?_)
  · replace hm := yes_t hc5 hm
    refine wpD_seq ?_
    refine wpD_region ?_
    refine p_build (r := [.v (.bool false), .v (.int .i64 (0 : Int)), .v (.int .i64 (0 : Int))]) htab rfl rfl rfl rfl rfl rfl rfl rfl rfl ?_
    refine p_store (ds' := [.v (.bool false), .v (.int .i64 (0 : Int)), .v (.int .i64 (0 : Int))]) (h' := [(b1, Blk.cells [.v (.bool a1.gSome), .v (.int .i64 a1.gLo), .v (.int .i64 a1.gHi)] 23), (b2, Blk.cells [.v (.bool false), .v (.int .i64 (0 : Int)), .v (.int .i64 (0 : Int))] 23)]) 1 htab rfl rfl rfl rfl rfl rfl rfl rfl rfl rfl rfl rfl ?_
    refine ops_nil ?_
    refine then_normal ?_
    refine wpD_ret ?_
    refine then_ret ?_
    have er6 := yes_eq hm; subst er6
    refine retX.of (s' := ⟨[(4, .ptr b2 0)], [(b2, Blk.cells [.v (.bool false), .v (.int .i64 (0 : Int)), .v (.int .i64 (0 : Int))] 23)], []⟩) (WkS.perm (WkS.cons rfl (Wk.refl _) (WkS.nil)) ((perm_at (j := 1) rfl).trans (List.Perm.cons _ (List.Perm.refl _))) (List.Perm.refl _)) (retD_mk (hh := []) (.inl rfl) (resL_cons (resOne_cell 0 rfl rfl rfl rfl) (resL_nil)) (List.nil_sublist _) (List.Sublist.refl _) ?_)
    exact ⟨rfl, rfl, rfl⟩
  · replace hm := yes_f hc5 hm
    refine wpD_skip ?_
    refine then_normal ?_
    refine wpD_seq ?_
    refine wpD_seq ?_
    refine wpD_region ?_
    refine p_pure htab rfl rfl rfl rfl ?_
    refine ops_nil ?_
    refine then_normal ?_
    refine wpD_block ?_
    refine wpD_seq ?_
    refine wpD_region ?_
    refine p_pure htab rfl rfl rfl rfl ?_
    refine p_pure htab rfl rfl rfl rfl ?_
    refine ops_nil ?_
    refine then_normal ?_
    refine wpD_cond rfl (fun hc7 => ?_) (fun hc7 => ?_)
    · replace hm := yes_t hc7 hm
      refine wpD_seq ?_
      obtain ⟨x8, q8, hm⟩ := yes_bind hm
      refine wpD_draws 2 [] [[],[]] [0,1] [[],[],[0,1],[0,1,2]] (by kernel_rfl) (by kernel_rfl) (by kernel_rfl) (by rfl) (by rfl) (by kernel_rfl) ?_
      apply Exists.intro
      apply Exists.intro
      intro bs
      refine z_call rfl rfl (span_One_ok (0 : Int) x8 q8) rfl rfl (WkL.refl _) rfl rfl rfl rfl rfl rfl ?_
      refine z_eM rfl rfl (xm_load (d := eTApiSpan a1) 0 htab rfl rfl rfl rfl rfl) rfl rfl rfl rfl rfl rfl ?_
      refine z_nil rfl rfl (fun e he => by simp [isAl] at he) ?_
      obtain ⟨x9, q9, hm⟩ := yes_bind hm
      refine p_call0 (reckon_Do_ok (11 : Int) x8 a1 x9 q9) rfl rfl rfl rfl rfl (WkL.refl _) ?_
      rintro _ rfl
      refine p_store (ds' := [.v (.bool x9.gSome), .v (.int .i64 x9.gLo), .v (.int .i64 x9.gHi)]) (h' := [(b1, Blk.cells [.v (.bool a1.gSome), .v (.int .i64 a1.gLo), .v (.int .i64 a1.gHi)] 23), (b2, Blk.cells [.v (.bool x9.gSome), .v (.int .i64 x9.gLo), .v (.int .i64 x9.gHi)] 23)]) 1 htab rfl rfl rfl rfl rfl rfl rfl rfl rfl rfl rfl rfl ?_
      refine ops_nil ?_
      refine then_normal ?_
      refine wpD_ret ?_
      refine block_ret ?_
      refine then_ret ?_
      have er10 := yes_eq hm; subst er10
      refine retX.of (s' := ⟨[(4, .ptr b2 0)], [(b2, Blk.cells [.v (.bool x9.gSome), .v (.int .i64 x9.gLo), .v (.int .i64 x9.gHi)] 23)], []⟩) (WkS.perm (WkS.cons rfl (Wk.refl _) (WkS.nil)) ((perm_at (j := 1) rfl).trans (List.Perm.cons _ (List.Perm.refl _))) (List.Perm.refl _)) (retD_mk (hh := []) (.inl rfl) (resL_cons (resOne_cell 0 rfl rfl rfl rfl) (resL_nil)) (List.nil_sublist _) (List.Sublist.refl _) ?_)
      exact ⟨rfl, rfl, rfl⟩
    · replace hm := yes_f hc7 hm
      refine wpD_seq ?_
      refine wpD_region ?_
      refine p_pure htab rfl rfl rfl rfl ?_
      refine p_pure htab rfl rfl rfl rfl ?_
      refine ops_nil ?_
      refine then_normal ?_
      refine wpD_cond rfl (fun hc11 => ?_) (fun hc11 => ?_)
      · replace hm := yes_t hc11 hm
        refine wpD_seq ?_
        obtain ⟨x12, q12, hm⟩ := yes_bind hm
        refine wpD_draws 3 [] [[],[0],[]] [0,1,2] [[],[0],[],[0,1,2],[0,1,2,3],[0,1,2,3,4],[0,1,2,3,4,5]] (by kernel_rfl) (by kernel_rfl) (by kernel_rfl) (by rfl) (by rfl) (by kernel_rfl) ?_
        apply Exists.intro
        apply Exists.intro
        apply Exists.intro
        intro bs
        refine z_eM rfl rfl (xm_load (d := eTApiSpan a1) 0 htab rfl rfl rfl rfl rfl) rfl rfl rfl rfl rfl rfl ?_
        refine z_call rfl rfl (reckon_alone_ok a1 (0 : Int) x12 q12) rfl rfl (WkL.refl _) rfl rfl rfl rfl rfl rfl ?_
        refine z_eM rfl rfl (xm_load (d := eTApiSpan a1) 0 htab rfl rfl rfl rfl rfl) rfl rfl rfl rfl rfl rfl ?_
        refine z_nil rfl rfl (fun e he => by simp [isAl] at he) ?_
        obtain ⟨x13, q13, hm⟩ := yes_bind hm
        refine p_call0 (span_Has_ok a1 (0 : Int) x13 q13) rfl rfl rfl rfl rfl (WkL.refl _) ?_
        rintro _ rfl
        refine p_pure htab rfl rfl rfl rfl ?_
        obtain ⟨x14, q14, hm⟩ := yes_bind hm
        refine p_call0 (reckon_truth_ok x12 (!x13) x14 q14) rfl rfl rfl rfl rfl (WkL.refl _) ?_
        rintro _ rfl
        refine p_store (ds' := [.v (.bool x14.gSome), .v (.int .i64 x14.gLo), .v (.int .i64 x14.gHi)]) (h' := [(b1, Blk.cells [.v (.bool a1.gSome), .v (.int .i64 a1.gLo), .v (.int .i64 a1.gHi)] 23), (b2, Blk.cells [.v (.bool x14.gSome), .v (.int .i64 x14.gLo), .v (.int .i64 x14.gHi)] 23)]) 1 htab rfl rfl rfl rfl rfl rfl rfl rfl rfl rfl rfl rfl ?_
        refine ops_nil ?_
        refine then_normal ?_
        refine wpD_ret ?_
        refine block_ret ?_
        refine then_ret ?_
        have er15 := yes_eq hm; subst er15
        refine retX.of (s' := ⟨[(4, .ptr b2 0)], [(b2, Blk.cells [.v (.bool x14.gSome), .v (.int .i64 x14.gLo), .v (.int .i64 x14.gHi)] 23)], []⟩) (WkS.perm (WkS.cons rfl (Wk.refl _) (WkS.nil)) ((perm_at (j := 1) rfl).trans (List.Perm.cons _ (List.Perm.refl _))) (List.Perm.refl _)) (retD_mk (hh := []) (.inl rfl) (resL_cons (resOne_cell 0 rfl rfl rfl rfl) (resL_nil)) (List.nil_sublist _) (List.Sublist.refl _) ?_)
        exact ⟨rfl, rfl, rfl⟩
      · replace hm := yes_f hc11 hm
        refine wpD_skip ?_
        refine block_normal ?_
        refine then_normal ?_
        refine wpD_seq ?_
        refine wpD_region ?_
        refine p_build (r := [.v (.bool false), .v (.int .i64 (0 : Int)), .v (.int .i64 (0 : Int))]) htab rfl rfl rfl rfl rfl rfl rfl rfl rfl ?_
        refine p_store (ds' := [.v (.bool false), .v (.int .i64 (0 : Int)), .v (.int .i64 (0 : Int))]) (h' := [(b1, Blk.cells [.v (.bool a1.gSome), .v (.int .i64 a1.gLo), .v (.int .i64 a1.gHi)] 23), (b2, Blk.cells [.v (.bool false), .v (.int .i64 (0 : Int)), .v (.int .i64 (0 : Int))] 23)]) 1 htab rfl rfl rfl rfl rfl rfl rfl rfl rfl rfl rfl rfl ?_
        refine ops_nil ?_
        refine then_normal ?_
        refine wpD_ret ?_
        have er16 := yes_eq hm; subst er16
        refine retX.of (s' := ⟨[(4, .ptr b2 0)], [(b2, Blk.cells [.v (.bool false), .v (.int .i64 (0 : Int)), .v (.int .i64 (0 : Int))] 23)], []⟩) (WkS.perm (WkS.cons rfl (Wk.refl _) (WkS.nil)) ((perm_at (j := 1) rfl).trans (List.Perm.cons _ (List.Perm.refl _))) (List.Perm.refl _)) (retD_mk (hh := []) (.inl rfl) (resL_cons (resOne_cell 0 rfl rfl rfl rfl) (resL_nil)) (List.nil_sublist _) (List.Sublist.refl _) ?_)
        exact ⟨rfl, rfl, rfl⟩
noncomputable def reckon_Traps (a0 : Int) (a1 : TApiSpan) : Option (Bool) :=
  (bif (a0 == (8 : Int)) then ((span_Has a1 (0 : Int)).bind fun x3 => some x3) else (bif (a0 == (9 : Int)) then ((span_Has a1 (0 : Int)).bind fun x6 => some x6) else some false))
set_option maxRecDepth 100000 in
set_option maxHeartbeats 2000000 in
theorem reckon_Traps_ok (a0 : Int) (a1 : TApiSpan) (r : Bool) (h0 : reckon_Traps a0 a1 = some r) : CallsD Try.prog 9 [.v (.int .i64 a0), eTApiSpan a1] [] [] (fun d h k => d = .v (.bool r) ∧ h = [] ∧ k = []) := by
  have hm := yes_of h0
  unfold reckon_Traps at hm
  clear h0
  refine enterX htab Try.func9 rfl rfl rfl rfl rfl (fun C => ?_)
  refine wpD_seq ?_
  refine wpD_region ?_
  refine p_box rfl rfl rfl rfl rfl rfl rfl (fun b1 => ?_)
  refine p_pure htab rfl rfl rfl rfl ?_
  refine ops_nil ?_
  refine then_normal ?_
  refine wpD_seq ?_
  refine wpD_region ?_
  refine p_pure htab rfl rfl rfl rfl ?_
  refine p_pure htab rfl rfl rfl rfl ?_
  refine p_pure htab rfl rfl rfl rfl ?_
  refine p_split (i := 7) rfl (fun hg2 => ?_) (fun hg2 => ?_)
  · replace hm := yes_t hg2 hm
    refine p_skip rfl rfl rfl ?_
    refine p_skip rfl rfl rfl ?_
    refine p_pickT rfl rfl rfl rfl rfl rfl ?_
    refine p_pure htab rfl rfl rfl rfl ?_
    refine p_load (d := eTApiSpan a1) 0 htab rfl rfl rfl rfl rfl rfl rfl rfl ?_
    obtain ⟨x3, q3, hm⟩ := yes_bind hm
    refine p_call0 (span_Has_ok a1 (0 : Int) x3 q3) rfl rfl rfl rfl rfl (WkL.refl _) ?_
    rintro _ rfl
    refine p_pickT rfl rfl rfl rfl rfl rfl ?_
    refine p_pure htab rfl rfl rfl rfl ?_
    refine ops_nil ?_
    refine then_normal ?_
    refine wpD_ret ?_
    have er4 := yes_eq hm; subst er4
    refine retX.of (s' := ⟨[(4, .v (.bool x3))], [], []⟩) (WkS.perm (WkS.cons rfl (Wk.refl _) (WkS.nil)) (List.Perm.refl _) (List.Perm.refl _)) (retD_mk (hh := []) (.inl rfl) (resL_cons (resOne_tmp rfl) (resL_nil)) (List.nil_sublist _) (List.Sublist.refl _) ?_)
    exact ⟨rfl, rfl, rfl⟩
  · replace hm := yes_f hg2 hm
    refine p_pure htab rfl rfl rfl rfl ?_
    refine p_pure htab rfl rfl rfl rfl ?_
    refine p_pickF rfl rfl rfl rfl rfl rfl ?_
    refine p_pure htab rfl rfl rfl rfl ?_
    refine p_split (i := 11) rfl (fun hg5 => ?_) (fun hg5 => ?_)
    · replace hm := yes_t hg5 hm
      refine p_load (d := eTApiSpan a1) 0 htab rfl rfl rfl rfl rfl rfl rfl rfl ?_
      obtain ⟨x6, q6, hm⟩ := yes_bind hm
      refine p_call0 (span_Has_ok a1 (0 : Int) x6 q6) rfl rfl rfl rfl rfl (WkL.refl _) ?_
      rintro _ rfl
      refine p_pickT rfl rfl rfl rfl rfl rfl ?_
      refine p_pure htab rfl rfl rfl rfl ?_
      refine ops_nil ?_
      refine then_normal ?_
      refine wpD_ret ?_
      have er7 := yes_eq hm; subst er7
      refine retX.of (s' := ⟨[(4, .v (.bool x6))], [], []⟩) (WkS.perm (WkS.cons rfl (Wk.refl _) (WkS.nil)) (List.Perm.refl _) (List.Perm.refl _)) (retD_mk (hh := []) (.inl rfl) (resL_cons (resOne_tmp rfl) (resL_nil)) (List.nil_sublist _) (List.Sublist.refl _) ?_)
      exact ⟨rfl, rfl, rfl⟩
    · replace hm := yes_f hg5 hm
      refine p_skip rfl rfl rfl ?_
      refine p_skip rfl rfl rfl ?_
      refine p_pickF rfl rfl rfl rfl rfl rfl ?_
      refine p_pure htab rfl rfl rfl rfl ?_
      refine ops_nil ?_
      refine then_normal ?_
      refine wpD_ret ?_
      have er8 := yes_eq hm; subst er8
      refine retX.of (s' := ⟨[(4, .v (.bool false))], [], []⟩) (WkS.perm (WkS.cons rfl (Wk.refl _) (WkS.nil)) (List.Perm.refl _) (List.Perm.refl _)) (retD_mk (hh := []) (.inl rfl) (resL_cons (resOne_tmp rfl) (resL_nil)) (List.nil_sublist _) (List.Sublist.refl _) ?_)
      exact ⟨rfl, rfl, rfl⟩
end Go.Proofs.Ytebnbajjenpldaa.Ab
