/- Layers 2 and 6: what the functions compute. -/
import Derived.Test.YtjbpfgknhpdkaaaCg3
namespace Go.Proofs.Ytjbpfgknhpdkaaa.Ab
open Go
set_option linter.all false
structure T8Uint64 where
  g0 : Int
  g1 : Int
  g2 : Int
  g3 : Int
  g4 : Int
  g5 : Int
  g6 : Int
  g7 : Int
def eT8Uint64 (x : T8Uint64) : D := .agg [.v (.int .u64 x.g0), .v (.int .u64 x.g1), .v (.int .u64 x.g2), .v (.int .u64 x.g3), .v (.int .u64 x.g4), .v (.int .u64 x.g5), .v (.int .u64 x.g6), .v (.int .u64 x.g7)]
noncomputable def wrap_truth (a0 : Bool) : Option (Int) :=
  (bif a0 then some (1 : Int) else some (0 : Int))
set_option maxRecDepth 100000 in
set_option maxHeartbeats 2000000 in
theorem wrap_truth_ok (a0 : Bool) (r : Int) (h0 : wrap_truth a0 = some r) : CallsD Try.prog 54 [.v (.bool a0)] [] [] (fun d h k => d = .v (.int .i64 r) ∧ h = [] ∧ k = []) := by
  have hm := yes_of h0
  unfold wrap_truth at hm
  clear h0
  refine enterX htab Try.func54 rfl rfl rfl rfl rfl (fun C => ?_)
  refine wpD_seq ?_
  refine wpD_region ?_
  refine p_pure htab rfl rfl rfl rfl ?_
  refine ops_nil ?_
  refine then_normal ?_
  refine wpD_seq ?_
  refine wpD_seq ?_
  refine wpD_region ?_
  refine p_pure htab rfl rfl rfl rfl ?_
  refine ops_nil ?_
  refine then_normal ?_
  refine wpD_cond rfl (fun hc1 => ?_) (fun hc1 => ?_)
  · replace hm := yes_t hc1 hm
    refine wpD_seq ?_
    refine wpD_region ?_
    refine p_pure htab rfl rfl rfl rfl ?_
    refine ops_nil ?_
    refine then_normal ?_
    refine wpD_ret ?_
    refine then_ret ?_
    have er2 := yes_eq hm; subst er2
    refine retX.of (s' := ⟨[(2, .v (.int .i64 (1 : Int)))], [], []⟩) (WkS.perm (WkS.cons rfl (Wk.refl _) (WkS.nil)) (List.Perm.refl _) (List.Perm.refl _)) (retD_mk (hh := []) (.inl rfl) (resL_cons (resOne_tmp rfl) (resL_nil)) (List.nil_sublist _) (List.Sublist.refl _) ?_)
    exact ⟨rfl, rfl, rfl⟩
  · replace hm := yes_f hc1 hm
    refine wpD_skip ?_
    refine then_normal ?_
    refine wpD_seq ?_
    refine wpD_region ?_
    refine p_pure htab rfl rfl rfl rfl ?_
    refine ops_nil ?_
    refine then_normal ?_
    refine wpD_ret ?_
    have er3 := yes_eq hm; subst er3
    refine retX.of (s' := ⟨[(2, .v (.int .i64 (0 : Int)))], [], []⟩) (WkS.perm (WkS.cons rfl (Wk.refl _) (WkS.nil)) (List.Perm.refl _) (List.Perm.refl _)) (retD_mk (hh := []) (.inl rfl) (resL_cons (resOne_tmp rfl) (resL_nil)) (List.nil_sublist _) (List.Sublist.refl _) ?_)
    exact ⟨rfl, rfl, rfl⟩
noncomputable def wrap_Exact (a0 : Int) (a1 : Int) (a2 : Int) : Option (TApiWide × Bool) :=
  (bif (a0 == (10 : Int)) then ((need (pI a1)).bind fun x3 => ((need (pI a2)).bind fun x4 => ((need (pWW (wOf a1) (wOf a2))).bind fun x5 => some ((wAdd (wOf a1) (wOf a2)), true)))) else (bif (a0 == (11 : Int)) then ((need (pI a1)).bind fun x8 => ((need (pI a2)).bind fun x9 => ((need (pWW (wOf a1) (wOf a2))).bind fun x10 => some ((wSub (wOf a1) (wOf a2)), true)))) else (bif (a0 == (7 : Int)) then ((need (pII a1 a2)).bind fun x13 => some ((wMul a1 a2), true)) else some ((⟨(0 : Int), (0 : Int)⟩ : TApiWide), false))))
set_option maxRecDepth 100000 in
set_option maxHeartbeats 2000000 in
theorem wrap_Exact_ok (a0 : Int) (a1 : Int) (a2 : Int) (r : TApiWide × Bool) (h0 : wrap_Exact a0 a1 a2 = some r) : CallsD Try.prog 50 [.v (.int .i64 a0), .v (.int .i64 a1), .v (.int .i64 a2)] [] [] (fun d h k => d = .tup [eTApiWide r.1, .v (.bool r.2)] ∧ h = [] ∧ k = []) := by
  have hm := yes_of h0
  unfold wrap_Exact at hm
  clear h0
  refine enterX htab Try.func50 rfl rfl rfl rfl rfl (fun C => ?_)
  refine wpD_seq ?_
  refine wpD_region ?_
  refine p_alloc htab rfl rfl rfl rfl rfl rfl rfl (fun b1 => ?_)
  refine p_pure htab rfl rfl rfl rfl ?_
  refine ops_nil ?_
  refine then_normal ?_
  refine wpD_seq ?_
  refine wpD_seq ?_
  refine wpD_region ?_
  refine p_pure htab rfl rfl rfl rfl ?_
  refine ops_nil ?_
  refine then_normal ?_
  refine wpD_block ?_
  refine wpD_seq ?_
  refine wpD_region ?_
  refine p_pure htab rfl rfl rfl rfl ?_
  refine p_pure htab rfl rfl rfl rfl ?_
  refine ops_nil ?_
  refine then_normal ?_
  refine wpD_cond rfl (fun hc2 => ?_) (fun hc2 => ?_)
  · replace hm := yes_t hc2 hm
    refine wpD_seq ?_
    refine wpD_region ?_
    refine p_pure htab rfl rfl rfl rfl ?_
    obtain ⟨x3, q3, hm⟩ := yes_bind hm
    refine p_call0 (wOf_ok a1 (need_ok q3)) rfl rfl rfl rfl rfl (WkL.refl _) ?_
    rintro _ rfl
    refine p_pure htab rfl rfl rfl rfl ?_
    obtain ⟨x4, q4, hm⟩ := yes_bind hm
    refine p_call0 (wOf_ok a2 (need_ok q4)) rfl rfl rfl rfl rfl (WkL.refl _) ?_
    rintro _ rfl
    obtain ⟨x5, q5, hm⟩ := yes_bind hm
    refine p_call0 (wAdd_ok (wOf a1) (wOf a2) (need_ok q5)) rfl rfl rfl rfl rfl (WkL.refl _) ?_
    rintro _ rfl
    refine p_store (ds' := [.v (.int .i64 ((wAdd (wOf a1) (wOf a2)).gHi)), .v (.int .u64 ((wAdd (wOf a1) (wOf a2)).gLo))]) (h' := [(b1, Blk.cells [.v (.int .i64 ((wAdd (wOf a1) (wOf a2)).gHi)), .v (.int .u64 ((wAdd (wOf a1) (wOf a2)).gLo))] 54)]) 0 htab rfl rfl rfl rfl rfl rfl rfl rfl rfl rfl rfl rfl ?_
    refine p_pure htab rfl rfl rfl rfl ?_
    refine ops_nil ?_
    refine then_normal ?_
    refine wpD_ret ?_
    refine block_ret ?_
    refine then_ret ?_
    have er6 := yes_eq hm; subst er6
    refine retX.of (s' := ⟨[(6, .ptr b1 0), (7, .v (.bool true))], [(b1, Blk.cells [.v (.int .i64 ((wAdd (wOf a1) (wOf a2)).gHi)), .v (.int .u64 ((wAdd (wOf a1) (wOf a2)).gLo))] 54)], []⟩) (WkS.perm (WkS.cons rfl (Wk.refl _) (WkS.cons rfl (Wk.refl _) (WkS.nil))) (List.Perm.refl _) (List.Perm.refl _)) (retD_mk (hh := []) (.inl rfl) (resL_cons (resOne_cell 0 rfl rfl rfl rfl) (resL_cons (resOne_tmp rfl) (resL_nil))) (List.nil_sublist _) (List.Sublist.refl _) ?_)
    exact ⟨rfl, rfl, rfl⟩
  · replace hm := yes_f hc2 hm
    refine wpD_seq ?_
    refine wpD_region ?_
    refine p_pure htab rfl rfl rfl rfl ?_
    refine p_pure htab rfl rfl rfl rfl ?_
    refine ops_nil ?_
    refine then_normal ?_
    refine wpD_cond rfl (fun hc7 => ?_) (fun hc7 => ?_)
    · replace hm := yes_t hc7 hm
      refine wpD_seq ?_
      refine wpD_region ?_
      refine p_pure htab rfl rfl rfl rfl ?_
      obtain ⟨x8, q8, hm⟩ := yes_bind hm
      refine p_call0 (wOf_ok a1 (need_ok q8)) rfl rfl rfl rfl rfl (WkL.refl _) ?_
      rintro _ rfl
      refine p_pure htab rfl rfl rfl rfl ?_
      obtain ⟨x9, q9, hm⟩ := yes_bind hm
      refine p_call0 (wOf_ok a2 (need_ok q9)) rfl rfl rfl rfl rfl (WkL.refl _) ?_
      rintro _ rfl
      obtain ⟨x10, q10, hm⟩ := yes_bind hm
      refine p_call0 (wSub_ok (wOf a1) (wOf a2) (need_ok q10)) rfl rfl rfl rfl rfl (WkL.refl _) ?_
      rintro _ rfl
      refine p_store (ds' := [.v (.int .i64 ((wSub (wOf a1) (wOf a2)).gHi)), .v (.int .u64 ((wSub (wOf a1) (wOf a2)).gLo))]) (h' := [(b1, Blk.cells [.v (.int .i64 ((wSub (wOf a1) (wOf a2)).gHi)), .v (.int .u64 ((wSub (wOf a1) (wOf a2)).gLo))] 54)]) 0 htab rfl rfl rfl rfl rfl rfl rfl rfl rfl rfl rfl rfl ?_
      refine p_pure htab rfl rfl rfl rfl ?_
      refine ops_nil ?_
      refine then_normal ?_
      refine wpD_ret ?_
      refine block_ret ?_
      refine then_ret ?_
      have er11 := yes_eq hm; subst er11
      refine retX.of (s' := ⟨[(6, .ptr b1 0), (7, .v (.bool true))], [(b1, Blk.cells [.v (.int .i64 ((wSub (wOf a1) (wOf a2)).gHi)), .v (.int .u64 ((wSub (wOf a1) (wOf a2)).gLo))] 54)], []⟩) (WkS.perm (WkS.cons rfl (Wk.refl _) (WkS.cons rfl (Wk.refl _) (WkS.nil))) (List.Perm.refl _) (List.Perm.refl _)) (retD_mk (hh := []) (.inl rfl) (resL_cons (resOne_cell 0 rfl rfl rfl rfl) (resL_cons (resOne_tmp rfl) (resL_nil))) (List.nil_sublist _) (List.Sublist.refl _) ?_)
      exact ⟨rfl, rfl, rfl⟩
    · replace hm := yes_f hc7 hm
      refine wpD_seq ?_
      refine wpD_region ?_
      refine p_pure htab rfl rfl rfl rfl ?_
      refine p_pure htab rfl rfl rfl rfl ?_
      refine ops_nil ?_
      refine then_normal ?_
      refine wpD_cond rfl (fun hc12 => ?_) (fun hc12 => ?_)
      · replace hm := yes_t hc12 hm
        refine wpD_seq ?_
        refine wpD_region ?_
        refine p_pure htab rfl rfl rfl rfl ?_
        refine p_pure htab rfl rfl rfl rfl ?_
        obtain ⟨x13, q13, hm⟩ := yes_bind hm
        refine p_call0 (wMul_ok a1 a2 (need_ok q13)) rfl rfl rfl rfl rfl (WkL.refl _) ?_
        rintro _ rfl
        refine p_store (ds' := [.v (.int .i64 ((wMul a1 a2).gHi)), .v (.int .u64 ((wMul a1 a2).gLo))]) (h' := [(b1, Blk.cells [.v (.int .i64 ((wMul a1 a2).gHi)), .v (.int .u64 ((wMul a1 a2).gLo))] 54)]) 0 htab rfl rfl rfl rfl rfl rfl rfl rfl rfl rfl rfl rfl ?_
        refine p_pure htab rfl rfl rfl rfl ?_
        refine ops_nil ?_
        refine then_normal ?_
        refine wpD_ret ?_
        refine block_ret ?_
        refine then_ret ?_
        have er14 := yes_eq hm; subst er14
        refine retX.of (s' := ⟨[(6, .ptr b1 0), (7, .v (.bool true))], [(b1, Blk.cells [.v (.int .i64 ((wMul a1 a2).gHi)), .v (.int .u64 ((wMul a1 a2).gLo))] 54)], []⟩) (WkS.perm (WkS.cons rfl (Wk.refl _) (WkS.cons rfl (Wk.refl _) (WkS.nil))) (List.Perm.refl _) (List.Perm.refl _)) (retD_mk (hh := []) (.inl rfl) (resL_cons (resOne_cell 0 rfl rfl rfl rfl) (resL_cons (resOne_tmp rfl) (resL_nil))) (List.nil_sublist _) (List.Sublist.refl _) ?_)
        exact ⟨rfl, rfl, rfl⟩
      · replace hm := yes_f hc12 hm
        refine wpD_skip ?_
        refine block_normal ?_
        refine then_normal ?_
        refine wpD_seq ?_
        refine wpD_region ?_
        refine p_build (r := [.v (.int .i64 (0 : Int)), .v (.int .u64 (0 : Int))]) htab rfl rfl rfl rfl rfl rfl rfl rfl rfl ?_
        refine p_store (ds' := [.v (.int .i64 (0 : Int)), .v (.int .u64 (0 : Int))]) (h' := [(b1, Blk.cells [.v (.int .i64 (0 : Int)), .v (.int .u64 (0 : Int))] 54)]) 0 htab rfl rfl rfl rfl rfl rfl rfl rfl rfl rfl rfl rfl ?_
        refine p_pure htab rfl rfl rfl rfl ?_
        refine ops_nil ?_
        refine then_normal ?_
        refine wpD_ret ?_
        have er15 := yes_eq hm; subst er15
        refine retX.of (s' := ⟨[(6, .ptr b1 0), (7, .v (.bool false))], [(b1, Blk.cells [.v (.int .i64 (0 : Int)), .v (.int .u64 (0 : Int))] 54)], []⟩) (WkS.perm (WkS.cons rfl (Wk.refl _) (WkS.cons rfl (Wk.refl _) (WkS.nil))) (List.Perm.refl _) (List.Perm.refl _)) (retD_mk (hh := []) (.inl rfl) (resL_cons (resOne_cell 0 rfl rfl rfl rfl) (resL_cons (resOne_tmp rfl) (resL_nil))) (List.nil_sublist _) (List.Sublist.refl _) ?_)
        exact ⟨rfl, rfl, rfl⟩
noncomputable def wrap_parts (a0 : Int) (a1 : Int) (a2 : Int) : Option (Int × Int) :=
  (bif (a2 == (0 : Int)) then some ((0 : Int), (10 : Int)) else (bif (a2 == (-1 : Int)) then (bif (a0 == (8 : Int)) then some ((IntKind.i64.wrap (0 - a1)), (0 : Int)) else some ((0 : Int), (0 : Int))) else (bif (a0 == (8 : Int)) then ((need (a2 != 0)).bind fun x25 => some ((IntKind.i64.wrap (a1.tdiv a2)), (0 : Int))) else ((need (a2 != 0)).bind fun x27 => some ((a1.tmod a2), (0 : Int))))))
set_option maxRecDepth 100000 in
set_option maxHeartbeats 2000000 in
theorem wrap_parts_ok (a0 : Int) (a1 : Int) (a2 : Int) (r : Int × Int) (h0 : wrap_parts a0 a1 a2 = some r) : CallsD Try.prog 52 [.v (.int .i64 a0), .v (.int .i64 a1), .v (.int .i64 a2)] [] [] (fun d h k => d = .tup [.v (.int .i64 r.1), .v (.int .i64 r.2)] ∧ h = [] ∧ k = []) := by
  have hm := yes_of h0
  unfold wrap_parts at hm
  clear h0
  refine enterX htab Try.func52 rfl rfl rfl rfl rfl (fun C => ?_)
  refine wpD_seq ?_
  refine wpD_region ?_
  refine p_pure htab rfl rfl rfl rfl ?_
  refine p_pure htab rfl rfl rfl rfl ?_
  refine ops_nil ?_
  refine then_normal ?_
  refine wpD_seq ?_
  refine wpD_block ?_
  refine wpD_seq ?_
  refine wpD_region ?_
  refine p_pure htab rfl rfl rfl rfl ?_
  refine p_pure htab rfl rfl rfl rfl ?_
  refine p_pure htab rfl rfl rfl rfl ?_
  refine ops_nil ?_
  refine then_normal ?_
  refine wpD_cond rfl (fun hc11 => ?_) (fun hc11 => ?_)
  · replace hm := yes_t hc11 hm
    refine wpD_seq ?_
    refine wpD_region ?_
    refine p_pure htab rfl rfl rfl rfl ?_
    refine p_pure htab rfl rfl rfl rfl ?_
    refine ops_nil ?_
    refine then_normal ?_
    refine wpD_ret ?_
    refine block_ret ?_
    refine then_ret ?_
    have er12 := yes_eq hm; subst er12
    refine retX.of (s' := ⟨[(6, .v (.int .i64 (0 : Int))), (7, .v (.int .i64 (10 : Int)))], [], []⟩) (WkS.perm (WkS.cons rfl (Wk.refl _) (WkS.cons rfl (Wk.refl _) (WkS.nil))) (List.Perm.refl _) (List.Perm.refl _)) (retD_mk (hh := []) (.inl rfl) (resL_cons (resOne_tmp rfl) (resL_cons (resOne_tmp rfl) (resL_nil))) (List.nil_sublist _) (List.Sublist.refl _) ?_)
    exact ⟨rfl, rfl, rfl⟩
  · replace hm := yes_f hc11 hm
    refine wpD_seq ?_
    refine wpD_region ?_
    refine p_pure htab rfl rfl rfl rfl ?_
    refine p_pure htab rfl rfl rfl rfl ?_
    refine p_pure htab rfl rfl rfl rfl ?_
    refine ops_nil ?_
    refine then_normal ?_
    refine wpD_cond rfl (fun hc17 => ?_) (fun hc17 => ?_)
    · replace hm := yes_t hc17 hm
      refine wpD_seq ?_
      refine wpD_seq ?_
      refine wpD_region ?_
      refine p_pure htab rfl rfl rfl rfl ?_
      refine p_pure htab rfl rfl rfl rfl ?_
      refine ops_nil ?_
      refine then_normal ?_
      refine wpD_cond rfl (fun hc19 => ?_) (fun hc19 => ?_)
      · replace hm := yes_t hc19 hm
        refine wpD_seq ?_
        refine wpD_region ?_
        refine p_pure htab rfl rfl rfl rfl ?_
        refine p_pure htab rfl rfl rfl rfl ?_
        refine p_pure htab rfl rfl rfl rfl ?_
        refine p_pure htab rfl rfl rfl rfl ?_
        refine ops_nil ?_
        refine then_normal ?_
        refine wpD_ret ?_
        refine then_ret ?_
        refine block_ret ?_
        refine then_ret ?_
        have er20 := yes_eq hm; subst er20
        refine retX.of (s' := ⟨[(6, .v (.int .i64 (IntKind.i64.wrap (0 - a1)))), (7, .v (.int .i64 (0 : Int)))], [], []⟩) (WkS.perm (WkS.cons rfl (Wk.refl _) (WkS.cons rfl (Wk.refl _) (WkS.nil))) (List.Perm.refl _) (List.Perm.refl _)) (retD_mk (hh := []) (.inl rfl) (resL_cons (resOne_tmp rfl) (resL_cons (resOne_tmp rfl) (resL_nil))) (List.nil_sublist _) (List.Sublist.refl _) ?_)
        exact ⟨rfl, rfl, rfl⟩
      · replace hm := yes_f hc19 hm
        refine wpD_skip ?_
        refine then_normal ?_
        refine wpD_seq ?_
        refine wpD_region ?_
        refine p_pure htab rfl rfl rfl rfl ?_
        refine p_pure htab rfl rfl rfl rfl ?_
        refine ops_nil ?_
        refine then_normal ?_
        refine wpD_ret ?_
        refine block_ret ?_
        refine then_ret ?_
        have er21 := yes_eq hm; subst er21
        refine retX.of (s' := ⟨[(6, .v (.int .i64 (0 : Int))), (7, .v (.int .i64 (0 : Int)))], [], []⟩) (WkS.perm (WkS.cons rfl (Wk.refl _) (WkS.cons rfl (Wk.refl _) (WkS.nil))) (List.Perm.refl _) (List.Perm.refl _)) (retD_mk (hh := []) (.inl rfl) (resL_cons (resOne_tmp rfl) (resL_cons (resOne_tmp rfl) (resL_nil))) (List.nil_sublist _) (List.Sublist.refl _) ?_)
        exact ⟨rfl, rfl, rfl⟩
    · replace hm := yes_f hc17 hm
      refine wpD_seq ?_
      refine wpD_region ?_
      refine p_pure htab rfl rfl rfl rfl ?_
      refine p_pure htab rfl rfl rfl rfl ?_
      refine p_pure htab rfl rfl rfl rfl ?_
      refine ops_nil ?_
      refine then_normal ?_
      refine wpD_cond rfl (fun hc24 => ?_) (fun hc24 => ?_)
      · replace hm := yes_t hc24 hm
        refine wpD_seq ?_
        refine wpD_region ?_
        refine p_pure htab rfl rfl rfl rfl ?_
        refine p_pure htab rfl rfl rfl rfl ?_
        obtain ⟨x25, q25, hm⟩ := yes_bind hm
        refine p_div rfl rfl rfl rfl rfl rfl rfl (by simpa using need_ok q25) ?_
        refine p_pure htab rfl rfl rfl rfl ?_
        refine p_pure htab rfl rfl rfl rfl ?_
        refine ops_nil ?_
        refine then_normal ?_
        refine wpD_ret ?_
        refine block_ret ?_
        refine then_ret ?_
        have er26 := yes_eq hm; subst er26
        refine retX.of (s' := ⟨[(6, .v (.int .i64 (IntKind.i64.wrap (a1.tdiv a2)))), (7, .v (.int .i64 (0 : Int)))], [], []⟩) (WkS.perm (WkS.cons rfl (Wk.refl _) (WkS.cons rfl (Wk.refl _) (WkS.nil))) (List.Perm.refl _) (List.Perm.refl _)) (retD_mk (hh := []) (.inl rfl) (resL_cons (resOne_tmp rfl) (resL_cons (resOne_tmp rfl) (resL_nil))) (List.nil_sublist _) (List.Sublist.refl _) ?_)
        exact ⟨rfl, rfl, rfl⟩
      · replace hm := yes_f hc24 hm
        refine wpD_skip ?_
        refine block_normal ?_
        refine then_normal ?_
        refine wpD_seq ?_
        refine wpD_region ?_
        refine p_pure htab rfl rfl rfl rfl ?_
        refine p_pure htab rfl rfl rfl rfl ?_
        obtain ⟨x27, q27, hm⟩ := yes_bind hm
        refine p_div rfl rfl rfl rfl rfl rfl rfl (by simpa using need_ok q27) ?_
        refine p_pure htab rfl rfl rfl rfl ?_
        refine p_pure htab rfl rfl rfl rfl ?_
        refine ops_nil ?_
        refine then_normal ?_
        refine wpD_ret ?_
        have er28 := yes_eq hm; subst er28
        refine retX.of (s' := ⟨[(6, .v (.int .i64 (a1.tmod a2))), (7, .v (.int .i64 (0 : Int)))], [], []⟩) (WkS.perm (WkS.cons rfl (Wk.refl _) (WkS.cons rfl (Wk.refl _) (WkS.nil))) (List.Perm.refl _) (List.Perm.refl _)) (retD_mk (hh := []) (.inl rfl) (resL_cons (resOne_tmp rfl) (resL_cons (resOne_tmp rfl) (resL_nil))) (List.nil_sublist _) (List.Sublist.refl _) ?_)
        exact ⟨rfl, rfl, rfl⟩
noncomputable def wrap_holds (a0 : Int) (a1 : Int) (a2 : Int) : Option (Bool × Bool) :=
  (bif (a0 == (12 : Int)) then some ((decide (a1 < a2)), true) else (bif (a0 == (13 : Int)) then some ((decide (a1 ≤ a2)), true) else (bif (a0 == (14 : Int)) then some ((a1 == a2), true) else (bif (a0 == (15 : Int)) then some ((a1 != a2), true) else (bif (a0 == (16 : Int)) then (Option.bind (α := Bool) (bif (a1 != (0 : Int)) then some (a2 != (0 : Int)) else some false) fun y49 => some (y49, true)) else (bif (a0 == (17 : Int)) then (Option.bind (α := Bool) (bif (a1 != (0 : Int)) then some true else some (a2 != (0 : Int))) fun y56 => some (y56, true)) else some (false, false)))))))
set_option maxRecDepth 100000 in
set_option maxHeartbeats 2000000 in
theorem wrap_holds_ok (a0 : Int) (a1 : Int) (a2 : Int) (r : Bool × Bool) (h0 : wrap_holds a0 a1 a2 = some r) : CallsD Try.prog 53 [.v (.int .i64 a0), .v (.int .i64 a1), .v (.int .i64 a2)] [] [] (fun d h k => d = .tup [.v (.bool r.1), .v (.bool r.2)] ∧ h = [] ∧ k = []) := by
  have hm := yes_of h0
  unfold wrap_holds at hm
  clear h0
  refine enterX htab Try.func53 rfl rfl rfl rfl rfl (fun C => ?_)
  refine wpD_seq ?_
  refine wpD_region ?_
  refine p_pure htab rfl rfl rfl rfl ?_
  refine p_pure htab rfl rfl rfl rfl ?_
  refine ops_nil ?_
  refine then_normal ?_
  refine wpD_scope 4 (jumpsD_succ ?_)
  refine wpD_seq ?_
  refine wpD_region ?_
  refine p_pure htab rfl rfl rfl rfl ?_
  refine ops_nil ?_
  refine then_normal ?_
  refine wpD_seq ?_
  refine wpD_seq ?_
  refine wpD_region ?_
  refine p_pure htab rfl rfl rfl rfl ?_
  refine ops_nil ?_
  refine then_normal ?_
  refine wpD_block ?_
  refine wpD_seq ?_
  refine wpD_region ?_
  refine p_pure htab rfl rfl rfl rfl ?_
  refine p_pure htab rfl rfl rfl rfl ?_
  refine ops_nil ?_
  refine then_normal ?_
  refine wpD_cond rfl (fun hc17 => ?_) (fun hc17 => ?_)
  · replace hm := yes_t hc17 hm
    refine wpD_seq ?_
    refine wpD_region ?_
    refine p_pure htab rfl rfl rfl rfl ?_
    refine p_pure htab rfl rfl rfl rfl ?_
    refine p_pure htab rfl rfl rfl rfl ?_
    refine p_pure htab rfl rfl rfl rfl ?_
    refine ops_nil ?_
    refine then_normal ?_
    refine wpD_goto ?_
    refine block_goto ?_
    refine then_goto ?_
    refine scope_goto rfl (jumpsD_succ ?_)
    refine wpD_seq ?_
    refine wpD_skip ?_
    refine then_normal ?_
    refine wpD_seq ?_
    refine wpD_region ?_
    refine p_pure htab rfl rfl rfl rfl ?_
    refine p_pure htab rfl rfl rfl rfl ?_
    refine p_pure htab rfl rfl rfl rfl ?_
    refine ops_nil ?_
    refine then_normal ?_
    refine wpD_ret ?_
    refine scope_ret ?_
    have er18 := yes_eq hm; subst er18
    refine retX.of (s' := ⟨[(6, .v (.bool (decide (a1 < a2)))), (7, .v (.bool true))], [], []⟩) (WkS.perm (WkS.cons rfl (Wk.refl _) (WkS.cons rfl (Wk.refl _) (WkS.nil))) (List.Perm.refl _) (List.Perm.refl _)) (retD_mk (hh := []) (.inl rfl) (resL_cons (resOne_tmp rfl) (resL_cons (resOne_tmp rfl) (resL_nil))) (List.nil_sublist _) (List.Sublist.refl _) ?_)
    exact ⟨rfl, rfl, rfl⟩
  · replace hm := yes_f hc17 hm
    refine wpD_seq ?_
    refine wpD_region ?_
    refine p_pure htab rfl rfl rfl rfl ?_
    refine p_pure htab rfl rfl rfl rfl ?_
    refine ops_nil ?_
    refine then_normal ?_
    refine wpD_cond rfl (fun hc26 => ?_) (fun hc26 => ?_)
    · replace hm := yes_t hc26 hm
      refine wpD_seq ?_
      refine wpD_region ?_
      refine p_pure htab rfl rfl rfl rfl ?_
      refine p_pure htab rfl rfl rfl rfl ?_
      refine p_pure htab rfl rfl rfl rfl ?_
      refine p_pure htab rfl rfl rfl rfl ?_
      refine ops_nil ?_
      refine then_normal ?_
      refine wpD_goto ?_
      refine block_goto ?_
      refine then_goto ?_
      refine scope_goto rfl (jumpsD_succ ?_)
      refine wpD_seq ?_
      refine wpD_skip ?_
      refine then_normal ?_
      refine wpD_seq ?_
      refine wpD_region ?_
      refine p_pure htab rfl rfl rfl rfl ?_
      refine p_pure htab rfl rfl rfl rfl ?_
      refine p_pure htab rfl rfl rfl rfl ?_
      refine ops_nil ?_
      refine then_normal ?_
      refine wpD_ret ?_
      refine scope_ret ?_
      have er27 := yes_eq hm; subst er27
      refine retX.of (s' := ⟨[(6, .v (.bool (decide (a1 ≤ a2)))), (7, .v (.bool true))], [], []⟩) (WkS.perm (WkS.cons rfl (Wk.refl _) (WkS.cons rfl (Wk.refl _) (WkS.nil))) (List.Perm.refl _) (List.Perm.refl _)) (retD_mk (hh := []) (.inl rfl) (resL_cons (resOne_tmp rfl) (resL_cons (resOne_tmp rfl) (resL_nil))) (List.nil_sublist _) (List.Sublist.refl _) ?_)
      exact ⟨rfl, rfl, rfl⟩
    · replace hm := yes_f hc26 hm
      refine wpD_seq ?_
      refine wpD_region ?_
      refine p_pure htab rfl rfl rfl rfl ?_
      refine p_pure htab rfl rfl rfl rfl ?_
      refine ops_nil ?_
      refine then_normal ?_
      refine wpD_cond rfl (fun hc34 => ?_) (fun hc34 => ?_)
      · replace hm := yes_t hc34 hm
        refine wpD_seq ?_
        refine wpD_region ?_
        refine p_pure htab rfl rfl rfl rfl ?_
        refine p_pure htab rfl rfl rfl rfl ?_
        refine p_pure htab rfl rfl rfl rfl ?_
        refine p_pure htab rfl rfl rfl rfl ?_
        refine ops_nil ?_
        refine then_normal ?_
        refine wpD_goto ?_
        refine block_goto ?_
        refine then_goto ?_
        refine scope_goto rfl (jumpsD_succ ?_)
        refine wpD_seq ?_
        refine wpD_skip ?_
        refine then_normal ?_
        refine wpD_seq ?_
        refine wpD_region ?_
        refine p_pure htab rfl rfl rfl rfl ?_
        refine p_pure htab rfl rfl rfl rfl ?_
        refine p_pure htab rfl rfl rfl rfl ?_
        refine ops_nil ?_
        refine then_normal ?_
        refine wpD_ret ?_
        refine scope_ret ?_
        have er35 := yes_eq hm; subst er35
        refine retX.of (s' := ⟨[(6, .v (.bool (a1 == a2))), (7, .v (.bool true))], [], []⟩) (WkS.perm (WkS.cons rfl (Wk.refl _) (WkS.cons rfl (Wk.refl _) (WkS.nil))) (List.Perm.refl _) (List.Perm.refl _)) (retD_mk (hh := []) (.inl rfl) (resL_cons (resOne_tmp rfl) (resL_cons (resOne_tmp rfl) (resL_nil))) (List.nil_sublist _) (List.Sublist.refl _) ?_)
        exact ⟨rfl, rfl, rfl⟩
      · replace hm := yes_f hc34 hm
        refine wpD_seq ?_
        refine wpD_region ?_
        refine p_pure htab rfl rfl rfl rfl ?_
        refine p_pure htab rfl rfl rfl rfl ?_
        refine ops_nil ?_
        refine then_normal ?_
        refine wpD_cond rfl (fun hc41 => ?_) (fun hc41 => ?_)
        · replace hm := yes_t hc41 hm
          refine wpD_seq ?_
          refine wpD_region ?_
          refine p_pure htab rfl rfl rfl rfl ?_
          refine p_pure htab rfl rfl rfl rfl ?_
          refine p_pure htab rfl rfl rfl rfl ?_
          refine p_pure htab rfl rfl rfl rfl ?_
          refine ops_nil ?_
          refine then_normal ?_
          refine wpD_goto ?_
          refine block_goto ?_
          refine then_goto ?_
          refine scope_goto rfl (jumpsD_succ ?_)
          refine wpD_seq ?_
          refine wpD_skip ?_
          refine then_normal ?_
          refine wpD_seq ?_
          refine wpD_region ?_
          refine p_pure htab rfl rfl rfl rfl ?_
          refine p_pure htab rfl rfl rfl rfl ?_
          refine p_pure htab rfl rfl rfl rfl ?_
          refine ops_nil ?_
          refine then_normal ?_
          refine wpD_ret ?_
          refine scope_ret ?_
          have er42 := yes_eq hm; subst er42
          refine retX.of (s' := ⟨[(6, .v (.bool (a1 != a2))), (7, .v (.bool true))], [], []⟩) (WkS.perm (WkS.cons rfl (Wk.refl _) (WkS.cons rfl (Wk.refl _) (WkS.nil))) (List.Perm.refl _) (List.Perm.refl _)) (retD_mk (hh := []) (.inl rfl) (resL_cons (resOne_tmp rfl) (resL_cons (resOne_tmp rfl) (resL_nil))) (List.nil_sublist _) (List.Sublist.refl _) ?_)
          exact ⟨rfl, rfl, rfl⟩
        · replace hm := yes_f hc41 hm
          refine wpD_seq ?_
          refine wpD_region ?_
          refine p_pure htab rfl rfl rfl rfl ?_
          refine p_pure htab rfl rfl rfl rfl ?_
          refine ops_nil ?_
          refine then_normal ?_
          refine wpD_cond rfl (fun hc47 => ?_) (fun hc47 => ?_)
          · replace hm := yes_t hc47 hm
            refine wpD_seq ?_
            obtain ⟨y49, q49, ho49⟩ := yes_bind hm
            refine wpD_mid (Y := Unit) (fun z49 => (⟨[(8, .v (.bool y49))], [], []⟩ : S)) ?_ ?_
            · clear hm; have hm := yes_of q49
              refine wpD_region ?_
              refine p_pure htab rfl rfl rfl rfl ?_
              refine p_pure htab rfl rfl rfl rfl ?_
              refine p_pure htab rfl rfl rfl rfl ?_
              refine p_split (i := 34) rfl (fun hg50 => ?_) (fun hg50 => ?_)
              · replace hm := yes_t hg50 hm
                refine p_pure htab rfl rfl rfl rfl ?_
                refine p_pure htab rfl rfl rfl rfl ?_
                refine p_pickT rfl rfl rfl rfl rfl rfl ?_
                refine p_pure htab rfl rfl rfl rfl ?_
                refine ops_nil ?_
                have e49 := yes_eq hm; subst e49
                refine ⟨rfl, ?_⟩
                exact WkX.of () (WkS.perm (WkS.cons rfl (Wk.refl _) (WkS.nil)) (List.Perm.refl _) (List.Perm.refl _))
              · replace hm := yes_f hg50 hm
                refine p_skip rfl rfl rfl ?_
                refine p_skip rfl rfl rfl ?_
                refine p_pickF rfl rfl rfl rfl rfl rfl ?_
                refine p_pure htab rfl rfl rfl rfl ?_
                refine ops_nil ?_
                have e49 := yes_eq hm; subst e49
                refine ⟨rfl, ?_⟩
                exact WkX.of () (WkS.perm (WkS.cons rfl (Wk.refl _) (WkS.nil)) (List.Perm.refl _) (List.Perm.refl _))
            · intro s49 hw49; clear hm; have hm := ho49; clear q49 ho49
              refine then_normal ?_
              refine wpD_wkX hw49 (fun z49 => ?_)
              refine wpD_goto ?_
              refine block_goto ?_
              refine then_goto ?_
              refine scope_goto rfl (jumpsD_succ ?_)
              refine wpD_seq ?_
              refine wpD_skip ?_
              refine then_normal ?_
              refine wpD_seq ?_
              refine wpD_region ?_
              refine p_pure htab rfl rfl rfl rfl ?_
              refine p_pure htab rfl rfl rfl rfl ?_
              refine p_pure htab rfl rfl rfl rfl ?_
              refine ops_nil ?_
              refine then_normal ?_
              refine wpD_ret ?_
              refine scope_ret ?_
              have er51 := yes_eq hm; subst er51
              refine retX.of (s' := ⟨[(6, .v (.bool y49)), (7, .v (.bool true))], [], []⟩) (WkS.perm (WkS.cons rfl (Wk.refl _) (WkS.cons rfl (Wk.refl _) (WkS.nil))) (List.Perm.refl _) (List.Perm.refl _)) (retD_mk (hh := []) (.inl rfl) (resL_cons (resOne_tmp rfl) (resL_cons (resOne_tmp rfl) (resL_nil))) (List.nil_sublist _) (List.Sublist.refl _) ?_)
              exact ⟨rfl, rfl, rfl⟩
          · replace hm := yes_f hc47 hm
            refine wpD_seq ?_
            refine wpD_region ?_
            refine p_pure htab rfl rfl rfl rfl ?_
            refine p_pure htab rfl rfl rfl rfl ?_
            refine ops_nil ?_
            refine then_normal ?_
            refine wpD_cond rfl (fun hc54 => ?_) (fun hc54 => ?_)
            · replace hm := yes_t hc54 hm
              refine wpD_seq ?_
              obtain ⟨y56, q56, ho56⟩ := yes_bind hm
              refine wpD_mid (Y := Unit) (fun z56 => (⟨[(8, .v (.bool y56))], [], []⟩ : S)) ?_ ?_
              · clear hm; have hm := yes_of q56
                refine wpD_region ?_
                refine p_pure htab rfl rfl rfl rfl ?_
                refine p_pure htab rfl rfl rfl rfl ?_
                refine p_pure htab rfl rfl rfl rfl ?_
                refine p_split (i := 42) rfl (fun hg57 => ?_) (fun hg57 => ?_)
                · replace hm := yes_t hg57 hm
                  refine p_skip rfl rfl rfl ?_
                  refine p_skip rfl rfl rfl ?_
                  refine p_pickT rfl rfl rfl rfl rfl rfl ?_
                  refine p_pure htab rfl rfl rfl rfl ?_
                  refine ops_nil ?_
                  have e56 := yes_eq hm; subst e56
                  refine ⟨rfl, ?_⟩
                  exact WkX.of () (WkS.perm (WkS.cons rfl (Wk.refl _) (WkS.nil)) (List.Perm.refl _) (List.Perm.refl _))
                · replace hm := yes_f hg57 hm
                  refine p_pure htab rfl rfl rfl rfl ?_
                  refine p_pure htab rfl rfl rfl rfl ?_
                  refine p_pickF rfl rfl rfl rfl rfl rfl ?_
                  refine p_pure htab rfl rfl rfl rfl ?_
                  refine ops_nil ?_
                  have e56 := yes_eq hm; subst e56
                  refine ⟨rfl, ?_⟩
                  exact WkX.of () (WkS.perm (WkS.cons rfl (Wk.refl _) (WkS.nil)) (List.Perm.refl _) (List.Perm.refl _))
              · intro s56 hw56; clear hm; have hm := ho56; clear q56 ho56
                refine then_normal ?_
                refine wpD_wkX hw56 (fun z56 => ?_)
                refine wpD_goto ?_
                refine block_goto ?_
                refine then_goto ?_
                refine scope_goto rfl (jumpsD_succ ?_)
                refine wpD_seq ?_
                refine wpD_skip ?_
                refine then_normal ?_
                refine wpD_seq ?_
                refine wpD_region ?_
                refine p_pure htab rfl rfl rfl rfl ?_
                refine p_pure htab rfl rfl rfl rfl ?_
                refine p_pure htab rfl rfl rfl rfl ?_
                refine ops_nil ?_
                refine then_normal ?_
                refine wpD_ret ?_
                refine scope_ret ?_
                have er58 := yes_eq hm; subst er58
                refine retX.of (s' := ⟨[(6, .v (.bool y56)), (7, .v (.bool true))], [], []⟩) (WkS.perm (WkS.cons rfl (Wk.refl _) (WkS.cons rfl (Wk.refl _) (WkS.nil))) (List.Perm.refl _) (List.Perm.refl _)) (retD_mk (hh := []) (.inl rfl) (resL_cons (resOne_tmp rfl) (resL_cons (resOne_tmp rfl) (resL_nil))) (List.nil_sublist _) (List.Sublist.refl _) ?_)
                exact ⟨rfl, rfl, rfl⟩
            · replace hm := yes_f hc54 hm
              refine wpD_skip ?_
              refine block_normal ?_
              refine then_normal ?_
              refine wpD_seq ?_
              refine wpD_seq ?_
              refine wpD_region ?_
              refine p_pure htab rfl rfl rfl rfl ?_
              refine p_pure htab rfl rfl rfl rfl ?_
              refine ops_nil ?_
              refine then_normal ?_
              refine wpD_ret ?_
              refine then_ret ?_
              refine scope_ret ?_
              have er59 := yes_eq hm; subst er59
              refine retX.of (s' := ⟨[(6, .v (.bool false)), (7, .v (.bool false))], [], []⟩) (WkS.perm (WkS.cons rfl (Wk.refl _) (WkS.cons rfl (Wk.refl _) (WkS.nil))) (List.Perm.refl _) (List.Perm.refl _)) (retD_mk (hh := []) (.inl rfl) (resL_cons (resOne_tmp rfl) (resL_cons (resOne_tmp rfl) (resL_nil))) (List.nil_sublist _) (List.Sublist.refl _) ?_)
              exact ⟨rfl, rfl, rfl⟩
noncomputable def wrap_Do (a0 : Int) (a1 : Int) (a2 : Int) : Option (Int × Int) :=
  ((wrap_Exact a0 a1 a2).bind fun x1 => (bif x1.2 then ((need (pW x1.1)).bind fun x6 => some ((wLow x1.1), (0 : Int))) else (Option.bind (α := Bool) (bif (a0 == (8 : Int)) then some true else some (a0 == (9 : Int))) fun y9 => (bif y9 then ((wrap_parts a0 a1 a2).bind fun x14 => some (x14.1, x14.2)) else ((wrap_holds a0 a1 a2).bind fun x16 => (bif (!x16.2) then some ((0 : Int), (2 : Int)) else ((wrap_truth x16.1).bind fun x20 => some (x20, (0 : Int)))))))))
set_option maxRecDepth 100000 in
set_option maxHeartbeats 2000000 in
theorem wrap_Do_ok (a0 : Int) (a1 : Int) (a2 : Int) (r : Int × Int) (h0 : wrap_Do a0 a1 a2 = some r) : CallsD Try.prog 16 [.v (.int .i64 a0), .v (.int .i64 a1), .v (.int .i64 a2)] [] [] (fun d h k => d = .tup [.v (.int .i64 r.1), .v (.int .i64 r.2)] ∧ h = [] ∧ k = []) := by
  have hm := yes_of h0
  unfold wrap_Do at hm
  clear h0
  refine enterX htab Try.func16 rfl rfl rfl rfl rfl (fun C => ?_)
  refine wpD_seq ?_
  refine wpD_region ?_
  refine p_pure htab rfl rfl rfl rfl ?_
  refine p_pure htab rfl rfl rfl rfl ?_
  refine ops_nil ?_
  refine then_normal ?_
  refine wpD_seq ?_
  refine wpD_seq ?_
  refine wpD_region ?_
  refine p_pure htab rfl rfl rfl rfl ?_
  refine p_pure htab rfl rfl rfl rfl ?_
  refine p_pure htab rfl rfl rfl rfl ?_
  obtain ⟨x1, q1, hm⟩ := yes_bind hm
  refine p_call0 (wrap_Exact_ok a0 a1 a2 x1 q1) rfl rfl rfl rfl rfl (WkL.refl _) ?_
  rintro _ rfl
  refine p_pure htab rfl rfl rfl rfl ?_
  refine p_pure htab rfl rfl rfl rfl ?_
  refine p_pure htab rfl rfl rfl rfl ?_
  refine p_alloc htab rfl rfl rfl rfl rfl rfl rfl (fun b2 => ?_)
  refine p_store (ds' := [.v (.int .i64 x1.1.gHi), .v (.int .u64 x1.1.gLo)]) (h' := [(b2, Blk.cells [.v (.int .i64 x1.1.gHi), .v (.int .u64 x1.1.gLo)] 54)]) 0 htab rfl rfl rfl rfl rfl rfl rfl rfl rfl rfl rfl rfl ?_
  refine p_pure htab rfl rfl rfl rfl ?_
  refine ops_nil ?_
  refine then_normal ?_
  refine wpD_seq ?_
  refine wpD_region ?_
  refine p_pure htab rfl rfl rfl rfl ?_
  refine ops_nil ?_
  refine then_normal ?_
  refine wpD_cond rfl (fun hc5 => ?_) (fun hc5 => ?_)
  · replace hm := yes_t hc5 hm
    refine wpD_seq ?_
    refine wpD_region ?_
    refine p_load (d := eTApiWide x1.1) 0 htab rfl rfl rfl rfl rfl rfl rfl rfl ?_
    obtain ⟨x6, q6, hm⟩ := yes_bind hm
    refine p_call0 (wLow_ok x1.1 (need_ok q6)) rfl rfl rfl rfl rfl (WkL.refl _) ?_
    rintro _ rfl
    refine p_pure htab rfl rfl rfl rfl ?_
    refine p_pure htab rfl rfl rfl rfl ?_
    refine ops_nil ?_
    refine then_normal ?_
    refine wpD_ret ?_
    refine then_ret ?_
    have er7 := yes_eq hm; subst er7
    refine retX.of (s' := ⟨[(6, .v (.int .i64 (wLow x1.1))), (7, .v (.int .i64 (0 : Int)))], [], []⟩) (WkS.perm (WkS.cons rfl (Wk.refl _) (WkS.cons rfl (Wk.refl _) (WkS.nil))) (List.Perm.refl _) (List.Perm.refl _)) (retD_mk (hh := []) (.inl rfl) (resL_cons (resOne_tmp rfl) (resL_cons (resOne_tmp rfl) (resL_nil))) (List.nil_sublist _) (List.Sublist.refl _) ?_)
    exact ⟨rfl, rfl, rfl⟩
  · replace hm := yes_f hc5 hm
    refine wpD_skip ?_
    refine then_normal ?_
    refine wpD_seq ?_
    refine wpD_seq ?_
    obtain ⟨y9, q9, ho9⟩ := yes_bind hm
    refine wpD_mid (Y := Unit) (fun z9 => (⟨[(0, .v (.int .i64 a0)), (1, .v (.int .i64 a1)), (2, .v (.int .i64 a2)), (27, .v (.bool y9))], [(b2, Blk.cells [.v (.int .i64 x1.1.gHi), .v (.int .u64 x1.1.gLo)] 54)], []⟩ : S)) ?_ ?_
    · clear hm; have hm := yes_of q9
      refine wpD_region ?_
      refine p_pure htab rfl rfl rfl rfl ?_
      refine p_pure htab rfl rfl rfl rfl ?_
      refine p_pure htab rfl rfl rfl rfl ?_
      refine p_split (i := 24) rfl (fun hg10 => ?_) (fun hg10 => ?_)
      · replace hm := yes_t hg10 hm
        refine p_skip rfl rfl rfl ?_
        refine p_skip rfl rfl rfl ?_
        refine p_pickT rfl rfl rfl rfl rfl rfl ?_
        refine ops_nil ?_
        have e9 := yes_eq hm; subst e9
        refine ⟨rfl, ?_⟩
        exact WkX.of () (WkS.perm (WkS.cons rfl (Wk.refl _) (WkS.cons rfl (Wk.refl _) (WkS.cons rfl (Wk.refl _) (WkS.cons rfl (Wk.refl _) (WkS.nil))))) (List.Perm.refl _) (List.Perm.refl _))
      · replace hm := yes_f hg10 hm
        refine p_pure htab rfl rfl rfl rfl ?_
        refine p_pure htab rfl rfl rfl rfl ?_
        refine p_pickF rfl rfl rfl rfl rfl rfl ?_
        refine ops_nil ?_
        have e9 := yes_eq hm; subst e9
        refine ⟨rfl, ?_⟩
        exact WkX.of () (WkS.perm (WkS.cons rfl (Wk.refl _) (WkS.cons rfl (Wk.refl _) (WkS.cons rfl (Wk.refl _) (WkS.cons rfl (Wk.refl _) (WkS.nil))))) (List.Perm.refl _) (List.Perm.refl _))
    · intro s9 hw9; clear hm; have hm := ho9; clear q9 ho9
      refine then_normal ?_
      refine wpD_wkX hw9 (fun z9 => ?_)
      refine wpD_cond rfl (fun hc13 => ?_) (fun hc13 => ?_)
      · replace hm := yes_t hc13 hm
        refine wpD_seq ?_
        refine wpD_region ?_
        refine p_pure htab rfl rfl rfl rfl ?_
        refine p_pure htab rfl rfl rfl rfl ?_
        refine p_pure htab rfl rfl rfl rfl ?_
        obtain ⟨x14, q14, hm⟩ := yes_bind hm
        refine p_call0 (wrap_parts_ok a0 a1 a2 x14 q14) rfl rfl rfl rfl rfl (WkL.refl _) ?_
        rintro _ rfl
        refine p_pure htab rfl rfl rfl rfl ?_
        refine p_pure htab rfl rfl rfl rfl ?_
        refine p_pure htab rfl rfl rfl rfl ?_
        refine p_pure htab rfl rfl rfl rfl ?_
        refine ops_nil ?_
        refine then_normal ?_
        refine wpD_ret ?_
        refine then_ret ?_
        have er15 := yes_eq hm; subst er15
        refine retX.of (s' := ⟨[(6, .v (.int .i64 x14.1)), (7, .v (.int .i64 x14.2))], [], []⟩) (WkS.perm (WkS.cons rfl (Wk.refl _) (WkS.cons rfl (Wk.refl _) (WkS.nil))) (List.Perm.refl _) (List.Perm.refl _)) (retD_mk (hh := []) (.inl rfl) (resL_cons (resOne_tmp rfl) (resL_cons (resOne_tmp rfl) (resL_nil))) (List.nil_sublist _) (List.Sublist.refl _) ?_)
        exact ⟨rfl, rfl, rfl⟩
      · replace hm := yes_f hc13 hm
        refine wpD_skip ?_
        refine then_normal ?_
        refine wpD_seq ?_
        refine wpD_region ?_
        refine p_pure htab rfl rfl rfl rfl ?_
        refine p_pure htab rfl rfl rfl rfl ?_
        refine p_pure htab rfl rfl rfl rfl ?_
        obtain ⟨x16, q16, hm⟩ := yes_bind hm
        refine p_call0 (wrap_holds_ok a0 a1 a2 x16 q16) rfl rfl rfl rfl rfl (WkL.refl _) ?_
        rintro _ rfl
        refine p_pure htab rfl rfl rfl rfl ?_
        refine p_pure htab rfl rfl rfl rfl ?_
        refine p_pure htab rfl rfl rfl rfl ?_
        refine p_pure htab rfl rfl rfl rfl ?_
        refine p_pure htab rfl rfl rfl rfl ?_
        refine ops_nil ?_
        refine then_normal ?_
        refine wpD_seq ?_
        refine wpD_seq ?_
        refine wpD_region ?_
        refine p_pure htab rfl rfl rfl rfl ?_
        refine p_pure htab rfl rfl rfl rfl ?_
        refine ops_nil ?_
        refine then_normal ?_
        refine wpD_cond rfl (fun hc18 => ?_) (fun hc18 => ?_)
        · replace hm := yes_t hc18 hm
          refine wpD_seq ?_
          refine wpD_region ?_
          refine p_pure htab rfl rfl rfl rfl ?_
          refine p_pure htab rfl rfl rfl rfl ?_
          refine ops_nil ?_
          refine then_normal ?_
          refine wpD_ret ?_
          refine then_ret ?_
          have er19 := yes_eq hm; subst er19
          refine retX.of (s' := ⟨[(6, .v (.int .i64 (0 : Int))), (7, .v (.int .i64 (2 : Int)))], [], []⟩) (WkS.perm (WkS.cons rfl (Wk.refl _) (WkS.cons rfl (Wk.refl _) (WkS.nil))) (List.Perm.refl _) (List.Perm.refl _)) (retD_mk (hh := []) (.inl rfl) (resL_cons (resOne_tmp rfl) (resL_cons (resOne_tmp rfl) (resL_nil))) (List.nil_sublist _) (List.Sublist.refl _) ?_)
          exact ⟨rfl, rfl, rfl⟩
        · replace hm := yes_f hc18 hm
          refine wpD_skip ?_
          refine then_normal ?_
          refine wpD_seq ?_
          refine wpD_region ?_
          refine p_pure htab rfl rfl rfl rfl ?_
          obtain ⟨x20, q20, hm⟩ := yes_bind hm
          refine p_call0 (wrap_truth_ok x16.1 x20 q20) rfl rfl rfl rfl rfl (WkL.refl _) ?_
          rintro _ rfl
          refine p_pure htab rfl rfl rfl rfl ?_
          refine p_pure htab rfl rfl rfl rfl ?_
          refine ops_nil ?_
          refine then_normal ?_
          refine wpD_ret ?_
          have er21 := yes_eq hm; subst er21
          refine retX.of (s' := ⟨[(6, .v (.int .i64 x20)), (7, .v (.int .i64 (0 : Int)))], [], []⟩) (WkS.perm (WkS.cons rfl (Wk.refl _) (WkS.cons rfl (Wk.refl _) (WkS.nil))) (List.Perm.refl _) (List.Perm.refl _)) (retD_mk (hh := []) (.inl rfl) (resL_cons (resOne_tmp rfl) (resL_cons (resOne_tmp rfl) (resL_nil))) (List.nil_sublist _) (List.Sublist.refl _) ?_)
          exact ⟨rfl, rfl, rfl⟩
noncomputable def r02_low (a0 : TApiWide) : Option (Int) :=
  some (IntKind.i64.wrap a0.gLo)
set_option maxRecDepth 100000 in
set_option maxHeartbeats 2000000 in
theorem r02_low_ok (a0 : TApiWide) (r : Int) (h0 : r02_low a0 = some r) : CallsD Try.prog 37 [eTApiWide a0] [] [] (fun d h k => d = .v (.int .i64 r) ∧ h = [] ∧ k = []) := by
  have hm := yes_of h0
  unfold r02_low at hm
  clear h0
  refine enterX htab Try.func37 rfl rfl rfl rfl rfl (fun C => ?_)
  refine wpD_seq ?_
  refine wpD_region ?_
  refine p_box rfl rfl rfl rfl rfl rfl rfl (fun b1 => ?_)
  refine p_pure htab rfl rfl rfl rfl ?_
  refine ops_nil ?_
  refine then_normal ?_
  refine wpD_seq ?_
  refine wpD_region ?_
  refine p_pure htab rfl rfl rfl rfl ?_
  refine p_load 0 htab rfl rfl rfl rfl rfl rfl rfl rfl ?_
  refine p_pure htab rfl rfl rfl rfl ?_
  refine p_pure htab rfl rfl rfl rfl ?_
  refine ops_nil ?_
  refine then_normal ?_
  refine wpD_ret ?_
  have er2 := yes_eq hm; subst er2
  refine retX.of (s' := ⟨[(2, .v (.int .i64 (IntKind.i64.wrap a0.gLo)))], [], []⟩) (WkS.perm (WkS.cons rfl (Wk.refl _) (WkS.nil)) (List.Perm.refl _) (List.Perm.refl _)) (retD_mk (hh := []) (.inl rfl) (resL_cons (resOne_tmp rfl) (resL_nil)) (List.nil_sublist _) (List.Sublist.refl _) ?_)
  exact ⟨rfl, rfl, rfl⟩
noncomputable def r02_Exact (a0 : Int) (a1 : Int) (a2 : Int) : Option (TApiWide × Bool) :=
  (bif (a0 == (10 : Int)) then ((need (pI a1)).bind fun x3 => ((need (pI a2)).bind fun x4 => ((need (pWW (rOf a1) (rOf a2))).bind fun x5 => some ((rAdd (rOf a1) (rOf a2)), true)))) else (bif (a0 == (11 : Int)) then ((need (pI a1)).bind fun x8 => ((need (pI a2)).bind fun x9 => ((need (pWW (rOf a1) (rOf a2))).bind fun x10 => some ((rSub (rOf a1) (rOf a2)), true)))) else (bif (a0 == (7 : Int)) then ((need (pII a1 a2)).bind fun x13 => some ((rMul a1 a2), true)) else some ((⟨(0 : Int), (0 : Int)⟩ : TApiWide), false))))
set_option maxRecDepth 100000 in
set_option maxHeartbeats 2000000 in
theorem r02_Exact_ok (a0 : Int) (a1 : Int) (a2 : Int) (r : TApiWide × Bool) (h0 : r02_Exact a0 a1 a2 = some r) : CallsD Try.prog 27 [.v (.int .i64 a0), .v (.int .i64 a1), .v (.int .i64 a2)] [] [] (fun d h k => d = .tup [eTApiWide r.1, .v (.bool r.2)] ∧ h = [] ∧ k = []) := by
  have hm := yes_of h0
  unfold r02_Exact at hm
  clear h0
  refine enterX htab Try.func27 rfl rfl rfl rfl rfl (fun C => ?_)
  refine wpD_seq ?_
  refine wpD_region ?_
  refine p_alloc htab rfl rfl rfl rfl rfl rfl rfl (fun b1 => ?_)
  refine p_pure htab rfl rfl rfl rfl ?_
  refine ops_nil ?_
  refine then_normal ?_
  refine wpD_seq ?_
  refine wpD_seq ?_
  refine wpD_region ?_
  refine p_pure htab rfl rfl rfl rfl ?_
  refine ops_nil ?_
  refine then_normal ?_
  refine wpD_block ?_
  refine wpD_seq ?_
  refine wpD_region ?_
  refine p_pure htab rfl rfl rfl rfl ?_
  refine p_pure htab rfl rfl rfl rfl ?_
  refine ops_nil ?_
  refine then_normal ?_
  refine wpD_cond rfl (fun hc2 => ?_) (fun hc2 => ?_)
  · replace hm := yes_t hc2 hm
    refine wpD_seq ?_
    refine wpD_region ?_
    refine p_pure htab rfl rfl rfl rfl ?_
    obtain ⟨x3, q3, hm⟩ := yes_bind hm
    refine p_call0 (rOf_ok a1 (need_ok q3)) rfl rfl rfl rfl rfl (WkL.refl _) ?_
    rintro _ rfl
    refine p_pure htab rfl rfl rfl rfl ?_
    obtain ⟨x4, q4, hm⟩ := yes_bind hm
    refine p_call0 (rOf_ok a2 (need_ok q4)) rfl rfl rfl rfl rfl (WkL.refl _) ?_
    rintro _ rfl
    obtain ⟨x5, q5, hm⟩ := yes_bind hm
    refine p_call0 (rAdd_ok (rOf a1) (rOf a2) (need_ok q5)) rfl rfl rfl rfl rfl (WkL.refl _) ?_
    rintro _ rfl
    refine p_store (ds' := [.v (.int .i64 ((rAdd (rOf a1) (rOf a2)).gHi)), .v (.int .u64 ((rAdd (rOf a1) (rOf a2)).gLo))]) (h' := [(b1, Blk.cells [.v (.int .i64 ((rAdd (rOf a1) (rOf a2)).gHi)), .v (.int .u64 ((rAdd (rOf a1) (rOf a2)).gLo))] 54)]) 0 htab rfl rfl rfl rfl rfl rfl rfl rfl rfl rfl rfl rfl ?_
    refine p_pure htab rfl rfl rfl rfl ?_
    refine ops_nil ?_
    refine then_normal ?_
    refine wpD_ret ?_
    refine block_ret ?_
    refine then_ret ?_
    have er6 := yes_eq hm; subst er6
    refine retX.of (s' := ⟨[(6, .ptr b1 0), (7, .v (.bool true))], [(b1, Blk.cells [.v (.int .i64 ((rAdd (rOf a1) (rOf a2)).gHi)), .v (.int .u64 ((rAdd (rOf a1) (rOf a2)).gLo))] 54)], []⟩) (WkS.perm (WkS.cons rfl (Wk.refl _) (WkS.cons rfl (Wk.refl _) (WkS.nil))) (List.Perm.refl _) (List.Perm.refl _)) (retD_mk (hh := []) (.inl rfl) (resL_cons (resOne_cell 0 rfl rfl rfl rfl) (resL_cons (resOne_tmp rfl) (resL_nil))) (List.nil_sublist _) (List.Sublist.refl _) ?_)
    exact ⟨rfl, rfl, rfl⟩
  · replace hm := yes_f hc2 hm
    refine wpD_seq ?_
    refine wpD_region ?_
    refine p_pure htab rfl rfl rfl rfl ?_
    refine p_pure htab rfl rfl rfl rfl ?_
    refine ops_nil ?_
    refine then_normal ?_
    refine wpD_cond rfl (fun hc7 => ?_) (fun hc7 => ?_)
    · replace hm := yes_t hc7 hm
      refine wpD_seq ?_
      refine wpD_region ?_
      refine p_pure htab rfl rfl rfl rfl ?_
      obtain ⟨x8, q8, hm⟩ := yes_bind hm
      refine p_call0 (rOf_ok a1 (need_ok q8)) rfl rfl rfl rfl rfl (WkL.refl _) ?_
      rintro _ rfl
      refine p_pure htab rfl rfl rfl rfl ?_
      obtain ⟨x9, q9, hm⟩ := yes_bind hm
      refine p_call0 (rOf_ok a2 (need_ok q9)) rfl rfl rfl rfl rfl (WkL.refl _) ?_
      rintro _ rfl
      obtain ⟨x10, q10, hm⟩ := yes_bind hm
      refine p_call0 (rSub_ok (rOf a1) (rOf a2) (need_ok q10)) rfl rfl rfl rfl rfl (WkL.refl _) ?_
      rintro _ rfl
      refine p_store (ds' := [.v (.int .i64 ((rSub (rOf a1) (rOf a2)).gHi)), .v (.int .u64 ((rSub (rOf a1) (rOf a2)).gLo))]) (h' := [(b1, Blk.cells [.v (.int .i64 ((rSub (rOf a1) (rOf a2)).gHi)), .v (.int .u64 ((rSub (rOf a1) (rOf a2)).gLo))] 54)]) 0 htab rfl rfl rfl rfl rfl rfl rfl rfl rfl rfl rfl rfl ?_
      refine p_pure htab rfl rfl rfl rfl ?_
      refine ops_nil ?_
      refine then_normal ?_
      refine wpD_ret ?_
      refine block_ret ?_
      refine then_ret ?_
      have er11 := yes_eq hm; subst er11
      refine retX.of (s' := ⟨[(6, .ptr b1 0), (7, .v (.bool true))], [(b1, Blk.cells [.v (.int .i64 ((rSub (rOf a1) (rOf a2)).gHi)), .v (.int .u64 ((rSub (rOf a1) (rOf a2)).gLo))] 54)], []⟩) (WkS.perm (WkS.cons rfl (Wk.refl _) (WkS.cons rfl (Wk.refl _) (WkS.nil))) (List.Perm.refl _) (List.Perm.refl _)) (retD_mk (hh := []) (.inl rfl) (resL_cons (resOne_cell 0 rfl rfl rfl rfl) (resL_cons (resOne_tmp rfl) (resL_nil))) (List.nil_sublist _) (List.Sublist.refl _) ?_)
      exact ⟨rfl, rfl, rfl⟩
    · replace hm := yes_f hc7 hm
      refine wpD_seq ?_
      refine wpD_region ?_
      refine p_pure htab rfl rfl rfl rfl ?_
      refine p_pure htab rfl rfl rfl rfl ?_
      refine ops_nil ?_
      refine then_normal ?_
      refine wpD_cond rfl (fun hc12 => ?_) (fun hc12 => ?_)
      · replace hm := yes_t hc12 hm
        refine wpD_seq ?_
        refine wpD_region ?_
        refine p_pure htab rfl rfl rfl rfl ?_
        refine p_pure htab rfl rfl rfl rfl ?_
        obtain ⟨x13, q13, hm⟩ := yes_bind hm
        refine p_call0 (rMul_ok a1 a2 (need_ok q13)) rfl rfl rfl rfl rfl (WkL.refl _) ?_
        rintro _ rfl
        refine p_store (ds' := [.v (.int .i64 ((rMul a1 a2).gHi)), .v (.int .u64 ((rMul a1 a2).gLo))]) (h' := [(b1, Blk.cells [.v (.int .i64 ((rMul a1 a2).gHi)), .v (.int .u64 ((rMul a1 a2).gLo))] 54)]) 0 htab rfl rfl rfl rfl rfl rfl rfl rfl rfl rfl rfl rfl ?_
        refine p_pure htab rfl rfl rfl rfl ?_
        refine ops_nil ?_
        refine then_normal ?_
        refine wpD_ret ?_
        refine block_ret ?_
        refine then_ret ?_
        have er14 := yes_eq hm; subst er14
        refine retX.of (s' := ⟨[(6, .ptr b1 0), (7, .v (.bool true))], [(b1, Blk.cells [.v (.int .i64 ((rMul a1 a2).gHi)), .v (.int .u64 ((rMul a1 a2).gLo))] 54)], []⟩) (WkS.perm (WkS.cons rfl (Wk.refl _) (WkS.cons rfl (Wk.refl _) (WkS.nil))) (List.Perm.refl _) (List.Perm.refl _)) (retD_mk (hh := []) (.inl rfl) (resL_cons (resOne_cell 0 rfl rfl rfl rfl) (resL_cons (resOne_tmp rfl) (resL_nil))) (List.nil_sublist _) (List.Sublist.refl _) ?_)
        exact ⟨rfl, rfl, rfl⟩
      · replace hm := yes_f hc12 hm
        refine wpD_skip ?_
        refine block_normal ?_
        refine then_normal ?_
        refine wpD_seq ?_
        refine wpD_region ?_
        refine p_build (r := [.v (.int .i64 (0 : Int)), .v (.int .u64 (0 : Int))]) htab rfl rfl rfl rfl rfl rfl rfl rfl rfl ?_
        refine p_store (ds' := [.v (.int .i64 (0 : Int)), .v (.int .u64 (0 : Int))]) (h' := [(b1, Blk.cells [.v (.int .i64 (0 : Int)), .v (.int .u64 (0 : Int))] 54)]) 0 htab rfl rfl rfl rfl rfl rfl rfl rfl rfl rfl rfl rfl ?_
        refine p_pure htab rfl rfl rfl rfl ?_
        refine ops_nil ?_
        refine then_normal ?_
        refine wpD_ret ?_
        have er15 := yes_eq hm; subst er15
        refine retX.of (s' := ⟨[(6, .ptr b1 0), (7, .v (.bool false))], [(b1, Blk.cells [.v (.int .i64 (0 : Int)), .v (.int .u64 (0 : Int))] 54)], []⟩) (WkS.perm (WkS.cons rfl (Wk.refl _) (WkS.cons rfl (Wk.refl _) (WkS.nil))) (List.Perm.refl _) (List.Perm.refl _)) (retD_mk (hh := []) (.inl rfl) (resL_cons (resOne_cell 0 rfl rfl rfl rfl) (resL_cons (resOne_tmp rfl) (resL_nil))) (List.nil_sublist _) (List.Sublist.refl _) ?_)
        exact ⟨rfl, rfl, rfl⟩
noncomputable def r02_abs (a0 : Int) : Option (Int) :=
  ((need (pI a0)).bind fun x1 => (bif (decide (a0 < (0 : Int))) then ((need (pW (rOf a0))).bind fun x4 => some (rNeg (rOf a0)).gLo) else some (rOf a0).gLo))
set_option maxRecDepth 100000 in
set_option maxHeartbeats 2000000 in
theorem r02_abs_ok (a0 : Int) (r : Int) (h0 : r02_abs a0 = some r) : CallsD Try.prog 64 [.v (.int .i64 a0)] [] [] (fun d h k => d = .v (.int .u64 r) ∧ h = [] ∧ k = []) := by
  have hm := yes_of h0
  unfold r02_abs at hm
  clear h0
  refine enterX htab Try.func64 rfl rfl rfl rfl rfl (fun C => ?_)
  refine wpD_seq ?_
  refine wpD_region ?_
  refine p_pure htab rfl rfl rfl rfl ?_
  refine ops_nil ?_
  refine then_normal ?_
  refine wpD_seq ?_
  refine wpD_region ?_
  refine p_pure htab rfl rfl rfl rfl ?_
  obtain ⟨x1, q1, hm⟩ := yes_bind hm
  refine p_call0 (rOf_ok a0 (need_ok q1)) rfl rfl rfl rfl rfl (WkL.refl _) ?_
  rintro _ rfl
  refine p_alloc htab rfl rfl rfl rfl rfl rfl rfl (fun b2 => ?_)
  refine p_store (ds' := [.v (.int .i64 ((rOf a0).gHi)), .v (.int .u64 ((rOf a0).gLo))]) (h' := [(b2, Blk.cells [.v (.int .i64 ((rOf a0).gHi)), .v (.int .u64 ((rOf a0).gLo))] 54)]) 0 htab rfl rfl rfl rfl rfl rfl rfl rfl rfl rfl rfl rfl ?_
  refine ops_nil ?_
  refine then_normal ?_
  refine wpD_seq ?_
  refine wpD_seq ?_
  refine wpD_region ?_
  refine p_pure htab rfl rfl rfl rfl ?_
  refine p_pure htab rfl rfl rfl rfl ?_
  refine ops_nil ?_
  refine then_normal ?_
  refine wpD_cond rfl (fun hc3 => ?_) (fun hc3 => ?_)
  · replace hm := yes_t hc3 hm
    refine wpD_region ?_
    refine p_load (d := eTApiWide (rOf a0)) 0 htab rfl rfl rfl rfl rfl rfl rfl rfl ?_
    obtain ⟨x4, q4, hm⟩ := yes_bind hm
    refine p_call0 (rNeg_ok (rOf a0) (need_ok q4)) rfl rfl rfl rfl rfl (WkL.refl _) ?_
    rintro _ rfl
    refine p_store (ds' := [.v (.int .i64 ((rNeg (rOf a0)).gHi)), .v (.int .u64 ((rNeg (rOf a0)).gLo))]) (h' := [(b2, Blk.cells [.v (.int .i64 ((rNeg (rOf a0)).gHi)), .v (.int .u64 ((rNeg (rOf a0)).gLo))] 54)]) 0 htab rfl rfl rfl rfl rfl rfl rfl rfl rfl rfl rfl rfl ?_
    refine ops_nil ?_
    refine then_normal ?_
    refine wpD_seq ?_
    refine wpD_region ?_
    refine p_pure htab rfl rfl rfl rfl ?_
    refine p_load 0 htab rfl rfl rfl rfl rfl rfl rfl rfl ?_
    refine p_pure htab rfl rfl rfl rfl ?_
    refine ops_nil ?_
    refine then_normal ?_
    refine wpD_ret ?_
    have er5 := yes_eq hm; subst er5
    refine retX.of (s' := ⟨[(2, .v (.int .u64 ((rNeg (rOf a0)).gLo)))], [], []⟩) (WkS.perm (WkS.cons rfl (Wk.refl _) (WkS.nil)) (List.Perm.refl _) (List.Perm.refl _)) (retD_mk (hh := []) (.inl rfl) (resL_cons (resOne_tmp rfl) (resL_nil)) (List.nil_sublist _) (List.Sublist.refl _) ?_)
    exact ⟨rfl, rfl, rfl⟩
  · replace hm := yes_f hc3 hm
    refine wpD_skip ?_
    refine then_normal ?_
    refine wpD_seq ?_
    refine wpD_region ?_
    refine p_pure htab rfl rfl rfl rfl ?_
    refine p_load 0 htab rfl rfl rfl rfl rfl rfl rfl rfl ?_
    refine p_pure htab rfl rfl rfl rfl ?_
    refine ops_nil ?_
    refine then_normal ?_
    refine wpD_ret ?_
    have er6 := yes_eq hm; subst er6
    refine retX.of (s' := ⟨[(2, .v (.int .u64 ((rOf a0).gLo)))], [], []⟩) (WkS.perm (WkS.cons rfl (Wk.refl _) (WkS.nil)) (List.Perm.refl _) (List.Perm.refl _)) (retD_mk (hh := []) (.inl rfl) (resL_cons (resOne_tmp rfl) (resL_nil)) (List.nil_sublist _) (List.Sublist.refl _) ?_)
    exact ⟨rfl, rfl, rfl⟩
noncomputable def r02_Quotient (a0 : Int) (a1 : Int) : Option (Int) :=
  ((r02_abs a0).bind fun x1 => ((r02_abs a1).bind fun x2 => ((need (x2 != 0)).bind fun x3 => (bif (!((decide (a0 < (0 : Int))) == (decide (a1 < (0 : Int))))) then ((need (pW (⟨(0 : Int), (IntKind.u64.wrap (x1.tdiv x2))⟩ : TApiWide))).bind fun x6 => ((r02_low (rNeg (⟨(0 : Int), (IntKind.u64.wrap (x1.tdiv x2))⟩ : TApiWide))).bind fun x7 => some x7)) else ((r02_low (⟨(0 : Int), (IntKind.u64.wrap (x1.tdiv x2))⟩ : TApiWide)).bind fun x9 => some x9)))))
set_option maxRecDepth 100000 in
set_option maxHeartbeats 2000000 in
theorem r02_Quotient_ok (a0 : Int) (a1 : Int) (r : Int) (h0 : r02_Quotient a0 a1 = some r) : CallsD Try.prog 34 [.v (.int .i64 a0), .v (.int .i64 a1)] [] [] (fun d h k => d = .v (.int .i64 r) ∧ h = [] ∧ k = []) := by
  have hm := yes_of h0
  unfold r02_Quotient at hm
  clear h0
  refine enterX htab Try.func34 rfl rfl rfl rfl rfl (fun C => ?_)
  refine wpD_seq ?_
  refine wpD_region ?_
  refine p_pure htab rfl rfl rfl rfl ?_
  refine ops_nil ?_
  refine then_normal ?_
  refine wpD_seq ?_
  refine wpD_region ?_
  refine p_pure htab rfl rfl rfl rfl ?_
  obtain ⟨x1, q1, hm⟩ := yes_bind hm
  refine p_call0 (r02_abs_ok a0 x1 q1) rfl rfl rfl rfl rfl (WkL.refl _) ?_
  rintro _ rfl
  refine p_pure htab rfl rfl rfl rfl ?_
  obtain ⟨x2, q2, hm⟩ := yes_bind hm
  refine p_call0 (r02_abs_ok a1 x2 q2) rfl rfl rfl rfl rfl (WkL.refl _) ?_
  rintro _ rfl
  obtain ⟨x3, q3, hm⟩ := yes_bind hm
  refine p_div rfl rfl rfl rfl rfl rfl rfl (by simpa using need_ok q3) ?_
  refine p_build (r := [.v (.int .i64 (0 : Int)), .v (.int .u64 (IntKind.u64.wrap (x1.tdiv x2)))]) htab rfl rfl rfl rfl rfl rfl rfl rfl rfl ?_
  refine p_alloc htab rfl rfl rfl rfl rfl rfl rfl (fun b4 => ?_)
  refine p_store (ds' := [.v (.int .i64 (0 : Int)), .v (.int .u64 (IntKind.u64.wrap (x1.tdiv x2)))]) (h' := [(b4, Blk.cells [.v (.int .i64 (0 : Int)), .v (.int .u64 (IntKind.u64.wrap (x1.tdiv x2)))] 54)]) 0 htab rfl rfl rfl rfl rfl rfl rfl rfl rfl rfl rfl rfl ?_
  refine ops_nil ?_
  refine then_normal ?_
  refine wpD_seq ?_
  refine wpD_seq ?_
  refine wpD_region ?_
  refine p_pure htab rfl rfl rfl rfl ?_
  refine p_pure htab rfl rfl rfl rfl ?_
  refine p_pure htab rfl rfl rfl rfl ?_
  refine p_pure htab rfl rfl rfl rfl ?_
  refine p_pure htab rfl rfl rfl rfl ?_
  refine ops_nil ?_
  refine then_normal ?_
  refine wpD_cond rfl (fun hc5 => ?_) (fun hc5 => ?_)
  · replace hm := yes_t hc5 hm
    refine wpD_region ?_
    refine p_load (d := eTApiWide (⟨(0 : Int), (IntKind.u64.wrap (x1.tdiv x2))⟩ : TApiWide)) 0 htab rfl rfl rfl rfl rfl rfl rfl rfl ?_
    obtain ⟨x6, q6, hm⟩ := yes_bind hm
    refine p_call0 (rNeg_ok (⟨(0 : Int), (IntKind.u64.wrap (x1.tdiv x2))⟩ : TApiWide) (need_ok q6)) rfl rfl rfl rfl rfl (WkL.refl _) ?_
    rintro _ rfl
    refine p_store (ds' := [.v (.int .i64 ((rNeg (⟨(0 : Int), (IntKind.u64.wrap (x1.tdiv x2))⟩ : TApiWide)).gHi)), .v (.int .u64 ((rNeg (⟨(0 : Int), (IntKind.u64.wrap (x1.tdiv x2))⟩ : TApiWide)).gLo))]) (h' := [(b4, Blk.cells [.v (.int .i64 ((rNeg (⟨(0 : Int), (IntKind.u64.wrap (x1.tdiv x2))⟩ : TApiWide)).gHi)), .v (.int .u64 ((rNeg (⟨(0 : Int), (IntKind.u64.wrap (x1.tdiv x2))⟩ : TApiWide)).gLo))] 54)]) 0 htab rfl rfl rfl rfl rfl rfl rfl rfl rfl rfl rfl rfl ?_
    refine ops_nil ?_
    refine then_normal ?_
    refine wpD_seq ?_
    refine wpD_region ?_
    refine p_load (d := eTApiWide (rNeg (⟨(0 : Int), (IntKind.u64.wrap (x1.tdiv x2))⟩ : TApiWide))) 0 htab rfl rfl rfl rfl rfl rfl rfl rfl ?_
    obtain ⟨x7, q7, hm⟩ := yes_bind hm
    refine p_call0 (r02_low_ok (rNeg (⟨(0 : Int), (IntKind.u64.wrap (x1.tdiv x2))⟩ : TApiWide)) x7 q7) rfl rfl rfl rfl rfl (WkL.refl _) ?_
    rintro _ rfl
    refine p_pure htab rfl rfl rfl rfl ?_
    refine ops_nil ?_
    refine then_normal ?_
    refine wpD_ret ?_
    have er8 := yes_eq hm; subst er8
    refine retX.of (s' := ⟨[(4, .v (.int .i64 x7))], [], []⟩) (WkS.perm (WkS.cons rfl (Wk.refl _) (WkS.nil)) (List.Perm.refl _) (List.Perm.refl _)) (retD_mk (hh := []) (.inl rfl) (resL_cons (resOne_tmp rfl) (resL_nil)) (List.nil_sublist _) (List.Sublist.refl _) ?_)
    exact ⟨rfl, rfl, rfl⟩
  · replace hm := yes_f hc5 hm
    refine wpD_skip ?_
    refine then_normal ?_
    refine wpD_seq ?_
    refine wpD_region ?_
    refine p_load (d := eTApiWide (⟨(0 : Int), (IntKind.u64.wrap (x1.tdiv x2))⟩ : TApiWide)) 0 htab rfl rfl rfl rfl rfl rfl rfl rfl ?_
    obtain ⟨x9, q9, hm⟩ := yes_bind hm
    refine p_call0 (r02_low_ok (⟨(0 : Int), (IntKind.u64.wrap (x1.tdiv x2))⟩ : TApiWide) x9 q9) rfl rfl rfl rfl rfl (WkL.refl _) ?_
    rintro _ rfl
    refine p_pure htab rfl rfl rfl rfl ?_
    refine ops_nil ?_
    refine then_normal ?_
    refine wpD_ret ?_
    have er10 := yes_eq hm; subst er10
    refine retX.of (s' := ⟨[(4, .v (.int .i64 x9))], [], []⟩) (WkS.perm (WkS.cons rfl (Wk.refl _) (WkS.nil)) (List.Perm.refl _) (List.Perm.refl _)) (retD_mk (hh := []) (.inl rfl) (resL_cons (resOne_tmp rfl) (resL_nil)) (List.nil_sublist _) (List.Sublist.refl _) ?_)
    exact ⟨rfl, rfl, rfl⟩
noncomputable def r02_one (a0 : Bool) : Option (Int) :=
  (bif a0 then some (1 : Int) else some (0 : Int))
set_option maxRecDepth 100000 in
set_option maxHeartbeats 2000000 in
theorem r02_one_ok (a0 : Bool) (r : Int) (h0 : r02_one a0 = some r) : CallsD Try.prog 42 [.v (.bool a0)] [] [] (fun d h k => d = .v (.int .i64 r) ∧ h = [] ∧ k = []) := by
  have hm := yes_of h0
  unfold r02_one at hm
  clear h0
  refine enterX htab Try.func42 rfl rfl rfl rfl rfl (fun C => ?_)
  refine wpD_seq ?_
  refine wpD_region ?_
  refine p_pure htab rfl rfl rfl rfl ?_
  refine ops_nil ?_
  refine then_normal ?_
  refine wpD_seq ?_
  refine wpD_seq ?_
  refine wpD_region ?_
  refine p_pure htab rfl rfl rfl rfl ?_
  refine ops_nil ?_
  refine then_normal ?_
  refine wpD_cond rfl (fun hc1 => ?_) (fun hc1 => ?_)
  · replace hm := yes_t hc1 hm
    refine wpD_seq ?_
    refine wpD_region ?_
    refine p_pure htab rfl rfl rfl rfl ?_
    refine ops_nil ?_
    refine then_normal ?_
    refine wpD_ret ?_
    refine then_ret ?_
    have er2 := yes_eq hm; subst er2
    refine retX.of (s' := ⟨[(2, .v (.int .i64 (1 : Int)))], [], []⟩) (WkS.perm (WkS.cons rfl (Wk.refl _) (WkS.nil)) (List.Perm.refl _) (List.Perm.refl _)) (retD_mk (hh := []) (.inl rfl) (resL_cons (resOne_tmp rfl) (resL_nil)) (List.nil_sublist _) (List.Sublist.refl _) ?_)
    exact ⟨rfl, rfl, rfl⟩
  · replace hm := yes_f hc1 hm
    refine wpD_skip ?_
    refine then_normal ?_
    refine wpD_seq ?_
    refine wpD_region ?_
    refine p_pure htab rfl rfl rfl rfl ?_
    refine ops_nil ?_
    refine then_normal ?_
    refine wpD_ret ?_
    have er3 := yes_eq hm; subst er3
    refine retX.of (s' := ⟨[(2, .v (.int .i64 (0 : Int)))], [], []⟩) (WkS.perm (WkS.cons rfl (Wk.refl _) (WkS.nil)) (List.Perm.refl _) (List.Perm.refl _)) (retD_mk (hh := []) (.inl rfl) (resL_cons (resOne_tmp rfl) (resL_nil)) (List.nil_sublist _) (List.Sublist.refl _) ?_)
    exact ⟨rfl, rfl, rfl⟩
noncomputable def r02_Do (a0 : Int) (a1 : Int) (a2 : Int) : Option (Int × Int) :=
  ((r02_Exact a0 a1 a2).bind fun x1 => (bif x1.2 then ((r02_low x1.1).bind fun x6 => some (x6, (0 : Int))) else (Option.bind (α := Bool) (bif (a0 == (8 : Int)) then some (a2 == (0 : Int)) else (bif (a0 == (9 : Int)) then some (a2 == (0 : Int)) else some false)) fun y10 => (bif y10 then some ((0 : Int), (10 : Int)) else ((need (pI a1)).bind fun x16 => ((need (pI a2)).bind fun x17 => ((need (pWW (rOf a1) (rOf a2))).bind fun x18 => ((need (pWW (rSub (rOf a1) (rOf a2)) (⟨(0 : Int), (0 : Int)⟩ : TApiWide))).bind fun x20 => (bif (a0 == (8 : Int)) then ((r02_Quotient a1 a2).bind fun x22 => some (x22, (0 : Int))) else (bif (a0 == (9 : Int)) then ((need (pI a1)).bind fun x25 => ((r02_Quotient a1 a2).bind fun x26 => ((need (pII x26 a2)).bind fun x27 => ((need (pWW (rOf a1) (rMul x26 a2))).bind fun x28 => ((r02_low (rSub (rOf a1) (rMul x26 a2))).bind fun x29 => some (x29, (0 : Int))))))) else (bif (a0 == (12 : Int)) then ((r02_one (decide ((rCmp (rSub (rOf a1) (rOf a2)) (⟨(0 : Int), (0 : Int)⟩ : TApiWide)) < (0 : Int)))).bind fun x32 => some (x32, (0 : Int))) else (bif (a0 == (13 : Int)) then ((r02_one (decide ((rCmp (rSub (rOf a1) (rOf a2)) (⟨(0 : Int), (0 : Int)⟩ : TApiWide)) ≤ (0 : Int)))).bind fun x35 => some (x35, (0 : Int))) else (bif (a0 == (14 : Int)) then ((r02_one ((rCmp (rSub (rOf a1) (rOf a2)) (⟨(0 : Int), (0 : Int)⟩ : TApiWide)) == (0 : Int))).bind fun x38 => some (x38, (0 : Int))) else (bif (a0 == (15 : Int)) then ((r02_one ((rCmp (rSub (rOf a1) (rOf a2)) (⟨(0 : Int), (0 : Int)⟩ : TApiWide)) != (0 : Int))).bind fun x41 => some (x41, (0 : Int))) else (bif (a0 == (16 : Int)) then (bif (a1 != (0 : Int)) then ((r02_one (a2 != (0 : Int))).bind fun x45 => some (x45, (0 : Int))) else ((r02_one false).bind fun x47 => some (x47, (0 : Int)))) else (bif (a0 == (17 : Int)) then (bif (a1 != (0 : Int)) then ((r02_one true).bind fun x51 => some (x51, (0 : Int))) else ((r02_one (a2 != (0 : Int))).bind fun x53 => some (x53, (0 : Int)))) else some ((0 : Int), (2 : Int))))))))))))))))))
set_option maxRecDepth 100000 in
set_option maxHeartbeats 2000000 in
theorem r02_Do_ok (a0 : Int) (a1 : Int) (a2 : Int) (r : Int × Int) (h0 : r02_Do a0 a1 a2 = some r) : CallsD Try.prog 9 [.v (.int .i64 a0), .v (.int .i64 a1), .v (.int .i64 a2)] [] [] (fun d h k => d = .tup [.v (.int .i64 r.1), .v (.int .i64 r.2)] ∧ h = [] ∧ k = []) := by
  have hm := yes_of h0
  unfold r02_Do at hm
  clear h0
  refine enterX htab Try.func9 rfl rfl rfl rfl rfl (fun C => ?_)
  refine wpD_seq ?_
  refine wpD_region ?_
  refine p_pure htab rfl rfl rfl rfl ?_
  refine p_pure htab rfl rfl rfl rfl ?_
  refine ops_nil ?_
  refine then_normal ?_
  refine wpD_seq ?_
  refine wpD_region ?_
  refine p_pure htab rfl rfl rfl rfl ?_
  refine p_pure htab rfl rfl rfl rfl ?_
  refine p_pure htab rfl rfl rfl rfl ?_
  obtain ⟨x1, q1, hm⟩ := yes_bind hm
  refine p_call0 (r02_Exact_ok a0 a1 a2 x1 q1) rfl rfl rfl rfl rfl (WkL.refl _) ?_
  rintro _ rfl
  refine p_pure htab rfl rfl rfl rfl ?_
  refine p_pure htab rfl rfl rfl rfl ?_
  refine p_pure htab rfl rfl rfl rfl ?_
  refine p_alloc htab rfl rfl rfl rfl rfl rfl rfl (fun b2 => ?_)
  refine p_store (ds' := [.v (.int .i64 x1.1.gHi), .v (.int .u64 x1.1.gLo)]) (h' := [(b2, Blk.cells [.v (.int .i64 x1.1.gHi), .v (.int .u64 x1.1.gLo)] 54)]) 0 htab rfl rfl rfl rfl rfl rfl rfl rfl rfl rfl rfl rfl ?_
  refine p_pure htab rfl rfl rfl rfl ?_
  refine ops_nil ?_
  refine then_normal ?_
  refine wpD_seq ?_
  refine wpD_seq ?_
  refine wpD_region ?_
  refine p_pure htab rfl rfl rfl rfl ?_
  refine ops_nil ?_
  refine then_normal ?_
  refine wpD_cond rfl (fun hc5 => ?_) (fun hc5 => ?_)
  · replace hm := yes_t hc5 hm
    refine wpD_seq ?_
    refine wpD_region ?_
    refine p_load (d := eTApiWide x1.1) 0 htab rfl rfl rfl rfl rfl rfl rfl rfl ?_
    obtain ⟨x6, q6, hm⟩ := yes_bind hm
    refine p_call0 (r02_low_ok x1.1 x6 q6) rfl rfl rfl rfl rfl (WkL.refl _) ?_
    rintro _ rfl
    refine p_pure htab rfl rfl rfl rfl ?_
    refine p_pure htab rfl rfl rfl rfl ?_
    refine ops_nil ?_
    refine then_normal ?_
    refine wpD_ret ?_
    refine then_ret ?_
    have er7 := yes_eq hm; subst er7
    refine retX.of (s' := ⟨[(6, .v (.int .i64 x6)), (7, .v (.int .i64 (0 : Int)))], [], []⟩) (WkS.perm (WkS.cons rfl (Wk.refl _) (WkS.cons rfl (Wk.refl _) (WkS.nil))) (List.Perm.refl _) (List.Perm.refl _)) (retD_mk (hh := []) (.inl rfl) (resL_cons (resOne_tmp rfl) (resL_cons (resOne_tmp rfl) (resL_nil))) (List.nil_sublist _) (List.Sublist.refl _) ?_)
    exact ⟨rfl, rfl, rfl⟩
  · replace hm := yes_f hc5 hm
    refine wpD_skip ?_
    refine then_normal ?_
    refine wpD_seq ?_
    refine wpD_seq ?_
    obtain ⟨y10, q10, ho10⟩ := yes_bind hm
    refine wpD_mid (Y := Unit) (fun z10 => (⟨[(0, .v (.int .i64 a0)), (1, .v (.int .i64 a1)), (2, .v (.int .i64 a2)), (31, .v (.bool y10))], [(b2, Blk.cells [.v (.int .i64 x1.1.gHi), .v (.int .u64 x1.1.gLo)] 54)], []⟩ : S)) ?_ ?_
    · clear hm; have hm := yes_of q10
      refine wpD_region ?_
      refine p_pure htab rfl rfl rfl rfl ?_
      refine p_pure htab rfl rfl rfl rfl ?_
      refine p_pure htab rfl rfl rfl rfl ?_
      refine p_split (i := 24) rfl (fun hg11 => ?_) (fun hg11 => ?_)
      · replace hm := yes_t hg11 hm
        refine p_skip rfl rfl rfl ?_
        refine p_skip rfl rfl rfl ?_
        refine p_pickT rfl rfl rfl rfl rfl rfl ?_
        refine p_pure htab rfl rfl rfl rfl ?_
        refine p_pure htab rfl rfl rfl rfl ?_
        refine p_pure htab rfl rfl rfl rfl ?_
        refine p_pickT rfl rfl rfl rfl rfl rfl ?_
        refine ops_nil ?_
        have e10 := yes_eq hm; subst e10
        refine ⟨rfl, ?_⟩
        exact WkX.of () (WkS.perm (WkS.cons rfl (Wk.refl _) (WkS.cons rfl (Wk.refl _) (WkS.cons rfl (Wk.refl _) (WkS.cons rfl (Wk.refl _) (WkS.nil))))) (List.Perm.refl _) (List.Perm.refl _))
      · replace hm := yes_f hg11 hm
        refine p_pure htab rfl rfl rfl rfl ?_
        refine p_pure htab rfl rfl rfl rfl ?_
        refine p_pickF rfl rfl rfl rfl rfl rfl ?_
        refine p_pure htab rfl rfl rfl rfl ?_
        refine p_split (i := 28) rfl (fun hg12 => ?_) (fun hg12 => ?_)
        · replace hm := yes_t hg12 hm
          refine p_pure htab rfl rfl rfl rfl ?_
          refine p_pure htab rfl rfl rfl rfl ?_
          refine p_pickT rfl rfl rfl rfl rfl rfl ?_
          refine ops_nil ?_
          have e10 := yes_eq hm; subst e10
          refine ⟨rfl, ?_⟩
          exact WkX.of () (WkS.perm (WkS.cons rfl (Wk.refl _) (WkS.cons rfl (Wk.refl _) (WkS.cons rfl (Wk.refl _) (WkS.cons rfl (Wk.refl _) (WkS.nil))))) (List.Perm.refl _) (List.Perm.refl _))
        · replace hm := yes_f hg12 hm
          refine p_skip rfl rfl rfl ?_
          refine p_skip rfl rfl rfl ?_
          refine p_pickF rfl rfl rfl rfl rfl rfl ?_
          refine ops_nil ?_
          have e10 := yes_eq hm; subst e10
          refine ⟨rfl, ?_⟩
          exact WkX.of () (WkS.perm (WkS.cons rfl (Wk.refl _) (WkS.cons rfl (Wk.refl _) (WkS.cons rfl (Wk.refl _) (WkS.cons rfl (Wk.refl _) (WkS.nil))))) (List.Perm.refl _) (List.Perm.refl _))
    · intro s10 hw10; clear hm; have hm := ho10; clear q10 ho10
      refine then_normal ?_
      refine wpD_wkX hw10 (fun z10 => ?_)
      refine wpD_cond rfl (fun hc14 => ?_) (fun hc14 => ?_)
      · replace hm := yes_t hc14 hm
        refine wpD_seq ?_
        refine wpD_region ?_
        refine p_pure htab rfl rfl rfl rfl ?_
        refine p_pure htab rfl rfl rfl rfl ?_
        refine ops_nil ?_
        refine then_normal ?_
        refine wpD_ret ?_
        refine then_ret ?_
        have er15 := yes_eq hm; subst er15
        refine retX.of (s' := ⟨[(6, .v (.int .i64 (0 : Int))), (7, .v (.int .i64 (10 : Int)))], [], []⟩) (WkS.perm (WkS.cons rfl (Wk.refl _) (WkS.cons rfl (Wk.refl _) (WkS.nil))) (List.Perm.refl _) (List.Perm.refl _)) (retD_mk (hh := []) (.inl rfl) (resL_cons (resOne_tmp rfl) (resL_cons (resOne_tmp rfl) (resL_nil))) (List.nil_sublist _) (List.Sublist.refl _) ?_)
        exact ⟨rfl, rfl, rfl⟩
      · replace hm := yes_f hc14 hm
        refine wpD_skip ?_
        refine then_normal ?_
        refine wpD_seq ?_
        refine wpD_region ?_
        refine p_pure htab rfl rfl rfl rfl ?_
        obtain ⟨x16, q16, hm⟩ := yes_bind hm
        refine p_call0 (rOf_ok a1 (need_ok q16)) rfl rfl rfl rfl rfl (WkL.refl _) ?_
        rintro _ rfl
        refine p_pure htab rfl rfl rfl rfl ?_
        obtain ⟨x17, q17, hm⟩ := yes_bind hm
        refine p_call0 (rOf_ok a2 (need_ok q17)) rfl rfl rfl rfl rfl (WkL.refl _) ?_
        rintro _ rfl
        obtain ⟨x18, q18, hm⟩ := yes_bind hm
        refine p_call0 (rSub_ok (rOf a1) (rOf a2) (need_ok q18)) rfl rfl rfl rfl rfl (WkL.refl _) ?_
        rintro _ rfl
        refine p_alloc htab rfl rfl rfl rfl rfl rfl rfl (fun b19 => ?_)
        refine p_store (ds' := [.v (.int .i64 ((rSub (rOf a1) (rOf a2)).gHi)), .v (.int .u64 ((rSub (rOf a1) (rOf a2)).gLo))]) (h' := [(b2, Blk.cells [.v (.int .i64 x1.1.gHi), .v (.int .u64 x1.1.gLo)] 54), (b19, Blk.cells [.v (.int .i64 ((rSub (rOf a1) (rOf a2)).gHi)), .v (.int .u64 ((rSub (rOf a1) (rOf a2)).gLo))] 54)]) 1 htab rfl rfl rfl rfl rfl rfl rfl rfl rfl rfl rfl rfl ?_
        refine ops_nil ?_
        refine then_normal ?_
        refine wpD_seq ?_
        refine wpD_region ?_
        refine p_load (d := eTApiWide (rSub (rOf a1) (rOf a2))) 1 htab rfl rfl rfl rfl rfl rfl rfl rfl ?_
        refine p_build (r := [.v (.int .i64 (0 : Int)), .v (.int .u64 (0 : Int))]) htab rfl rfl rfl rfl rfl rfl rfl rfl rfl ?_
        obtain ⟨x20, q20, hm⟩ := yes_bind hm
        refine p_call0 (rCmp_ok (rSub (rOf a1) (rOf a2)) (⟨(0 : Int), (0 : Int)⟩ : TApiWide) (need_ok q20)) rfl rfl rfl rfl rfl (WkL.refl _) ?_
        rintro _ rfl
        refine p_pure htab rfl rfl rfl rfl ?_
        refine ops_nil ?_
        refine then_normal ?_
        refine wpD_seq ?_
        refine wpD_seq ?_
        refine wpD_region ?_
        refine p_pure htab rfl rfl rfl rfl ?_
        refine ops_nil ?_
        refine then_normal ?_
        refine wpD_block ?_
        refine wpD_seq ?_
        refine wpD_region ?_
        refine p_pure htab rfl rfl rfl rfl ?_
        refine p_pure htab rfl rfl rfl rfl ?_
        refine ops_nil ?_
        refine then_normal ?_
        refine wpD_cond rfl (fun hc21 => ?_) (fun hc21 => ?_)
        · replace hm := yes_t hc21 hm
          refine wpD_seq ?_
          refine wpD_region ?_
          refine p_pure htab rfl rfl rfl rfl ?_
          refine p_pure htab rfl rfl rfl rfl ?_
          obtain ⟨x22, q22, hm⟩ := yes_bind hm
          refine p_call0 (r02_Quotient_ok a1 a2 x22 q22) rfl rfl rfl rfl rfl (WkL.refl _) ?_
          rintro _ rfl
          refine p_pure htab rfl rfl rfl rfl ?_
          refine p_pure htab rfl rfl rfl rfl ?_
          refine ops_nil ?_
          refine then_normal ?_
          refine wpD_ret ?_
          refine block_ret ?_
          refine then_ret ?_
          have er23 := yes_eq hm; subst er23
          refine retX.of (s' := ⟨[(6, .v (.int .i64 x22)), (7, .v (.int .i64 (0 : Int)))], [], []⟩) (WkS.perm (WkS.cons rfl (Wk.refl _) (WkS.cons rfl (Wk.refl _) (WkS.nil))) (List.Perm.refl _) (List.Perm.refl _)) (retD_mk (hh := []) (.inl rfl) (resL_cons (resOne_tmp rfl) (resL_cons (resOne_tmp rfl) (resL_nil))) (List.nil_sublist _) (List.Sublist.refl _) ?_)
          exact ⟨rfl, rfl, rfl⟩
        · replace hm := yes_f hc21 hm
          refine wpD_seq ?_
          refine wpD_region ?_
          refine p_pure htab rfl rfl rfl rfl ?_
          refine p_pure htab rfl rfl rfl rfl ?_
          refine ops_nil ?_
          refine then_normal ?_
          refine wpD_cond rfl (fun hc24 => ?_) (fun hc24 => ?_)
          · replace hm := yes_t hc24 hm
            refine wpD_seq ?_
            refine wpD_region ?_
            refine p_pure htab rfl rfl rfl rfl ?_
            obtain ⟨x25, q25, hm⟩ := yes_bind hm
            refine p_call0 (rOf_ok a1 (need_ok q25)) rfl rfl rfl rfl rfl (WkL.refl _) ?_
            rintro _ rfl
            refine p_pure htab rfl rfl rfl rfl ?_
            refine p_pure htab rfl rfl rfl rfl ?_
            obtain ⟨x26, q26, hm⟩ := yes_bind hm
            refine p_call0 (r02_Quotient_ok a1 a2 x26 q26) rfl rfl rfl rfl rfl (WkL.refl _) ?_
            rintro _ rfl
            refine p_pure htab rfl rfl rfl rfl ?_
            obtain ⟨x27, q27, hm⟩ := yes_bind hm
            refine p_call0 (rMul_ok x26 a2 (need_ok q27)) rfl rfl rfl rfl rfl (WkL.refl _) ?_
            rintro _ rfl
            obtain ⟨x28, q28, hm⟩ := yes_bind hm
            refine p_call0 (rSub_ok (rOf a1) (rMul x26 a2) (need_ok q28)) rfl rfl rfl rfl rfl (WkL.refl _) ?_
            rintro _ rfl
            obtain ⟨x29, q29, hm⟩ := yes_bind hm
            refine p_call0 (r02_low_ok (rSub (rOf a1) (rMul x26 a2)) x29 q29) rfl rfl rfl rfl rfl (WkL.refl _) ?_
            rintro _ rfl
            refine p_pure htab rfl rfl rfl rfl ?_
            refine p_pure htab rfl rfl rfl rfl ?_
            refine ops_nil ?_
            refine then_normal ?_
            refine wpD_ret ?_
            refine block_ret ?_
            refine then_ret ?_
            have er30 := yes_eq hm; subst er30
            refine retX.of (s' := ⟨[(6, .v (.int .i64 x29)), (7, .v (.int .i64 (0 : Int)))], [], []⟩) (WkS.perm (WkS.cons rfl (Wk.refl _) (WkS.cons rfl (Wk.refl _) (WkS.nil))) (List.Perm.refl _) (List.Perm.refl _)) (retD_mk (hh := []) (.inl rfl) (resL_cons (resOne_tmp rfl) (resL_cons (resOne_tmp rfl) (resL_nil))) (List.nil_sublist _) (List.Sublist.refl _) ?_)
            exact ⟨rfl, rfl, rfl⟩
          · replace hm := yes_f hc24 hm
            refine wpD_seq ?_
            refine wpD_region ?_
            refine p_pure htab rfl rfl rfl rfl ?_
            refine p_pure htab rfl rfl rfl rfl ?_
            refine ops_nil ?_
            refine then_normal ?_
            refine wpD_cond rfl (fun hc31 => ?_) (fun hc31 => ?_)
            · replace hm := yes_t hc31 hm
              refine wpD_seq ?_
              refine wpD_region ?_
              refine p_pure htab rfl rfl rfl rfl ?_
              refine p_pure htab rfl rfl rfl rfl ?_
              obtain ⟨x32, q32, hm⟩ := yes_bind hm
              refine p_call0 (r02_one_ok (decide ((rCmp (rSub (rOf a1) (rOf a2)) (⟨(0 : Int), (0 : Int)⟩ : TApiWide)) < (0 : Int))) x32 q32) rfl rfl rfl rfl rfl (WkL.refl _) ?_
              rintro _ rfl
              refine p_pure htab rfl rfl rfl rfl ?_
              refine p_pure htab rfl rfl rfl rfl ?_
              refine ops_nil ?_
              refine then_normal ?_
              refine wpD_ret ?_
              refine block_ret ?_
              refine then_ret ?_
              have er33 := yes_eq hm; subst er33
              refine retX.of (s' := ⟨[(6, .v (.int .i64 x32)), (7, .v (.int .i64 (0 : Int)))], [], []⟩) (WkS.perm (WkS.cons rfl (Wk.refl _) (WkS.cons rfl (Wk.refl _) (WkS.nil))) (List.Perm.refl _) (List.Perm.refl _)) (retD_mk (hh := []) (.inl rfl) (resL_cons (resOne_tmp rfl) (resL_cons (resOne_tmp rfl) (resL_nil))) (List.nil_sublist _) (List.Sublist.refl _) ?_)
              exact ⟨rfl, rfl, rfl⟩
            · replace hm := yes_f hc31 hm
              refine wpD_seq ?_
              refine wpD_region ?_
              refine p_pure htab rfl rfl rfl rfl ?_
              refine p_pure htab rfl rfl rfl rfl ?_
              refine ops_nil ?_
              refine then_normal ?_
              refine wpD_cond rfl (fun hc34 => ?_) (fun hc34 => ?_)
              · replace hm := yes_t hc34 hm
                refine wpD_seq ?_
                refine wpD_region ?_
                refine p_pure htab rfl rfl rfl rfl ?_
                refine p_pure htab rfl rfl rfl rfl ?_
                obtain ⟨x35, q35, hm⟩ := yes_bind hm
                refine p_call0 (r02_one_ok (decide ((rCmp (rSub (rOf a1) (rOf a2)) (⟨(0 : Int), (0 : Int)⟩ : TApiWide)) ≤ (0 : Int))) x35 q35) rfl rfl rfl rfl rfl (WkL.refl _) ?_
                rintro _ rfl
                refine p_pure htab rfl rfl rfl rfl ?_
                refine p_pure htab rfl rfl rfl rfl ?_
                refine ops_nil ?_
                refine then_normal ?_
                refine wpD_ret ?_
                refine block_ret ?_
                refine then_ret ?_
                have er36 := yes_eq hm; subst er36
                refine retX.of (s' := ⟨[(6, .v (.int .i64 x35)), (7, .v (.int .i64 (0 : Int)))], [], []⟩) (WkS.perm (WkS.cons rfl (Wk.refl _) (WkS.cons rfl (Wk.refl _) (WkS.nil))) (List.Perm.refl _) (List.Perm.refl _)) (retD_mk (hh := []) (.inl rfl) (resL_cons (resOne_tmp rfl) (resL_cons (resOne_tmp rfl) (resL_nil))) (List.nil_sublist _) (List.Sublist.refl _) ?_)
                exact ⟨rfl, rfl, rfl⟩
              · replace hm := yes_f hc34 hm
                refine wpD_seq ?_
                refine wpD_region ?_
                refine p_pure htab rfl rfl rfl rfl ?_
                refine p_pure htab rfl rfl rfl rfl ?_
                refine ops_nil ?_
                refine then_normal ?_
                refine wpD_cond rfl (fun hc37 => ?_) (fun hc37 => ?_)
                · replace hm := yes_t hc37 hm
                  refine wpD_seq ?_
                  refine wpD_region ?_
                  refine p_pure htab rfl rfl rfl rfl ?_
                  refine p_pure htab rfl rfl rfl rfl ?_
                  obtain ⟨x38, q38, hm⟩ := yes_bind hm
                  refine p_call0 (r02_one_ok ((rCmp (rSub (rOf a1) (rOf a2)) (⟨(0 : Int), (0 : Int)⟩ : TApiWide)) == (0 : Int)) x38 q38) rfl rfl rfl rfl rfl (WkL.refl _) ?_
                  rintro _ rfl
                  refine p_pure htab rfl rfl rfl rfl ?_
                  refine p_pure htab rfl rfl rfl rfl ?_
                  refine ops_nil ?_
                  refine then_normal ?_
                  refine wpD_ret ?_
                  refine block_ret ?_
                  refine then_ret ?_
                  have er39 := yes_eq hm; subst er39
                  refine retX.of (s' := ⟨[(6, .v (.int .i64 x38)), (7, .v (.int .i64 (0 : Int)))], [], []⟩) (WkS.perm (WkS.cons rfl (Wk.refl _) (WkS.cons rfl (Wk.refl _) (WkS.nil))) (List.Perm.refl _) (List.Perm.refl _)) (retD_mk (hh := []) (.inl rfl) (resL_cons (resOne_tmp rfl) (resL_cons (resOne_tmp rfl) (resL_nil))) (List.nil_sublist _) (List.Sublist.refl _) ?_)
                  exact ⟨rfl, rfl, rfl⟩
                · replace hm := yes_f hc37 hm
                  refine wpD_seq ?_
                  refine wpD_region ?_
                  refine p_pure htab rfl rfl rfl rfl ?_
                  refine p_pure htab rfl rfl rfl rfl ?_
                  refine ops_nil ?_
                  refine then_normal ?_
                  refine wpD_cond rfl (fun hc40 => ?_) (fun hc40 => ?_)
                  · replace hm := yes_t hc40 hm
                    refine wpD_seq ?_
                    refine wpD_region ?_
                    refine p_pure htab rfl rfl rfl rfl ?_
                    refine p_pure htab rfl rfl rfl rfl ?_
                    obtain ⟨x41, q41, hm⟩ := yes_bind hm
                    refine p_call0 (r02_one_ok ((rCmp (rSub (rOf a1) (rOf a2)) (⟨(0 : Int), (0 : Int)⟩ : TApiWide)) != (0 : Int)) x41 q41) rfl rfl rfl rfl rfl (WkL.refl _) ?_
                    rintro _ rfl
                    refine p_pure htab rfl rfl rfl rfl ?_
                    refine p_pure htab rfl rfl rfl rfl ?_
                    refine ops_nil ?_
                    refine then_normal ?_
                    refine wpD_ret ?_
                    refine block_ret ?_
                    refine then_ret ?_
                    have er42 := yes_eq hm; subst er42
                    refine retX.of (s' := ⟨[(6, .v (.int .i64 x41)), (7, .v (.int .i64 (0 : Int)))], [], []⟩) (WkS.perm (WkS.cons rfl (Wk.refl _) (WkS.cons rfl (Wk.refl _) (WkS.nil))) (List.Perm.refl _) (List.Perm.refl _)) (retD_mk (hh := []) (.inl rfl) (resL_cons (resOne_tmp rfl) (resL_cons (resOne_tmp rfl) (resL_nil))) (List.nil_sublist _) (List.Sublist.refl _) ?_)
                    exact ⟨rfl, rfl, rfl⟩
                  · replace hm := yes_f hc40 hm
                    refine wpD_seq ?_
                    refine wpD_region ?_
                    refine p_pure htab rfl rfl rfl rfl ?_
                    refine p_pure htab rfl rfl rfl rfl ?_
                    refine ops_nil ?_
                    refine then_normal ?_
                    refine wpD_cond rfl (fun hc43 => ?_) (fun hc43 => ?_)
                    · replace hm := yes_t hc43 hm
                      refine wpD_seq ?_
                      refine wpD_region ?_
                      refine p_pure htab rfl rfl rfl rfl ?_
                      refine p_pure htab rfl rfl rfl rfl ?_
                      refine p_pure htab rfl rfl rfl rfl ?_
                      refine p_split (i := 81) rfl (fun hg44 => ?_) (fun hg44 => ?_)
                      · replace hm := yes_t hg44 hm
                        refine p_pure htab rfl rfl rfl rfl ?_
                        refine p_pure htab rfl rfl rfl rfl ?_
                        refine p_pickT rfl rfl rfl rfl rfl rfl ?_
                        obtain ⟨x45, q45, hm⟩ := yes_bind hm
                        refine p_call0 (r02_one_ok (a2 != (0 : Int)) x45 q45) rfl rfl rfl rfl rfl (WkL.refl _) ?_
                        rintro _ rfl
                        refine p_pure htab rfl rfl rfl rfl ?_
                        refine p_pure htab rfl rfl rfl rfl ?_
                        refine ops_nil ?_
                        refine then_normal ?_
                        refine wpD_ret ?_
                        refine block_ret ?_
                        refine then_ret ?_
                        have er46 := yes_eq hm; subst er46
                        refine retX.of (s' := ⟨[(6, .v (.int .i64 x45)), (7, .v (.int .i64 (0 : Int)))], [], []⟩) (WkS.perm (WkS.cons rfl (Wk.refl _) (WkS.cons rfl (Wk.refl _) (WkS.nil))) (List.Perm.refl _) (List.Perm.refl _)) (retD_mk (hh := []) (.inl rfl) (resL_cons (resOne_tmp rfl) (resL_cons (resOne_tmp rfl) (resL_nil))) (List.nil_sublist _) (List.Sublist.refl _) ?_)
                        exact ⟨rfl, rfl, rfl⟩
                      · replace hm := yes_f hg44 hm
                        refine p_skip rfl rfl rfl ?_
                        refine p_skip rfl rfl rfl ?_
                        refine p_pickF rfl rfl rfl rfl rfl rfl ?_
                        obtain ⟨x47, q47, hm⟩ := yes_bind hm
                        refine p_call0 (r02_one_ok false x47 q47) rfl rfl rfl rfl rfl (WkL.refl _) ?_
                        rintro _ rfl
                        refine p_pure htab rfl rfl rfl rfl ?_
                        refine p_pure htab rfl rfl rfl rfl ?_
                        refine ops_nil ?_
                        refine then_normal ?_
                        refine wpD_ret ?_
                        refine block_ret ?_
                        refine then_ret ?_
                        have er48 := yes_eq hm; subst er48
                        refine retX.of (s' := ⟨[(6, .v (.int .i64 x47)), (7, .v (.int .i64 (0 : Int)))], [], []⟩) (WkS.perm (WkS.cons rfl (Wk.refl _) (WkS.cons rfl (Wk.refl _) (WkS.nil))) (List.Perm.refl _) (List.Perm.refl _)) (retD_mk (hh := []) (.inl rfl) (resL_cons (resOne_tmp rfl) (resL_cons (resOne_tmp rfl) (resL_nil))) (List.nil_sublist _) (List.Sublist.refl _) ?_)
                        exact ⟨rfl, rfl, rfl⟩
                    · replace hm := yes_f hc43 hm
                      refine wpD_seq ?_
                      refine wpD_region ?_
                      refine p_pure htab rfl rfl rfl rfl ?_
                      refine p_pure htab rfl rfl rfl rfl ?_
                      refine ops_nil ?_
                      refine then_normal ?_
                      refine wpD_cond rfl (fun hc49 => ?_) (fun hc49 => ?_)
                      · replace hm := yes_t hc49 hm
                        refine wpD_seq ?_
                        refine wpD_region ?_
                        refine p_pure htab rfl rfl rfl rfl ?_
                        refine p_pure htab rfl rfl rfl rfl ?_
                        refine p_pure htab rfl rfl rfl rfl ?_
                        refine p_split (i := 90) rfl (fun hg50 => ?_) (fun hg50 => ?_)
                        · replace hm := yes_t hg50 hm
                          refine p_skip rfl rfl rfl ?_
                          refine p_skip rfl rfl rfl ?_
                          refine p_pickT rfl rfl rfl rfl rfl rfl ?_
                          obtain ⟨x51, q51, hm⟩ := yes_bind hm
                          refine p_call0 (r02_one_ok true x51 q51) rfl rfl rfl rfl rfl (WkL.refl _) ?_
                          rintro _ rfl
                          refine p_pure htab rfl rfl rfl rfl ?_
                          refine p_pure htab rfl rfl rfl rfl ?_
                          refine ops_nil ?_
                          refine then_normal ?_
                          refine wpD_ret ?_
                          refine block_ret ?_
                          refine then_ret ?_
                          have er52 := yes_eq hm; subst er52
                          refine retX.of (s' := ⟨[(6, .v (.int .i64 x51)), (7, .v (.int .i64 (0 : Int)))], [], []⟩) (WkS.perm (WkS.cons rfl (Wk.refl _) (WkS.cons rfl (Wk.refl _) (WkS.nil))) (List.Perm.refl _) (List.Perm.refl _)) (retD_mk (hh := []) (.inl rfl) (resL_cons (resOne_tmp rfl) (resL_cons (resOne_tmp rfl) (resL_nil))) (List.nil_sublist _) (List.Sublist.refl _) ?_)
                          exact ⟨rfl, rfl, rfl⟩
                        · replace hm := yes_f hg50 hm
                          refine p_pure htab rfl rfl rfl rfl ?_
                          refine p_pure htab rfl rfl rfl rfl ?_
                          refine p_pickF rfl rfl rfl rfl rfl rfl ?_
                          obtain ⟨x53, q53, hm⟩ := yes_bind hm
                          refine p_call0 (r02_one_ok (a2 != (0 : Int)) x53 q53) rfl rfl rfl rfl rfl (WkL.refl _) ?_
                          rintro _ rfl
                          refine p_pure htab rfl rfl rfl rfl ?_
                          refine p_pure htab rfl rfl rfl rfl ?_
                          refine ops_nil ?_
                          refine then_normal ?_
                          refine wpD_ret ?_
                          refine block_ret ?_
                          refine then_ret ?_
                          have er54 := yes_eq hm; subst er54
                          refine retX.of (s' := ⟨[(6, .v (.int .i64 x53)), (7, .v (.int .i64 (0 : Int)))], [], []⟩) (WkS.perm (WkS.cons rfl (Wk.refl _) (WkS.cons rfl (Wk.refl _) (WkS.nil))) (List.Perm.refl _) (List.Perm.refl _)) (retD_mk (hh := []) (.inl rfl) (resL_cons (resOne_tmp rfl) (resL_cons (resOne_tmp rfl) (resL_nil))) (List.nil_sublist _) (List.Sublist.refl _) ?_)
                          exact ⟨rfl, rfl, rfl⟩
                      · replace hm := yes_f hc49 hm
                        refine wpD_skip ?_
                        refine block_normal ?_
                        refine then_normal ?_
                        refine wpD_seq ?_
                        refine wpD_region ?_
                        refine p_pure htab rfl rfl rfl rfl ?_
                        refine p_pure htab rfl rfl rfl rfl ?_
                        refine ops_nil ?_
                        refine then_normal ?_
                        refine wpD_ret ?_
                        have er55 := yes_eq hm; subst er55
                        refine retX.of (s' := ⟨[(6, .v (.int .i64 (0 : Int))), (7, .v (.int .i64 (2 : Int)))], [], []⟩) (WkS.perm (WkS.cons rfl (Wk.refl _) (WkS.cons rfl (Wk.refl _) (WkS.nil))) (List.Perm.refl _) (List.Perm.refl _)) (retD_mk (hh := []) (.inl rfl) (resL_cons (resOne_tmp rfl) (resL_cons (resOne_tmp rfl) (resL_nil))) (List.nil_sublist _) (List.Sublist.refl _) ?_)
                        exact ⟨rfl, rfl, rfl⟩
noncomputable def r02_One (a0 : Int) (a1 : Int) : Option (Int × Int) :=
  (bif (a0 == (5 : Int)) then ((need (pI a1)).bind fun x6 => ((need (pW (rOf a1))).bind fun x7 => ((r02_low (rNeg (rOf a1))).bind fun x8 => some (x8, (0 : Int))))) else (bif (a0 == (6 : Int)) then ((r02_one (a1 == (0 : Int))).bind fun x11 => some (x11, (0 : Int))) else some ((0 : Int), (2 : Int))))
set_option maxRecDepth 100000 in
set_option maxHeartbeats 2000000 in
theorem r02_One_ok (a0 : Int) (a1 : Int) (r : Int × Int) (h0 : r02_One a0 a1 = some r) : CallsD Try.prog 12 [.v (.int .i64 a0), .v (.int .i64 a1)] [] [] (fun d h k => d = .tup [.v (.int .i64 r.1), .v (.int .i64 r.2)] ∧ h = [] ∧ k = []) := by
  have hm := yes_of h0
  unfold r02_One at hm
  clear h0
  refine enterX htab Try.func12 rfl rfl rfl rfl rfl (fun C => ?_)
  refine wpD_seq ?_
  refine wpD_region ?_
  refine p_pure htab rfl rfl rfl rfl ?_
  refine p_pure htab rfl rfl rfl rfl ?_
  refine ops_nil ?_
  refine then_normal ?_
  refine wpD_seq ?_
  refine wpD_seq ?_
  refine wpD_region ?_
  refine p_pure htab rfl rfl rfl rfl ?_
  refine p_pure htab rfl rfl rfl rfl ?_
  refine ops_nil ?_
  refine then_normal ?_
  refine wpD_cond rfl (fun hc5 => ?_) (fun hc5 => ?_)
  · replace hm := yes_t hc5 hm
    refine wpD_seq ?_
    refine wpD_region ?_
    refine p_pure htab rfl rfl rfl rfl ?_
    obtain ⟨x6, q6, hm⟩ := yes_bind hm
    refine p_call0 (rOf_ok a1 (need_ok q6)) rfl rfl rfl rfl rfl (WkL.refl _) ?_
    rintro _ rfl
    obtain ⟨x7, q7, hm⟩ := yes_bind hm
    refine p_call0 (rNeg_ok (rOf a1) (need_ok q7)) rfl rfl rfl rfl rfl (WkL.refl _) ?_
    rintro _ rfl
    obtain ⟨x8, q8, hm⟩ := yes_bind hm
    refine p_call0 (r02_low_ok (rNeg (rOf a1)) x8 q8) rfl rfl rfl rfl rfl (WkL.refl _) ?_
    rintro _ rfl
    refine p_pure htab rfl rfl rfl rfl ?_
    refine p_pure htab rfl rfl rfl rfl ?_
    refine ops_nil ?_
    refine then_normal ?_
    refine wpD_ret ?_
    refine then_ret ?_
    have er9 := yes_eq hm; subst er9
    refine retX.of (s' := ⟨[(4, .v (.int .i64 x8)), (5, .v (.int .i64 (0 : Int)))], [], []⟩) (WkS.perm (WkS.cons rfl (Wk.refl _) (WkS.cons rfl (Wk.refl _) (WkS.nil))) (List.Perm.refl _) (List.Perm.refl _)) (retD_mk (hh := []) (.inl rfl) (resL_cons (resOne_tmp rfl) (resL_cons (resOne_tmp rfl) (resL_nil))) (List.nil_sublist _) (List.Sublist.refl _) ?_)
    exact ⟨rfl, rfl, rfl⟩
  · replace hm := yes_f hc5 hm
    refine wpD_skip ?_
    refine then_normal ?_
    refine wpD_seq ?_
    refine wpD_seq ?_
    refine wpD_region ?_
    refine p_pure htab rfl rfl rfl rfl ?_
    refine p_pure htab rfl rfl rfl rfl ?_
    refine ops_nil ?_
    refine then_normal ?_
    refine wpD_cond rfl (fun hc10 => ?_) (fun hc10 => ?_)
    · replace hm := yes_t hc10 hm
      refine wpD_seq ?_
      refine wpD_region ?_
      refine p_pure htab rfl rfl rfl rfl ?_
      refine p_pure htab rfl rfl rfl rfl ?_
      obtain ⟨x11, q11, hm⟩ := yes_bind hm
      refine p_call0 (r02_one_ok (a1 == (0 : Int)) x11 q11) rfl rfl rfl rfl rfl (WkL.refl _) ?_
      rintro _ rfl
      refine p_pure htab rfl rfl rfl rfl ?_
      refine p_pure htab rfl rfl rfl rfl ?_
      refine ops_nil ?_
      refine then_normal ?_
      refine wpD_ret ?_
      refine then_ret ?_
      have er12 := yes_eq hm; subst er12
      refine retX.of (s' := ⟨[(4, .v (.int .i64 x11)), (5, .v (.int .i64 (0 : Int)))], [], []⟩) (WkS.perm (WkS.cons rfl (Wk.refl _) (WkS.cons rfl (Wk.refl _) (WkS.nil))) (List.Perm.refl _) (List.Perm.refl _)) (retD_mk (hh := []) (.inl rfl) (resL_cons (resOne_tmp rfl) (resL_cons (resOne_tmp rfl) (resL_nil))) (List.nil_sublist _) (List.Sublist.refl _) ?_)
      exact ⟨rfl, rfl, rfl⟩
    · replace hm := yes_f hc10 hm
      refine wpD_skip ?_
      refine then_normal ?_
      refine wpD_seq ?_
      refine wpD_region ?_
      refine p_pure htab rfl rfl rfl rfl ?_
      refine p_pure htab rfl rfl rfl rfl ?_
      refine ops_nil ?_
      refine then_normal ?_
      refine wpD_ret ?_
      have er13 := yes_eq hm; subst er13
      refine retX.of (s' := ⟨[(4, .v (.int .i64 (0 : Int))), (5, .v (.int .i64 (2 : Int)))], [], []⟩) (WkS.perm (WkS.cons rfl (Wk.refl _) (WkS.cons rfl (Wk.refl _) (WkS.nil))) (List.Perm.refl _) (List.Perm.refl _)) (retD_mk (hh := []) (.inl rfl) (resL_cons (resOne_tmp rfl) (resL_cons (resOne_tmp rfl) (resL_nil))) (List.nil_sublist _) (List.Sublist.refl _) ?_)
      exact ⟨rfl, rfl, rfl⟩
noncomputable def r05_Apart (a0 : Int) (a1 : Int) : Option (Int) :=
  (bif (decide (a1 ≤ a0)) then ((need (pI a0)).bind fun x6 => ((need (pI a1)).bind fun x7 => ((need (pWW (rOf a0) (rOf a1))).bind fun x8 => some (rSub (rOf a0) (rOf a1)).gLo))) else ((need (pI a1)).bind fun x10 => ((need (pI a0)).bind fun x11 => ((need (pWW (rOf a1) (rOf a0))).bind fun x12 => some (rSub (rOf a1) (rOf a0)).gLo))))
set_option maxRecDepth 100000 in
set_option maxHeartbeats 2000000 in
theorem r05_Apart_ok (a0 : Int) (a1 : Int) (r : Int) (h0 : r05_Apart a0 a1 = some r) : CallsD Try.prog 63 [.v (.int .i64 a0), .v (.int .i64 a1)] [] [] (fun d h k => d = .v (.int .u64 r) ∧ h = [] ∧ k = []) := by
  have hm := yes_of h0
  unfold r05_Apart at hm
  clear h0
  refine enterX htab Try.func63 rfl rfl rfl rfl rfl (fun C => ?_)
  refine wpD_seq ?_
  refine wpD_region ?_
  refine p_pure htab rfl rfl rfl rfl ?_
  refine ops_nil ?_
  refine then_normal ?_
  refine wpD_seq ?_
  refine wpD_seq ?_
  refine wpD_region ?_
  refine p_pure htab rfl rfl rfl rfl ?_
  refine p_pure htab rfl rfl rfl rfl ?_
  refine p_pure htab rfl rfl rfl rfl ?_
  refine ops_nil ?_
  refine then_normal ?_
  refine wpD_cond rfl (fun hc5 => ?_) (fun hc5 => ?_)
  · replace hm := yes_t hc5 hm
    refine wpD_seq ?_
    refine wpD_region ?_
    refine p_pure htab rfl rfl rfl rfl ?_
    obtain ⟨x6, q6, hm⟩ := yes_bind hm
    refine p_call0 (rOf_ok a0 (need_ok q6)) rfl rfl rfl rfl rfl (WkL.refl _) ?_
    rintro _ rfl
    refine p_pure htab rfl rfl rfl rfl ?_
    obtain ⟨x7, q7, hm⟩ := yes_bind hm
    refine p_call0 (rOf_ok a1 (need_ok q7)) rfl rfl rfl rfl rfl (WkL.refl _) ?_
    rintro _ rfl
    obtain ⟨x8, q8, hm⟩ := yes_bind hm
    refine p_call0 (rSub_ok (rOf a0) (rOf a1) (need_ok q8)) rfl rfl rfl rfl rfl (WkL.refl _) ?_
    rintro _ rfl
    refine p_pure htab rfl rfl rfl rfl ?_
    refine p_pure htab rfl rfl rfl rfl ?_
    refine ops_nil ?_
    refine then_normal ?_
    refine wpD_ret ?_
    refine then_ret ?_
    have er9 := yes_eq hm; subst er9
    refine retX.of (s' := ⟨[(4, .v (.int .u64 ((rSub (rOf a0) (rOf a1)).gLo)))], [], []⟩) (WkS.perm (WkS.cons rfl (Wk.refl _) (WkS.nil)) (List.Perm.refl _) (List.Perm.refl _)) (retD_mk (hh := []) (.inl rfl) (resL_cons (resOne_tmp rfl) (resL_nil)) (List.nil_sublist _) (List.Sublist.refl _) ?_)
    exact ⟨rfl, rfl, rfl⟩
  · replace hm := yes_f hc5 hm
    refine wpD_skip ?_
    refine then_normal ?_
    refine wpD_seq ?_
    refine wpD_region ?_
    refine p_pure htab rfl rfl rfl rfl ?_
    obtain ⟨x10, q10, hm⟩ := yes_bind hm
    refine p_call0 (rOf_ok a1 (need_ok q10)) rfl rfl rfl rfl rfl (WkL.refl _) ?_
    rintro _ rfl
    refine p_pure htab rfl rfl rfl rfl ?_
    obtain ⟨x11, q11, hm⟩ := yes_bind hm
    refine p_call0 (rOf_ok a0 (need_ok q11)) rfl rfl rfl rfl rfl (WkL.refl _) ?_
    rintro _ rfl
    obtain ⟨x12, q12, hm⟩ := yes_bind hm
    refine p_call0 (rSub_ok (rOf a1) (rOf a0) (need_ok q12)) rfl rfl rfl rfl rfl (WkL.refl _) ?_
    rintro _ rfl
    refine p_pure htab rfl rfl rfl rfl ?_
    refine p_pure htab rfl rfl rfl rfl ?_
    refine ops_nil ?_
    refine then_normal ?_
    refine wpD_ret ?_
    have er13 := yes_eq hm; subst er13
    refine retX.of (s' := ⟨[(4, .v (.int .u64 ((rSub (rOf a1) (rOf a0)).gLo)))], [], []⟩) (WkS.perm (WkS.cons rfl (Wk.refl _) (WkS.nil)) (List.Perm.refl _) (List.Perm.refl _)) (retD_mk (hh := []) (.inl rfl) (resL_cons (resOne_tmp rfl) (resL_nil)) (List.nil_sublist _) (List.Sublist.refl _) ?_)
    exact ⟨rfl, rfl, rfl⟩
noncomputable def residue_Part (a0 : Int) : Option (Int) :=
  some (bitI .and .i64 a0 (IntKind.i64.wrap (0 - a0)))
set_option maxRecDepth 100000 in
set_option maxHeartbeats 2000000 in
theorem residue_Part_ok (a0 : Int) (r : Int) (h0 : residue_Part a0 = some r) : CallsD Try.prog 36 [.v (.int .i64 a0)] [] [] (fun d h k => d = .v (.int .i64 r) ∧ h = [] ∧ k = []) := by
  have hm := yes_of h0
  unfold residue_Part at hm
  clear h0
  refine enterX htab Try.func36 rfl rfl rfl rfl rfl (fun C => ?_)
  refine wpD_seq ?_
  refine wpD_region ?_
  refine p_pure htab rfl rfl rfl rfl ?_
  refine ops_nil ?_
  refine then_normal ?_
  refine wpD_seq ?_
  refine wpD_region ?_
  refine p_pure htab rfl rfl rfl rfl ?_
  refine p_pure htab rfl rfl rfl rfl ?_
  refine p_pure htab rfl rfl rfl rfl ?_
  refine p_bit rfl rfl rfl rfl rfl rfl rfl ?_
  refine p_pure htab rfl rfl rfl rfl ?_
  refine ops_nil ?_
  refine then_normal ?_
  refine wpD_ret ?_
  have er1 := yes_eq hm; subst er1
  refine retX.of (s' := ⟨[(2, .v (.int .i64 (bitI .and .i64 a0 (IntKind.i64.wrap (0 - a0)))))], [], []⟩) (WkS.perm (WkS.cons rfl (Wk.refl _) (WkS.nil)) (List.Perm.refl _) (List.Perm.refl _)) (retD_mk (hh := []) (.inl rfl) (resL_cons (resOne_tmp rfl) (resL_nil)) (List.nil_sublist _) (List.Sublist.refl _) ?_)
  exact ⟨rfl, rfl, rfl⟩
noncomputable def residue_size (a0 : Int) : Option (Int) :=
  (bif (decide (a0 < (0 : Int))) then some (IntKind.u64.wrap (0 - (IntKind.u64.wrap a0))) else some (IntKind.u64.wrap a0))
set_option maxRecDepth 100000 in
set_option maxHeartbeats 2000000 in
theorem residue_size_ok (a0 : Int) (r : Int) (h0 : residue_size a0 = some r) : CallsD Try.prog 58 [.v (.int .i64 a0)] [] [] (fun d h k => d = .v (.int .u64 r) ∧ h = [] ∧ k = []) := by
  have hm := yes_of h0
  unfold residue_size at hm
  clear h0
  refine enterX htab Try.func58 rfl rfl rfl rfl rfl (fun C => ?_)
  refine wpD_seq ?_
  refine wpD_region ?_
  refine p_pure htab rfl rfl rfl rfl ?_
  refine ops_nil ?_
  refine then_normal ?_
  refine wpD_seq ?_
  refine wpD_seq ?_
  refine wpD_region ?_
  refine p_pure htab rfl rfl rfl rfl ?_
  refine p_pure htab rfl rfl rfl rfl ?_
  refine ops_nil ?_
  refine then_normal ?_
  refine wpD_cond rfl (fun hc1 => ?_) (fun hc1 => ?_)
  · replace hm := yes_t hc1 hm
    refine wpD_seq ?_
    refine wpD_region ?_
    refine p_pure htab rfl rfl rfl rfl ?_
    refine p_pure htab rfl rfl rfl rfl ?_
    refine p_pure htab rfl rfl rfl rfl ?_
    refine p_pure htab rfl rfl rfl rfl ?_
    refine ops_nil ?_
    refine then_normal ?_
    refine wpD_ret ?_
    refine then_ret ?_
    have er2 := yes_eq hm; subst er2
    refine retX.of (s' := ⟨[(2, .v (.int .u64 (IntKind.u64.wrap (0 - (IntKind.u64.wrap a0)))))], [], []⟩) (WkS.perm (WkS.cons rfl (Wk.refl _) (WkS.nil)) (List.Perm.refl _) (List.Perm.refl _)) (retD_mk (hh := []) (.inl rfl) (resL_cons (resOne_tmp rfl) (resL_nil)) (List.nil_sublist _) (List.Sublist.refl _) ?_)
    exact ⟨rfl, rfl, rfl⟩
  · replace hm := yes_f hc1 hm
    refine wpD_skip ?_
    refine then_normal ?_
    refine wpD_seq ?_
    refine wpD_region ?_
    refine p_pure htab rfl rfl rfl rfl ?_
    refine p_pure htab rfl rfl rfl rfl ?_
    refine p_pure htab rfl rfl rfl rfl ?_
    refine ops_nil ?_
    refine then_normal ?_
    refine wpD_ret ?_
    have er3 := yes_eq hm; subst er3
    refine retX.of (s' := ⟨[(2, .v (.int .u64 (IntKind.u64.wrap a0)))], [], []⟩) (WkS.perm (WkS.cons rfl (Wk.refl _) (WkS.nil)) (List.Perm.refl _) (List.Perm.refl _)) (retD_mk (hh := []) (.inl rfl) (resL_cons (resOne_tmp rfl) (resL_nil)) (List.nil_sublist _) (List.Sublist.refl _) ?_)
    exact ⟨rfl, rfl, rfl⟩
noncomputable def residue_alone (a0 : TApiCong) (a1 : Int) : Option (Bool) :=
  (bif (a0.gM == (0 : Int)) then some (a0.gR == a1) else some false)
set_option maxRecDepth 100000 in
set_option maxHeartbeats 2000000 in
theorem residue_alone_ok (a0 : TApiCong) (a1 : Int) (r : Bool) (h0 : residue_alone a0 a1 = some r) : CallsD Try.prog 46 [eTApiCong a0, .v (.int .i64 a1)] [] [] (fun d h k => d = .v (.bool r) ∧ h = [] ∧ k = []) := by
  have hm := yes_of h0
  unfold residue_alone at hm
  clear h0
  refine enterX htab Try.func46 rfl rfl rfl rfl rfl (fun C => ?_)
  refine wpD_seq ?_
  refine wpD_region ?_
  refine p_box rfl rfl rfl rfl rfl rfl rfl (fun b1 => ?_)
  refine p_pure htab rfl rfl rfl rfl ?_
  refine ops_nil ?_
  refine then_normal ?_
  refine wpD_seq ?_
  refine wpD_region ?_
  refine p_pure htab rfl rfl rfl rfl ?_
  refine p_load 0 htab rfl rfl rfl rfl rfl rfl rfl rfl ?_
  refine p_pure htab rfl rfl rfl rfl ?_
  refine p_pure htab rfl rfl rfl rfl ?_
  refine p_split (i := 8) rfl (fun hg2 => ?_) (fun hg2 => ?_)
  · replace hm := yes_t hg2 hm
    refine p_pure htab rfl rfl rfl rfl ?_
    refine p_load 0 htab rfl rfl rfl rfl rfl rfl rfl rfl ?_
    refine p_pure htab rfl rfl rfl rfl ?_
    refine p_pure htab rfl rfl rfl rfl ?_
    refine p_pickT rfl rfl rfl rfl rfl rfl ?_
    refine p_pure htab rfl rfl rfl rfl ?_
    refine ops_nil ?_
    refine then_normal ?_
    refine wpD_ret ?_
    have er3 := yes_eq hm; subst er3
    refine retX.of (s' := ⟨[(4, .v (.bool (a0.gR == a1)))], [], []⟩) (WkS.perm (WkS.cons rfl (Wk.refl _) (WkS.nil)) (List.Perm.refl _) (List.Perm.refl _)) (retD_mk (hh := []) (.inl rfl) (resL_cons (resOne_tmp rfl) (resL_nil)) (List.nil_sublist _) (List.Sublist.refl _) ?_)
    exact ⟨rfl, rfl, rfl⟩
  · replace hm := yes_f hg2 hm
    refine p_skip rfl rfl rfl ?_
    refine p_skip rfl rfl rfl ?_
    refine p_skip rfl rfl rfl ?_
    refine p_skip rfl rfl rfl ?_
    refine p_pickF rfl rfl rfl rfl rfl rfl ?_
    refine p_pure htab rfl rfl rfl rfl ?_
    refine ops_nil ?_
    refine then_normal ?_
    refine wpD_ret ?_
    have er4 := yes_eq hm; subst er4
    refine retX.of (s' := ⟨[(4, .v (.bool false))], [], []⟩) (WkS.perm (WkS.cons rfl (Wk.refl _) (WkS.nil)) (List.Perm.refl _) (List.Perm.refl _)) (retD_mk (hh := []) (.inl rfl) (resL_cons (resOne_tmp rfl) (resL_nil)) (List.nil_sublist _) (List.Sublist.refl _) ?_)
    exact ⟨rfl, rfl, rfl⟩
noncomputable def residue_gcd (a0 : Int) (a1 : Int) : Option (Int) :=
  ((cong_Gcd (IntKind.u64.wrap a0) (IntKind.u64.wrap a1)).bind fun x1 => some (IntKind.i64.wrap x1))
set_option maxRecDepth 100000 in
set_option maxHeartbeats 2000000 in
theorem residue_gcd_ok (a0 : Int) (a1 : Int) (r : Int) (h0 : residue_gcd a0 a1 = some r) : CallsD Try.prog 19 [.v (.int .i64 a0), .v (.int .i64 a1)] [] [] (fun d h k => d = .v (.int .i64 r) ∧ h = [] ∧ k = []) := by
  have hm := yes_of h0
  unfold residue_gcd at hm
  clear h0
  refine enterX htab Try.func19 rfl rfl rfl rfl rfl (fun C => ?_)
  refine wpD_seq ?_
  refine wpD_region ?_
  refine p_pure htab rfl rfl rfl rfl ?_
  refine ops_nil ?_
  refine then_normal ?_
  refine wpD_seq ?_
  refine wpD_region ?_
  refine p_pure htab rfl rfl rfl rfl ?_
  refine p_pure htab rfl rfl rfl rfl ?_
  refine p_pure htab rfl rfl rfl rfl ?_
  refine p_pure htab rfl rfl rfl rfl ?_
  obtain ⟨x1, q1, hm⟩ := yes_bind hm
  refine p_call0 (cong_Gcd_ok (IntKind.u64.wrap a0) (IntKind.u64.wrap a1) x1 q1) rfl rfl rfl rfl rfl (WkL.refl _) ?_
  rintro _ rfl
  refine p_pure htab rfl rfl rfl rfl ?_
  refine p_pure htab rfl rfl rfl rfl ?_
  refine ops_nil ?_
  refine then_normal ?_
  refine wpD_ret ?_
  have er2 := yes_eq hm; subst er2
  refine retX.of (s' := ⟨[(4, .v (.int .i64 (IntKind.i64.wrap x1)))], [], []⟩) (WkS.perm (WkS.cons rfl (Wk.refl _) (WkS.nil)) (List.Perm.refl _) (List.Perm.refl _)) (retD_mk (hh := []) (.inl rfl) (resL_cons (resOne_tmp rfl) (resL_nil)) (List.nil_sublist _) (List.Sublist.refl _) ?_)
  exact ⟨rfl, rfl, rfl⟩
noncomputable def residue_left (a0 : TApiWide) (a1 : Int) : Option (Int) :=
  (Option.bind (α := Int × Int) (bif (decide (a0.gHi < (0 : Int))) then ((need (pW a0)).bind fun x6 => some ((wNeg a0).gHi, (wNeg a0).gLo)) else some (a0.gHi, a0.gLo)) fun y4 => ((need ((IntKind.u64.wrap a1) != 0)).bind fun x7 => ((math_bits_Div64 ((IntKind.u64.wrap y4.1).tmod (IntKind.u64.wrap a1)) y4.2 (IntKind.u64.wrap a1)).bind fun x8 => (Option.bind (α := Bool) (bif (decide (a0.gHi < (0 : Int))) then some (decide ((0 : Int) < x8.2)) else some false) fun y10 => (bif y10 then some (IntKind.i64.wrap (IntKind.u64.wrap ((IntKind.u64.wrap a1) - x8.2))) else some (IntKind.i64.wrap x8.2))))))
set_option maxRecDepth 100000 in
set_option maxHeartbeats 2000000 in
theorem residue_left_ok (a0 : TApiWide) (a1 : Int) (r : Int) (h0 : residue_left a0 a1 = some r) : CallsD Try.prog 55 [eTApiWide a0, .v (.int .i64 a1)] [] [] (fun d h k => d = .v (.int .i64 r) ∧ h = [] ∧ k = []) := by
  have hm := yes_of h0
  unfold residue_left at hm
  clear h0
  refine enterX htab Try.func55 rfl rfl rfl rfl rfl (fun C => ?_)
  refine wpD_seq ?_
  refine wpD_region ?_
  refine p_box rfl rfl rfl rfl rfl rfl rfl (fun b1 => ?_)
  refine p_pure htab rfl rfl rfl rfl ?_
  refine ops_nil ?_
  refine then_normal ?_
  refine wpD_seq ?_
  refine wpD_region ?_
  refine p_pure htab rfl rfl rfl rfl ?_
  refine p_load 0 htab rfl rfl rfl rfl rfl rfl rfl rfl ?_
  refine p_pure htab rfl rfl rfl rfl ?_
  refine p_pure htab rfl rfl rfl rfl ?_
  refine ops_nil ?_
  refine then_normal ?_
  refine wpD_seq ?_
  refine wpD_seq ?_
  refine wpD_region ?_
  refine p_pure htab rfl rfl rfl rfl ?_
  refine ops_nil ?_
  refine then_normal ?_
  obtain ⟨y4, q4, ho4⟩ := yes_bind hm
  refine wpD_mid (Y := Unit) (fun z4 => (⟨[(1, .v (.int .i64 a1)), (2, .ptr b1 0), (5, .v (.bool (decide (a0.gHi < (0 : Int)))))], [(b1, Blk.cells [.v (.int .i64 y4.1), .v (.int .u64 y4.2)] 54)], []⟩ : S)) ?_ ?_
  · clear hm; have hm := yes_of q4
    refine wpD_cond rfl (fun hc5 => ?_) (fun hc5 => ?_)
    · replace hm := yes_t hc5 hm
      refine wpD_region ?_
      refine p_load (d := eTApiWide a0) 0 htab rfl rfl rfl rfl rfl rfl rfl rfl ?_
      obtain ⟨x6, q6, hm⟩ := yes_bind hm
      refine p_call0 (wNeg_ok a0 (need_ok q6)) rfl rfl rfl rfl rfl (WkL.refl _) ?_
      rintro _ rfl
      refine p_store (ds' := [.v (.int .i64 ((wNeg a0).gHi)), .v (.int .u64 ((wNeg a0).gLo))]) (h' := [(b1, Blk.cells [.v (.int .i64 ((wNeg a0).gHi)), .v (.int .u64 ((wNeg a0).gLo))] 54)]) 0 htab rfl rfl rfl rfl rfl rfl rfl rfl rfl rfl rfl rfl ?_
      refine ops_nil ?_
      have e4 := yes_eq hm; subst e4
      refine ⟨rfl, ?_⟩
      exact WkX.of () (WkS.perm (WkS.cons rfl (Wk.refl _) (WkS.cons rfl (Wk.refl _) (WkS.cons rfl (Wk.refl _) (WkS.nil)))) (List.Perm.refl _) (List.Perm.refl _))
    · replace hm := yes_f hc5 hm
      refine wpD_skip ?_
      have e4 := yes_eq hm; subst e4
      refine ⟨rfl, ?_⟩
      exact WkX.of () (WkS.perm (WkS.cons rfl (Wk.refl _) (WkS.cons rfl (Wk.refl _) (WkS.cons rfl (Wk.refl _) (WkS.nil)))) (List.Perm.refl _) (List.Perm.refl _))
  · intro s4 hw4; clear hm; have hm := ho4; clear q4 ho4
    refine then_normal ?_
    refine wpD_wkX hw4 (fun z4 => ?_)
    refine wpD_seq ?_
    refine wpD_region ?_
    refine p_pure htab rfl rfl rfl rfl ?_
    refine p_pure htab rfl rfl rfl rfl ?_
    refine p_pure htab rfl rfl rfl rfl ?_
    refine ops_nil ?_
    refine then_normal ?_
    refine wpD_seq ?_
    obtain ⟨x7, q7, hm⟩ := yes_bind hm
    obtain ⟨x8, q8, hm⟩ := yes_bind hm
    refine wpD_draws 13 [] [[],[0],[0],[],[0],[],[5],[],[0,5],[0,5,8],[0,5,8,9],[0,5,8,9],[0,5,8,9]] [0,5,8,9] [[],[0],[0,1],[],[0,1,2,3],[],[5],[],[0,1,2,3,4,5,6,7],[0,1,2,3,4,5,6,7,8],[0,1,2,3,4,5,6,7,8,9],[0,1,2,3,4,5,6,7,8,9],[0,1,2,3,4,5,6,7,8,9,10],[0,1,2,3,4,5,6,7,8,9,10,11,12]] (by kernel_rfl) (by kernel_rfl) (by kernel_rfl) (by rfl) (by rfl) (by kernel_rfl) ?_
    apply Exists.intro
    apply Exists.intro
    apply Exists.intro
    apply Exists.intro
    intro bs
    refine z_e rfl rfl (ex_pure htab rfl) rfl rfl rfl rfl rfl rfl ?_
    refine z_qM rfl rfl (xm_load 0 htab rfl rfl rfl rfl rfl) rfl rfl rfl rfl rfl rfl ?_
    refine z_q rfl rfl (ex_pure htab rfl) rfl rfl rfl rfl rfl rfl ?_
    refine z_q rfl rfl (ex_pure htab rfl) rfl rfl rfl rfl rfl rfl ?_
    refine z_q rfl rfl (x_div rfl rfl rfl rfl (by simpa using need_ok q7)) rfl rfl rfl rfl rfl rfl ?_
    refine z_e rfl rfl (ex_pure htab rfl) rfl rfl rfl rfl rfl rfl ?_
    refine z_qM rfl rfl (xm_load 0 htab rfl rfl rfl rfl rfl) rfl rfl rfl rfl rfl rfl ?_
    refine z_q rfl rfl (ex_pure htab rfl) rfl rfl rfl rfl rfl rfl ?_
    refine z_call rfl rfl (math_bits_Div64_ok ((IntKind.u64.wrap y4.1).tmod (IntKind.u64.wrap a1)) y4.2 (IntKind.u64.wrap a1) x8 q8) rfl rfl (WkL.refl _) rfl rfl rfl rfl rfl rfl ?_
    refine z_e rfl rfl (ex_pure htab rfl) rfl rfl rfl rfl rfl rfl ?_
    refine z_q rfl rfl (ex_pure htab rfl) rfl rfl rfl rfl rfl rfl ?_
    refine z_q rfl rfl (ex_pure htab rfl) rfl rfl rfl rfl rfl rfl ?_
    refine z_q rfl rfl (ex_pure htab rfl) rfl rfl rfl rfl rfl rfl ?_
    refine z_nil rfl rfl (fun e he => by simp [isAl] at he) ?_
    refine p_pure htab rfl rfl rfl rfl ?_
    refine ops_nil ?_
    refine then_normal ?_
    refine wpD_seq ?_
    refine wpD_seq ?_
    obtain ⟨y10, q10, ho10⟩ := yes_bind hm
    refine wpD_mid (Y := Unit) (fun z10 => (⟨[(6, .v (.int .u64 (IntKind.u64.wrap a1))), (8, .v (.int .u64 x8.2)), (33, .v (.bool y10))], [(b1, Blk.cells [.v (.int .i64 y4.1), .v (.int .u64 y4.2)] 54)], []⟩ : S)) ?_ ?_
    · clear hm; have hm := yes_of q10
      refine wpD_region ?_
      refine p_pure htab rfl rfl rfl rfl ?_
      refine p_pure htab rfl rfl rfl rfl ?_
      refine p_split (i := 30) rfl (fun hg11 => ?_) (fun hg11 => ?_)
      · replace hm := yes_t hg11 hm
        refine p_pure htab rfl rfl rfl rfl ?_
        refine p_pure htab rfl rfl rfl rfl ?_
        refine p_pickT rfl rfl rfl rfl rfl rfl ?_
        refine ops_nil ?_
        have e10 := yes_eq hm; subst e10
        refine ⟨rfl, ?_⟩
        exact WkX.of () (WkS.perm (WkS.cons rfl (Wk.refl _) (WkS.cons rfl (Wk.refl _) (WkS.cons rfl (Wk.refl _) (WkS.nil)))) (List.Perm.refl _) (List.Perm.refl _))
      · replace hm := yes_f hg11 hm
        refine p_skip rfl rfl rfl ?_
        refine p_skip rfl rfl rfl ?_
        refine p_pickF rfl rfl rfl rfl rfl rfl ?_
        refine ops_nil ?_
        have e10 := yes_eq hm; subst e10
        refine ⟨rfl, ?_⟩
        exact WkX.of () (WkS.perm (WkS.cons rfl (Wk.refl _) (WkS.cons rfl (Wk.refl _) (WkS.cons rfl (Wk.refl _) (WkS.nil)))) (List.Perm.refl _) (List.Perm.refl _))
    · intro s10 hw10; clear hm; have hm := ho10; clear q10 ho10
      refine then_normal ?_
      refine wpD_wkX hw10 (fun z10 => ?_)
      refine wpD_cond rfl (fun hc12 => ?_) (fun hc12 => ?_)
      · replace hm := yes_t hc12 hm
        refine wpD_region ?_
        refine p_pure htab rfl rfl rfl rfl ?_
        refine p_pure htab rfl rfl rfl rfl ?_
        refine p_pure htab rfl rfl rfl rfl ?_
        refine p_pure htab rfl rfl rfl rfl ?_
        refine ops_nil ?_
        refine then_normal ?_
        refine wpD_seq ?_
        refine wpD_region ?_
        refine p_pure htab rfl rfl rfl rfl ?_
        refine p_pure htab rfl rfl rfl rfl ?_
        refine p_pure htab rfl rfl rfl rfl ?_
        refine ops_nil ?_
        refine then_normal ?_
        refine wpD_ret ?_
        have er13 := yes_eq hm; subst er13
        refine retX.of (s' := ⟨[(4, .v (.int .i64 (IntKind.i64.wrap (IntKind.u64.wrap ((IntKind.u64.wrap a1) - x8.2)))))], [], []⟩) (WkS.perm (WkS.cons rfl (Wk.refl _) (WkS.nil)) (List.Perm.refl _) (List.Perm.refl _)) (retD_mk (hh := []) (.inl rfl) (resL_cons (resOne_tmp rfl) (resL_nil)) (List.nil_sublist _) (List.Sublist.refl _) ?_)
        exact ⟨rfl, rfl, rfl⟩
      · replace hm := yes_f hc12 hm
        refine wpD_skip ?_
        refine then_normal ?_
        refine wpD_seq ?_
        refine wpD_region ?_
        refine p_pure htab rfl rfl rfl rfl ?_
        refine p_pure htab rfl rfl rfl rfl ?_
        refine p_pure htab rfl rfl rfl rfl ?_
        refine ops_nil ?_
        refine then_normal ?_
        refine wpD_ret ?_
        have er14 := yes_eq hm; subst er14
        refine retX.of (s' := ⟨[(4, .v (.int .i64 (IntKind.i64.wrap x8.2)))], [], []⟩) (WkS.perm (WkS.cons rfl (Wk.refl _) (WkS.nil)) (List.Perm.refl _) (List.Perm.refl _)) (retD_mk (hh := []) (.inl rfl) (resL_cons (resOne_tmp rfl) (resL_nil)) (List.nil_sublist _) (List.Sublist.refl _) ?_)
        exact ⟨rfl, rfl, rfl⟩
noncomputable def residue_linear (a0 : Int) (a1 : Int) (a2 : TApiCong) (a3 : TApiCong) (a4 : Bool) : Option (TApiCong) :=
  (Option.bind (α := Int) (bif a4 then ((residue_Part a1).bind fun x8 => some x8) else some a1) fun y6 => ((wrap_Exact a0 a2.gR a3.gR).bind fun x9 => (Option.bind (α := Bool) (bif (!x9.2) then some true else some (y6 == (0 : Int))) fun y12 => (bif y12 then (cong_All.bind fun x17 => some x17) else ((residue_left x9.1 y6).bind fun x19 => ((cong_Of y6 x19).bind fun x20 => some x20))))))
set_option maxRecDepth 100000 in
set_option maxHeartbeats 2000000 in
theorem residue_linear_ok (a0 : Int) (a1 : Int) (a2 : TApiCong) (a3 : TApiCong) (a4 : Bool) (r : TApiCong) (h0 : residue_linear a0 a1 a2 a3 a4 = some r) : CallsD Try.prog 18 [.v (.int .i64 a0), .v (.int .i64 a1), eTApiCong a2, eTApiCong a3, .v (.bool a4)] [] [] (fun d h k => d = eTApiCong r ∧ h = [] ∧ k = []) := by
  have hm := yes_of h0
  unfold residue_linear at hm
  clear h0
  refine enterX htab Try.func18 rfl rfl rfl rfl rfl (fun C => ?_)
  refine wpD_seq ?_
  refine wpD_region ?_
  refine p_box rfl rfl rfl rfl rfl rfl rfl (fun b1 => ?_)
  refine p_box rfl rfl rfl rfl rfl rfl rfl (fun b2 => ?_)
  refine p_alloc htab rfl rfl rfl rfl rfl rfl rfl (fun b3 => ?_)
  refine ops_nil ?_
  refine then_normal ?_
  refine wpD_seq ?_
  refine wpD_seq ?_
  refine wpD_region ?_
  refine p_pure htab rfl rfl rfl rfl ?_
  refine ops_nil ?_
  refine then_normal ?_
  obtain ⟨y6, q6, ho6⟩ := yes_bind hm
  refine wpD_mid (Y := Unit) (fun z6 => (⟨[(0, .v (.int .i64 a0)), (1, .v (.int .i64 y6)), (7, .ptr b1 0), (8, .ptr b2 0), (10, .ptr b3 0)], [(b1, Blk.cells [.v (.bool a2.gSome), .v (.int .i64 a2.gM), .v (.int .i64 a2.gR)] 23), (b2, Blk.cells [.v (.bool a3.gSome), .v (.int .i64 a3.gM), .v (.int .i64 a3.gR)] 23), (b3, Blk.cells [.v (.bool false), .v (.int .i64 (0 : Int)), .v (.int .i64 (0 : Int))] 23)], []⟩ : S)) ?_ ?_
  · clear hm; have hm := yes_of q6
    refine wpD_cond rfl (fun hc7 => ?_) (fun hc7 => ?_)
    · replace hm := yes_t hc7 hm
      refine wpD_region ?_
      refine p_pure htab rfl rfl rfl rfl ?_
      obtain ⟨x8, q8, hm⟩ := yes_bind hm
      refine p_call0 (residue_Part_ok a1 x8 q8) rfl rfl rfl rfl rfl (WkL.refl _) ?_
      rintro _ rfl
      refine p_pure htab rfl rfl rfl rfl ?_
      refine ops_nil ?_
      have e6 := yes_eq hm; subst e6
      refine ⟨rfl, ?_⟩
      exact WkX.of () (WkS.perm (WkS.cons rfl (Wk.refl _) (WkS.cons rfl (Wk.refl _) (WkS.cons rfl (Wk.refl _) (WkS.cons rfl (Wk.refl _) (WkS.cons rfl (Wk.refl _) (WkS.nil)))))) (List.Perm.refl _) (List.Perm.refl _))
    · replace hm := yes_f hc7 hm
      refine wpD_skip ?_
      have e6 := yes_eq hm; subst e6
      refine ⟨rfl, ?_⟩
      exact WkX.of () (WkS.perm (WkS.cons rfl (Wk.refl _) (WkS.cons rfl (Wk.refl _) (WkS.cons rfl (Wk.refl _) (WkS.cons rfl (Wk.refl _) (WkS.cons rfl (Wk.refl _) (WkS.nil)))))) (List.Perm.refl _) (List.Perm.refl _))
  · intro s6 hw6; clear hm; have hm := ho6; clear q6 ho6
    refine then_normal ?_
    refine wpD_wkX hw6 (fun z6 => ?_)
    refine wpD_seq ?_
    refine wpD_region ?_
    refine p_pure htab rfl rfl rfl rfl ?_
    refine p_pure htab rfl rfl rfl rfl ?_
    refine p_load 0 htab rfl rfl rfl rfl rfl rfl rfl rfl ?_
    refine p_pure htab rfl rfl rfl rfl ?_
    refine p_load 1 htab rfl rfl rfl rfl rfl rfl rfl rfl ?_
    obtain ⟨x9, q9, hm⟩ := yes_bind hm
    refine p_call0 (wrap_Exact_ok a0 a2.gR a3.gR x9 q9) rfl rfl rfl rfl rfl (WkL.refl _) ?_
    rintro _ rfl
    refine p_pure htab rfl rfl rfl rfl ?_
    refine p_pure htab rfl rfl rfl rfl ?_
    refine p_pure htab rfl rfl rfl rfl ?_
    refine p_alloc htab rfl rfl rfl rfl rfl rfl rfl (fun b10 => ?_)
    refine p_store (ds' := [.v (.int .i64 x9.1.gHi), .v (.int .u64 x9.1.gLo)]) (h' := [(b1, Blk.cells [.v (.bool a2.gSome), .v (.int .i64 a2.gM), .v (.int .i64 a2.gR)] 23), (b2, Blk.cells [.v (.bool a3.gSome), .v (.int .i64 a3.gM), .v (.int .i64 a3.gR)] 23), (b3, Blk.cells [.v (.bool false), .v (.int .i64 (0 : Int)), .v (.int .i64 (0 : Int))] 23), (b10, Blk.cells [.v (.int .i64 x9.1.gHi), .v (.int .u64 x9.1.gLo)] 54)]) 3 htab rfl rfl rfl rfl rfl rfl rfl rfl rfl rfl rfl rfl ?_
    refine p_pure htab rfl rfl rfl rfl ?_
    refine ops_nil ?_
    refine then_normal ?_
    refine wpD_seq ?_
    refine wpD_seq ?_
    obtain ⟨y12, q12, ho12⟩ := yes_bind hm
    refine wpD_mid (Y := Unit) (fun z12 => (⟨[(1, .v (.int .i64 y6)), (10, .ptr b3 0), (11, .ptr b10 0), (30, .v (.bool y12))], [(b1, Blk.cells [.v (.bool a2.gSome), .v (.int .i64 a2.gM), .v (.int .i64 a2.gR)] 23), (b2, Blk.cells [.v (.bool a3.gSome), .v (.int .i64 a3.gM), .v (.int .i64 a3.gR)] 23), (b3, Blk.cells [.v (.bool false), .v (.int .i64 (0 : Int)), .v (.int .i64 (0 : Int))] 23), (b10, Blk.cells [.v (.int .i64 x9.1.gHi), .v (.int .u64 x9.1.gLo)] 54)], []⟩ : S)) ?_ ?_
    · clear hm; have hm := yes_of q12
      refine wpD_region ?_
      refine p_pure htab rfl rfl rfl rfl ?_
      refine p_pure htab rfl rfl rfl rfl ?_
      refine p_pure htab rfl rfl rfl rfl ?_
      refine p_split (i := 27) rfl (fun hg13 => ?_) (fun hg13 => ?_)
      · replace hm := yes_t hg13 hm
        refine p_skip rfl rfl rfl ?_
        refine p_skip rfl rfl rfl ?_
        refine p_pickT rfl rfl rfl rfl rfl rfl ?_
        refine ops_nil ?_
        have e12 := yes_eq hm; subst e12
        refine ⟨rfl, ?_⟩
        exact WkX.of () (WkS.perm (WkS.cons rfl (Wk.refl _) (WkS.cons rfl (Wk.refl _) (WkS.cons rfl (Wk.refl _) (WkS.cons rfl (Wk.refl _) (WkS.nil))))) (List.Perm.refl _) (List.Perm.refl _))
      · replace hm := yes_f hg13 hm
        refine p_pure htab rfl rfl rfl rfl ?_
        refine p_pure htab rfl rfl rfl rfl ?_
        refine p_pickF rfl rfl rfl rfl rfl rfl ?_
        refine ops_nil ?_
        have e12 := yes_eq hm; subst e12
        refine ⟨rfl, ?_⟩
        exact WkX.of () (WkS.perm (WkS.cons rfl (Wk.refl _) (WkS.cons rfl (Wk.refl _) (WkS.cons rfl (Wk.refl _) (WkS.cons rfl (Wk.refl _) (WkS.nil))))) (List.Perm.refl _) (List.Perm.refl _))
    · intro s12 hw12; clear hm; have hm := ho12; clear q12 ho12
      refine then_normal ?_
      refine wpD_wkX hw12 (fun z12 => ?_)
      refine wpD_cond rfl (fun hc16 => ?_) (fun hc16 => ?_)
      · replace hm := yes_t hc16 hm
        refine wpD_seq ?_
        refine wpD_region ?_
        obtain ⟨x17, q17, hm⟩ := yes_bind hm
        refine p_call0 (cong_All_ok  x17 q17) rfl rfl rfl rfl rfl (WkL.refl _) ?_
        rintro _ rfl
        refine p_store (ds' := [.v (.bool x17.gSome), .v (.int .i64 x17.gM), .v (.int .i64 x17.gR)]) (h' := [(b1, Blk.cells [.v (.bool a2.gSome), .v (.int .i64 a2.gM), .v (.int .i64 a2.gR)] 23), (b2, Blk.cells [.v (.bool a3.gSome), .v (.int .i64 a3.gM), .v (.int .i64 a3.gR)] 23), (b3, Blk.cells [.v (.bool x17.gSome), .v (.int .i64 x17.gM), .v (.int .i64 x17.gR)] 23), (b10, Blk.cells [.v (.int .i64 x9.1.gHi), .v (.int .u64 x9.1.gLo)] 54)]) 2 htab rfl rfl rfl rfl rfl rfl rfl rfl rfl rfl rfl rfl ?_
        refine ops_nil ?_
        refine then_normal ?_
        refine wpD_ret ?_
        refine then_ret ?_
        have er18 := yes_eq hm; subst er18
        refine retX.of (s' := ⟨[(10, .ptr b3 0)], [(b3, Blk.cells [.v (.bool x17.gSome), .v (.int .i64 x17.gM), .v (.int .i64 x17.gR)] 23)], []⟩) (WkS.perm (WkS.cons rfl (Wk.refl _) (WkS.nil)) ((perm_at (j := 2) rfl).trans (List.Perm.cons _ (List.Perm.refl _))) (List.Perm.refl _)) (retD_mk (hh := []) (.inl rfl) (resL_cons (resOne_cell 0 rfl rfl rfl rfl) (resL_nil)) (List.nil_sublist _) (List.Sublist.refl _) ?_)
        exact ⟨rfl, rfl, rfl⟩
      · replace hm := yes_f hc16 hm
        refine wpD_skip ?_
        refine then_normal ?_
        refine wpD_seq ?_
        refine wpD_region ?_
        refine p_pure htab rfl rfl rfl rfl ?_
        refine p_load (d := eTApiWide x9.1) 3 htab rfl rfl rfl rfl rfl rfl rfl rfl ?_
        refine p_pure htab rfl rfl rfl rfl ?_
        obtain ⟨x19, q19, hm⟩ := yes_bind hm
        refine p_call0 (residue_left_ok x9.1 y6 x19 q19) rfl rfl rfl rfl rfl (WkL.refl _) ?_
        rintro _ rfl
        obtain ⟨x20, q20, hm⟩ := yes_bind hm
        refine p_call0 (cong_Of_ok y6 x19 x20 q20) rfl rfl rfl rfl rfl (WkL.refl _) ?_
        rintro _ rfl
        refine p_store (ds' := [.v (.bool x20.gSome), .v (.int .i64 x20.gM), .v (.int .i64 x20.gR)]) (h' := [(b1, Blk.cells [.v (.bool a2.gSome), .v (.int .i64 a2.gM), .v (.int .i64 a2.gR)] 23), (b2, Blk.cells [.v (.bool a3.gSome), .v (.int .i64 a3.gM), .v (.int .i64 a3.gR)] 23), (b3, Blk.cells [.v (.bool x20.gSome), .v (.int .i64 x20.gM), .v (.int .i64 x20.gR)] 23), (b10, Blk.cells [.v (.int .i64 x9.1.gHi), .v (.int .u64 x9.1.gLo)] 54)]) 2 htab rfl rfl rfl rfl rfl rfl rfl rfl rfl rfl rfl rfl ?_
        refine ops_nil ?_
        refine then_normal ?_
        refine wpD_ret ?_
        have er21 := yes_eq hm; subst er21
        refine retX.of (s' := ⟨[(10, .ptr b3 0)], [(b3, Blk.cells [.v (.bool x20.gSome), .v (.int .i64 x20.gM), .v (.int .i64 x20.gR)] 23)], []⟩) (WkS.perm (WkS.cons rfl (Wk.refl _) (WkS.nil)) ((perm_at (j := 2) rfl).trans (List.Perm.cons _ (List.Perm.refl _))) (List.Perm.refl _)) (retD_mk (hh := []) (.inl rfl) (resL_cons (resOne_cell 0 rfl rfl rfl rfl) (resL_nil)) (List.nil_sublist _) (List.Sublist.refl _) ?_)
        exact ⟨rfl, rfl, rfl⟩
noncomputable def residue_scaled (a0 : Int) (a1 : Int) : Option (Int) :=
  ((residue_size a1).bind fun x1 => (bif (decide ((9223372036854775807 : Int) < x1)) then some a0 else ((residue_size a1).bind fun x5 => ((need (pII a0 (IntKind.i64.wrap x5))).bind fun x6 => ((wide_Int (wMul a0 (IntKind.i64.wrap x5))).bind fun x7 => (bif (!x7.2) then some a0 else some x7.1))))))
set_option maxRecDepth 100000 in
set_option maxHeartbeats 2000000 in
theorem residue_scaled_ok (a0 : Int) (a1 : Int) (r : Int) (h0 : residue_scaled a0 a1 = some r) : CallsD Try.prog 57 [.v (.int .i64 a0), .v (.int .i64 a1)] [] [] (fun d h k => d = .v (.int .i64 r) ∧ h = [] ∧ k = []) := by
  have hm := yes_of h0
  unfold residue_scaled at hm
  clear h0
  refine enterX htab Try.func57 rfl rfl rfl rfl rfl (fun C => ?_)
  refine wpD_seq ?_
  refine wpD_region ?_
  refine p_pure htab rfl rfl rfl rfl ?_
  refine ops_nil ?_
  refine then_normal ?_
  refine wpD_seq ?_
  refine wpD_seq ?_
  refine wpD_region ?_
  refine p_pure htab rfl rfl rfl rfl ?_
  obtain ⟨x1, q1, hm⟩ := yes_bind hm
  refine p_call0 (residue_size_ok a1 x1 q1) rfl rfl rfl rfl rfl (WkL.refl _) ?_
  rintro _ rfl
  refine p_pure htab rfl rfl rfl rfl ?_
  refine ops_nil ?_
  refine then_normal ?_
  refine wpD_cond rfl (fun hc3 => ?_) (fun hc3 => ?_)
  · replace hm := yes_t hc3 hm
    refine wpD_seq ?_
    refine wpD_region ?_
    refine p_pure htab rfl rfl rfl rfl ?_
    refine p_pure htab rfl rfl rfl rfl ?_
    refine ops_nil ?_
    refine then_normal ?_
    refine wpD_ret ?_
    refine then_ret ?_
    have er4 := yes_eq hm; subst er4
    refine retX.of (s' := ⟨[(4, .v (.int .i64 a0))], [], []⟩) (WkS.perm (WkS.cons rfl (Wk.refl _) (WkS.nil)) (List.Perm.refl _) (List.Perm.refl _)) (retD_mk (hh := []) (.inl rfl) (resL_cons (resOne_tmp rfl) (resL_nil)) (List.nil_sublist _) (List.Sublist.refl _) ?_)
    exact ⟨rfl, rfl, rfl⟩
  · replace hm := yes_f hc3 hm
    refine wpD_skip ?_
    refine then_normal ?_
    refine wpD_seq ?_
    refine wpD_region ?_
    refine p_pure htab rfl rfl rfl rfl ?_
    refine p_pure htab rfl rfl rfl rfl ?_
    obtain ⟨x5, q5, hm⟩ := yes_bind hm
    refine p_call0 (residue_size_ok a1 x5 q5) rfl rfl rfl rfl rfl (WkL.refl _) ?_
    rintro _ rfl
    refine p_pure htab rfl rfl rfl rfl ?_
    obtain ⟨x6, q6, hm⟩ := yes_bind hm
    refine p_call0 (wMul_ok a0 (IntKind.i64.wrap x5) (need_ok q6)) rfl rfl rfl rfl rfl (WkL.refl _) ?_
    rintro _ rfl
    obtain ⟨x7, q7, hm⟩ := yes_bind hm
    refine p_call0 (wide_Int_ok (wMul a0 (IntKind.i64.wrap x5)) x7 q7) rfl rfl rfl rfl rfl (WkL.refl _) ?_
    rintro _ rfl
    refine p_pure htab rfl rfl rfl rfl ?_
    refine p_pure htab rfl rfl rfl rfl ?_
    refine p_pure htab rfl rfl rfl rfl ?_
    refine p_pure htab rfl rfl rfl rfl ?_
    refine p_pure htab rfl rfl rfl rfl ?_
    refine ops_nil ?_
    refine then_normal ?_
    refine wpD_seq ?_
    refine wpD_seq ?_
    refine wpD_region ?_
    refine p_pure htab rfl rfl rfl rfl ?_
    refine p_pure htab rfl rfl rfl rfl ?_
    refine ops_nil ?_
    refine then_normal ?_
    refine wpD_cond rfl (fun hc8 => ?_) (fun hc8 => ?_)
    · replace hm := yes_t hc8 hm
      refine wpD_seq ?_
      refine wpD_region ?_
      refine p_pure htab rfl rfl rfl rfl ?_
      refine p_pure htab rfl rfl rfl rfl ?_
      refine ops_nil ?_
      refine then_normal ?_
      refine wpD_ret ?_
      refine then_ret ?_
      have er9 := yes_eq hm; subst er9
      refine retX.of (s' := ⟨[(4, .v (.int .i64 a0))], [], []⟩) (WkS.perm (WkS.cons rfl (Wk.refl _) (WkS.nil)) (List.Perm.refl _) (List.Perm.refl _)) (retD_mk (hh := []) (.inl rfl) (resL_cons (resOne_tmp rfl) (resL_nil)) (List.nil_sublist _) (List.Sublist.refl _) ?_)
      exact ⟨rfl, rfl, rfl⟩
    · replace hm := yes_f hc8 hm
      refine wpD_skip ?_
      refine then_normal ?_
      refine wpD_seq ?_
      refine wpD_region ?_
      refine p_pure htab rfl rfl rfl rfl ?_
      refine p_pure htab rfl rfl rfl rfl ?_
      refine ops_nil ?_
      refine then_normal ?_
      refine wpD_ret ?_
      have er10 := yes_eq hm; subst er10
      refine retX.of (s' := ⟨[(4, .v (.int .i64 x7.1))], [], []⟩) (WkS.perm (WkS.cons rfl (Wk.refl _) (WkS.nil)) (List.Perm.refl _) (List.Perm.refl _)) (retD_mk (hh := []) (.inl rfl) (resL_cons (resOne_tmp rfl) (resL_nil)) (List.nil_sublist _) (List.Sublist.refl _) ?_)
      exact ⟨rfl, rfl, rfl⟩
noncomputable def residue_product (a0 : TApiCong) (a1 : TApiCong) (a2 : Bool) : Option (TApiCong) :=
  (Option.bind (α := Bool) (bif (a0.gM != (0 : Int)) then some (a1.gM == (0 : Int)) else some false) fun y5 => (Option.bind (α := Bool × Int × Int × Bool × Int × Int) (bif y5 then some (a1.gSome, a1.gM, a1.gR, a0.gSome, a0.gM, a0.gR) else some (a0.gSome, a0.gM, a0.gR, a1.gSome, a1.gM, a1.gR)) fun y8 => ((residue_alone (⟨y8.1, y8.2.1, y8.2.2.1⟩ : TApiCong) (0 : Int)).bind fun x16 => (bif x16 then ((cong_One (0 : Int)).bind fun x23 => some x23) else (bif (y8.2.1 == (0 : Int)) then ((residue_scaled y8.2.2.2.2.1 y8.2.2.1).bind fun x29 => ((residue_linear (7 : Int) x29 (⟨y8.1, y8.2.1, y8.2.2.1⟩ : TApiCong) (⟨y8.2.2.2.1, y8.2.2.2.2.1, y8.2.2.2.2.2⟩ : TApiCong) a2).bind fun x30 => some x30)) else ((residue_gcd y8.2.1 y8.2.2.2.2.1).bind fun x32 => ((residue_linear (7 : Int) x32 (⟨y8.1, y8.2.1, y8.2.2.1⟩ : TApiCong) (⟨y8.2.2.2.1, y8.2.2.2.2.1, y8.2.2.2.2.2⟩ : TApiCong) a2).bind fun x33 => some x33)))))))
set_option maxRecDepth 100000 in
set_option maxHeartbeats 2000000 in
theorem residue_product_ok (a0 : TApiCong) (a1 : TApiCong) (a2 : Bool) (r : TApiCong) (h0 : residue_product a0 a1 a2 = some r) : CallsD Try.prog 20 [eTApiCong a0, eTApiCong a1, .v (.bool a2)] [] [] (fun d h k => d = eTApiCong r ∧ h = [] ∧ k = []) := by
  have hm := yes_of h0
  unfold residue_product at hm
  clear h0
  refine enterX htab Try.func20 rfl rfl rfl rfl rfl (fun C => ?_)
  refine wpD_seq ?_
  refine wpD_region ?_
  refine p_box rfl rfl rfl rfl rfl rfl rfl (fun b1 => ?_)
  refine p_box rfl rfl rfl rfl rfl rfl rfl (fun b2 => ?_)
  refine p_alloc htab rfl rfl rfl rfl rfl rfl rfl (fun b3 => ?_)
  refine ops_nil ?_
  refine then_normal ?_
  refine wpD_seq ?_
  refine wpD_seq ?_
  obtain ⟨y5, q5, ho5⟩ := yes_bind hm
  refine wpD_mid (Y := Unit) (fun z5 => (⟨[(2, .v (.bool a2)), (3, .ptr b1 0), (4, .ptr b2 0), (6, .ptr b3 0), (14, .v (.bool y5))], [(b1, Blk.cells [.v (.bool a0.gSome), .v (.int .i64 a0.gM), .v (.int .i64 a0.gR)] 23), (b2, Blk.cells [.v (.bool a1.gSome), .v (.int .i64 a1.gM), .v (.int .i64 a1.gR)] 23), (b3, Blk.cells [.v (.bool false), .v (.int .i64 (0 : Int)), .v (.int .i64 (0 : Int))] 23)], []⟩ : S)) ?_ ?_
  · clear hm; have hm := yes_of q5
    refine wpD_region ?_
    refine p_pure htab rfl rfl rfl rfl ?_
    refine p_load 0 htab rfl rfl rfl rfl rfl rfl rfl rfl ?_
    refine p_pure htab rfl rfl rfl rfl ?_
    refine p_pure htab rfl rfl rfl rfl ?_
    refine p_split (i := 10) rfl (fun hg6 => ?_) (fun hg6 => ?_)
    · replace hm := yes_t hg6 hm
      refine p_pure htab rfl rfl rfl rfl ?_
      refine p_load 1 htab rfl rfl rfl rfl rfl rfl rfl rfl ?_
      refine p_pure htab rfl rfl rfl rfl ?_
      refine p_pickT rfl rfl rfl rfl rfl rfl ?_
      refine ops_nil ?_
      have e5 := yes_eq hm; subst e5
      refine ⟨rfl, ?_⟩
      exact WkX.of () (WkS.perm (WkS.cons rfl (Wk.refl _) (WkS.cons rfl (Wk.refl _) (WkS.cons rfl (Wk.refl _) (WkS.cons rfl (Wk.refl _) (WkS.cons rfl (Wk.refl _) (WkS.nil)))))) (List.Perm.refl _) (List.Perm.refl _))
    · replace hm := yes_f hg6 hm
      refine p_skip rfl rfl rfl ?_
      refine p_skip rfl rfl rfl ?_
      refine p_skip rfl rfl rfl ?_
      refine p_pickF rfl rfl rfl rfl rfl rfl ?_
      refine ops_nil ?_
      have e5 := yes_eq hm; subst e5
      refine ⟨rfl, ?_⟩
      exact WkX.of () (WkS.perm (WkS.cons rfl (Wk.refl _) (WkS.cons rfl (Wk.refl _) (WkS.cons rfl (Wk.refl _) (WkS.cons rfl (Wk.refl _) (WkS.cons rfl (Wk.refl _) (WkS.nil)))))) (List.Perm.refl _) (List.Perm.refl _))
  · intro s5 hw5; clear hm; have hm := ho5; clear q5 ho5
    refine then_normal ?_
    refine wpD_wkX hw5 (fun z5 => ?_)
    obtain ⟨y8, q8, ho8⟩ := yes_bind hm
    refine wpD_mid (Y := Unit) (fun z8 => (⟨[(2, .v (.bool a2)), (3, .ptr b1 0), (4, .ptr b2 0), (6, .ptr b3 0)], [(b1, Blk.cells [.v (.bool y8.1), .v (.int .i64 y8.2.1), .v (.int .i64 y8.2.2.1)] 23), (b2, Blk.cells [.v (.bool y8.2.2.2.1), .v (.int .i64 y8.2.2.2.2.1), .v (.int .i64 y8.2.2.2.2.2)] 23), (b3, Blk.cells [.v (.bool false), .v (.int .i64 (0 : Int)), .v (.int .i64 (0 : Int))] 23)], []⟩ : S)) ?_ ?_
    · clear hm; have hm := yes_of q8
      refine wpD_cond rfl (fun hc9 => ?_) (fun hc9 => ?_)
      · replace hm := yes_t hc9 hm
        refine wpD_region ?_
        refine p_load (d := eTApiCong a1) 1 htab rfl rfl rfl rfl rfl rfl rfl rfl ?_
        refine p_load (d := eTApiCong a0) 0 htab rfl rfl rfl rfl rfl rfl rfl rfl ?_
        refine p_store (ds' := [.v (.bool a1.gSome), .v (.int .i64 a1.gM), .v (.int .i64 a1.gR)]) (h' := [(b1, Blk.cells [.v (.bool a1.gSome), .v (.int .i64 a1.gM), .v (.int .i64 a1.gR)] 23), (b2, Blk.cells [.v (.bool a1.gSome), .v (.int .i64 a1.gM), .v (.int .i64 a1.gR)] 23), (b3, Blk.cells [.v (.bool false), .v (.int .i64 (0 : Int)), .v (.int .i64 (0 : Int))] 23)]) 0 htab rfl rfl rfl rfl rfl rfl rfl rfl rfl rfl rfl rfl ?_
        refine p_store (ds' := [.v (.bool a0.gSome), .v (.int .i64 a0.gM), .v (.int .i64 a0.gR)]) (h' := [(b1, Blk.cells [.v (.bool a1.gSome), .v (.int .i64 a1.gM), .v (.int .i64 a1.gR)] 23), (b2, Blk.cells [.v (.bool a0.gSome), .v (.int .i64 a0.gM), .v (.int .i64 a0.gR)] 23), (b3, Blk.cells [.v (.bool false), .v (.int .i64 (0 : Int)), .v (.int .i64 (0 : Int))] 23)]) 1 htab rfl rfl rfl rfl rfl rfl rfl rfl rfl rfl rfl rfl ?_
        refine ops_nil ?_
        have e8 := yes_eq hm; subst e8
        refine ⟨rfl, ?_⟩
        exact WkX.of () (WkS.perm (WkS.cons rfl (Wk.refl _) (WkS.cons rfl (Wk.refl _) (WkS.cons rfl (Wk.refl _) (WkS.cons rfl (Wk.refl _) (WkS.nil))))) (List.Perm.refl _) (List.Perm.refl _))
      · replace hm := yes_f hc9 hm
        refine wpD_skip ?_
        have e8 := yes_eq hm; subst e8
        refine ⟨rfl, ?_⟩
        exact WkX.of () (WkS.perm (WkS.cons rfl (Wk.refl _) (WkS.cons rfl (Wk.refl _) (WkS.cons rfl (Wk.refl _) (WkS.cons rfl (Wk.refl _) (WkS.nil))))) (List.Perm.refl _) (List.Perm.refl _))
    · intro s8 hw8; clear hm; have hm := ho8; clear q8 ho8
      refine then_normal ?_
      refine wpD_wkX hw8 (fun z8 => ?_)
      refine wpD_seq ?_
      refine wpD_block ?_
      refine wpD_seq ?_
      refine wpD_region ?_
      refine p_load (d := eTApiCong (⟨y8.1, y8.2.1, y8.2.2.1⟩ : TApiCong)) 0 htab rfl rfl rfl rfl rfl rfl rfl rfl ?_
      obtain ⟨x16, q16, hm⟩ := yes_bind hm
      refine p_call0 (residue_alone_ok (⟨y8.1, y8.2.1, y8.2.2.1⟩ : TApiCong) (0 : Int) x16 q16) rfl rfl rfl rfl rfl (WkL.refl _) ?_
      rintro _ rfl
      refine p_pure htab rfl rfl rfl rfl ?_
      refine ops_nil ?_
      refine then_normal ?_
      refine wpD_cond rfl (fun hc22 => ?_) (fun hc22 => ?_)
      · replace hm := yes_t hc22 hm
        refine wpD_seq ?_
        refine wpD_region ?_
        obtain ⟨x23, q23, hm⟩ := yes_bind hm
        refine p_call0 (cong_One_ok (0 : Int) x23 q23) rfl rfl rfl rfl rfl (WkL.refl _) ?_
        rintro _ rfl
        refine p_store (ds' := [.v (.bool x23.gSome), .v (.int .i64 x23.gM), .v (.int .i64 x23.gR)]) (h' := [(b1, Blk.cells [.v (.bool y8.1), .v (.int .i64 y8.2.1), .v (.int .i64 y8.2.2.1)] 23), (b2, Blk.cells [.v (.bool y8.2.2.2.1), .v (.int .i64 y8.2.2.2.2.1), .v (.int .i64 y8.2.2.2.2.2)] 23), (b3, Blk.cells [.v (.bool x23.gSome), .v (.int .i64 x23.gM), .v (.int .i64 x23.gR)] 23)]) 2 htab rfl rfl rfl rfl rfl rfl rfl rfl rfl rfl rfl rfl ?_
        refine ops_nil ?_
        refine then_normal ?_
        refine wpD_ret ?_
        refine block_ret ?_
        refine then_ret ?_
        have er24 := yes_eq hm; subst er24
        refine retX.of (s' := ⟨[(6, .ptr b3 0)], [(b3, Blk.cells [.v (.bool x23.gSome), .v (.int .i64 x23.gM), .v (.int .i64 x23.gR)] 23)], []⟩) (WkS.perm (WkS.cons rfl (Wk.refl _) (WkS.nil)) ((perm_at (j := 2) rfl).trans (List.Perm.cons _ (List.Perm.refl _))) (List.Perm.refl _)) (retD_mk (hh := []) (.inl rfl) (resL_cons (resOne_cell 0 rfl rfl rfl rfl) (resL_nil)) (List.nil_sublist _) (List.Sublist.refl _) ?_)
        exact ⟨rfl, rfl, rfl⟩
      · replace hm := yes_f hc22 hm
        refine wpD_seq ?_
        refine wpD_region ?_
        refine p_pure htab rfl rfl rfl rfl ?_
        refine p_load 0 htab rfl rfl rfl rfl rfl rfl rfl rfl ?_
        refine p_pure htab rfl rfl rfl rfl ?_
        refine p_pure htab rfl rfl rfl rfl ?_
        refine ops_nil ?_
        refine then_normal ?_
        refine wpD_cond rfl (fun hc28 => ?_) (fun hc28 => ?_)
        · replace hm := yes_t hc28 hm
          refine wpD_seq ?_
          obtain ⟨x29, q29, hm⟩ := yes_bind hm
          refine wpD_draws 8 [] [[],[0],[],[2],[0,2],[],[],[]] [0,2,4,5,6] [[],[0],[],[2],[0,1,2,3],[],[],[],[0,1,2,3,4,5,6,7],[0,1,2,3,4,5,6,7,8]] (by kernel_rfl) (by kernel_rfl) (by kernel_rfl) (by rfl) (by rfl) (by kernel_rfl) ?_
          apply Exists.intro
          apply Exists.intro
          apply Exists.intro
          apply Exists.intro
          apply Exists.intro
          intro bs
          refine z_e rfl rfl (ex_pure htab rfl) rfl rfl rfl rfl rfl rfl ?_
          refine z_qM rfl rfl (xm_load 1 htab rfl rfl rfl rfl rfl) rfl rfl rfl rfl rfl rfl ?_
          refine z_e rfl rfl (ex_pure htab rfl) rfl rfl rfl rfl rfl rfl ?_
          refine z_qM rfl rfl (xm_load 0 htab rfl rfl rfl rfl rfl) rfl rfl rfl rfl rfl rfl ?_
          refine z_call rfl rfl (residue_scaled_ok y8.2.2.2.2.1 y8.2.2.1 x29 q29) rfl rfl (WkL.refl _) rfl rfl rfl rfl rfl rfl ?_
          refine z_eM rfl rfl (xm_load (d := eTApiCong (⟨y8.1, y8.2.1, y8.2.2.1⟩ : TApiCong)) 0 htab rfl rfl rfl rfl rfl) rfl rfl rfl rfl rfl rfl ?_
          refine z_eM rfl rfl (xm_load (d := eTApiCong (⟨y8.2.2.2.1, y8.2.2.2.2.1, y8.2.2.2.2.2⟩ : TApiCong)) 1 htab rfl rfl rfl rfl rfl) rfl rfl rfl rfl rfl rfl ?_
          refine z_q rfl rfl (ex_pure htab rfl) rfl rfl rfl rfl rfl rfl ?_
          refine z_nil rfl rfl (fun e he => by simp [isAl] at he) ?_
          obtain ⟨x30, q30, hm⟩ := yes_bind hm
          refine p_call0 (residue_linear_ok (7 : Int) x29 (⟨y8.1, y8.2.1, y8.2.2.1⟩ : TApiCong) (⟨y8.2.2.2.1, y8.2.2.2.2.1, y8.2.2.2.2.2⟩ : TApiCong) a2 x30 q30) rfl rfl rfl rfl rfl (WkL.refl _) ?_
          rintro _ rfl
          refine p_store (ds' := [.v (.bool x30.gSome), .v (.int .i64 x30.gM), .v (.int .i64 x30.gR)]) (h' := [(b1, Blk.cells [.v (.bool y8.1), .v (.int .i64 y8.2.1), .v (.int .i64 y8.2.2.1)] 23), (b2, Blk.cells [.v (.bool y8.2.2.2.1), .v (.int .i64 y8.2.2.2.2.1), .v (.int .i64 y8.2.2.2.2.2)] 23), (b3, Blk.cells [.v (.bool x30.gSome), .v (.int .i64 x30.gM), .v (.int .i64 x30.gR)] 23)]) 2 htab rfl rfl rfl rfl rfl rfl rfl rfl rfl rfl rfl rfl ?_
          refine ops_nil ?_
          refine then_normal ?_
          refine wpD_ret ?_
          refine block_ret ?_
          refine then_ret ?_
          have er31 := yes_eq hm; subst er31
          refine retX.of (s' := ⟨[(6, .ptr b3 0)], [(b3, Blk.cells [.v (.bool x30.gSome), .v (.int .i64 x30.gM), .v (.int .i64 x30.gR)] 23)], []⟩) (WkS.perm (WkS.cons rfl (Wk.refl _) (WkS.nil)) ((perm_at (j := 2) rfl).trans (List.Perm.cons _ (List.Perm.refl _))) (List.Perm.refl _)) (retD_mk (hh := []) (.inl rfl) (resL_cons (resOne_cell 0 rfl rfl rfl rfl) (resL_nil)) (List.nil_sublist _) (List.Sublist.refl _) ?_)
          exact ⟨rfl, rfl, rfl⟩
        · replace hm := yes_f hc28 hm
          refine wpD_skip ?_
          refine block_normal ?_
          refine then_normal ?_
          refine wpD_seq ?_
          obtain ⟨x32, q32, hm⟩ := yes_bind hm
          refine wpD_draws 8 [] [[],[0],[],[2],[0,2],[],[],[]] [0,2,4,5,6] [[],[0],[],[2],[0,1,2,3],[],[],[],[0,1,2,3,4,5,6,7],[0,1,2,3,4,5,6,7,8]] (by kernel_rfl) (by kernel_rfl) (by kernel_rfl) (by rfl) (by rfl) (by kernel_rfl) ?_
          apply Exists.intro
          apply Exists.intro
          apply Exists.intro
          apply Exists.intro
          apply Exists.intro
          intro bs
          refine z_e rfl rfl (ex_pure htab rfl) rfl rfl rfl rfl rfl rfl ?_
          refine z_qM rfl rfl (xm_load 0 htab rfl rfl rfl rfl rfl) rfl rfl rfl rfl rfl rfl ?_
          refine z_e rfl rfl (ex_pure htab rfl) rfl rfl rfl rfl rfl rfl ?_
          refine z_qM rfl rfl (xm_load 1 htab rfl rfl rfl rfl rfl) rfl rfl rfl rfl rfl rfl ?_
          refine z_call rfl rfl (residue_gcd_ok y8.2.1 y8.2.2.2.2.1 x32 q32) rfl rfl (WkL.refl _) rfl rfl rfl rfl rfl rfl ?_
          refine z_eM rfl rfl (xm_load (d := eTApiCong (⟨y8.1, y8.2.1, y8.2.2.1⟩ : TApiCong)) 0 htab rfl rfl rfl rfl rfl) rfl rfl rfl rfl rfl rfl ?_
          refine z_eM rfl rfl (xm_load (d := eTApiCong (⟨y8.2.2.2.1, y8.2.2.2.2.1, y8.2.2.2.2.2⟩ : TApiCong)) 1 htab rfl rfl rfl rfl rfl) rfl rfl rfl rfl rfl rfl ?_
          refine z_q rfl rfl (ex_pure htab rfl) rfl rfl rfl rfl rfl rfl ?_
          refine z_nil rfl rfl (fun e he => by simp [isAl] at he) ?_
          obtain ⟨x33, q33, hm⟩ := yes_bind hm
          refine p_call0 (residue_linear_ok (7 : Int) x32 (⟨y8.1, y8.2.1, y8.2.2.1⟩ : TApiCong) (⟨y8.2.2.2.1, y8.2.2.2.2.1, y8.2.2.2.2.2⟩ : TApiCong) a2 x33 q33) rfl rfl rfl rfl rfl (WkL.refl _) ?_
          rintro _ rfl
          refine p_store (ds' := [.v (.bool x33.gSome), .v (.int .i64 x33.gM), .v (.int .i64 x33.gR)]) (h' := [(b1, Blk.cells [.v (.bool y8.1), .v (.int .i64 y8.2.1), .v (.int .i64 y8.2.2.1)] 23), (b2, Blk.cells [.v (.bool y8.2.2.2.1), .v (.int .i64 y8.2.2.2.2.1), .v (.int .i64 y8.2.2.2.2.2)] 23), (b3, Blk.cells [.v (.bool x33.gSome), .v (.int .i64 x33.gM), .v (.int .i64 x33.gR)] 23)]) 2 htab rfl rfl rfl rfl rfl rfl rfl rfl rfl rfl rfl rfl ?_
          refine ops_nil ?_
          refine then_normal ?_
          refine wpD_ret ?_
          have er34 := yes_eq hm; subst er34
          refine retX.of (s' := ⟨[(6, .ptr b3 0)], [(b3, Blk.cells [.v (.bool x33.gSome), .v (.int .i64 x33.gM), .v (.int .i64 x33.gR)] 23)], []⟩) (WkS.perm (WkS.cons rfl (Wk.refl _) (WkS.nil)) ((perm_at (j := 2) rfl).trans (List.Perm.cons _ (List.Perm.refl _))) (List.Perm.refl _)) (retD_mk (hh := []) (.inl rfl) (resL_cons (resOne_cell 0 rfl rfl rfl rfl) (resL_nil)) (List.nil_sublist _) (List.Sublist.refl _) ?_)
          exact ⟨rfl, rfl, rfl⟩
noncomputable def residue_quotient (a0 : TApiCong) (a1 : TApiCong) (a2 : Bool) : Option (TApiCong) :=
  ((residue_size a1.gR).bind fun x4 => ((residue_alone a1 (0 : Int)).bind fun x19 => (bif x19 then some (⟨false, (0 : Int), (0 : Int)⟩ : TApiCong) else (Option.bind (α := Bool) (bif (a1.gM != (0 : Int)) then some true else some a2) fun y36 => (bif y36 then (cong_All.bind fun x48 => some x48) else (Option.bind (α := Bool) ((need (x4 != 0)).bind fun x55 => (bif (((IntKind.u64.wrap a0.gM).tmod x4) != (0 : Int)) then some true else ((residue_size a0.gR).bind fun x57 => ((need (x4 != 0)).bind fun x58 => some ((x57.tmod x4) != (0 : Int)))))) fun y54 => (bif y54 then (cong_All.bind fun x62 => some x62) else ((need (x4 != 0)).bind fun x64 => ((need (a1.gR != 0)).bind fun x65 => ((cong_Of (IntKind.i64.wrap (IntKind.u64.wrap ((IntKind.u64.wrap a0.gM).tdiv x4))) (IntKind.i64.wrap (a0.gR.tdiv a1.gR))).bind fun x66 => some x66))))))))))
set_option maxRecDepth 100000 in
set_option maxHeartbeats 2000000 in
theorem residue_quotient_ok (a0 : TApiCong) (a1 : TApiCong) (a2 : Bool) (r : TApiCong) (h0 : residue_quotient a0 a1 a2 = some r) : CallsD Try.prog 21 [eTApiCong a0, eTApiCong a1, .v (.bool a2)] [] [] (fun d h k => d = eTApiCong r ∧ h = [] ∧ k = []) := by
  have hm := yes_of h0
  unfold residue_quotient at hm
  clear h0
  refine enterX htab Try.func21 rfl rfl rfl rfl rfl (fun C => ?_)
  refine wpD_seq ?_
  refine wpD_region ?_
  refine p_box rfl rfl rfl rfl rfl rfl rfl (fun b1 => ?_)
  refine p_box rfl rfl rfl rfl rfl rfl rfl (fun b2 => ?_)
  refine p_alloc htab rfl rfl rfl rfl rfl rfl rfl (fun b3 => ?_)
  refine ops_nil ?_
  refine then_normal ?_
  refine wpD_seq ?_
  refine wpD_region ?_
  refine p_pure htab rfl rfl rfl rfl ?_
  refine p_load 1 htab rfl rfl rfl rfl rfl rfl rfl rfl ?_
  obtain ⟨x4, q4, hm⟩ := yes_bind hm
  refine p_call0 (residue_size_ok a1.gR x4 q4) rfl rfl rfl rfl rfl (WkL.refl _) ?_
  rintro _ rfl
  refine p_pure htab rfl rfl rfl rfl ?_
  refine ops_nil ?_
  refine then_normal ?_
  refine wpD_seq ?_
  refine wpD_block ?_
  refine wpD_seq ?_
  refine wpD_region ?_
  refine p_load (d := eTApiCong a1) 1 htab rfl rfl rfl rfl rfl rfl rfl rfl ?_
  obtain ⟨x19, q19, hm⟩ := yes_bind hm
  refine p_call0 (residue_alone_ok a1 (0 : Int) x19 q19) rfl rfl rfl rfl rfl (WkL.refl _) ?_
  rintro _ rfl
  refine p_pure htab rfl rfl rfl rfl ?_
  refine ops_nil ?_
  refine then_normal ?_
  refine wpD_cond rfl (fun hc33 => ?_) (fun hc33 => ?_)
  · replace hm := yes_t hc33 hm
    refine wpD_seq ?_
    refine wpD_region ?_
    refine p_build (r := [.v (.bool false), .v (.int .i64 (0 : Int)), .v (.int .i64 (0 : Int))]) htab rfl rfl rfl rfl rfl rfl rfl rfl rfl ?_
    refine p_store (ds' := [.v (.bool false), .v (.int .i64 (0 : Int)), .v (.int .i64 (0 : Int))]) (h' := [(b1, Blk.cells [.v (.bool a0.gSome), .v (.int .i64 a0.gM), .v (.int .i64 a0.gR)] 23), (b2, Blk.cells [.v (.bool a1.gSome), .v (.int .i64 a1.gM), .v (.int .i64 a1.gR)] 23), (b3, Blk.cells [.v (.bool false), .v (.int .i64 (0 : Int)), .v (.int .i64 (0 : Int))] 23)]) 2 htab rfl rfl rfl rfl rfl rfl rfl rfl rfl rfl rfl rfl ?_
    refine ops_nil ?_
    refine then_normal ?_
    refine wpD_ret ?_
    refine block_ret ?_
    refine then_ret ?_
    have er34 := yes_eq hm; subst er34
    refine retX.of (s' := ⟨[(6, .ptr b3 0)], [(b3, Blk.cells [.v (.bool false), .v (.int .i64 (0 : Int)), .v (.int .i64 (0 : Int))] 23)], []⟩) (WkS.perm (WkS.cons rfl (Wk.refl _) (WkS.nil)) ((perm_at (j := 2) rfl).trans (List.Perm.cons _ (List.Perm.refl _))) (List.Perm.refl _)) (retD_mk (hh := []) (.inl rfl) (resL_cons (resOne_cell 0 rfl rfl rfl rfl) (resL_nil)) (List.nil_sublist _) (List.Sublist.refl _) ?_)
    exact ⟨rfl, rfl, rfl⟩
  · replace hm := yes_f hc33 hm
    refine wpD_seq ?_
    obtain ⟨y36, q36, ho36⟩ := yes_bind hm
    refine wpD_mid (Y := Unit) (fun z36 => (⟨[(3, .ptr b1 0), (4, .ptr b2 0), (6, .ptr b3 0), (7, .v (.int .u64 x4)), (15, .v (.bool y36))], [(b1, Blk.cells [.v (.bool a0.gSome), .v (.int .i64 a0.gM), .v (.int .i64 a0.gR)] 23), (b2, Blk.cells [.v (.bool a1.gSome), .v (.int .i64 a1.gM), .v (.int .i64 a1.gR)] 23), (b3, Blk.cells [.v (.bool false), .v (.int .i64 (0 : Int)), .v (.int .i64 (0 : Int))] 23)], []⟩ : S)) ?_ ?_
    · clear hm; have hm := yes_of q36
      refine wpD_region ?_
      refine p_pure htab rfl rfl rfl rfl ?_
      refine p_load 1 htab rfl rfl rfl rfl rfl rfl rfl rfl ?_
      refine p_pure htab rfl rfl rfl rfl ?_
      refine p_pure htab rfl rfl rfl rfl ?_
      refine p_split (i := 19) rfl (fun hg37 => ?_) (fun hg37 => ?_)
      · replace hm := yes_t hg37 hm
        refine p_skip rfl rfl rfl ?_
        refine p_pickT rfl rfl rfl rfl rfl rfl ?_
        refine p_pure htab rfl rfl rfl rfl ?_
        refine ops_nil ?_
        have e36 := yes_eq hm; subst e36
        refine ⟨rfl, ?_⟩
        exact WkX.of () (WkS.perm (WkS.cons rfl (Wk.refl _) (WkS.cons rfl (Wk.refl _) (WkS.cons rfl (Wk.refl _) (WkS.cons rfl (Wk.refl _) (WkS.cons rfl (Wk.refl _) (WkS.nil)))))) (List.Perm.refl _) (List.Perm.refl _))
      · replace hm := yes_f hg37 hm
        refine p_pure htab rfl rfl rfl rfl ?_
        refine p_pickF rfl rfl rfl rfl rfl rfl ?_
        refine p_pure htab rfl rfl rfl rfl ?_
        refine ops_nil ?_
        have e36 := yes_eq hm; subst e36
        refine ⟨rfl, ?_⟩
        exact WkX.of () (WkS.perm (WkS.cons rfl (Wk.refl _) (WkS.cons rfl (Wk.refl _) (WkS.cons rfl (Wk.refl _) (WkS.cons rfl (Wk.refl _) (WkS.cons rfl (Wk.refl _) (WkS.nil)))))) (List.Perm.refl _) (List.Perm.refl _))
    · intro s36 hw36; clear hm; have hm := ho36; clear q36 ho36
      refine then_normal ?_
      refine wpD_wkX hw36 (fun z36 => ?_)
      refine wpD_cond rfl (fun hc47 => ?_) (fun hc47 => ?_)
      · replace hm := yes_t hc47 hm
        refine wpD_seq ?_
        refine wpD_region ?_
        obtain ⟨x48, q48, hm⟩ := yes_bind hm
        refine p_call0 (cong_All_ok  x48 q48) rfl rfl rfl rfl rfl (WkL.refl _) ?_
        rintro _ rfl
        refine p_store (ds' := [.v (.bool x48.gSome), .v (.int .i64 x48.gM), .v (.int .i64 x48.gR)]) (h' := [(b1, Blk.cells [.v (.bool a0.gSome), .v (.int .i64 a0.gM), .v (.int .i64 a0.gR)] 23), (b2, Blk.cells [.v (.bool a1.gSome), .v (.int .i64 a1.gM), .v (.int .i64 a1.gR)] 23), (b3, Blk.cells [.v (.bool x48.gSome), .v (.int .i64 x48.gM), .v (.int .i64 x48.gR)] 23)]) 2 htab rfl rfl rfl rfl rfl rfl rfl rfl rfl rfl rfl rfl ?_
        refine ops_nil ?_
        refine then_normal ?_
        refine wpD_ret ?_
        refine block_ret ?_
        refine then_ret ?_
        have er49 := yes_eq hm; subst er49
        refine retX.of (s' := ⟨[(6, .ptr b3 0)], [(b3, Blk.cells [.v (.bool x48.gSome), .v (.int .i64 x48.gM), .v (.int .i64 x48.gR)] 23)], []⟩) (WkS.perm (WkS.cons rfl (Wk.refl _) (WkS.nil)) ((perm_at (j := 2) rfl).trans (List.Perm.cons _ (List.Perm.refl _))) (List.Perm.refl _)) (retD_mk (hh := []) (.inl rfl) (resL_cons (resOne_cell 0 rfl rfl rfl rfl) (resL_nil)) (List.nil_sublist _) (List.Sublist.refl _) ?_)
        exact ⟨rfl, rfl, rfl⟩
      · replace hm := yes_f hc47 hm
        refine wpD_seq ?_
        obtain ⟨y54, q54, ho54⟩ := yes_bind hm
        refine wpD_mid (Y := Unit) (fun z54 => (⟨[(3, .ptr b1 0), (4, .ptr b2 0), (6, .ptr b3 0), (7, .v (.int .u64 x4)), (23, .v (.bool y54))], [(b1, Blk.cells [.v (.bool a0.gSome), .v (.int .i64 a0.gM), .v (.int .i64 a0.gR)] 23), (b2, Blk.cells [.v (.bool a1.gSome), .v (.int .i64 a1.gM), .v (.int .i64 a1.gR)] 23), (b3, Blk.cells [.v (.bool false), .v (.int .i64 (0 : Int)), .v (.int .i64 (0 : Int))] 23)], []⟩ : S)) ?_ ?_
        · clear hm; have hm := yes_of q54
          refine wpD_region ?_
          refine p_pure htab rfl rfl rfl rfl ?_
          refine p_load 0 htab rfl rfl rfl rfl rfl rfl rfl rfl ?_
          refine p_pure htab rfl rfl rfl rfl ?_
          refine p_pure htab rfl rfl rfl rfl ?_
          obtain ⟨x55, q55, hm⟩ := yes_bind hm
          refine p_div rfl rfl rfl rfl rfl rfl rfl (by simpa using need_ok q55) ?_
          refine p_pure htab rfl rfl rfl rfl ?_
          refine p_pure htab rfl rfl rfl rfl ?_
          refine p_split (i := 30) rfl (fun hg56 => ?_) (fun hg56 => ?_)
          · replace hm := yes_t hg56 hm
            refine p_skip rfl rfl rfl ?_
            refine p_skip rfl rfl rfl ?_
            refine p_skip rfl rfl rfl ?_
            refine p_skip rfl rfl rfl ?_
            refine p_skip rfl rfl rfl ?_
            refine p_skip rfl rfl rfl ?_
            refine p_pickT rfl rfl rfl rfl rfl rfl ?_
            refine p_pure htab rfl rfl rfl rfl ?_
            refine ops_nil ?_
            have e54 := yes_eq hm; subst e54
            refine ⟨rfl, ?_⟩
            exact WkX.of () (WkS.perm (WkS.cons rfl (Wk.refl _) (WkS.cons rfl (Wk.refl _) (WkS.cons rfl (Wk.refl _) (WkS.cons rfl (Wk.refl _) (WkS.cons rfl (Wk.refl _) (WkS.nil)))))) (List.Perm.refl _) (List.Perm.refl _))
          · replace hm := yes_f hg56 hm
            refine p_pure htab rfl rfl rfl rfl ?_
            refine p_load 0 htab rfl rfl rfl rfl rfl rfl rfl rfl ?_
            obtain ⟨x57, q57, hm⟩ := yes_bind hm
            refine p_call0 (residue_size_ok a0.gR x57 q57) rfl rfl rfl rfl rfl (WkL.refl _) ?_
            rintro _ rfl
            refine p_pure htab rfl rfl rfl rfl ?_
            obtain ⟨x58, q58, hm⟩ := yes_bind hm
            refine p_div rfl rfl rfl rfl rfl rfl rfl (by simpa using need_ok q58) ?_
            refine p_pure htab rfl rfl rfl rfl ?_
            refine p_pickF rfl rfl rfl rfl rfl rfl ?_
            refine p_pure htab rfl rfl rfl rfl ?_
            refine ops_nil ?_
            have e54 := yes_eq hm; subst e54
            refine ⟨rfl, ?_⟩
            exact WkX.of () (WkS.perm (WkS.cons rfl (Wk.refl _) (WkS.cons rfl (Wk.refl _) (WkS.cons rfl (Wk.refl _) (WkS.cons rfl (Wk.refl _) (WkS.cons rfl (Wk.refl _) (WkS.nil)))))) (List.Perm.refl _) (List.Perm.refl _))
        · intro s54 hw54; clear hm; have hm := ho54; clear q54 ho54
          refine then_normal ?_
          refine wpD_wkX hw54 (fun z54 => ?_)
          refine wpD_cond rfl (fun hc61 => ?_) (fun hc61 => ?_)
          · replace hm := yes_t hc61 hm
            refine wpD_seq ?_
            refine wpD_region ?_
            obtain ⟨x62, q62, hm⟩ := yes_bind hm
            refine p_call0 (cong_All_ok  x62 q62) rfl rfl rfl rfl rfl (WkL.refl _) ?_
            rintro _ rfl
            refine p_store (ds' := [.v (.bool x62.gSome), .v (.int .i64 x62.gM), .v (.int .i64 x62.gR)]) (h' := [(b1, Blk.cells [.v (.bool a0.gSome), .v (.int .i64 a0.gM), .v (.int .i64 a0.gR)] 23), (b2, Blk.cells [.v (.bool a1.gSome), .v (.int .i64 a1.gM), .v (.int .i64 a1.gR)] 23), (b3, Blk.cells [.v (.bool x62.gSome), .v (.int .i64 x62.gM), .v (.int .i64 x62.gR)] 23)]) 2 htab rfl rfl rfl rfl rfl rfl rfl rfl rfl rfl rfl rfl ?_
            refine ops_nil ?_
            refine then_normal ?_
            refine wpD_ret ?_
            refine block_ret ?_
            refine then_ret ?_
            have er63 := yes_eq hm; subst er63
            refine retX.of (s' := ⟨[(6, .ptr b3 0)], [(b3, Blk.cells [.v (.bool x62.gSome), .v (.int .i64 x62.gM), .v (.int .i64 x62.gR)] 23)], []⟩) (WkS.perm (WkS.cons rfl (Wk.refl _) (WkS.nil)) ((perm_at (j := 2) rfl).trans (List.Perm.cons _ (List.Perm.refl _))) (List.Perm.refl _)) (retD_mk (hh := []) (.inl rfl) (resL_cons (resOne_cell 0 rfl rfl rfl rfl) (resL_nil)) (List.nil_sublist _) (List.Sublist.refl _) ?_)
            exact ⟨rfl, rfl, rfl⟩
          · replace hm := yes_f hc61 hm
            refine wpD_skip ?_
            refine block_normal ?_
            refine then_normal ?_
            refine wpD_seq ?_
            obtain ⟨x64, q64, hm⟩ := yes_bind hm
            obtain ⟨x65, q65, hm⟩ := yes_bind hm
            refine wpD_draws 11 [] [[],[0],[0],[],[0],[0],[],[6],[],[8],[6,8]] [0,6,8] [[],[0],[0,1],[],[0,1,2,3],[0,1,2,3,4],[],[6],[],[8],[6,7,8,9],[0,1,2,3,4,5,6,7,8,9,10],[0,1,2,3,4,5,6,7,8,9,10,11]] (by kernel_rfl) (by kernel_rfl) (by kernel_rfl) (by rfl) (by rfl) (by kernel_rfl) ?_
            apply Exists.intro
            apply Exists.intro
            apply Exists.intro
            intro bs
            refine z_e rfl rfl (ex_pure htab rfl) rfl rfl rfl rfl rfl rfl ?_
            refine z_qM rfl rfl (xm_load 0 htab rfl rfl rfl rfl rfl) rfl rfl rfl rfl rfl rfl ?_
            refine z_q rfl rfl (ex_pure htab rfl) rfl rfl rfl rfl rfl rfl ?_
            refine z_q rfl rfl (ex_pure htab rfl) rfl rfl rfl rfl rfl rfl ?_
            refine z_q rfl rfl (x_div rfl rfl rfl rfl (by simpa using need_ok q64)) rfl rfl rfl rfl rfl rfl ?_
            refine z_q rfl rfl (ex_pure htab rfl) rfl rfl rfl rfl rfl rfl ?_
            refine z_e rfl rfl (ex_pure htab rfl) rfl rfl rfl rfl rfl rfl ?_
            refine z_qM rfl rfl (xm_load 0 htab rfl rfl rfl rfl rfl) rfl rfl rfl rfl rfl rfl ?_
            refine z_e rfl rfl (ex_pure htab rfl) rfl rfl rfl rfl rfl rfl ?_
            refine z_qM rfl rfl (xm_load 1 htab rfl rfl rfl rfl rfl) rfl rfl rfl rfl rfl rfl ?_
            refine z_q rfl rfl (x_div rfl rfl rfl rfl (by simpa using need_ok q65)) rfl rfl rfl rfl rfl rfl ?_
            refine z_nil rfl rfl (fun e he => by simp [isAl] at he) ?_
            obtain ⟨x66, q66, hm⟩ := yes_bind hm
            refine p_call0 (cong_Of_ok (IntKind.i64.wrap (IntKind.u64.wrap ((IntKind.u64.wrap a0.gM).tdiv x4))) (IntKind.i64.wrap (a0.gR.tdiv a1.gR)) x66 q66) rfl rfl rfl rfl rfl (WkL.refl _) ?_
            rintro _ rfl
            refine p_store (ds' := [.v (.bool x66.gSome), .v (.int .i64 x66.gM), .v (.int .i64 x66.gR)]) (h' := [(b1, Blk.cells [.v (.bool a0.gSome), .v (.int .i64 a0.gM), .v (.int .i64 a0.gR)] 23), (b2, Blk.cells [.v (.bool a1.gSome), .v (.int .i64 a1.gM), .v (.int .i64 a1.gR)] 23), (b3, Blk.cells [.v (.bool x66.gSome), .v (.int .i64 x66.gM), .v (.int .i64 x66.gR)] 23)]) 2 htab rfl rfl rfl rfl rfl rfl rfl rfl rfl rfl rfl rfl ?_
            refine ops_nil ?_
            refine then_normal ?_
            refine wpD_ret ?_
            have er67 := yes_eq hm; subst er67
            refine retX.of (s' := ⟨[(6, .ptr b3 0)], [(b3, Blk.cells [.v (.bool x66.gSome), .v (.int .i64 x66.gM), .v (.int .i64 x66.gR)] 23)], []⟩) (WkS.perm (WkS.cons rfl (Wk.refl _) (WkS.nil)) ((perm_at (j := 2) rfl).trans (List.Perm.cons _ (List.Perm.refl _))) (List.Perm.refl _)) (retD_mk (hh := []) (.inl rfl) (resL_cons (resOne_cell 0 rfl rfl rfl rfl) (resL_nil)) (List.nil_sublist _) (List.Sublist.refl _) ?_)
            exact ⟨rfl, rfl, rfl⟩
noncomputable def residue_rest (a0 : TApiCong) (a1 : TApiCong) : Option (TApiCong) :=
  ((residue_alone a1 (0 : Int)).bind fun x4 => (bif x4 then some (⟨false, (0 : Int), (0 : Int)⟩ : TApiCong) else ((residue_gcd a0.gM a1.gM).bind fun x8 => ((residue_size a1.gR).bind fun x9 => ((cong_Gcd (IntKind.u64.wrap x8) x9).bind fun x10 => ((cong_Of (IntKind.i64.wrap x10) a0.gR).bind fun x11 => some x11))))))
set_option maxRecDepth 100000 in
set_option maxHeartbeats 2000000 in
theorem residue_rest_ok (a0 : TApiCong) (a1 : TApiCong) (r : TApiCong) (h0 : residue_rest a0 a1 = some r) : CallsD Try.prog 22 [eTApiCong a0, eTApiCong a1] [] [] (fun d h k => d = eTApiCong r ∧ h = [] ∧ k = []) := by
  have hm := yes_of h0
  unfold residue_rest at hm
  clear h0
  refine enterX htab Try.func22 rfl rfl rfl rfl rfl (fun C => ?_)
  refine wpD_seq ?_
  refine wpD_region ?_
  refine p_box rfl rfl rfl rfl rfl rfl rfl (fun b1 => ?_)
  refine p_box rfl rfl rfl rfl rfl rfl rfl (fun b2 => ?_)
  refine p_alloc htab rfl rfl rfl rfl rfl rfl rfl (fun b3 => ?_)
  refine ops_nil ?_
  refine then_normal ?_
  refine wpD_seq ?_
  refine wpD_seq ?_
  refine wpD_region ?_
  refine p_load (d := eTApiCong a1) 1 htab rfl rfl rfl rfl rfl rfl rfl rfl ?_
  obtain ⟨x4, q4, hm⟩ := yes_bind hm
  refine p_call0 (residue_alone_ok a1 (0 : Int) x4 q4) rfl rfl rfl rfl rfl (WkL.refl _) ?_
  rintro _ rfl
  refine ops_nil ?_
  refine then_normal ?_
  refine wpD_cond rfl (fun hc6 => ?_) (fun hc6 => ?_)
  · replace hm := yes_t hc6 hm
    refine wpD_seq ?_
    refine wpD_region ?_
    refine p_build (r := [.v (.bool false), .v (.int .i64 (0 : Int)), .v (.int .i64 (0 : Int))]) htab rfl rfl rfl rfl rfl rfl rfl rfl rfl ?_
    refine p_store (ds' := [.v (.bool false), .v (.int .i64 (0 : Int)), .v (.int .i64 (0 : Int))]) (h' := [(b1, Blk.cells [.v (.bool a0.gSome), .v (.int .i64 a0.gM), .v (.int .i64 a0.gR)] 23), (b2, Blk.cells [.v (.bool a1.gSome), .v (.int .i64 a1.gM), .v (.int .i64 a1.gR)] 23), (b3, Blk.cells [.v (.bool false), .v (.int .i64 (0 : Int)), .v (.int .i64 (0 : Int))] 23)]) 2 htab rfl rfl rfl rfl rfl rfl rfl rfl rfl rfl rfl rfl ?_
    refine ops_nil ?_
    refine then_normal ?_
    refine wpD_ret ?_
    refine then_ret ?_
    have er7 := yes_eq hm; subst er7
    refine retX.of (s' := ⟨[(4, .ptr b3 0)], [(b3, Blk.cells [.v (.bool false), .v (.int .i64 (0 : Int)), .v (.int .i64 (0 : Int))] 23)], []⟩) (WkS.perm (WkS.cons rfl (Wk.refl _) (WkS.nil)) ((perm_at (j := 2) rfl).trans (List.Perm.cons _ (List.Perm.refl _))) (List.Perm.refl _)) (retD_mk (hh := []) (.inl rfl) (resL_cons (resOne_cell 0 rfl rfl rfl rfl) (resL_nil)) (List.nil_sublist _) (List.Sublist.refl _) ?_)
    exact ⟨rfl, rfl, rfl⟩
  · replace hm := yes_f hc6 hm
    refine wpD_skip ?_
    refine then_normal ?_
    refine wpD_seq ?_
    obtain ⟨x8, q8, hm⟩ := yes_bind hm
    obtain ⟨x9, q9, hm⟩ := yes_bind hm
    refine wpD_draws 9 [] [[],[0],[],[2],[0,2],[0,2,4],[],[6],[0,2,4,6]] [0,2,4,6,8] [[],[0],[],[2],[0,1,2,3],[0,1,2,3,4],[],[6],[0,1,2,3,4,6,7],[0,1,2,3,4,5,6,7,8],[0,1,2,3,4,5,6,7,8,9]] (by kernel_rfl) (by kernel_rfl) (by kernel_rfl) (by rfl) (by rfl) (by kernel_rfl) ?_
    apply Exists.intro
    apply Exists.intro
    apply Exists.intro
    apply Exists.intro
    apply Exists.intro
    intro bs
    refine z_e rfl rfl (ex_pure htab rfl) rfl rfl rfl rfl rfl rfl ?_
    refine z_qM rfl rfl (xm_load 0 htab rfl rfl rfl rfl rfl) rfl rfl rfl rfl rfl rfl ?_
    refine z_e rfl rfl (ex_pure htab rfl) rfl rfl rfl rfl rfl rfl ?_
    refine z_qM rfl rfl (xm_load 1 htab rfl rfl rfl rfl rfl) rfl rfl rfl rfl rfl rfl ?_
    refine z_call rfl rfl (residue_gcd_ok a0.gM a1.gM x8 q8) rfl rfl (WkL.refl _) rfl rfl rfl rfl rfl rfl ?_
    refine z_q rfl rfl (ex_pure htab rfl) rfl rfl rfl rfl rfl rfl ?_
    refine z_e rfl rfl (ex_pure htab rfl) rfl rfl rfl rfl rfl rfl ?_
    refine z_qM rfl rfl (xm_load 1 htab rfl rfl rfl rfl rfl) rfl rfl rfl rfl rfl rfl ?_
    refine z_call rfl rfl (residue_size_ok a1.gR x9 q9) rfl rfl (WkL.refl _) rfl rfl rfl rfl rfl rfl ?_
    refine z_nil rfl rfl (fun e he => by simp [isAl] at he) ?_
    obtain ⟨x10, q10, hm⟩ := yes_bind hm
    refine p_call0 (cong_Gcd_ok (IntKind.u64.wrap x8) x9 x10 q10) rfl rfl rfl rfl rfl (WkL.refl _) ?_
    rintro _ rfl
    refine p_pure htab rfl rfl rfl rfl ?_
    refine ops_nil ?_
    refine then_normal ?_
    refine wpD_seq ?_
    refine wpD_region ?_
    refine p_pure htab rfl rfl rfl rfl ?_
    refine p_pure htab rfl rfl rfl rfl ?_
    refine p_pure htab rfl rfl rfl rfl ?_
    refine p_load 0 htab rfl rfl rfl rfl rfl rfl rfl rfl ?_
    obtain ⟨x11, q11, hm⟩ := yes_bind hm
    refine p_call0 (cong_Of_ok (IntKind.i64.wrap x10) a0.gR x11 q11) rfl rfl rfl rfl rfl (WkL.refl _) ?_
    rintro _ rfl
    refine p_store (ds' := [.v (.bool x11.gSome), .v (.int .i64 x11.gM), .v (.int .i64 x11.gR)]) (h' := [(b1, Blk.cells [.v (.bool a0.gSome), .v (.int .i64 a0.gM), .v (.int .i64 a0.gR)] 23), (b2, Blk.cells [.v (.bool a1.gSome), .v (.int .i64 a1.gM), .v (.int .i64 a1.gR)] 23), (b3, Blk.cells [.v (.bool x11.gSome), .v (.int .i64 x11.gM), .v (.int .i64 x11.gR)] 23)]) 2 htab rfl rfl rfl rfl rfl rfl rfl rfl rfl rfl rfl rfl ?_
    refine ops_nil ?_
    refine then_normal ?_
    refine wpD_ret ?_
    have er12 := yes_eq hm; subst er12
    refine retX.of (s' := ⟨[(4, .ptr b3 0)], [(b3, Blk.cells [.v (.bool x11.gSome), .v (.int .i64 x11.gM), .v (.int .i64 x11.gR)] 23)], []⟩) (WkS.perm (WkS.cons rfl (Wk.refl _) (WkS.nil)) ((perm_at (j := 2) rfl).trans (List.Perm.cons _ (List.Perm.refl _))) (List.Perm.refl _)) (retD_mk (hh := []) (.inl rfl) (resL_cons (resOne_cell 0 rfl rfl rfl rfl) (resL_nil)) (List.nil_sublist _) (List.Sublist.refl _) ?_)
    exact ⟨rfl, rfl, rfl⟩
noncomputable def residue_apart (a0 : TApiCong) (a1 : TApiCong) : Option (Bool) :=
  ((residue_gcd a0.gM a1.gM).bind fun x3 => ((cong_Of x3 a0.gR).bind fun x4 => ((cong_One a1.gR).bind fun x5 => ((cong_Meet x4 x5).bind fun x6 => ((cong_None x6).bind fun x7 => some x7)))))
set_option maxRecDepth 100000 in
set_option maxHeartbeats 2000000 in
theorem residue_apart_ok (a0 : TApiCong) (a1 : TApiCong) (r : Bool) (h0 : residue_apart a0 a1 = some r) : CallsD Try.prog 59 [eTApiCong a0, eTApiCong a1] [] [] (fun d h k => d = .v (.bool r) ∧ h = [] ∧ k = []) := by
  have hm := yes_of h0
  unfold residue_apart at hm
  clear h0
  refine enterX htab Try.func59 rfl rfl rfl rfl rfl (fun C => ?_)
  refine wpD_seq ?_
  refine wpD_region ?_
  refine p_box rfl rfl rfl rfl rfl rfl rfl (fun b1 => ?_)
  refine p_box rfl rfl rfl rfl rfl rfl rfl (fun b2 => ?_)
  refine p_pure htab rfl rfl rfl rfl ?_
  refine ops_nil ?_
  refine then_normal ?_
  refine wpD_seq ?_
  obtain ⟨x3, q3, hm⟩ := yes_bind hm
  obtain ⟨x4, q4, hm⟩ := yes_bind hm
  refine wpD_draws 10 [] [[],[0],[],[2],[0,2],[],[5],[0,2,4,5],[],[8]] [0,2,4,5,7,8] [[],[0],[],[2],[0,1,2,3],[],[5],[0,1,2,3,4,5,6],[],[8],[0,1,2,3,4,5,6,7,8,9],[0,1,2,3,4,5,6,7,8,9,10],[0,1,2,3,4,5,6,7,8,9,10,11],[0,1,2,3,4,5,6,7,8,9,10,11,12]] (by kernel_rfl) (by kernel_rfl) (by kernel_rfl) (by rfl) (by rfl) (by kernel_rfl) ?_
  apply Exists.intro
  apply Exists.intro
  apply Exists.intro
  apply Exists.intro
  apply Exists.intro
  apply Exists.intro
  intro bs
  refine z_e rfl rfl (ex_pure htab rfl) rfl rfl rfl rfl rfl rfl ?_
  refine z_qM rfl rfl (xm_load 0 htab rfl rfl rfl rfl rfl) rfl rfl rfl rfl rfl rfl ?_
  refine z_e rfl rfl (ex_pure htab rfl) rfl rfl rfl rfl rfl rfl ?_
  refine z_qM rfl rfl (xm_load 1 htab rfl rfl rfl rfl rfl) rfl rfl rfl rfl rfl rfl ?_
  refine z_call rfl rfl (residue_gcd_ok a0.gM a1.gM x3 q3) rfl rfl (WkL.refl _) rfl rfl rfl rfl rfl rfl ?_
  refine z_e rfl rfl (ex_pure htab rfl) rfl rfl rfl rfl rfl rfl ?_
  refine z_qM rfl rfl (xm_load 0 htab rfl rfl rfl rfl rfl) rfl rfl rfl rfl rfl rfl ?_
  refine z_call rfl rfl (cong_Of_ok x3 a0.gR x4 q4) rfl rfl (WkL.refl _) rfl rfl rfl rfl rfl rfl ?_
  refine z_e rfl rfl (ex_pure htab rfl) rfl rfl rfl rfl rfl rfl ?_
  refine z_qM rfl rfl (xm_load 1 htab rfl rfl rfl rfl rfl) rfl rfl rfl rfl rfl rfl ?_
  refine z_nil rfl rfl (fun e he => by simp [isAl] at he) ?_
  obtain ⟨x5, q5, hm⟩ := yes_bind hm
  refine p_call0 (cong_One_ok a1.gR x5 q5) rfl rfl rfl rfl rfl (WkL.refl _) ?_
  rintro _ rfl
  obtain ⟨x6, q6, hm⟩ := yes_bind hm
  refine p_call0 (cong_Meet_ok x4 x5 x6 q6) rfl rfl rfl rfl rfl (WkL.refl _) ?_
  rintro _ rfl
  obtain ⟨x7, q7, hm⟩ := yes_bind hm
  refine p_call0 (cong_None_ok x6 x7 q7) rfl rfl rfl rfl rfl (WkL.refl _) ?_
  rintro _ rfl
  refine p_pure htab rfl rfl rfl rfl ?_
  refine ops_nil ?_
  refine then_normal ?_
  refine wpD_ret ?_
  have er8 := yes_eq hm; subst er8
  refine retX.of (s' := ⟨[(4, .v (.bool x7))], [], []⟩) (WkS.perm (WkS.cons rfl (Wk.refl _) (WkS.nil)) (List.Perm.refl _) (List.Perm.refl _)) (retD_mk (hh := []) (.inl rfl) (resL_cons (resOne_tmp rfl) (resL_nil)) (List.nil_sublist _) (List.Sublist.refl _) ?_)
  exact ⟨rfl, rfl, rfl⟩
noncomputable def residue_compare (a0 : Int) (a1 : TApiCong) (a2 : TApiCong) : Option (TApiCong) :=
  (bif (a0 == (15 : Int)) then ((residue_apart a1 a2).bind fun x220 => (bif x220 then ((cong_One (1 : Int)).bind fun x222 => some x222) else (cong_All.bind fun x224 => some x224))) else (bif (a0 == (14 : Int)) then ((residue_apart a1 a2).bind fun x227 => (bif x227 then ((cong_One (0 : Int)).bind fun x229 => some x229) else (cong_All.bind fun x231 => some x231))) else (bif (a0 == (16 : Int)) then (Option.bind (α := (Unit) ⊕ (TApiCong)) (Option.bind (α := Bool) ((residue_alone a1 (0 : Int)).bind fun x253 => (bif x253 then some true else ((residue_alone a2 (0 : Int)).bind fun x255 => some x255))) fun y252 => (Option.bind (α := (Unit) ⊕ (TApiCong)) (bif y252 then ((cong_One (0 : Int)).bind fun x265 => some (.inr x265)) else (Option.bind (α := Bool) ((cong_Has a1 (0 : Int)).bind fun x271 => (bif (!x271) then ((cong_Has a2 (0 : Int)).bind fun x273 => some (!x273)) else some false)) fun y270 => (bif y270 then ((cong_One (1 : Int)).bind fun x275 => some (.inr x275)) else some (.inl ())))) (Sum.elim (fun y263 => some (.inl ())) (fun r => some (.inr r))))) (Sum.elim (fun y248 => (cong_All.bind fun x277 => some x277)) (fun r => some r))) else (bif (a0 == (17 : Int)) then (Option.bind (α := Bool) ((cong_Has a1 (0 : Int)).bind fun x284 => (bif (!x284) then some true else ((cong_Has a2 (0 : Int)).bind fun x286 => some (!x286)))) fun y283 => (bif y283 then ((cong_One (1 : Int)).bind fun x290 => some x290) else (cong_All.bind fun x292 => some x292))) else (Option.bind (α := Bool) (bif (a0 == (12 : Int)) then some (a0 == (12 : Int)) else some (a0 == (13 : Int))) fun y295 => (bif y295 then (cong_All.bind fun x298 => some x298) else some (⟨false, (0 : Int), (0 : Int)⟩ : TApiCong)))))))
set_option maxRecDepth 100000 in
set_option maxHeartbeats 2000000 in
theorem residue_compare_ok (a0 : Int) (a1 : TApiCong) (a2 : TApiCong) (r : TApiCong) (h0 : residue_compare a0 a1 a2 = some r) : CallsD Try.prog 23 [.v (.int .i64 a0), eTApiCong a1, eTApiCong a2] [] [] (fun d h k => d = eTApiCong r ∧ h = [] ∧ k = []) := by
  have hm := yes_of h0
  unfold residue_compare at hm
  clear h0
  refine enterX htab Try.func23 rfl rfl rfl rfl rfl (fun C => ?_)
  refine wpD_seq ?_
  refine wpD_region ?_
  refine p_box rfl rfl rfl rfl rfl rfl rfl (fun b1 => ?_)
  refine p_box rfl rfl rfl rfl rfl rfl rfl (fun b2 => ?_)
  refine p_alloc htab rfl rfl rfl rfl rfl rfl rfl (fun b3 => ?_)
  refine ops_nil ?_
  refine then_normal ?_
  refine wpD_seq ?_
  refine wpD_region ?_
  refine p_pure htab rfl rfl rfl rfl ?_
  refine ops_nil ?_
  refine then_normal ?_
  refine wpD_seq ?_
  refine wpD_seq ?_
  refine wpD_region ?_
  refine p_pure htab rfl rfl rfl rfl ?_
  refine ops_nil ?_
  refine then_normal ?_
  refine wpD_block ?_
  refine wpD_seq ?_
  refine wpD_block ?_
  refine wpD_seq ?_
  refine wpD_block ?_
  refine wpD_seq ?_
  refine wpD_block ?_
  refine wpD_seq ?_
  refine wpD_block ?_
  refine wpD_seq ?_
  refine wpD_block ?_
  refine wpD_seq ?_
  refine wpD_block ?_
  refine wpD_seq ?_
  refine wpD_seq ?_
  refine wpD_seq ?_
  refine wpD_region ?_
  refine p_pure htab rfl rfl rfl rfl ?_
  refine p_pure htab rfl rfl rfl rfl ?_
  refine ops_nil ?_
  refine then_normal ?_
  refine wpD_cond rfl (fun hc219 => ?_) (fun hc219 => ?_)
  · replace hm := yes_t hc219 hm
    refine wpD_exit ?_
    refine then_exit ?_
    refine then_exit ?_
    refine block_hit ?_
    refine then_normal ?_
    refine wpD_region ?_
    refine p_pure htab rfl rfl rfl rfl ?_
    refine ops_nil ?_
    refine block_normal ?_
    refine then_normal ?_
    refine wpD_seq ?_
    refine wpD_seq ?_
    refine wpD_region ?_
    refine p_load (d := eTApiCong a1) 0 htab rfl rfl rfl rfl rfl rfl rfl rfl ?_
    refine p_load (d := eTApiCong a2) 1 htab rfl rfl rfl rfl rfl rfl rfl rfl ?_
    obtain ⟨x220, q220, hm⟩ := yes_bind hm
    refine p_call0 (residue_apart_ok a1 a2 x220 q220) rfl rfl rfl rfl rfl (WkL.refl _) ?_
    rintro _ rfl
    refine ops_nil ?_
    refine then_normal ?_
    refine wpD_cond rfl (fun hc221 => ?_) (fun hc221 => ?_)
    · replace hm := yes_t hc221 hm
      refine wpD_seq ?_
      refine wpD_region ?_
      refine p_pure htab rfl rfl rfl rfl ?_
      obtain ⟨x222, q222, hm⟩ := yes_bind hm
      refine p_call0 (cong_One_ok (1 : Int) x222 q222) rfl rfl rfl rfl rfl (WkL.refl _) ?_
      rintro _ rfl
      refine p_store (ds' := [.v (.bool x222.gSome), .v (.int .i64 x222.gM), .v (.int .i64 x222.gR)]) (h' := [(b1, Blk.cells [.v (.bool a1.gSome), .v (.int .i64 a1.gM), .v (.int .i64 a1.gR)] 23), (b2, Blk.cells [.v (.bool a2.gSome), .v (.int .i64 a2.gM), .v (.int .i64 a2.gR)] 23), (b3, Blk.cells [.v (.bool x222.gSome), .v (.int .i64 x222.gM), .v (.int .i64 x222.gR)] 23)]) 2 htab rfl rfl rfl rfl rfl rfl rfl rfl rfl rfl rfl rfl ?_
      refine ops_nil ?_
      refine then_normal ?_
      refine wpD_ret ?_
      refine then_ret ?_
      refine block_ret ?_
      refine then_ret ?_
      refine block_ret ?_
      refine then_ret ?_
      refine block_ret ?_
      refine then_ret ?_
      refine block_ret ?_
      refine then_ret ?_
      refine block_ret ?_
      refine then_ret ?_
      have er223 := yes_eq hm; subst er223
      refine retX.of (s' := ⟨[(6, .ptr b3 0)], [(b3, Blk.cells [.v (.bool x222.gSome), .v (.int .i64 x222.gM), .v (.int .i64 x222.gR)] 23)], []⟩) (WkS.perm (WkS.cons rfl (Wk.refl _) (WkS.nil)) ((perm_at (j := 2) rfl).trans (List.Perm.cons _ (List.Perm.refl _))) (List.Perm.refl _)) (retD_mk (hh := []) (.inl rfl) (resL_cons (resOne_cell 0 rfl rfl rfl rfl) (resL_nil)) (List.nil_sublist _) (List.Sublist.refl _) ?_)
      exact ⟨rfl, rfl, rfl⟩
    · replace hm := yes_f hc221 hm
      refine wpD_skip ?_
      refine then_normal ?_
      refine wpD_exit ?_
      refine block_miss rfl ?_
      refine then_exit ?_
      refine block_miss rfl ?_
      refine then_exit ?_
      refine block_miss rfl ?_
      refine then_exit ?_
      refine block_miss rfl ?_
      refine then_exit ?_
      refine block_hit ?_
      refine then_normal ?_
      refine wpD_seq ?_
      refine wpD_region ?_
      obtain ⟨x224, q224, hm⟩ := yes_bind hm
      refine p_call0 (cong_All_ok  x224 q224) rfl rfl rfl rfl rfl (WkL.refl _) ?_
      rintro _ rfl
      refine p_store (ds' := [.v (.bool x224.gSome), .v (.int .i64 x224.gM), .v (.int .i64 x224.gR)]) (h' := [(b1, Blk.cells [.v (.bool a1.gSome), .v (.int .i64 a1.gM), .v (.int .i64 a1.gR)] 23), (b2, Blk.cells [.v (.bool a2.gSome), .v (.int .i64 a2.gM), .v (.int .i64 a2.gR)] 23), (b3, Blk.cells [.v (.bool x224.gSome), .v (.int .i64 x224.gM), .v (.int .i64 x224.gR)] 23)]) 2 htab rfl rfl rfl rfl rfl rfl rfl rfl rfl rfl rfl rfl ?_
      refine ops_nil ?_
      refine then_normal ?_
      refine wpD_ret ?_
      have er225 := yes_eq hm; subst er225
      refine retX.of (s' := ⟨[(6, .ptr b3 0)], [(b3, Blk.cells [.v (.bool x224.gSome), .v (.int .i64 x224.gM), .v (.int .i64 x224.gR)] 23)], []⟩) (WkS.perm (WkS.cons rfl (Wk.refl _) (WkS.nil)) ((perm_at (j := 2) rfl).trans (List.Perm.cons _ (List.Perm.refl _))) (List.Perm.refl _)) (retD_mk (hh := []) (.inl rfl) (resL_cons (resOne_cell 0 rfl rfl rfl rfl) (resL_nil)) (List.nil_sublist _) (List.Sublist.refl _) ?_)
      exact ⟨rfl, rfl, rfl⟩
  · replace hm := yes_f hc219 hm
    refine wpD_skip ?_
    refine then_normal ?_
    refine wpD_seq ?_
    refine wpD_seq ?_
    refine wpD_region ?_
    refine p_pure htab rfl rfl rfl rfl ?_
    refine p_pure htab rfl rfl rfl rfl ?_
    refine ops_nil ?_
    refine then_normal ?_
    refine wpD_cond rfl (fun hc226 => ?_) (fun hc226 => ?_)
    · replace hm := yes_t hc226 hm
      refine wpD_exit ?_
      refine then_exit ?_
      refine then_exit ?_
      refine block_miss rfl ?_
      refine then_exit ?_
      refine block_hit ?_
      refine then_normal ?_
      refine wpD_seq ?_
      refine wpD_seq ?_
      refine wpD_region ?_
      refine p_load (d := eTApiCong a1) 0 htab rfl rfl rfl rfl rfl rfl rfl rfl ?_
      refine p_load (d := eTApiCong a2) 1 htab rfl rfl rfl rfl rfl rfl rfl rfl ?_
      obtain ⟨x227, q227, hm⟩ := yes_bind hm
      refine p_call0 (residue_apart_ok a1 a2 x227 q227) rfl rfl rfl rfl rfl (WkL.refl _) ?_
      rintro _ rfl
      refine ops_nil ?_
      refine then_normal ?_
      refine wpD_cond rfl (fun hc228 => ?_) (fun hc228 => ?_)
      · replace hm := yes_t hc228 hm
        refine wpD_seq ?_
        refine wpD_region ?_
        refine p_pure htab rfl rfl rfl rfl ?_
        obtain ⟨x229, q229, hm⟩ := yes_bind hm
        refine p_call0 (cong_One_ok (0 : Int) x229 q229) rfl rfl rfl rfl rfl (WkL.refl _) ?_
        rintro _ rfl
        refine p_store (ds' := [.v (.bool x229.gSome), .v (.int .i64 x229.gM), .v (.int .i64 x229.gR)]) (h' := [(b1, Blk.cells [.v (.bool a1.gSome), .v (.int .i64 a1.gM), .v (.int .i64 a1.gR)] 23), (b2, Blk.cells [.v (.bool a2.gSome), .v (.int .i64 a2.gM), .v (.int .i64 a2.gR)] 23), (b3, Blk.cells [.v (.bool x229.gSome), .v (.int .i64 x229.gM), .v (.int .i64 x229.gR)] 23)]) 2 htab rfl rfl rfl rfl rfl rfl rfl rfl rfl rfl rfl rfl ?_
        refine ops_nil ?_
        refine then_normal ?_
        refine wpD_ret ?_
        refine then_ret ?_
        refine block_ret ?_
        refine then_ret ?_
        refine block_ret ?_
        refine then_ret ?_
        refine block_ret ?_
        refine then_ret ?_
        refine block_ret ?_
        refine then_ret ?_
        refine block_ret ?_
        refine then_ret ?_
        have er230 := yes_eq hm; subst er230
        refine retX.of (s' := ⟨[(6, .ptr b3 0)], [(b3, Blk.cells [.v (.bool x229.gSome), .v (.int .i64 x229.gM), .v (.int .i64 x229.gR)] 23)], []⟩) (WkS.perm (WkS.cons rfl (Wk.refl _) (WkS.nil)) ((perm_at (j := 2) rfl).trans (List.Perm.cons _ (List.Perm.refl _))) (List.Perm.refl _)) (retD_mk (hh := []) (.inl rfl) (resL_cons (resOne_cell 0 rfl rfl rfl rfl) (resL_nil)) (List.nil_sublist _) (List.Sublist.refl _) ?_)
        exact ⟨rfl, rfl, rfl⟩
      · replace hm := yes_f hc228 hm
        refine wpD_skip ?_
        refine then_normal ?_
        refine wpD_exit ?_
        refine block_miss rfl ?_
        refine then_exit ?_
        refine block_miss rfl ?_
        refine then_exit ?_
        refine block_miss rfl ?_
        refine then_exit ?_
        refine block_miss rfl ?_
        refine then_exit ?_
        refine block_hit ?_
        refine then_normal ?_
        refine wpD_seq ?_
        refine wpD_region ?_
        obtain ⟨x231, q231, hm⟩ := yes_bind hm
        refine p_call0 (cong_All_ok  x231 q231) rfl rfl rfl rfl rfl (WkL.refl _) ?_
        rintro _ rfl
        refine p_store (ds' := [.v (.bool x231.gSome), .v (.int .i64 x231.gM), .v (.int .i64 x231.gR)]) (h' := [(b1, Blk.cells [.v (.bool a1.gSome), .v (.int .i64 a1.gM), .v (.int .i64 a1.gR)] 23), (b2, Blk.cells [.v (.bool a2.gSome), .v (.int .i64 a2.gM), .v (.int .i64 a2.gR)] 23), (b3, Blk.cells [.v (.bool x231.gSome), .v (.int .i64 x231.gM), .v (.int .i64 x231.gR)] 23)]) 2 htab rfl rfl rfl rfl rfl rfl rfl rfl rfl rfl rfl rfl ?_
        refine ops_nil ?_
        refine then_normal ?_
        refine wpD_ret ?_
        have er232 := yes_eq hm; subst er232
        refine retX.of (s' := ⟨[(6, .ptr b3 0)], [(b3, Blk.cells [.v (.bool x231.gSome), .v (.int .i64 x231.gM), .v (.int .i64 x231.gR)] 23)], []⟩) (WkS.perm (WkS.cons rfl (Wk.refl _) (WkS.nil)) ((perm_at (j := 2) rfl).trans (List.Perm.cons _ (List.Perm.refl _))) (List.Perm.refl _)) (retD_mk (hh := []) (.inl rfl) (resL_cons (resOne_cell 0 rfl rfl rfl rfl) (resL_nil)) (List.nil_sublist _) (List.Sublist.refl _) ?_)
        exact ⟨rfl, rfl, rfl⟩
    · replace hm := yes_f hc226 hm
      refine wpD_skip ?_
      refine then_normal ?_
      refine wpD_seq ?_
      refine wpD_seq ?_
      refine wpD_region ?_
      refine p_pure htab rfl rfl rfl rfl ?_
      refine p_pure htab rfl rfl rfl rfl ?_
      refine ops_nil ?_
      refine then_normal ?_
      refine wpD_cond rfl (fun hc233 => ?_) (fun hc233 => ?_)
      · replace hm := yes_t hc233 hm
        refine wpD_exit ?_
        refine then_exit ?_
        refine then_exit ?_
        refine block_miss rfl ?_
        refine then_exit ?_
        refine block_miss rfl ?_
        refine then_exit ?_
        refine block_hit ?_
        refine then_normal ?_
        refine wpD_seq ?_
        obtain ⟨x248, q248, ho248⟩ := yes_bind hm
        refine wpD_midX (τ := Unit) (Y := Unit) (fun y248 z248 => (⟨[(6, .ptr b3 0)], [(b1, Blk.cells [.v (.bool a1.gSome), .v (.int .i64 a1.gM), .v (.int .i64 a1.gR)] 23), (b2, Blk.cells [.v (.bool a2.gSome), .v (.int .i64 a2.gM), .v (.int .i64 a2.gR)] 23), (b3, Blk.cells [.v (.bool false), .v (.int .i64 (0 : Int)), .v (.int .i64 (0 : Int))] 23)], []⟩ : S)) x248 ?_ ?_
        · clear hm; have hm := yes_of q248
          refine wpD_block ?_
          refine wpD_seq ?_
          obtain ⟨y252, q252, ho252⟩ := yes_bind hm
          refine wpD_mid (Y := Unit) (fun z252 => (⟨[(4, .ptr b1 0), (5, .ptr b2 0), (6, .ptr b3 0), (25, .v (.bool y252))], [(b1, Blk.cells [.v (.bool a1.gSome), .v (.int .i64 a1.gM), .v (.int .i64 a1.gR)] 23), (b2, Blk.cells [.v (.bool a2.gSome), .v (.int .i64 a2.gM), .v (.int .i64 a2.gR)] 23), (b3, Blk.cells [.v (.bool false), .v (.int .i64 (0 : Int)), .v (.int .i64 (0 : Int))] 23)], []⟩ : S)) ?_ ?_
          · clear hm; have hm := yes_of q252
            refine wpD_region ?_
            refine p_load (d := eTApiCong a1) 0 htab rfl rfl rfl rfl rfl rfl rfl rfl ?_
            obtain ⟨x253, q253, hm⟩ := yes_bind hm
            refine p_call0 (residue_alone_ok a1 (0 : Int) x253 q253) rfl rfl rfl rfl rfl (WkL.refl _) ?_
            rintro _ rfl
            refine p_pure htab rfl rfl rfl rfl ?_
            refine p_split (i := 28) rfl (fun hg254 => ?_) (fun hg254 => ?_)
            · replace hm := yes_t hg254 hm
              refine p_skip rfl rfl rfl ?_
              refine p_skip rfl rfl rfl ?_
              refine p_pickT rfl rfl rfl rfl rfl rfl ?_
              refine p_pure htab rfl rfl rfl rfl ?_
              refine ops_nil ?_
              have e252 := yes_eq hm; subst e252
              refine ⟨rfl, ?_⟩
              exact WkX.of () (WkS.perm (WkS.cons rfl (Wk.refl _) (WkS.cons rfl (Wk.refl _) (WkS.cons rfl (Wk.refl _) (WkS.cons rfl (Wk.refl _) (WkS.nil))))) (List.Perm.refl _) (List.Perm.refl _))
            · replace hm := yes_f hg254 hm
              refine p_load (d := eTApiCong a2) 1 htab rfl rfl rfl rfl rfl rfl rfl rfl ?_
              obtain ⟨x255, q255, hm⟩ := yes_bind hm
              refine p_call0 (residue_alone_ok a2 (0 : Int) x255 q255) rfl rfl rfl rfl rfl (WkL.refl _) ?_
              rintro _ rfl
              refine p_pickF rfl rfl rfl rfl rfl rfl ?_
              refine p_pure htab rfl rfl rfl rfl ?_
              refine ops_nil ?_
              have e252 := yes_eq hm; subst e252
              refine ⟨rfl, ?_⟩
              exact WkX.of () (WkS.perm (WkS.cons rfl (Wk.refl _) (WkS.cons rfl (Wk.refl _) (WkS.cons rfl (Wk.refl _) (WkS.cons rfl (Wk.refl _) (WkS.nil))))) (List.Perm.refl _) (List.Perm.refl _))
          · intro s252 hw252; clear hm; have hm := ho252; clear q252 ho252
            refine then_normal ?_
            refine wpD_wkX hw252 (fun z252 => ?_)
            obtain ⟨x263, q263, ho263⟩ := yes_bind hm
            refine wpD_midX (τ := Unit) (Y := Unit) (fun y263 z263 => (⟨[(6, .ptr b3 0)], [(b1, Blk.cells [.v (.bool a1.gSome), .v (.int .i64 a1.gM), .v (.int .i64 a1.gR)] 23), (b2, Blk.cells [.v (.bool a2.gSome), .v (.int .i64 a2.gM), .v (.int .i64 a2.gR)] 23), (b3, Blk.cells [.v (.bool false), .v (.int .i64 (0 : Int)), .v (.int .i64 (0 : Int))] 23)], []⟩ : S)) x263 ?_ ?_
            · clear hm; have hm := yes_of q263
              refine wpD_cond rfl (fun hc264 => ?_) (fun hc264 => ?_)
              · replace hm := yes_t hc264 hm
                refine wpD_seq ?_
                refine wpD_region ?_
                obtain ⟨x265, q265, hm⟩ := yes_bind hm
                refine p_call0 (cong_One_ok (0 : Int) x265 q265) rfl rfl rfl rfl rfl (WkL.refl _) ?_
                rintro _ rfl
                refine p_store (ds' := [.v (.bool x265.gSome), .v (.int .i64 x265.gM), .v (.int .i64 x265.gR)]) (h' := [(b1, Blk.cells [.v (.bool a1.gSome), .v (.int .i64 a1.gM), .v (.int .i64 a1.gR)] 23), (b2, Blk.cells [.v (.bool a2.gSome), .v (.int .i64 a2.gM), .v (.int .i64 a2.gR)] 23), (b3, Blk.cells [.v (.bool x265.gSome), .v (.int .i64 x265.gM), .v (.int .i64 x265.gR)] 23)]) 2 htab rfl rfl rfl rfl rfl rfl rfl rfl rfl rfl rfl rfl ?_
                refine ops_nil ?_
                refine then_normal ?_
                refine wpD_ret ?_
                have e263 := yes_eq hm; subst e263; refine midX_inr ?_; clear hm; have hm := ho263; simp only [Sum.elim_inr] at hm
                refine block_ret ?_
                have e248 := yes_eq hm; subst e248; refine midX_inr ?_; clear hm; have hm := ho248; simp only [Sum.elim_inr] at hm
                refine then_ret ?_
                refine block_ret ?_
                refine then_ret ?_
                refine block_ret ?_
                refine then_ret ?_
                refine block_ret ?_
                refine then_ret ?_
                refine block_ret ?_
                refine then_ret ?_
                have er266 := yes_eq hm; subst er266
                refine retX.of (s' := ⟨[(6, .ptr b3 0)], [(b3, Blk.cells [.v (.bool x265.gSome), .v (.int .i64 x265.gM), .v (.int .i64 x265.gR)] 23)], []⟩) (WkS.perm (WkS.cons rfl (Wk.refl _) (WkS.nil)) ((perm_at (j := 2) rfl).trans (List.Perm.cons _ (List.Perm.refl _))) (List.Perm.refl _)) (retD_mk (hh := []) (.inl rfl) (resL_cons (resOne_cell 0 rfl rfl rfl rfl) (resL_nil)) (List.nil_sublist _) (List.Sublist.refl _) ?_)
                exact ⟨rfl, rfl, rfl⟩
              · replace hm := yes_f hc264 hm
                refine wpD_seq ?_
                obtain ⟨y270, q270, ho270⟩ := yes_bind hm
                refine wpD_mid (Y := Unit) (fun z270 => (⟨[(6, .ptr b3 0), (33, .v (.bool y270))], [(b1, Blk.cells [.v (.bool a1.gSome), .v (.int .i64 a1.gM), .v (.int .i64 a1.gR)] 23), (b2, Blk.cells [.v (.bool a2.gSome), .v (.int .i64 a2.gM), .v (.int .i64 a2.gR)] 23), (b3, Blk.cells [.v (.bool false), .v (.int .i64 (0 : Int)), .v (.int .i64 (0 : Int))] 23)], []⟩ : S)) ?_ ?_
                · clear hm; have hm := yes_of q270
                  refine wpD_region ?_
                  refine p_load (d := eTApiCong a1) 0 htab rfl rfl rfl rfl rfl rfl rfl rfl ?_
                  obtain ⟨x271, q271, hm⟩ := yes_bind hm
                  refine p_call0 (cong_Has_ok a1 (0 : Int) x271 q271) rfl rfl rfl rfl rfl (WkL.refl _) ?_
                  rintro _ rfl
                  refine p_pure htab rfl rfl rfl rfl ?_
                  refine p_pure htab rfl rfl rfl rfl ?_
                  refine p_split (i := 37) rfl (fun hg272 => ?_) (fun hg272 => ?_)
                  · replace hm := yes_t hg272 hm
                    refine p_load (d := eTApiCong a2) 1 htab rfl rfl rfl rfl rfl rfl rfl rfl ?_
                    obtain ⟨x273, q273, hm⟩ := yes_bind hm
                    refine p_call0 (cong_Has_ok a2 (0 : Int) x273 q273) rfl rfl rfl rfl rfl (WkL.refl _) ?_
                    rintro _ rfl
                    refine p_pure htab rfl rfl rfl rfl ?_
                    refine p_pickT rfl rfl rfl rfl rfl rfl ?_
                    refine p_pure htab rfl rfl rfl rfl ?_
                    refine ops_nil ?_
                    have e270 := yes_eq hm; subst e270
                    refine ⟨rfl, ?_⟩
                    exact WkX.of () (WkS.perm (WkS.cons rfl (Wk.refl _) (WkS.cons rfl (Wk.refl _) (WkS.nil))) (List.Perm.refl _) (List.Perm.refl _))
                  · replace hm := yes_f hg272 hm
                    refine p_skip rfl rfl rfl ?_
                    refine p_skip rfl rfl rfl ?_
                    refine p_skip rfl rfl rfl ?_
                    refine p_pickF rfl rfl rfl rfl rfl rfl ?_
                    refine p_pure htab rfl rfl rfl rfl ?_
                    refine ops_nil ?_
                    have e270 := yes_eq hm; subst e270
                    refine ⟨rfl, ?_⟩
                    exact WkX.of () (WkS.perm (WkS.cons rfl (Wk.refl _) (WkS.cons rfl (Wk.refl _) (WkS.nil))) (List.Perm.refl _) (List.Perm.refl _))
                · intro s270 hw270; clear hm; have hm := ho270; clear q270 ho270
                  refine then_normal ?_
                  refine wpD_wkX hw270 (fun z270 => ?_)
                  refine wpD_cond rfl (fun hc274 => ?_) (fun hc274 => ?_)
                  · replace hm := yes_t hc274 hm
                    refine wpD_seq ?_
                    refine wpD_region ?_
                    obtain ⟨x275, q275, hm⟩ := yes_bind hm
                    refine p_call0 (cong_One_ok (1 : Int) x275 q275) rfl rfl rfl rfl rfl (WkL.refl _) ?_
                    rintro _ rfl
                    refine p_store (ds' := [.v (.bool x275.gSome), .v (.int .i64 x275.gM), .v (.int .i64 x275.gR)]) (h' := [(b1, Blk.cells [.v (.bool a1.gSome), .v (.int .i64 a1.gM), .v (.int .i64 a1.gR)] 23), (b2, Blk.cells [.v (.bool a2.gSome), .v (.int .i64 a2.gM), .v (.int .i64 a2.gR)] 23), (b3, Blk.cells [.v (.bool x275.gSome), .v (.int .i64 x275.gM), .v (.int .i64 x275.gR)] 23)]) 2 htab rfl rfl rfl rfl rfl rfl rfl rfl rfl rfl rfl rfl ?_
                    refine ops_nil ?_
                    refine then_normal ?_
                    refine wpD_ret ?_
                    have e263 := yes_eq hm; subst e263; refine midX_inr ?_; clear hm; have hm := ho263; simp only [Sum.elim_inr] at hm
                    refine block_ret ?_
                    have e248 := yes_eq hm; subst e248; refine midX_inr ?_; clear hm; have hm := ho248; simp only [Sum.elim_inr] at hm
                    refine then_ret ?_
                    refine block_ret ?_
                    refine then_ret ?_
                    refine block_ret ?_
                    refine then_ret ?_
                    refine block_ret ?_
                    refine then_ret ?_
                    refine block_ret ?_
                    refine then_ret ?_
                    have er276 := yes_eq hm; subst er276
                    refine retX.of (s' := ⟨[(6, .ptr b3 0)], [(b3, Blk.cells [.v (.bool x275.gSome), .v (.int .i64 x275.gM), .v (.int .i64 x275.gR)] 23)], []⟩) (WkS.perm (WkS.cons rfl (Wk.refl _) (WkS.nil)) ((perm_at (j := 2) rfl).trans (List.Perm.cons _ (List.Perm.refl _))) (List.Perm.refl _)) (retD_mk (hh := []) (.inl rfl) (resL_cons (resOne_cell 0 rfl rfl rfl rfl) (resL_nil)) (List.nil_sublist _) (List.Sublist.refl _) ?_)
                    exact ⟨rfl, rfl, rfl⟩
                  · replace hm := yes_f hc274 hm
                    refine wpD_skip ?_
                    have e263 := yes_eq hm; subst e263
                    refine midX_inl ?_
                    exact WkX.of () (WkS.perm (WkS.cons rfl (Wk.refl _) (WkS.nil)) (List.Perm.refl _) (List.Perm.refl _))
            · intro y263 s263 hx263 hw263; subst hx263; clear hm; have hm := ho263; simp only [Sum.elim_inl] at hm; clear q263 ho263
              refine block_normal ?_
              have e248 := yes_eq hm; subst e248
              refine midX_inl ?_
              refine WkX.trans hw263 (fun z263 => ?_)
              exact WkX.of () (WkS.perm (WkS.cons rfl (Wk.refl _) (WkS.nil)) (List.Perm.refl _) (List.Perm.refl _))
        · intro y248 s248 hx248 hw248; subst hx248; clear hm; have hm := ho248; simp only [Sum.elim_inl] at hm; clear q248 ho248
          refine then_normal ?_
          refine wpD_wkX hw248 (fun z248 => ?_)
          refine wpD_exit ?_
          refine block_miss rfl ?_
          refine then_exit ?_
          refine block_miss rfl ?_
          refine then_exit ?_
          refine block_miss rfl ?_
          refine then_exit ?_
          refine block_hit ?_
          refine then_normal ?_
          refine wpD_seq ?_
          refine wpD_region ?_
          obtain ⟨x277, q277, hm⟩ := yes_bind hm
          refine p_call0 (cong_All_ok  x277 q277) rfl rfl rfl rfl rfl (WkL.refl _) ?_
          rintro _ rfl
          refine p_store (ds' := [.v (.bool x277.gSome), .v (.int .i64 x277.gM), .v (.int .i64 x277.gR)]) (h' := [(b1, Blk.cells [.v (.bool a1.gSome), .v (.int .i64 a1.gM), .v (.int .i64 a1.gR)] 23), (b2, Blk.cells [.v (.bool a2.gSome), .v (.int .i64 a2.gM), .v (.int .i64 a2.gR)] 23), (b3, Blk.cells [.v (.bool x277.gSome), .v (.int .i64 x277.gM), .v (.int .i64 x277.gR)] 23)]) 2 htab rfl rfl rfl rfl rfl rfl rfl rfl rfl rfl rfl rfl ?_
          refine ops_nil ?_
          refine then_normal ?_
          refine wpD_ret ?_
          have er278 := yes_eq hm; subst er278
          refine retX.of (s' := ⟨[(6, .ptr b3 0)], [(b3, Blk.cells [.v (.bool x277.gSome), .v (.int .i64 x277.gM), .v (.int .i64 x277.gR)] 23)], []⟩) (WkS.perm (WkS.cons rfl (Wk.refl _) (WkS.nil)) ((perm_at (j := 2) rfl).trans (List.Perm.cons _ (List.Perm.refl _))) (List.Perm.refl _)) (retD_mk (hh := []) (.inl rfl) (resL_cons (resOne_cell 0 rfl rfl rfl rfl) (resL_nil)) (List.nil_sublist _) (List.Sublist.refl _) ?_)
          exact ⟨rfl, rfl, rfl⟩
      · replace hm := yes_f hc233 hm
        refine wpD_skip ?_
        refine then_normal ?_
        refine wpD_seq ?_
        refine wpD_seq ?_
        refine wpD_region ?_
        refine p_pure htab rfl rfl rfl rfl ?_
        refine p_pure htab rfl rfl rfl rfl ?_
        refine ops_nil ?_
        refine then_normal ?_
        refine wpD_cond rfl (fun hc279 => ?_) (fun hc279 => ?_)
        · replace hm := yes_t hc279 hm
          refine wpD_exit ?_
          refine then_exit ?_
          refine then_exit ?_
          refine block_miss rfl ?_
          refine then_exit ?_
          refine block_miss rfl ?_
          refine then_exit ?_
          refine block_miss rfl ?_
          refine then_exit ?_
          refine block_hit ?_
          refine then_normal ?_
          refine wpD_seq ?_
          refine wpD_seq ?_
          obtain ⟨y283, q283, ho283⟩ := yes_bind hm
          refine wpD_mid (Y := Unit) (fun z283 => (⟨[(6, .ptr b3 0), (50, .v (.bool y283))], [(b1, Blk.cells [.v (.bool a1.gSome), .v (.int .i64 a1.gM), .v (.int .i64 a1.gR)] 23), (b2, Blk.cells [.v (.bool a2.gSome), .v (.int .i64 a2.gM), .v (.int .i64 a2.gR)] 23), (b3, Blk.cells [.v (.bool false), .v (.int .i64 (0 : Int)), .v (.int .i64 (0 : Int))] 23)], []⟩ : S)) ?_ ?_
          · clear hm; have hm := yes_of q283
            refine wpD_region ?_
            refine p_load (d := eTApiCong a1) 0 htab rfl rfl rfl rfl rfl rfl rfl rfl ?_
            obtain ⟨x284, q284, hm⟩ := yes_bind hm
            refine p_call0 (cong_Has_ok a1 (0 : Int) x284 q284) rfl rfl rfl rfl rfl (WkL.refl _) ?_
            rintro _ rfl
            refine p_pure htab rfl rfl rfl rfl ?_
            refine p_pure htab rfl rfl rfl rfl ?_
            refine p_split (i := 46) rfl (fun hg285 => ?_) (fun hg285 => ?_)
            · replace hm := yes_t hg285 hm
              refine p_skip rfl rfl rfl ?_
              refine p_skip rfl rfl rfl ?_
              refine p_skip rfl rfl rfl ?_
              refine p_pickT rfl rfl rfl rfl rfl rfl ?_
              refine ops_nil ?_
              have e283 := yes_eq hm; subst e283
              refine ⟨rfl, ?_⟩
              exact WkX.of () (WkS.perm (WkS.cons rfl (Wk.refl _) (WkS.cons rfl (Wk.refl _) (WkS.nil))) (List.Perm.refl _) (List.Perm.refl _))
            · replace hm := yes_f hg285 hm
              refine p_load (d := eTApiCong a2) 1 htab rfl rfl rfl rfl rfl rfl rfl rfl ?_
              obtain ⟨x286, q286, hm⟩ := yes_bind hm
              refine p_call0 (cong_Has_ok a2 (0 : Int) x286 q286) rfl rfl rfl rfl rfl (WkL.refl _) ?_
              rintro _ rfl
              refine p_pure htab rfl rfl rfl rfl ?_
              refine p_pickF rfl rfl rfl rfl rfl rfl ?_
              refine ops_nil ?_
              have e283 := yes_eq hm; subst e283
              refine ⟨rfl, ?_⟩
              exact WkX.of () (WkS.perm (WkS.cons rfl (Wk.refl _) (WkS.cons rfl (Wk.refl _) (WkS.nil))) (List.Perm.refl _) (List.Perm.refl _))
          · intro s283 hw283; clear hm; have hm := ho283; clear q283 ho283
            refine then_normal ?_
            refine wpD_wkX hw283 (fun z283 => ?_)
            refine wpD_cond rfl (fun hc289 => ?_) (fun hc289 => ?_)
            · replace hm := yes_t hc289 hm
              refine wpD_seq ?_
              refine wpD_region ?_
              obtain ⟨x290, q290, hm⟩ := yes_bind hm
              refine p_call0 (cong_One_ok (1 : Int) x290 q290) rfl rfl rfl rfl rfl (WkL.refl _) ?_
              rintro _ rfl
              refine p_store (ds' := [.v (.bool x290.gSome), .v (.int .i64 x290.gM), .v (.int .i64 x290.gR)]) (h' := [(b1, Blk.cells [.v (.bool a1.gSome), .v (.int .i64 a1.gM), .v (.int .i64 a1.gR)] 23), (b2, Blk.cells [.v (.bool a2.gSome), .v (.int .i64 a2.gM), .v (.int .i64 a2.gR)] 23), (b3, Blk.cells [.v (.bool x290.gSome), .v (.int .i64 x290.gM), .v (.int .i64 x290.gR)] 23)]) 2 htab rfl rfl rfl rfl rfl rfl rfl rfl rfl rfl rfl rfl ?_
              refine ops_nil ?_
              refine then_normal ?_
              refine wpD_ret ?_
              refine then_ret ?_
              refine block_ret ?_
              refine then_ret ?_
              refine block_ret ?_
              refine then_ret ?_
              refine block_ret ?_
              refine then_ret ?_
              have er291 := yes_eq hm; subst er291
              refine retX.of (s' := ⟨[(6, .ptr b3 0)], [(b3, Blk.cells [.v (.bool x290.gSome), .v (.int .i64 x290.gM), .v (.int .i64 x290.gR)] 23)], []⟩) (WkS.perm (WkS.cons rfl (Wk.refl _) (WkS.nil)) ((perm_at (j := 2) rfl).trans (List.Perm.cons _ (List.Perm.refl _))) (List.Perm.refl _)) (retD_mk (hh := []) (.inl rfl) (resL_cons (resOne_cell 0 rfl rfl rfl rfl) (resL_nil)) (List.nil_sublist _) (List.Sublist.refl _) ?_)
              exact ⟨rfl, rfl, rfl⟩
            · replace hm := yes_f hc289 hm
              refine wpD_skip ?_
              refine then_normal ?_
              refine wpD_exit ?_
              refine block_miss rfl ?_
              refine then_exit ?_
              refine block_miss rfl ?_
              refine then_exit ?_
              refine block_hit ?_
              refine then_normal ?_
              refine wpD_seq ?_
              refine wpD_region ?_
              obtain ⟨x292, q292, hm⟩ := yes_bind hm
              refine p_call0 (cong_All_ok  x292 q292) rfl rfl rfl rfl rfl (WkL.refl _) ?_
              rintro _ rfl
              refine p_store (ds' := [.v (.bool x292.gSome), .v (.int .i64 x292.gM), .v (.int .i64 x292.gR)]) (h' := [(b1, Blk.cells [.v (.bool a1.gSome), .v (.int .i64 a1.gM), .v (.int .i64 a1.gR)] 23), (b2, Blk.cells [.v (.bool a2.gSome), .v (.int .i64 a2.gM), .v (.int .i64 a2.gR)] 23), (b3, Blk.cells [.v (.bool x292.gSome), .v (.int .i64 x292.gM), .v (.int .i64 x292.gR)] 23)]) 2 htab rfl rfl rfl rfl rfl rfl rfl rfl rfl rfl rfl rfl ?_
              refine ops_nil ?_
              refine then_normal ?_
              refine wpD_ret ?_
              have er293 := yes_eq hm; subst er293
              refine retX.of (s' := ⟨[(6, .ptr b3 0)], [(b3, Blk.cells [.v (.bool x292.gSome), .v (.int .i64 x292.gM), .v (.int .i64 x292.gR)] 23)], []⟩) (WkS.perm (WkS.cons rfl (Wk.refl _) (WkS.nil)) ((perm_at (j := 2) rfl).trans (List.Perm.cons _ (List.Perm.refl _))) (List.Perm.refl _)) (retD_mk (hh := []) (.inl rfl) (resL_cons (resOne_cell 0 rfl rfl rfl rfl) (resL_nil)) (List.nil_sublist _) (List.Sublist.refl _) ?_)
              exact ⟨rfl, rfl, rfl⟩
        · replace hm := yes_f hc279 hm
          refine wpD_skip ?_
          refine then_normal ?_
          refine wpD_seq ?_
          refine wpD_seq ?_
          refine wpD_region ?_
          refine p_pure htab rfl rfl rfl rfl ?_
          refine p_pure htab rfl rfl rfl rfl ?_
          refine ops_nil ?_
          refine then_normal ?_
          obtain ⟨y295, q295, ho295⟩ := yes_bind hm
          refine wpD_mid (Y := Unit) (fun z295 => (⟨[(6, .ptr b3 0), (17, .v (.bool y295))], [(b1, Blk.cells [.v (.bool a1.gSome), .v (.int .i64 a1.gM), .v (.int .i64 a1.gR)] 23), (b2, Blk.cells [.v (.bool a2.gSome), .v (.int .i64 a2.gM), .v (.int .i64 a2.gR)] 23), (b3, Blk.cells [.v (.bool false), .v (.int .i64 (0 : Int)), .v (.int .i64 (0 : Int))] 23)], []⟩ : S)) ?_ ?_
          · clear hm; have hm := yes_of q295
            refine wpD_cond rfl (fun hc296 => ?_) (fun hc296 => ?_)
            · replace hm := yes_t hc296 hm
              refine wpD_skip ?_
              have e295 := yes_eq hm; subst e295
              refine ⟨rfl, ?_⟩
              exact WkX.of () (WkS.perm (WkS.cons rfl (Wk.refl _) (WkS.cons rfl (Wk.refl _) (WkS.nil))) (List.Perm.refl _) (List.Perm.refl _))
            · replace hm := yes_f hc296 hm
              refine wpD_region ?_
              refine p_pure htab rfl rfl rfl rfl ?_
              refine p_pure htab rfl rfl rfl rfl ?_
              refine ops_nil ?_
              have e295 := yes_eq hm; subst e295
              refine ⟨rfl, ?_⟩
              exact WkX.of () (WkS.perm (WkS.cons rfl (Wk.refl _) (WkS.cons rfl (Wk.refl _) (WkS.nil))) (List.Perm.refl _) (List.Perm.refl _))
          · intro s295 hw295; clear hm; have hm := ho295; clear q295 ho295
            refine then_normal ?_
            refine wpD_wkX hw295 (fun z295 => ?_)
            refine wpD_cond rfl (fun hc297 => ?_) (fun hc297 => ?_)
            · replace hm := yes_t hc297 hm
              refine wpD_exit ?_
              refine then_exit ?_
              refine block_miss rfl ?_
              refine then_exit ?_
              refine block_miss rfl ?_
              refine then_exit ?_
              refine block_miss rfl ?_
              refine then_exit ?_
              refine block_miss rfl ?_
              refine then_exit ?_
              refine block_hit ?_
              refine then_normal ?_
              refine wpD_exit ?_
              refine block_miss rfl ?_
              refine then_exit ?_
              refine block_hit ?_
              refine then_normal ?_
              refine wpD_seq ?_
              refine wpD_region ?_
              obtain ⟨x298, q298, hm⟩ := yes_bind hm
              refine p_call0 (cong_All_ok  x298 q298) rfl rfl rfl rfl rfl (WkL.refl _) ?_
              rintro _ rfl
              refine p_store (ds' := [.v (.bool x298.gSome), .v (.int .i64 x298.gM), .v (.int .i64 x298.gR)]) (h' := [(b1, Blk.cells [.v (.bool a1.gSome), .v (.int .i64 a1.gM), .v (.int .i64 a1.gR)] 23), (b2, Blk.cells [.v (.bool a2.gSome), .v (.int .i64 a2.gM), .v (.int .i64 a2.gR)] 23), (b3, Blk.cells [.v (.bool x298.gSome), .v (.int .i64 x298.gM), .v (.int .i64 x298.gR)] 23)]) 2 htab rfl rfl rfl rfl rfl rfl rfl rfl rfl rfl rfl rfl ?_
              refine ops_nil ?_
              refine then_normal ?_
              refine wpD_ret ?_
              have er299 := yes_eq hm; subst er299
              refine retX.of (s' := ⟨[(6, .ptr b3 0)], [(b3, Blk.cells [.v (.bool x298.gSome), .v (.int .i64 x298.gM), .v (.int .i64 x298.gR)] 23)], []⟩) (WkS.perm (WkS.cons rfl (Wk.refl _) (WkS.nil)) ((perm_at (j := 2) rfl).trans (List.Perm.cons _ (List.Perm.refl _))) (List.Perm.refl _)) (retD_mk (hh := []) (.inl rfl) (resL_cons (resOne_cell 0 rfl rfl rfl rfl) (resL_nil)) (List.nil_sublist _) (List.Sublist.refl _) ?_)
              exact ⟨rfl, rfl, rfl⟩
            · replace hm := yes_f hc297 hm
              refine wpD_skip ?_
              refine then_normal ?_
              refine wpD_exit ?_
              refine block_miss rfl ?_
              refine then_exit ?_
              refine block_miss rfl ?_
              refine then_exit ?_
              refine block_miss rfl ?_
              refine then_exit ?_
              refine block_miss rfl ?_
              refine then_exit ?_
              refine block_miss rfl ?_
              refine then_exit ?_
              refine block_hit ?_
              refine then_normal ?_
              refine wpD_seq ?_
              refine wpD_seq ?_
              refine wpD_region ?_
              refine p_build (r := [.v (.bool false), .v (.int .i64 (0 : Int)), .v (.int .i64 (0 : Int))]) htab rfl rfl rfl rfl rfl rfl rfl rfl rfl ?_
              refine p_store (ds' := [.v (.bool false), .v (.int .i64 (0 : Int)), .v (.int .i64 (0 : Int))]) (h' := [(b1, Blk.cells [.v (.bool a1.gSome), .v (.int .i64 a1.gM), .v (.int .i64 a1.gR)] 23), (b2, Blk.cells [.v (.bool a2.gSome), .v (.int .i64 a2.gM), .v (.int .i64 a2.gR)] 23), (b3, Blk.cells [.v (.bool false), .v (.int .i64 (0 : Int)), .v (.int .i64 (0 : Int))] 23)]) 2 htab rfl rfl rfl rfl rfl rfl rfl rfl rfl rfl rfl rfl ?_
              refine ops_nil ?_
              refine then_normal ?_
              refine wpD_ret ?_
              refine then_ret ?_
              refine block_ret ?_
              refine then_ret ?_
              have er300 := yes_eq hm; subst er300
              refine retX.of (s' := ⟨[(6, .ptr b3 0)], [(b3, Blk.cells [.v (.bool false), .v (.int .i64 (0 : Int)), .v (.int .i64 (0 : Int))] 23)], []⟩) (WkS.perm (WkS.cons rfl (Wk.refl _) (WkS.nil)) ((perm_at (j := 2) rfl).trans (List.Perm.cons _ (List.Perm.refl _))) (List.Perm.refl _)) (retD_mk (hh := []) (.inl rfl) (resL_cons (resOne_cell 0 rfl rfl rfl rfl) (resL_nil)) (List.nil_sublist _) (List.Sublist.refl _) ?_)
              exact ⟨rfl, rfl, rfl⟩
noncomputable def residue_Do (a0 : Int) (a1 : TApiCong) (a2 : TApiCong) (a3 : Bool) : Option (TApiCong) :=
  ((cong_Clean a1).bind fun x4 => ((cong_Clean a2).bind fun x5 => (Option.bind (α := Bool) ((cong_None x4).bind fun x10 => (bif x10 then some true else ((cong_None x5).bind fun x12 => some x12))) fun y9 => (bif y9 then some (⟨false, (0 : Int), (0 : Int)⟩ : TApiCong) else (Option.bind (α := Bool) (bif (x4.gM == (0 : Int)) then some (x5.gM == (0 : Int)) else some false) fun y17 => (bif y17 then ((wrap_Do a0 x4.gR x5.gR).bind fun x24 => (bif (x24.2 != (0 : Int)) then some (⟨false, (0 : Int), (0 : Int)⟩ : TApiCong) else ((cong_One x24.1).bind fun x28 => some x28))) else (Option.bind (α := Bool) (bif (a0 == (10 : Int)) then some (a0 == (10 : Int)) else some (a0 == (11 : Int))) fun y43 => (bif y43 then ((residue_gcd x4.gM x5.gM).bind fun x55 => ((residue_linear a0 x55 x4 x5 a3).bind fun x56 => some x56)) else (bif (a0 == (7 : Int)) then ((residue_product x4 x5 a3).bind fun x65 => some x65) else (bif (a0 == (8 : Int)) then ((residue_quotient x4 x5 a3).bind fun x72 => some x72) else (bif (a0 == (9 : Int)) then ((residue_rest x4 x5).bind fun x77 => some x77) else ((residue_compare a0 x4 x5).bind fun x79 => some x79))))))))))))
set_option maxRecDepth 100000 in
set_option maxHeartbeats 2000000 in
theorem residue_Do_ok (a0 : Int) (a1 : TApiCong) (a2 : TApiCong) (a3 : Bool) (r : TApiCong) (h0 : residue_Do a0 a1 a2 a3 = some r) : CallsD Try.prog 6 [.v (.int .i64 a0), eTApiCong a1, eTApiCong a2, .v (.bool a3)] [] [] (fun d h k => d = eTApiCong r ∧ h = [] ∧ k = []) := by
  have hm := yes_of h0
  unfold residue_Do at hm
  clear h0
  refine enterX htab Try.func6 rfl rfl rfl rfl rfl (fun C => ?_)
  refine wpD_seq ?_
  refine wpD_region ?_
  refine p_box rfl rfl rfl rfl rfl rfl rfl (fun b1 => ?_)
  refine p_box rfl rfl rfl rfl rfl rfl rfl (fun b2 => ?_)
  refine p_alloc htab rfl rfl rfl rfl rfl rfl rfl (fun b3 => ?_)
  refine ops_nil ?_
  refine then_normal ?_
  refine wpD_seq ?_
  obtain ⟨x4, q4, hm⟩ := yes_bind hm
  refine wpD_draws 3 [] [[],[0],[]] [0,1,2] [[],[0],[],[0,1,2],[0,1,2,3],[0,1,2,3,4]] (by kernel_rfl) (by kernel_rfl) (by kernel_rfl) (by rfl) (by rfl) (by kernel_rfl) ?_
  apply Exists.intro
  apply Exists.intro
  apply Exists.intro
  intro bs
  refine z_eM rfl rfl (xm_load (d := eTApiCong a1) 0 htab rfl rfl rfl rfl rfl) rfl rfl rfl rfl rfl rfl ?_
  refine z_call rfl rfl (cong_Clean_ok a1 x4 q4) rfl rfl (WkL.refl _) rfl rfl rfl rfl rfl rfl ?_
  refine z_eM rfl rfl (xm_load (d := eTApiCong a2) 1 htab rfl rfl rfl rfl rfl) rfl rfl rfl rfl rfl rfl ?_
  refine z_nil rfl rfl (fun e he => by simp [isAl] at he) ?_
  obtain ⟨x5, q5, hm⟩ := yes_bind hm
  refine p_call0 (cong_Clean_ok a2 x5 q5) rfl rfl rfl rfl rfl (WkL.refl _) ?_
  rintro _ rfl
  refine p_store (ds' := [.v (.bool x4.gSome), .v (.int .i64 x4.gM), .v (.int .i64 x4.gR)]) (h' := [(b1, Blk.cells [.v (.bool x4.gSome), .v (.int .i64 x4.gM), .v (.int .i64 x4.gR)] 23), (b2, Blk.cells [.v (.bool a2.gSome), .v (.int .i64 a2.gM), .v (.int .i64 a2.gR)] 23), (b3, Blk.cells [.v (.bool false), .v (.int .i64 (0 : Int)), .v (.int .i64 (0 : Int))] 23)]) 0 htab rfl rfl rfl rfl rfl rfl rfl rfl rfl rfl rfl rfl ?_
  refine p_store (ds' := [.v (.bool x5.gSome), .v (.int .i64 x5.gM), .v (.int .i64 x5.gR)]) (h' := [(b1, Blk.cells [.v (.bool x4.gSome), .v (.int .i64 x4.gM), .v (.int .i64 x4.gR)] 23), (b2, Blk.cells [.v (.bool x5.gSome), .v (.int .i64 x5.gM), .v (.int .i64 x5.gR)] 23), (b3, Blk.cells [.v (.bool false), .v (.int .i64 (0 : Int)), .v (.int .i64 (0 : Int))] 23)]) 1 htab rfl rfl rfl rfl rfl rfl rfl rfl rfl rfl rfl rfl ?_
  refine ops_nil ?_
  refine then_normal ?_
  refine wpD_seq ?_
  refine wpD_seq ?_
  obtain ⟨y9, q9, ho9⟩ := yes_bind hm
  refine wpD_mid (Y := Unit) (fun z9 => (⟨[(0, .v (.int .i64 a0)), (3, .v (.bool a3)), (5, .ptr b1 0), (6, .ptr b2 0), (8, .ptr b3 0), (20, .v (.bool y9))], [(b1, Blk.cells [.v (.bool x4.gSome), .v (.int .i64 x4.gM), .v (.int .i64 x4.gR)] 23), (b2, Blk.cells [.v (.bool x5.gSome), .v (.int .i64 x5.gM), .v (.int .i64 x5.gR)] 23), (b3, Blk.cells [.v (.bool false), .v (.int .i64 (0 : Int)), .v (.int .i64 (0 : Int))] 23)], []⟩ : S)) ?_ ?_
  · clear hm; have hm := yes_of q9
    refine wpD_region ?_
    refine p_load (d := eTApiCong x4) 0 htab rfl rfl rfl rfl rfl rfl rfl rfl ?_
    obtain ⟨x10, q10, hm⟩ := yes_bind hm
    refine p_call0 (cong_None_ok x4 x10 q10) rfl rfl rfl rfl rfl (WkL.refl _) ?_
    rintro _ rfl
    refine p_pure htab rfl rfl rfl rfl ?_
    refine p_split (i := 17) rfl (fun hg11 => ?_) (fun hg11 => ?_)
    · replace hm := yes_t hg11 hm
      refine p_skip rfl rfl rfl ?_
      refine p_skip rfl rfl rfl ?_
      refine p_pickT rfl rfl rfl rfl rfl rfl ?_
      refine ops_nil ?_
      have e9 := yes_eq hm; subst e9
      refine ⟨rfl, ?_⟩
      exact WkX.of () (WkS.perm (WkS.cons rfl (Wk.refl _) (WkS.cons rfl (Wk.refl _) (WkS.cons rfl (Wk.refl _) (WkS.cons rfl (Wk.refl _) (WkS.cons rfl (Wk.refl _) (WkS.cons rfl (Wk.refl _) (WkS.nil))))))) (List.Perm.refl _) (List.Perm.refl _))
    · replace hm := yes_f hg11 hm
      refine p_load (d := eTApiCong x5) 1 htab rfl rfl rfl rfl rfl rfl rfl rfl ?_
      obtain ⟨x12, q12, hm⟩ := yes_bind hm
      refine p_call0 (cong_None_ok x5 x12 q12) rfl rfl rfl rfl rfl (WkL.refl _) ?_
      rintro _ rfl
      refine p_pickF rfl rfl rfl rfl rfl rfl ?_
      refine ops_nil ?_
      have e9 := yes_eq hm; subst e9
      refine ⟨rfl, ?_⟩
      exact WkX.of () (WkS.perm (WkS.cons rfl (Wk.refl _) (WkS.cons rfl (Wk.refl _) (WkS.cons rfl (Wk.refl _) (WkS.cons rfl (Wk.refl _) (WkS.cons rfl (Wk.refl _) (WkS.cons rfl (Wk.refl _) (WkS.nil))))))) (List.Perm.refl _) (List.Perm.refl _))
  · intro s9 hw9; clear hm; have hm := ho9; clear q9 ho9
    refine then_normal ?_
    refine wpD_wkX hw9 (fun z9 => ?_)
    refine wpD_cond rfl (fun hc14 => ?_) (fun hc14 => ?_)
    · replace hm := yes_t hc14 hm
      refine wpD_seq ?_
      refine wpD_region ?_
      refine p_build (r := [.v (.bool false), .v (.int .i64 (0 : Int)), .v (.int .i64 (0 : Int))]) htab rfl rfl rfl rfl rfl rfl rfl rfl rfl ?_
      refine p_store (ds' := [.v (.bool false), .v (.int .i64 (0 : Int)), .v (.int .i64 (0 : Int))]) (h' := [(b1, Blk.cells [.v (.bool x4.gSome), .v (.int .i64 x4.gM), .v (.int .i64 x4.gR)] 23), (b2, Blk.cells [.v (.bool x5.gSome), .v (.int .i64 x5.gM), .v (.int .i64 x5.gR)] 23), (b3, Blk.cells [.v (.bool false), .v (.int .i64 (0 : Int)), .v (.int .i64 (0 : Int))] 23)]) 2 htab rfl rfl rfl rfl rfl rfl rfl rfl rfl rfl rfl rfl ?_
      refine ops_nil ?_
      refine then_normal ?_
      refine wpD_ret ?_
      refine then_ret ?_
      have er15 := yes_eq hm; subst er15
      refine retX.of (s' := ⟨[(8, .ptr b3 0)], [(b3, Blk.cells [.v (.bool false), .v (.int .i64 (0 : Int)), .v (.int .i64 (0 : Int))] 23)], []⟩) (WkS.perm (WkS.cons rfl (Wk.refl _) (WkS.nil)) ((perm_at (j := 2) rfl).trans (List.Perm.cons _ (List.Perm.refl _))) (List.Perm.refl _)) (retD_mk (hh := []) (.inl rfl) (resL_cons (resOne_cell 0 rfl rfl rfl rfl) (resL_nil)) (List.nil_sublist _) (List.Sublist.refl _) ?_)
      exact ⟨rfl, rfl, rfl⟩
    · replace hm := yes_f hc14 hm
      refine wpD_skip ?_
      refine then_normal ?_
      refine wpD_seq ?_
      refine wpD_seq ?_
      obtain ⟨y17, q17, ho17⟩ := yes_bind hm
      refine wpD_mid (Y := Unit) (fun z17 => (⟨[(0, .v (.int .i64 a0)), (3, .v (.bool a3)), (5, .ptr b1 0), (6, .ptr b2 0), (8, .ptr b3 0), (29, .v (.bool y17))], [(b1, Blk.cells [.v (.bool x4.gSome), .v (.int .i64 x4.gM), .v (.int .i64 x4.gR)] 23), (b2, Blk.cells [.v (.bool x5.gSome), .v (.int .i64 x5.gM), .v (.int .i64 x5.gR)] 23), (b3, Blk.cells [.v (.bool false), .v (.int .i64 (0 : Int)), .v (.int .i64 (0 : Int))] 23)], []⟩ : S)) ?_ ?_
      · clear hm; have hm := yes_of q17
        refine wpD_region ?_
        refine p_pure htab rfl rfl rfl rfl ?_
        refine p_load 0 htab rfl rfl rfl rfl rfl rfl rfl rfl ?_
        refine p_pure htab rfl rfl rfl rfl ?_
        refine p_pure htab rfl rfl rfl rfl ?_
        refine p_split (i := 25) rfl (fun hg18 => ?_) (fun hg18 => ?_)
        · replace hm := yes_t hg18 hm
          refine p_pure htab rfl rfl rfl rfl ?_
          refine p_load 1 htab rfl rfl rfl rfl rfl rfl rfl rfl ?_
          refine p_pure htab rfl rfl rfl rfl ?_
          refine p_pickT rfl rfl rfl rfl rfl rfl ?_
          refine ops_nil ?_
          have e17 := yes_eq hm; subst e17
          refine ⟨rfl, ?_⟩
          exact WkX.of () (WkS.perm (WkS.cons rfl (Wk.refl _) (WkS.cons rfl (Wk.refl _) (WkS.cons rfl (Wk.refl _) (WkS.cons rfl (Wk.refl _) (WkS.cons rfl (Wk.refl _) (WkS.cons rfl (Wk.refl _) (WkS.nil))))))) (List.Perm.refl _) (List.Perm.refl _))
        · replace hm := yes_f hg18 hm
          refine p_skip rfl rfl rfl ?_
          refine p_skip rfl rfl rfl ?_
          refine p_skip rfl rfl rfl ?_
          refine p_pickF rfl rfl rfl rfl rfl rfl ?_
          refine ops_nil ?_
          have e17 := yes_eq hm; subst e17
          refine ⟨rfl, ?_⟩
          exact WkX.of () (WkS.perm (WkS.cons rfl (Wk.refl _) (WkS.cons rfl (Wk.refl _) (WkS.cons rfl (Wk.refl _) (WkS.cons rfl (Wk.refl _) (WkS.cons rfl (Wk.refl _) (WkS.cons rfl (Wk.refl _) (WkS.nil))))))) (List.Perm.refl _) (List.Perm.refl _))
      · intro s17 hw17; clear hm; have hm := ho17; clear q17 ho17
        refine then_normal ?_
        refine wpD_wkX hw17 (fun z17 => ?_)
        refine wpD_cond rfl (fun hc23 => ?_) (fun hc23 => ?_)
        · replace hm := yes_t hc23 hm
          refine wpD_seq ?_
          refine wpD_region ?_
          refine p_pure htab rfl rfl rfl rfl ?_
          refine p_pure htab rfl rfl rfl rfl ?_
          refine p_load 0 htab rfl rfl rfl rfl rfl rfl rfl rfl ?_
          refine p_pure htab rfl rfl rfl rfl ?_
          refine p_load 1 htab rfl rfl rfl rfl rfl rfl rfl rfl ?_
          obtain ⟨x24, q24, hm⟩ := yes_bind hm
          refine p_call0 (wrap_Do_ok a0 x4.gR x5.gR x24 q24) rfl rfl rfl rfl rfl (WkL.refl _) ?_
          rintro _ rfl
          refine p_pure htab rfl rfl rfl rfl ?_
          refine p_pure htab rfl rfl rfl rfl ?_
          refine p_pure htab rfl rfl rfl rfl ?_
          refine p_pure htab rfl rfl rfl rfl ?_
          refine p_pure htab rfl rfl rfl rfl ?_
          refine ops_nil ?_
          refine then_normal ?_
          refine wpD_seq ?_
          refine wpD_seq ?_
          refine wpD_region ?_
          refine p_pure htab rfl rfl rfl rfl ?_
          refine p_pure htab rfl rfl rfl rfl ?_
          refine ops_nil ?_
          refine then_normal ?_
          refine wpD_cond rfl (fun hc26 => ?_) (fun hc26 => ?_)
          · replace hm := yes_t hc26 hm
            refine wpD_seq ?_
            refine wpD_region ?_
            refine p_build (r := [.v (.bool false), .v (.int .i64 (0 : Int)), .v (.int .i64 (0 : Int))]) htab rfl rfl rfl rfl rfl rfl rfl rfl rfl ?_
            refine p_store (ds' := [.v (.bool false), .v (.int .i64 (0 : Int)), .v (.int .i64 (0 : Int))]) (h' := [(b1, Blk.cells [.v (.bool x4.gSome), .v (.int .i64 x4.gM), .v (.int .i64 x4.gR)] 23), (b2, Blk.cells [.v (.bool x5.gSome), .v (.int .i64 x5.gM), .v (.int .i64 x5.gR)] 23), (b3, Blk.cells [.v (.bool false), .v (.int .i64 (0 : Int)), .v (.int .i64 (0 : Int))] 23)]) 2 htab rfl rfl rfl rfl rfl rfl rfl rfl rfl rfl rfl rfl ?_
            refine ops_nil ?_
            refine then_normal ?_
            refine wpD_ret ?_
            refine then_ret ?_
            refine then_ret ?_
            have er27 := yes_eq hm; subst er27
            refine retX.of (s' := ⟨[(8, .ptr b3 0)], [(b3, Blk.cells [.v (.bool false), .v (.int .i64 (0 : Int)), .v (.int .i64 (0 : Int))] 23)], []⟩) (WkS.perm (WkS.cons rfl (Wk.refl _) (WkS.nil)) ((perm_at (j := 2) rfl).trans (List.Perm.cons _ (List.Perm.refl _))) (List.Perm.refl _)) (retD_mk (hh := []) (.inl rfl) (resL_cons (resOne_cell 0 rfl rfl rfl rfl) (resL_nil)) (List.nil_sublist _) (List.Sublist.refl _) ?_)
            exact ⟨rfl, rfl, rfl⟩
          · replace hm := yes_f hc26 hm
            refine wpD_skip ?_
            refine then_normal ?_
            refine wpD_seq ?_
            refine wpD_region ?_
            refine p_pure htab rfl rfl rfl rfl ?_
            obtain ⟨x28, q28, hm⟩ := yes_bind hm
            refine p_call0 (cong_One_ok x24.1 x28 q28) rfl rfl rfl rfl rfl (WkL.refl _) ?_
            rintro _ rfl
            refine p_store (ds' := [.v (.bool x28.gSome), .v (.int .i64 x28.gM), .v (.int .i64 x28.gR)]) (h' := [(b1, Blk.cells [.v (.bool x4.gSome), .v (.int .i64 x4.gM), .v (.int .i64 x4.gR)] 23), (b2, Blk.cells [.v (.bool x5.gSome), .v (.int .i64 x5.gM), .v (.int .i64 x5.gR)] 23), (b3, Blk.cells [.v (.bool x28.gSome), .v (.int .i64 x28.gM), .v (.int .i64 x28.gR)] 23)]) 2 htab rfl rfl rfl rfl rfl rfl rfl rfl rfl rfl rfl rfl ?_
            refine ops_nil ?_
            refine then_normal ?_
            refine wpD_ret ?_
            refine then_ret ?_
            have er29 := yes_eq hm; subst er29
            refine retX.of (s' := ⟨[(8, .ptr b3 0)], [(b3, Blk.cells [.v (.bool x28.gSome), .v (.int .i64 x28.gM), .v (.int .i64 x28.gR)] 23)], []⟩) (WkS.perm (WkS.cons rfl (Wk.refl _) (WkS.nil)) ((perm_at (j := 2) rfl).trans (List.Perm.cons _ (List.Perm.refl _))) (List.Perm.refl _)) (retD_mk (hh := []) (.inl rfl) (resL_cons (resOne_cell 0 rfl rfl rfl rfl) (resL_nil)) (List.nil_sublist _) (List.Sublist.refl _) ?_)
            exact ⟨rfl, rfl, rfl⟩
        · replace hm := yes_f hc23 hm
          refine wpD_skip ?_
          refine then_normal ?_
          refine wpD_seq ?_
          refine wpD_seq ?_
          refine wpD_region ?_
          refine p_pure htab rfl rfl rfl rfl ?_
          refine ops_nil ?_
          refine then_normal ?_
          refine wpD_block ?_
          refine wpD_seq ?_
          refine wpD_seq ?_
          refine wpD_region ?_
          refine p_pure htab rfl rfl rfl rfl ?_
          refine p_pure htab rfl rfl rfl rfl ?_
          refine ops_nil ?_
          refine then_normal ?_
          obtain ⟨y43, q43, ho43⟩ := yes_bind hm
          refine wpD_mid (Y := Unit) (fun z43 => (⟨[(0, .v (.int .i64 a0)), (3, .v (.bool a3)), (5, .ptr b1 0), (6, .ptr b2 0), (8, .ptr b3 0), (44, .v (.int .i64 a0)), (45, .v (.bool y43))], [(b1, Blk.cells [.v (.bool x4.gSome), .v (.int .i64 x4.gM), .v (.int .i64 x4.gR)] 23), (b2, Blk.cells [.v (.bool x5.gSome), .v (.int .i64 x5.gM), .v (.int .i64 x5.gR)] 23), (b3, Blk.cells [.v (.bool false), .v (.int .i64 (0 : Int)), .v (.int .i64 (0 : Int))] 23)], []⟩ : S)) ?_ ?_
          · clear hm; have hm := yes_of q43
            refine wpD_cond rfl (fun hc44 => ?_) (fun hc44 => ?_)
            · replace hm := yes_t hc44 hm
              refine wpD_skip ?_
              have e43 := yes_eq hm; subst e43
              refine ⟨rfl, ?_⟩
              exact WkX.of () (WkS.perm (WkS.cons rfl (Wk.refl _) (WkS.cons rfl (Wk.refl _) (WkS.cons rfl (Wk.refl _) (WkS.cons rfl (Wk.refl _) (WkS.cons rfl (Wk.refl _) (WkS.cons rfl (Wk.refl _) (WkS.cons rfl (Wk.refl _) (WkS.nil)))))))) (List.Perm.refl _) (List.Perm.refl _))
            · replace hm := yes_f hc44 hm
              refine wpD_region ?_
              refine p_pure htab rfl rfl rfl rfl ?_
              refine p_pure htab rfl rfl rfl rfl ?_
              refine ops_nil ?_
              have e43 := yes_eq hm; subst e43
              refine ⟨rfl, ?_⟩
              exact WkX.of () (WkS.perm (WkS.cons rfl (Wk.refl _) (WkS.cons rfl (Wk.refl _) (WkS.cons rfl (Wk.refl _) (WkS.cons rfl (Wk.refl _) (WkS.cons rfl (Wk.refl _) (WkS.cons rfl (Wk.refl _) (WkS.cons rfl (Wk.refl _) (WkS.nil)))))))) (List.Perm.refl _) (List.Perm.refl _))
          · intro s43 hw43; clear hm; have hm := ho43; clear q43 ho43
            refine then_normal ?_
            refine wpD_wkX hw43 (fun z43 => ?_)
            refine wpD_cond rfl (fun hc54 => ?_) (fun hc54 => ?_)
            · replace hm := yes_t hc54 hm
              refine wpD_seq ?_
              obtain ⟨x55, q55, hm⟩ := yes_bind hm
              refine wpD_draws 9 [] [[],[],[1],[],[3],[1,3],[],[],[]] [1,3,5,6,7] [[],[],[1],[],[3],[1,2,3,4],[],[],[],[0,1,2,3,4,5,6,7,8],[0,1,2,3,4,5,6,7,8,9]] (by kernel_rfl) (by kernel_rfl) (by kernel_rfl) (by rfl) (by rfl) (by kernel_rfl) ?_
              apply Exists.intro
              apply Exists.intro
              apply Exists.intro
              apply Exists.intro
              apply Exists.intro
              intro bs
              refine z_q rfl rfl (ex_pure htab rfl) rfl rfl rfl rfl rfl rfl ?_
              refine z_e rfl rfl (ex_pure htab rfl) rfl rfl rfl rfl rfl rfl ?_
              refine z_qM rfl rfl (xm_load 0 htab rfl rfl rfl rfl rfl) rfl rfl rfl rfl rfl rfl ?_
              refine z_e rfl rfl (ex_pure htab rfl) rfl rfl rfl rfl rfl rfl ?_
              refine z_qM rfl rfl (xm_load 1 htab rfl rfl rfl rfl rfl) rfl rfl rfl rfl rfl rfl ?_
              refine z_call rfl rfl (residue_gcd_ok x4.gM x5.gM x55 q55) rfl rfl (WkL.refl _) rfl rfl rfl rfl rfl rfl ?_
              refine z_eM rfl rfl (xm_load (d := eTApiCong x4) 0 htab rfl rfl rfl rfl rfl) rfl rfl rfl rfl rfl rfl ?_
              refine z_eM rfl rfl (xm_load (d := eTApiCong x5) 1 htab rfl rfl rfl rfl rfl) rfl rfl rfl rfl rfl rfl ?_
              refine z_q rfl rfl (ex_pure htab rfl) rfl rfl rfl rfl rfl rfl ?_
              refine z_nil rfl rfl (fun e he => by simp [isAl] at he) ?_
              obtain ⟨x56, q56, hm⟩ := yes_bind hm
              refine p_call0 (residue_linear_ok a0 x55 x4 x5 a3 x56 q56) rfl rfl rfl rfl rfl (WkL.refl _) ?_
              rintro _ rfl
              refine p_store (ds' := [.v (.bool x56.gSome), .v (.int .i64 x56.gM), .v (.int .i64 x56.gR)]) (h' := [(b1, Blk.cells [.v (.bool x4.gSome), .v (.int .i64 x4.gM), .v (.int .i64 x4.gR)] 23), (b2, Blk.cells [.v (.bool x5.gSome), .v (.int .i64 x5.gM), .v (.int .i64 x5.gR)] 23), (b3, Blk.cells [.v (.bool x56.gSome), .v (.int .i64 x56.gM), .v (.int .i64 x56.gR)] 23)]) 2 htab rfl rfl rfl rfl rfl rfl rfl rfl rfl rfl rfl rfl ?_
              refine ops_nil ?_
              refine then_normal ?_
              refine wpD_ret ?_
              refine block_ret ?_
              refine then_ret ?_
              have er57 := yes_eq hm; subst er57
              refine retX.of (s' := ⟨[(8, .ptr b3 0)], [(b3, Blk.cells [.v (.bool x56.gSome), .v (.int .i64 x56.gM), .v (.int .i64 x56.gR)] 23)], []⟩) (WkS.perm (WkS.cons rfl (Wk.refl _) (WkS.nil)) ((perm_at (j := 2) rfl).trans (List.Perm.cons _ (List.Perm.refl _))) (List.Perm.refl _)) (retD_mk (hh := []) (.inl rfl) (resL_cons (resOne_cell 0 rfl rfl rfl rfl) (resL_nil)) (List.nil_sublist _) (List.Sublist.refl _) ?_)
              exact ⟨rfl, rfl, rfl⟩
            · replace hm := yes_f hc54 hm
              refine wpD_seq ?_
              refine wpD_region ?_
              refine p_pure htab rfl rfl rfl rfl ?_
              refine p_pure htab rfl rfl rfl rfl ?_
              refine ops_nil ?_
              refine then_normal ?_
              refine wpD_cond rfl (fun hc64 => ?_) (fun hc64 => ?_)
              · replace hm := yes_t hc64 hm
                refine wpD_seq ?_
                refine wpD_region ?_
                refine p_load (d := eTApiCong x4) 0 htab rfl rfl rfl rfl rfl rfl rfl rfl ?_
                refine p_load (d := eTApiCong x5) 1 htab rfl rfl rfl rfl rfl rfl rfl rfl ?_
                refine p_pure htab rfl rfl rfl rfl ?_
                obtain ⟨x65, q65, hm⟩ := yes_bind hm
                refine p_call0 (residue_product_ok x4 x5 a3 x65 q65) rfl rfl rfl rfl rfl (WkL.refl _) ?_
                rintro _ rfl
                refine p_store (ds' := [.v (.bool x65.gSome), .v (.int .i64 x65.gM), .v (.int .i64 x65.gR)]) (h' := [(b1, Blk.cells [.v (.bool x4.gSome), .v (.int .i64 x4.gM), .v (.int .i64 x4.gR)] 23), (b2, Blk.cells [.v (.bool x5.gSome), .v (.int .i64 x5.gM), .v (.int .i64 x5.gR)] 23), (b3, Blk.cells [.v (.bool x65.gSome), .v (.int .i64 x65.gM), .v (.int .i64 x65.gR)] 23)]) 2 htab rfl rfl rfl rfl rfl rfl rfl rfl rfl rfl rfl rfl ?_
                refine ops_nil ?_
                refine then_normal ?_
                refine wpD_ret ?_
                refine block_ret ?_
                refine then_ret ?_
                have er66 := yes_eq hm; subst er66
                refine retX.of (s' := ⟨[(8, .ptr b3 0)], [(b3, Blk.cells [.v (.bool x65.gSome), .v (.int .i64 x65.gM), .v (.int .i64 x65.gR)] 23)], []⟩) (WkS.perm (WkS.cons rfl (Wk.refl _) (WkS.nil)) ((perm_at (j := 2) rfl).trans (List.Perm.cons _ (List.Perm.refl _))) (List.Perm.refl _)) (retD_mk (hh := []) (.inl rfl) (resL_cons (resOne_cell 0 rfl rfl rfl rfl) (resL_nil)) (List.nil_sublist _) (List.Sublist.refl _) ?_)
                exact ⟨rfl, rfl, rfl⟩
              · replace hm := yes_f hc64 hm
                refine wpD_seq ?_
                refine wpD_region ?_
                refine p_pure htab rfl rfl rfl rfl ?_
                refine p_pure htab rfl rfl rfl rfl ?_
                refine ops_nil ?_
                refine then_normal ?_
                refine wpD_cond rfl (fun hc71 => ?_) (fun hc71 => ?_)
                · replace hm := yes_t hc71 hm
                  refine wpD_seq ?_
                  refine wpD_region ?_
                  refine p_load (d := eTApiCong x4) 0 htab rfl rfl rfl rfl rfl rfl rfl rfl ?_
                  refine p_load (d := eTApiCong x5) 1 htab rfl rfl rfl rfl rfl rfl rfl rfl ?_
                  refine p_pure htab rfl rfl rfl rfl ?_
                  obtain ⟨x72, q72, hm⟩ := yes_bind hm
                  refine p_call0 (residue_quotient_ok x4 x5 a3 x72 q72) rfl rfl rfl rfl rfl (WkL.refl _) ?_
                  rintro _ rfl
                  refine p_store (ds' := [.v (.bool x72.gSome), .v (.int .i64 x72.gM), .v (.int .i64 x72.gR)]) (h' := [(b1, Blk.cells [.v (.bool x4.gSome), .v (.int .i64 x4.gM), .v (.int .i64 x4.gR)] 23), (b2, Blk.cells [.v (.bool x5.gSome), .v (.int .i64 x5.gM), .v (.int .i64 x5.gR)] 23), (b3, Blk.cells [.v (.bool x72.gSome), .v (.int .i64 x72.gM), .v (.int .i64 x72.gR)] 23)]) 2 htab rfl rfl rfl rfl rfl rfl rfl rfl rfl rfl rfl rfl ?_
                  refine ops_nil ?_
                  refine then_normal ?_
                  refine wpD_ret ?_
                  refine block_ret ?_
                  refine then_ret ?_
                  have er73 := yes_eq hm; subst er73
                  refine retX.of (s' := ⟨[(8, .ptr b3 0)], [(b3, Blk.cells [.v (.bool x72.gSome), .v (.int .i64 x72.gM), .v (.int .i64 x72.gR)] 23)], []⟩) (WkS.perm (WkS.cons rfl (Wk.refl _) (WkS.nil)) ((perm_at (j := 2) rfl).trans (List.Perm.cons _ (List.Perm.refl _))) (List.Perm.refl _)) (retD_mk (hh := []) (.inl rfl) (resL_cons (resOne_cell 0 rfl rfl rfl rfl) (resL_nil)) (List.nil_sublist _) (List.Sublist.refl _) ?_)
                  exact ⟨rfl, rfl, rfl⟩
                · replace hm := yes_f hc71 hm
                  refine wpD_seq ?_
                  refine wpD_region ?_
                  refine p_pure htab rfl rfl rfl rfl ?_
                  refine p_pure htab rfl rfl rfl rfl ?_
                  refine ops_nil ?_
                  refine then_normal ?_
                  refine wpD_cond rfl (fun hc76 => ?_) (fun hc76 => ?_)
                  · replace hm := yes_t hc76 hm
                    refine wpD_seq ?_
                    refine wpD_region ?_
                    refine p_load (d := eTApiCong x4) 0 htab rfl rfl rfl rfl rfl rfl rfl rfl ?_
                    refine p_load (d := eTApiCong x5) 1 htab rfl rfl rfl rfl rfl rfl rfl rfl ?_
                    obtain ⟨x77, q77, hm⟩ := yes_bind hm
                    refine p_call0 (residue_rest_ok x4 x5 x77 q77) rfl rfl rfl rfl rfl (WkL.refl _) ?_
                    rintro _ rfl
                    refine p_store (ds' := [.v (.bool x77.gSome), .v (.int .i64 x77.gM), .v (.int .i64 x77.gR)]) (h' := [(b1, Blk.cells [.v (.bool x4.gSome), .v (.int .i64 x4.gM), .v (.int .i64 x4.gR)] 23), (b2, Blk.cells [.v (.bool x5.gSome), .v (.int .i64 x5.gM), .v (.int .i64 x5.gR)] 23), (b3, Blk.cells [.v (.bool x77.gSome), .v (.int .i64 x77.gM), .v (.int .i64 x77.gR)] 23)]) 2 htab rfl rfl rfl rfl rfl rfl rfl rfl rfl rfl rfl rfl ?_
                    refine ops_nil ?_
                    refine then_normal ?_
                    refine wpD_ret ?_
                    refine block_ret ?_
                    refine then_ret ?_
                    have er78 := yes_eq hm; subst er78
                    refine retX.of (s' := ⟨[(8, .ptr b3 0)], [(b3, Blk.cells [.v (.bool x77.gSome), .v (.int .i64 x77.gM), .v (.int .i64 x77.gR)] 23)], []⟩) (WkS.perm (WkS.cons rfl (Wk.refl _) (WkS.nil)) ((perm_at (j := 2) rfl).trans (List.Perm.cons _ (List.Perm.refl _))) (List.Perm.refl _)) (retD_mk (hh := []) (.inl rfl) (resL_cons (resOne_cell 0 rfl rfl rfl rfl) (resL_nil)) (List.nil_sublist _) (List.Sublist.refl _) ?_)
                    exact ⟨rfl, rfl, rfl⟩
                  · replace hm := yes_f hc76 hm
                    refine wpD_skip ?_
                    refine block_normal ?_
                    refine then_normal ?_
                    refine wpD_seq ?_
                    refine wpD_region ?_
                    refine p_pure htab rfl rfl rfl rfl ?_
                    refine p_load (d := eTApiCong x4) 0 htab rfl rfl rfl rfl rfl rfl rfl rfl ?_
                    refine p_load (d := eTApiCong x5) 1 htab rfl rfl rfl rfl rfl rfl rfl rfl ?_
                    obtain ⟨x79, q79, hm⟩ := yes_bind hm
                    refine p_call0 (residue_compare_ok a0 x4 x5 x79 q79) rfl rfl rfl rfl rfl (WkL.refl _) ?_
                    rintro _ rfl
                    refine p_store (ds' := [.v (.bool x79.gSome), .v (.int .i64 x79.gM), .v (.int .i64 x79.gR)]) (h' := [(b1, Blk.cells [.v (.bool x4.gSome), .v (.int .i64 x4.gM), .v (.int .i64 x4.gR)] 23), (b2, Blk.cells [.v (.bool x5.gSome), .v (.int .i64 x5.gM), .v (.int .i64 x5.gR)] 23), (b3, Blk.cells [.v (.bool x79.gSome), .v (.int .i64 x79.gM), .v (.int .i64 x79.gR)] 23)]) 2 htab rfl rfl rfl rfl rfl rfl rfl rfl rfl rfl rfl rfl ?_
                    refine ops_nil ?_
                    refine then_normal ?_
                    refine wpD_ret ?_
                    have er80 := yes_eq hm; subst er80
                    refine retX.of (s' := ⟨[(8, .ptr b3 0)], [(b3, Blk.cells [.v (.bool x79.gSome), .v (.int .i64 x79.gM), .v (.int .i64 x79.gR)] 23)], []⟩) (WkS.perm (WkS.cons rfl (Wk.refl _) (WkS.nil)) ((perm_at (j := 2) rfl).trans (List.Perm.cons _ (List.Perm.refl _))) (List.Perm.refl _)) (retD_mk (hh := []) (.inl rfl) (resL_cons (resOne_cell 0 rfl rfl rfl rfl) (resL_nil)) (List.nil_sublist _) (List.Sublist.refl _) ?_)
                    exact ⟨rfl, rfl, rfl⟩
noncomputable def residue_One (a0 : Int) (a1 : TApiCong) (a2 : Bool) : Option (TApiCong) :=
  ((cong_Clean a1).bind fun x3 => ((cong_None x3).bind fun x4 => (bif x4 then some x3 else (bif (a0 == (5 : Int)) then ((cong_One (0 : Int)).bind fun x8 => ((residue_Do (11 : Int) x8 x3 a2).bind fun x9 => some x9)) else (bif (a0 != (6 : Int)) then some (⟨false, (0 : Int), (0 : Int)⟩ : TApiCong) else ((residue_alone x3 (0 : Int)).bind fun x13 => (bif x13 then ((cong_One (1 : Int)).bind fun x15 => some x15) else ((cong_Has x3 (0 : Int)).bind fun x17 => (bif (!x17) then ((cong_One (0 : Int)).bind fun x19 => some x19) else (cong_All.bind fun x21 => some x21))))))))))
set_option maxRecDepth 100000 in
set_option maxHeartbeats 2000000 in
theorem residue_One_ok (a0 : Int) (a1 : TApiCong) (a2 : Bool) (r : TApiCong) (h0 : residue_One a0 a1 a2 = some r) : CallsD Try.prog 13 [.v (.int .i64 a0), eTApiCong a1, .v (.bool a2)] [] [] (fun d h k => d = eTApiCong r ∧ h = [] ∧ k = []) := by
  have hm := yes_of h0
  unfold residue_One at hm
  clear h0
  refine enterX htab Try.func13 rfl rfl rfl rfl rfl (fun C => ?_)
  refine wpD_seq ?_
  refine wpD_region ?_
  refine p_box rfl rfl rfl rfl rfl rfl rfl (fun b1 => ?_)
  refine p_alloc htab rfl rfl rfl rfl rfl rfl rfl (fun b2 => ?_)
  refine ops_nil ?_
  refine then_normal ?_
  refine wpD_seq ?_
  refine wpD_region ?_
  refine p_load (d := eTApiCong a1) 0 htab rfl rfl rfl rfl rfl rfl rfl rfl ?_
  obtain ⟨x3, q3, hm⟩ := yes_bind hm
  refine p_call0 (cong_Clean_ok a1 x3 q3) rfl rfl rfl rfl rfl (WkL.refl _) ?_
  rintro _ rfl
  refine p_store (ds' := [.v (.bool x3.gSome), .v (.int .i64 x3.gM), .v (.int .i64 x3.gR)]) (h' := [(b1, Blk.cells [.v (.bool x3.gSome), .v (.int .i64 x3.gM), .v (.int .i64 x3.gR)] 23), (b2, Blk.cells [.v (.bool false), .v (.int .i64 (0 : Int)), .v (.int .i64 (0 : Int))] 23)]) 0 htab rfl rfl rfl rfl rfl rfl rfl rfl rfl rfl rfl rfl ?_
  refine ops_nil ?_
  refine then_normal ?_
  refine wpD_seq ?_
  refine wpD_block ?_
  refine wpD_seq ?_
  refine wpD_region ?_
  refine p_load (d := eTApiCong x3) 0 htab rfl rfl rfl rfl rfl rfl rfl rfl ?_
  obtain ⟨x4, q4, hm⟩ := yes_bind hm
  refine p_call0 (cong_None_ok x3 x4 q4) rfl rfl rfl rfl rfl (WkL.refl _) ?_
  rintro _ rfl
  refine p_pure htab rfl rfl rfl rfl ?_
  refine ops_nil ?_
  refine then_normal ?_
  refine wpD_cond rfl (fun hc5 => ?_) (fun hc5 => ?_)
  · replace hm := yes_t hc5 hm
    refine wpD_seq ?_
    refine wpD_region ?_
    refine p_load (d := eTApiCong x3) 0 htab rfl rfl rfl rfl rfl rfl rfl rfl ?_
    refine p_store (ds' := [.v (.bool x3.gSome), .v (.int .i64 x3.gM), .v (.int .i64 x3.gR)]) (h' := [(b1, Blk.cells [.v (.bool x3.gSome), .v (.int .i64 x3.gM), .v (.int .i64 x3.gR)] 23), (b2, Blk.cells [.v (.bool x3.gSome), .v (.int .i64 x3.gM), .v (.int .i64 x3.gR)] 23)]) 1 htab rfl rfl rfl rfl rfl rfl rfl rfl rfl rfl rfl rfl ?_
    refine ops_nil ?_
    refine then_normal ?_
    refine wpD_ret ?_
    refine block_ret ?_
    refine then_ret ?_
    have er6 := yes_eq hm; subst er6
    refine retX.of (s' := ⟨[(6, .ptr b2 0)], [(b2, Blk.cells [.v (.bool x3.gSome), .v (.int .i64 x3.gM), .v (.int .i64 x3.gR)] 23)], []⟩) (WkS.perm (WkS.cons rfl (Wk.refl _) (WkS.nil)) ((perm_at (j := 1) rfl).trans (List.Perm.cons _ (List.Perm.refl _))) (List.Perm.refl _)) (retD_mk (hh := []) (.inl rfl) (resL_cons (resOne_cell 0 rfl rfl rfl rfl) (resL_nil)) (List.nil_sublist _) (List.Sublist.refl _) ?_)
    exact ⟨rfl, rfl, rfl⟩
  · replace hm := yes_f hc5 hm
    refine wpD_seq ?_
    refine wpD_region ?_
    refine p_pure htab rfl rfl rfl rfl ?_
    refine p_pure htab rfl rfl rfl rfl ?_
    refine p_pure htab rfl rfl rfl rfl ?_
    refine ops_nil ?_
    refine then_normal ?_
    refine wpD_cond rfl (fun hc7 => ?_) (fun hc7 => ?_)
    · replace hm := yes_t hc7 hm
      refine wpD_seq ?_
      obtain ⟨x8, q8, hm⟩ := yes_bind hm
      refine wpD_draws 3 [] [[],[],[]] [0,1] [[],[],[],[0,1,2],[0,1,2,3]] (by kernel_rfl) (by kernel_rfl) (by kernel_rfl) (by rfl) (by rfl) (by kernel_rfl) ?_
      apply Exists.intro
      apply Exists.intro
      intro bs
      refine z_call rfl rfl (cong_One_ok (0 : Int) x8 q8) rfl rfl (WkL.refl _) rfl rfl rfl rfl rfl rfl ?_
      refine z_eM rfl rfl (xm_load (d := eTApiCong x3) 0 htab rfl rfl rfl rfl rfl) rfl rfl rfl rfl rfl rfl ?_
      refine z_q rfl rfl (ex_pure htab rfl) rfl rfl rfl rfl rfl rfl ?_
      refine z_nil rfl rfl (fun e he => by simp [isAl] at he) ?_
      obtain ⟨x9, q9, hm⟩ := yes_bind hm
      refine p_call0 (residue_Do_ok (11 : Int) x8 x3 a2 x9 q9) rfl rfl rfl rfl rfl (WkL.refl _) ?_
      rintro _ rfl
      refine p_store (ds' := [.v (.bool x9.gSome), .v (.int .i64 x9.gM), .v (.int .i64 x9.gR)]) (h' := [(b1, Blk.cells [.v (.bool x3.gSome), .v (.int .i64 x3.gM), .v (.int .i64 x3.gR)] 23), (b2, Blk.cells [.v (.bool x9.gSome), .v (.int .i64 x9.gM), .v (.int .i64 x9.gR)] 23)]) 1 htab rfl rfl rfl rfl rfl rfl rfl rfl rfl rfl rfl rfl ?_
      refine ops_nil ?_
      refine then_normal ?_
      refine wpD_ret ?_
      refine block_ret ?_
      refine then_ret ?_
      have er10 := yes_eq hm; subst er10
      refine retX.of (s' := ⟨[(6, .ptr b2 0)], [(b2, Blk.cells [.v (.bool x9.gSome), .v (.int .i64 x9.gM), .v (.int .i64 x9.gR)] 23)], []⟩) (WkS.perm (WkS.cons rfl (Wk.refl _) (WkS.nil)) ((perm_at (j := 1) rfl).trans (List.Perm.cons _ (List.Perm.refl _))) (List.Perm.refl _)) (retD_mk (hh := []) (.inl rfl) (resL_cons (resOne_cell 0 rfl rfl rfl rfl) (resL_nil)) (List.nil_sublist _) (List.Sublist.refl _) ?_)
      exact ⟨rfl, rfl, rfl⟩
    · replace hm := yes_f hc7 hm
      refine wpD_seq ?_
      refine wpD_region ?_
      refine p_pure htab rfl rfl rfl rfl ?_
      refine p_pure htab rfl rfl rfl rfl ?_
      refine p_pure htab rfl rfl rfl rfl ?_
      refine ops_nil ?_
      refine then_normal ?_
      refine wpD_cond rfl (fun hc11 => ?_) (fun hc11 => ?_)
      · replace hm := yes_t hc11 hm
        refine wpD_seq ?_
        refine wpD_region ?_
        refine p_build (r := [.v (.bool false), .v (.int .i64 (0 : Int)), .v (.int .i64 (0 : Int))]) htab rfl rfl rfl rfl rfl rfl rfl rfl rfl ?_
        refine p_store (ds' := [.v (.bool false), .v (.int .i64 (0 : Int)), .v (.int .i64 (0 : Int))]) (h' := [(b1, Blk.cells [.v (.bool x3.gSome), .v (.int .i64 x3.gM), .v (.int .i64 x3.gR)] 23), (b2, Blk.cells [.v (.bool false), .v (.int .i64 (0 : Int)), .v (.int .i64 (0 : Int))] 23)]) 1 htab rfl rfl rfl rfl rfl rfl rfl rfl rfl rfl rfl rfl ?_
        refine ops_nil ?_
        refine then_normal ?_
        refine wpD_ret ?_
        refine block_ret ?_
        refine then_ret ?_
        have er12 := yes_eq hm; subst er12
        refine retX.of (s' := ⟨[(6, .ptr b2 0)], [(b2, Blk.cells [.v (.bool false), .v (.int .i64 (0 : Int)), .v (.int .i64 (0 : Int))] 23)], []⟩) (WkS.perm (WkS.cons rfl (Wk.refl _) (WkS.nil)) ((perm_at (j := 1) rfl).trans (List.Perm.cons _ (List.Perm.refl _))) (List.Perm.refl _)) (retD_mk (hh := []) (.inl rfl) (resL_cons (resOne_cell 0 rfl rfl rfl rfl) (resL_nil)) (List.nil_sublist _) (List.Sublist.refl _) ?_)
        exact ⟨rfl, rfl, rfl⟩
      · replace hm := yes_f hc11 hm
        refine wpD_seq ?_
        refine wpD_region ?_
        refine p_load (d := eTApiCong x3) 0 htab rfl rfl rfl rfl rfl rfl rfl rfl ?_
        obtain ⟨x13, q13, hm⟩ := yes_bind hm
        refine p_call0 (residue_alone_ok x3 (0 : Int) x13 q13) rfl rfl rfl rfl rfl (WkL.refl _) ?_
        rintro _ rfl
        refine p_pure htab rfl rfl rfl rfl ?_
        refine ops_nil ?_
        refine then_normal ?_
        refine wpD_cond rfl (fun hc14 => ?_) (fun hc14 => ?_)
        · replace hm := yes_t hc14 hm
          refine wpD_seq ?_
          refine wpD_region ?_
          obtain ⟨x15, q15, hm⟩ := yes_bind hm
          refine p_call0 (cong_One_ok (1 : Int) x15 q15) rfl rfl rfl rfl rfl (WkL.refl _) ?_
          rintro _ rfl
          refine p_store (ds' := [.v (.bool x15.gSome), .v (.int .i64 x15.gM), .v (.int .i64 x15.gR)]) (h' := [(b1, Blk.cells [.v (.bool x3.gSome), .v (.int .i64 x3.gM), .v (.int .i64 x3.gR)] 23), (b2, Blk.cells [.v (.bool x15.gSome), .v (.int .i64 x15.gM), .v (.int .i64 x15.gR)] 23)]) 1 htab rfl rfl rfl rfl rfl rfl rfl rfl rfl rfl rfl rfl ?_
          refine ops_nil ?_
          refine then_normal ?_
          refine wpD_ret ?_
          refine block_ret ?_
          refine then_ret ?_
          have er16 := yes_eq hm; subst er16
          refine retX.of (s' := ⟨[(6, .ptr b2 0)], [(b2, Blk.cells [.v (.bool x15.gSome), .v (.int .i64 x15.gM), .v (.int .i64 x15.gR)] 23)], []⟩) (WkS.perm (WkS.cons rfl (Wk.refl _) (WkS.nil)) ((perm_at (j := 1) rfl).trans (List.Perm.cons _ (List.Perm.refl _))) (List.Perm.refl _)) (retD_mk (hh := []) (.inl rfl) (resL_cons (resOne_cell 0 rfl rfl rfl rfl) (resL_nil)) (List.nil_sublist _) (List.Sublist.refl _) ?_)
          exact ⟨rfl, rfl, rfl⟩
        · replace hm := yes_f hc14 hm
          refine wpD_seq ?_
          refine wpD_region ?_
          refine p_load (d := eTApiCong x3) 0 htab rfl rfl rfl rfl rfl rfl rfl rfl ?_
          obtain ⟨x17, q17, hm⟩ := yes_bind hm
          refine p_call0 (cong_Has_ok x3 (0 : Int) x17 q17) rfl rfl rfl rfl rfl (WkL.refl _) ?_
          rintro _ rfl
          refine p_pure htab rfl rfl rfl rfl ?_
          refine p_pure htab rfl rfl rfl rfl ?_
          refine ops_nil ?_
          refine then_normal ?_
          refine wpD_cond rfl (fun hc18 => ?_) (fun hc18 => ?_)
          · replace hm := yes_t hc18 hm
            refine wpD_seq ?_
            refine wpD_region ?_
            obtain ⟨x19, q19, hm⟩ := yes_bind hm
            refine p_call0 (cong_One_ok (0 : Int) x19 q19) rfl rfl rfl rfl rfl (WkL.refl _) ?_
            rintro _ rfl
            refine p_store (ds' := [.v (.bool x19.gSome), .v (.int .i64 x19.gM), .v (.int .i64 x19.gR)]) (h' := [(b1, Blk.cells [.v (.bool x3.gSome), .v (.int .i64 x3.gM), .v (.int .i64 x3.gR)] 23), (b2, Blk.cells [.v (.bool x19.gSome), .v (.int .i64 x19.gM), .v (.int .i64 x19.gR)] 23)]) 1 htab rfl rfl rfl rfl rfl rfl rfl rfl rfl rfl rfl rfl ?_
            refine ops_nil ?_
            refine then_normal ?_
            refine wpD_ret ?_
            refine block_ret ?_
            refine then_ret ?_
            have er20 := yes_eq hm; subst er20
            refine retX.of (s' := ⟨[(6, .ptr b2 0)], [(b2, Blk.cells [.v (.bool x19.gSome), .v (.int .i64 x19.gM), .v (.int .i64 x19.gR)] 23)], []⟩) (WkS.perm (WkS.cons rfl (Wk.refl _) (WkS.nil)) ((perm_at (j := 1) rfl).trans (List.Perm.cons _ (List.Perm.refl _))) (List.Perm.refl _)) (retD_mk (hh := []) (.inl rfl) (resL_cons (resOne_cell 0 rfl rfl rfl rfl) (resL_nil)) (List.nil_sublist _) (List.Sublist.refl _) ?_)
            exact ⟨rfl, rfl, rfl⟩
          · replace hm := yes_f hc18 hm
            refine wpD_skip ?_
            refine block_normal ?_
            refine then_normal ?_
            refine wpD_seq ?_
            refine wpD_region ?_
            obtain ⟨x21, q21, hm⟩ := yes_bind hm
            refine p_call0 (cong_All_ok  x21 q21) rfl rfl rfl rfl rfl (WkL.refl _) ?_
            rintro _ rfl
            refine p_store (ds' := [.v (.bool x21.gSome), .v (.int .i64 x21.gM), .v (.int .i64 x21.gR)]) (h' := [(b1, Blk.cells [.v (.bool x3.gSome), .v (.int .i64 x3.gM), .v (.int .i64 x3.gR)] 23), (b2, Blk.cells [.v (.bool x21.gSome), .v (.int .i64 x21.gM), .v (.int .i64 x21.gR)] 23)]) 1 htab rfl rfl rfl rfl rfl rfl rfl rfl rfl rfl rfl rfl ?_
            refine ops_nil ?_
            refine then_normal ?_
            refine wpD_ret ?_
            have er22 := yes_eq hm; subst er22
            refine retX.of (s' := ⟨[(6, .ptr b2 0)], [(b2, Blk.cells [.v (.bool x21.gSome), .v (.int .i64 x21.gM), .v (.int .i64 x21.gR)] 23)], []⟩) (WkS.perm (WkS.cons rfl (Wk.refl _) (WkS.nil)) ((perm_at (j := 1) rfl).trans (List.Perm.cons _ (List.Perm.refl _))) (List.Perm.refl _)) (retD_mk (hh := []) (.inl rfl) (resL_cons (resOne_cell 0 rfl rfl rfl rfl) (resL_nil)) (List.nil_sublist _) (List.Sublist.refl _) ?_)
            exact ⟨rfl, rfl, rfl⟩
end Go.Proofs.Ytjbpfgknhpdkaaa.Ab
