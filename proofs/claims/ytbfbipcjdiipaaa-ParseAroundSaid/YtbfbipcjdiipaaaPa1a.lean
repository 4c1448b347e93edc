/- Layer 12: what the functions compute. -/
import Derived.Test.YtbfbipcjdiipaaaPa1
namespace Go.Proofs.Ytbfbipcjdiipaaa.Ab
open Go
set_option linter.all false
noncomputable def parse_reader_name (m0 : TParseReader) : Option (ByteArray × TParseReader) :=
  ((parse_reader_look m0).bind fun x1 => (bif (x1.gKind != (1 : Int)) then ((parse_reader_fail m0 m0.gAt (3 : Int)).bind fun x6 => some ((ByteArray.mk #[]), x6)) else some (x1.gText, (⟨m0.gL, (IntKind.i64.wrap (m0.gAt + (1 : Int))), m0.gE⟩ : TParseReader))))
set_option maxRecDepth 100000 in
set_option maxHeartbeats 2000000 in
theorem parse_reader_name_ok (m0 : TParseReader) (o0 : Nat) (T0 : TypeId) (c0_0 : Cap) (r : ByteArray × TParseReader) (h0 : parse_reader_name m0 = some r) : CallsD Try.prog 35 [.ptr o0 0] [(o0, Blk.cells [.lst 4 (m0.gL.map eTApiToken) c0_0, .v (.int .i64 m0.gAt), .v (.int .i64 m0.gE)] T0)] [] (fun d h k => d = .v (.string r.1) ∧ h = [(o0, Blk.cells [.lst 4 (r.2.gL.map eTApiToken) c0_0, .v (.int .i64 r.2.gAt), .v (.int .i64 r.2.gE)] T0)] ∧ k = []) := by
  have hm := yes_of h0
  unfold parse_reader_name at hm
  clear h0
  refine enterX htab Try.func35 rfl rfl rfl rfl rfl (fun C => ?_)
  refine wpD_seq ?_
  refine wpD_region ?_
  refine p_pure htab rfl rfl rfl rfl ?_
  refine ops_nil ?_
  refine then_normal ?_
  refine wpD_seq ?_
  refine wpD_region ?_
  refine p_pure htab rfl rfl rfl rfl ?_
  obtain ⟨x1, q1, hm⟩ := yes_bind hm
  refine p_callG (parse_reader_look_ok m0 o0 T0 c0_0 x1 q1) rfl rfl rfl rfl rfl (WkL.refl _) (List.Perm.refl _) (List.Perm.refl _) ?_
  rintro _ _ _ ⟨rfl, rfl, rfl⟩
  refine p_alloc htab rfl rfl rfl rfl rfl rfl rfl (fun b2 => ?_)
  refine p_store (ds' := [.v (.int .i64 x1.gKind), .v (.string x1.gText), .v (.int .i64 x1.gN), .v (.int .i64 x1.gAt)]) (h' := [(o0, Blk.cells [.lst 4 (m0.gL.map eTApiToken) c0_0, .v (.int .i64 m0.gAt), .v (.int .i64 m0.gE)] T0), (b2, Blk.cells [.v (.int .i64 x1.gKind), .v (.string x1.gText), .v (.int .i64 x1.gN), .v (.int .i64 x1.gAt)] 38)]) 1 htab rfl rfl rfl rfl rfl rfl rfl rfl rfl rfl rfl rfl ?_
  refine ops_nil ?_
  refine then_normal ?_
  refine wpD_seq ?_
  refine wpD_seq ?_
  refine wpD_region ?_
  refine p_pure htab rfl rfl rfl rfl ?_
  refine p_load 1 htab rfl rfl rfl rfl rfl rfl rfl rfl ?_
  refine p_pure htab rfl rfl rfl rfl ?_
  refine ops_nil ?_
  refine then_normal ?_
  refine wpD_cond rfl (fun hc5 => ?_) (fun hc5 => ?_)
  · replace hm := yes_t hc5 hm
    refine wpD_seq ?_
    refine wpD_region ?_
    refine p_pure htab rfl rfl rfl rfl ?_
    refine p_pure htab rfl rfl rfl rfl ?_
    refine p_pure htab rfl rfl rfl rfl ?_
    refine p_pure htab rfl rfl rfl rfl ?_
    refine p_load 0 htab rfl rfl rfl rfl rfl rfl rfl rfl ?_
    obtain ⟨x6, q6, hm⟩ := yes_bind hm
    refine p_callG (parse_reader_fail_ok m0 m0.gAt (3 : Int) o0 T0 c0_0 x6 q6) rfl rfl rfl rfl rfl (WkL.refl _) (List.Perm.refl _) (List.Perm.refl _) ?_
    rintro _ _ _ ⟨rfl, rfl, rfl⟩
    refine ops_nil ?_
    refine then_normal ?_
    refine wpD_seq ?_
    refine wpD_region ?_
    refine p_pure htab rfl rfl rfl rfl ?_
    refine ops_nil ?_
    refine then_normal ?_
    refine wpD_ret ?_
    refine then_ret ?_
    have er7 := yes_eq hm; subst er7
    refine retX.of (s' := ⟨[(2, .v (.string (ByteArray.mk #[])))], [(o0, Blk.cells [.lst 4 (x6.gL.map eTApiToken) c0_0, .v (.int .i64 x6.gAt), .v (.int .i64 x6.gE)] T0)], []⟩) (WkS.perm (WkS.cons rfl (Wk.refl _) (WkS.nil)) (List.Perm.refl _) (List.Perm.refl _)) (retD_mk (hh := [(o0, Blk.cells [.lst 4 (x6.gL.map eTApiToken) c0_0, .v (.int .i64 x6.gAt), .v (.int .i64 x6.gE)] T0)]) (.inl rfl) (resL_cons (resOne_tmp rfl) (resL_nil)) (List.Sublist.refl _) (List.Sublist.refl _) ?_)
    exact ⟨rfl, rfl, rfl⟩
  · replace hm := yes_f hc5 hm
    refine wpD_skip ?_
    refine then_normal ?_
    refine wpD_seq ?_
    refine wpD_region ?_
    refine p_pure htab rfl rfl rfl rfl ?_
    refine p_pure htab rfl rfl rfl rfl ?_
    refine p_pure htab rfl rfl rfl rfl ?_
    refine p_load 0 htab rfl rfl rfl rfl rfl rfl rfl rfl ?_
    refine p_pure htab rfl rfl rfl rfl ?_
    refine p_pure htab rfl rfl rfl rfl ?_
    refine p_pure htab rfl rfl rfl rfl ?_
    refine p_store (ds' := [.lst 4 (m0.gL.map eTApiToken) c0_0, .v (.int .i64 (IntKind.i64.wrap (m0.gAt + (1 : Int)))), .v (.int .i64 m0.gE)]) (h' := [(o0, Blk.cells [.lst 4 (m0.gL.map eTApiToken) c0_0, .v (.int .i64 (IntKind.i64.wrap (m0.gAt + (1 : Int)))), .v (.int .i64 m0.gE)] T0), (b2, Blk.cells [.v (.int .i64 x1.gKind), .v (.string x1.gText), .v (.int .i64 x1.gN), .v (.int .i64 x1.gAt)] 38)]) 0 htab rfl rfl rfl rfl rfl rfl rfl rfl rfl rfl rfl rfl ?_
    refine ops_nil ?_
    refine then_normal ?_
    refine wpD_seq ?_
    refine wpD_region ?_
    refine p_pure htab rfl rfl rfl rfl ?_
    refine p_load 1 htab rfl rfl rfl rfl rfl rfl rfl rfl ?_
    refine p_pure htab rfl rfl rfl rfl ?_
    refine ops_nil ?_
    refine then_normal ?_
    refine wpD_ret ?_
    have er8 := yes_eq hm; subst er8
    refine retX.of (s' := ⟨[(2, .v (.string x1.gText))], [(o0, Blk.cells [.lst 4 (m0.gL.map eTApiToken) c0_0, .v (.int .i64 (IntKind.i64.wrap (m0.gAt + (1 : Int)))), .v (.int .i64 m0.gE)] T0)], []⟩) (WkS.perm (WkS.cons rfl (Wk.refl _) (WkS.nil)) (List.Perm.refl _) (List.Perm.refl _)) (retD_mk (hh := [(o0, Blk.cells [.lst 4 (m0.gL.map eTApiToken) c0_0, .v (.int .i64 (IntKind.i64.wrap (m0.gAt + (1 : Int)))), .v (.int .i64 m0.gE)] T0)]) (.inl rfl) (resL_cons (resOne_tmp rfl) (resL_nil)) (List.Sublist.refl _) (List.Sublist.refl _) ?_)
    exact ⟨rfl, rfl, rfl⟩
noncomputable def parse_between (a0 : Int) (a1 : ByteArray) : Option (Int) :=
  (bif (a0 == (0 : Int)) then (bif (decide (a1 = (ByteArray.mk #[124, 124]))) then some (17 : Int) else some (0 : Int)) else (bif (a0 == (1 : Int)) then (bif (decide (a1 = (ByteArray.mk #[38, 38]))) then some (16 : Int) else some (0 : Int)) else (bif (a0 == (2 : Int)) then ((parse_pick a1 (ByteArray.mk #[61, 61]) (14 : Int) (ByteArray.mk #[33, 61]) (15 : Int)).bind fun x10 => some x10) else (bif (a0 == (3 : Int)) then ((parse_pick a1 (ByteArray.mk #[60]) (12 : Int) (ByteArray.mk #[60, 61]) (13 : Int)).bind fun x13 => some x13) else (bif (a0 == (4 : Int)) then ((parse_pick a1 (ByteArray.mk #[43]) (10 : Int) (ByteArray.mk #[45]) (11 : Int)).bind fun x16 => some x16) else (bif (a0 == (5 : Int)) then (bif (decide (a1 = (ByteArray.mk #[37]))) then some (9 : Int) else ((parse_pick a1 (ByteArray.mk #[42]) (7 : Int) (ByteArray.mk #[47]) (8 : Int)).bind fun x22 => some x22)) else some (0 : Int)))))))
set_option maxRecDepth 100000 in
set_option maxHeartbeats 2000000 in
theorem parse_between_ok (a0 : Int) (a1 : ByteArray) (r : Int) (h0 : parse_between a0 a1 = some r) : CallsD Try.prog 20 [.v (.int .i64 a0), .v (.string a1)] [] [] (fun d h k => d = .v (.int .i64 r) ∧ h = [] ∧ k = []) := by
  have hm := yes_of h0
  unfold parse_between at hm
  clear h0
  refine enterX htab Try.func20 rfl rfl rfl rfl rfl (fun C => ?_)
  refine wpD_seq ?_
  refine wpD_region ?_
  refine p_pure htab rfl rfl rfl rfl ?_
  refine ops_nil ?_
  refine then_normal ?_
  refine wpD_seq ?_
  refine wpD_seq ?_
  refine wpD_region ?_
  refine p_pure htab rfl rfl rfl rfl ?_
  refine ops_nil ?_
  refine then_normal ?_
  refine wpD_block ?_
  refine wpD_seq ?_
  refine wpD_region ?_
  refine p_pure htab rfl rfl rfl rfl ?_
  refine p_pure htab rfl rfl rfl rfl ?_
  refine ops_nil ?_
  refine then_normal ?_
  refine wpD_cond rfl (fun hc1 => ?_) (fun hc1 => ?_)
  · replace hm := yes_t hc1 hm
    refine wpD_seq ?_
    refine wpD_region ?_
    refine p_pure htab rfl rfl rfl rfl ?_
    refine p_pure htab rfl rfl rfl rfl ?_
    refine ops_nil ?_
    refine then_normal ?_
    refine wpD_cond rfl (fun hc2 => ?_) (fun hc2 => ?_)
    · replace hm := yes_t hc2 hm
      refine wpD_seq ?_
      refine wpD_region ?_
      refine p_pure htab rfl rfl rfl rfl ?_
      refine ops_nil ?_
      refine then_normal ?_
      refine wpD_ret ?_
      refine block_ret ?_
      refine then_ret ?_
      have er3 := yes_eq hm; subst er3
      refine retX.of (s' := ⟨[(4, .v (.int .i64 (17 : Int)))], [], []⟩) (WkS.perm (WkS.cons rfl (Wk.refl _) (WkS.nil)) (List.Perm.refl _) (List.Perm.refl _)) (retD_mk (hh := []) (.inl rfl) (resL_cons (resOne_tmp rfl) (resL_nil)) (List.nil_sublist _) (List.Sublist.refl _) ?_)
      exact ⟨rfl, rfl, rfl⟩
    · replace hm := yes_f hc2 hm
      refine wpD_skip ?_
      refine block_normal ?_
      refine then_normal ?_
      refine wpD_seq ?_
      refine wpD_region ?_
      refine p_pure htab rfl rfl rfl rfl ?_
      refine ops_nil ?_
      refine then_normal ?_
      refine wpD_ret ?_
      have er4 := yes_eq hm; subst er4
      refine retX.of (s' := ⟨[(4, .v (.int .i64 (0 : Int)))], [], []⟩) (WkS.perm (WkS.cons rfl (Wk.refl _) (WkS.nil)) (List.Perm.refl _) (List.Perm.refl _)) (retD_mk (hh := []) (.inl rfl) (resL_cons (resOne_tmp rfl) (resL_nil)) (List.nil_sublist _) (List.Sublist.refl _) ?_)
      exact ⟨rfl, rfl, rfl⟩
  · replace hm := yes_f hc1 hm
    refine wpD_seq ?_
    refine wpD_region ?_
    refine p_pure htab rfl rfl rfl rfl ?_
    refine p_pure htab rfl rfl rfl rfl ?_
    refine ops_nil ?_
    refine then_normal ?_
    refine wpD_cond rfl (fun hc5 => ?_) (fun hc5 => ?_)
    · replace hm := yes_t hc5 hm
      refine wpD_seq ?_
      refine wpD_region ?_
      refine p_pure htab rfl rfl rfl rfl ?_
      refine p_pure htab rfl rfl rfl rfl ?_
      refine ops_nil ?_
      refine then_normal ?_
      refine wpD_cond rfl (fun hc6 => ?_) (fun hc6 => ?_)
      · replace hm := yes_t hc6 hm
        refine wpD_seq ?_
        refine wpD_region ?_
        refine p_pure htab rfl rfl rfl rfl ?_
        refine ops_nil ?_
        refine then_normal ?_
        refine wpD_ret ?_
        refine block_ret ?_
        refine then_ret ?_
        have er7 := yes_eq hm; subst er7
        refine retX.of (s' := ⟨[(4, .v (.int .i64 (16 : Int)))], [], []⟩) (WkS.perm (WkS.cons rfl (Wk.refl _) (WkS.nil)) (List.Perm.refl _) (List.Perm.refl _)) (retD_mk (hh := []) (.inl rfl) (resL_cons (resOne_tmp rfl) (resL_nil)) (List.nil_sublist _) (List.Sublist.refl _) ?_)
        exact ⟨rfl, rfl, rfl⟩
      · replace hm := yes_f hc6 hm
        refine wpD_skip ?_
        refine block_normal ?_
        refine then_normal ?_
        refine wpD_seq ?_
        refine wpD_region ?_
        refine p_pure htab rfl rfl rfl rfl ?_
        refine ops_nil ?_
        refine then_normal ?_
        refine wpD_ret ?_
        have er8 := yes_eq hm; subst er8
        refine retX.of (s' := ⟨[(4, .v (.int .i64 (0 : Int)))], [], []⟩) (WkS.perm (WkS.cons rfl (Wk.refl _) (WkS.nil)) (List.Perm.refl _) (List.Perm.refl _)) (retD_mk (hh := []) (.inl rfl) (resL_cons (resOne_tmp rfl) (resL_nil)) (List.nil_sublist _) (List.Sublist.refl _) ?_)
        exact ⟨rfl, rfl, rfl⟩
    · replace hm := yes_f hc5 hm
      refine wpD_seq ?_
      refine wpD_region ?_
      refine p_pure htab rfl rfl rfl rfl ?_
      refine p_pure htab rfl rfl rfl rfl ?_
      refine ops_nil ?_
      refine then_normal ?_
      refine wpD_cond rfl (fun hc9 => ?_) (fun hc9 => ?_)
      · replace hm := yes_t hc9 hm
        refine wpD_seq ?_
        refine wpD_region ?_
        refine p_pure htab rfl rfl rfl rfl ?_
        obtain ⟨x10, q10, hm⟩ := yes_bind hm
        refine p_call0 (parse_pick_ok a1 (ByteArray.mk #[61, 61]) (14 : Int) (ByteArray.mk #[33, 61]) (15 : Int) x10 q10) rfl rfl rfl rfl rfl (WkL.refl _) ?_
        rintro _ rfl
        refine p_pure htab rfl rfl rfl rfl ?_
        refine ops_nil ?_
        refine then_normal ?_
        refine wpD_ret ?_
        refine block_ret ?_
        refine then_ret ?_
        have er11 := yes_eq hm; subst er11
        refine retX.of (s' := ⟨[(4, .v (.int .i64 x10))], [], []⟩) (WkS.perm (WkS.cons rfl (Wk.refl _) (WkS.nil)) (List.Perm.refl _) (List.Perm.refl _)) (retD_mk (hh := []) (.inl rfl) (resL_cons (resOne_tmp rfl) (resL_nil)) (List.nil_sublist _) (List.Sublist.refl _) ?_)
        exact ⟨rfl, rfl, rfl⟩
      · replace hm := yes_f hc9 hm
        refine wpD_seq ?_
        refine wpD_region ?_
        refine p_pure htab rfl rfl rfl rfl ?_
        refine p_pure htab rfl rfl rfl rfl ?_
        refine ops_nil ?_
        refine then_normal ?_
        refine wpD_cond rfl (fun hc12 => ?_) (fun hc12 => ?_)
        · replace hm := yes_t hc12 hm
          refine wpD_seq ?_
          refine wpD_region ?_
          refine p_pure htab rfl rfl rfl rfl ?_
          obtain ⟨x13, q13, hm⟩ := yes_bind hm
          refine p_call0 (parse_pick_ok a1 (ByteArray.mk #[60]) (12 : Int) (ByteArray.mk #[60, 61]) (13 : Int) x13 q13) rfl rfl rfl rfl rfl (WkL.refl _) ?_
          rintro _ rfl
          refine p_pure htab rfl rfl rfl rfl ?_
          refine ops_nil ?_
          refine then_normal ?_
          refine wpD_ret ?_
          refine block_ret ?_
          refine then_ret ?_
          have er14 := yes_eq hm; subst er14
          refine retX.of (s' := ⟨[(4, .v (.int .i64 x13))], [], []⟩) (WkS.perm (WkS.cons rfl (Wk.refl _) (WkS.nil)) (List.Perm.refl _) (List.Perm.refl _)) (retD_mk (hh := []) (.inl rfl) (resL_cons (resOne_tmp rfl) (resL_nil)) (List.nil_sublist _) (List.Sublist.refl _) ?_)
          exact ⟨rfl, rfl, rfl⟩
        · replace hm := yes_f hc12 hm
          refine wpD_seq ?_
          refine wpD_region ?_
          refine p_pure htab rfl rfl rfl rfl ?_
          refine p_pure htab rfl rfl rfl rfl ?_
          refine ops_nil ?_
          refine then_normal ?_
          refine wpD_cond rfl (fun hc15 => ?_) (fun hc15 => ?_)
          · replace hm := yes_t hc15 hm
            refine wpD_seq ?_
            refine wpD_region ?_
            refine p_pure htab rfl rfl rfl rfl ?_
            obtain ⟨x16, q16, hm⟩ := yes_bind hm
            refine p_call0 (parse_pick_ok a1 (ByteArray.mk #[43]) (10 : Int) (ByteArray.mk #[45]) (11 : Int) x16 q16) rfl rfl rfl rfl rfl (WkL.refl _) ?_
            rintro _ rfl
            refine p_pure htab rfl rfl rfl rfl ?_
            refine ops_nil ?_
            refine then_normal ?_
            refine wpD_ret ?_
            refine block_ret ?_
            refine then_ret ?_
            have er17 := yes_eq hm; subst er17
            refine retX.of (s' := ⟨[(4, .v (.int .i64 x16))], [], []⟩) (WkS.perm (WkS.cons rfl (Wk.refl _) (WkS.nil)) (List.Perm.refl _) (List.Perm.refl _)) (retD_mk (hh := []) (.inl rfl) (resL_cons (resOne_tmp rfl) (resL_nil)) (List.nil_sublist _) (List.Sublist.refl _) ?_)
            exact ⟨rfl, rfl, rfl⟩
          · replace hm := yes_f hc15 hm
            refine wpD_seq ?_
            refine wpD_region ?_
            refine p_pure htab rfl rfl rfl rfl ?_
            refine p_pure htab rfl rfl rfl rfl ?_
            refine ops_nil ?_
            refine then_normal ?_
            refine wpD_cond rfl (fun hc18 => ?_) (fun hc18 => ?_)
            · replace hm := yes_t hc18 hm
              refine wpD_seq ?_
              refine wpD_seq ?_
              refine wpD_region ?_
              refine p_pure htab rfl rfl rfl rfl ?_
              refine p_pure htab rfl rfl rfl rfl ?_
              refine ops_nil ?_
              refine then_normal ?_
              refine wpD_cond rfl (fun hc20 => ?_) (fun hc20 => ?_)
              · replace hm := yes_t hc20 hm
                refine wpD_seq ?_
                refine wpD_region ?_
                refine p_pure htab rfl rfl rfl rfl ?_
                refine ops_nil ?_
                refine then_normal ?_
                refine wpD_ret ?_
                refine then_ret ?_
                refine block_ret ?_
                refine then_ret ?_
                have er21 := yes_eq hm; subst er21
                refine retX.of (s' := ⟨[(4, .v (.int .i64 (9 : Int)))], [], []⟩) (WkS.perm (WkS.cons rfl (Wk.refl _) (WkS.nil)) (List.Perm.refl _) (List.Perm.refl _)) (retD_mk (hh := []) (.inl rfl) (resL_cons (resOne_tmp rfl) (resL_nil)) (List.nil_sublist _) (List.Sublist.refl _) ?_)
                exact ⟨rfl, rfl, rfl⟩
              · replace hm := yes_f hc20 hm
                refine wpD_skip ?_
                refine then_normal ?_
                refine wpD_seq ?_
                refine wpD_region ?_
                refine p_pure htab rfl rfl rfl rfl ?_
                obtain ⟨x22, q22, hm⟩ := yes_bind hm
                refine p_call0 (parse_pick_ok a1 (ByteArray.mk #[42]) (7 : Int) (ByteArray.mk #[47]) (8 : Int) x22 q22) rfl rfl rfl rfl rfl (WkL.refl _) ?_
                rintro _ rfl
                refine p_pure htab rfl rfl rfl rfl ?_
                refine ops_nil ?_
                refine then_normal ?_
                refine wpD_ret ?_
                refine block_ret ?_
                refine then_ret ?_
                have er23 := yes_eq hm; subst er23
                refine retX.of (s' := ⟨[(4, .v (.int .i64 x22))], [], []⟩) (WkS.perm (WkS.cons rfl (Wk.refl _) (WkS.nil)) (List.Perm.refl _) (List.Perm.refl _)) (retD_mk (hh := []) (.inl rfl) (resL_cons (resOne_tmp rfl) (resL_nil)) (List.nil_sublist _) (List.Sublist.refl _) ?_)
                exact ⟨rfl, rfl, rfl⟩
            · replace hm := yes_f hc18 hm
              refine wpD_skip ?_
              refine block_normal ?_
              refine then_normal ?_
              refine wpD_seq ?_
              refine wpD_region ?_
              refine p_pure htab rfl rfl rfl rfl ?_
              refine ops_nil ?_
              refine then_normal ?_
              refine wpD_ret ?_
              have er24 := yes_eq hm; subst er24
              refine retX.of (s' := ⟨[(4, .v (.int .i64 (0 : Int)))], [], []⟩) (WkS.perm (WkS.cons rfl (Wk.refl _) (WkS.nil)) (List.Perm.refl _) (List.Perm.refl _)) (retD_mk (hh := []) (.inl rfl) (resL_cons (resOne_tmp rfl) (resL_nil)) (List.nil_sublist _) (List.Sublist.refl _) ?_)
              exact ⟨rfl, rfl, rfl⟩
noncomputable def parse_reader_row_b (g0 : (TParseReader) → (Int) → Option (TApiExpr × TParseReader)) (g1 : (TParseReader) → Option (TApiExpr × TParseReader)) (g2 : (TParseReader) → (TApiExpr) → (Int) → (Int) → Option (TApiExpr × TParseReader)) (g3 : (TParseReader) → (ByteArray) → Option (TApiExpr × TParseReader)) (g4 : (TParseReader) → (TApiToken) → (Int) → Option (TApiExpr × TParseReader)) (m0 : TParseReader) (a1 : Int) : Option (TApiExpr × TParseReader) :=
  (bif (a1 == (6 : Int)) then ((g1 m0).bind fun x5 => some (x5.1, x5.2)) else ((g0 m0 (IntKind.i64.wrap (a1 + (1 : Int)))).bind fun x7 => (Option.bind (α := List TApiToken × Int × Int × Int × Int × ByteArray × List TApiExpr × Int) (loopM (fun (s51 : List TApiToken × Int × Int × Int × Int × ByteArray × List TApiExpr × Int) => (bif (s51.2.2.1 == (0 : Int)) then ((parse_reader_look (⟨s51.1, s51.2.1, s51.2.2.1⟩ : TParseReader)).bind fun x79 => (Option.bind (α := Int) (bif (x79.gKind == (3 : Int)) then ((parse_between a1 x79.gText).bind fun x85 => some x85) else some (0 : Int)) fun y83 => (bif (y83 == (0 : Int)) then some (.done (s51.1, s51.2.1, s51.2.2.1, s51.2.2.2.1, s51.2.2.2.2.1, s51.2.2.2.2.2.1, s51.2.2.2.2.2.2.1, s51.2.2.2.2.2.2.2)) else ((g0 (⟨s51.1, (IntKind.i64.wrap (s51.2.1 + (1 : Int))), s51.2.2.1⟩ : TParseReader) (IntKind.i64.wrap (a1 + (1 : Int)))).bind fun x87 => ((parse_reader_sound x87.2 (⟨y83, (0 : Int), ByteArray.empty, ([(⟨s51.2.2.2.1, s51.2.2.2.2.1, s51.2.2.2.2.2.1, s51.2.2.2.2.2.2.1, s51.2.2.2.2.2.2.2⟩ : TApiExpr), x87.1] : List TApiExpr), x79.gAt⟩ : TApiExpr) s51.2.1).bind fun x89 => some (.next (x89.2.gL, x89.2.gAt, x89.2.gE, x89.1.gOp, x89.1.gN, x89.1.gName, x89.1.gKids, x89.1.gAt))))))) else some (.done (s51.1, s51.2.1, s51.2.2.1, s51.2.2.2.1, s51.2.2.2.2.1, s51.2.2.2.2.2.1, s51.2.2.2.2.2.2.1, s51.2.2.2.2.2.2.2)))) (x7.2.gL, x7.2.gAt, x7.2.gE, x7.1.gOp, x7.1.gN, x7.1.gName, x7.1.gKids, x7.1.gAt)) fun y50 => some ((⟨y50.2.2.2.1, y50.2.2.2.2.1, y50.2.2.2.2.2.1, y50.2.2.2.2.2.2.1, y50.2.2.2.2.2.2.2⟩ : TApiExpr), (⟨y50.1, y50.2.1, y50.2.2.1⟩ : TParseReader)))))
set_option maxRecDepth 100000 in
set_option maxHeartbeats 2000000 in
theorem parse_reader_row_b_ok (g0 : (TParseReader) → (Int) → Option (TApiExpr × TParseReader)) (g1 : (TParseReader) → Option (TApiExpr × TParseReader)) (g2 : (TParseReader) → (TApiExpr) → (Int) → (Int) → Option (TApiExpr × TParseReader)) (g3 : (TParseReader) → (ByteArray) → Option (TApiExpr × TParseReader)) (g4 : (TParseReader) → (TApiToken) → (Int) → Option (TApiExpr × TParseReader)) (hg0 : ∀ (m0 : TParseReader) (a1 : Int) (o0 : Nat) (T0 : TypeId) (c0_0 : Cap) (r : TApiExpr × TParseReader) (h0 : g0 m0 a1 = some r), CallsD Try.prog 12 [.ptr o0 0, .v (.int .i64 a1)] [(o0, Blk.cells [.lst 4 (m0.gL.map eTApiToken) c0_0, .v (.int .i64 m0.gAt), .v (.int .i64 m0.gE)] T0)] [] (fun d h k => d = eTApiExpr r.1 ∧ h = [(o0, Blk.cells [.lst 4 (r.2.gL.map eTApiToken) .no, .v (.int .i64 r.2.gAt), .v (.int .i64 r.2.gE)] T0)] ∧ k = [])) (hg1 : ∀ (m0 : TParseReader) (o0 : Nat) (T0 : TypeId) (c0_0 : Cap) (r : TApiExpr × TParseReader) (h0 : g1 m0 = some r), CallsD Try.prog 18 [.ptr o0 0] [(o0, Blk.cells [.lst 4 (m0.gL.map eTApiToken) c0_0, .v (.int .i64 m0.gAt), .v (.int .i64 m0.gE)] T0)] [] (fun d h k => d = eTApiExpr r.1 ∧ h = [(o0, Blk.cells [.lst 4 (r.2.gL.map eTApiToken) .no, .v (.int .i64 r.2.gAt), .v (.int .i64 r.2.gE)] T0)] ∧ k = [])) (hg2 : ∀ (m0 : TParseReader) (a1 : TApiExpr) (a2 : Int) (a3 : Int) (o0 : Nat) (T0 : TypeId) (c0_0 : Cap) (r : TApiExpr × TParseReader) (h0 : g2 m0 a1 a2 a3 = some r), CallsD Try.prog 26 [.ptr o0 0, eTApiExpr a1, .v (.int .i64 a2), .v (.int .i64 a3)] [(o0, Blk.cells [.lst 4 (m0.gL.map eTApiToken) c0_0, .v (.int .i64 m0.gAt), .v (.int .i64 m0.gE)] T0)] [] (fun d h k => d = eTApiExpr r.1 ∧ h = [(o0, Blk.cells [.lst 4 (r.2.gL.map eTApiToken) .no, .v (.int .i64 r.2.gAt), .v (.int .i64 r.2.gE)] T0)] ∧ k = [])) (hg3 : ∀ (m0 : TParseReader) (a1 : ByteArray) (o0 : Nat) (T0 : TypeId) (c0_0 : Cap) (r : TApiExpr × TParseReader) (h0 : g3 m0 a1 = some r), CallsD Try.prog 34 [.ptr o0 0, .v (.string a1)] [(o0, Blk.cells [.lst 4 (m0.gL.map eTApiToken) c0_0, .v (.int .i64 m0.gAt), .v (.int .i64 m0.gE)] T0)] [] (fun d h k => d = eTApiExpr r.1 ∧ h = [(o0, Blk.cells [.lst 4 (r.2.gL.map eTApiToken) .no, .v (.int .i64 r.2.gAt), .v (.int .i64 r.2.gE)] T0)] ∧ k = [])) (hg4 : ∀ (m0 : TParseReader) (a1 : TApiToken) (a2 : Int) (o0 : Nat) (T0 : TypeId) (c0_0 : Cap) (r : TApiExpr × TParseReader) (h0 : g4 m0 a1 a2 = some r), CallsD Try.prog 27 [.ptr o0 0, eTApiToken a1, .v (.int .i64 a2)] [(o0, Blk.cells [.lst 4 (m0.gL.map eTApiToken) c0_0, .v (.int .i64 m0.gAt), .v (.int .i64 m0.gE)] T0)] [] (fun d h k => d = eTApiExpr r.1 ∧ h = [(o0, Blk.cells [.lst 4 (r.2.gL.map eTApiToken) .no, .v (.int .i64 r.2.gAt), .v (.int .i64 r.2.gE)] T0)] ∧ k = [])) (m0 : TParseReader) (a1 : Int) (o0 : Nat) (T0 : TypeId) (c0_0 : Cap) (r : TApiExpr × TParseReader) (h0 : parse_reader_row_b g0 g1 g2 g3 g4 m0 a1 = some r) : CallsD Try.prog 12 [.ptr o0 0, .v (.int .i64 a1)] [(o0, Blk.cells [.lst 4 (m0.gL.map eTApiToken) c0_0, .v (.int .i64 m0.gAt), .v (.int .i64 m0.gE)] T0)] [] (fun d h k => d = eTApiExpr r.1 ∧ h = [(o0, Blk.cells [.lst 4 (r.2.gL.map eTApiToken) .no, .v (.int .i64 r.2.gAt), .v (.int .i64 r.2.gE)] T0)] ∧ k = []) := by
  have hm := yes_of h0
  unfold parse_reader_row_b at hm
  clear h0
  refine enterX htab Try.func12 rfl rfl rfl rfl rfl (fun C => ?_)
  refine wpD_seq ?_
  refine wpD_region ?_
  refine p_alloc htab rfl rfl rfl rfl rfl rfl rfl (fun b1 => ?_)
  refine ops_nil ?_
  refine then_normal ?_
  refine wpD_seq ?_
  refine wpD_seq ?_
  refine wpD_region ?_
  refine p_pure htab rfl rfl rfl rfl ?_
  refine p_pure htab rfl rfl rfl rfl ?_
  refine ops_nil ?_
  refine then_normal ?_
  refine wpD_cond rfl (fun hc4 => ?_) (fun hc4 => ?_)
  · replace hm := yes_t hc4 hm
    refine wpD_seq ?_
    refine wpD_region ?_
    refine p_pure htab rfl rfl rfl rfl ?_
    obtain ⟨x5, q5, hm⟩ := yes_bind hm
    refine p_callG (hg1 m0 o0 T0 c0_0 x5 q5) rfl rfl rfl rfl rfl (WkL.refl _) (List.Perm.refl _) (List.Perm.refl _) ?_
    rintro _ _ _ ⟨rfl, rfl, rfl⟩
    refine p_eq (i := 13) rfl (Wk.of_eq (eTApiExpr_eq x5.1)) ?_
    refine p_store (ds' := [.v (.int .i64 x5.1.gOp), .v (.int .i64 x5.1.gN), .v (.string x5.1.gName), .lst 5 (x5.1.gKids.map eTApiExpr) .no, .v (.int .i64 x5.1.gAt)]) (h' := [(o0, Blk.cells [.lst 4 (x5.2.gL.map eTApiToken) .no, .v (.int .i64 x5.2.gAt), .v (.int .i64 x5.2.gE)] T0), (b1, Blk.cells [.v (.int .i64 x5.1.gOp), .v (.int .i64 x5.1.gN), .v (.string x5.1.gName), .lst 5 (x5.1.gKids.map eTApiExpr) .no, .v (.int .i64 x5.1.gAt)] 26)]) 1 htab rfl rfl rfl rfl rfl rfl rfl rfl rfl rfl rfl rfl ?_
    refine ops_nil ?_
    refine then_normal ?_
    refine wpD_ret ?_
    refine then_ret ?_
    have er6 := yes_eq hm; subst er6
    refine retX.of (s' := ⟨[(4, .ptr b1 0)], [(o0, Blk.cells [.lst 4 (x5.2.gL.map eTApiToken) .no, .v (.int .i64 x5.2.gAt), .v (.int .i64 x5.2.gE)] T0), (b1, Blk.cells [.v (.int .i64 x5.1.gOp), .v (.int .i64 x5.1.gN), .v (.string x5.1.gName), .lst 5 (x5.1.gKids.map eTApiExpr) .no, .v (.int .i64 x5.1.gAt)] 26)], []⟩) (WkS.perm (WkS.cons rfl (Wk.refl _) (WkS.nil)) (List.Perm.refl _) (List.Perm.refl _)) (retD_mk (hh := [(o0, Blk.cells [.lst 4 (x5.2.gL.map eTApiToken) .no, .v (.int .i64 x5.2.gAt), .v (.int .i64 x5.2.gE)] T0)]) (.inl rfl) (resL_cons (resOne_cell 1 rfl rfl rfl rfl) (resL_nil)) (List.sublist_append_left [_] _) (List.Sublist.refl _) ?_)
    exact ⟨by first | rfl | (simp only [wrapD, eTApiExpr_eq]; done) | (simp only [wrapD, eTApiExpr_eq]; rfl), rfl, rfl⟩
  · replace hm := yes_f hc4 hm
    refine wpD_skip ?_
    refine then_normal ?_
    refine wpD_seq ?_
    refine wpD_region ?_
    refine p_pure htab rfl rfl rfl rfl ?_
    refine p_pure htab rfl rfl rfl rfl ?_
    refine p_pure htab rfl rfl rfl rfl ?_
    obtain ⟨x7, q7, hm⟩ := yes_bind hm
    refine p_callG (hg0 m0 (IntKind.i64.wrap (a1 + (1 : Int))) o0 T0 c0_0 x7 q7) rfl rfl rfl rfl rfl (WkL.refl _) (List.Perm.refl _) (List.Perm.refl _) ?_
    rintro _ _ _ ⟨rfl, rfl, rfl⟩
    refine p_eq (i := 17) rfl (Wk.of_eq (eTApiExpr_eq x7.1)) ?_
    refine p_alloc htab rfl rfl rfl rfl rfl rfl rfl (fun b8 => ?_)
    refine p_store (ds' := [.v (.int .i64 x7.1.gOp), .v (.int .i64 x7.1.gN), .v (.string x7.1.gName), .lst 5 (x7.1.gKids.map eTApiExpr) .no, .v (.int .i64 x7.1.gAt)]) (h' := [(o0, Blk.cells [.lst 4 (x7.2.gL.map eTApiToken) .no, .v (.int .i64 x7.2.gAt), .v (.int .i64 x7.2.gE)] T0), (b1, Blk.cells [.v (.int .i64 (0 : Int)), .v (.int .i64 (0 : Int)), .v (.string ByteArray.empty), .lst 1 [] .full, .v (.int .i64 (0 : Int))] 26), (b8, Blk.cells [.v (.int .i64 x7.1.gOp), .v (.int .i64 x7.1.gN), .v (.string x7.1.gName), .lst 5 (x7.1.gKids.map eTApiExpr) .no, .v (.int .i64 x7.1.gAt)] 26)]) 2 htab rfl rfl rfl rfl rfl rfl rfl rfl rfl rfl rfl rfl ?_
    refine ops_nil ?_
    refine then_normal ?_
    refine wpD_seq ?_
    obtain ⟨y50, q50, ho50⟩ := yes_bind hm
    refine wpD_mid (Y := Unit) (fun z50 => (⟨[(4, .ptr b1 0), (5, .ptr b8 0)], [(o0, Blk.cells [.lst 4 (y50.1.map eTApiToken) .no, .v (.int .i64 y50.2.1), .v (.int .i64 y50.2.2.1)] T0), (b1, Blk.cells [.v (.int .i64 (0 : Int)), .v (.int .i64 (0 : Int)), .v (.string ByteArray.empty), .lst 1 [] .full, .v (.int .i64 (0 : Int))] 26), (b8, Blk.cells [.v (.int .i64 y50.2.2.2.1), .v (.int .i64 y50.2.2.2.2.1), .v (.string y50.2.2.2.2.2.1), .lst 5 (y50.2.2.2.2.2.2.1.map eTApiExpr) .no, .v (.int .i64 y50.2.2.2.2.2.2.2)] 26)], []⟩ : S)) ?_ ?_
    · clear hm; have hm := yes_of q50
      refine wpD_block ?_
      obtain ⟨u51, hl51, hq51⟩ := yes_m hm
      refine loop_M (Y := Unit) hl51 (fun s51 z51 => (⟨[(0, .ptr o0 0), (1, .v (.int .i64 a1)), (4, .ptr b1 0), (5, .ptr b8 0)], [(o0, Blk.cells [.lst 4 (s51.1.map eTApiToken) .no, .v (.int .i64 s51.2.1), .v (.int .i64 s51.2.2.1)] T0), (b1, Blk.cells [.v (.int .i64 (0 : Int)), .v (.int .i64 (0 : Int)), .v (.string ByteArray.empty), .lst 1 [] .full, .v (.int .i64 (0 : Int))] 26), (b8, Blk.cells [.v (.int .i64 s51.2.2.2.1), .v (.int .i64 s51.2.2.2.2.1), .v (.string s51.2.2.2.2.2.1), .lst 5 (s51.2.2.2.2.2.2.1.map eTApiExpr) .no, .v (.int .i64 s51.2.2.2.2.2.2.2)] 26)], []⟩ : S)) ?_ ?_
      · skip
        exact WkX.of () (WkS.perm (WkS.cons rfl (Wk.refl _) (WkS.cons rfl (Wk.refl _) (WkS.cons rfl (Wk.refl _) (WkS.cons rfl (Wk.refl _) (WkS.nil))))) (List.Perm.refl _) (List.Perm.refl _))
      · intro G51 s51 z51 hm
        refine wpD_seq ?_
        refine wpD_seq ?_
        refine wpD_region ?_
        refine p_pure htab rfl rfl rfl rfl ?_
        refine p_pure htab rfl rfl rfl rfl ?_
        refine p_pure htab rfl rfl rfl rfl ?_
        refine p_load 0 htab rfl rfl rfl rfl rfl rfl rfl rfl ?_
        refine p_pure htab rfl rfl rfl rfl ?_
        refine ops_nil ?_
        refine then_normal ?_
        refine wpD_cond rfl (fun hc78 => ?_) (fun hc78 => ?_)
        · replace hm := yes_t hc78 hm
          refine wpD_skip ?_
          refine then_normal ?_
          refine wpD_block ?_
          refine wpD_seq ?_
          obtain ⟨x79, q79, hm⟩ := yes_bind hm
          refine wpD_fills 8 [(6, [.v (.int .i64 (0 : Int)), .v (.string ByteArray.empty), .v (.int .i64 (0 : Int)), .v (.int .i64 (0 : Int))], 38)] [(6, 7, [.v (.int .i64 x79.gKind), .v (.string x79.gText), .v (.int .i64 x79.gN), .v (.int .i64 x79.gAt)])] [[],[0],[],[2],[2,3],[2,3,4],[],[0,1,6]] [0,1,2,3,4,6,7] [[],[0],[],[2],[2,3],[2,3,4],[],[0,1,6],[0,1,2,3,4,5,6,7]] (by kernel_rfl) (by kernel_rfl) (by kernel_rfl) (by rfl) (by rfl) (by kernel_rfl) ?_
          apply Exists.intro
          apply Exists.intro
          apply Exists.intro
          apply Exists.intro
          apply Exists.intro
          refine ⟨.any, ?_⟩
          refine ⟨.any, ?_⟩
          intro bs
          refine zf_e rfl rfl (ex_pure htab rfl) rfl rfl rfl rfl rfl rfl rfl ?_
          refine zf_callB 0 rfl rfl (parse_reader_look_ok (⟨s51.1, s51.2.1, s51.2.2.1⟩ : TParseReader) o0 T0 .no x79 q79) rfl rfl (WkL.refl _) rfl rfl rfl rfl rfl rfl rfl rfl ?_
          refine zf_e rfl rfl (ex_pure htab rfl) rfl rfl rfl rfl rfl rfl rfl ?_
          refine zf_e rfl rfl (ex_pure htab rfl) rfl rfl rfl rfl rfl rfl rfl ?_
          refine zf_e rfl rfl (ex_pure htab rfl) rfl rfl rfl rfl rfl rfl rfl ?_
          refine zf_qM rfl rfl (xm_load 0 htab rfl rfl rfl rfl rfl) rfl rfl rfl rfl rfl rfl ?_
          refine zf_alloc rfl htab rfl rfl rfl rfl rfl rfl rfl rfl rfl rfl (by simp [dOf, eI64]) (by simp) ?_
          refine zf_fill (e := 6) (zs := [.v (.int .i64 (0 : Int)), .v (.string ByteArray.empty), .v (.int .i64 (0 : Int)), .v (.int .i64 (0 : Int))]) (T' := 38) (ds' := [.v (.int .i64 x79.gKind), .v (.string x79.gText), .v (.int .i64 x79.gN), .v (.int .i64 x79.gAt)]) htab rfl rfl rfl rfl rfl rfl rfl rfl rfl (by simp) (by simp) rfl rfl rfl rfl rfl rfl rfl rfl rfl ?_
          refine zf_nil (h' := [(o0, Blk.cells [.lst 4 (s51.1.map eTApiToken) .no, .v (.int .i64 s51.2.1), .v (.int .i64 s51.2.2.1)] T0), (b1, Blk.cells [.v (.int .i64 (0 : Int)), .v (.int .i64 (0 : Int)), .v (.string ByteArray.empty), .lst 1 [] .full, .v (.int .i64 (0 : Int))] 26), (b8, Blk.cells [.v (.int .i64 s51.2.2.2.1), .v (.int .i64 s51.2.2.2.2.1), .v (.string s51.2.2.2.2.2.1), .lst 5 (s51.2.2.2.2.2.2.1.map eTApiExpr) .no, .v (.int .i64 s51.2.2.2.2.2.2.2)] 26), (bs 6, Blk.cells [.v (.int .i64 x79.gKind), .v (.string x79.gText), .v (.int .i64 x79.gN), .v (.int .i64 x79.gAt)] 38)]) rfl rfl rfl (fun e he => by simp [isAl] at he; subst he; rfl) ?_
          obtain ⟨b80, hb80⟩ : ∃ b, bs 6 = b := ⟨_, rfl⟩
          simp only [hb80]
          clear hb80
          refine p_pure htab rfl rfl rfl rfl ?_
          refine ops_nil ?_
          refine then_normal ?_
          refine wpD_seq ?_
          refine wpD_region ?_
          refine p_pure htab rfl rfl rfl rfl ?_
          refine ops_nil ?_
          refine then_normal ?_
          refine wpD_seq ?_
          refine wpD_seq ?_
          refine wpD_region ?_
          refine p_pure htab rfl rfl rfl rfl ?_
          refine p_load 3 htab rfl rfl rfl rfl rfl rfl rfl rfl ?_
          refine p_pure htab rfl rfl rfl rfl ?_
          refine ops_nil ?_
          refine then_normal ?_
          obtain ⟨y83, q83, ho83⟩ := yes_bind hm
          refine wpD_mid (Y := Unit) (fun z83 => (⟨[(0, .ptr o0 0), (1, .v (.int .i64 a1)), (4, .ptr b1 0), (5, .ptr b8 0), (6, .ptr b80 0), (7, .v (.int .i64 s51.2.1)), (8, .v (.int .i64 y83))], [(o0, Blk.cells [.lst 4 (s51.1.map eTApiToken) .no, .v (.int .i64 s51.2.1), .v (.int .i64 s51.2.2.1)] T0), (b1, Blk.cells [.v (.int .i64 (0 : Int)), .v (.int .i64 (0 : Int)), .v (.string ByteArray.empty), .lst 1 [] .full, .v (.int .i64 (0 : Int))] 26), (b8, Blk.cells [.v (.int .i64 s51.2.2.2.1), .v (.int .i64 s51.2.2.2.2.1), .v (.string s51.2.2.2.2.2.1), .lst 5 (s51.2.2.2.2.2.2.1.map eTApiExpr) .no, .v (.int .i64 s51.2.2.2.2.2.2.2)] 26), (b80, Blk.cells [.v (.int .i64 x79.gKind), .v (.string x79.gText), .v (.int .i64 x79.gN), .v (.int .i64 x79.gAt)] 38)], []⟩ : S)) ?_ ?_
          · clear hm; have hm := yes_of q83
            refine wpD_cond rfl (fun hc84 => ?_) (fun hc84 => ?_)
            · replace hm := yes_t hc84 hm
              refine wpD_region ?_
              refine p_pure htab rfl rfl rfl rfl ?_
              refine p_pure htab rfl rfl rfl rfl ?_
              refine p_load 3 htab rfl rfl rfl rfl rfl rfl rfl rfl ?_
              obtain ⟨x85, q85, hm⟩ := yes_bind hm
              refine p_call0 (parse_between_ok a1 x79.gText x85 q85) rfl rfl rfl rfl rfl (WkL.refl _) ?_
              rintro _ rfl
              refine p_pure htab rfl rfl rfl rfl ?_
              refine ops_nil ?_
              have e83 := yes_eq hm; subst e83
              refine ⟨rfl, ?_⟩
              exact WkX.of () (WkS.perm (WkS.cons rfl (Wk.refl _) (WkS.cons rfl (Wk.refl _) (WkS.cons rfl (Wk.refl _) (WkS.cons rfl (Wk.refl _) (WkS.cons rfl (Wk.refl _) (WkS.cons rfl (Wk.refl _) (WkS.cons rfl (Wk.refl _) (WkS.nil)))))))) (List.Perm.refl _) (List.Perm.refl _))
            · replace hm := yes_f hc84 hm
              refine wpD_skip ?_
              have e83 := yes_eq hm; subst e83
              refine ⟨rfl, ?_⟩
              exact WkX.of () (WkS.perm (WkS.cons rfl (Wk.refl _) (WkS.cons rfl (Wk.refl _) (WkS.cons rfl (Wk.refl _) (WkS.cons rfl (Wk.refl _) (WkS.cons rfl (Wk.refl _) (WkS.cons rfl (Wk.refl _) (WkS.cons rfl (Wk.refl _) (WkS.nil)))))))) (List.Perm.refl _) (List.Perm.refl _))
          · intro s83 hw83; clear hm; have hm := ho83; clear q83 ho83
            refine then_normal ?_
            refine wpD_wkX hw83 (fun z83 => ?_)
            refine wpD_seq ?_
            refine wpD_seq ?_
            refine wpD_region ?_
            refine p_pure htab rfl rfl rfl rfl ?_
            refine p_pure htab rfl rfl rfl rfl ?_
            refine ops_nil ?_
            refine then_normal ?_
            refine wpD_cond rfl (fun hc86 => ?_) (fun hc86 => ?_)
            · replace hm := yes_t hc86 hm
              refine wpD_exit ?_
              refine then_exit ?_
              refine block_miss rfl ?_
              have e51 := lp_done hm; subst e51; clear hm; have hm := hq51
              refine then_exit ?_
              refine block_hit ?_
              have e50 := yes_eq hm; subst e50
              refine ⟨rfl, ?_⟩
              exact WkX.of () (WkS.perm (WkS.cons rfl (Wk.refl _) (WkS.cons rfl (Wk.refl _) (WkS.nil))) (List.Perm.refl _) (List.Perm.refl _))
            · replace hm := yes_f hc86 hm
              refine wpD_skip ?_
              refine then_normal ?_
              refine wpD_seq ?_
              refine wpD_region ?_
              refine p_pure htab rfl rfl rfl rfl ?_
              refine p_pure htab rfl rfl rfl rfl ?_
              refine p_pure htab rfl rfl rfl rfl ?_
              refine p_load 0 htab rfl rfl rfl rfl rfl rfl rfl rfl ?_
              refine p_pure htab rfl rfl rfl rfl ?_
              refine p_pure htab rfl rfl rfl rfl ?_
              refine p_pure htab rfl rfl rfl rfl ?_
              refine p_store (ds' := [.lst 4 (s51.1.map eTApiToken) .no, .v (.int .i64 (IntKind.i64.wrap (s51.2.1 + (1 : Int)))), .v (.int .i64 s51.2.2.1)]) (h' := [(o0, Blk.cells [.lst 4 (s51.1.map eTApiToken) .no, .v (.int .i64 (IntKind.i64.wrap (s51.2.1 + (1 : Int)))), .v (.int .i64 s51.2.2.1)] T0), (b1, Blk.cells [.v (.int .i64 (0 : Int)), .v (.int .i64 (0 : Int)), .v (.string ByteArray.empty), .lst 1 [] .full, .v (.int .i64 (0 : Int))] 26), (b8, Blk.cells [.v (.int .i64 s51.2.2.2.1), .v (.int .i64 s51.2.2.2.2.1), .v (.string s51.2.2.2.2.2.1), .lst 5 (s51.2.2.2.2.2.2.1.map eTApiExpr) .no, .v (.int .i64 s51.2.2.2.2.2.2.2)] 26), (b80, Blk.cells [.v (.int .i64 x79.gKind), .v (.string x79.gText), .v (.int .i64 x79.gN), .v (.int .i64 x79.gAt)] 38)]) 0 htab rfl rfl rfl rfl rfl rfl rfl rfl rfl rfl rfl rfl ?_
              refine ops_nil ?_
              refine then_normal ?_
              refine wpD_seq ?_
              refine wpD_region ?_
              refine p_pure htab rfl rfl rfl rfl ?_
              refine p_pure htab rfl rfl rfl rfl ?_
              refine p_pure htab rfl rfl rfl rfl ?_
              obtain ⟨x87, q87, hm⟩ := yes_bind hm
              refine p_callG (hg0 (⟨s51.1, (IntKind.i64.wrap (s51.2.1 + (1 : Int))), s51.2.2.1⟩ : TParseReader) (IntKind.i64.wrap (a1 + (1 : Int))) o0 T0 .no x87 q87) rfl rfl rfl rfl rfl (WkL.refl _) (List.Perm.refl _) (List.Perm.refl _) ?_
              rintro _ _ _ ⟨rfl, rfl, rfl⟩
              refine p_eq (i := 48) rfl (Wk.of_eq (eTApiExpr_eq x87.1)) ?_
              refine p_alloc htab rfl rfl rfl rfl rfl rfl rfl (fun b88 => ?_)
              refine p_store (ds' := [.v (.int .i64 x87.1.gOp), .v (.int .i64 x87.1.gN), .v (.string x87.1.gName), .lst 5 (x87.1.gKids.map eTApiExpr) .no, .v (.int .i64 x87.1.gAt)]) (h' := [(o0, Blk.cells [.lst 4 (x87.2.gL.map eTApiToken) .no, .v (.int .i64 x87.2.gAt), .v (.int .i64 x87.2.gE)] T0), (b1, Blk.cells [.v (.int .i64 (0 : Int)), .v (.int .i64 (0 : Int)), .v (.string ByteArray.empty), .lst 1 [] .full, .v (.int .i64 (0 : Int))] 26), (b8, Blk.cells [.v (.int .i64 s51.2.2.2.1), .v (.int .i64 s51.2.2.2.2.1), .v (.string s51.2.2.2.2.2.1), .lst 5 (s51.2.2.2.2.2.2.1.map eTApiExpr) .no, .v (.int .i64 s51.2.2.2.2.2.2.2)] 26), (b80, Blk.cells [.v (.int .i64 x79.gKind), .v (.string x79.gText), .v (.int .i64 x79.gN), .v (.int .i64 x79.gAt)] 38), (b88, Blk.cells [.v (.int .i64 x87.1.gOp), .v (.int .i64 x87.1.gN), .v (.string x87.1.gName), .lst 5 (x87.1.gKids.map eTApiExpr) .no, .v (.int .i64 x87.1.gAt)] 26)]) 4 htab rfl rfl rfl rfl rfl rfl rfl rfl rfl rfl rfl rfl ?_
              refine ops_nil ?_
              refine then_normal ?_
              refine wpD_region ?_
              refine p_pure htab rfl rfl rfl rfl ?_
              refine p_pure htab rfl rfl rfl rfl ?_
              refine p_load (d := .agg [.v (.int .i64 s51.2.2.2.1), .v (.int .i64 s51.2.2.2.2.1), .v (.string s51.2.2.2.2.2.1), .lst 5 (s51.2.2.2.2.2.2.1.map eTApiExpr) .no, .v (.int .i64 s51.2.2.2.2.2.2.2)]) 2 htab rfl rfl rfl rfl rfl rfl rfl rfl ?_
              refine p_load (d := .agg [.v (.int .i64 x87.1.gOp), .v (.int .i64 x87.1.gN), .v (.string x87.1.gName), .lst 5 (x87.1.gKids.map eTApiExpr) .no, .v (.int .i64 x87.1.gAt)]) 4 htab rfl rfl rfl rfl rfl rfl rfl rfl ?_
              refine p_lit htab rfl rfl rfl rfl rfl rfl rfl rfl rfl rfl rfl rfl rfl rfl ?_
              refine p_eq (i := 53) (d' := .lst 5 (([(⟨s51.2.2.2.1, s51.2.2.2.2.1, s51.2.2.2.2.2.1, s51.2.2.2.2.2.2.1, s51.2.2.2.2.2.2.2⟩ : TApiExpr), x87.1] : List TApiExpr).map eTApiExpr) .full) rfl (Wk.lst0 (.cons (WkC.trans (WkC.agg (WkR.refl _)) (WkC.of_eq (eTApiExpr_eq (⟨s51.2.2.2.1, s51.2.2.2.2.1, s51.2.2.2.2.2.1, s51.2.2.2.2.2.2.1, s51.2.2.2.2.2.2.2⟩ : TApiExpr)).symm)) (.cons (WkC.trans (WkC.agg (WkR.refl _)) (WkC.of_eq (eTApiExpr_eq x87.1).symm)) (.nil)))) ?_
              refine p_pure htab rfl rfl rfl rfl ?_
              refine p_load 3 htab rfl rfl rfl rfl rfl rfl rfl rfl ?_
              refine p_build (r := [.v (.int .i64 y83), .v (.int .i64 (0 : Int)), .v (.string ByteArray.empty), .lst 5 (([(⟨s51.2.2.2.1, s51.2.2.2.2.1, s51.2.2.2.2.2.1, s51.2.2.2.2.2.2.1, s51.2.2.2.2.2.2.2⟩ : TApiExpr), x87.1] : List TApiExpr).map eTApiExpr) .full, .v (.int .i64 x79.gAt)]) htab rfl rfl rfl rfl rfl rfl rfl rfl rfl ?_
              refine p_pure htab rfl rfl rfl rfl ?_
              obtain ⟨x89, q89, hm⟩ := yes_bind hm
              refine p_callG (parse_reader_sound_ok x87.2 (⟨y83, (0 : Int), ByteArray.empty, ([(⟨s51.2.2.2.1, s51.2.2.2.2.1, s51.2.2.2.2.2.1, s51.2.2.2.2.2.2.1, s51.2.2.2.2.2.2.2⟩ : TApiExpr), x87.1] : List TApiExpr), x79.gAt⟩ : TApiExpr) s51.2.1 o0 T0 .no x89 q89) rfl rfl rfl rfl rfl (WkL.cons (Wk.refl _) (WkL.cons (Wk.trans (Wk.agg (WkR.cons (WkC.refl _) rfl (WkR.cons (WkC.refl _) rfl (WkR.cons (WkC.refl _) rfl (WkR.cons (WkC.no) rfl (WkR.cons (WkC.refl _) rfl (WkR.nil))))))) (Wk.of_eq (eTApiExpr_eq (⟨y83, (0 : Int), ByteArray.empty, ([(⟨s51.2.2.2.1, s51.2.2.2.2.1, s51.2.2.2.2.2.1, s51.2.2.2.2.2.2.1, s51.2.2.2.2.2.2.2⟩ : TApiExpr), x87.1] : List TApiExpr), x79.gAt⟩ : TApiExpr)).symm)) (WkL.cons (Wk.refl _) (WkL.refl _)))) (List.Perm.refl _) (List.Perm.refl _) ?_
              rintro _ _ _ ⟨rfl, rfl, rfl⟩
              refine p_eq (i := 58) rfl (Wk.of_eq (eTApiExpr_eq x89.1)) ?_
              refine p_store (ds' := [.v (.int .i64 x89.1.gOp), .v (.int .i64 x89.1.gN), .v (.string x89.1.gName), .lst 5 (x89.1.gKids.map eTApiExpr) .no, .v (.int .i64 x89.1.gAt)]) (h' := [(o0, Blk.cells [.lst 4 (x89.2.gL.map eTApiToken) .no, .v (.int .i64 x89.2.gAt), .v (.int .i64 x89.2.gE)] T0), (b1, Blk.cells [.v (.int .i64 (0 : Int)), .v (.int .i64 (0 : Int)), .v (.string ByteArray.empty), .lst 1 [] .full, .v (.int .i64 (0 : Int))] 26), (b8, Blk.cells [.v (.int .i64 x89.1.gOp), .v (.int .i64 x89.1.gN), .v (.string x89.1.gName), .lst 5 (x89.1.gKids.map eTApiExpr) .no, .v (.int .i64 x89.1.gAt)] 26), (b80, Blk.cells [.v (.int .i64 x79.gKind), .v (.string x79.gText), .v (.int .i64 x79.gN), .v (.int .i64 x79.gAt)] 38), (b88, Blk.cells [.v (.int .i64 x87.1.gOp), .v (.int .i64 x87.1.gN), .v (.string x87.1.gName), .lst 5 (x87.1.gKids.map eTApiExpr) .no, .v (.int .i64 x87.1.gAt)] 26)]) 2 htab rfl rfl rfl rfl rfl rfl rfl rfl rfl rfl rfl rfl ?_
              refine ops_nil ?_
              refine block_normal ?_
              refine then_normal ⟨_, lp_next hm, ?_⟩
              exact WkX.of () (WkS.perm (WkS.cons rfl (Wk.refl _) (WkS.cons rfl (Wk.refl _) (WkS.cons rfl (Wk.refl _) (WkS.cons rfl (Wk.refl _) (WkS.nil))))) (List.Perm.refl _) (List.Perm.refl _))
        · replace hm := yes_f hc78 hm
          refine wpD_exit ?_
          refine then_exit ?_
          have e51 := lp_done hm; subst e51; clear hm; have hm := hq51
          refine then_exit ?_
          refine block_hit ?_
          have e50 := yes_eq hm; subst e50
          refine ⟨rfl, ?_⟩
          exact WkX.of () (WkS.perm (WkS.cons rfl (Wk.refl _) (WkS.cons rfl (Wk.refl _) (WkS.nil))) (List.Perm.refl _) (List.Perm.refl _))
    · intro s50 hw50; clear hm; have hm := ho50; clear q50 ho50
      refine then_normal ?_
      refine wpD_wkX hw50 (fun z50 => ?_)
      refine wpD_seq ?_
      refine wpD_region ?_
      refine p_load (d := .agg [.v (.int .i64 y50.2.2.2.1), .v (.int .i64 y50.2.2.2.2.1), .v (.string y50.2.2.2.2.2.1), .lst 5 (y50.2.2.2.2.2.2.1.map eTApiExpr) .no, .v (.int .i64 y50.2.2.2.2.2.2.2)]) 2 htab rfl rfl rfl rfl rfl rfl rfl rfl ?_
      refine p_store (ds' := [.v (.int .i64 y50.2.2.2.1), .v (.int .i64 y50.2.2.2.2.1), .v (.string y50.2.2.2.2.2.1), .lst 5 (y50.2.2.2.2.2.2.1.map eTApiExpr) .no, .v (.int .i64 y50.2.2.2.2.2.2.2)]) (h' := [(o0, Blk.cells [.lst 4 (y50.1.map eTApiToken) .no, .v (.int .i64 y50.2.1), .v (.int .i64 y50.2.2.1)] T0), (b1, Blk.cells [.v (.int .i64 y50.2.2.2.1), .v (.int .i64 y50.2.2.2.2.1), .v (.string y50.2.2.2.2.2.1), .lst 5 (y50.2.2.2.2.2.2.1.map eTApiExpr) .no, .v (.int .i64 y50.2.2.2.2.2.2.2)] 26), (b8, Blk.cells [.v (.int .i64 y50.2.2.2.1), .v (.int .i64 y50.2.2.2.2.1), .v (.string y50.2.2.2.2.2.1), .lst 5 (y50.2.2.2.2.2.2.1.map eTApiExpr) .no, .v (.int .i64 y50.2.2.2.2.2.2.2)] 26)]) 1 htab rfl rfl rfl rfl rfl rfl rfl rfl rfl rfl rfl rfl ?_
      refine ops_nil ?_
      refine then_normal ?_
      refine wpD_ret ?_
      have er90 := yes_eq hm; subst er90
      refine retX.of (s' := ⟨[(4, .ptr b1 0)], [(o0, Blk.cells [.lst 4 (y50.1.map eTApiToken) .no, .v (.int .i64 y50.2.1), .v (.int .i64 y50.2.2.1)] T0), (b1, Blk.cells [.v (.int .i64 y50.2.2.2.1), .v (.int .i64 y50.2.2.2.2.1), .v (.string y50.2.2.2.2.2.1), .lst 5 (y50.2.2.2.2.2.2.1.map eTApiExpr) .no, .v (.int .i64 y50.2.2.2.2.2.2.2)] 26)], []⟩) (WkS.perm (WkS.cons rfl (Wk.refl _) (WkS.nil)) (List.Perm.refl _) (List.Perm.refl _)) (retD_mk (hh := [(o0, Blk.cells [.lst 4 (y50.1.map eTApiToken) .no, .v (.int .i64 y50.2.1), .v (.int .i64 y50.2.2.1)] T0)]) (.inl rfl) (resL_cons (resOne_cell 1 rfl rfl rfl rfl) (resL_nil)) (List.sublist_append_left [_] _) (List.Sublist.refl _) ?_)
      exact ⟨by first | rfl | (simp only [wrapD, eTApiExpr_eq]; done) | (simp only [wrapD, eTApiExpr_eq]; rfl), rfl, rfl⟩
noncomputable def parse_reader_unit_b (g0 : (TParseReader) → (Int) → Option (TApiExpr × TParseReader)) (g1 : (TParseReader) → Option (TApiExpr × TParseReader)) (g2 : (TParseReader) → (TApiExpr) → (Int) → (Int) → Option (TApiExpr × TParseReader)) (g3 : (TParseReader) → (ByteArray) → Option (TApiExpr × TParseReader)) (g4 : (TParseReader) → (TApiToken) → (Int) → Option (TApiExpr × TParseReader)) (m0 : TParseReader) : Option (TApiExpr × TParseReader) :=
  ((parse_reader_look m0).bind fun x2 => (bif (m0.gE != (0 : Int)) then some ((⟨(0 : Int), (0 : Int), ByteArray.empty, [], (0 : Int)⟩ : TApiExpr), m0) else (bif (x2.gKind == (2 : Int)) then some ((⟨(1 : Int), x2.gN, ByteArray.empty, [], x2.gAt⟩ : TApiExpr), (⟨m0.gL, (IntKind.i64.wrap (m0.gAt + (1 : Int))), m0.gE⟩ : TParseReader)) else (bif (x2.gKind == (1 : Int)) then ((g2 (⟨m0.gL, (IntKind.i64.wrap (m0.gAt + (1 : Int))), m0.gE⟩ : TParseReader) (⟨(2 : Int), (0 : Int), x2.gText, [], x2.gAt⟩ : TApiExpr) (3 : Int) m0.gAt).bind fun x24 => some (x24.1, x24.2)) else (bif (x2.gKind == (3 : Int)) then ((g4 (⟨m0.gL, (IntKind.i64.wrap (m0.gAt + (1 : Int))), m0.gE⟩ : TParseReader) x2 m0.gAt).bind fun x29 => some (x29.1, x29.2)) else ((parse_reader_fail (⟨m0.gL, (IntKind.i64.wrap (m0.gAt + (1 : Int))), m0.gE⟩ : TParseReader) m0.gAt (3 : Int)).bind fun x31 => some ((⟨(0 : Int), (0 : Int), ByteArray.empty, [], (0 : Int)⟩ : TApiExpr), x31)))))))
set_option maxRecDepth 100000 in
set_option maxHeartbeats 2000000 in
theorem parse_reader_unit_b_ok (g0 : (TParseReader) → (Int) → Option (TApiExpr × TParseReader)) (g1 : (TParseReader) → Option (TApiExpr × TParseReader)) (g2 : (TParseReader) → (TApiExpr) → (Int) → (Int) → Option (TApiExpr × TParseReader)) (g3 : (TParseReader) → (ByteArray) → Option (TApiExpr × TParseReader)) (g4 : (TParseReader) → (TApiToken) → (Int) → Option (TApiExpr × TParseReader)) (hg0 : ∀ (m0 : TParseReader) (a1 : Int) (o0 : Nat) (T0 : TypeId) (c0_0 : Cap) (r : TApiExpr × TParseReader) (h0 : g0 m0 a1 = some r), CallsD Try.prog 12 [.ptr o0 0, .v (.int .i64 a1)] [(o0, Blk.cells [.lst 4 (m0.gL.map eTApiToken) c0_0, .v (.int .i64 m0.gAt), .v (.int .i64 m0.gE)] T0)] [] (fun d h k => d = eTApiExpr r.1 ∧ h = [(o0, Blk.cells [.lst 4 (r.2.gL.map eTApiToken) .no, .v (.int .i64 r.2.gAt), .v (.int .i64 r.2.gE)] T0)] ∧ k = [])) (hg1 : ∀ (m0 : TParseReader) (o0 : Nat) (T0 : TypeId) (c0_0 : Cap) (r : TApiExpr × TParseReader) (h0 : g1 m0 = some r), CallsD Try.prog 18 [.ptr o0 0] [(o0, Blk.cells [.lst 4 (m0.gL.map eTApiToken) c0_0, .v (.int .i64 m0.gAt), .v (.int .i64 m0.gE)] T0)] [] (fun d h k => d = eTApiExpr r.1 ∧ h = [(o0, Blk.cells [.lst 4 (r.2.gL.map eTApiToken) .no, .v (.int .i64 r.2.gAt), .v (.int .i64 r.2.gE)] T0)] ∧ k = [])) (hg2 : ∀ (m0 : TParseReader) (a1 : TApiExpr) (a2 : Int) (a3 : Int) (o0 : Nat) (T0 : TypeId) (c0_0 : Cap) (r : TApiExpr × TParseReader) (h0 : g2 m0 a1 a2 a3 = some r), CallsD Try.prog 26 [.ptr o0 0, eTApiExpr a1, .v (.int .i64 a2), .v (.int .i64 a3)] [(o0, Blk.cells [.lst 4 (m0.gL.map eTApiToken) c0_0, .v (.int .i64 m0.gAt), .v (.int .i64 m0.gE)] T0)] [] (fun d h k => d = eTApiExpr r.1 ∧ h = [(o0, Blk.cells [.lst 4 (r.2.gL.map eTApiToken) .no, .v (.int .i64 r.2.gAt), .v (.int .i64 r.2.gE)] T0)] ∧ k = [])) (hg3 : ∀ (m0 : TParseReader) (a1 : ByteArray) (o0 : Nat) (T0 : TypeId) (c0_0 : Cap) (r : TApiExpr × TParseReader) (h0 : g3 m0 a1 = some r), CallsD Try.prog 34 [.ptr o0 0, .v (.string a1)] [(o0, Blk.cells [.lst 4 (m0.gL.map eTApiToken) c0_0, .v (.int .i64 m0.gAt), .v (.int .i64 m0.gE)] T0)] [] (fun d h k => d = eTApiExpr r.1 ∧ h = [(o0, Blk.cells [.lst 4 (r.2.gL.map eTApiToken) .no, .v (.int .i64 r.2.gAt), .v (.int .i64 r.2.gE)] T0)] ∧ k = [])) (hg4 : ∀ (m0 : TParseReader) (a1 : TApiToken) (a2 : Int) (o0 : Nat) (T0 : TypeId) (c0_0 : Cap) (r : TApiExpr × TParseReader) (h0 : g4 m0 a1 a2 = some r), CallsD Try.prog 27 [.ptr o0 0, eTApiToken a1, .v (.int .i64 a2)] [(o0, Blk.cells [.lst 4 (m0.gL.map eTApiToken) c0_0, .v (.int .i64 m0.gAt), .v (.int .i64 m0.gE)] T0)] [] (fun d h k => d = eTApiExpr r.1 ∧ h = [(o0, Blk.cells [.lst 4 (r.2.gL.map eTApiToken) .no, .v (.int .i64 r.2.gAt), .v (.int .i64 r.2.gE)] T0)] ∧ k = [])) (m0 : TParseReader) (o0 : Nat) (T0 : TypeId) (c0_0 : Cap) (r : TApiExpr × TParseReader) (h0 : parse_reader_unit_b g0 g1 g2 g3 g4 m0 = some r) : CallsD Try.prog 18 [.ptr o0 0] [(o0, Blk.cells [.lst 4 (m0.gL.map eTApiToken) c0_0, .v (.int .i64 m0.gAt), .v (.int .i64 m0.gE)] T0)] [] (fun d h k => d = eTApiExpr r.1 ∧ h = [(o0, Blk.cells [.lst 4 (r.2.gL.map eTApiToken) .no, .v (.int .i64 r.2.gAt), .v (.int .i64 r.2.gE)] T0)] ∧ k = []) := by
  have hm := yes_of h0
  unfold parse_reader_unit_b at hm
  clear h0
  refine enterX htab Try.func18 rfl rfl rfl rfl rfl (fun C => ?_)
  refine wpD_seq ?_
  refine wpD_region ?_
  refine p_alloc htab rfl rfl rfl rfl rfl rfl rfl (fun b1 => ?_)
  refine ops_nil ?_
  refine then_normal ?_
  refine wpD_seq ?_
  obtain ⟨x2, q2, hm⟩ := yes_bind hm
  refine wpD_fills 8 [(6, [.v (.int .i64 (0 : Int)), .v (.string ByteArray.empty), .v (.int .i64 (0 : Int)), .v (.int .i64 (0 : Int))], 38)] [(6, 7, [.v (.int .i64 x2.gKind), .v (.string x2.gText), .v (.int .i64 x2.gN), .v (.int .i64 x2.gAt)])] [[],[0],[],[2],[2,3],[2,3,4],[],[0,1,6]] [0,1,2,3,4,6,7] [[],[0],[],[2],[2,3],[2,3,4],[],[0,1,6],[0,1,2,3,4,5,6,7]] (by kernel_rfl) (by kernel_rfl) (by kernel_rfl) (by rfl) (by rfl) (by kernel_rfl) ?_
  apply Exists.intro
  apply Exists.intro
  apply Exists.intro
  apply Exists.intro
  apply Exists.intro
  refine ⟨.any, ?_⟩
  refine ⟨.any, ?_⟩
  intro bs
  refine zf_e rfl rfl (ex_pure htab rfl) rfl rfl rfl rfl rfl rfl rfl ?_
  refine zf_callB 0 rfl rfl (parse_reader_look_ok m0 o0 T0 c0_0 x2 q2) rfl rfl (WkL.refl _) rfl rfl rfl rfl rfl rfl rfl rfl ?_
  refine zf_e rfl rfl (ex_pure htab rfl) rfl rfl rfl rfl rfl rfl rfl ?_
  refine zf_e rfl rfl (ex_pure htab rfl) rfl rfl rfl rfl rfl rfl rfl ?_
  refine zf_e rfl rfl (ex_pure htab rfl) rfl rfl rfl rfl rfl rfl rfl ?_
  refine zf_qM rfl rfl (xm_load 0 htab rfl rfl rfl rfl rfl) rfl rfl rfl rfl rfl rfl ?_
  refine zf_alloc rfl htab rfl rfl rfl rfl rfl rfl rfl rfl rfl rfl (by simp [dOf, eI64]) (by simp) ?_
  refine zf_fill (e := 6) (zs := [.v (.int .i64 (0 : Int)), .v (.string ByteArray.empty), .v (.int .i64 (0 : Int)), .v (.int .i64 (0 : Int))]) (T' := 38) (ds' := [.v (.int .i64 x2.gKind), .v (.string x2.gText), .v (.int .i64 x2.gN), .v (.int .i64 x2.gAt)]) htab rfl rfl rfl rfl rfl rfl rfl rfl rfl (by simp) (by simp) rfl rfl rfl rfl rfl rfl rfl rfl rfl ?_
  refine zf_nil (h' := [(o0, Blk.cells [.lst 4 (m0.gL.map eTApiToken) c0_0, .v (.int .i64 m0.gAt), .v (.int .i64 m0.gE)] T0), (b1, Blk.cells [.v (.int .i64 (0 : Int)), .v (.int .i64 (0 : Int)), .v (.string ByteArray.empty), .lst 1 [] .full, .v (.int .i64 (0 : Int))] 26), (bs 6, Blk.cells [.v (.int .i64 x2.gKind), .v (.string x2.gText), .v (.int .i64 x2.gN), .v (.int .i64 x2.gAt)] 38)]) rfl rfl rfl (fun e he => by simp [isAl] at he; subst he; rfl) ?_
  obtain ⟨b3, hb3⟩ : ∃ b, bs 6 = b := ⟨_, rfl⟩
  simp only [hb3]
  clear hb3
  refine p_pure htab rfl rfl rfl rfl ?_
  refine ops_nil ?_
  refine then_normal ?_
  refine wpD_seq ?_
  refine wpD_seq ?_
  refine wpD_region ?_
  refine p_pure htab rfl rfl rfl rfl ?_
  refine p_pure htab rfl rfl rfl rfl ?_
  refine p_pure htab rfl rfl rfl rfl ?_
  refine p_load 0 htab rfl rfl rfl rfl rfl rfl rfl rfl ?_
  refine p_pure htab rfl rfl rfl rfl ?_
  refine ops_nil ?_
  refine then_normal ?_
  refine wpD_cond rfl (fun hc5 => ?_) (fun hc5 => ?_)
  · replace hm := yes_t hc5 hm
    refine wpD_seq ?_
    refine wpD_region ?_
    refine p_build (r := [.v (.int .i64 (0 : Int)), .v (.int .i64 (0 : Int)), .v (.string ByteArray.empty), .lst 1 [] .full, .v (.int .i64 (0 : Int))]) htab rfl rfl rfl rfl rfl rfl rfl rfl rfl ?_
    refine p_store (ds' := [.v (.int .i64 (0 : Int)), .v (.int .i64 (0 : Int)), .v (.string ByteArray.empty), .lst 1 [] .full, .v (.int .i64 (0 : Int))]) (h' := [(o0, Blk.cells [.lst 4 (m0.gL.map eTApiToken) c0_0, .v (.int .i64 m0.gAt), .v (.int .i64 m0.gE)] T0), (b1, Blk.cells [.v (.int .i64 (0 : Int)), .v (.int .i64 (0 : Int)), .v (.string ByteArray.empty), .lst 1 [] .full, .v (.int .i64 (0 : Int))] 26), (b3, Blk.cells [.v (.int .i64 x2.gKind), .v (.string x2.gText), .v (.int .i64 x2.gN), .v (.int .i64 x2.gAt)] 38)]) 1 htab rfl rfl rfl rfl rfl rfl rfl rfl rfl rfl rfl rfl ?_
    refine ops_nil ?_
    refine then_normal ?_
    refine wpD_ret ?_
    refine then_ret ?_
    have er6 := yes_eq hm; subst er6
    refine retX.wk (WkS.blk (ds' := [.v (.int .i64 (0 : Int)), .v (.int .i64 (0 : Int)), .v (.string ByteArray.empty), .lst 5 (([] : List TApiExpr).map eTApiExpr) .no, .v (.int .i64 (0 : Int))]) (h' := [(o0, Blk.cells [.lst 4 (m0.gL.map eTApiToken) c0_0, .v (.int .i64 m0.gAt), .v (.int .i64 m0.gE)] T0), (b1, Blk.cells [.v (.int .i64 (0 : Int)), .v (.int .i64 (0 : Int)), .v (.string ByteArray.empty), .lst 5 (([] : List TApiExpr).map eTApiExpr) .no, .v (.int .i64 (0 : Int))] 26), (b3, Blk.cells [.v (.int .i64 x2.gKind), .v (.string x2.gText), .v (.int .i64 x2.gN), .v (.int .i64 x2.gAt)] 38)]) 1 rfl (WkR.cons (WkC.refl _) rfl (WkR.cons (WkC.refl _) rfl (WkR.cons (WkC.refl _) rfl (WkR.cons (WkC.nil) rfl (WkR.cons (WkC.refl _) rfl (WkR.nil)))))) rfl) ?_
    refine retX.wk (WkS.blk (ds' := [.lst 4 (m0.gL.map eTApiToken) .no, .v (.int .i64 m0.gAt), .v (.int .i64 m0.gE)]) (h' := [(o0, Blk.cells [.lst 4 (m0.gL.map eTApiToken) .no, .v (.int .i64 m0.gAt), .v (.int .i64 m0.gE)] T0), (b1, Blk.cells [.v (.int .i64 (0 : Int)), .v (.int .i64 (0 : Int)), .v (.string ByteArray.empty), .lst 5 (([] : List TApiExpr).map eTApiExpr) .no, .v (.int .i64 (0 : Int))] 26), (b3, Blk.cells [.v (.int .i64 x2.gKind), .v (.string x2.gText), .v (.int .i64 x2.gN), .v (.int .i64 x2.gAt)] 38)]) 0 rfl (WkR.cons (WkC.no) rfl (WkR.cons (WkC.refl _) rfl (WkR.cons (WkC.refl _) rfl (WkR.nil)))) rfl) ?_
    refine retX.of (s' := ⟨[(2, .ptr b1 0)], [(o0, Blk.cells [.lst 4 (m0.gL.map eTApiToken) .no, .v (.int .i64 m0.gAt), .v (.int .i64 m0.gE)] T0), (b1, Blk.cells [.v (.int .i64 (0 : Int)), .v (.int .i64 (0 : Int)), .v (.string ByteArray.empty), .lst 5 (([] : List TApiExpr).map eTApiExpr) .no, .v (.int .i64 (0 : Int))] 26)], []⟩) (WkS.perm (WkS.cons rfl (Wk.refl _) (WkS.nil)) (List.Perm.refl _) (List.Perm.refl _)) (retD_mk (hh := [(o0, Blk.cells [.lst 4 (m0.gL.map eTApiToken) .no, .v (.int .i64 m0.gAt), .v (.int .i64 m0.gE)] T0)]) (.inl rfl) (resL_cons (resOne_cell 1 rfl rfl rfl rfl) (resL_nil)) (List.sublist_append_left [_] _) (List.Sublist.refl _) ?_)
    exact ⟨by first | rfl | (simp only [wrapD, eTApiExpr_eq]; done) | (simp only [wrapD, eTApiExpr_eq]; rfl), rfl, rfl⟩
  · replace hm := yes_f hc5 hm
    refine wpD_skip ?_
    refine then_normal ?_
    refine wpD_seq ?_
    refine wpD_region ?_
    refine p_pure htab rfl rfl rfl rfl ?_
    refine p_pure htab rfl rfl rfl rfl ?_
    refine p_pure htab rfl rfl rfl rfl ?_
    refine p_load 0 htab rfl rfl rfl rfl rfl rfl rfl rfl ?_
    refine p_pure htab rfl rfl rfl rfl ?_
    refine p_pure htab rfl rfl rfl rfl ?_
    refine p_pure htab rfl rfl rfl rfl ?_
    refine p_store (ds' := [.lst 4 (m0.gL.map eTApiToken) c0_0, .v (.int .i64 (IntKind.i64.wrap (m0.gAt + (1 : Int)))), .v (.int .i64 m0.gE)]) (h' := [(o0, Blk.cells [.lst 4 (m0.gL.map eTApiToken) c0_0, .v (.int .i64 (IntKind.i64.wrap (m0.gAt + (1 : Int)))), .v (.int .i64 m0.gE)] T0), (b1, Blk.cells [.v (.int .i64 (0 : Int)), .v (.int .i64 (0 : Int)), .v (.string ByteArray.empty), .lst 1 [] .full, .v (.int .i64 (0 : Int))] 26), (b3, Blk.cells [.v (.int .i64 x2.gKind), .v (.string x2.gText), .v (.int .i64 x2.gN), .v (.int .i64 x2.gAt)] 38)]) 0 htab rfl rfl rfl rfl rfl rfl rfl rfl rfl rfl rfl rfl ?_
    refine ops_nil ?_
    refine then_normal ?_
    refine wpD_seq ?_
    refine wpD_seq ?_
    refine wpD_region ?_
    refine p_pure htab rfl rfl rfl rfl ?_
    refine p_load 2 htab rfl rfl rfl rfl rfl rfl rfl rfl ?_
    refine ops_nil ?_
    refine then_normal ?_
    refine wpD_block ?_
    refine wpD_seq ?_
    refine wpD_region ?_
    refine p_pure htab rfl rfl rfl rfl ?_
    refine p_pure htab rfl rfl rfl rfl ?_
    refine ops_nil ?_
    refine then_normal ?_
    refine wpD_cond rfl (fun hc17 => ?_) (fun hc17 => ?_)
    · replace hm := yes_t hc17 hm
      refine wpD_seq ?_
      refine wpD_region ?_
      refine p_pure htab rfl rfl rfl rfl ?_
      refine p_load 2 htab rfl rfl rfl rfl rfl rfl rfl rfl ?_
      refine p_pure htab rfl rfl rfl rfl ?_
      refine p_load 2 htab rfl rfl rfl rfl rfl rfl rfl rfl ?_
      refine p_build (r := [.v (.int .i64 (1 : Int)), .v (.int .i64 x2.gN), .v (.string ByteArray.empty), .lst 1 [] .full, .v (.int .i64 x2.gAt)]) htab rfl rfl rfl rfl rfl rfl rfl rfl rfl ?_
      refine p_store (ds' := [.v (.int .i64 (1 : Int)), .v (.int .i64 x2.gN), .v (.string ByteArray.empty), .lst 1 [] .full, .v (.int .i64 x2.gAt)]) (h' := [(o0, Blk.cells [.lst 4 (m0.gL.map eTApiToken) c0_0, .v (.int .i64 (IntKind.i64.wrap (m0.gAt + (1 : Int)))), .v (.int .i64 m0.gE)] T0), (b1, Blk.cells [.v (.int .i64 (1 : Int)), .v (.int .i64 x2.gN), .v (.string ByteArray.empty), .lst 1 [] .full, .v (.int .i64 x2.gAt)] 26), (b3, Blk.cells [.v (.int .i64 x2.gKind), .v (.string x2.gText), .v (.int .i64 x2.gN), .v (.int .i64 x2.gAt)] 38)]) 1 htab rfl rfl rfl rfl rfl rfl rfl rfl rfl rfl rfl rfl ?_
      refine ops_nil ?_
      refine then_normal ?_
      refine wpD_ret ?_
      refine block_ret ?_
      refine then_ret ?_
      have er18 := yes_eq hm; subst er18
      refine retX.wk (WkS.blk (ds' := [.v (.int .i64 (1 : Int)), .v (.int .i64 x2.gN), .v (.string ByteArray.empty), .lst 5 (([] : List TApiExpr).map eTApiExpr) .no, .v (.int .i64 x2.gAt)]) (h' := [(o0, Blk.cells [.lst 4 (m0.gL.map eTApiToken) c0_0, .v (.int .i64 (IntKind.i64.wrap (m0.gAt + (1 : Int)))), .v (.int .i64 m0.gE)] T0), (b1, Blk.cells [.v (.int .i64 (1 : Int)), .v (.int .i64 x2.gN), .v (.string ByteArray.empty), .lst 5 (([] : List TApiExpr).map eTApiExpr) .no, .v (.int .i64 x2.gAt)] 26), (b3, Blk.cells [.v (.int .i64 x2.gKind), .v (.string x2.gText), .v (.int .i64 x2.gN), .v (.int .i64 x2.gAt)] 38)]) 1 rfl (WkR.cons (WkC.refl _) rfl (WkR.cons (WkC.refl _) rfl (WkR.cons (WkC.refl _) rfl (WkR.cons (WkC.nil) rfl (WkR.cons (WkC.refl _) rfl (WkR.nil)))))) rfl) ?_
      refine retX.wk (WkS.blk (ds' := [.lst 4 (m0.gL.map eTApiToken) .no, .v (.int .i64 (IntKind.i64.wrap (m0.gAt + (1 : Int)))), .v (.int .i64 m0.gE)]) (h' := [(o0, Blk.cells [.lst 4 (m0.gL.map eTApiToken) .no, .v (.int .i64 (IntKind.i64.wrap (m0.gAt + (1 : Int)))), .v (.int .i64 m0.gE)] T0), (b1, Blk.cells [.v (.int .i64 (1 : Int)), .v (.int .i64 x2.gN), .v (.string ByteArray.empty), .lst 5 (([] : List TApiExpr).map eTApiExpr) .no, .v (.int .i64 x2.gAt)] 26), (b3, Blk.cells [.v (.int .i64 x2.gKind), .v (.string x2.gText), .v (.int .i64 x2.gN), .v (.int .i64 x2.gAt)] 38)]) 0 rfl (WkR.cons (WkC.no) rfl (WkR.cons (WkC.refl _) rfl (WkR.cons (WkC.refl _) rfl (WkR.nil)))) rfl) ?_
      refine retX.of (s' := ⟨[(2, .ptr b1 0)], [(o0, Blk.cells [.lst 4 (m0.gL.map eTApiToken) .no, .v (.int .i64 (IntKind.i64.wrap (m0.gAt + (1 : Int)))), .v (.int .i64 m0.gE)] T0), (b1, Blk.cells [.v (.int .i64 (1 : Int)), .v (.int .i64 x2.gN), .v (.string ByteArray.empty), .lst 5 (([] : List TApiExpr).map eTApiExpr) .no, .v (.int .i64 x2.gAt)] 26)], []⟩) (WkS.perm (WkS.cons rfl (Wk.refl _) (WkS.nil)) (List.Perm.refl _) (List.Perm.refl _)) (retD_mk (hh := [(o0, Blk.cells [.lst 4 (m0.gL.map eTApiToken) .no, .v (.int .i64 (IntKind.i64.wrap (m0.gAt + (1 : Int)))), .v (.int .i64 m0.gE)] T0)]) (.inl rfl) (resL_cons (resOne_cell 1 rfl rfl rfl rfl) (resL_nil)) (List.sublist_append_left [_] _) (List.Sublist.refl _) ?_)
      exact ⟨by first | rfl | (simp only [wrapD, eTApiExpr_eq]; done) | (simp only [wrapD, eTApiExpr_eq]; rfl), rfl, rfl⟩
    · replace hm := yes_f hc17 hm
      refine wpD_seq ?_
      refine wpD_region ?_
      refine p_pure htab rfl rfl rfl rfl ?_
      refine p_pure htab rfl rfl rfl rfl ?_
      refine ops_nil ?_
      refine then_normal ?_
      refine wpD_cond rfl (fun hc23 => ?_) (fun hc23 => ?_)
      · replace hm := yes_t hc23 hm
        refine wpD_seq ?_
        refine wpD_region ?_
        refine p_pure htab rfl rfl rfl rfl ?_
        refine p_pure htab rfl rfl rfl rfl ?_
        refine p_load 2 htab rfl rfl rfl rfl rfl rfl rfl rfl ?_
        refine p_pure htab rfl rfl rfl rfl ?_
        refine p_load 2 htab rfl rfl rfl rfl rfl rfl rfl rfl ?_
        refine p_build (r := [.v (.int .i64 (2 : Int)), .v (.int .i64 (0 : Int)), .v (.string x2.gText), .lst 1 [] .full, .v (.int .i64 x2.gAt)]) htab rfl rfl rfl rfl rfl rfl rfl rfl rfl ?_
        refine p_pure htab rfl rfl rfl rfl ?_
        obtain ⟨x24, q24, hm⟩ := yes_bind hm
        refine p_callG (hg2 (⟨m0.gL, (IntKind.i64.wrap (m0.gAt + (1 : Int))), m0.gE⟩ : TParseReader) (⟨(2 : Int), (0 : Int), x2.gText, [], x2.gAt⟩ : TApiExpr) (3 : Int) m0.gAt o0 T0 c0_0 x24 q24) rfl rfl rfl rfl rfl (WkL.cons (Wk.refl _) (WkL.cons (Wk.trans (Wk.agg (WkR.cons (WkC.refl _) rfl (WkR.cons (WkC.refl _) rfl (WkR.cons (WkC.refl _) rfl (WkR.cons (WkC.nil) rfl (WkR.cons (WkC.refl _) rfl (WkR.nil))))))) (Wk.of_eq (eTApiExpr_eq (⟨(2 : Int), (0 : Int), x2.gText, [], x2.gAt⟩ : TApiExpr)).symm)) (WkL.cons (Wk.refl _) (WkL.cons (Wk.refl _) (WkL.refl _))))) (List.Perm.refl _) (List.Perm.refl _) ?_
        rintro _ _ _ ⟨rfl, rfl, rfl⟩
        refine p_eq (i := 42) rfl (Wk.of_eq (eTApiExpr_eq x24.1)) ?_
        refine p_store (ds' := [.v (.int .i64 x24.1.gOp), .v (.int .i64 x24.1.gN), .v (.string x24.1.gName), .lst 5 (x24.1.gKids.map eTApiExpr) .no, .v (.int .i64 x24.1.gAt)]) (h' := [(o0, Blk.cells [.lst 4 (x24.2.gL.map eTApiToken) .no, .v (.int .i64 x24.2.gAt), .v (.int .i64 x24.2.gE)] T0), (b1, Blk.cells [.v (.int .i64 x24.1.gOp), .v (.int .i64 x24.1.gN), .v (.string x24.1.gName), .lst 5 (x24.1.gKids.map eTApiExpr) .no, .v (.int .i64 x24.1.gAt)] 26), (b3, Blk.cells [.v (.int .i64 x2.gKind), .v (.string x2.gText), .v (.int .i64 x2.gN), .v (.int .i64 x2.gAt)] 38)]) 1 htab rfl rfl rfl rfl rfl rfl rfl rfl rfl rfl rfl rfl ?_
        refine ops_nil ?_
        refine then_normal ?_
        refine wpD_ret ?_
        refine block_ret ?_
        refine then_ret ?_
        have er25 := yes_eq hm; subst er25
        refine retX.of (s' := ⟨[(2, .ptr b1 0)], [(o0, Blk.cells [.lst 4 (x24.2.gL.map eTApiToken) .no, .v (.int .i64 x24.2.gAt), .v (.int .i64 x24.2.gE)] T0), (b1, Blk.cells [.v (.int .i64 x24.1.gOp), .v (.int .i64 x24.1.gN), .v (.string x24.1.gName), .lst 5 (x24.1.gKids.map eTApiExpr) .no, .v (.int .i64 x24.1.gAt)] 26)], []⟩) (WkS.perm (WkS.cons rfl (Wk.refl _) (WkS.nil)) (List.Perm.refl _) (List.Perm.refl _)) (retD_mk (hh := [(o0, Blk.cells [.lst 4 (x24.2.gL.map eTApiToken) .no, .v (.int .i64 x24.2.gAt), .v (.int .i64 x24.2.gE)] T0)]) (.inl rfl) (resL_cons (resOne_cell 1 rfl rfl rfl rfl) (resL_nil)) (List.sublist_append_left [_] _) (List.Sublist.refl _) ?_)
        exact ⟨by first | rfl | (simp only [wrapD, eTApiExpr_eq]; done) | (simp only [wrapD, eTApiExpr_eq]; rfl), rfl, rfl⟩
      · replace hm := yes_f hc23 hm
        refine wpD_seq ?_
        refine wpD_region ?_
        refine p_pure htab rfl rfl rfl rfl ?_
        refine p_pure htab rfl rfl rfl rfl ?_
        refine ops_nil ?_
        refine then_normal ?_
        refine wpD_cond rfl (fun hc28 => ?_) (fun hc28 => ?_)
        · replace hm := yes_t hc28 hm
          refine wpD_seq ?_
          refine wpD_region ?_
          refine p_pure htab rfl rfl rfl rfl ?_
          refine p_load (d := eTApiToken x2) 2 htab rfl rfl rfl rfl rfl rfl rfl rfl ?_
          refine p_pure htab rfl rfl rfl rfl ?_
          obtain ⟨x29, q29, hm⟩ := yes_bind hm
          refine p_callG (hg4 (⟨m0.gL, (IntKind.i64.wrap (m0.gAt + (1 : Int))), m0.gE⟩ : TParseReader) x2 m0.gAt o0 T0 c0_0 x29 q29) rfl rfl rfl rfl rfl (WkL.refl _) (List.Perm.refl _) (List.Perm.refl _) ?_
          rintro _ _ _ ⟨rfl, rfl, rfl⟩
          refine p_eq (i := 48) rfl (Wk.of_eq (eTApiExpr_eq x29.1)) ?_
          refine p_store (ds' := [.v (.int .i64 x29.1.gOp), .v (.int .i64 x29.1.gN), .v (.string x29.1.gName), .lst 5 (x29.1.gKids.map eTApiExpr) .no, .v (.int .i64 x29.1.gAt)]) (h' := [(o0, Blk.cells [.lst 4 (x29.2.gL.map eTApiToken) .no, .v (.int .i64 x29.2.gAt), .v (.int .i64 x29.2.gE)] T0), (b1, Blk.cells [.v (.int .i64 x29.1.gOp), .v (.int .i64 x29.1.gN), .v (.string x29.1.gName), .lst 5 (x29.1.gKids.map eTApiExpr) .no, .v (.int .i64 x29.1.gAt)] 26), (b3, Blk.cells [.v (.int .i64 x2.gKind), .v (.string x2.gText), .v (.int .i64 x2.gN), .v (.int .i64 x2.gAt)] 38)]) 1 htab rfl rfl rfl rfl rfl rfl rfl rfl rfl rfl rfl rfl ?_
          refine ops_nil ?_
          refine then_normal ?_
          refine wpD_ret ?_
          refine block_ret ?_
          refine then_ret ?_
          have er30 := yes_eq hm; subst er30
          refine retX.of (s' := ⟨[(2, .ptr b1 0)], [(o0, Blk.cells [.lst 4 (x29.2.gL.map eTApiToken) .no, .v (.int .i64 x29.2.gAt), .v (.int .i64 x29.2.gE)] T0), (b1, Blk.cells [.v (.int .i64 x29.1.gOp), .v (.int .i64 x29.1.gN), .v (.string x29.1.gName), .lst 5 (x29.1.gKids.map eTApiExpr) .no, .v (.int .i64 x29.1.gAt)] 26)], []⟩) (WkS.perm (WkS.cons rfl (Wk.refl _) (WkS.nil)) (List.Perm.refl _) (List.Perm.refl _)) (retD_mk (hh := [(o0, Blk.cells [.lst 4 (x29.2.gL.map eTApiToken) .no, .v (.int .i64 x29.2.gAt), .v (.int .i64 x29.2.gE)] T0)]) (.inl rfl) (resL_cons (resOne_cell 1 rfl rfl rfl rfl) (resL_nil)) (List.sublist_append_left [_] _) (List.Sublist.refl _) ?_)
          exact ⟨by first | rfl | (simp only [wrapD, eTApiExpr_eq]; done) | (simp only [wrapD, eTApiExpr_eq]; rfl), rfl, rfl⟩
        · replace hm := yes_f hc28 hm
          refine wpD_skip ?_
          refine block_normal ?_
          refine then_normal ?_
          refine wpD_seq ?_
          refine wpD_region ?_
          refine p_pure htab rfl rfl rfl rfl ?_
          refine p_pure htab rfl rfl rfl rfl ?_
          obtain ⟨x31, q31, hm⟩ := yes_bind hm
          refine p_callG (parse_reader_fail_ok (⟨m0.gL, (IntKind.i64.wrap (m0.gAt + (1 : Int))), m0.gE⟩ : TParseReader) m0.gAt (3 : Int) o0 T0 c0_0 x31 q31) rfl rfl rfl rfl rfl (WkL.refl _) (List.Perm.refl _) (List.Perm.refl _) ?_
          rintro _ _ _ ⟨rfl, rfl, rfl⟩
          refine ops_nil ?_
          refine then_normal ?_
          refine wpD_seq ?_
          refine wpD_region ?_
          refine p_build (r := [.v (.int .i64 (0 : Int)), .v (.int .i64 (0 : Int)), .v (.string ByteArray.empty), .lst 1 [] .full, .v (.int .i64 (0 : Int))]) htab rfl rfl rfl rfl rfl rfl rfl rfl rfl ?_
          refine p_store (ds' := [.v (.int .i64 (0 : Int)), .v (.int .i64 (0 : Int)), .v (.string ByteArray.empty), .lst 1 [] .full, .v (.int .i64 (0 : Int))]) (h' := [(o0, Blk.cells [.lst 4 (x31.gL.map eTApiToken) c0_0, .v (.int .i64 x31.gAt), .v (.int .i64 x31.gE)] T0), (b1, Blk.cells [.v (.int .i64 (0 : Int)), .v (.int .i64 (0 : Int)), .v (.string ByteArray.empty), .lst 1 [] .full, .v (.int .i64 (0 : Int))] 26), (b3, Blk.cells [.v (.int .i64 x2.gKind), .v (.string x2.gText), .v (.int .i64 x2.gN), .v (.int .i64 x2.gAt)] 38)]) 1 htab rfl rfl rfl rfl rfl rfl rfl rfl rfl rfl rfl rfl ?_
          refine ops_nil ?_
          refine then_normal ?_
          refine wpD_ret ?_
          have er32 := yes_eq hm; subst er32
          refine retX.wk (WkS.blk (ds' := [.v (.int .i64 (0 : Int)), .v (.int .i64 (0 : Int)), .v (.string ByteArray.empty), .lst 5 (([] : List TApiExpr).map eTApiExpr) .no, .v (.int .i64 (0 : Int))]) (h' := [(o0, Blk.cells [.lst 4 (x31.gL.map eTApiToken) c0_0, .v (.int .i64 x31.gAt), .v (.int .i64 x31.gE)] T0), (b1, Blk.cells [.v (.int .i64 (0 : Int)), .v (.int .i64 (0 : Int)), .v (.string ByteArray.empty), .lst 5 (([] : List TApiExpr).map eTApiExpr) .no, .v (.int .i64 (0 : Int))] 26), (b3, Blk.cells [.v (.int .i64 x2.gKind), .v (.string x2.gText), .v (.int .i64 x2.gN), .v (.int .i64 x2.gAt)] 38)]) 1 rfl (WkR.cons (WkC.refl _) rfl (WkR.cons (WkC.refl _) rfl (WkR.cons (WkC.refl _) rfl (WkR.cons (WkC.nil) rfl (WkR.cons (WkC.refl _) rfl (WkR.nil)))))) rfl) ?_
          refine retX.wk (WkS.blk (ds' := [.lst 4 (x31.gL.map eTApiToken) .no, .v (.int .i64 x31.gAt), .v (.int .i64 x31.gE)]) (h' := [(o0, Blk.cells [.lst 4 (x31.gL.map eTApiToken) .no, .v (.int .i64 x31.gAt), .v (.int .i64 x31.gE)] T0), (b1, Blk.cells [.v (.int .i64 (0 : Int)), .v (.int .i64 (0 : Int)), .v (.string ByteArray.empty), .lst 5 (([] : List TApiExpr).map eTApiExpr) .no, .v (.int .i64 (0 : Int))] 26), (b3, Blk.cells [.v (.int .i64 x2.gKind), .v (.string x2.gText), .v (.int .i64 x2.gN), .v (.int .i64 x2.gAt)] 38)]) 0 rfl (WkR.cons (WkC.no) rfl (WkR.cons (WkC.refl _) rfl (WkR.cons (WkC.refl _) rfl (WkR.nil)))) rfl) ?_
          refine retX.of (s' := ⟨[(2, .ptr b1 0)], [(o0, Blk.cells [.lst 4 (x31.gL.map eTApiToken) .no, .v (.int .i64 x31.gAt), .v (.int .i64 x31.gE)] T0), (b1, Blk.cells [.v (.int .i64 (0 : Int)), .v (.int .i64 (0 : Int)), .v (.string ByteArray.empty), .lst 5 (([] : List TApiExpr).map eTApiExpr) .no, .v (.int .i64 (0 : Int))] 26)], []⟩) (WkS.perm (WkS.cons rfl (Wk.refl _) (WkS.nil)) (List.Perm.refl _) (List.Perm.refl _)) (retD_mk (hh := [(o0, Blk.cells [.lst 4 (x31.gL.map eTApiToken) .no, .v (.int .i64 x31.gAt), .v (.int .i64 x31.gE)] T0)]) (.inl rfl) (resL_cons (resOne_cell 1 rfl rfl rfl rfl) (resL_nil)) (List.sublist_append_left [_] _) (List.Sublist.refl _) ?_)
          exact ⟨by first | rfl | (simp only [wrapD, eTApiExpr_eq]; done) | (simp only [wrapD, eTApiExpr_eq]; rfl), rfl, rfl⟩
noncomputable def parse_reader_indexed_b (g0 : (TParseReader) → (Int) → Option (TApiExpr × TParseReader)) (g1 : (TParseReader) → Option (TApiExpr × TParseReader)) (g2 : (TParseReader) → (TApiExpr) → (Int) → (Int) → Option (TApiExpr × TParseReader)) (g3 : (TParseReader) → (ByteArray) → Option (TApiExpr × TParseReader)) (g4 : (TParseReader) → (TApiToken) → (Int) → Option (TApiExpr × TParseReader)) (m0 : TParseReader) (a1 : TApiExpr) (a2 : Int) (a3 : Int) : Option (TApiExpr × TParseReader) :=
  (Option.bind (α := Bool) (bif (m0.gE != (0 : Int)) then some true else ((parse_reader_is m0 (ByteArray.mk #[91])).bind fun x7 => some (!x7))) fun y5 => (bif y5 then some (a1, m0) else ((g3 (⟨m0.gL, (IntKind.i64.wrap (m0.gAt + (1 : Int))), m0.gE⟩ : TParseReader) (ByteArray.mk #[93])).bind fun x11 => ((parse_reader_sound x11.2 (⟨a2, a1.gN, a1.gName, ([x11.1] : List TApiExpr), a1.gAt⟩ : TApiExpr) a3).bind fun x12 => some (x12.1, x12.2)))))
set_option maxRecDepth 100000 in
set_option maxHeartbeats 2000000 in
theorem parse_reader_indexed_b_ok (g0 : (TParseReader) → (Int) → Option (TApiExpr × TParseReader)) (g1 : (TParseReader) → Option (TApiExpr × TParseReader)) (g2 : (TParseReader) → (TApiExpr) → (Int) → (Int) → Option (TApiExpr × TParseReader)) (g3 : (TParseReader) → (ByteArray) → Option (TApiExpr × TParseReader)) (g4 : (TParseReader) → (TApiToken) → (Int) → Option (TApiExpr × TParseReader)) (hg0 : ∀ (m0 : TParseReader) (a1 : Int) (o0 : Nat) (T0 : TypeId) (c0_0 : Cap) (r : TApiExpr × TParseReader) (h0 : g0 m0 a1 = some r), CallsD Try.prog 12 [.ptr o0 0, .v (.int .i64 a1)] [(o0, Blk.cells [.lst 4 (m0.gL.map eTApiToken) c0_0, .v (.int .i64 m0.gAt), .v (.int .i64 m0.gE)] T0)] [] (fun d h k => d = eTApiExpr r.1 ∧ h = [(o0, Blk.cells [.lst 4 (r.2.gL.map eTApiToken) .no, .v (.int .i64 r.2.gAt), .v (.int .i64 r.2.gE)] T0)] ∧ k = [])) (hg1 : ∀ (m0 : TParseReader) (o0 : Nat) (T0 : TypeId) (c0_0 : Cap) (r : TApiExpr × TParseReader) (h0 : g1 m0 = some r), CallsD Try.prog 18 [.ptr o0 0] [(o0, Blk.cells [.lst 4 (m0.gL.map eTApiToken) c0_0, .v (.int .i64 m0.gAt), .v (.int .i64 m0.gE)] T0)] [] (fun d h k => d = eTApiExpr r.1 ∧ h = [(o0, Blk.cells [.lst 4 (r.2.gL.map eTApiToken) .no, .v (.int .i64 r.2.gAt), .v (.int .i64 r.2.gE)] T0)] ∧ k = [])) (hg2 : ∀ (m0 : TParseReader) (a1 : TApiExpr) (a2 : Int) (a3 : Int) (o0 : Nat) (T0 : TypeId) (c0_0 : Cap) (r : TApiExpr × TParseReader) (h0 : g2 m0 a1 a2 a3 = some r), CallsD Try.prog 26 [.ptr o0 0, eTApiExpr a1, .v (.int .i64 a2), .v (.int .i64 a3)] [(o0, Blk.cells [.lst 4 (m0.gL.map eTApiToken) c0_0, .v (.int .i64 m0.gAt), .v (.int .i64 m0.gE)] T0)] [] (fun d h k => d = eTApiExpr r.1 ∧ h = [(o0, Blk.cells [.lst 4 (r.2.gL.map eTApiToken) .no, .v (.int .i64 r.2.gAt), .v (.int .i64 r.2.gE)] T0)] ∧ k = [])) (hg3 : ∀ (m0 : TParseReader) (a1 : ByteArray) (o0 : Nat) (T0 : TypeId) (c0_0 : Cap) (r : TApiExpr × TParseReader) (h0 : g3 m0 a1 = some r), CallsD Try.prog 34 [.ptr o0 0, .v (.string a1)] [(o0, Blk.cells [.lst 4 (m0.gL.map eTApiToken) c0_0, .v (.int .i64 m0.gAt), .v (.int .i64 m0.gE)] T0)] [] (fun d h k => d = eTApiExpr r.1 ∧ h = [(o0, Blk.cells [.lst 4 (r.2.gL.map eTApiToken) .no, .v (.int .i64 r.2.gAt), .v (.int .i64 r.2.gE)] T0)] ∧ k = [])) (hg4 : ∀ (m0 : TParseReader) (a1 : TApiToken) (a2 : Int) (o0 : Nat) (T0 : TypeId) (c0_0 : Cap) (r : TApiExpr × TParseReader) (h0 : g4 m0 a1 a2 = some r), CallsD Try.prog 27 [.ptr o0 0, eTApiToken a1, .v (.int .i64 a2)] [(o0, Blk.cells [.lst 4 (m0.gL.map eTApiToken) c0_0, .v (.int .i64 m0.gAt), .v (.int .i64 m0.gE)] T0)] [] (fun d h k => d = eTApiExpr r.1 ∧ h = [(o0, Blk.cells [.lst 4 (r.2.gL.map eTApiToken) .no, .v (.int .i64 r.2.gAt), .v (.int .i64 r.2.gE)] T0)] ∧ k = [])) (m0 : TParseReader) (a1 : TApiExpr) (a2 : Int) (a3 : Int) (o0 : Nat) (T0 : TypeId) (c0_0 : Cap) (r : TApiExpr × TParseReader) (h0 : parse_reader_indexed_b g0 g1 g2 g3 g4 m0 a1 a2 a3 = some r) : CallsD Try.prog 26 [.ptr o0 0, eTApiExpr a1, .v (.int .i64 a2), .v (.int .i64 a3)] [(o0, Blk.cells [.lst 4 (m0.gL.map eTApiToken) c0_0, .v (.int .i64 m0.gAt), .v (.int .i64 m0.gE)] T0)] [] (fun d h k => d = eTApiExpr r.1 ∧ h = [(o0, Blk.cells [.lst 4 (r.2.gL.map eTApiToken) .no, .v (.int .i64 r.2.gAt), .v (.int .i64 r.2.gE)] T0)] ∧ k = []) := by
  have hm := yes_of h0
  unfold parse_reader_indexed_b at hm
  clear h0
  refine enterX htab Try.func26 rfl rfl rfl rfl rfl (fun C => ?_)
  refine w_eq (i := 1) rfl (Wk.of_eq (eTApiExpr_eq a1)) ?_
  refine wpD_seq ?_
  refine wpD_region ?_
  refine p_box rfl rfl rfl rfl rfl rfl rfl (fun b1 => ?_)
  refine p_alloc htab rfl rfl rfl rfl rfl rfl rfl (fun b2 => ?_)
  refine ops_nil ?_
  refine then_normal ?_
  refine wpD_seq ?_
  refine wpD_seq ?_
  obtain ⟨y5, q5, ho5⟩ := yes_bind hm
  refine wpD_mid (Y := Unit) (fun z5 => (⟨[(0, .ptr o0 0), (2, .v (.int .i64 a2)), (3, .v (.int .i64 a3)), (5, .ptr b1 0), (8, .ptr b2 0), (18, .v (.bool y5))], [(o0, Blk.cells [.lst 4 (m0.gL.map eTApiToken) c0_0, .v (.int .i64 m0.gAt), .v (.int .i64 m0.gE)] T0), (b1, Blk.cells [.v (.int .i64 a1.gOp), .v (.int .i64 a1.gN), .v (.string a1.gName), .lst 5 (a1.gKids.map eTApiExpr) .no, .v (.int .i64 a1.gAt)] 26), (b2, Blk.cells [.v (.int .i64 (0 : Int)), .v (.int .i64 (0 : Int)), .v (.string ByteArray.empty), .lst 1 [] .full, .v (.int .i64 (0 : Int))] 26)], []⟩ : S)) ?_ ?_
  · clear hm; have hm := yes_of q5
    refine wpD_region ?_
    refine p_pure htab rfl rfl rfl rfl ?_
    refine p_pure htab rfl rfl rfl rfl ?_
    refine p_pure htab rfl rfl rfl rfl ?_
    refine p_load 0 htab rfl rfl rfl rfl rfl rfl rfl rfl ?_
    refine p_pure htab rfl rfl rfl rfl ?_
    refine p_pure htab rfl rfl rfl rfl ?_
    refine p_split (i := 14) rfl (fun hg6 => ?_) (fun hg6 => ?_)
    · replace hm := yes_t hg6 hm
      refine p_skip rfl rfl rfl ?_
      refine p_skip rfl rfl rfl ?_
      refine p_skip rfl rfl rfl ?_
      refine p_pickT rfl rfl rfl rfl rfl rfl ?_
      refine ops_nil ?_
      have e5 := yes_eq hm; subst e5
      refine ⟨rfl, ?_⟩
      exact WkX.of () (WkS.perm (WkS.cons rfl (Wk.refl _) (WkS.cons rfl (Wk.refl _) (WkS.cons rfl (Wk.refl _) (WkS.cons rfl (Wk.refl _) (WkS.cons rfl (Wk.refl _) (WkS.cons rfl (Wk.refl _) (WkS.nil))))))) (List.Perm.refl _) (List.Perm.refl _))
    · replace hm := yes_f hg6 hm
      refine p_pure htab rfl rfl rfl rfl ?_
      obtain ⟨x7, q7, hm⟩ := yes_bind hm
      refine p_callG (parse_reader_is_ok m0 (ByteArray.mk #[91]) o0 T0 c0_0 x7 q7) rfl rfl rfl rfl rfl (WkL.refl _) (List.Perm.refl _) (List.Perm.refl _) ?_
      rintro _ _ _ ⟨rfl, rfl, rfl⟩
      refine p_pure htab rfl rfl rfl rfl ?_
      refine p_pickF rfl rfl rfl rfl rfl rfl ?_
      refine ops_nil ?_
      have e5 := yes_eq hm; subst e5
      refine ⟨rfl, ?_⟩
      exact WkX.of () (WkS.perm (WkS.cons rfl (Wk.refl _) (WkS.cons rfl (Wk.refl _) (WkS.cons rfl (Wk.refl _) (WkS.cons rfl (Wk.refl _) (WkS.cons rfl (Wk.refl _) (WkS.cons rfl (Wk.refl _) (WkS.nil))))))) (List.Perm.refl _) (List.Perm.refl _))
  · intro s5 hw5; clear hm; have hm := ho5; clear q5 ho5
    refine then_normal ?_
    refine wpD_wkX hw5 (fun z5 => ?_)
    refine wpD_cond rfl (fun hc9 => ?_) (fun hc9 => ?_)
    · replace hm := yes_t hc9 hm
      refine wpD_seq ?_
      refine wpD_region ?_
      refine p_load (d := .agg [.v (.int .i64 a1.gOp), .v (.int .i64 a1.gN), .v (.string a1.gName), .lst 5 (a1.gKids.map eTApiExpr) .no, .v (.int .i64 a1.gAt)]) 1 htab rfl rfl rfl rfl rfl rfl rfl rfl ?_
      refine p_store (ds' := [.v (.int .i64 a1.gOp), .v (.int .i64 a1.gN), .v (.string a1.gName), .lst 5 (a1.gKids.map eTApiExpr) .no, .v (.int .i64 a1.gAt)]) (h' := [(o0, Blk.cells [.lst 4 (m0.gL.map eTApiToken) c0_0, .v (.int .i64 m0.gAt), .v (.int .i64 m0.gE)] T0), (b1, Blk.cells [.v (.int .i64 a1.gOp), .v (.int .i64 a1.gN), .v (.string a1.gName), .lst 5 (a1.gKids.map eTApiExpr) .no, .v (.int .i64 a1.gAt)] 26), (b2, Blk.cells [.v (.int .i64 a1.gOp), .v (.int .i64 a1.gN), .v (.string a1.gName), .lst 5 (a1.gKids.map eTApiExpr) .no, .v (.int .i64 a1.gAt)] 26)]) 2 htab rfl rfl rfl rfl rfl rfl rfl rfl rfl rfl rfl rfl ?_
      refine ops_nil ?_
      refine then_normal ?_
      refine wpD_ret ?_
      refine then_ret ?_
      have er10 := yes_eq hm; subst er10
      refine retX.wk (WkS.blk (ds' := [.lst 4 (m0.gL.map eTApiToken) .no, .v (.int .i64 m0.gAt), .v (.int .i64 m0.gE)]) (h' := [(o0, Blk.cells [.lst 4 (m0.gL.map eTApiToken) .no, .v (.int .i64 m0.gAt), .v (.int .i64 m0.gE)] T0), (b1, Blk.cells [.v (.int .i64 a1.gOp), .v (.int .i64 a1.gN), .v (.string a1.gName), .lst 5 (a1.gKids.map eTApiExpr) .no, .v (.int .i64 a1.gAt)] 26), (b2, Blk.cells [.v (.int .i64 a1.gOp), .v (.int .i64 a1.gN), .v (.string a1.gName), .lst 5 (a1.gKids.map eTApiExpr) .no, .v (.int .i64 a1.gAt)] 26)]) 0 rfl (WkR.cons (WkC.no) rfl (WkR.cons (WkC.refl _) rfl (WkR.cons (WkC.refl _) rfl (WkR.nil)))) rfl) ?_
      refine retX.of (s' := ⟨[(8, .ptr b2 0)], [(o0, Blk.cells [.lst 4 (m0.gL.map eTApiToken) .no, .v (.int .i64 m0.gAt), .v (.int .i64 m0.gE)] T0), (b2, Blk.cells [.v (.int .i64 a1.gOp), .v (.int .i64 a1.gN), .v (.string a1.gName), .lst 5 (a1.gKids.map eTApiExpr) .no, .v (.int .i64 a1.gAt)] 26)], []⟩) (WkS.perm (WkS.cons rfl (Wk.refl _) (WkS.nil)) ((perm_at (j := 0) rfl).trans (List.Perm.cons _ ((perm_at (j := 1) rfl).trans (List.Perm.cons _ (List.Perm.refl _))))) (List.Perm.refl _)) (retD_mk (hh := [(o0, Blk.cells [.lst 4 (m0.gL.map eTApiToken) .no, .v (.int .i64 m0.gAt), .v (.int .i64 m0.gE)] T0)]) (.inl rfl) (resL_cons (resOne_cell 1 rfl rfl rfl rfl) (resL_nil)) (List.sublist_append_left [_] _) (List.Sublist.refl _) ?_)
      exact ⟨by first | rfl | (simp only [wrapD, eTApiExpr_eq]; done) | (simp only [wrapD, eTApiExpr_eq]; rfl), rfl, rfl⟩
    · replace hm := yes_f hc9 hm
      refine wpD_skip ?_
      refine then_normal ?_
      refine wpD_seq ?_
      refine wpD_region ?_
      refine p_pure htab rfl rfl rfl rfl ?_
      refine p_pure htab rfl rfl rfl rfl ?_
      refine p_pure htab rfl rfl rfl rfl ?_
      refine p_load 0 htab rfl rfl rfl rfl rfl rfl rfl rfl ?_
      refine p_pure htab rfl rfl rfl rfl ?_
      refine p_pure htab rfl rfl rfl rfl ?_
      refine p_pure htab rfl rfl rfl rfl ?_
      refine p_store (ds' := [.lst 4 (m0.gL.map eTApiToken) c0_0, .v (.int .i64 (IntKind.i64.wrap (m0.gAt + (1 : Int)))), .v (.int .i64 m0.gE)]) (h' := [(o0, Blk.cells [.lst 4 (m0.gL.map eTApiToken) c0_0, .v (.int .i64 (IntKind.i64.wrap (m0.gAt + (1 : Int)))), .v (.int .i64 m0.gE)] T0), (b1, Blk.cells [.v (.int .i64 a1.gOp), .v (.int .i64 a1.gN), .v (.string a1.gName), .lst 5 (a1.gKids.map eTApiExpr) .no, .v (.int .i64 a1.gAt)] 26), (b2, Blk.cells [.v (.int .i64 (0 : Int)), .v (.int .i64 (0 : Int)), .v (.string ByteArray.empty), .lst 1 [] .full, .v (.int .i64 (0 : Int))] 26)]) 0 htab rfl rfl rfl rfl rfl rfl rfl rfl rfl rfl rfl rfl ?_
      refine ops_nil ?_
      refine then_normal ?_
      refine wpD_seq ?_
      refine wpD_region ?_
      refine p_pure htab rfl rfl rfl rfl ?_
      refine p_pure htab rfl rfl rfl rfl ?_
      refine p_store (ds' := [.v (.int .i64 a2), .v (.int .i64 a1.gN), .v (.string a1.gName), .lst 5 (a1.gKids.map eTApiExpr) .no, .v (.int .i64 a1.gAt)]) (h' := [(o0, Blk.cells [.lst 4 (m0.gL.map eTApiToken) c0_0, .v (.int .i64 (IntKind.i64.wrap (m0.gAt + (1 : Int)))), .v (.int .i64 m0.gE)] T0), (b1, Blk.cells [.v (.int .i64 a2), .v (.int .i64 a1.gN), .v (.string a1.gName), .lst 5 (a1.gKids.map eTApiExpr) .no, .v (.int .i64 a1.gAt)] 26), (b2, Blk.cells [.v (.int .i64 (0 : Int)), .v (.int .i64 (0 : Int)), .v (.string ByteArray.empty), .lst 1 [] .full, .v (.int .i64 (0 : Int))] 26)]) 1 htab rfl rfl rfl rfl rfl rfl rfl rfl rfl rfl rfl rfl ?_
      refine ops_nil ?_
      refine then_normal ?_
      refine wpD_seq ?_
      refine wpD_region ?_
      refine p_pure htab rfl rfl rfl rfl ?_
      obtain ⟨x11, q11, hm⟩ := yes_bind hm
      refine p_callG (hg3 (⟨m0.gL, (IntKind.i64.wrap (m0.gAt + (1 : Int))), m0.gE⟩ : TParseReader) (ByteArray.mk #[93]) o0 T0 c0_0 x11 q11) rfl rfl rfl rfl rfl (WkL.refl _) (List.Perm.refl _) (List.Perm.refl _) ?_
      rintro _ _ _ ⟨rfl, rfl, rfl⟩
      refine p_eq (i := 30) rfl (Wk.of_eq (eTApiExpr_eq x11.1)) ?_
      refine p_lit htab rfl rfl rfl rfl rfl rfl rfl rfl rfl rfl rfl rfl rfl rfl ?_
      refine p_eq (i := 31) (d' := .lst 5 (([x11.1] : List TApiExpr).map eTApiExpr) .full) rfl (Wk.lst0 (.cons (WkC.trans (WkC.agg (WkR.refl _)) (WkC.of_eq (eTApiExpr_eq x11.1).symm)) (.nil))) ?_
      refine p_pure htab rfl rfl rfl rfl ?_
      refine p_store (ds' := [.v (.int .i64 a2), .v (.int .i64 a1.gN), .v (.string a1.gName), .lst 5 (([x11.1] : List TApiExpr).map eTApiExpr) .full, .v (.int .i64 a1.gAt)]) (h' := [(o0, Blk.cells [.lst 4 (x11.2.gL.map eTApiToken) .no, .v (.int .i64 x11.2.gAt), .v (.int .i64 x11.2.gE)] T0), (b1, Blk.cells [.v (.int .i64 a2), .v (.int .i64 a1.gN), .v (.string a1.gName), .lst 5 (([x11.1] : List TApiExpr).map eTApiExpr) .full, .v (.int .i64 a1.gAt)] 26), (b2, Blk.cells [.v (.int .i64 (0 : Int)), .v (.int .i64 (0 : Int)), .v (.string ByteArray.empty), .lst 1 [] .full, .v (.int .i64 (0 : Int))] 26)]) 1 htab rfl rfl rfl rfl rfl rfl rfl rfl rfl rfl rfl rfl ?_
      refine ops_nil ?_
      refine then_normal ?_
      refine wpD_seq ?_
      refine wpD_region ?_
      refine p_pure htab rfl rfl rfl rfl ?_
      refine p_load (d := .agg [.v (.int .i64 a2), .v (.int .i64 a1.gN), .v (.string a1.gName), .lst 5 (([x11.1] : List TApiExpr).map eTApiExpr) .full, .v (.int .i64 a1.gAt)]) 1 htab rfl rfl rfl rfl rfl rfl rfl rfl ?_
      refine p_pure htab rfl rfl rfl rfl ?_
      obtain ⟨x12, q12, hm⟩ := yes_bind hm
      refine p_callG (parse_reader_sound_ok x11.2 (⟨a2, a1.gN, a1.gName, ([x11.1] : List TApiExpr), a1.gAt⟩ : TApiExpr) a3 o0 T0 .no x12 q12) rfl rfl rfl rfl rfl (WkL.cons (Wk.refl _) (WkL.cons (Wk.trans (Wk.agg (WkR.cons (WkC.refl _) rfl (WkR.cons (WkC.refl _) rfl (WkR.cons (WkC.refl _) rfl (WkR.cons (WkC.no) rfl (WkR.cons (WkC.refl _) rfl (WkR.nil))))))) (Wk.of_eq (eTApiExpr_eq (⟨a2, a1.gN, a1.gName, ([x11.1] : List TApiExpr), a1.gAt⟩ : TApiExpr)).symm)) (WkL.cons (Wk.refl _) (WkL.refl _)))) (List.Perm.refl _) (List.Perm.refl _) ?_
      rintro _ _ _ ⟨rfl, rfl, rfl⟩
      refine p_eq (i := 36) rfl (Wk.of_eq (eTApiExpr_eq x12.1)) ?_
      refine p_store (ds' := [.v (.int .i64 x12.1.gOp), .v (.int .i64 x12.1.gN), .v (.string x12.1.gName), .lst 5 (x12.1.gKids.map eTApiExpr) .no, .v (.int .i64 x12.1.gAt)]) (h' := [(o0, Blk.cells [.lst 4 (x12.2.gL.map eTApiToken) .no, .v (.int .i64 x12.2.gAt), .v (.int .i64 x12.2.gE)] T0), (b1, Blk.cells [.v (.int .i64 a2), .v (.int .i64 a1.gN), .v (.string a1.gName), .lst 5 (([x11.1] : List TApiExpr).map eTApiExpr) .full, .v (.int .i64 a1.gAt)] 26), (b2, Blk.cells [.v (.int .i64 x12.1.gOp), .v (.int .i64 x12.1.gN), .v (.string x12.1.gName), .lst 5 (x12.1.gKids.map eTApiExpr) .no, .v (.int .i64 x12.1.gAt)] 26)]) 2 htab rfl rfl rfl rfl rfl rfl rfl rfl rfl rfl rfl rfl ?_
      refine ops_nil ?_
      refine then_normal ?_
      refine wpD_ret ?_
      have er13 := yes_eq hm; subst er13
      refine retX.of (s' := ⟨[(8, .ptr b2 0)], [(o0, Blk.cells [.lst 4 (x12.2.gL.map eTApiToken) .no, .v (.int .i64 x12.2.gAt), .v (.int .i64 x12.2.gE)] T0), (b2, Blk.cells [.v (.int .i64 x12.1.gOp), .v (.int .i64 x12.1.gN), .v (.string x12.1.gName), .lst 5 (x12.1.gKids.map eTApiExpr) .no, .v (.int .i64 x12.1.gAt)] 26)], []⟩) (WkS.perm (WkS.cons rfl (Wk.refl _) (WkS.nil)) ((perm_at (j := 0) rfl).trans (List.Perm.cons _ ((perm_at (j := 1) rfl).trans (List.Perm.cons _ (List.Perm.refl _))))) (List.Perm.refl _)) (retD_mk (hh := [(o0, Blk.cells [.lst 4 (x12.2.gL.map eTApiToken) .no, .v (.int .i64 x12.2.gAt), .v (.int .i64 x12.2.gE)] T0)]) (.inl rfl) (resL_cons (resOne_cell 1 rfl rfl rfl rfl) (resL_nil)) (List.sublist_append_left [_] _) (List.Sublist.refl _) ?_)
      exact ⟨by first | rfl | (simp only [wrapD, eTApiExpr_eq]; done) | (simp only [wrapD, eTApiExpr_eq]; rfl), rfl, rfl⟩
noncomputable def parse_reader_all_b (g0 : (TParseReader) → (Int) → Option (TApiExpr × TParseReader)) (g1 : (TParseReader) → Option (TApiExpr × TParseReader)) (g2 : (TParseReader) → (TApiExpr) → (Int) → (Int) → Option (TApiExpr × TParseReader)) (g3 : (TParseReader) → (ByteArray) → Option (TApiExpr × TParseReader)) (g4 : (TParseReader) → (TApiToken) → (Int) → Option (TApiExpr × TParseReader)) (m0 : TParseReader) (a1 : ByteArray) : Option (TApiExpr × TParseReader) :=
  ((g0 m0 (0 : Int)).bind fun x2 => (bif (x2.2.gE == (0 : Int)) then ((parse_reader_eat x2.2 a1).bind fun x5 => some (x2.1, x5)) else some (x2.1, x2.2)))
set_option maxRecDepth 100000 in
set_option maxHeartbeats 2000000 in
theorem parse_reader_all_b_ok (g0 : (TParseReader) → (Int) → Option (TApiExpr × TParseReader)) (g1 : (TParseReader) → Option (TApiExpr × TParseReader)) (g2 : (TParseReader) → (TApiExpr) → (Int) → (Int) → Option (TApiExpr × TParseReader)) (g3 : (TParseReader) → (ByteArray) → Option (TApiExpr × TParseReader)) (g4 : (TParseReader) → (TApiToken) → (Int) → Option (TApiExpr × TParseReader)) (hg0 : ∀ (m0 : TParseReader) (a1 : Int) (o0 : Nat) (T0 : TypeId) (c0_0 : Cap) (r : TApiExpr × TParseReader) (h0 : g0 m0 a1 = some r), CallsD Try.prog 12 [.ptr o0 0, .v (.int .i64 a1)] [(o0, Blk.cells [.lst 4 (m0.gL.map eTApiToken) c0_0, .v (.int .i64 m0.gAt), .v (.int .i64 m0.gE)] T0)] [] (fun d h k => d = eTApiExpr r.1 ∧ h = [(o0, Blk.cells [.lst 4 (r.2.gL.map eTApiToken) .no, .v (.int .i64 r.2.gAt), .v (.int .i64 r.2.gE)] T0)] ∧ k = [])) (hg1 : ∀ (m0 : TParseReader) (o0 : Nat) (T0 : TypeId) (c0_0 : Cap) (r : TApiExpr × TParseReader) (h0 : g1 m0 = some r), CallsD Try.prog 18 [.ptr o0 0] [(o0, Blk.cells [.lst 4 (m0.gL.map eTApiToken) c0_0, .v (.int .i64 m0.gAt), .v (.int .i64 m0.gE)] T0)] [] (fun d h k => d = eTApiExpr r.1 ∧ h = [(o0, Blk.cells [.lst 4 (r.2.gL.map eTApiToken) .no, .v (.int .i64 r.2.gAt), .v (.int .i64 r.2.gE)] T0)] ∧ k = [])) (hg2 : ∀ (m0 : TParseReader) (a1 : TApiExpr) (a2 : Int) (a3 : Int) (o0 : Nat) (T0 : TypeId) (c0_0 : Cap) (r : TApiExpr × TParseReader) (h0 : g2 m0 a1 a2 a3 = some r), CallsD Try.prog 26 [.ptr o0 0, eTApiExpr a1, .v (.int .i64 a2), .v (.int .i64 a3)] [(o0, Blk.cells [.lst 4 (m0.gL.map eTApiToken) c0_0, .v (.int .i64 m0.gAt), .v (.int .i64 m0.gE)] T0)] [] (fun d h k => d = eTApiExpr r.1 ∧ h = [(o0, Blk.cells [.lst 4 (r.2.gL.map eTApiToken) .no, .v (.int .i64 r.2.gAt), .v (.int .i64 r.2.gE)] T0)] ∧ k = [])) (hg3 : ∀ (m0 : TParseReader) (a1 : ByteArray) (o0 : Nat) (T0 : TypeId) (c0_0 : Cap) (r : TApiExpr × TParseReader) (h0 : g3 m0 a1 = some r), CallsD Try.prog 34 [.ptr o0 0, .v (.string a1)] [(o0, Blk.cells [.lst 4 (m0.gL.map eTApiToken) c0_0, .v (.int .i64 m0.gAt), .v (.int .i64 m0.gE)] T0)] [] (fun d h k => d = eTApiExpr r.1 ∧ h = [(o0, Blk.cells [.lst 4 (r.2.gL.map eTApiToken) .no, .v (.int .i64 r.2.gAt), .v (.int .i64 r.2.gE)] T0)] ∧ k = [])) (hg4 : ∀ (m0 : TParseReader) (a1 : TApiToken) (a2 : Int) (o0 : Nat) (T0 : TypeId) (c0_0 : Cap) (r : TApiExpr × TParseReader) (h0 : g4 m0 a1 a2 = some r), CallsD Try.prog 27 [.ptr o0 0, eTApiToken a1, .v (.int .i64 a2)] [(o0, Blk.cells [.lst 4 (m0.gL.map eTApiToken) c0_0, .v (.int .i64 m0.gAt), .v (.int .i64 m0.gE)] T0)] [] (fun d h k => d = eTApiExpr r.1 ∧ h = [(o0, Blk.cells [.lst 4 (r.2.gL.map eTApiToken) .no, .v (.int .i64 r.2.gAt), .v (.int .i64 r.2.gE)] T0)] ∧ k = [])) (m0 : TParseReader) (a1 : ByteArray) (o0 : Nat) (T0 : TypeId) (c0_0 : Cap) (r : TApiExpr × TParseReader) (h0 : parse_reader_all_b g0 g1 g2 g3 g4 m0 a1 = some r) : CallsD Try.prog 34 [.ptr o0 0, .v (.string a1)] [(o0, Blk.cells [.lst 4 (m0.gL.map eTApiToken) c0_0, .v (.int .i64 m0.gAt), .v (.int .i64 m0.gE)] T0)] [] (fun d h k => d = eTApiExpr r.1 ∧ h = [(o0, Blk.cells [.lst 4 (r.2.gL.map eTApiToken) .no, .v (.int .i64 r.2.gAt), .v (.int .i64 r.2.gE)] T0)] ∧ k = []) := by
  have hm := yes_of h0
  unfold parse_reader_all_b at hm
  clear h0
  refine enterX htab Try.func34 rfl rfl rfl rfl rfl (fun C => ?_)
  refine wpD_seq ?_
  refine wpD_region ?_
  refine p_alloc htab rfl rfl rfl rfl rfl rfl rfl (fun b1 => ?_)
  refine ops_nil ?_
  refine then_normal ?_
  refine wpD_seq ?_
  refine wpD_region ?_
  refine p_pure htab rfl rfl rfl rfl ?_
  obtain ⟨x2, q2, hm⟩ := yes_bind hm
  refine p_callG (hg0 m0 (0 : Int) o0 T0 c0_0 x2 q2) rfl rfl rfl rfl rfl (WkL.refl _) (List.Perm.refl _) (List.Perm.refl _) ?_
  rintro _ _ _ ⟨rfl, rfl, rfl⟩
  refine p_eq (i := 7) rfl (Wk.of_eq (eTApiExpr_eq x2.1)) ?_
  refine p_alloc htab rfl rfl rfl rfl rfl rfl rfl (fun b3 => ?_)
  refine p_store (ds' := [.v (.int .i64 x2.1.gOp), .v (.int .i64 x2.1.gN), .v (.string x2.1.gName), .lst 5 (x2.1.gKids.map eTApiExpr) .no, .v (.int .i64 x2.1.gAt)]) (h' := [(o0, Blk.cells [.lst 4 (x2.2.gL.map eTApiToken) .no, .v (.int .i64 x2.2.gAt), .v (.int .i64 x2.2.gE)] T0), (b1, Blk.cells [.v (.int .i64 (0 : Int)), .v (.int .i64 (0 : Int)), .v (.string ByteArray.empty), .lst 1 [] .full, .v (.int .i64 (0 : Int))] 26), (b3, Blk.cells [.v (.int .i64 x2.1.gOp), .v (.int .i64 x2.1.gN), .v (.string x2.1.gName), .lst 5 (x2.1.gKids.map eTApiExpr) .no, .v (.int .i64 x2.1.gAt)] 26)]) 2 htab rfl rfl rfl rfl rfl rfl rfl rfl rfl rfl rfl rfl ?_
  refine ops_nil ?_
  refine then_normal ?_
  refine wpD_seq ?_
  refine wpD_seq ?_
  refine wpD_region ?_
  refine p_pure htab rfl rfl rfl rfl ?_
  refine p_pure htab rfl rfl rfl rfl ?_
  refine p_pure htab rfl rfl rfl rfl ?_
  refine p_load 0 htab rfl rfl rfl rfl rfl rfl rfl rfl ?_
  refine p_pure htab rfl rfl rfl rfl ?_
  refine ops_nil ?_
  refine then_normal ?_
  refine wpD_cond rfl (fun hc4 => ?_) (fun hc4 => ?_)
  · replace hm := yes_t hc4 hm
    refine wpD_region ?_
    refine p_pure htab rfl rfl rfl rfl ?_
    refine p_pure htab rfl rfl rfl rfl ?_
    obtain ⟨x5, q5, hm⟩ := yes_bind hm
    refine p_callG (parse_reader_eat_ok x2.2 a1 o0 T0 .no x5 q5) rfl rfl rfl rfl rfl (WkL.refl _) (List.Perm.refl _) (List.Perm.refl _) ?_
    rintro _ _ _ ⟨rfl, rfl, rfl⟩
    refine ops_nil ?_
    refine then_normal ?_
    refine wpD_seq ?_
    refine wpD_region ?_
    refine p_load (d := .agg [.v (.int .i64 x2.1.gOp), .v (.int .i64 x2.1.gN), .v (.string x2.1.gName), .lst 5 (x2.1.gKids.map eTApiExpr) .no, .v (.int .i64 x2.1.gAt)]) 2 htab rfl rfl rfl rfl rfl rfl rfl rfl ?_
    refine p_store (ds' := [.v (.int .i64 x2.1.gOp), .v (.int .i64 x2.1.gN), .v (.string x2.1.gName), .lst 5 (x2.1.gKids.map eTApiExpr) .no, .v (.int .i64 x2.1.gAt)]) (h' := [(o0, Blk.cells [.lst 4 (x5.gL.map eTApiToken) .no, .v (.int .i64 x5.gAt), .v (.int .i64 x5.gE)] T0), (b1, Blk.cells [.v (.int .i64 x2.1.gOp), .v (.int .i64 x2.1.gN), .v (.string x2.1.gName), .lst 5 (x2.1.gKids.map eTApiExpr) .no, .v (.int .i64 x2.1.gAt)] 26), (b3, Blk.cells [.v (.int .i64 x2.1.gOp), .v (.int .i64 x2.1.gN), .v (.string x2.1.gName), .lst 5 (x2.1.gKids.map eTApiExpr) .no, .v (.int .i64 x2.1.gAt)] 26)]) 1 htab rfl rfl rfl rfl rfl rfl rfl rfl rfl rfl rfl rfl ?_
    refine ops_nil ?_
    refine then_normal ?_
    refine wpD_ret ?_
    have er6 := yes_eq hm; subst er6
    refine retX.of (s' := ⟨[(4, .ptr b1 0)], [(o0, Blk.cells [.lst 4 (x5.gL.map eTApiToken) .no, .v (.int .i64 x5.gAt), .v (.int .i64 x5.gE)] T0), (b1, Blk.cells [.v (.int .i64 x2.1.gOp), .v (.int .i64 x2.1.gN), .v (.string x2.1.gName), .lst 5 (x2.1.gKids.map eTApiExpr) .no, .v (.int .i64 x2.1.gAt)] 26)], []⟩) (WkS.perm (WkS.cons rfl (Wk.refl _) (WkS.nil)) (List.Perm.refl _) (List.Perm.refl _)) (retD_mk (hh := [(o0, Blk.cells [.lst 4 (x5.gL.map eTApiToken) .no, .v (.int .i64 x5.gAt), .v (.int .i64 x5.gE)] T0)]) (.inl rfl) (resL_cons (resOne_cell 1 rfl rfl rfl rfl) (resL_nil)) (List.sublist_append_left [_] _) (List.Sublist.refl _) ?_)
    exact ⟨by first | rfl | (simp only [wrapD, eTApiExpr_eq]; done) | (simp only [wrapD, eTApiExpr_eq]; rfl), rfl, rfl⟩
  · replace hm := yes_f hc4 hm
    refine wpD_skip ?_
    refine then_normal ?_
    refine wpD_seq ?_
    refine wpD_region ?_
    refine p_load (d := .agg [.v (.int .i64 x2.1.gOp), .v (.int .i64 x2.1.gN), .v (.string x2.1.gName), .lst 5 (x2.1.gKids.map eTApiExpr) .no, .v (.int .i64 x2.1.gAt)]) 2 htab rfl rfl rfl rfl rfl rfl rfl rfl ?_
    refine p_store (ds' := [.v (.int .i64 x2.1.gOp), .v (.int .i64 x2.1.gN), .v (.string x2.1.gName), .lst 5 (x2.1.gKids.map eTApiExpr) .no, .v (.int .i64 x2.1.gAt)]) (h' := [(o0, Blk.cells [.lst 4 (x2.2.gL.map eTApiToken) .no, .v (.int .i64 x2.2.gAt), .v (.int .i64 x2.2.gE)] T0), (b1, Blk.cells [.v (.int .i64 x2.1.gOp), .v (.int .i64 x2.1.gN), .v (.string x2.1.gName), .lst 5 (x2.1.gKids.map eTApiExpr) .no, .v (.int .i64 x2.1.gAt)] 26), (b3, Blk.cells [.v (.int .i64 x2.1.gOp), .v (.int .i64 x2.1.gN), .v (.string x2.1.gName), .lst 5 (x2.1.gKids.map eTApiExpr) .no, .v (.int .i64 x2.1.gAt)] 26)]) 1 htab rfl rfl rfl rfl rfl rfl rfl rfl rfl rfl rfl rfl ?_
    refine ops_nil ?_
    refine then_normal ?_
    refine wpD_ret ?_
    have er7 := yes_eq hm; subst er7
    refine retX.of (s' := ⟨[(4, .ptr b1 0)], [(o0, Blk.cells [.lst 4 (x2.2.gL.map eTApiToken) .no, .v (.int .i64 x2.2.gAt), .v (.int .i64 x2.2.gE)] T0), (b1, Blk.cells [.v (.int .i64 x2.1.gOp), .v (.int .i64 x2.1.gN), .v (.string x2.1.gName), .lst 5 (x2.1.gKids.map eTApiExpr) .no, .v (.int .i64 x2.1.gAt)] 26)], []⟩) (WkS.perm (WkS.cons rfl (Wk.refl _) (WkS.nil)) (List.Perm.refl _) (List.Perm.refl _)) (retD_mk (hh := [(o0, Blk.cells [.lst 4 (x2.2.gL.map eTApiToken) .no, .v (.int .i64 x2.2.gAt), .v (.int .i64 x2.2.gE)] T0)]) (.inl rfl) (resL_cons (resOne_cell 1 rfl rfl rfl rfl) (resL_nil)) (List.sublist_append_left [_] _) (List.Sublist.refl _) ?_)
    exact ⟨by first | rfl | (simp only [wrapD, eTApiExpr_eq]; done) | (simp only [wrapD, eTApiExpr_eq]; rfl), rfl, rfl⟩
noncomputable def parse_reader_sign_b (g0 : (TParseReader) → (Int) → Option (TApiExpr × TParseReader)) (g1 : (TParseReader) → Option (TApiExpr × TParseReader)) (g2 : (TParseReader) → (TApiExpr) → (Int) → (Int) → Option (TApiExpr × TParseReader)) (g3 : (TParseReader) → (ByteArray) → Option (TApiExpr × TParseReader)) (g4 : (TParseReader) → (TApiToken) → (Int) → Option (TApiExpr × TParseReader)) (m0 : TParseReader) (a1 : TApiToken) (a2 : Int) : Option (TApiExpr × TParseReader) :=
  (Option.bind (α := Bool) (bif (decide (a1.gText = (ByteArray.mk #[45]))) then some (decide (a1.gText = (ByteArray.mk #[45]))) else some (decide (a1.gText = (ByteArray.mk #[33])))) fun y19 => (bif y19 then ((parse_pick a1.gText (ByteArray.mk #[45]) (5 : Int) (ByteArray.mk #[33]) (6 : Int)).bind fun x34 => ((g1 m0).bind fun x35 => ((parse_reader_sound x35.2 (⟨x34, (0 : Int), ByteArray.empty, ([x35.1] : List TApiExpr), a1.gAt⟩ : TApiExpr) a2).bind fun x36 => some (x36.1, x36.2)))) else (bif (decide (a1.gText = (ByteArray.mk #[42]))) then ((parse_reader_name m0).bind fun x47 => some ((⟨(4 : Int), (0 : Int), x47.1, [], a1.gAt⟩ : TApiExpr), x47.2)) else (bif (decide (a1.gText = (ByteArray.mk #[38]))) then ((parse_reader_name m0).bind fun x56 => ((g2 x56.2 (⟨(19 : Int), (0 : Int), x56.1, [], a1.gAt⟩ : TApiExpr) (20 : Int) a2).bind fun x57 => some (x57.1, x57.2))) else (bif (decide (a1.gText = (ByteArray.mk #[110, 117, 108, 108]))) then some ((⟨(18 : Int), (0 : Int), ByteArray.empty, [], a1.gAt⟩ : TApiExpr), m0) else (bif (decide (a1.gText = (ByteArray.mk #[40]))) then ((g3 m0 (ByteArray.mk #[41])).bind fun x67 => some (x67.1, x67.2)) else ((parse_reader_fail m0 a2 (3 : Int)).bind fun x69 => some ((⟨(0 : Int), (0 : Int), ByteArray.empty, [], (0 : Int)⟩ : TApiExpr), x69))))))))
set_option maxRecDepth 100000 in
set_option maxHeartbeats 2000000 in
theorem parse_reader_sign_b_ok (g0 : (TParseReader) → (Int) → Option (TApiExpr × TParseReader)) (g1 : (TParseReader) → Option (TApiExpr × TParseReader)) (g2 : (TParseReader) → (TApiExpr) → (Int) → (Int) → Option (TApiExpr × TParseReader)) (g3 : (TParseReader) → (ByteArray) → Option (TApiExpr × TParseReader)) (g4 : (TParseReader) → (TApiToken) → (Int) → Option (TApiExpr × TParseReader)) (hg0 : ∀ (m0 : TParseReader) (a1 : Int) (o0 : Nat) (T0 : TypeId) (c0_0 : Cap) (r : TApiExpr × TParseReader) (h0 : g0 m0 a1 = some r), CallsD Try.prog 12 [.ptr o0 0, .v (.int .i64 a1)] [(o0, Blk.cells [.lst 4 (m0.gL.map eTApiToken) c0_0, .v (.int .i64 m0.gAt), .v (.int .i64 m0.gE)] T0)] [] (fun d h k => d = eTApiExpr r.1 ∧ h = [(o0, Blk.cells [.lst 4 (r.2.gL.map eTApiToken) .no, .v (.int .i64 r.2.gAt), .v (.int .i64 r.2.gE)] T0)] ∧ k = [])) (hg1 : ∀ (m0 : TParseReader) (o0 : Nat) (T0 : TypeId) (c0_0 : Cap) (r : TApiExpr × TParseReader) (h0 : g1 m0 = some r), CallsD Try.prog 18 [.ptr o0 0] [(o0, Blk.cells [.lst 4 (m0.gL.map eTApiToken) c0_0, .v (.int .i64 m0.gAt), .v (.int .i64 m0.gE)] T0)] [] (fun d h k => d = eTApiExpr r.1 ∧ h = [(o0, Blk.cells [.lst 4 (r.2.gL.map eTApiToken) .no, .v (.int .i64 r.2.gAt), .v (.int .i64 r.2.gE)] T0)] ∧ k = [])) (hg2 : ∀ (m0 : TParseReader) (a1 : TApiExpr) (a2 : Int) (a3 : Int) (o0 : Nat) (T0 : TypeId) (c0_0 : Cap) (r : TApiExpr × TParseReader) (h0 : g2 m0 a1 a2 a3 = some r), CallsD Try.prog 26 [.ptr o0 0, eTApiExpr a1, .v (.int .i64 a2), .v (.int .i64 a3)] [(o0, Blk.cells [.lst 4 (m0.gL.map eTApiToken) c0_0, .v (.int .i64 m0.gAt), .v (.int .i64 m0.gE)] T0)] [] (fun d h k => d = eTApiExpr r.1 ∧ h = [(o0, Blk.cells [.lst 4 (r.2.gL.map eTApiToken) .no, .v (.int .i64 r.2.gAt), .v (.int .i64 r.2.gE)] T0)] ∧ k = [])) (hg3 : ∀ (m0 : TParseReader) (a1 : ByteArray) (o0 : Nat) (T0 : TypeId) (c0_0 : Cap) (r : TApiExpr × TParseReader) (h0 : g3 m0 a1 = some r), CallsD Try.prog 34 [.ptr o0 0, .v (.string a1)] [(o0, Blk.cells [.lst 4 (m0.gL.map eTApiToken) c0_0, .v (.int .i64 m0.gAt), .v (.int .i64 m0.gE)] T0)] [] (fun d h k => d = eTApiExpr r.1 ∧ h = [(o0, Blk.cells [.lst 4 (r.2.gL.map eTApiToken) .no, .v (.int .i64 r.2.gAt), .v (.int .i64 r.2.gE)] T0)] ∧ k = [])) (hg4 : ∀ (m0 : TParseReader) (a1 : TApiToken) (a2 : Int) (o0 : Nat) (T0 : TypeId) (c0_0 : Cap) (r : TApiExpr × TParseReader) (h0 : g4 m0 a1 a2 = some r), CallsD Try.prog 27 [.ptr o0 0, eTApiToken a1, .v (.int .i64 a2)] [(o0, Blk.cells [.lst 4 (m0.gL.map eTApiToken) c0_0, .v (.int .i64 m0.gAt), .v (.int .i64 m0.gE)] T0)] [] (fun d h k => d = eTApiExpr r.1 ∧ h = [(o0, Blk.cells [.lst 4 (r.2.gL.map eTApiToken) .no, .v (.int .i64 r.2.gAt), .v (.int .i64 r.2.gE)] T0)] ∧ k = [])) (m0 : TParseReader) (a1 : TApiToken) (a2 : Int) (o0 : Nat) (T0 : TypeId) (c0_0 : Cap) (r : TApiExpr × TParseReader) (h0 : parse_reader_sign_b g0 g1 g2 g3 g4 m0 a1 a2 = some r) : CallsD Try.prog 27 [.ptr o0 0, eTApiToken a1, .v (.int .i64 a2)] [(o0, Blk.cells [.lst 4 (m0.gL.map eTApiToken) c0_0, .v (.int .i64 m0.gAt), .v (.int .i64 m0.gE)] T0)] [] (fun d h k => d = eTApiExpr r.1 ∧ h = [(o0, Blk.cells [.lst 4 (r.2.gL.map eTApiToken) .no, .v (.int .i64 r.2.gAt), .v (.int .i64 r.2.gE)] T0)] ∧ k = []) := by
  have hm := yes_of h0
  unfold parse_reader_sign_b at hm
  clear h0
  refine enterX htab Try.func27 rfl rfl rfl rfl rfl (fun C => ?_)
  refine wpD_seq ?_
  refine wpD_region ?_
  refine p_box rfl rfl rfl rfl rfl rfl rfl (fun b1 => ?_)
  refine p_alloc htab rfl rfl rfl rfl rfl rfl rfl (fun b2 => ?_)
  refine ops_nil ?_
  refine then_normal ?_
  refine wpD_seq ?_
  refine wpD_seq ?_
  refine wpD_region ?_
  refine p_pure htab rfl rfl rfl rfl ?_
  refine p_load 1 htab rfl rfl rfl rfl rfl rfl rfl rfl ?_
  refine ops_nil ?_
  refine then_normal ?_
  refine wpD_block ?_
  refine wpD_seq ?_
  refine wpD_seq ?_
  refine wpD_region ?_
  refine p_pure htab rfl rfl rfl rfl ?_
  refine p_pure htab rfl rfl rfl rfl ?_
  refine ops_nil ?_
  refine then_normal ?_
  obtain ⟨y19, q19, ho19⟩ := yes_bind hm
  refine wpD_mid (Y := Unit) (fun z19 => (⟨[(0, .ptr o0 0), (2, .v (.int .i64 a2)), (4, .ptr b1 0), (6, .ptr b2 0), (9, .v (.string a1.gText)), (10, .v (.bool y19))], [(o0, Blk.cells [.lst 4 (m0.gL.map eTApiToken) c0_0, .v (.int .i64 m0.gAt), .v (.int .i64 m0.gE)] T0), (b1, Blk.cells [.v (.int .i64 a1.gKind), .v (.string a1.gText), .v (.int .i64 a1.gN), .v (.int .i64 a1.gAt)] 38), (b2, Blk.cells [.v (.int .i64 (0 : Int)), .v (.int .i64 (0 : Int)), .v (.string ByteArray.empty), .lst 1 [] .full, .v (.int .i64 (0 : Int))] 26)], []⟩ : S)) ?_ ?_
  · clear hm; have hm := yes_of q19
    refine wpD_cond rfl (fun hc20 => ?_) (fun hc20 => ?_)
    · replace hm := yes_t hc20 hm
      refine wpD_skip ?_
      have e19 := yes_eq hm; subst e19
      refine ⟨rfl, ?_⟩
      exact WkX.of () (WkS.perm (WkS.cons rfl (Wk.refl _) (WkS.cons rfl (Wk.refl _) (WkS.cons rfl (Wk.refl _) (WkS.cons rfl (Wk.refl _) (WkS.cons rfl (Wk.refl _) (WkS.cons rfl (Wk.refl _) (WkS.nil))))))) (List.Perm.refl _) (List.Perm.refl _))
    · replace hm := yes_f hc20 hm
      refine wpD_region ?_
      refine p_pure htab rfl rfl rfl rfl ?_
      refine p_pure htab rfl rfl rfl rfl ?_
      refine ops_nil ?_
      have e19 := yes_eq hm; subst e19
      refine ⟨rfl, ?_⟩
      exact WkX.of () (WkS.perm (WkS.cons rfl (Wk.refl _) (WkS.cons rfl (Wk.refl _) (WkS.cons rfl (Wk.refl _) (WkS.cons rfl (Wk.refl _) (WkS.cons rfl (Wk.refl _) (WkS.cons rfl (Wk.refl _) (WkS.nil))))))) (List.Perm.refl _) (List.Perm.refl _))
  · intro s19 hw19; clear hm; have hm := ho19; clear q19 ho19
    refine then_normal ?_
    refine wpD_wkX hw19 (fun z19 => ?_)
    refine wpD_cond rfl (fun hc33 => ?_) (fun hc33 => ?_)
    · replace hm := yes_t hc33 hm
      refine wpD_seq ?_
      refine wpD_region ?_
      refine p_pure htab rfl rfl rfl rfl ?_
      refine p_load 1 htab rfl rfl rfl rfl rfl rfl rfl rfl ?_
      obtain ⟨x34, q34, hm⟩ := yes_bind hm
      refine p_call0 (parse_pick_ok a1.gText (ByteArray.mk #[45]) (5 : Int) (ByteArray.mk #[33]) (6 : Int) x34 q34) rfl rfl rfl rfl rfl (WkL.refl _) ?_
      rintro _ rfl
      refine p_pure htab rfl rfl rfl rfl ?_
      refine ops_nil ?_
      refine then_normal ?_
      refine wpD_seq ?_
      obtain ⟨x35, q35, hm⟩ := yes_bind hm
      refine wpD_heavyX (X := BK) 9 [] [[],[],[],[2],[2,3],[],[5],[2,3,4,5,6],[]] [0,2,3,4,5,6,7] [[],[],[],[2],[2,3],[],[5],[1,2,3,4,5,6],[],[0,1,2,3,4,5,6,7,8],[0,1,2,3,4,5,6,7,8,9]] ⟨3, fun x => x.1 ++ [(b1, Blk.cells [.v (.int .i64 a1.gKind), .v (.string a1.gText), .v (.int .i64 a1.gN), .v (.int .i64 a1.gAt)] 38), (b2, Blk.cells [.v (.int .i64 (0 : Int)), .v (.int .i64 (0 : Int)), .v (.string ByteArray.empty), .lst 1 [] .full, .v (.int .i64 (0 : Int))] 26)], fun x => x.2 ++ [], fun x => x.1 = [(o0, Blk.cells [.lst 4 (x35.2.gL.map eTApiToken) .no, .v (.int .i64 x35.2.gAt), .v (.int .i64 x35.2.gE)] T0)] ∧ x.2 = []⟩ ([], []) (by kernel_rfl) (by kernel_rfl) (by kernel_rfl) (by rfl) (by rfl) (by kernel_rfl) ?_
      apply Exists.intro
      apply Exists.intro
      apply Exists.intro
      apply Exists.intro
      apply Exists.intro
      apply Exists.intro
      apply Exists.intro
      intro bs
      refine zx_e rfl rfl (ex_pure htab rfl) rfl rfl rfl rfl rfl rfl rfl rfl ?_
      refine zx_q rfl rfl (ex_pure htab rfl) rfl rfl rfl rfl rfl rfl ?_
      refine zx_e rfl rfl (ex_pure htab rfl) rfl rfl rfl rfl rfl rfl rfl rfl ?_
      refine zx_callH (h1 := [(o0, Blk.cells [.lst 4 (m0.gL.map eTApiToken) c0_0, .v (.int .i64 m0.gAt), .v (.int .i64 m0.gE)] T0)]) (k1 := []) (d := .agg [.v (.int .i64 x35.1.gOp), .v (.int .i64 x35.1.gN), .v (.string x35.1.gName), .lst 5 (x35.1.gKids.map eTApiExpr) .no, .v (.int .i64 x35.1.gAt)]) rfl rfl rfl (hg1 m0 o0 T0 c0_0 x35 q35) rfl rfl (WkL.refl _) (List.Perm.refl _) (List.Perm.refl _) (fun _ => rfl) (fun _ => rfl) (fun d' h' k' ⟨e1, e2, e3⟩ => ⟨⟨e2, e3⟩, by subst e1; exact Wk.of_eq (eTApiExpr_eq x35.1)⟩) rfl rfl rfl rfl rfl rfl ?_
      refine zx_E rfl rfl (ExE.wk (x_lit htab rfl rfl rfl rfl rfl rfl rfl rfl rfl rfl rfl) (show Wk _ (.lst 5 (([x35.1] : List TApiExpr).map eTApiExpr) .full) from Wk.lst0 (.cons (WkC.trans (WkC.agg (WkR.refl _)) (WkC.of_eq (eTApiExpr_eq x35.1).symm)) (.nil)))) rfl rfl rfl rfl rfl rfl rfl rfl ?_
      refine zx_e rfl rfl (ex_pure htab rfl) rfl rfl rfl rfl rfl rfl rfl rfl ?_
      refine zx_M rfl rfl (fun _ => xm_load 1 htab rfl rfl rfl rfl rfl) (fun _ ⟨x1, x2⟩ ⟨e1, e2⟩ => by cases e1; cases e2; exact xm_load 1 htab rfl rfl rfl rfl rfl) rfl rfl rfl rfl rfl rfl rfl rfl ?_
      refine zx_e rfl rfl (x_build (r := [.v (.int .i64 x34), .v (.int .i64 (0 : Int)), .v (.string ByteArray.empty), .lst 5 (([x35.1] : List TApiExpr).map eTApiExpr) .full, .v (.int .i64 a1.gAt)]) htab rfl rfl rfl rfl rfl rfl) rfl rfl rfl rfl rfl rfl rfl rfl ?_
      refine zx_q rfl rfl (ex_pure htab rfl) rfl rfl rfl rfl rfl rfl ?_
      refine zx_nilB (h2 := [(b1, Blk.cells [.v (.int .i64 a1.gKind), .v (.string a1.gText), .v (.int .i64 a1.gN), .v (.int .i64 a1.gAt)] 38), (b2, Blk.cells [.v (.int .i64 (0 : Int)), .v (.int .i64 (0 : Int)), .v (.string ByteArray.empty), .lst 1 [] .full, .v (.int .i64 (0 : Int))] 26)]) (hz := [(b1, Blk.cells [.v (.int .i64 a1.gKind), .v (.string a1.gText), .v (.int .i64 a1.gN), .v (.int .i64 a1.gAt)] 38), (b2, Blk.cells [.v (.int .i64 (0 : Int)), .v (.int .i64 (0 : Int)), .v (.string ByteArray.empty), .lst 1 [] .full, .v (.int .i64 (0 : Int))] 26)]) rfl rfl (fun _ => rfl) (fun _ => rfl) rfl (fun e he => by simp [isAl] at he) ?_
      rintro _ _ ⟨rfl, rfl⟩
      obtain ⟨x36, q36, hm⟩ := yes_bind hm
      refine p_callG (parse_reader_sound_ok x35.2 (⟨x34, (0 : Int), ByteArray.empty, ([x35.1] : List TApiExpr), a1.gAt⟩ : TApiExpr) a2 o0 T0 .no x36 q36) rfl rfl rfl rfl rfl (WkL.cons (Wk.refl _) (WkL.cons (Wk.trans (Wk.agg (WkR.cons (WkC.refl _) rfl (WkR.cons (WkC.refl _) rfl (WkR.cons (WkC.refl _) rfl (WkR.cons (WkC.no) rfl (WkR.cons (WkC.refl _) rfl (WkR.nil))))))) (Wk.of_eq (eTApiExpr_eq (⟨x34, (0 : Int), ByteArray.empty, ([x35.1] : List TApiExpr), a1.gAt⟩ : TApiExpr)).symm)) (WkL.cons (Wk.refl _) (WkL.refl _)))) (List.Perm.refl _) (List.Perm.refl _) ?_
      rintro _ _ _ ⟨rfl, rfl, rfl⟩
      refine p_eq (i := 25) rfl (Wk.of_eq (eTApiExpr_eq x36.1)) ?_
      refine p_store (ds' := [.v (.int .i64 x36.1.gOp), .v (.int .i64 x36.1.gN), .v (.string x36.1.gName), .lst 5 (x36.1.gKids.map eTApiExpr) .no, .v (.int .i64 x36.1.gAt)]) (h' := [(o0, Blk.cells [.lst 4 (x36.2.gL.map eTApiToken) .no, .v (.int .i64 x36.2.gAt), .v (.int .i64 x36.2.gE)] T0), (b1, Blk.cells [.v (.int .i64 a1.gKind), .v (.string a1.gText), .v (.int .i64 a1.gN), .v (.int .i64 a1.gAt)] 38), (b2, Blk.cells [.v (.int .i64 x36.1.gOp), .v (.int .i64 x36.1.gN), .v (.string x36.1.gName), .lst 5 (x36.1.gKids.map eTApiExpr) .no, .v (.int .i64 x36.1.gAt)] 26)]) 2 htab rfl rfl rfl rfl rfl rfl rfl rfl rfl rfl rfl rfl ?_
      refine ops_nil ?_
      refine then_normal ?_
      refine wpD_ret ?_
      refine block_ret ?_
      refine then_ret ?_
      have er37 := yes_eq hm; subst er37
      refine retX.of (s' := ⟨[(6, .ptr b2 0)], [(o0, Blk.cells [.lst 4 (x36.2.gL.map eTApiToken) .no, .v (.int .i64 x36.2.gAt), .v (.int .i64 x36.2.gE)] T0), (b2, Blk.cells [.v (.int .i64 x36.1.gOp), .v (.int .i64 x36.1.gN), .v (.string x36.1.gName), .lst 5 (x36.1.gKids.map eTApiExpr) .no, .v (.int .i64 x36.1.gAt)] 26)], []⟩) (WkS.perm (WkS.cons rfl (Wk.refl _) (WkS.nil)) ((perm_at (j := 0) rfl).trans (List.Perm.cons _ ((perm_at (j := 1) rfl).trans (List.Perm.cons _ (List.Perm.refl _))))) (List.Perm.refl _)) (retD_mk (hh := [(o0, Blk.cells [.lst 4 (x36.2.gL.map eTApiToken) .no, .v (.int .i64 x36.2.gAt), .v (.int .i64 x36.2.gE)] T0)]) (.inl rfl) (resL_cons (resOne_cell 1 rfl rfl rfl rfl) (resL_nil)) (List.sublist_append_left [_] _) (List.Sublist.refl _) ?_)
      exact ⟨by first | rfl | (simp only [wrapD, eTApiExpr_eq]; done) | (simp only [wrapD, eTApiExpr_eq]; rfl), rfl, rfl⟩
    · replace hm := yes_f hc33 hm
      refine wpD_seq ?_
      refine wpD_region ?_
      refine p_pure htab rfl rfl rfl rfl ?_
      refine p_pure htab rfl rfl rfl rfl ?_
      refine ops_nil ?_
      refine then_normal ?_
      refine wpD_cond rfl (fun hc46 => ?_) (fun hc46 => ?_)
      · replace hm := yes_t hc46 hm
        refine wpD_seq ?_
        obtain ⟨x47, q47, hm⟩ := yes_bind hm
        refine wpD_heavyX (X := BK) 4 [] [[],[0],[],[2]] [0,1,2,3] [[],[0],[],[2],[0,1,2,3],[0,1,2,3,4]] ⟨1, fun x => x.1 ++ [(b1, Blk.cells [.v (.int .i64 a1.gKind), .v (.string a1.gText), .v (.int .i64 a1.gN), .v (.int .i64 a1.gAt)] 38), (b2, Blk.cells [.v (.int .i64 (0 : Int)), .v (.int .i64 (0 : Int)), .v (.string ByteArray.empty), .lst 1 [] .full, .v (.int .i64 (0 : Int))] 26)], fun x => x.2 ++ [], fun x => x.1 = [(o0, Blk.cells [.lst 4 (x47.2.gL.map eTApiToken) c0_0, .v (.int .i64 x47.2.gAt), .v (.int .i64 x47.2.gE)] T0)] ∧ x.2 = []⟩ ([], []) (by kernel_rfl) (by kernel_rfl) (by kernel_rfl) (by rfl) (by rfl) (by kernel_rfl) ?_
        apply Exists.intro
        apply Exists.intro
        apply Exists.intro
        apply Exists.intro
        intro bs
        refine zx_e rfl rfl (ex_pure htab rfl) rfl rfl rfl rfl rfl rfl rfl rfl ?_
        refine zx_callH (h1 := [(o0, Blk.cells [.lst 4 (m0.gL.map eTApiToken) c0_0, .v (.int .i64 m0.gAt), .v (.int .i64 m0.gE)] T0)]) (k1 := []) (d := .v (.string x47.1)) rfl rfl rfl (parse_reader_name_ok m0 o0 T0 c0_0 x47 q47) rfl rfl (WkL.refl _) (List.Perm.refl _) (List.Perm.refl _) (fun _ => rfl) (fun _ => rfl) (fun d' h' k' ⟨e1, e2, e3⟩ => ⟨⟨e2, e3⟩, by subst e1; exact Wk.refl _⟩) rfl rfl rfl rfl rfl rfl ?_
        refine zx_e rfl rfl (ex_pure htab rfl) rfl rfl rfl rfl rfl rfl rfl rfl ?_
        refine zx_M rfl rfl (fun _ => xm_load 1 htab rfl rfl rfl rfl rfl) (fun _ ⟨x1, x2⟩ ⟨e1, e2⟩ => by cases e1; cases e2; exact xm_load 1 htab rfl rfl rfl rfl rfl) rfl rfl rfl rfl rfl rfl rfl rfl ?_
        refine zx_nilB (h2 := [(b1, Blk.cells [.v (.int .i64 a1.gKind), .v (.string a1.gText), .v (.int .i64 a1.gN), .v (.int .i64 a1.gAt)] 38), (b2, Blk.cells [.v (.int .i64 (0 : Int)), .v (.int .i64 (0 : Int)), .v (.string ByteArray.empty), .lst 1 [] .full, .v (.int .i64 (0 : Int))] 26)]) (hz := [(b1, Blk.cells [.v (.int .i64 a1.gKind), .v (.string a1.gText), .v (.int .i64 a1.gN), .v (.int .i64 a1.gAt)] 38), (b2, Blk.cells [.v (.int .i64 (0 : Int)), .v (.int .i64 (0 : Int)), .v (.string ByteArray.empty), .lst 1 [] .full, .v (.int .i64 (0 : Int))] 26)]) rfl rfl (fun _ => rfl) (fun _ => rfl) rfl (fun e he => by simp [isAl] at he) ?_
        rintro _ _ ⟨rfl, rfl⟩
        refine p_build (r := [.v (.int .i64 (4 : Int)), .v (.int .i64 (0 : Int)), .v (.string x47.1), .lst 1 [] .full, .v (.int .i64 a1.gAt)]) htab rfl rfl rfl rfl rfl rfl rfl rfl rfl ?_
        refine p_store (ds' := [.v (.int .i64 (4 : Int)), .v (.int .i64 (0 : Int)), .v (.string x47.1), .lst 1 [] .full, .v (.int .i64 a1.gAt)]) (h' := [(o0, Blk.cells [.lst 4 (x47.2.gL.map eTApiToken) c0_0, .v (.int .i64 x47.2.gAt), .v (.int .i64 x47.2.gE)] T0), (b1, Blk.cells [.v (.int .i64 a1.gKind), .v (.string a1.gText), .v (.int .i64 a1.gN), .v (.int .i64 a1.gAt)] 38), (b2, Blk.cells [.v (.int .i64 (4 : Int)), .v (.int .i64 (0 : Int)), .v (.string x47.1), .lst 1 [] .full, .v (.int .i64 a1.gAt)] 26)]) 2 htab rfl rfl rfl rfl rfl rfl rfl rfl rfl rfl rfl rfl ?_
        refine ops_nil ?_
        refine then_normal ?_
        refine wpD_ret ?_
        refine block_ret ?_
        refine then_ret ?_
        have er48 := yes_eq hm; subst er48
        refine retX.wk (WkS.blk (ds' := [.v (.int .i64 (4 : Int)), .v (.int .i64 (0 : Int)), .v (.string x47.1), .lst 5 (([] : List TApiExpr).map eTApiExpr) .no, .v (.int .i64 a1.gAt)]) (h' := [(o0, Blk.cells [.lst 4 (x47.2.gL.map eTApiToken) c0_0, .v (.int .i64 x47.2.gAt), .v (.int .i64 x47.2.gE)] T0), (b1, Blk.cells [.v (.int .i64 a1.gKind), .v (.string a1.gText), .v (.int .i64 a1.gN), .v (.int .i64 a1.gAt)] 38), (b2, Blk.cells [.v (.int .i64 (4 : Int)), .v (.int .i64 (0 : Int)), .v (.string x47.1), .lst 5 (([] : List TApiExpr).map eTApiExpr) .no, .v (.int .i64 a1.gAt)] 26)]) 2 rfl (WkR.cons (WkC.refl _) rfl (WkR.cons (WkC.refl _) rfl (WkR.cons (WkC.refl _) rfl (WkR.cons (WkC.nil) rfl (WkR.cons (WkC.refl _) rfl (WkR.nil)))))) rfl) ?_
        refine retX.wk (WkS.blk (ds' := [.lst 4 (x47.2.gL.map eTApiToken) .no, .v (.int .i64 x47.2.gAt), .v (.int .i64 x47.2.gE)]) (h' := [(o0, Blk.cells [.lst 4 (x47.2.gL.map eTApiToken) .no, .v (.int .i64 x47.2.gAt), .v (.int .i64 x47.2.gE)] T0), (b1, Blk.cells [.v (.int .i64 a1.gKind), .v (.string a1.gText), .v (.int .i64 a1.gN), .v (.int .i64 a1.gAt)] 38), (b2, Blk.cells [.v (.int .i64 (4 : Int)), .v (.int .i64 (0 : Int)), .v (.string x47.1), .lst 5 (([] : List TApiExpr).map eTApiExpr) .no, .v (.int .i64 a1.gAt)] 26)]) 0 rfl (WkR.cons (WkC.no) rfl (WkR.cons (WkC.refl _) rfl (WkR.cons (WkC.refl _) rfl (WkR.nil)))) rfl) ?_
        refine retX.of (s' := ⟨[(6, .ptr b2 0)], [(o0, Blk.cells [.lst 4 (x47.2.gL.map eTApiToken) .no, .v (.int .i64 x47.2.gAt), .v (.int .i64 x47.2.gE)] T0), (b2, Blk.cells [.v (.int .i64 (4 : Int)), .v (.int .i64 (0 : Int)), .v (.string x47.1), .lst 5 (([] : List TApiExpr).map eTApiExpr) .no, .v (.int .i64 a1.gAt)] 26)], []⟩) (WkS.perm (WkS.cons rfl (Wk.refl _) (WkS.nil)) ((perm_at (j := 0) rfl).trans (List.Perm.cons _ ((perm_at (j := 1) rfl).trans (List.Perm.cons _ (List.Perm.refl _))))) (List.Perm.refl _)) (retD_mk (hh := [(o0, Blk.cells [.lst 4 (x47.2.gL.map eTApiToken) .no, .v (.int .i64 x47.2.gAt), .v (.int .i64 x47.2.gE)] T0)]) (.inl rfl) (resL_cons (resOne_cell 1 rfl rfl rfl rfl) (resL_nil)) (List.sublist_append_left [_] _) (List.Sublist.refl _) ?_)
        exact ⟨by first | rfl | (simp only [wrapD, eTApiExpr_eq]; done) | (simp only [wrapD, eTApiExpr_eq]; rfl), rfl, rfl⟩
      · replace hm := yes_f hc46 hm
        refine wpD_seq ?_
        refine wpD_region ?_
        refine p_pure htab rfl rfl rfl rfl ?_
        refine p_pure htab rfl rfl rfl rfl ?_
        refine ops_nil ?_
        refine then_normal ?_
        refine wpD_cond rfl (fun hc55 => ?_) (fun hc55 => ?_)
        · replace hm := yes_t hc55 hm
          refine wpD_seq ?_
          obtain ⟨x56, q56, hm⟩ := yes_bind hm
          refine wpD_heavyX (X := BK) 7 [] [[],[],[1],[],[3],[1,2,3,4],[]] [0,1,2,3,4,5] [[],[],[1],[],[3],[1,2,3,4],[],[0,1,2,3,4,5,6],[0,1,2,3,4,5,6,7]] ⟨2, fun x => x.1 ++ [(b1, Blk.cells [.v (.int .i64 a1.gKind), .v (.string a1.gText), .v (.int .i64 a1.gN), .v (.int .i64 a1.gAt)] 38), (b2, Blk.cells [.v (.int .i64 (0 : Int)), .v (.int .i64 (0 : Int)), .v (.string ByteArray.empty), .lst 1 [] .full, .v (.int .i64 (0 : Int))] 26)], fun x => x.2 ++ [], fun x => x.1 = [(o0, Blk.cells [.lst 4 (x56.2.gL.map eTApiToken) c0_0, .v (.int .i64 x56.2.gAt), .v (.int .i64 x56.2.gE)] T0)] ∧ x.2 = []⟩ ([], []) (by kernel_rfl) (by kernel_rfl) (by kernel_rfl) (by rfl) (by rfl) (by kernel_rfl) ?_
          apply Exists.intro
          apply Exists.intro
          apply Exists.intro
          apply Exists.intro
          apply Exists.intro
          apply Exists.intro
          intro bs
          refine zx_e rfl rfl (ex_pure htab rfl) rfl rfl rfl rfl rfl rfl rfl rfl ?_
          refine zx_e rfl rfl (ex_pure htab rfl) rfl rfl rfl rfl rfl rfl rfl rfl ?_
          refine zx_callH (h1 := [(o0, Blk.cells [.lst 4 (m0.gL.map eTApiToken) c0_0, .v (.int .i64 m0.gAt), .v (.int .i64 m0.gE)] T0)]) (k1 := []) (d := .v (.string x56.1)) rfl rfl rfl (parse_reader_name_ok m0 o0 T0 c0_0 x56 q56) rfl rfl (WkL.refl _) (List.Perm.refl _) (List.Perm.refl _) (fun _ => rfl) (fun _ => rfl) (fun d' h' k' ⟨e1, e2, e3⟩ => ⟨⟨e2, e3⟩, by subst e1; exact Wk.refl _⟩) rfl rfl rfl rfl rfl rfl ?_
          refine zx_e rfl rfl (ex_pure htab rfl) rfl rfl rfl rfl rfl rfl rfl rfl ?_
          refine zx_M rfl rfl (fun _ => xm_load 1 htab rfl rfl rfl rfl rfl) (fun _ ⟨x1, x2⟩ ⟨e1, e2⟩ => by cases e1; cases e2; exact xm_load 1 htab rfl rfl rfl rfl rfl) rfl rfl rfl rfl rfl rfl rfl rfl ?_
          refine zx_e rfl rfl (x_build (r := [.v (.int .i64 (19 : Int)), .v (.int .i64 (0 : Int)), .v (.string x56.1), .lst 1 [] .full, .v (.int .i64 a1.gAt)]) htab rfl rfl rfl rfl rfl rfl) rfl rfl rfl rfl rfl rfl rfl rfl ?_
          refine zx_q rfl rfl (ex_pure htab rfl) rfl rfl rfl rfl rfl rfl ?_
          refine zx_nilB (h2 := [(b1, Blk.cells [.v (.int .i64 a1.gKind), .v (.string a1.gText), .v (.int .i64 a1.gN), .v (.int .i64 a1.gAt)] 38), (b2, Blk.cells [.v (.int .i64 (0 : Int)), .v (.int .i64 (0 : Int)), .v (.string ByteArray.empty), .lst 1 [] .full, .v (.int .i64 (0 : Int))] 26)]) (hz := [(b1, Blk.cells [.v (.int .i64 a1.gKind), .v (.string a1.gText), .v (.int .i64 a1.gN), .v (.int .i64 a1.gAt)] 38), (b2, Blk.cells [.v (.int .i64 (0 : Int)), .v (.int .i64 (0 : Int)), .v (.string ByteArray.empty), .lst 1 [] .full, .v (.int .i64 (0 : Int))] 26)]) rfl rfl (fun _ => rfl) (fun _ => rfl) rfl (fun e he => by simp [isAl] at he) ?_
          rintro _ _ ⟨rfl, rfl⟩
          obtain ⟨x57, q57, hm⟩ := yes_bind hm
          refine p_callG (hg2 x56.2 (⟨(19 : Int), (0 : Int), x56.1, [], a1.gAt⟩ : TApiExpr) (20 : Int) a2 o0 T0 c0_0 x57 q57) rfl rfl rfl rfl rfl (WkL.cons (Wk.refl _) (WkL.cons (Wk.trans (Wk.agg (WkR.cons (WkC.refl _) rfl (WkR.cons (WkC.refl _) rfl (WkR.cons (WkC.refl _) rfl (WkR.cons (WkC.nil) rfl (WkR.cons (WkC.refl _) rfl (WkR.nil))))))) (Wk.of_eq (eTApiExpr_eq (⟨(19 : Int), (0 : Int), x56.1, [], a1.gAt⟩ : TApiExpr)).symm)) (WkL.cons (Wk.refl _) (WkL.cons (Wk.refl _) (WkL.refl _))))) (List.Perm.refl _) (List.Perm.refl _) ?_
          rintro _ _ _ ⟨rfl, rfl, rfl⟩
          refine p_eq (i := 42) rfl (Wk.of_eq (eTApiExpr_eq x57.1)) ?_
          refine p_store (ds' := [.v (.int .i64 x57.1.gOp), .v (.int .i64 x57.1.gN), .v (.string x57.1.gName), .lst 5 (x57.1.gKids.map eTApiExpr) .no, .v (.int .i64 x57.1.gAt)]) (h' := [(o0, Blk.cells [.lst 4 (x57.2.gL.map eTApiToken) .no, .v (.int .i64 x57.2.gAt), .v (.int .i64 x57.2.gE)] T0), (b1, Blk.cells [.v (.int .i64 a1.gKind), .v (.string a1.gText), .v (.int .i64 a1.gN), .v (.int .i64 a1.gAt)] 38), (b2, Blk.cells [.v (.int .i64 x57.1.gOp), .v (.int .i64 x57.1.gN), .v (.string x57.1.gName), .lst 5 (x57.1.gKids.map eTApiExpr) .no, .v (.int .i64 x57.1.gAt)] 26)]) 2 htab rfl rfl rfl rfl rfl rfl rfl rfl rfl rfl rfl rfl ?_
          refine ops_nil ?_
          refine then_normal ?_
          refine wpD_ret ?_
          refine block_ret ?_
          refine then_ret ?_
          have er58 := yes_eq hm; subst er58
          refine retX.of (s' := ⟨[(6, .ptr b2 0)], [(o0, Blk.cells [.lst 4 (x57.2.gL.map eTApiToken) .no, .v (.int .i64 x57.2.gAt), .v (.int .i64 x57.2.gE)] T0), (b2, Blk.cells [.v (.int .i64 x57.1.gOp), .v (.int .i64 x57.1.gN), .v (.string x57.1.gName), .lst 5 (x57.1.gKids.map eTApiExpr) .no, .v (.int .i64 x57.1.gAt)] 26)], []⟩) (WkS.perm (WkS.cons rfl (Wk.refl _) (WkS.nil)) ((perm_at (j := 0) rfl).trans (List.Perm.cons _ ((perm_at (j := 1) rfl).trans (List.Perm.cons _ (List.Perm.refl _))))) (List.Perm.refl _)) (retD_mk (hh := [(o0, Blk.cells [.lst 4 (x57.2.gL.map eTApiToken) .no, .v (.int .i64 x57.2.gAt), .v (.int .i64 x57.2.gE)] T0)]) (.inl rfl) (resL_cons (resOne_cell 1 rfl rfl rfl rfl) (resL_nil)) (List.sublist_append_left [_] _) (List.Sublist.refl _) ?_)
          exact ⟨by first | rfl | (simp only [wrapD, eTApiExpr_eq]; done) | (simp only [wrapD, eTApiExpr_eq]; rfl), rfl, rfl⟩
        · replace hm := yes_f hc55 hm
          refine wpD_seq ?_
          refine wpD_region ?_
          refine p_pure htab rfl rfl rfl rfl ?_
          refine p_pure htab rfl rfl rfl rfl ?_
          refine ops_nil ?_
          refine then_normal ?_
          refine wpD_cond rfl (fun hc62 => ?_) (fun hc62 => ?_)
          · replace hm := yes_t hc62 hm
            refine wpD_seq ?_
            refine wpD_region ?_
            refine p_pure htab rfl rfl rfl rfl ?_
            refine p_load 1 htab rfl rfl rfl rfl rfl rfl rfl rfl ?_
            refine p_build (r := [.v (.int .i64 (18 : Int)), .v (.int .i64 (0 : Int)), .v (.string ByteArray.empty), .lst 1 [] .full, .v (.int .i64 a1.gAt)]) htab rfl rfl rfl rfl rfl rfl rfl rfl rfl ?_
            refine p_store (ds' := [.v (.int .i64 (18 : Int)), .v (.int .i64 (0 : Int)), .v (.string ByteArray.empty), .lst 1 [] .full, .v (.int .i64 a1.gAt)]) (h' := [(o0, Blk.cells [.lst 4 (m0.gL.map eTApiToken) c0_0, .v (.int .i64 m0.gAt), .v (.int .i64 m0.gE)] T0), (b1, Blk.cells [.v (.int .i64 a1.gKind), .v (.string a1.gText), .v (.int .i64 a1.gN), .v (.int .i64 a1.gAt)] 38), (b2, Blk.cells [.v (.int .i64 (18 : Int)), .v (.int .i64 (0 : Int)), .v (.string ByteArray.empty), .lst 1 [] .full, .v (.int .i64 a1.gAt)] 26)]) 2 htab rfl rfl rfl rfl rfl rfl rfl rfl rfl rfl rfl rfl ?_
            refine ops_nil ?_
            refine then_normal ?_
            refine wpD_ret ?_
            refine block_ret ?_
            refine then_ret ?_
            have er63 := yes_eq hm; subst er63
            refine retX.wk (WkS.blk (ds' := [.v (.int .i64 (18 : Int)), .v (.int .i64 (0 : Int)), .v (.string ByteArray.empty), .lst 5 (([] : List TApiExpr).map eTApiExpr) .no, .v (.int .i64 a1.gAt)]) (h' := [(o0, Blk.cells [.lst 4 (m0.gL.map eTApiToken) c0_0, .v (.int .i64 m0.gAt), .v (.int .i64 m0.gE)] T0), (b1, Blk.cells [.v (.int .i64 a1.gKind), .v (.string a1.gText), .v (.int .i64 a1.gN), .v (.int .i64 a1.gAt)] 38), (b2, Blk.cells [.v (.int .i64 (18 : Int)), .v (.int .i64 (0 : Int)), .v (.string ByteArray.empty), .lst 5 (([] : List TApiExpr).map eTApiExpr) .no, .v (.int .i64 a1.gAt)] 26)]) 2 rfl (WkR.cons (WkC.refl _) rfl (WkR.cons (WkC.refl _) rfl (WkR.cons (WkC.refl _) rfl (WkR.cons (WkC.nil) rfl (WkR.cons (WkC.refl _) rfl (WkR.nil)))))) rfl) ?_
            refine retX.wk (WkS.blk (ds' := [.lst 4 (m0.gL.map eTApiToken) .no, .v (.int .i64 m0.gAt), .v (.int .i64 m0.gE)]) (h' := [(o0, Blk.cells [.lst 4 (m0.gL.map eTApiToken) .no, .v (.int .i64 m0.gAt), .v (.int .i64 m0.gE)] T0), (b1, Blk.cells [.v (.int .i64 a1.gKind), .v (.string a1.gText), .v (.int .i64 a1.gN), .v (.int .i64 a1.gAt)] 38), (b2, Blk.cells [.v (.int .i64 (18 : Int)), .v (.int .i64 (0 : Int)), .v (.string ByteArray.empty), .lst 5 (([] : List TApiExpr).map eTApiExpr) .no, .v (.int .i64 a1.gAt)] 26)]) 0 rfl (WkR.cons (WkC.no) rfl (WkR.cons (WkC.refl _) rfl (WkR.cons (WkC.refl _) rfl (WkR.nil)))) rfl) ?_
            refine retX.of (s' := ⟨[(6, .ptr b2 0)], [(o0, Blk.cells [.lst 4 (m0.gL.map eTApiToken) .no, .v (.int .i64 m0.gAt), .v (.int .i64 m0.gE)] T0), (b2, Blk.cells [.v (.int .i64 (18 : Int)), .v (.int .i64 (0 : Int)), .v (.string ByteArray.empty), .lst 5 (([] : List TApiExpr).map eTApiExpr) .no, .v (.int .i64 a1.gAt)] 26)], []⟩) (WkS.perm (WkS.cons rfl (Wk.refl _) (WkS.nil)) ((perm_at (j := 0) rfl).trans (List.Perm.cons _ ((perm_at (j := 1) rfl).trans (List.Perm.cons _ (List.Perm.refl _))))) (List.Perm.refl _)) (retD_mk (hh := [(o0, Blk.cells [.lst 4 (m0.gL.map eTApiToken) .no, .v (.int .i64 m0.gAt), .v (.int .i64 m0.gE)] T0)]) (.inl rfl) (resL_cons (resOne_cell 1 rfl rfl rfl rfl) (resL_nil)) (List.sublist_append_left [_] _) (List.Sublist.refl _) ?_)
            exact ⟨by first | rfl | (simp only [wrapD, eTApiExpr_eq]; done) | (simp only [wrapD, eTApiExpr_eq]; rfl), rfl, rfl⟩
          · replace hm := yes_f hc62 hm
            refine wpD_seq ?_
            refine wpD_region ?_
            refine p_pure htab rfl rfl rfl rfl ?_
            refine p_pure htab rfl rfl rfl rfl ?_
            refine ops_nil ?_
            refine then_normal ?_
            refine wpD_cond rfl (fun hc66 => ?_) (fun hc66 => ?_)
            · replace hm := yes_t hc66 hm
              refine wpD_seq ?_
              refine wpD_region ?_
              refine p_pure htab rfl rfl rfl rfl ?_
              obtain ⟨x67, q67, hm⟩ := yes_bind hm
              refine p_callG (hg3 m0 (ByteArray.mk #[41]) o0 T0 c0_0 x67 q67) rfl rfl rfl rfl rfl (WkL.refl _) (List.Perm.refl _) (List.Perm.refl _) ?_
              rintro _ _ _ ⟨rfl, rfl, rfl⟩
              refine p_eq (i := 51) rfl (Wk.of_eq (eTApiExpr_eq x67.1)) ?_
              refine p_store (ds' := [.v (.int .i64 x67.1.gOp), .v (.int .i64 x67.1.gN), .v (.string x67.1.gName), .lst 5 (x67.1.gKids.map eTApiExpr) .no, .v (.int .i64 x67.1.gAt)]) (h' := [(o0, Blk.cells [.lst 4 (x67.2.gL.map eTApiToken) .no, .v (.int .i64 x67.2.gAt), .v (.int .i64 x67.2.gE)] T0), (b1, Blk.cells [.v (.int .i64 a1.gKind), .v (.string a1.gText), .v (.int .i64 a1.gN), .v (.int .i64 a1.gAt)] 38), (b2, Blk.cells [.v (.int .i64 x67.1.gOp), .v (.int .i64 x67.1.gN), .v (.string x67.1.gName), .lst 5 (x67.1.gKids.map eTApiExpr) .no, .v (.int .i64 x67.1.gAt)] 26)]) 2 htab rfl rfl rfl rfl rfl rfl rfl rfl rfl rfl rfl rfl ?_
              refine ops_nil ?_
              refine then_normal ?_
              refine wpD_ret ?_
              refine block_ret ?_
              refine then_ret ?_
              have er68 := yes_eq hm; subst er68
              refine retX.of (s' := ⟨[(6, .ptr b2 0)], [(o0, Blk.cells [.lst 4 (x67.2.gL.map eTApiToken) .no, .v (.int .i64 x67.2.gAt), .v (.int .i64 x67.2.gE)] T0), (b2, Blk.cells [.v (.int .i64 x67.1.gOp), .v (.int .i64 x67.1.gN), .v (.string x67.1.gName), .lst 5 (x67.1.gKids.map eTApiExpr) .no, .v (.int .i64 x67.1.gAt)] 26)], []⟩) (WkS.perm (WkS.cons rfl (Wk.refl _) (WkS.nil)) ((perm_at (j := 0) rfl).trans (List.Perm.cons _ ((perm_at (j := 1) rfl).trans (List.Perm.cons _ (List.Perm.refl _))))) (List.Perm.refl _)) (retD_mk (hh := [(o0, Blk.cells [.lst 4 (x67.2.gL.map eTApiToken) .no, .v (.int .i64 x67.2.gAt), .v (.int .i64 x67.2.gE)] T0)]) (.inl rfl) (resL_cons (resOne_cell 1 rfl rfl rfl rfl) (resL_nil)) (List.sublist_append_left [_] _) (List.Sublist.refl _) ?_)
              exact ⟨by first | rfl | (simp only [wrapD, eTApiExpr_eq]; done) | (simp only [wrapD, eTApiExpr_eq]; rfl), rfl, rfl⟩
            · replace hm := yes_f hc66 hm
              refine wpD_skip ?_
              refine block_normal ?_
              refine then_normal ?_
              refine wpD_seq ?_
              refine wpD_region ?_
              refine p_pure htab rfl rfl rfl rfl ?_
              refine p_pure htab rfl rfl rfl rfl ?_
              obtain ⟨x69, q69, hm⟩ := yes_bind hm
              refine p_callG (parse_reader_fail_ok m0 a2 (3 : Int) o0 T0 c0_0 x69 q69) rfl rfl rfl rfl rfl (WkL.refl _) (List.Perm.refl _) (List.Perm.refl _) ?_
              rintro _ _ _ ⟨rfl, rfl, rfl⟩
              refine ops_nil ?_
              refine then_normal ?_
              refine wpD_seq ?_
              refine wpD_region ?_
              refine p_build (r := [.v (.int .i64 (0 : Int)), .v (.int .i64 (0 : Int)), .v (.string ByteArray.empty), .lst 1 [] .full, .v (.int .i64 (0 : Int))]) htab rfl rfl rfl rfl rfl rfl rfl rfl rfl ?_
              refine p_store (ds' := [.v (.int .i64 (0 : Int)), .v (.int .i64 (0 : Int)), .v (.string ByteArray.empty), .lst 1 [] .full, .v (.int .i64 (0 : Int))]) (h' := [(o0, Blk.cells [.lst 4 (x69.gL.map eTApiToken) c0_0, .v (.int .i64 x69.gAt), .v (.int .i64 x69.gE)] T0), (b1, Blk.cells [.v (.int .i64 a1.gKind), .v (.string a1.gText), .v (.int .i64 a1.gN), .v (.int .i64 a1.gAt)] 38), (b2, Blk.cells [.v (.int .i64 (0 : Int)), .v (.int .i64 (0 : Int)), .v (.string ByteArray.empty), .lst 1 [] .full, .v (.int .i64 (0 : Int))] 26)]) 2 htab rfl rfl rfl rfl rfl rfl rfl rfl rfl rfl rfl rfl ?_
              refine ops_nil ?_
              refine then_normal ?_
              refine wpD_ret ?_
              have er70 := yes_eq hm; subst er70
              refine retX.wk (WkS.blk (ds' := [.v (.int .i64 (0 : Int)), .v (.int .i64 (0 : Int)), .v (.string ByteArray.empty), .lst 5 (([] : List TApiExpr).map eTApiExpr) .no, .v (.int .i64 (0 : Int))]) (h' := [(o0, Blk.cells [.lst 4 (x69.gL.map eTApiToken) c0_0, .v (.int .i64 x69.gAt), .v (.int .i64 x69.gE)] T0), (b1, Blk.cells [.v (.int .i64 a1.gKind), .v (.string a1.gText), .v (.int .i64 a1.gN), .v (.int .i64 a1.gAt)] 38), (b2, Blk.cells [.v (.int .i64 (0 : Int)), .v (.int .i64 (0 : Int)), .v (.string ByteArray.empty), .lst 5 (([] : List TApiExpr).map eTApiExpr) .no, .v (.int .i64 (0 : Int))] 26)]) 2 rfl (WkR.cons (WkC.refl _) rfl (WkR.cons (WkC.refl _) rfl (WkR.cons (WkC.refl _) rfl (WkR.cons (WkC.nil) rfl (WkR.cons (WkC.refl _) rfl (WkR.nil)))))) rfl) ?_
              refine retX.wk (WkS.blk (ds' := [.lst 4 (x69.gL.map eTApiToken) .no, .v (.int .i64 x69.gAt), .v (.int .i64 x69.gE)]) (h' := [(o0, Blk.cells [.lst 4 (x69.gL.map eTApiToken) .no, .v (.int .i64 x69.gAt), .v (.int .i64 x69.gE)] T0), (b1, Blk.cells [.v (.int .i64 a1.gKind), .v (.string a1.gText), .v (.int .i64 a1.gN), .v (.int .i64 a1.gAt)] 38), (b2, Blk.cells [.v (.int .i64 (0 : Int)), .v (.int .i64 (0 : Int)), .v (.string ByteArray.empty), .lst 5 (([] : List TApiExpr).map eTApiExpr) .no, .v (.int .i64 (0 : Int))] 26)]) 0 rfl (WkR.cons (WkC.no) rfl (WkR.cons (WkC.refl _) rfl (WkR.cons (WkC.refl _) rfl (WkR.nil)))) rfl) ?_
              refine retX.of (s' := ⟨[(6, .ptr b2 0)], [(o0, Blk.cells [.lst 4 (x69.gL.map eTApiToken) .no, .v (.int .i64 x69.gAt), .v (.int .i64 x69.gE)] T0), (b2, Blk.cells [.v (.int .i64 (0 : Int)), .v (.int .i64 (0 : Int)), .v (.string ByteArray.empty), .lst 5 (([] : List TApiExpr).map eTApiExpr) .no, .v (.int .i64 (0 : Int))] 26)], []⟩) (WkS.perm (WkS.cons rfl (Wk.refl _) (WkS.nil)) ((perm_at (j := 0) rfl).trans (List.Perm.cons _ ((perm_at (j := 1) rfl).trans (List.Perm.cons _ (List.Perm.refl _))))) (List.Perm.refl _)) (retD_mk (hh := [(o0, Blk.cells [.lst 4 (x69.gL.map eTApiToken) .no, .v (.int .i64 x69.gAt), .v (.int .i64 x69.gE)] T0)]) (.inl rfl) (resL_cons (resOne_cell 1 rfl rfl rfl rfl) (resL_nil)) (List.sublist_append_left [_] _) (List.Sublist.refl _) ?_)
              exact ⟨by first | rfl | (simp only [wrapD, eTApiExpr_eq]; done) | (simp only [wrapD, eTApiExpr_eq]; rfl), rfl, rfl⟩
noncomputable def parse_reader_row_g : Nat → ((TParseReader) → (Int) → Option (TApiExpr × TParseReader)) × ((TParseReader) → Option (TApiExpr × TParseReader)) × ((TParseReader) → (TApiExpr) → (Int) → (Int) → Option (TApiExpr × TParseReader)) × ((TParseReader) → (ByteArray) → Option (TApiExpr × TParseReader)) × ((TParseReader) → (TApiToken) → (Int) → Option (TApiExpr × TParseReader))
  | 0 => (fun _ _ => none, fun _ => none, fun _ _ _ _ => none, fun _ _ => none, fun _ _ _ => none)
  | n + 1 => (parse_reader_row_b ((parse_reader_row_g n).1) ((parse_reader_row_g n).2.1) ((parse_reader_row_g n).2.2.1) ((parse_reader_row_g n).2.2.2.1) ((parse_reader_row_g n).2.2.2.2), parse_reader_unit_b ((parse_reader_row_g n).1) ((parse_reader_row_g n).2.1) ((parse_reader_row_g n).2.2.1) ((parse_reader_row_g n).2.2.2.1) ((parse_reader_row_g n).2.2.2.2), parse_reader_indexed_b ((parse_reader_row_g n).1) ((parse_reader_row_g n).2.1) ((parse_reader_row_g n).2.2.1) ((parse_reader_row_g n).2.2.2.1) ((parse_reader_row_g n).2.2.2.2), parse_reader_all_b ((parse_reader_row_g n).1) ((parse_reader_row_g n).2.1) ((parse_reader_row_g n).2.2.1) ((parse_reader_row_g n).2.2.2.1) ((parse_reader_row_g n).2.2.2.2), parse_reader_sign_b ((parse_reader_row_g n).1) ((parse_reader_row_g n).2.1) ((parse_reader_row_g n).2.2.1) ((parse_reader_row_g n).2.2.2.1) ((parse_reader_row_g n).2.2.2.2))
theorem parse_reader_row_g_ok : ∀ n, (∀ (m0 : TParseReader) (a1 : Int) (o0 : Nat) (T0 : TypeId) (c0_0 : Cap) (r : TApiExpr × TParseReader) (h0 : (parse_reader_row_g n).1 m0 a1 = some r), CallsD Try.prog 12 [.ptr o0 0, .v (.int .i64 a1)] [(o0, Blk.cells [.lst 4 (m0.gL.map eTApiToken) c0_0, .v (.int .i64 m0.gAt), .v (.int .i64 m0.gE)] T0)] [] (fun d h k => d = eTApiExpr r.1 ∧ h = [(o0, Blk.cells [.lst 4 (r.2.gL.map eTApiToken) .no, .v (.int .i64 r.2.gAt), .v (.int .i64 r.2.gE)] T0)] ∧ k = [])) ∧ (∀ (m0 : TParseReader) (o0 : Nat) (T0 : TypeId) (c0_0 : Cap) (r : TApiExpr × TParseReader) (h0 : (parse_reader_row_g n).2.1 m0 = some r), CallsD Try.prog 18 [.ptr o0 0] [(o0, Blk.cells [.lst 4 (m0.gL.map eTApiToken) c0_0, .v (.int .i64 m0.gAt), .v (.int .i64 m0.gE)] T0)] [] (fun d h k => d = eTApiExpr r.1 ∧ h = [(o0, Blk.cells [.lst 4 (r.2.gL.map eTApiToken) .no, .v (.int .i64 r.2.gAt), .v (.int .i64 r.2.gE)] T0)] ∧ k = [])) ∧ (∀ (m0 : TParseReader) (a1 : TApiExpr) (a2 : Int) (a3 : Int) (o0 : Nat) (T0 : TypeId) (c0_0 : Cap) (r : TApiExpr × TParseReader) (h0 : (parse_reader_row_g n).2.2.1 m0 a1 a2 a3 = some r), CallsD Try.prog 26 [.ptr o0 0, eTApiExpr a1, .v (.int .i64 a2), .v (.int .i64 a3)] [(o0, Blk.cells [.lst 4 (m0.gL.map eTApiToken) c0_0, .v (.int .i64 m0.gAt), .v (.int .i64 m0.gE)] T0)] [] (fun d h k => d = eTApiExpr r.1 ∧ h = [(o0, Blk.cells [.lst 4 (r.2.gL.map eTApiToken) .no, .v (.int .i64 r.2.gAt), .v (.int .i64 r.2.gE)] T0)] ∧ k = [])) ∧ (∀ (m0 : TParseReader) (a1 : ByteArray) (o0 : Nat) (T0 : TypeId) (c0_0 : Cap) (r : TApiExpr × TParseReader) (h0 : (parse_reader_row_g n).2.2.2.1 m0 a1 = some r), CallsD Try.prog 34 [.ptr o0 0, .v (.string a1)] [(o0, Blk.cells [.lst 4 (m0.gL.map eTApiToken) c0_0, .v (.int .i64 m0.gAt), .v (.int .i64 m0.gE)] T0)] [] (fun d h k => d = eTApiExpr r.1 ∧ h = [(o0, Blk.cells [.lst 4 (r.2.gL.map eTApiToken) .no, .v (.int .i64 r.2.gAt), .v (.int .i64 r.2.gE)] T0)] ∧ k = [])) ∧ (∀ (m0 : TParseReader) (a1 : TApiToken) (a2 : Int) (o0 : Nat) (T0 : TypeId) (c0_0 : Cap) (r : TApiExpr × TParseReader) (h0 : (parse_reader_row_g n).2.2.2.2 m0 a1 a2 = some r), CallsD Try.prog 27 [.ptr o0 0, eTApiToken a1, .v (.int .i64 a2)] [(o0, Blk.cells [.lst 4 (m0.gL.map eTApiToken) c0_0, .v (.int .i64 m0.gAt), .v (.int .i64 m0.gE)] T0)] [] (fun d h k => d = eTApiExpr r.1 ∧ h = [(o0, Blk.cells [.lst 4 (r.2.gL.map eTApiToken) .no, .v (.int .i64 r.2.gAt), .v (.int .i64 r.2.gE)] T0)] ∧ k = []))
  | 0 => ⟨(fun _ _ _ _ _ _ h0 => by cases h0), (fun _ _ _ _ _ h0 => by cases h0), (fun _ _ _ _ _ _ _ _ h0 => by cases h0), (fun _ _ _ _ _ _ h0 => by cases h0), (fun _ _ _ _ _ _ _ h0 => by cases h0)⟩
  | n + 1 => by
    have ih := parse_reader_row_g_ok n
    exact ⟨parse_reader_row_b_ok ((parse_reader_row_g n).1) ((parse_reader_row_g n).2.1) ((parse_reader_row_g n).2.2.1) ((parse_reader_row_g n).2.2.2.1) ((parse_reader_row_g n).2.2.2.2) (ih.1) (ih.2.1) (ih.2.2.1) (ih.2.2.2.1) (ih.2.2.2.2), parse_reader_unit_b_ok ((parse_reader_row_g n).1) ((parse_reader_row_g n).2.1) ((parse_reader_row_g n).2.2.1) ((parse_reader_row_g n).2.2.2.1) ((parse_reader_row_g n).2.2.2.2) (ih.1) (ih.2.1) (ih.2.2.1) (ih.2.2.2.1) (ih.2.2.2.2), parse_reader_indexed_b_ok ((parse_reader_row_g n).1) ((parse_reader_row_g n).2.1) ((parse_reader_row_g n).2.2.1) ((parse_reader_row_g n).2.2.2.1) ((parse_reader_row_g n).2.2.2.2) (ih.1) (ih.2.1) (ih.2.2.1) (ih.2.2.2.1) (ih.2.2.2.2), parse_reader_all_b_ok ((parse_reader_row_g n).1) ((parse_reader_row_g n).2.1) ((parse_reader_row_g n).2.2.1) ((parse_reader_row_g n).2.2.2.1) ((parse_reader_row_g n).2.2.2.2) (ih.1) (ih.2.1) (ih.2.2.1) (ih.2.2.2.1) (ih.2.2.2.2), parse_reader_sign_b_ok ((parse_reader_row_g n).1) ((parse_reader_row_g n).2.1) ((parse_reader_row_g n).2.2.1) ((parse_reader_row_g n).2.2.2.1) ((parse_reader_row_g n).2.2.2.2) (ih.1) (ih.2.1) (ih.2.2.1) (ih.2.2.2.1) (ih.2.2.2.2)⟩
theorem parse_reader_row_g_le : ∀ n, (∀ (m0 : TParseReader) (a1 : Int), Le ((parse_reader_row_g n).1 m0 a1) ((parse_reader_row_g (n + 1)).1 m0 a1)) ∧ (∀ (m0 : TParseReader), Le ((parse_reader_row_g n).2.1 m0) ((parse_reader_row_g (n + 1)).2.1 m0)) ∧ (∀ (m0 : TParseReader) (a1 : TApiExpr) (a2 : Int) (a3 : Int), Le ((parse_reader_row_g n).2.2.1 m0 a1 a2 a3) ((parse_reader_row_g (n + 1)).2.2.1 m0 a1 a2 a3)) ∧ (∀ (m0 : TParseReader) (a1 : ByteArray), Le ((parse_reader_row_g n).2.2.2.1 m0 a1) ((parse_reader_row_g (n + 1)).2.2.2.1 m0 a1)) ∧ (∀ (m0 : TParseReader) (a1 : TApiToken) (a2 : Int), Le ((parse_reader_row_g n).2.2.2.2 m0 a1 a2) ((parse_reader_row_g (n + 1)).2.2.2.2 m0 a1 a2))
  | 0 => ⟨fun _ _ => Le.none _, fun _ => Le.none _, fun _ _ _ _ => Le.none _, fun _ _ => Le.none _, fun _ _ _ => Le.none _⟩
  | n + 1 => by
    have ih := parse_reader_row_g_le n
    exact ⟨fun m0 a1 => by show Le (parse_reader_row_b ((parse_reader_row_g n).1) ((parse_reader_row_g n).2.1) ((parse_reader_row_g n).2.2.1) ((parse_reader_row_g n).2.2.2.1) ((parse_reader_row_g n).2.2.2.2) m0 a1) (parse_reader_row_b ((parse_reader_row_g (n + 1)).1) ((parse_reader_row_g (n + 1)).2.1) ((parse_reader_row_g (n + 1)).2.2.1) ((parse_reader_row_g (n + 1)).2.2.2.1) ((parse_reader_row_g (n + 1)).2.2.2.2) m0 a1); unfold parse_reader_row_b; repeat (first | exact Le.refl _ | exact ih.1 _ _ | exact ih.2.1 _ | exact ih.2.2.1 _ _ _ _ | exact ih.2.2.2.1 _ _ | exact ih.2.2.2.2 _ _ _ | assumption | (refine Le.bind ?_ (fun _ => ?_)) | (refine Le.cond ?_ ?_) | (refine Le.loop (fun _ => ?_)) | (refine Le.elim (fun _ => ?_) (fun _ => ?_))), fun m0 => by show Le (parse_reader_unit_b ((parse_reader_row_g n).1) ((parse_reader_row_g n).2.1) ((parse_reader_row_g n).2.2.1) ((parse_reader_row_g n).2.2.2.1) ((parse_reader_row_g n).2.2.2.2) m0) (parse_reader_unit_b ((parse_reader_row_g (n + 1)).1) ((parse_reader_row_g (n + 1)).2.1) ((parse_reader_row_g (n + 1)).2.2.1) ((parse_reader_row_g (n + 1)).2.2.2.1) ((parse_reader_row_g (n + 1)).2.2.2.2) m0); unfold parse_reader_unit_b; repeat (first | exact Le.refl _ | exact ih.1 _ _ | exact ih.2.1 _ | exact ih.2.2.1 _ _ _ _ | exact ih.2.2.2.1 _ _ | exact ih.2.2.2.2 _ _ _ | assumption | (refine Le.bind ?_ (fun _ => ?_)) | (refine Le.cond ?_ ?_) | (refine Le.loop (fun _ => ?_)) | (refine Le.elim (fun _ => ?_) (fun _ => ?_))), fun m0 a1 a2 a3 => by show Le (parse_reader_indexed_b ((parse_reader_row_g n).1) ((parse_reader_row_g n).2.1) ((parse_reader_row_g n).2.2.1) ((parse_reader_row_g n).2.2.2.1) ((parse_reader_row_g n).2.2.2.2) m0 a1 a2 a3) (parse_reader_indexed_b ((parse_reader_row_g (n + 1)).1) ((parse_reader_row_g (n + 1)).2.1) ((parse_reader_row_g (n + 1)).2.2.1) ((parse_reader_row_g (n + 1)).2.2.2.1) ((parse_reader_row_g (n + 1)).2.2.2.2) m0 a1 a2 a3); unfold parse_reader_indexed_b; repeat (first | exact Le.refl _ | exact ih.1 _ _ | exact ih.2.1 _ | exact ih.2.2.1 _ _ _ _ | exact ih.2.2.2.1 _ _ | exact ih.2.2.2.2 _ _ _ | assumption | (refine Le.bind ?_ (fun _ => ?_)) | (refine Le.cond ?_ ?_) | (refine Le.loop (fun _ => ?_)) | (refine Le.elim (fun _ => ?_) (fun _ => ?_))), fun m0 a1 => by show Le (parse_reader_all_b ((parse_reader_row_g n).1) ((parse_reader_row_g n).2.1) ((parse_reader_row_g n).2.2.1) ((parse_reader_row_g n).2.2.2.1) ((parse_reader_row_g n).2.2.2.2) m0 a1) (parse_reader_all_b ((parse_reader_row_g (n + 1)).1) ((parse_reader_row_g (n + 1)).2.1) ((parse_reader_row_g (n + 1)).2.2.1) ((parse_reader_row_g (n + 1)).2.2.2.1) ((parse_reader_row_g (n + 1)).2.2.2.2) m0 a1); unfold parse_reader_all_b; repeat (first | exact Le.refl _ | exact ih.1 _ _ | exact ih.2.1 _ | exact ih.2.2.1 _ _ _ _ | exact ih.2.2.2.1 _ _ | exact ih.2.2.2.2 _ _ _ | assumption | (refine Le.bind ?_ (fun _ => ?_)) | (refine Le.cond ?_ ?_) | (refine Le.loop (fun _ => ?_)) | (refine Le.elim (fun _ => ?_) (fun _ => ?_))), fun m0 a1 a2 => by show Le (parse_reader_sign_b ((parse_reader_row_g n).1) ((parse_reader_row_g n).2.1) ((parse_reader_row_g n).2.2.1) ((parse_reader_row_g n).2.2.2.1) ((parse_reader_row_g n).2.2.2.2) m0 a1 a2) (parse_reader_sign_b ((parse_reader_row_g (n + 1)).1) ((parse_reader_row_g (n + 1)).2.1) ((parse_reader_row_g (n + 1)).2.2.1) ((parse_reader_row_g (n + 1)).2.2.2.1) ((parse_reader_row_g (n + 1)).2.2.2.2) m0 a1 a2); unfold parse_reader_sign_b; repeat (first | exact Le.refl _ | exact ih.1 _ _ | exact ih.2.1 _ | exact ih.2.2.1 _ _ _ _ | exact ih.2.2.2.1 _ _ | exact ih.2.2.2.2 _ _ _ | assumption | (refine Le.bind ?_ (fun _ => ?_)) | (refine Le.cond ?_ ?_) | (refine Le.loop (fun _ => ?_)) | (refine Le.elim (fun _ => ?_) (fun _ => ?_)))⟩
noncomputable def parse_reader_row (m0 : TParseReader) (a1 : Int) : Option (TApiExpr × TParseReader) := anyN fun n => (parse_reader_row_g n).1 m0 a1
theorem parse_reader_row_of (m0 : TParseReader) (a1 : Int) {r : TApiExpr × TParseReader} (n : Nat) (h : (parse_reader_row_g n).1 m0 a1 = some r) : parse_reader_row m0 a1 = some r := anyN_of (fun m => (parse_reader_row_g_le m).1 m0 a1) h
theorem parse_reader_row_ok (m0 : TParseReader) (a1 : Int) (o0 : Nat) (T0 : TypeId) (c0_0 : Cap) (r : TApiExpr × TParseReader) (h0 : parse_reader_row m0 a1 = some r) : CallsD Try.prog 12 [.ptr o0 0, .v (.int .i64 a1)] [(o0, Blk.cells [.lst 4 (m0.gL.map eTApiToken) c0_0, .v (.int .i64 m0.gAt), .v (.int .i64 m0.gE)] T0)] [] (fun d h k => d = eTApiExpr r.1 ∧ h = [(o0, Blk.cells [.lst 4 (r.2.gL.map eTApiToken) .no, .v (.int .i64 r.2.gAt), .v (.int .i64 r.2.gE)] T0)] ∧ k = []) :=
  let ⟨n, hn⟩ := anyN_inv h0; (parse_reader_row_g_ok n).1 m0 a1 o0 T0 c0_0 r hn
noncomputable def parse_reader_unit (m0 : TParseReader) : Option (TApiExpr × TParseReader) := anyN fun n => (parse_reader_row_g n).2.1 m0
theorem parse_reader_unit_of (m0 : TParseReader) {r : TApiExpr × TParseReader} (n : Nat) (h : (parse_reader_row_g n).2.1 m0 = some r) : parse_reader_unit m0 = some r := anyN_of (fun m => (parse_reader_row_g_le m).2.1 m0) h
theorem parse_reader_unit_ok (m0 : TParseReader) (o0 : Nat) (T0 : TypeId) (c0_0 : Cap) (r : TApiExpr × TParseReader) (h0 : parse_reader_unit m0 = some r) : CallsD Try.prog 18 [.ptr o0 0] [(o0, Blk.cells [.lst 4 (m0.gL.map eTApiToken) c0_0, .v (.int .i64 m0.gAt), .v (.int .i64 m0.gE)] T0)] [] (fun d h k => d = eTApiExpr r.1 ∧ h = [(o0, Blk.cells [.lst 4 (r.2.gL.map eTApiToken) .no, .v (.int .i64 r.2.gAt), .v (.int .i64 r.2.gE)] T0)] ∧ k = []) :=
  let ⟨n, hn⟩ := anyN_inv h0; (parse_reader_row_g_ok n).2.1 m0 o0 T0 c0_0 r hn
noncomputable def parse_reader_indexed (m0 : TParseReader) (a1 : TApiExpr) (a2 : Int) (a3 : Int) : Option (TApiExpr × TParseReader) := anyN fun n => (parse_reader_row_g n).2.2.1 m0 a1 a2 a3
theorem parse_reader_indexed_of (m0 : TParseReader) (a1 : TApiExpr) (a2 : Int) (a3 : Int) {r : TApiExpr × TParseReader} (n : Nat) (h : (parse_reader_row_g n).2.2.1 m0 a1 a2 a3 = some r) : parse_reader_indexed m0 a1 a2 a3 = some r := anyN_of (fun m => (parse_reader_row_g_le m).2.2.1 m0 a1 a2 a3) h
theorem parse_reader_indexed_ok (m0 : TParseReader) (a1 : TApiExpr) (a2 : Int) (a3 : Int) (o0 : Nat) (T0 : TypeId) (c0_0 : Cap) (r : TApiExpr × TParseReader) (h0 : parse_reader_indexed m0 a1 a2 a3 = some r) : CallsD Try.prog 26 [.ptr o0 0, eTApiExpr a1, .v (.int .i64 a2), .v (.int .i64 a3)] [(o0, Blk.cells [.lst 4 (m0.gL.map eTApiToken) c0_0, .v (.int .i64 m0.gAt), .v (.int .i64 m0.gE)] T0)] [] (fun d h k => d = eTApiExpr r.1 ∧ h = [(o0, Blk.cells [.lst 4 (r.2.gL.map eTApiToken) .no, .v (.int .i64 r.2.gAt), .v (.int .i64 r.2.gE)] T0)] ∧ k = []) :=
  let ⟨n, hn⟩ := anyN_inv h0; (parse_reader_row_g_ok n).2.2.1 m0 a1 a2 a3 o0 T0 c0_0 r hn
noncomputable def parse_reader_all (m0 : TParseReader) (a1 : ByteArray) : Option (TApiExpr × TParseReader) := anyN fun n => (parse_reader_row_g n).2.2.2.1 m0 a1
theorem parse_reader_all_of (m0 : TParseReader) (a1 : ByteArray) {r : TApiExpr × TParseReader} (n : Nat) (h : (parse_reader_row_g n).2.2.2.1 m0 a1 = some r) : parse_reader_all m0 a1 = some r := anyN_of (fun m => (parse_reader_row_g_le m).2.2.2.1 m0 a1) h
theorem parse_reader_all_ok (m0 : TParseReader) (a1 : ByteArray) (o0 : Nat) (T0 : TypeId) (c0_0 : Cap) (r : TApiExpr × TParseReader) (h0 : parse_reader_all m0 a1 = some r) : CallsD Try.prog 34 [.ptr o0 0, .v (.string a1)] [(o0, Blk.cells [.lst 4 (m0.gL.map eTApiToken) c0_0, .v (.int .i64 m0.gAt), .v (.int .i64 m0.gE)] T0)] [] (fun d h k => d = eTApiExpr r.1 ∧ h = [(o0, Blk.cells [.lst 4 (r.2.gL.map eTApiToken) .no, .v (.int .i64 r.2.gAt), .v (.int .i64 r.2.gE)] T0)] ∧ k = []) :=
  let ⟨n, hn⟩ := anyN_inv h0; (parse_reader_row_g_ok n).2.2.2.1 m0 a1 o0 T0 c0_0 r hn
noncomputable def parse_reader_sign (m0 : TParseReader) (a1 : TApiToken) (a2 : Int) : Option (TApiExpr × TParseReader) := anyN fun n => (parse_reader_row_g n).2.2.2.2 m0 a1 a2
theorem parse_reader_sign_of (m0 : TParseReader) (a1 : TApiToken) (a2 : Int) {r : TApiExpr × TParseReader} (n : Nat) (h : (parse_reader_row_g n).2.2.2.2 m0 a1 a2 = some r) : parse_reader_sign m0 a1 a2 = some r := anyN_of (fun m => (parse_reader_row_g_le m).2.2.2.2 m0 a1 a2) h
theorem parse_reader_sign_ok (m0 : TParseReader) (a1 : TApiToken) (a2 : Int) (o0 : Nat) (T0 : TypeId) (c0_0 : Cap) (r : TApiExpr × TParseReader) (h0 : parse_reader_sign m0 a1 a2 = some r) : CallsD Try.prog 27 [.ptr o0 0, eTApiToken a1, .v (.int .i64 a2)] [(o0, Blk.cells [.lst 4 (m0.gL.map eTApiToken) c0_0, .v (.int .i64 m0.gAt), .v (.int .i64 m0.gE)] T0)] [] (fun d h k => d = eTApiExpr r.1 ∧ h = [(o0, Blk.cells [.lst 4 (r.2.gL.map eTApiToken) .no, .v (.int .i64 r.2.gAt), .v (.int .i64 r.2.gE)] T0)] ∧ k = []) :=
  let ⟨n, hn⟩ := anyN_inv h0; (parse_reader_row_g_ok n).2.2.2.2 m0 a1 a2 o0 T0 c0_0 r hn
end Go.Proofs.Ytbfbipcjdiipaaa.Ab
