/- The texts that grammarGlobals_holds leans on, part 4. -/
import Derived.Test.YtmgklehakmdiiaaGd3
namespace Go.Proofs.Ytmgklehakmdiiaa.Ab
open Go
set_option linter.all false
noncomputable def parse_between (a0 : Int) (a1 : ByteArray) : Option (Int) :=
  (bif (a0 == (0 : Int)) then (bif (decide (a1 = (ByteArray.mk #[124, 124]))) then some (17 : Int) else some (0 : Int)) else (bif (a0 == (1 : Int)) then (bif (decide (a1 = (ByteArray.mk #[38, 38]))) then some (16 : Int) else some (0 : Int)) else (bif (a0 == (2 : Int)) then ((parse_pick a1 (ByteArray.mk #[61, 61]) (14 : Int) (ByteArray.mk #[33, 61]) (15 : Int)).bind fun x10 => some x10) else (bif (a0 == (3 : Int)) then ((parse_pick a1 (ByteArray.mk #[60]) (12 : Int) (ByteArray.mk #[60, 61]) (13 : Int)).bind fun x13 => some x13) else (bif (a0 == (4 : Int)) then ((parse_pick a1 (ByteArray.mk #[43]) (10 : Int) (ByteArray.mk #[45]) (11 : Int)).bind fun x16 => some x16) else (bif (a0 == (5 : Int)) then (bif (decide (a1 = (ByteArray.mk #[37]))) then some (9 : Int) else ((parse_pick a1 (ByteArray.mk #[42]) (7 : Int) (ByteArray.mk #[47]) (8 : Int)).bind fun x22 => some x22)) else some (0 : Int)))))))
set_option maxRecDepth 100000 in
set_option maxHeartbeats 2000000 in
theorem parse_between_ok (a0 : Int) (a1 : ByteArray) (r : Int) (h0 : parse_between a0 a1 = some r) : CallsD Try.prog 97 [.v (.int .i64 a0), .v (.string a1)] [] [] (fun d h k => d = .v (.int .i64 r) ∧ h = [] ∧ k = []) := by
  have hm := yes_of h0
  unfold parse_between at hm
  clear h0
  refine enterX htab Try.func97 rfl rfl rfl rfl rfl (fun C => ?_)
  refine wpD_sr ?_
  refine pu ?_
  refine ops_nt ?_
  refine wpD_seq ?_
  refine wpD_sr ?_
  refine pu ?_
  refine ops_nt ?_
  refine wpD_block ?_
  refine wpD_sr ?_
  refine pu ?_
  refine pu ?_
  refine ops_nt ?_
  refine wpD_cond rfl (fun hc1 => ?_) (fun hc1 => ?_)
  ·replace hm := yes_t hc1 hm
   refine wpD_sr ?_
   refine pu ?_
   refine pu ?_
   refine ops_nt ?_
   refine wpD_cond rfl (fun hc2 => ?_) (fun hc2 => ?_)
   ·replace hm := yes_t hc2 hm
    refine wpD_sr ?_
    refine pu ?_
    refine ops_nt ?_
    refine wpD_ret ?_
    refine block_ret ?_
    refine then_ret ?_
    have er3 := yes_eq hm; subst er3
    refine rP (t' := [(4, .v (.int .i64 (17 : Int)))]) [] [] 0 (wC wN) (lT lN) ?_
    exact ⟨rfl, rfl, rfl⟩
   ·replace hm := yes_f hc2 hm
    refine wpD_skip ?_
    refine block_normal ?_
    refine then_normal ?_
    refine wpD_sr ?_
    refine pu ?_
    refine ops_nt ?_
    refine wpD_ret ?_
    have er4 := yes_eq hm; subst er4
    refine rP (t' := [(4, .v (.int .i64 (0 : Int)))]) [] [] 0 (wC wN) (lT lN) ?_
    exact ⟨rfl, rfl, rfl⟩
  ·replace hm := yes_f hc1 hm
   refine wpD_sr ?_
   refine pu ?_
   refine pu ?_
   refine ops_nt ?_
   refine wpD_cond rfl (fun hc5 => ?_) (fun hc5 => ?_)
   ·replace hm := yes_t hc5 hm
    refine wpD_sr ?_
    refine pu ?_
    refine pu ?_
    refine ops_nt ?_
    refine wpD_cond rfl (fun hc6 => ?_) (fun hc6 => ?_)
    ·replace hm := yes_t hc6 hm
     refine wpD_sr ?_
     refine pu ?_
     refine ops_nt ?_
     refine wpD_ret ?_
     refine block_ret ?_
     refine then_ret ?_
     have er7 := yes_eq hm; subst er7
     refine rP (t' := [(4, .v (.int .i64 (16 : Int)))]) [] [] 0 (wC wN) (lT lN) ?_
     exact ⟨rfl, rfl, rfl⟩
    ·replace hm := yes_f hc6 hm
     refine wpD_skip ?_
     refine block_normal ?_
     refine then_normal ?_
     refine wpD_sr ?_
     refine pu ?_
     refine ops_nt ?_
     refine wpD_ret ?_
     have er8 := yes_eq hm; subst er8
     refine rP (t' := [(4, .v (.int .i64 (0 : Int)))]) [] [] 0 (wC wN) (lT lN) ?_
     exact ⟨rfl, rfl, rfl⟩
   ·replace hm := yes_f hc5 hm
    refine wpD_sr ?_
    refine pu ?_
    refine pu ?_
    refine ops_nt ?_
    refine wpD_cond rfl (fun hc9 => ?_) (fun hc9 => ?_)
    ·replace hm := yes_t hc9 hm
     refine wpD_sr ?_
     refine pu ?_
     obtain ⟨x10, q10, hm⟩ := yes_bind hm
     refine p_call0 (parse_pick_ok a1 (ByteArray.mk #[61, 61]) (14 : Int) (ByteArray.mk #[33, 61]) (15 : Int) x10 q10) rfl rfl rfl rfl rfl Wl ?_
     rintro _ rfl
     refine pu ?_
     refine ops_nt ?_
     refine wpD_ret ?_
     refine block_ret ?_
     refine then_ret ?_
     have er11 := yes_eq hm; subst er11
     refine rP (t' := [(4, .v (.int .i64 x10))]) [] [] 0 (wC wN) (lT lN) ?_
     exact ⟨rfl, rfl, rfl⟩
    ·replace hm := yes_f hc9 hm
     refine wpD_sr ?_
     refine pu ?_
     refine pu ?_
     refine ops_nt ?_
     refine wpD_cond rfl (fun hc12 => ?_) (fun hc12 => ?_)
     ·replace hm := yes_t hc12 hm
      refine wpD_sr ?_
      refine pu ?_
      obtain ⟨x13, q13, hm⟩ := yes_bind hm
      refine p_call0 (parse_pick_ok a1 (ByteArray.mk #[60]) (12 : Int) (ByteArray.mk #[60, 61]) (13 : Int) x13 q13) rfl rfl rfl rfl rfl Wl ?_
      rintro _ rfl
      refine pu ?_
      refine ops_nt ?_
      refine wpD_ret ?_
      refine block_ret ?_
      refine then_ret ?_
      have er14 := yes_eq hm; subst er14
      refine rP (t' := [(4, .v (.int .i64 x13))]) [] [] 0 (wC wN) (lT lN) ?_
      exact ⟨rfl, rfl, rfl⟩
     ·replace hm := yes_f hc12 hm
      refine wpD_sr ?_
      refine pu ?_
      refine pu ?_
      refine ops_nt ?_
      refine wpD_cond rfl (fun hc15 => ?_) (fun hc15 => ?_)
      ·replace hm := yes_t hc15 hm
       refine wpD_sr ?_
       refine pu ?_
       obtain ⟨x16, q16, hm⟩ := yes_bind hm
       refine p_call0 (parse_pick_ok a1 (ByteArray.mk #[43]) (10 : Int) (ByteArray.mk #[45]) (11 : Int) x16 q16) rfl rfl rfl rfl rfl Wl ?_
       rintro _ rfl
       refine pu ?_
       refine ops_nt ?_
       refine wpD_ret ?_
       refine block_ret ?_
       refine then_ret ?_
       have er17 := yes_eq hm; subst er17
       refine rP (t' := [(4, .v (.int .i64 x16))]) [] [] 0 (wC wN) (lT lN) ?_
       exact ⟨rfl, rfl, rfl⟩
      ·replace hm := yes_f hc15 hm
       refine wpD_sr ?_
       refine pu ?_
       refine pu ?_
       refine ops_nt ?_
       refine wpD_cond rfl (fun hc18 => ?_) (fun hc18 => ?_)
       ·replace hm := yes_t hc18 hm
        refine wpD_seq ?_
        refine wpD_sr ?_
        refine pu ?_
        refine pu ?_
        refine ops_nt ?_
        refine wpD_cond rfl (fun hc20 => ?_) (fun hc20 => ?_)
        ·replace hm := yes_t hc20 hm
         refine wpD_sr ?_
         refine pu ?_
         refine ops_nt ?_
         refine wpD_ret ?_
         refine then_ret ?_
         refine block_ret ?_
         refine then_ret ?_
         have er21 := yes_eq hm; subst er21
         refine rP (t' := [(4, .v (.int .i64 (9 : Int)))]) [] [] 0 (wC wN) (lT lN) ?_
         exact ⟨rfl, rfl, rfl⟩
        ·replace hm := yes_f hc20 hm
         refine wpD_skip ?_
         refine then_normal ?_
         refine wpD_sr ?_
         refine pu ?_
         obtain ⟨x22, q22, hm⟩ := yes_bind hm
         refine p_call0 (parse_pick_ok a1 (ByteArray.mk #[42]) (7 : Int) (ByteArray.mk #[47]) (8 : Int) x22 q22) rfl rfl rfl rfl rfl Wl ?_
         rintro _ rfl
         refine pu ?_
         refine ops_nt ?_
         refine wpD_ret ?_
         refine block_ret ?_
         refine then_ret ?_
         have er23 := yes_eq hm; subst er23
         refine rP (t' := [(4, .v (.int .i64 x22))]) [] [] 0 (wC wN) (lT lN) ?_
         exact ⟨rfl, rfl, rfl⟩
       ·replace hm := yes_f hc18 hm
        refine wpD_skip ?_
        refine block_normal ?_
        refine then_normal ?_
        refine wpD_sr ?_
        refine pu ?_
        refine ops_nt ?_
        refine wpD_ret ?_
        have er24 := yes_eq hm; subst er24
        refine rP (t' := [(4, .v (.int .i64 (0 : Int)))]) [] [] 0 (wC wN) (lT lN) ?_
        exact ⟨rfl, rfl, rfl⟩
noncomputable def parse_reader_row_b (g0 : (TParseReader) → (Int) → Option (TApiExpr × TParseReader)) (g1 : (TParseReader) → Option (TApiExpr × TParseReader)) (g2 : (TParseReader) → (TApiExpr) → (Int) → (Int) → Option (TApiExpr × TParseReader)) (g3 : (TParseReader) → (ByteArray) → Option (TApiExpr × TParseReader)) (g4 : (TParseReader) → (TApiToken) → (Int) → Option (TApiExpr × TParseReader)) (m0 : TParseReader) (a1 : Int) : Option (TApiExpr × TParseReader) :=
  (bif (a1 == (6 : Int)) then ((g1 m0).bind fun x5 => some (x5.1, x5.2)) else ((g0 m0 (IntKind.i64.wrap (a1 + (1 : Int)))).bind fun x7 => (Option.bind (α := List TApiToken × Int × Int × Int × Int × ByteArray × List TApiExpr × Int) (loopM (fun (s51 : List TApiToken × Int × Int × Int × Int × ByteArray × List TApiExpr × Int) => (bif (s51.2.2.1 == (0 : Int)) then ((parse_reader_look (⟨s51.1, s51.2.1, s51.2.2.1⟩ : TParseReader)).bind fun x79 => (Option.bind (α := Int) (bif (x79.gKind == (3 : Int)) then ((parse_between a1 x79.gText).bind fun x85 => some x85) else some (0 : Int)) fun y83 => (bif (y83 == (0 : Int)) then some (.done (s51.1, s51.2.1, s51.2.2.1, s51.2.2.2.1, s51.2.2.2.2.1, s51.2.2.2.2.2.1, s51.2.2.2.2.2.2.1, s51.2.2.2.2.2.2.2)) else ((g0 (⟨s51.1, (IntKind.i64.wrap (s51.2.1 + (1 : Int))), s51.2.2.1⟩ : TParseReader) (IntKind.i64.wrap (a1 + (1 : Int)))).bind fun x87 => ((parse_reader_sound x87.2 (⟨y83, (0 : Int), ByteArray.empty, ([(⟨s51.2.2.2.1, s51.2.2.2.2.1, s51.2.2.2.2.2.1, s51.2.2.2.2.2.2.1, s51.2.2.2.2.2.2.2⟩ : TApiExpr), x87.1] : List TApiExpr), x79.gAt⟩ : TApiExpr) s51.2.1).bind fun x89 => some (.next (x89.2.gL, x89.2.gAt, x89.2.gE, x89.1.gOp, x89.1.gN, x89.1.gName, x89.1.gKids, x89.1.gAt))))))) else some (.done (s51.1, s51.2.1, s51.2.2.1, s51.2.2.2.1, s51.2.2.2.2.1, s51.2.2.2.2.2.1, s51.2.2.2.2.2.2.1, s51.2.2.2.2.2.2.2)))) (x7.2.gL, x7.2.gAt, x7.2.gE, x7.1.gOp, x7.1.gN, x7.1.gName, x7.1.gKids, x7.1.gAt)) fun y50 => some ((⟨y50.2.2.2.1, y50.2.2.2.2.1, y50.2.2.2.2.2.1, y50.2.2.2.2.2.2.1, y50.2.2.2.2.2.2.2⟩ : TApiExpr), (⟨y50.1, y50.2.1, y50.2.2.1⟩ : TParseReader)))))
set_option maxRecDepth 100000 in
set_option maxHeartbeats 2000000 in
theorem parse_reader_row_b_ok (g0 : (TParseReader) → (Int) → Option (TApiExpr × TParseReader)) (g1 : (TParseReader) → Option (TApiExpr × TParseReader)) (g2 : (TParseReader) → (TApiExpr) → (Int) → (Int) → Option (TApiExpr × TParseReader)) (g3 : (TParseReader) → (ByteArray) → Option (TApiExpr × TParseReader)) (g4 : (TParseReader) → (TApiToken) → (Int) → Option (TApiExpr × TParseReader)) (hg0 : ∀ (m0 : TParseReader) (a1 : Int) (o0 : Nat) (T0 : TypeId) (c0_0 : Cap) (r : TApiExpr × TParseReader) (h0 : g0 m0 a1 = some r), CallsD Try.prog 91 [.ptr o0 0, .v (.int .i64 a1)] [(o0, Blk.cells [.lst 4 (m0.gL.map eTApiToken) c0_0, .v (.int .i64 m0.gAt), .v (.int .i64 m0.gE)] T0)] [] (fun d h k => d = eTApiExpr r.1 ∧ h = [(o0, Blk.cells [.lst 4 (r.2.gL.map eTApiToken) .no, .v (.int .i64 r.2.gAt), .v (.int .i64 r.2.gE)] T0)] ∧ k = [])) (hg1 : ∀ (m0 : TParseReader) (o0 : Nat) (T0 : TypeId) (c0_0 : Cap) (r : TApiExpr × TParseReader) (h0 : g1 m0 = some r), CallsD Try.prog 95 [.ptr o0 0] [(o0, Blk.cells [.lst 4 (m0.gL.map eTApiToken) c0_0, .v (.int .i64 m0.gAt), .v (.int .i64 m0.gE)] T0)] [] (fun d h k => d = eTApiExpr r.1 ∧ h = [(o0, Blk.cells [.lst 4 (r.2.gL.map eTApiToken) .no, .v (.int .i64 r.2.gAt), .v (.int .i64 r.2.gE)] T0)] ∧ k = [])) (hg2 : ∀ (m0 : TParseReader) (a1 : TApiExpr) (a2 : Int) (a3 : Int) (o0 : Nat) (T0 : TypeId) (c0_0 : Cap) (r : TApiExpr × TParseReader) (h0 : g2 m0 a1 a2 a3 = some r), CallsD Try.prog 99 [.ptr o0 0, eTApiExpr a1, .v (.int .i64 a2), .v (.int .i64 a3)] [(o0, Blk.cells [.lst 4 (m0.gL.map eTApiToken) c0_0, .v (.int .i64 m0.gAt), .v (.int .i64 m0.gE)] T0)] [] (fun d h k => d = eTApiExpr r.1 ∧ h = [(o0, Blk.cells [.lst 4 (r.2.gL.map eTApiToken) .no, .v (.int .i64 r.2.gAt), .v (.int .i64 r.2.gE)] T0)] ∧ k = [])) (hg3 : ∀ (m0 : TParseReader) (a1 : ByteArray) (o0 : Nat) (T0 : TypeId) (c0_0 : Cap) (r : TApiExpr × TParseReader) (h0 : g3 m0 a1 = some r), CallsD Try.prog 105 [.ptr o0 0, .v (.string a1)] [(o0, Blk.cells [.lst 4 (m0.gL.map eTApiToken) c0_0, .v (.int .i64 m0.gAt), .v (.int .i64 m0.gE)] T0)] [] (fun d h k => d = eTApiExpr r.1 ∧ h = [(o0, Blk.cells [.lst 4 (r.2.gL.map eTApiToken) .no, .v (.int .i64 r.2.gAt), .v (.int .i64 r.2.gE)] T0)] ∧ k = [])) (hg4 : ∀ (m0 : TParseReader) (a1 : TApiToken) (a2 : Int) (o0 : Nat) (T0 : TypeId) (c0_0 : Cap) (r : TApiExpr × TParseReader) (h0 : g4 m0 a1 a2 = some r), CallsD Try.prog 100 [.ptr o0 0, eTApiToken a1, .v (.int .i64 a2)] [(o0, Blk.cells [.lst 4 (m0.gL.map eTApiToken) c0_0, .v (.int .i64 m0.gAt), .v (.int .i64 m0.gE)] T0)] [] (fun d h k => d = eTApiExpr r.1 ∧ h = [(o0, Blk.cells [.lst 4 (r.2.gL.map eTApiToken) .no, .v (.int .i64 r.2.gAt), .v (.int .i64 r.2.gE)] T0)] ∧ k = [])) (m0 : TParseReader) (a1 : Int) (o0 : Nat) (T0 : TypeId) (c0_0 : Cap) (r : TApiExpr × TParseReader) (h0 : parse_reader_row_b g0 g1 g2 g3 g4 m0 a1 = some r) : CallsD Try.prog 91 [.ptr o0 0, .v (.int .i64 a1)] [(o0, Blk.cells [.lst 4 (m0.gL.map eTApiToken) c0_0, .v (.int .i64 m0.gAt), .v (.int .i64 m0.gE)] T0)] [] (fun d h k => d = eTApiExpr r.1 ∧ h = [(o0, Blk.cells [.lst 4 (r.2.gL.map eTApiToken) .no, .v (.int .i64 r.2.gAt), .v (.int .i64 r.2.gE)] T0)] ∧ k = []) := by
  have hm := yes_of h0
  unfold parse_reader_row_b at hm
  clear h0
  refine enterX htab Try.func91 rfl rfl rfl rfl rfl (fun C => ?_)
  refine wpD_sr ?_
  refine p_alloc htab rfl rfl rfl rfl rfl rfl rfl (fun b1 => ?_)
  refine ops_nt ?_
  refine wpD_seq ?_
  refine wpD_sr ?_
  refine pu ?_
  refine pu ?_
  refine ops_nt ?_
  refine wpD_cond rfl (fun hc4 => ?_) (fun hc4 => ?_)
  ·replace hm := yes_t hc4 hm
   refine wpD_sr ?_
   refine pu ?_
   obtain ⟨x5, q5, hm⟩ := yes_bind hm
   refine pG (hg1 m0 o0 T0 c0_0 x5 q5) Wl Pf Pf ?_
   rintro _ _ _ ⟨rfl, rfl, rfl⟩
   refine p_eq (i := 13) rfl (Wk.of_eq (eTApiExpr_eq x5.1)) ?_
   refine pS1 (ds' := [.v (.int .i64 x5.1.gOp), .v (.int .i64 x5.1.gN), .v (.string x5.1.gName), .lst 5 (x5.1.gKids.map eTApiExpr) .no, .v (.int .i64 x5.1.gAt)]) ?_
   refine ops_nt ?_
   refine wpD_ret ?_
   refine then_ret ?_
   have er6 := yes_eq hm; subst er6
   refine rP (t' := [(4, .ptr b1 0)]) [0,0] [] 1 (wC wN) (lC 1 lN) ?_
   exact ⟨by first | rfl | (simp only [wrapD, eTApiExpr_eq]; done) | (simp only [wrapD, eTApiExpr_eq]; rfl), rfl, rfl⟩
  ·replace hm := yes_f hc4 hm
   refine wpD_skip ?_
   refine then_normal ?_
   refine wpD_sr ?_
   iterate 3 refine pu ?_
   obtain ⟨x7, q7, hm⟩ := yes_bind hm
   refine pG (hg0 m0 (IntKind.i64.wrap (a1 + (1 : Int))) o0 T0 c0_0 x7 q7) Wl Pf Pf ?_
   rintro _ _ _ ⟨rfl, rfl, rfl⟩
   refine p_eq (i := 17) rfl (Wk.of_eq (eTApiExpr_eq x7.1)) ?_
   refine p_alloc htab rfl rfl rfl rfl rfl rfl rfl (fun b8 => ?_)
   refine pS2 (ds' := [.v (.int .i64 x7.1.gOp), .v (.int .i64 x7.1.gN), .v (.string x7.1.gName), .lst 5 (x7.1.gKids.map eTApiExpr) .no, .v (.int .i64 x7.1.gAt)]) ?_
   refine ops_nt ?_
   refine wpD_seq ?_
   obtain ⟨y50, q50, ho50⟩ := yes_bind hm
   refine wpD_mid (Y := Unit) (fun z50 => (⟨[(4, .ptr b1 0), (5, .ptr b8 0)], [(o0, Blk.cells [.lst 4 (y50.1.map eTApiToken) .no, .v (.int .i64 y50.2.1), .v (.int .i64 y50.2.2.1)] T0), (b1, Blk.cells [.v (.int .i64 (0 : Int)), .v (.int .i64 (0 : Int)), .v (.string ByteArray.empty), .lst 1 [] .full, .v (.int .i64 (0 : Int))] 100), (b8, Blk.cells [.v (.int .i64 y50.2.2.2.1), .v (.int .i64 y50.2.2.2.2.1), .v (.string y50.2.2.2.2.2.1), .lst 5 (y50.2.2.2.2.2.2.1.map eTApiExpr) .no, .v (.int .i64 y50.2.2.2.2.2.2.2)] 100)], []⟩ : S)) ?_ ?_
   ·clear hm; have hm := yes_of q50
    refine wpD_block ?_
    obtain ⟨u51, hl51, hq51⟩ := yes_m hm
    refine loop_M (Y := Unit) hl51 (fun s51 z51 => (⟨[(0, .ptr o0 0), (1, .v (.int .i64 a1)), (4, .ptr b1 0), (5, .ptr b8 0)], [(o0, Blk.cells [.lst 4 (s51.1.map eTApiToken) .no, .v (.int .i64 s51.2.1), .v (.int .i64 s51.2.2.1)] T0), (b1, Blk.cells [.v (.int .i64 (0 : Int)), .v (.int .i64 (0 : Int)), .v (.string ByteArray.empty), .lst 1 [] .full, .v (.int .i64 (0 : Int))] 100), (b8, Blk.cells [.v (.int .i64 s51.2.2.2.1), .v (.int .i64 s51.2.2.2.2.1), .v (.string s51.2.2.2.2.2.1), .lst 5 (s51.2.2.2.2.2.2.1.map eTApiExpr) .no, .v (.int .i64 s51.2.2.2.2.2.2.2)] 100)], []⟩ : S)) ?_ ?_
    ·skip
     exact WkX.of () (WkS.perm (WkS.cons rfl (Wk.refl _) (WkS.cons rfl (Wk.refl _) (WkS.cons rfl (Wk.refl _) (WkS.cons rfl (Wk.refl _) (WkS.nil))))) Pf Pf)
    ·intro G51 s51 z51 hm
     refine wpD_seq ?_
     refine wpD_sr ?_
     iterate 3 refine pu ?_
     refine pL 0 ?_
     refine pu ?_
     refine ops_nt ?_
     refine wpD_cond rfl (fun hc78 => ?_) (fun hc78 => ?_)
     ·replace hm := yes_t hc78 hm
      refine wpD_skip ?_
      refine then_normal ?_
      refine wpD_block ?_
      refine wpD_seq ?_
      obtain ⟨x79, q79, hm⟩ := yes_bind hm
      refine wpD_fills 8 [(6, [.v (.int .i64 (0 : Int)), .v (.string ByteArray.empty), .v (.int .i64 (0 : Int)), .v (.int .i64 (0 : Int))], 69)] [(6, 7, [.v (.int .i64 x79.gKind), .v (.string x79.gText), .v (.int .i64 x79.gN), .v (.int .i64 x79.gAt)])] [[],[0],[],[2],[2,3],[2,3,4],[],[0,1,6]] [0,1,2,3,4,6,7] [[],[0],[],[2],[2,3],[2,3,4],[],[0,1,6],[0,1,2,3,4,5,6,7]] (by kernel_rfl) (by kernel_rfl) (by kernel_rfl) (by rfl) (by rfl) (by kernel_rfl) ?_
      iterate 5 apply Exists.intro
      refine ⟨.any, ?_⟩
      refine ⟨.any, ?_⟩
      intro bs
      refine zf_e rfl rfl (ex_pure htab rfl) rfl rfl rfl rfl rfl rfl rfl ?_
      refine zf_callB 0 rfl rfl (parse_reader_look_ok (⟨s51.1, s51.2.1, s51.2.2.1⟩ : TParseReader) o0 T0 .no x79 q79) rfl rfl Wl rfl rfl rfl rfl rfl rfl rfl rfl ?_
      iterate 3 refine zf_e rfl rfl (ex_pure htab rfl) rfl rfl rfl rfl rfl rfl rfl ?_
      refine zf_qM rfl rfl (xm_load 0 htab rfl rfl rfl rfl rfl) rfl rfl rfl rfl rfl rfl ?_
      refine zf_alloc rfl htab rfl rfl rfl rfl rfl rfl rfl rfl rfl rfl (by simp [dOf, eI64]) (by simp) ?_
      refine zf_fill (e := 6) (zs := [.v (.int .i64 (0 : Int)), .v (.string ByteArray.empty), .v (.int .i64 (0 : Int)), .v (.int .i64 (0 : Int))]) (T' := 69) (ds' := [.v (.int .i64 x79.gKind), .v (.string x79.gText), .v (.int .i64 x79.gN), .v (.int .i64 x79.gAt)]) htab rfl rfl rfl rfl rfl rfl rfl rfl rfl (by simp) (by simp) rfl rfl rfl rfl rfl rfl rfl rfl rfl ?_
      refine zf_nil (h' := [(o0, Blk.cells [.lst 4 (s51.1.map eTApiToken) .no, .v (.int .i64 s51.2.1), .v (.int .i64 s51.2.2.1)] T0), (b1, Blk.cells [.v (.int .i64 (0 : Int)), .v (.int .i64 (0 : Int)), .v (.string ByteArray.empty), .lst 1 [] .full, .v (.int .i64 (0 : Int))] 100), (b8, Blk.cells [.v (.int .i64 s51.2.2.2.1), .v (.int .i64 s51.2.2.2.2.1), .v (.string s51.2.2.2.2.2.1), .lst 5 (s51.2.2.2.2.2.2.1.map eTApiExpr) .no, .v (.int .i64 s51.2.2.2.2.2.2.2)] 100), (bs 6, Blk.cells [.v (.int .i64 x79.gKind), .v (.string x79.gText), .v (.int .i64 x79.gN), .v (.int .i64 x79.gAt)] 69)]) rfl rfl rfl (fun e he => by simp [isAl] at he; subst he; rfl) ?_
      obtain ⟨b80, hb80⟩ : ∃ b, bs 6 = b := ⟨_, rfl⟩
      simp only [hb80]
      clear hb80
      refine pu ?_
      refine ops_n2 ?_
      refine pu ?_
      refine ops_nt ?_
      refine wpD_seq ?_
      refine wpD_sr ?_
      refine pu ?_
      refine pL 3 ?_
      refine pu ?_
      refine ops_nt ?_
      obtain ⟨y83, q83, ho83⟩ := yes_bind hm
      refine wpD_mid (Y := Unit) (fun z83 => (⟨[(0, .ptr o0 0), (1, .v (.int .i64 a1)), (4, .ptr b1 0), (5, .ptr b8 0), (6, .ptr b80 0), (7, .v (.int .i64 s51.2.1)), (8, .v (.int .i64 y83))], [(o0, Blk.cells [.lst 4 (s51.1.map eTApiToken) .no, .v (.int .i64 s51.2.1), .v (.int .i64 s51.2.2.1)] T0), (b1, Blk.cells [.v (.int .i64 (0 : Int)), .v (.int .i64 (0 : Int)), .v (.string ByteArray.empty), .lst 1 [] .full, .v (.int .i64 (0 : Int))] 100), (b8, Blk.cells [.v (.int .i64 s51.2.2.2.1), .v (.int .i64 s51.2.2.2.2.1), .v (.string s51.2.2.2.2.2.1), .lst 5 (s51.2.2.2.2.2.2.1.map eTApiExpr) .no, .v (.int .i64 s51.2.2.2.2.2.2.2)] 100), (b80, Blk.cells [.v (.int .i64 x79.gKind), .v (.string x79.gText), .v (.int .i64 x79.gN), .v (.int .i64 x79.gAt)] 69)], []⟩ : S)) ?_ ?_
      ·clear hm; have hm := yes_of q83
       refine wpD_cond rfl (fun hc84 => ?_) (fun hc84 => ?_)
       ·replace hm := yes_t hc84 hm
        refine wpD_region ?_
        refine pu ?_
        refine pu ?_
        refine pL 3 ?_
        obtain ⟨x85, q85, hm⟩ := yes_bind hm
        refine p_call0 (parse_between_ok a1 x79.gText x85 q85) rfl rfl rfl rfl rfl Wl ?_
        rintro _ rfl
        refine pu ?_
        refine ops_nil ?_
        have e83 := yes_eq hm; subst e83
        refine ⟨rfl, ?_⟩
        exact WkX.of () (WkS.perm (WkS.cons rfl (Wk.refl _) (WkS.cons rfl (Wk.refl _) (WkS.cons rfl (Wk.refl _) (WkS.cons rfl (Wk.refl _) (WkS.cons rfl (Wk.refl _) (WkS.cons rfl (Wk.refl _) (WkS.cons rfl (Wk.refl _) (WkS.nil)))))))) Pf Pf)
       ·replace hm := yes_f hc84 hm
        refine wpD_skip ?_
        have e83 := yes_eq hm; subst e83
        refine ⟨rfl, ?_⟩
        exact WkX.of () (WkS.perm (WkS.cons rfl (Wk.refl _) (WkS.cons rfl (Wk.refl _) (WkS.cons rfl (Wk.refl _) (WkS.cons rfl (Wk.refl _) (WkS.cons rfl (Wk.refl _) (WkS.cons rfl (Wk.refl _) (WkS.cons rfl (Wk.refl _) (WkS.nil)))))))) Pf Pf)
      ·intro s83 hw83; clear hm; have hm := ho83; clear q83 ho83
       refine then_normal ?_
       refine wpD_wkX hw83 (fun z83 => ?_)
       refine wpD_seq ?_
       refine wpD_sr ?_
       refine pu ?_
       refine pu ?_
       refine ops_nt ?_
       refine wpD_cond rfl (fun hc86 => ?_) (fun hc86 => ?_)
       ·replace hm := yes_t hc86 hm
        refine wpD_exit ?_
        refine then_exit ?_
        refine block_miss rfl ?_
        have e51 := lp_done hm; subst e51; clear hm; have hm := hq51
        refine then_exit ?_
        refine block_hit ?_
        have e50 := yes_eq hm; subst e50
        refine ⟨rfl, ?_⟩
        exact WkX.of () (WkS.perm (WkS.cons rfl (Wk.refl _) (WkS.cons rfl (Wk.refl _) (WkS.nil))) Pf Pf)
       ·replace hm := yes_f hc86 hm
        refine wpD_skip ?_
        refine then_normal ?_
        refine wpD_sr ?_
        iterate 3 refine pu ?_
        refine pL 0 ?_
        iterate 3 refine pu ?_
        refine pS0 (ds' := [.lst 4 (s51.1.map eTApiToken) .no, .v (.int .i64 (IntKind.i64.wrap (s51.2.1 + (1 : Int)))), .v (.int .i64 s51.2.2.1)]) ?_
        refine ops_n2 ?_
        iterate 3 refine pu ?_
        obtain ⟨x87, q87, hm⟩ := yes_bind hm
        refine pG (hg0 (⟨s51.1, (IntKind.i64.wrap (s51.2.1 + (1 : Int))), s51.2.2.1⟩ : TParseReader) (IntKind.i64.wrap (a1 + (1 : Int))) o0 T0 .no x87 q87) Wl Pf Pf ?_
        rintro _ _ _ ⟨rfl, rfl, rfl⟩
        refine p_eq (i := 48) rfl (Wk.of_eq (eTApiExpr_eq x87.1)) ?_
        refine p_alloc htab rfl rfl rfl rfl rfl rfl rfl (fun b88 => ?_)
        refine pS4 (ds' := [.v (.int .i64 x87.1.gOp), .v (.int .i64 x87.1.gN), .v (.string x87.1.gName), .lst 5 (x87.1.gKids.map eTApiExpr) .no, .v (.int .i64 x87.1.gAt)]) ?_
        refine ops_nt ?_
        refine wpD_region ?_
        refine pu ?_
        refine pu ?_
        refine p_load (d := .agg [.v (.int .i64 s51.2.2.2.1), .v (.int .i64 s51.2.2.2.2.1), .v (.string s51.2.2.2.2.2.1), .lst 5 (s51.2.2.2.2.2.2.1.map eTApiExpr) .no, .v (.int .i64 s51.2.2.2.2.2.2.2)]) 2 htab rfl rfl rfl rfl rfl rfl rfl rfl ?_
        refine p_load (d := .agg [.v (.int .i64 x87.1.gOp), .v (.int .i64 x87.1.gN), .v (.string x87.1.gName), .lst 5 (x87.1.gKids.map eTApiExpr) .no, .v (.int .i64 x87.1.gAt)]) 4 htab rfl rfl rfl rfl rfl rfl rfl rfl ?_
        refine p_lit htab rfl rfl rfl rfl rfl rfl rfl rfl rfl rfl rfl rfl rfl rfl ?_
        refine p_eq (i := 53) (d' := .lst 5 (([(⟨s51.2.2.2.1, s51.2.2.2.2.1, s51.2.2.2.2.2.1, s51.2.2.2.2.2.2.1, s51.2.2.2.2.2.2.2⟩ : TApiExpr), x87.1] : List TApiExpr).map eTApiExpr) .full) rfl (Wk.lst0 (.cons (WkC.trans (WkC.agg (WkR.refl _)) (WkC.of_eq (eTApiExpr_eq (⟨s51.2.2.2.1, s51.2.2.2.2.1, s51.2.2.2.2.2.1, s51.2.2.2.2.2.2.1, s51.2.2.2.2.2.2.2⟩ : TApiExpr)).symm)) (.cons (WkC.trans (WkC.agg (WkR.refl _)) (WkC.of_eq (eTApiExpr_eq x87.1).symm)) (.nil)))) ?_
        refine pu ?_
        refine pL 3 ?_
        refine p_build (r := [.v (.int .i64 y83), .v (.int .i64 (0 : Int)), .v (.string ByteArray.empty), .lst 5 (([(⟨s51.2.2.2.1, s51.2.2.2.2.1, s51.2.2.2.2.2.1, s51.2.2.2.2.2.2.1, s51.2.2.2.2.2.2.2⟩ : TApiExpr), x87.1] : List TApiExpr).map eTApiExpr) .full, .v (.int .i64 x79.gAt)]) htab rfl rfl rfl rfl rfl rfl rfl rfl rfl ?_
        refine pu ?_
        obtain ⟨x89, q89, hm⟩ := yes_bind hm
        refine p_callG (parse_reader_sound_ok x87.2 (⟨y83, (0 : Int), ByteArray.empty, ([(⟨s51.2.2.2.1, s51.2.2.2.2.1, s51.2.2.2.2.2.1, s51.2.2.2.2.2.2.1, s51.2.2.2.2.2.2.2⟩ : TApiExpr), x87.1] : List TApiExpr), x79.gAt⟩ : TApiExpr) s51.2.1 o0 T0 .no x89 q89) rfl rfl rfl rfl rfl (WkL.cons (Wk.refl _) (WkL.cons (Wk.trans (Wk.agg (rC (rC (rC (rO (rC WkR.nil)))))) (Wk.of_eq (eTApiExpr_eq (⟨y83, (0 : Int), ByteArray.empty, ([(⟨s51.2.2.2.1, s51.2.2.2.2.1, s51.2.2.2.2.2.1, s51.2.2.2.2.2.2.1, s51.2.2.2.2.2.2.2⟩ : TApiExpr), x87.1] : List TApiExpr), x79.gAt⟩ : TApiExpr)).symm)) (WkL.cons (Wk.refl _) Wl))) Pf Pf ?_
        rintro _ _ _ ⟨rfl, rfl, rfl⟩
        refine p_eq (i := 58) rfl (Wk.of_eq (eTApiExpr_eq x89.1)) ?_
        refine pS2 (ds' := [.v (.int .i64 x89.1.gOp), .v (.int .i64 x89.1.gN), .v (.string x89.1.gName), .lst 5 (x89.1.gKids.map eTApiExpr) .no, .v (.int .i64 x89.1.gAt)]) ?_
        refine ops_nil ?_
        refine block_normal ?_
        refine then_normal ⟨_, lp_next hm, ?_⟩
        exact WkX.of () (WkS.perm (WkS.cons rfl (Wk.refl _) (WkS.cons rfl (Wk.refl _) (WkS.cons rfl (Wk.refl _) (WkS.cons rfl (Wk.refl _) (WkS.nil))))) Pf Pf)
     ·replace hm := yes_f hc78 hm
      refine wpD_exit ?_
      refine then_exit ?_
      have e51 := lp_done hm; subst e51; clear hm; have hm := hq51
      refine then_exit ?_
      refine block_hit ?_
      have e50 := yes_eq hm; subst e50
      refine ⟨rfl, ?_⟩
      exact WkX.of () (WkS.perm (WkS.cons rfl (Wk.refl _) (WkS.cons rfl (Wk.refl _) (WkS.nil))) Pf Pf)
   ·intro s50 hw50; clear hm; have hm := ho50; clear q50 ho50
    refine then_normal ?_
    refine wpD_wkX hw50 (fun z50 => ?_)
    refine wpD_sr ?_
    refine p_load (d := .agg [.v (.int .i64 y50.2.2.2.1), .v (.int .i64 y50.2.2.2.2.1), .v (.string y50.2.2.2.2.2.1), .lst 5 (y50.2.2.2.2.2.2.1.map eTApiExpr) .no, .v (.int .i64 y50.2.2.2.2.2.2.2)]) 2 htab rfl rfl rfl rfl rfl rfl rfl rfl ?_
    refine pS1 (ds' := [.v (.int .i64 y50.2.2.2.1), .v (.int .i64 y50.2.2.2.2.1), .v (.string y50.2.2.2.2.2.1), .lst 5 (y50.2.2.2.2.2.2.1.map eTApiExpr) .no, .v (.int .i64 y50.2.2.2.2.2.2.2)]) ?_
    refine ops_nt ?_
    refine wpD_ret ?_
    have er90 := yes_eq hm; subst er90
    refine rP (t' := [(4, .ptr b1 0)]) [0,0] [] 1 (wC wN) (lC 1 lN) ?_
    exact ⟨by first | rfl | (simp only [wrapD, eTApiExpr_eq]; done) | (simp only [wrapD, eTApiExpr_eq]; rfl), rfl, rfl⟩
noncomputable def parse_reader_unit_b (g0 : (TParseReader) → (Int) → Option (TApiExpr × TParseReader)) (g1 : (TParseReader) → Option (TApiExpr × TParseReader)) (g2 : (TParseReader) → (TApiExpr) → (Int) → (Int) → Option (TApiExpr × TParseReader)) (g3 : (TParseReader) → (ByteArray) → Option (TApiExpr × TParseReader)) (g4 : (TParseReader) → (TApiToken) → (Int) → Option (TApiExpr × TParseReader)) (m0 : TParseReader) : Option (TApiExpr × TParseReader) :=
  ((parse_reader_look m0).bind fun x2 => (bif (m0.gE != (0 : Int)) then some ((⟨(0 : Int), (0 : Int), ByteArray.empty, [], (0 : Int)⟩ : TApiExpr), m0) else (bif (x2.gKind == (2 : Int)) then some ((⟨(1 : Int), x2.gN, ByteArray.empty, [], x2.gAt⟩ : TApiExpr), (⟨m0.gL, (IntKind.i64.wrap (m0.gAt + (1 : Int))), m0.gE⟩ : TParseReader)) else (bif (x2.gKind == (1 : Int)) then ((g2 (⟨m0.gL, (IntKind.i64.wrap (m0.gAt + (1 : Int))), m0.gE⟩ : TParseReader) (⟨(2 : Int), (0 : Int), x2.gText, [], x2.gAt⟩ : TApiExpr) (3 : Int) m0.gAt).bind fun x24 => some (x24.1, x24.2)) else (bif (x2.gKind == (3 : Int)) then ((g4 (⟨m0.gL, (IntKind.i64.wrap (m0.gAt + (1 : Int))), m0.gE⟩ : TParseReader) x2 m0.gAt).bind fun x29 => some (x29.1, x29.2)) else ((parse_reader_fail (⟨m0.gL, (IntKind.i64.wrap (m0.gAt + (1 : Int))), m0.gE⟩ : TParseReader) m0.gAt (3 : Int)).bind fun x31 => some ((⟨(0 : Int), (0 : Int), ByteArray.empty, [], (0 : Int)⟩ : TApiExpr), x31)))))))
set_option maxRecDepth 100000 in
set_option maxHeartbeats 2000000 in
theorem parse_reader_unit_b_ok (g0 : (TParseReader) → (Int) → Option (TApiExpr × TParseReader)) (g1 : (TParseReader) → Option (TApiExpr × TParseReader)) (g2 : (TParseReader) → (TApiExpr) → (Int) → (Int) → Option (TApiExpr × TParseReader)) (g3 : (TParseReader) → (ByteArray) → Option (TApiExpr × TParseReader)) (g4 : (TParseReader) → (TApiToken) → (Int) → Option (TApiExpr × TParseReader)) (hg0 : ∀ (m0 : TParseReader) (a1 : Int) (o0 : Nat) (T0 : TypeId) (c0_0 : Cap) (r : TApiExpr × TParseReader) (h0 : g0 m0 a1 = some r), CallsD Try.prog 91 [.ptr o0 0, .v (.int .i64 a1)] [(o0, Blk.cells [.lst 4 (m0.gL.map eTApiToken) c0_0, .v (.int .i64 m0.gAt), .v (.int .i64 m0.gE)] T0)] [] (fun d h k => d = eTApiExpr r.1 ∧ h = [(o0, Blk.cells [.lst 4 (r.2.gL.map eTApiToken) .no, .v (.int .i64 r.2.gAt), .v (.int .i64 r.2.gE)] T0)] ∧ k = [])) (hg1 : ∀ (m0 : TParseReader) (o0 : Nat) (T0 : TypeId) (c0_0 : Cap) (r : TApiExpr × TParseReader) (h0 : g1 m0 = some r), CallsD Try.prog 95 [.ptr o0 0] [(o0, Blk.cells [.lst 4 (m0.gL.map eTApiToken) c0_0, .v (.int .i64 m0.gAt), .v (.int .i64 m0.gE)] T0)] [] (fun d h k => d = eTApiExpr r.1 ∧ h = [(o0, Blk.cells [.lst 4 (r.2.gL.map eTApiToken) .no, .v (.int .i64 r.2.gAt), .v (.int .i64 r.2.gE)] T0)] ∧ k = [])) (hg2 : ∀ (m0 : TParseReader) (a1 : TApiExpr) (a2 : Int) (a3 : Int) (o0 : Nat) (T0 : TypeId) (c0_0 : Cap) (r : TApiExpr × TParseReader) (h0 : g2 m0 a1 a2 a3 = some r), CallsD Try.prog 99 [.ptr o0 0, eTApiExpr a1, .v (.int .i64 a2), .v (.int .i64 a3)] [(o0, Blk.cells [.lst 4 (m0.gL.map eTApiToken) c0_0, .v (.int .i64 m0.gAt), .v (.int .i64 m0.gE)] T0)] [] (fun d h k => d = eTApiExpr r.1 ∧ h = [(o0, Blk.cells [.lst 4 (r.2.gL.map eTApiToken) .no, .v (.int .i64 r.2.gAt), .v (.int .i64 r.2.gE)] T0)] ∧ k = [])) (hg3 : ∀ (m0 : TParseReader) (a1 : ByteArray) (o0 : Nat) (T0 : TypeId) (c0_0 : Cap) (r : TApiExpr × TParseReader) (h0 : g3 m0 a1 = some r), CallsD Try.prog 105 [.ptr o0 0, .v (.string a1)] [(o0, Blk.cells [.lst 4 (m0.gL.map eTApiToken) c0_0, .v (.int .i64 m0.gAt), .v (.int .i64 m0.gE)] T0)] [] (fun d h k => d = eTApiExpr r.1 ∧ h = [(o0, Blk.cells [.lst 4 (r.2.gL.map eTApiToken) .no, .v (.int .i64 r.2.gAt), .v (.int .i64 r.2.gE)] T0)] ∧ k = [])) (hg4 : ∀ (m0 : TParseReader) (a1 : TApiToken) (a2 : Int) (o0 : Nat) (T0 : TypeId) (c0_0 : Cap) (r : TApiExpr × TParseReader) (h0 : g4 m0 a1 a2 = some r), CallsD Try.prog 100 [.ptr o0 0, eTApiToken a1, .v (.int .i64 a2)] [(o0, Blk.cells [.lst 4 (m0.gL.map eTApiToken) c0_0, .v (.int .i64 m0.gAt), .v (.int .i64 m0.gE)] T0)] [] (fun d h k => d = eTApiExpr r.1 ∧ h = [(o0, Blk.cells [.lst 4 (r.2.gL.map eTApiToken) .no, .v (.int .i64 r.2.gAt), .v (.int .i64 r.2.gE)] T0)] ∧ k = [])) (m0 : TParseReader) (o0 : Nat) (T0 : TypeId) (c0_0 : Cap) (r : TApiExpr × TParseReader) (h0 : parse_reader_unit_b g0 g1 g2 g3 g4 m0 = some r) : CallsD Try.prog 95 [.ptr o0 0] [(o0, Blk.cells [.lst 4 (m0.gL.map eTApiToken) c0_0, .v (.int .i64 m0.gAt), .v (.int .i64 m0.gE)] T0)] [] (fun d h k => d = eTApiExpr r.1 ∧ h = [(o0, Blk.cells [.lst 4 (r.2.gL.map eTApiToken) .no, .v (.int .i64 r.2.gAt), .v (.int .i64 r.2.gE)] T0)] ∧ k = []) := by
  have hm := yes_of h0
  unfold parse_reader_unit_b at hm
  clear h0
  refine enterX htab Try.func95 rfl rfl rfl rfl rfl (fun C => ?_)
  refine wpD_sr ?_
  refine p_alloc htab rfl rfl rfl rfl rfl rfl rfl (fun b1 => ?_)
  refine ops_nt ?_
  refine wpD_seq ?_
  obtain ⟨x2, q2, hm⟩ := yes_bind hm
  refine wpD_fills 8 [(6, [.v (.int .i64 (0 : Int)), .v (.string ByteArray.empty), .v (.int .i64 (0 : Int)), .v (.int .i64 (0 : Int))], 69)] [(6, 7, [.v (.int .i64 x2.gKind), .v (.string x2.gText), .v (.int .i64 x2.gN), .v (.int .i64 x2.gAt)])] [[],[0],[],[2],[2,3],[2,3,4],[],[0,1,6]] [0,1,2,3,4,6,7] [[],[0],[],[2],[2,3],[2,3,4],[],[0,1,6],[0,1,2,3,4,5,6,7]] (by kernel_rfl) (by kernel_rfl) (by kernel_rfl) (by rfl) (by rfl) (by kernel_rfl) ?_
  iterate 5 apply Exists.intro
  refine ⟨.any, ?_⟩
  refine ⟨.any, ?_⟩
  intro bs
  refine zf_e rfl rfl (ex_pure htab rfl) rfl rfl rfl rfl rfl rfl rfl ?_
  refine zf_callB 0 rfl rfl (parse_reader_look_ok m0 o0 T0 c0_0 x2 q2) rfl rfl Wl rfl rfl rfl rfl rfl rfl rfl rfl ?_
  iterate 3 refine zf_e rfl rfl (ex_pure htab rfl) rfl rfl rfl rfl rfl rfl rfl ?_
  refine zf_qM rfl rfl (xm_load 0 htab rfl rfl rfl rfl rfl) rfl rfl rfl rfl rfl rfl ?_
  refine zf_alloc rfl htab rfl rfl rfl rfl rfl rfl rfl rfl rfl rfl (by simp [dOf, eI64]) (by simp) ?_
  refine zf_fill (e := 6) (zs := [.v (.int .i64 (0 : Int)), .v (.string ByteArray.empty), .v (.int .i64 (0 : Int)), .v (.int .i64 (0 : Int))]) (T' := 69) (ds' := [.v (.int .i64 x2.gKind), .v (.string x2.gText), .v (.int .i64 x2.gN), .v (.int .i64 x2.gAt)]) htab rfl rfl rfl rfl rfl rfl rfl rfl rfl (by simp) (by simp) rfl rfl rfl rfl rfl rfl rfl rfl rfl ?_
  refine zf_nil (h' := [(o0, Blk.cells [.lst 4 (m0.gL.map eTApiToken) c0_0, .v (.int .i64 m0.gAt), .v (.int .i64 m0.gE)] T0), (b1, Blk.cells [.v (.int .i64 (0 : Int)), .v (.int .i64 (0 : Int)), .v (.string ByteArray.empty), .lst 1 [] .full, .v (.int .i64 (0 : Int))] 100), (bs 6, Blk.cells [.v (.int .i64 x2.gKind), .v (.string x2.gText), .v (.int .i64 x2.gN), .v (.int .i64 x2.gAt)] 69)]) rfl rfl rfl (fun e he => by simp [isAl] at he; subst he; rfl) ?_
  obtain ⟨b3, hb3⟩ : ∃ b, bs 6 = b := ⟨_, rfl⟩
  simp only [hb3]
  clear hb3
  refine pu ?_
  refine ops_nt ?_
  refine wpD_seq ?_
  refine wpD_sr ?_
  iterate 3 refine pu ?_
  refine pL 0 ?_
  refine pu ?_
  refine ops_nt ?_
  refine wpD_cond rfl (fun hc5 => ?_) (fun hc5 => ?_)
  ·replace hm := yes_t hc5 hm
   refine wpD_sr ?_
   refine p_build (r := [.v (.int .i64 (0 : Int)), .v (.int .i64 (0 : Int)), .v (.string ByteArray.empty), .lst 1 [] .full, .v (.int .i64 (0 : Int))]) htab rfl rfl rfl rfl rfl rfl rfl rfl rfl ?_
   refine pS1 (ds' := [.v (.int .i64 (0 : Int)), .v (.int .i64 (0 : Int)), .v (.string ByteArray.empty), .lst 1 [] .full, .v (.int .i64 (0 : Int))]) ?_
   refine ops_nt ?_
   refine wpD_ret ?_
   refine then_ret ?_
   have er6 := yes_eq hm; subst er6
   refine retX.wk (WkS.bl1 (ds' := [.v (.int .i64 (0 : Int)), .v (.int .i64 (0 : Int)), .v (.string ByteArray.empty), .lst 5 (([] : List TApiExpr).map eTApiExpr) .no, .v (.int .i64 (0 : Int))]) (rC (rC (rC (WkR.cons (WkC.nil) rfl (rC WkR.nil)))))) ?_
   refine retX.wk (WkS.bl0 (ds' := [.lst 4 (m0.gL.map eTApiToken) .no, .v (.int .i64 m0.gAt), .v (.int .i64 m0.gE)]) (rO (rC (rC WkR.nil)))) ?_
   refine rP (t' := [(2, .ptr b1 0)]) [0,0] [] 1 (wC wN) (lC 1 lN) ?_
   exact ⟨by first | rfl | (simp only [wrapD, eTApiExpr_eq]; done) | (simp only [wrapD, eTApiExpr_eq]; rfl), rfl, rfl⟩
  ·replace hm := yes_f hc5 hm
   refine wpD_skip ?_
   refine then_normal ?_
   refine wpD_sr ?_
   iterate 3 refine pu ?_
   refine pL 0 ?_
   iterate 3 refine pu ?_
   refine pS0 (ds' := [.lst 4 (m0.gL.map eTApiToken) c0_0, .v (.int .i64 (IntKind.i64.wrap (m0.gAt + (1 : Int)))), .v (.int .i64 m0.gE)]) ?_
   refine ops_nt ?_
   refine wpD_seq ?_
   refine wpD_sr ?_
   refine pu ?_
   refine pL 2 ?_
   refine ops_nt ?_
   refine wpD_block ?_
   refine wpD_sr ?_
   refine pu ?_
   refine pu ?_
   refine ops_nt ?_
   refine wpD_cond rfl (fun hc17 => ?_) (fun hc17 => ?_)
   ·replace hm := yes_t hc17 hm
    refine wpD_sr ?_
    refine pu ?_
    refine pL 2 ?_
    refine pu ?_
    refine pL 2 ?_
    refine p_build (r := [.v (.int .i64 (1 : Int)), .v (.int .i64 x2.gN), .v (.string ByteArray.empty), .lst 1 [] .full, .v (.int .i64 x2.gAt)]) htab rfl rfl rfl rfl rfl rfl rfl rfl rfl ?_
    refine pS1 (ds' := [.v (.int .i64 (1 : Int)), .v (.int .i64 x2.gN), .v (.string ByteArray.empty), .lst 1 [] .full, .v (.int .i64 x2.gAt)]) ?_
    refine ops_nt ?_
    refine wpD_ret ?_
    refine block_ret ?_
    refine then_ret ?_
    have er18 := yes_eq hm; subst er18
    refine retX.wk (WkS.bl1 (ds' := [.v (.int .i64 (1 : Int)), .v (.int .i64 x2.gN), .v (.string ByteArray.empty), .lst 5 (([] : List TApiExpr).map eTApiExpr) .no, .v (.int .i64 x2.gAt)]) (rC (rC (rC (WkR.cons (WkC.nil) rfl (rC WkR.nil)))))) ?_
    refine retX.wk (WkS.bl0 (ds' := [.lst 4 (m0.gL.map eTApiToken) .no, .v (.int .i64 (IntKind.i64.wrap (m0.gAt + (1 : Int)))), .v (.int .i64 m0.gE)]) (rO (rC (rC WkR.nil)))) ?_
    refine rP (t' := [(2, .ptr b1 0)]) [0,0] [] 1 (wC wN) (lC 1 lN) ?_
    exact ⟨by first | rfl | (simp only [wrapD, eTApiExpr_eq]; done) | (simp only [wrapD, eTApiExpr_eq]; rfl), rfl, rfl⟩
   ·replace hm := yes_f hc17 hm
    refine wpD_sr ?_
    refine pu ?_
    refine pu ?_
    refine ops_nt ?_
    refine wpD_cond rfl (fun hc23 => ?_) (fun hc23 => ?_)
    ·replace hm := yes_t hc23 hm
     refine wpD_sr ?_
     refine pu ?_
     refine pu ?_
     refine pL 2 ?_
     refine pu ?_
     refine pL 2 ?_
     refine p_build (r := [.v (.int .i64 (2 : Int)), .v (.int .i64 (0 : Int)), .v (.string x2.gText), .lst 1 [] .full, .v (.int .i64 x2.gAt)]) htab rfl rfl rfl rfl rfl rfl rfl rfl rfl ?_
     refine pu ?_
     obtain ⟨x24, q24, hm⟩ := yes_bind hm
     refine p_callG (hg2 (⟨m0.gL, (IntKind.i64.wrap (m0.gAt + (1 : Int))), m0.gE⟩ : TParseReader) (⟨(2 : Int), (0 : Int), x2.gText, [], x2.gAt⟩ : TApiExpr) (3 : Int) m0.gAt o0 T0 c0_0 x24 q24) rfl rfl rfl rfl rfl (WkL.cons (Wk.refl _) (WkL.cons (Wk.trans (Wk.agg (rC (rC (rC (WkR.cons (WkC.nil) rfl (rC WkR.nil)))))) (Wk.of_eq (eTApiExpr_eq (⟨(2 : Int), (0 : Int), x2.gText, [], x2.gAt⟩ : TApiExpr)).symm)) (WkL.cons (Wk.refl _) (WkL.cons (Wk.refl _) Wl)))) Pf Pf ?_
     rintro _ _ _ ⟨rfl, rfl, rfl⟩
     refine p_eq (i := 42) rfl (Wk.of_eq (eTApiExpr_eq x24.1)) ?_
     refine pS1 (ds' := [.v (.int .i64 x24.1.gOp), .v (.int .i64 x24.1.gN), .v (.string x24.1.gName), .lst 5 (x24.1.gKids.map eTApiExpr) .no, .v (.int .i64 x24.1.gAt)]) ?_
     refine ops_nt ?_
     refine wpD_ret ?_
     refine block_ret ?_
     refine then_ret ?_
     have er25 := yes_eq hm; subst er25
     refine rP (t' := [(2, .ptr b1 0)]) [0,0] [] 1 (wC wN) (lC 1 lN) ?_
     exact ⟨by first | rfl | (simp only [wrapD, eTApiExpr_eq]; done) | (simp only [wrapD, eTApiExpr_eq]; rfl), rfl, rfl⟩
    ·replace hm := yes_f hc23 hm
     refine wpD_sr ?_
     refine pu ?_
     refine pu ?_
     refine ops_nt ?_
     refine wpD_cond rfl (fun hc28 => ?_) (fun hc28 => ?_)
     ·replace hm := yes_t hc28 hm
      refine wpD_sr ?_
      refine pu ?_
      refine p_load (d := eTApiToken x2) 2 htab rfl rfl rfl rfl rfl rfl rfl rfl ?_
      refine pu ?_
      obtain ⟨x29, q29, hm⟩ := yes_bind hm
      refine pG (hg4 (⟨m0.gL, (IntKind.i64.wrap (m0.gAt + (1 : Int))), m0.gE⟩ : TParseReader) x2 m0.gAt o0 T0 c0_0 x29 q29) Wl Pf Pf ?_
      rintro _ _ _ ⟨rfl, rfl, rfl⟩
      refine p_eq (i := 48) rfl (Wk.of_eq (eTApiExpr_eq x29.1)) ?_
      refine pS1 (ds' := [.v (.int .i64 x29.1.gOp), .v (.int .i64 x29.1.gN), .v (.string x29.1.gName), .lst 5 (x29.1.gKids.map eTApiExpr) .no, .v (.int .i64 x29.1.gAt)]) ?_
      refine ops_nt ?_
      refine wpD_ret ?_
      refine block_ret ?_
      refine then_ret ?_
      have er30 := yes_eq hm; subst er30
      refine rP (t' := [(2, .ptr b1 0)]) [0,0] [] 1 (wC wN) (lC 1 lN) ?_
      exact ⟨by first | rfl | (simp only [wrapD, eTApiExpr_eq]; done) | (simp only [wrapD, eTApiExpr_eq]; rfl), rfl, rfl⟩
     ·replace hm := yes_f hc28 hm
      refine wpD_skip ?_
      refine block_normal ?_
      refine then_normal ?_
      refine wpD_sr ?_
      refine pu ?_
      refine pu ?_
      obtain ⟨x31, q31, hm⟩ := yes_bind hm
      refine pG (parse_reader_fail_ok (⟨m0.gL, (IntKind.i64.wrap (m0.gAt + (1 : Int))), m0.gE⟩ : TParseReader) m0.gAt (3 : Int) o0 T0 c0_0 x31 q31) Wl Pf Pf ?_
      rintro _ _ _ ⟨rfl, rfl, rfl⟩
      refine ops_n2 ?_
      refine p_build (r := [.v (.int .i64 (0 : Int)), .v (.int .i64 (0 : Int)), .v (.string ByteArray.empty), .lst 1 [] .full, .v (.int .i64 (0 : Int))]) htab rfl rfl rfl rfl rfl rfl rfl rfl rfl ?_
      refine pS1 (ds' := [.v (.int .i64 (0 : Int)), .v (.int .i64 (0 : Int)), .v (.string ByteArray.empty), .lst 1 [] .full, .v (.int .i64 (0 : Int))]) ?_
      refine ops_nt ?_
      refine wpD_ret ?_
      have er32 := yes_eq hm; subst er32
      refine retX.wk (WkS.bl1 (ds' := [.v (.int .i64 (0 : Int)), .v (.int .i64 (0 : Int)), .v (.string ByteArray.empty), .lst 5 (([] : List TApiExpr).map eTApiExpr) .no, .v (.int .i64 (0 : Int))]) (rC (rC (rC (WkR.cons (WkC.nil) rfl (rC WkR.nil)))))) ?_
      refine retX.wk (WkS.bl0 (ds' := [.lst 4 (x31.gL.map eTApiToken) .no, .v (.int .i64 x31.gAt), .v (.int .i64 x31.gE)]) (rO (rC (rC WkR.nil)))) ?_
      refine rP (t' := [(2, .ptr b1 0)]) [0,0] [] 1 (wC wN) (lC 1 lN) ?_
      exact ⟨by first | rfl | (simp only [wrapD, eTApiExpr_eq]; done) | (simp only [wrapD, eTApiExpr_eq]; rfl), rfl, rfl⟩
noncomputable def parse_reader_indexed_b (g0 : (TParseReader) → (Int) → Option (TApiExpr × TParseReader)) (g1 : (TParseReader) → Option (TApiExpr × TParseReader)) (g2 : (TParseReader) → (TApiExpr) → (Int) → (Int) → Option (TApiExpr × TParseReader)) (g3 : (TParseReader) → (ByteArray) → Option (TApiExpr × TParseReader)) (g4 : (TParseReader) → (TApiToken) → (Int) → Option (TApiExpr × TParseReader)) (m0 : TParseReader) (a1 : TApiExpr) (a2 : Int) (a3 : Int) : Option (TApiExpr × TParseReader) :=
  (Option.bind (α := Bool) (bif (m0.gE != (0 : Int)) then some true else ((parse_reader_is m0 (ByteArray.mk #[91])).bind fun x7 => some (!x7))) fun y5 => (bif y5 then some (a1, m0) else ((g3 (⟨m0.gL, (IntKind.i64.wrap (m0.gAt + (1 : Int))), m0.gE⟩ : TParseReader) (ByteArray.mk #[93])).bind fun x11 => ((parse_reader_sound x11.2 (⟨a2, a1.gN, a1.gName, ([x11.1] : List TApiExpr), a1.gAt⟩ : TApiExpr) a3).bind fun x12 => some (x12.1, x12.2)))))
set_option maxRecDepth 100000 in
set_option maxHeartbeats 2000000 in
theorem parse_reader_indexed_b_ok (g0 : (TParseReader) → (Int) → Option (TApiExpr × TParseReader)) (g1 : (TParseReader) → Option (TApiExpr × TParseReader)) (g2 : (TParseReader) → (TApiExpr) → (Int) → (Int) → Option (TApiExpr × TParseReader)) (g3 : (TParseReader) → (ByteArray) → Option (TApiExpr × TParseReader)) (g4 : (TParseReader) → (TApiToken) → (Int) → Option (TApiExpr × TParseReader)) (hg0 : ∀ (m0 : TParseReader) (a1 : Int) (o0 : Nat) (T0 : TypeId) (c0_0 : Cap) (r : TApiExpr × TParseReader) (h0 : g0 m0 a1 = some r), CallsD Try.prog 91 [.ptr o0 0, .v (.int .i64 a1)] [(o0, Blk.cells [.lst 4 (m0.gL.map eTApiToken) c0_0, .v (.int .i64 m0.gAt), .v (.int .i64 m0.gE)] T0)] [] (fun d h k => d = eTApiExpr r.1 ∧ h = [(o0, Blk.cells [.lst 4 (r.2.gL.map eTApiToken) .no, .v (.int .i64 r.2.gAt), .v (.int .i64 r.2.gE)] T0)] ∧ k = [])) (hg1 : ∀ (m0 : TParseReader) (o0 : Nat) (T0 : TypeId) (c0_0 : Cap) (r : TApiExpr × TParseReader) (h0 : g1 m0 = some r), CallsD Try.prog 95 [.ptr o0 0] [(o0, Blk.cells [.lst 4 (m0.gL.map eTApiToken) c0_0, .v (.int .i64 m0.gAt), .v (.int .i64 m0.gE)] T0)] [] (fun d h k => d = eTApiExpr r.1 ∧ h = [(o0, Blk.cells [.lst 4 (r.2.gL.map eTApiToken) .no, .v (.int .i64 r.2.gAt), .v (.int .i64 r.2.gE)] T0)] ∧ k = [])) (hg2 : ∀ (m0 : TParseReader) (a1 : TApiExpr) (a2 : Int) (a3 : Int) (o0 : Nat) (T0 : TypeId) (c0_0 : Cap) (r : TApiExpr × TParseReader) (h0 : g2 m0 a1 a2 a3 = some r), CallsD Try.prog 99 [.ptr o0 0, eTApiExpr a1, .v (.int .i64 a2), .v (.int .i64 a3)] [(o0, Blk.cells [.lst 4 (m0.gL.map eTApiToken) c0_0, .v (.int .i64 m0.gAt), .v (.int .i64 m0.gE)] T0)] [] (fun d h k => d = eTApiExpr r.1 ∧ h = [(o0, Blk.cells [.lst 4 (r.2.gL.map eTApiToken) .no, .v (.int .i64 r.2.gAt), .v (.int .i64 r.2.gE)] T0)] ∧ k = [])) (hg3 : ∀ (m0 : TParseReader) (a1 : ByteArray) (o0 : Nat) (T0 : TypeId) (c0_0 : Cap) (r : TApiExpr × TParseReader) (h0 : g3 m0 a1 = some r), CallsD Try.prog 105 [.ptr o0 0, .v (.string a1)] [(o0, Blk.cells [.lst 4 (m0.gL.map eTApiToken) c0_0, .v (.int .i64 m0.gAt), .v (.int .i64 m0.gE)] T0)] [] (fun d h k => d = eTApiExpr r.1 ∧ h = [(o0, Blk.cells [.lst 4 (r.2.gL.map eTApiToken) .no, .v (.int .i64 r.2.gAt), .v (.int .i64 r.2.gE)] T0)] ∧ k = [])) (hg4 : ∀ (m0 : TParseReader) (a1 : TApiToken) (a2 : Int) (o0 : Nat) (T0 : TypeId) (c0_0 : Cap) (r : TApiExpr × TParseReader) (h0 : g4 m0 a1 a2 = some r), CallsD Try.prog 100 [.ptr o0 0, eTApiToken a1, .v (.int .i64 a2)] [(o0, Blk.cells [.lst 4 (m0.gL.map eTApiToken) c0_0, .v (.int .i64 m0.gAt), .v (.int .i64 m0.gE)] T0)] [] (fun d h k => d = eTApiExpr r.1 ∧ h = [(o0, Blk.cells [.lst 4 (r.2.gL.map eTApiToken) .no, .v (.int .i64 r.2.gAt), .v (.int .i64 r.2.gE)] T0)] ∧ k = [])) (m0 : TParseReader) (a1 : TApiExpr) (a2 : Int) (a3 : Int) (o0 : Nat) (T0 : TypeId) (c0_0 : Cap) (r : TApiExpr × TParseReader) (h0 : parse_reader_indexed_b g0 g1 g2 g3 g4 m0 a1 a2 a3 = some r) : CallsD Try.prog 99 [.ptr o0 0, eTApiExpr a1, .v (.int .i64 a2), .v (.int .i64 a3)] [(o0, Blk.cells [.lst 4 (m0.gL.map eTApiToken) c0_0, .v (.int .i64 m0.gAt), .v (.int .i64 m0.gE)] T0)] [] (fun d h k => d = eTApiExpr r.1 ∧ h = [(o0, Blk.cells [.lst 4 (r.2.gL.map eTApiToken) .no, .v (.int .i64 r.2.gAt), .v (.int .i64 r.2.gE)] T0)] ∧ k = []) := by
  have hm := yes_of h0
  unfold parse_reader_indexed_b at hm
  clear h0
  refine enterX htab Try.func99 rfl rfl rfl rfl rfl (fun C => ?_)
  refine w_eq (i := 1) rfl (Wk.of_eq (eTApiExpr_eq a1)) ?_
  refine wpD_sr ?_
  refine p_box rfl rfl rfl rfl rfl rfl rfl (fun b1 => ?_)
  refine p_alloc htab rfl rfl rfl rfl rfl rfl rfl (fun b2 => ?_)
  refine ops_nt ?_
  refine wpD_seq ?_
  refine wpD_seq ?_
  obtain ⟨y5, q5, ho5⟩ := yes_bind hm
  refine wpD_mid (Y := Unit) (fun z5 => (⟨[(0, .ptr o0 0), (2, .v (.int .i64 a2)), (3, .v (.int .i64 a3)), (5, .ptr b1 0), (8, .ptr b2 0), (18, .v (.bool y5))], [(o0, Blk.cells [.lst 4 (m0.gL.map eTApiToken) c0_0, .v (.int .i64 m0.gAt), .v (.int .i64 m0.gE)] T0), (b1, Blk.cells [.v (.int .i64 a1.gOp), .v (.int .i64 a1.gN), .v (.string a1.gName), .lst 5 (a1.gKids.map eTApiExpr) .no, .v (.int .i64 a1.gAt)] 100), (b2, Blk.cells [.v (.int .i64 (0 : Int)), .v (.int .i64 (0 : Int)), .v (.string ByteArray.empty), .lst 1 [] .full, .v (.int .i64 (0 : Int))] 100)], []⟩ : S)) ?_ ?_
  ·clear hm; have hm := yes_of q5
   refine wpD_region ?_
   iterate 3 refine pu ?_
   refine pL 0 ?_
   refine pu ?_
   refine pu ?_
   refine p_split (i := 14) rfl (fun hg6 => ?_) (fun hg6 => ?_)
   ·replace hm := yes_t hg6 hm
    iterate 3 refine pK ?_
    refine p_pickT rfl rfl rfl rfl rfl rfl ?_
    refine ops_nil ?_
    have e5 := yes_eq hm; subst e5
    refine ⟨rfl, ?_⟩
    exact WkX.of () (WkS.perm (WkS.cons rfl (Wk.refl _) (WkS.cons rfl (Wk.refl _) (WkS.cons rfl (Wk.refl _) (WkS.cons rfl (Wk.refl _) (WkS.cons rfl (Wk.refl _) (WkS.cons rfl (Wk.refl _) (WkS.nil))))))) Pf Pf)
   ·replace hm := yes_f hg6 hm
    refine pu ?_
    obtain ⟨x7, q7, hm⟩ := yes_bind hm
    refine pG (parse_reader_is_ok m0 (ByteArray.mk #[91]) o0 T0 c0_0 x7 q7) Wl Pf Pf ?_
    rintro _ _ _ ⟨rfl, rfl, rfl⟩
    refine pu ?_
    refine p_pickF rfl rfl rfl rfl rfl rfl ?_
    refine ops_nil ?_
    have e5 := yes_eq hm; subst e5
    refine ⟨rfl, ?_⟩
    exact WkX.of () (WkS.perm (WkS.cons rfl (Wk.refl _) (WkS.cons rfl (Wk.refl _) (WkS.cons rfl (Wk.refl _) (WkS.cons rfl (Wk.refl _) (WkS.cons rfl (Wk.refl _) (WkS.cons rfl (Wk.refl _) (WkS.nil))))))) Pf Pf)
  ·intro s5 hw5; clear hm; have hm := ho5; clear q5 ho5
   refine then_normal ?_
   refine wpD_wkX hw5 (fun z5 => ?_)
   refine wpD_cond rfl (fun hc9 => ?_) (fun hc9 => ?_)
   ·replace hm := yes_t hc9 hm
    refine wpD_sr ?_
    refine p_load (d := .agg [.v (.int .i64 a1.gOp), .v (.int .i64 a1.gN), .v (.string a1.gName), .lst 5 (a1.gKids.map eTApiExpr) .no, .v (.int .i64 a1.gAt)]) 1 htab rfl rfl rfl rfl rfl rfl rfl rfl ?_
    refine pS2 (ds' := [.v (.int .i64 a1.gOp), .v (.int .i64 a1.gN), .v (.string a1.gName), .lst 5 (a1.gKids.map eTApiExpr) .no, .v (.int .i64 a1.gAt)]) ?_
    refine ops_nt ?_
    refine wpD_ret ?_
    refine then_ret ?_
    have er10 := yes_eq hm; subst er10
    refine retX.wk (WkS.bl0 (ds' := [.lst 4 (m0.gL.map eTApiToken) .no, .v (.int .i64 m0.gAt), .v (.int .i64 m0.gE)]) (rO (rC (rC WkR.nil)))) ?_
    refine rP (t' := [(8, .ptr b2 0)]) [0,1] [] 1 (wC wN) (lC 1 lN) ?_
    exact ⟨by first | rfl | (simp only [wrapD, eTApiExpr_eq]; done) | (simp only [wrapD, eTApiExpr_eq]; rfl), rfl, rfl⟩
   ·replace hm := yes_f hc9 hm
    refine wpD_skip ?_
    refine then_normal ?_
    refine wpD_sr ?_
    iterate 3 refine pu ?_
    refine pL 0 ?_
    iterate 3 refine pu ?_
    refine pS0 (ds' := [.lst 4 (m0.gL.map eTApiToken) c0_0, .v (.int .i64 (IntKind.i64.wrap (m0.gAt + (1 : Int)))), .v (.int .i64 m0.gE)]) ?_
    refine ops_n2 ?_
    refine pu ?_
    refine pu ?_
    refine pS1 (ds' := [.v (.int .i64 a2), .v (.int .i64 a1.gN), .v (.string a1.gName), .lst 5 (a1.gKids.map eTApiExpr) .no, .v (.int .i64 a1.gAt)]) ?_
    refine ops_n2 ?_
    refine pu ?_
    obtain ⟨x11, q11, hm⟩ := yes_bind hm
    refine pG (hg3 (⟨m0.gL, (IntKind.i64.wrap (m0.gAt + (1 : Int))), m0.gE⟩ : TParseReader) (ByteArray.mk #[93]) o0 T0 c0_0 x11 q11) Wl Pf Pf ?_
    rintro _ _ _ ⟨rfl, rfl, rfl⟩
    refine p_eq (i := 30) rfl (Wk.of_eq (eTApiExpr_eq x11.1)) ?_
    refine p_lit htab rfl rfl rfl rfl rfl rfl rfl rfl rfl rfl rfl rfl rfl rfl ?_
    refine p_eq (i := 31) (d' := .lst 5 (([x11.1] : List TApiExpr).map eTApiExpr) .full) rfl (Wk.lst0 (.cons (WkC.trans (WkC.agg (WkR.refl _)) (WkC.of_eq (eTApiExpr_eq x11.1).symm)) (.nil))) ?_
    refine pu ?_
    refine pS1 (ds' := [.v (.int .i64 a2), .v (.int .i64 a1.gN), .v (.string a1.gName), .lst 5 (([x11.1] : List TApiExpr).map eTApiExpr) .full, .v (.int .i64 a1.gAt)]) ?_
    refine ops_n2 ?_
    refine pu ?_
    refine p_load (d := .agg [.v (.int .i64 a2), .v (.int .i64 a1.gN), .v (.string a1.gName), .lst 5 (([x11.1] : List TApiExpr).map eTApiExpr) .full, .v (.int .i64 a1.gAt)]) 1 htab rfl rfl rfl rfl rfl rfl rfl rfl ?_
    refine pu ?_
    obtain ⟨x12, q12, hm⟩ := yes_bind hm
    refine p_callG (parse_reader_sound_ok x11.2 (⟨a2, a1.gN, a1.gName, ([x11.1] : List TApiExpr), a1.gAt⟩ : TApiExpr) a3 o0 T0 .no x12 q12) rfl rfl rfl rfl rfl (WkL.cons (Wk.refl _) (WkL.cons (Wk.trans (Wk.agg (rC (rC (rC (rO (rC WkR.nil)))))) (Wk.of_eq (eTApiExpr_eq (⟨a2, a1.gN, a1.gName, ([x11.1] : List TApiExpr), a1.gAt⟩ : TApiExpr)).symm)) (WkL.cons (Wk.refl _) Wl))) Pf Pf ?_
    rintro _ _ _ ⟨rfl, rfl, rfl⟩
    refine p_eq (i := 36) rfl (Wk.of_eq (eTApiExpr_eq x12.1)) ?_
    refine pS2 (ds' := [.v (.int .i64 x12.1.gOp), .v (.int .i64 x12.1.gN), .v (.string x12.1.gName), .lst 5 (x12.1.gKids.map eTApiExpr) .no, .v (.int .i64 x12.1.gAt)]) ?_
    refine ops_nt ?_
    refine wpD_ret ?_
    have er13 := yes_eq hm; subst er13
    refine rP (t' := [(8, .ptr b2 0)]) [0,1] [] 1 (wC wN) (lC 1 lN) ?_
    exact ⟨by first | rfl | (simp only [wrapD, eTApiExpr_eq]; done) | (simp only [wrapD, eTApiExpr_eq]; rfl), rfl, rfl⟩
noncomputable def parse_reader_all_b (g0 : (TParseReader) → (Int) → Option (TApiExpr × TParseReader)) (g1 : (TParseReader) → Option (TApiExpr × TParseReader)) (g2 : (TParseReader) → (TApiExpr) → (Int) → (Int) → Option (TApiExpr × TParseReader)) (g3 : (TParseReader) → (ByteArray) → Option (TApiExpr × TParseReader)) (g4 : (TParseReader) → (TApiToken) → (Int) → Option (TApiExpr × TParseReader)) (m0 : TParseReader) (a1 : ByteArray) : Option (TApiExpr × TParseReader) :=
  ((g0 m0 (0 : Int)).bind fun x2 => (bif (x2.2.gE == (0 : Int)) then ((parse_reader_eat x2.2 a1).bind fun x5 => some (x2.1, x5)) else some (x2.1, x2.2)))
set_option maxRecDepth 100000 in
set_option maxHeartbeats 2000000 in
theorem parse_reader_all_b_ok (g0 : (TParseReader) → (Int) → Option (TApiExpr × TParseReader)) (g1 : (TParseReader) → Option (TApiExpr × TParseReader)) (g2 : (TParseReader) → (TApiExpr) → (Int) → (Int) → Option (TApiExpr × TParseReader)) (g3 : (TParseReader) → (ByteArray) → Option (TApiExpr × TParseReader)) (g4 : (TParseReader) → (TApiToken) → (Int) → Option (TApiExpr × TParseReader)) (hg0 : ∀ (m0 : TParseReader) (a1 : Int) (o0 : Nat) (T0 : TypeId) (c0_0 : Cap) (r : TApiExpr × TParseReader) (h0 : g0 m0 a1 = some r), CallsD Try.prog 91 [.ptr o0 0, .v (.int .i64 a1)] [(o0, Blk.cells [.lst 4 (m0.gL.map eTApiToken) c0_0, .v (.int .i64 m0.gAt), .v (.int .i64 m0.gE)] T0)] [] (fun d h k => d = eTApiExpr r.1 ∧ h = [(o0, Blk.cells [.lst 4 (r.2.gL.map eTApiToken) .no, .v (.int .i64 r.2.gAt), .v (.int .i64 r.2.gE)] T0)] ∧ k = [])) (hg1 : ∀ (m0 : TParseReader) (o0 : Nat) (T0 : TypeId) (c0_0 : Cap) (r : TApiExpr × TParseReader) (h0 : g1 m0 = some r), CallsD Try.prog 95 [.ptr o0 0] [(o0, Blk.cells [.lst 4 (m0.gL.map eTApiToken) c0_0, .v (.int .i64 m0.gAt), .v (.int .i64 m0.gE)] T0)] [] (fun d h k => d = eTApiExpr r.1 ∧ h = [(o0, Blk.cells [.lst 4 (r.2.gL.map eTApiToken) .no, .v (.int .i64 r.2.gAt), .v (.int .i64 r.2.gE)] T0)] ∧ k = [])) (hg2 : ∀ (m0 : TParseReader) (a1 : TApiExpr) (a2 : Int) (a3 : Int) (o0 : Nat) (T0 : TypeId) (c0_0 : Cap) (r : TApiExpr × TParseReader) (h0 : g2 m0 a1 a2 a3 = some r), CallsD Try.prog 99 [.ptr o0 0, eTApiExpr a1, .v (.int .i64 a2), .v (.int .i64 a3)] [(o0, Blk.cells [.lst 4 (m0.gL.map eTApiToken) c0_0, .v (.int .i64 m0.gAt), .v (.int .i64 m0.gE)] T0)] [] (fun d h k => d = eTApiExpr r.1 ∧ h = [(o0, Blk.cells [.lst 4 (r.2.gL.map eTApiToken) .no, .v (.int .i64 r.2.gAt), .v (.int .i64 r.2.gE)] T0)] ∧ k = [])) (hg3 : ∀ (m0 : TParseReader) (a1 : ByteArray) (o0 : Nat) (T0 : TypeId) (c0_0 : Cap) (r : TApiExpr × TParseReader) (h0 : g3 m0 a1 = some r), CallsD Try.prog 105 [.ptr o0 0, .v (.string a1)] [(o0, Blk.cells [.lst 4 (m0.gL.map eTApiToken) c0_0, .v (.int .i64 m0.gAt), .v (.int .i64 m0.gE)] T0)] [] (fun d h k => d = eTApiExpr r.1 ∧ h = [(o0, Blk.cells [.lst 4 (r.2.gL.map eTApiToken) .no, .v (.int .i64 r.2.gAt), .v (.int .i64 r.2.gE)] T0)] ∧ k = [])) (hg4 : ∀ (m0 : TParseReader) (a1 : TApiToken) (a2 : Int) (o0 : Nat) (T0 : TypeId) (c0_0 : Cap) (r : TApiExpr × TParseReader) (h0 : g4 m0 a1 a2 = some r), CallsD Try.prog 100 [.ptr o0 0, eTApiToken a1, .v (.int .i64 a2)] [(o0, Blk.cells [.lst 4 (m0.gL.map eTApiToken) c0_0, .v (.int .i64 m0.gAt), .v (.int .i64 m0.gE)] T0)] [] (fun d h k => d = eTApiExpr r.1 ∧ h = [(o0, Blk.cells [.lst 4 (r.2.gL.map eTApiToken) .no, .v (.int .i64 r.2.gAt), .v (.int .i64 r.2.gE)] T0)] ∧ k = [])) (m0 : TParseReader) (a1 : ByteArray) (o0 : Nat) (T0 : TypeId) (c0_0 : Cap) (r : TApiExpr × TParseReader) (h0 : parse_reader_all_b g0 g1 g2 g3 g4 m0 a1 = some r) : CallsD Try.prog 105 [.ptr o0 0, .v (.string a1)] [(o0, Blk.cells [.lst 4 (m0.gL.map eTApiToken) c0_0, .v (.int .i64 m0.gAt), .v (.int .i64 m0.gE)] T0)] [] (fun d h k => d = eTApiExpr r.1 ∧ h = [(o0, Blk.cells [.lst 4 (r.2.gL.map eTApiToken) .no, .v (.int .i64 r.2.gAt), .v (.int .i64 r.2.gE)] T0)] ∧ k = []) := by
  have hm := yes_of h0
  unfold parse_reader_all_b at hm
  clear h0
  refine enterX htab Try.func105 rfl rfl rfl rfl rfl (fun C => ?_)
  refine wpD_sr ?_
  refine p_alloc htab rfl rfl rfl rfl rfl rfl rfl (fun b1 => ?_)
  refine ops_n2 ?_
  refine pu ?_
  obtain ⟨x2, q2, hm⟩ := yes_bind hm
  refine pG (hg0 m0 (0 : Int) o0 T0 c0_0 x2 q2) Wl Pf Pf ?_
  rintro _ _ _ ⟨rfl, rfl, rfl⟩
  refine p_eq (i := 7) rfl (Wk.of_eq (eTApiExpr_eq x2.1)) ?_
  refine p_alloc htab rfl rfl rfl rfl rfl rfl rfl (fun b3 => ?_)
  refine pS2 (ds' := [.v (.int .i64 x2.1.gOp), .v (.int .i64 x2.1.gN), .v (.string x2.1.gName), .lst 5 (x2.1.gKids.map eTApiExpr) .no, .v (.int .i64 x2.1.gAt)]) ?_
  refine ops_nt ?_
  refine wpD_seq ?_
  refine wpD_sr ?_
  iterate 3 refine pu ?_
  refine pL 0 ?_
  refine pu ?_
  refine ops_nt ?_
  refine wpD_cond rfl (fun hc4 => ?_) (fun hc4 => ?_)
  ·replace hm := yes_t hc4 hm
   refine wpD_region ?_
   refine pu ?_
   refine pu ?_
   obtain ⟨x5, q5, hm⟩ := yes_bind hm
   refine pG (parse_reader_eat_ok x2.2 a1 o0 T0 .no x5 q5) Wl Pf Pf ?_
   rintro _ _ _ ⟨rfl, rfl, rfl⟩
   refine ops_n2 ?_
   refine p_load (d := .agg [.v (.int .i64 x2.1.gOp), .v (.int .i64 x2.1.gN), .v (.string x2.1.gName), .lst 5 (x2.1.gKids.map eTApiExpr) .no, .v (.int .i64 x2.1.gAt)]) 2 htab rfl rfl rfl rfl rfl rfl rfl rfl ?_
   refine pS1 (ds' := [.v (.int .i64 x2.1.gOp), .v (.int .i64 x2.1.gN), .v (.string x2.1.gName), .lst 5 (x2.1.gKids.map eTApiExpr) .no, .v (.int .i64 x2.1.gAt)]) ?_
   refine ops_nt ?_
   refine wpD_ret ?_
   have er6 := yes_eq hm; subst er6
   refine rP (t' := [(4, .ptr b1 0)]) [0,0] [] 1 (wC wN) (lC 1 lN) ?_
   exact ⟨by first | rfl | (simp only [wrapD, eTApiExpr_eq]; done) | (simp only [wrapD, eTApiExpr_eq]; rfl), rfl, rfl⟩
  ·replace hm := yes_f hc4 hm
   refine wpD_skip ?_
   refine then_normal ?_
   refine wpD_sr ?_
   refine p_load (d := .agg [.v (.int .i64 x2.1.gOp), .v (.int .i64 x2.1.gN), .v (.string x2.1.gName), .lst 5 (x2.1.gKids.map eTApiExpr) .no, .v (.int .i64 x2.1.gAt)]) 2 htab rfl rfl rfl rfl rfl rfl rfl rfl ?_
   refine pS1 (ds' := [.v (.int .i64 x2.1.gOp), .v (.int .i64 x2.1.gN), .v (.string x2.1.gName), .lst 5 (x2.1.gKids.map eTApiExpr) .no, .v (.int .i64 x2.1.gAt)]) ?_
   refine ops_nt ?_
   refine wpD_ret ?_
   have er7 := yes_eq hm; subst er7
   refine rP (t' := [(4, .ptr b1 0)]) [0,0] [] 1 (wC wN) (lC 1 lN) ?_
   exact ⟨by first | rfl | (simp only [wrapD, eTApiExpr_eq]; done) | (simp only [wrapD, eTApiExpr_eq]; rfl), rfl, rfl⟩
noncomputable def parse_reader_sign_b (g0 : (TParseReader) → (Int) → Option (TApiExpr × TParseReader)) (g1 : (TParseReader) → Option (TApiExpr × TParseReader)) (g2 : (TParseReader) → (TApiExpr) → (Int) → (Int) → Option (TApiExpr × TParseReader)) (g3 : (TParseReader) → (ByteArray) → Option (TApiExpr × TParseReader)) (g4 : (TParseReader) → (TApiToken) → (Int) → Option (TApiExpr × TParseReader)) (m0 : TParseReader) (a1 : TApiToken) (a2 : Int) : Option (TApiExpr × TParseReader) :=
  (Option.bind (α := Bool) (bif (decide (a1.gText = (ByteArray.mk #[45]))) then some (decide (a1.gText = (ByteArray.mk #[45]))) else some (decide (a1.gText = (ByteArray.mk #[33])))) fun y19 => (bif y19 then ((parse_pick a1.gText (ByteArray.mk #[45]) (5 : Int) (ByteArray.mk #[33]) (6 : Int)).bind fun x34 => ((g1 m0).bind fun x35 => ((parse_reader_sound x35.2 (⟨x34, (0 : Int), ByteArray.empty, ([x35.1] : List TApiExpr), a1.gAt⟩ : TApiExpr) a2).bind fun x36 => some (x36.1, x36.2)))) else (bif (decide (a1.gText = (ByteArray.mk #[42]))) then ((parse_reader_name m0).bind fun x47 => some ((⟨(4 : Int), (0 : Int), x47.1, [], a1.gAt⟩ : TApiExpr), x47.2)) else (bif (decide (a1.gText = (ByteArray.mk #[38]))) then ((parse_reader_name m0).bind fun x56 => ((g2 x56.2 (⟨(19 : Int), (0 : Int), x56.1, [], a1.gAt⟩ : TApiExpr) (20 : Int) a2).bind fun x57 => some (x57.1, x57.2))) else (bif (decide (a1.gText = (ByteArray.mk #[110, 117, 108, 108]))) then some ((⟨(18 : Int), (0 : Int), ByteArray.empty, [], a1.gAt⟩ : TApiExpr), m0) else (bif (decide (a1.gText = (ByteArray.mk #[40]))) then ((g3 m0 (ByteArray.mk #[41])).bind fun x67 => some (x67.1, x67.2)) else ((parse_reader_fail m0 a2 (3 : Int)).bind fun x69 => some ((⟨(0 : Int), (0 : Int), ByteArray.empty, [], (0 : Int)⟩ : TApiExpr), x69))))))))
set_option maxRecDepth 100000 in
set_option maxHeartbeats 2000000 in
theorem parse_reader_sign_b_ok (g0 : (TParseReader) → (Int) → Option (TApiExpr × TParseReader)) (g1 : (TParseReader) → Option (TApiExpr × TParseReader)) (g2 : (TParseReader) → (TApiExpr) → (Int) → (Int) → Option (TApiExpr × TParseReader)) (g3 : (TParseReader) → (ByteArray) → Option (TApiExpr × TParseReader)) (g4 : (TParseReader) → (TApiToken) → (Int) → Option (TApiExpr × TParseReader)) (hg0 : ∀ (m0 : TParseReader) (a1 : Int) (o0 : Nat) (T0 : TypeId) (c0_0 : Cap) (r : TApiExpr × TParseReader) (h0 : g0 m0 a1 = some r), CallsD Try.prog 91 [.ptr o0 0, .v (.int .i64 a1)] [(o0, Blk.cells [.lst 4 (m0.gL.map eTApiToken) c0_0, .v (.int .i64 m0.gAt), .v (.int .i64 m0.gE)] T0)] [] (fun d h k => d = eTApiExpr r.1 ∧ h = [(o0, Blk.cells [.lst 4 (r.2.gL.map eTApiToken) .no, .v (.int .i64 r.2.gAt), .v (.int .i64 r.2.gE)] T0)] ∧ k = [])) (hg1 : ∀ (m0 : TParseReader) (o0 : Nat) (T0 : TypeId) (c0_0 : Cap) (r : TApiExpr × TParseReader) (h0 : g1 m0 = some r), CallsD Try.prog 95 [.ptr o0 0] [(o0, Blk.cells [.lst 4 (m0.gL.map eTApiToken) c0_0, .v (.int .i64 m0.gAt), .v (.int .i64 m0.gE)] T0)] [] (fun d h k => d = eTApiExpr r.1 ∧ h = [(o0, Blk.cells [.lst 4 (r.2.gL.map eTApiToken) .no, .v (.int .i64 r.2.gAt), .v (.int .i64 r.2.gE)] T0)] ∧ k = [])) (hg2 : ∀ (m0 : TParseReader) (a1 : TApiExpr) (a2 : Int) (a3 : Int) (o0 : Nat) (T0 : TypeId) (c0_0 : Cap) (r : TApiExpr × TParseReader) (h0 : g2 m0 a1 a2 a3 = some r), CallsD Try.prog 99 [.ptr o0 0, eTApiExpr a1, .v (.int .i64 a2), .v (.int .i64 a3)] [(o0, Blk.cells [.lst 4 (m0.gL.map eTApiToken) c0_0, .v (.int .i64 m0.gAt), .v (.int .i64 m0.gE)] T0)] [] (fun d h k => d = eTApiExpr r.1 ∧ h = [(o0, Blk.cells [.lst 4 (r.2.gL.map eTApiToken) .no, .v (.int .i64 r.2.gAt), .v (.int .i64 r.2.gE)] T0)] ∧ k = [])) (hg3 : ∀ (m0 : TParseReader) (a1 : ByteArray) (o0 : Nat) (T0 : TypeId) (c0_0 : Cap) (r : TApiExpr × TParseReader) (h0 : g3 m0 a1 = some r), CallsD Try.prog 105 [.ptr o0 0, .v (.string a1)] [(o0, Blk.cells [.lst 4 (m0.gL.map eTApiToken) c0_0, .v (.int .i64 m0.gAt), .v (.int .i64 m0.gE)] T0)] [] (fun d h k => d = eTApiExpr r.1 ∧ h = [(o0, Blk.cells [.lst 4 (r.2.gL.map eTApiToken) .no, .v (.int .i64 r.2.gAt), .v (.int .i64 r.2.gE)] T0)] ∧ k = [])) (hg4 : ∀ (m0 : TParseReader) (a1 : TApiToken) (a2 : Int) (o0 : Nat) (T0 : TypeId) (c0_0 : Cap) (r : TApiExpr × TParseReader) (h0 : g4 m0 a1 a2 = some r), CallsD Try.prog 100 [.ptr o0 0, eTApiToken a1, .v (.int .i64 a2)] [(o0, Blk.cells [.lst 4 (m0.gL.map eTApiToken) c0_0, .v (.int .i64 m0.gAt), .v (.int .i64 m0.gE)] T0)] [] (fun d h k => d = eTApiExpr r.1 ∧ h = [(o0, Blk.cells [.lst 4 (r.2.gL.map eTApiToken) .no, .v (.int .i64 r.2.gAt), .v (.int .i64 r.2.gE)] T0)] ∧ k = [])) (m0 : TParseReader) (a1 : TApiToken) (a2 : Int) (o0 : Nat) (T0 : TypeId) (c0_0 : Cap) (r : TApiExpr × TParseReader) (h0 : parse_reader_sign_b g0 g1 g2 g3 g4 m0 a1 a2 = some r) : CallsD Try.prog 100 [.ptr o0 0, eTApiToken a1, .v (.int .i64 a2)] [(o0, Blk.cells [.lst 4 (m0.gL.map eTApiToken) c0_0, .v (.int .i64 m0.gAt), .v (.int .i64 m0.gE)] T0)] [] (fun d h k => d = eTApiExpr r.1 ∧ h = [(o0, Blk.cells [.lst 4 (r.2.gL.map eTApiToken) .no, .v (.int .i64 r.2.gAt), .v (.int .i64 r.2.gE)] T0)] ∧ k = []) := by
  have hm := yes_of h0
  unfold parse_reader_sign_b at hm
  clear h0
  refine enterX htab Try.func100 rfl rfl rfl rfl rfl (fun C => ?_)
  refine wpD_sr ?_
  refine p_box rfl rfl rfl rfl rfl rfl rfl (fun b1 => ?_)
  refine p_alloc htab rfl rfl rfl rfl rfl rfl rfl (fun b2 => ?_)
  refine ops_nt ?_
  refine wpD_seq ?_
  refine wpD_sr ?_
  refine pu ?_
  refine pL 1 ?_
  refine ops_nt ?_
  refine wpD_block ?_
  refine wpD_seq ?_
  refine wpD_sr ?_
  refine pu ?_
  refine pu ?_
  refine ops_nt ?_
  obtain ⟨y19, q19, ho19⟩ := yes_bind hm
  refine wpD_mid (Y := Unit) (fun z19 => (⟨[(0, .ptr o0 0), (2, .v (.int .i64 a2)), (4, .ptr b1 0), (6, .ptr b2 0), (9, .v (.string a1.gText)), (10, .v (.bool y19))], [(o0, Blk.cells [.lst 4 (m0.gL.map eTApiToken) c0_0, .v (.int .i64 m0.gAt), .v (.int .i64 m0.gE)] T0), (b1, Blk.cells [.v (.int .i64 a1.gKind), .v (.string a1.gText), .v (.int .i64 a1.gN), .v (.int .i64 a1.gAt)] 69), (b2, Blk.cells [.v (.int .i64 (0 : Int)), .v (.int .i64 (0 : Int)), .v (.string ByteArray.empty), .lst 1 [] .full, .v (.int .i64 (0 : Int))] 100)], []⟩ : S)) ?_ ?_
  ·clear hm; have hm := yes_of q19
   refine wpD_cond rfl (fun hc20 => ?_) (fun hc20 => ?_)
   ·replace hm := yes_t hc20 hm
    refine wpD_skip ?_
    have e19 := yes_eq hm; subst e19
    refine ⟨rfl, ?_⟩
    exact WkX.of () (WkS.perm (WkS.cons rfl (Wk.refl _) (WkS.cons rfl (Wk.refl _) (WkS.cons rfl (Wk.refl _) (WkS.cons rfl (Wk.refl _) (WkS.cons rfl (Wk.refl _) (WkS.cons rfl (Wk.refl _) (WkS.nil))))))) Pf Pf)
   ·replace hm := yes_f hc20 hm
    refine wpD_region ?_
    refine pu ?_
    refine pu ?_
    refine ops_nil ?_
    have e19 := yes_eq hm; subst e19
    refine ⟨rfl, ?_⟩
    exact WkX.of () (WkS.perm (WkS.cons rfl (Wk.refl _) (WkS.cons rfl (Wk.refl _) (WkS.cons rfl (Wk.refl _) (WkS.cons rfl (Wk.refl _) (WkS.cons rfl (Wk.refl _) (WkS.cons rfl (Wk.refl _) (WkS.nil))))))) Pf Pf)
  ·intro s19 hw19; clear hm; have hm := ho19; clear q19 ho19
   refine then_normal ?_
   refine wpD_wkX hw19 (fun z19 => ?_)
   refine wpD_cond rfl (fun hc33 => ?_) (fun hc33 => ?_)
   ·replace hm := yes_t hc33 hm
    refine wpD_sr ?_
    refine pu ?_
    refine pL 1 ?_
    obtain ⟨x34, q34, hm⟩ := yes_bind hm
    refine p_call0 (parse_pick_ok a1.gText (ByteArray.mk #[45]) (5 : Int) (ByteArray.mk #[33]) (6 : Int) x34 q34) rfl rfl rfl rfl rfl Wl ?_
    rintro _ rfl
    refine pu ?_
    refine ops_nt ?_
    refine wpD_seq ?_
    obtain ⟨x35, q35, hm⟩ := yes_bind hm
    refine wpD_heavyX (X := BK) 9 [] [[],[],[],[2],[2,3],[],[5],[2,3,4,5,6],[]] [0,2,3,4,5,6,7] [[],[],[],[2],[2,3],[],[5],[1,2,3,4,5,6],[],[0,1,2,3,4,5,6,7,8],[0,1,2,3,4,5,6,7,8,9]] ⟨3, fun x => x.1 ++ [(b1, Blk.cells [.v (.int .i64 a1.gKind), .v (.string a1.gText), .v (.int .i64 a1.gN), .v (.int .i64 a1.gAt)] 69), (b2, Blk.cells [.v (.int .i64 (0 : Int)), .v (.int .i64 (0 : Int)), .v (.string ByteArray.empty), .lst 1 [] .full, .v (.int .i64 (0 : Int))] 100)], fun x => x.2 ++ [], fun x => x.1 = [(o0, Blk.cells [.lst 4 (x35.2.gL.map eTApiToken) .no, .v (.int .i64 x35.2.gAt), .v (.int .i64 x35.2.gE)] T0)] ∧ x.2 = []⟩ ([], []) (by kernel_rfl) (by kernel_rfl) (by kernel_rfl) (by rfl) (by rfl) (by kernel_rfl) ?_
    iterate 7 apply Exists.intro
    intro bs
    refine zx_e rfl rfl (ex_pure htab rfl) rfl rfl rfl rfl rfl rfl rfl rfl ?_
    refine zx_q rfl rfl (ex_pure htab rfl) rfl rfl rfl rfl rfl rfl ?_
    refine zx_e rfl rfl (ex_pure htab rfl) rfl rfl rfl rfl rfl rfl rfl rfl ?_
    refine zx_callH (h1 := [(o0, Blk.cells [.lst 4 (m0.gL.map eTApiToken) c0_0, .v (.int .i64 m0.gAt), .v (.int .i64 m0.gE)] T0)]) (k1 := []) (d := .agg [.v (.int .i64 x35.1.gOp), .v (.int .i64 x35.1.gN), .v (.string x35.1.gName), .lst 5 (x35.1.gKids.map eTApiExpr) .no, .v (.int .i64 x35.1.gAt)]) rfl rfl rfl (hg1 m0 o0 T0 c0_0 x35 q35) rfl rfl Wl Pf Pf (fun _ => rfl) (fun _ => rfl) (fun d' h' k' ⟨e1, e2, e3⟩ => ⟨⟨e2, e3⟩, by subst e1; exact Wk.of_eq (eTApiExpr_eq x35.1)⟩) rfl rfl rfl rfl rfl rfl ?_
    refine zx_E rfl rfl (ExE.wk (x_lit htab rfl rfl rfl rfl rfl rfl rfl rfl rfl rfl rfl) (show Wk _ (.lst 5 (([x35.1] : List TApiExpr).map eTApiExpr) .full) from Wk.lst0 (.cons (WkC.trans (WkC.agg (WkR.refl _)) (WkC.of_eq (eTApiExpr_eq x35.1).symm)) (.nil)))) rfl rfl rfl rfl rfl rfl rfl rfl ?_
    refine zx_e rfl rfl (ex_pure htab rfl) rfl rfl rfl rfl rfl rfl rfl rfl ?_
    refine zx_M rfl rfl (fun _ => xm_load 1 htab rfl rfl rfl rfl rfl) (fun _ ⟨x1, x2⟩ ⟨e1, e2⟩ => by cases e1; cases e2; exact xm_load 1 htab rfl rfl rfl rfl rfl) rfl rfl rfl rfl rfl rfl rfl rfl ?_
    refine zx_e rfl rfl (x_build (r := [.v (.int .i64 x34), .v (.int .i64 (0 : Int)), .v (.string ByteArray.empty), .lst 5 (([x35.1] : List TApiExpr).map eTApiExpr) .full, .v (.int .i64 a1.gAt)]) htab rfl rfl rfl rfl rfl rfl) rfl rfl rfl rfl rfl rfl rfl rfl ?_
    refine zx_q rfl rfl (ex_pure htab rfl) rfl rfl rfl rfl rfl rfl ?_
    refine zx_nilB (h2 := [(b1, Blk.cells [.v (.int .i64 a1.gKind), .v (.string a1.gText), .v (.int .i64 a1.gN), .v (.int .i64 a1.gAt)] 69), (b2, Blk.cells [.v (.int .i64 (0 : Int)), .v (.int .i64 (0 : Int)), .v (.string ByteArray.empty), .lst 1 [] .full, .v (.int .i64 (0 : Int))] 100)]) (hz := [(b1, Blk.cells [.v (.int .i64 a1.gKind), .v (.string a1.gText), .v (.int .i64 a1.gN), .v (.int .i64 a1.gAt)] 69), (b2, Blk.cells [.v (.int .i64 (0 : Int)), .v (.int .i64 (0 : Int)), .v (.string ByteArray.empty), .lst 1 [] .full, .v (.int .i64 (0 : Int))] 100)]) rfl rfl (fun _ => rfl) (fun _ => rfl) rfl (fun e he => by simp [isAl] at he) ?_
    rintro _ _ ⟨rfl, rfl⟩
    obtain ⟨x36, q36, hm⟩ := yes_bind hm
    refine p_callG (parse_reader_sound_ok x35.2 (⟨x34, (0 : Int), ByteArray.empty, ([x35.1] : List TApiExpr), a1.gAt⟩ : TApiExpr) a2 o0 T0 .no x36 q36) rfl rfl rfl rfl rfl (WkL.cons (Wk.refl _) (WkL.cons (Wk.trans (Wk.agg (rC (rC (rC (rO (rC WkR.nil)))))) (Wk.of_eq (eTApiExpr_eq (⟨x34, (0 : Int), ByteArray.empty, ([x35.1] : List TApiExpr), a1.gAt⟩ : TApiExpr)).symm)) (WkL.cons (Wk.refl _) Wl))) Pf Pf ?_
    rintro _ _ _ ⟨rfl, rfl, rfl⟩
    refine p_eq (i := 25) rfl (Wk.of_eq (eTApiExpr_eq x36.1)) ?_
    refine pS2 (ds' := [.v (.int .i64 x36.1.gOp), .v (.int .i64 x36.1.gN), .v (.string x36.1.gName), .lst 5 (x36.1.gKids.map eTApiExpr) .no, .v (.int .i64 x36.1.gAt)]) ?_
    refine ops_nt ?_
    refine wpD_ret ?_
    refine block_ret ?_
    refine then_ret ?_
    have er37 := yes_eq hm; subst er37
    refine rP (t' := [(6, .ptr b2 0)]) [0,1] [] 1 (wC wN) (lC 1 lN) ?_
    exact ⟨by first | rfl | (simp only [wrapD, eTApiExpr_eq]; done) | (simp only [wrapD, eTApiExpr_eq]; rfl), rfl, rfl⟩
   ·replace hm := yes_f hc33 hm
    refine wpD_sr ?_
    refine pu ?_
    refine pu ?_
    refine ops_nt ?_
    refine wpD_cond rfl (fun hc46 => ?_) (fun hc46 => ?_)
    ·replace hm := yes_t hc46 hm
     refine wpD_seq ?_
     obtain ⟨x47, q47, hm⟩ := yes_bind hm
     refine wpD_heavyX (X := BK) 4 [] [[],[0],[],[2]] [0,1,2,3] [[],[0],[],[2],[0,1,2,3],[0,1,2,3,4]] ⟨1, fun x => x.1 ++ [(b1, Blk.cells [.v (.int .i64 a1.gKind), .v (.string a1.gText), .v (.int .i64 a1.gN), .v (.int .i64 a1.gAt)] 69), (b2, Blk.cells [.v (.int .i64 (0 : Int)), .v (.int .i64 (0 : Int)), .v (.string ByteArray.empty), .lst 1 [] .full, .v (.int .i64 (0 : Int))] 100)], fun x => x.2 ++ [], fun x => x.1 = [(o0, Blk.cells [.lst 4 (x47.2.gL.map eTApiToken) c0_0, .v (.int .i64 x47.2.gAt), .v (.int .i64 x47.2.gE)] T0)] ∧ x.2 = []⟩ ([], []) (by kernel_rfl) (by kernel_rfl) (by kernel_rfl) (by rfl) (by rfl) (by kernel_rfl) ?_
     iterate 4 apply Exists.intro
     intro bs
     refine zx_e rfl rfl (ex_pure htab rfl) rfl rfl rfl rfl rfl rfl rfl rfl ?_
     refine zx_callH (h1 := [(o0, Blk.cells [.lst 4 (m0.gL.map eTApiToken) c0_0, .v (.int .i64 m0.gAt), .v (.int .i64 m0.gE)] T0)]) (k1 := []) (d := .v (.string x47.1)) rfl rfl rfl (parse_reader_name_ok m0 o0 T0 c0_0 x47 q47) rfl rfl Wl Pf Pf (fun _ => rfl) (fun _ => rfl) (fun d' h' k' ⟨e1, e2, e3⟩ => ⟨⟨e2, e3⟩, by subst e1; exact Wk.refl _⟩) rfl rfl rfl rfl rfl rfl ?_
     refine zx_e rfl rfl (ex_pure htab rfl) rfl rfl rfl rfl rfl rfl rfl rfl ?_
     refine zx_M rfl rfl (fun _ => xm_load 1 htab rfl rfl rfl rfl rfl) (fun _ ⟨x1, x2⟩ ⟨e1, e2⟩ => by cases e1; cases e2; exact xm_load 1 htab rfl rfl rfl rfl rfl) rfl rfl rfl rfl rfl rfl rfl rfl ?_
     refine zx_nilB (h2 := [(b1, Blk.cells [.v (.int .i64 a1.gKind), .v (.string a1.gText), .v (.int .i64 a1.gN), .v (.int .i64 a1.gAt)] 69), (b2, Blk.cells [.v (.int .i64 (0 : Int)), .v (.int .i64 (0 : Int)), .v (.string ByteArray.empty), .lst 1 [] .full, .v (.int .i64 (0 : Int))] 100)]) (hz := [(b1, Blk.cells [.v (.int .i64 a1.gKind), .v (.string a1.gText), .v (.int .i64 a1.gN), .v (.int .i64 a1.gAt)] 69), (b2, Blk.cells [.v (.int .i64 (0 : Int)), .v (.int .i64 (0 : Int)), .v (.string ByteArray.empty), .lst 1 [] .full, .v (.int .i64 (0 : Int))] 100)]) rfl rfl (fun _ => rfl) (fun _ => rfl) rfl (fun e he => by simp [isAl] at he) ?_
     rintro _ _ ⟨rfl, rfl⟩
     refine p_build (r := [.v (.int .i64 (4 : Int)), .v (.int .i64 (0 : Int)), .v (.string x47.1), .lst 1 [] .full, .v (.int .i64 a1.gAt)]) htab rfl rfl rfl rfl rfl rfl rfl rfl rfl ?_
     refine pS2 (ds' := [.v (.int .i64 (4 : Int)), .v (.int .i64 (0 : Int)), .v (.string x47.1), .lst 1 [] .full, .v (.int .i64 a1.gAt)]) ?_
     refine ops_nt ?_
     refine wpD_ret ?_
     refine block_ret ?_
     refine then_ret ?_
     have er48 := yes_eq hm; subst er48
     refine retX.wk (WkS.bl2 (ds' := [.v (.int .i64 (4 : Int)), .v (.int .i64 (0 : Int)), .v (.string x47.1), .lst 5 (([] : List TApiExpr).map eTApiExpr) .no, .v (.int .i64 a1.gAt)]) (rC (rC (rC (WkR.cons (WkC.nil) rfl (rC WkR.nil)))))) ?_
     refine retX.wk (WkS.bl0 (ds' := [.lst 4 (x47.2.gL.map eTApiToken) .no, .v (.int .i64 x47.2.gAt), .v (.int .i64 x47.2.gE)]) (rO (rC (rC WkR.nil)))) ?_
     refine rP (t' := [(6, .ptr b2 0)]) [0,1] [] 1 (wC wN) (lC 1 lN) ?_
     exact ⟨by first | rfl | (simp only [wrapD, eTApiExpr_eq]; done) | (simp only [wrapD, eTApiExpr_eq]; rfl), rfl, rfl⟩
    ·replace hm := yes_f hc46 hm
     refine wpD_sr ?_
     refine pu ?_
     refine pu ?_
     refine ops_nt ?_
     refine wpD_cond rfl (fun hc55 => ?_) (fun hc55 => ?_)
     ·replace hm := yes_t hc55 hm
      refine wpD_seq ?_
      obtain ⟨x56, q56, hm⟩ := yes_bind hm
      refine wpD_heavyX (X := BK) 7 [] [[],[],[1],[],[3],[1,2,3,4],[]] [0,1,2,3,4,5] [[],[],[1],[],[3],[1,2,3,4],[],[0,1,2,3,4,5,6],[0,1,2,3,4,5,6,7]] ⟨2, fun x => x.1 ++ [(b1, Blk.cells [.v (.int .i64 a1.gKind), .v (.string a1.gText), .v (.int .i64 a1.gN), .v (.int .i64 a1.gAt)] 69), (b2, Blk.cells [.v (.int .i64 (0 : Int)), .v (.int .i64 (0 : Int)), .v (.string ByteArray.empty), .lst 1 [] .full, .v (.int .i64 (0 : Int))] 100)], fun x => x.2 ++ [], fun x => x.1 = [(o0, Blk.cells [.lst 4 (x56.2.gL.map eTApiToken) c0_0, .v (.int .i64 x56.2.gAt), .v (.int .i64 x56.2.gE)] T0)] ∧ x.2 = []⟩ ([], []) (by kernel_rfl) (by kernel_rfl) (by kernel_rfl) (by rfl) (by rfl) (by kernel_rfl) ?_
      iterate 6 apply Exists.intro
      intro bs
      refine zx_e rfl rfl (ex_pure htab rfl) rfl rfl rfl rfl rfl rfl rfl rfl ?_
      refine zx_e rfl rfl (ex_pure htab rfl) rfl rfl rfl rfl rfl rfl rfl rfl ?_
      refine zx_callH (h1 := [(o0, Blk.cells [.lst 4 (m0.gL.map eTApiToken) c0_0, .v (.int .i64 m0.gAt), .v (.int .i64 m0.gE)] T0)]) (k1 := []) (d := .v (.string x56.1)) rfl rfl rfl (parse_reader_name_ok m0 o0 T0 c0_0 x56 q56) rfl rfl Wl Pf Pf (fun _ => rfl) (fun _ => rfl) (fun d' h' k' ⟨e1, e2, e3⟩ => ⟨⟨e2, e3⟩, by subst e1; exact Wk.refl _⟩) rfl rfl rfl rfl rfl rfl ?_
      refine zx_e rfl rfl (ex_pure htab rfl) rfl rfl rfl rfl rfl rfl rfl rfl ?_
      refine zx_M rfl rfl (fun _ => xm_load 1 htab rfl rfl rfl rfl rfl) (fun _ ⟨x1, x2⟩ ⟨e1, e2⟩ => by cases e1; cases e2; exact xm_load 1 htab rfl rfl rfl rfl rfl) rfl rfl rfl rfl rfl rfl rfl rfl ?_
      refine zx_e rfl rfl (x_build (r := [.v (.int .i64 (19 : Int)), .v (.int .i64 (0 : Int)), .v (.string x56.1), .lst 1 [] .full, .v (.int .i64 a1.gAt)]) htab rfl rfl rfl rfl rfl rfl) rfl rfl rfl rfl rfl rfl rfl rfl ?_
      refine zx_q rfl rfl (ex_pure htab rfl) rfl rfl rfl rfl rfl rfl ?_
      refine zx_nilB (h2 := [(b1, Blk.cells [.v (.int .i64 a1.gKind), .v (.string a1.gText), .v (.int .i64 a1.gN), .v (.int .i64 a1.gAt)] 69), (b2, Blk.cells [.v (.int .i64 (0 : Int)), .v (.int .i64 (0 : Int)), .v (.string ByteArray.empty), .lst 1 [] .full, .v (.int .i64 (0 : Int))] 100)]) (hz := [(b1, Blk.cells [.v (.int .i64 a1.gKind), .v (.string a1.gText), .v (.int .i64 a1.gN), .v (.int .i64 a1.gAt)] 69), (b2, Blk.cells [.v (.int .i64 (0 : Int)), .v (.int .i64 (0 : Int)), .v (.string ByteArray.empty), .lst 1 [] .full, .v (.int .i64 (0 : Int))] 100)]) rfl rfl (fun _ => rfl) (fun _ => rfl) rfl (fun e he => by simp [isAl] at he) ?_
      rintro _ _ ⟨rfl, rfl⟩
      obtain ⟨x57, q57, hm⟩ := yes_bind hm
      refine p_callG (hg2 x56.2 (⟨(19 : Int), (0 : Int), x56.1, [], a1.gAt⟩ : TApiExpr) (20 : Int) a2 o0 T0 c0_0 x57 q57) rfl rfl rfl rfl rfl (WkL.cons (Wk.refl _) (WkL.cons (Wk.trans (Wk.agg (rC (rC (rC (WkR.cons (WkC.nil) rfl (rC WkR.nil)))))) (Wk.of_eq (eTApiExpr_eq (⟨(19 : Int), (0 : Int), x56.1, [], a1.gAt⟩ : TApiExpr)).symm)) (WkL.cons (Wk.refl _) (WkL.cons (Wk.refl _) Wl)))) Pf Pf ?_
      rintro _ _ _ ⟨rfl, rfl, rfl⟩
      refine p_eq (i := 42) rfl (Wk.of_eq (eTApiExpr_eq x57.1)) ?_
      refine pS2 (ds' := [.v (.int .i64 x57.1.gOp), .v (.int .i64 x57.1.gN), .v (.string x57.1.gName), .lst 5 (x57.1.gKids.map eTApiExpr) .no, .v (.int .i64 x57.1.gAt)]) ?_
      refine ops_nt ?_
      refine wpD_ret ?_
      refine block_ret ?_
      refine then_ret ?_
      have er58 := yes_eq hm; subst er58
      refine rP (t' := [(6, .ptr b2 0)]) [0,1] [] 1 (wC wN) (lC 1 lN) ?_
      exact ⟨by first | rfl | (simp only [wrapD, eTApiExpr_eq]; done) | (simp only [wrapD, eTApiExpr_eq]; rfl), rfl, rfl⟩
     ·replace hm := yes_f hc55 hm
      refine wpD_sr ?_
      refine pu ?_
      refine pu ?_
      refine ops_nt ?_
      refine wpD_cond rfl (fun hc62 => ?_) (fun hc62 => ?_)
      ·replace hm := yes_t hc62 hm
       refine wpD_sr ?_
       refine pu ?_
       refine pL 1 ?_
       refine p_build (r := [.v (.int .i64 (18 : Int)), .v (.int .i64 (0 : Int)), .v (.string ByteArray.empty), .lst 1 [] .full, .v (.int .i64 a1.gAt)]) htab rfl rfl rfl rfl rfl rfl rfl rfl rfl ?_
       refine pS2 (ds' := [.v (.int .i64 (18 : Int)), .v (.int .i64 (0 : Int)), .v (.string ByteArray.empty), .lst 1 [] .full, .v (.int .i64 a1.gAt)]) ?_
       refine ops_nt ?_
       refine wpD_ret ?_
       refine block_ret ?_
       refine then_ret ?_
       have er63 := yes_eq hm; subst er63
       refine retX.wk (WkS.bl2 (ds' := [.v (.int .i64 (18 : Int)), .v (.int .i64 (0 : Int)), .v (.string ByteArray.empty), .lst 5 (([] : List TApiExpr).map eTApiExpr) .no, .v (.int .i64 a1.gAt)]) (rC (rC (rC (WkR.cons (WkC.nil) rfl (rC WkR.nil)))))) ?_
       refine retX.wk (WkS.bl0 (ds' := [.lst 4 (m0.gL.map eTApiToken) .no, .v (.int .i64 m0.gAt), .v (.int .i64 m0.gE)]) (rO (rC (rC WkR.nil)))) ?_
       refine rP (t' := [(6, .ptr b2 0)]) [0,1] [] 1 (wC wN) (lC 1 lN) ?_
       exact ⟨by first | rfl | (simp only [wrapD, eTApiExpr_eq]; done) | (simp only [wrapD, eTApiExpr_eq]; rfl), rfl, rfl⟩
      ·replace hm := yes_f hc62 hm
       refine wpD_sr ?_
       refine pu ?_
       refine pu ?_
       refine ops_nt ?_
       refine wpD_cond rfl (fun hc66 => ?_) (fun hc66 => ?_)
       ·replace hm := yes_t hc66 hm
        refine wpD_sr ?_
        refine pu ?_
        obtain ⟨x67, q67, hm⟩ := yes_bind hm
        refine pG (hg3 m0 (ByteArray.mk #[41]) o0 T0 c0_0 x67 q67) Wl Pf Pf ?_
        rintro _ _ _ ⟨rfl, rfl, rfl⟩
        refine p_eq (i := 51) rfl (Wk.of_eq (eTApiExpr_eq x67.1)) ?_
        refine pS2 (ds' := [.v (.int .i64 x67.1.gOp), .v (.int .i64 x67.1.gN), .v (.string x67.1.gName), .lst 5 (x67.1.gKids.map eTApiExpr) .no, .v (.int .i64 x67.1.gAt)]) ?_
        refine ops_nt ?_
        refine wpD_ret ?_
        refine block_ret ?_
        refine then_ret ?_
        have er68 := yes_eq hm; subst er68
        refine rP (t' := [(6, .ptr b2 0)]) [0,1] [] 1 (wC wN) (lC 1 lN) ?_
        exact ⟨by first | rfl | (simp only [wrapD, eTApiExpr_eq]; done) | (simp only [wrapD, eTApiExpr_eq]; rfl), rfl, rfl⟩
       ·replace hm := yes_f hc66 hm
        refine wpD_skip ?_
        refine block_normal ?_
        refine then_normal ?_
        refine wpD_sr ?_
        refine pu ?_
        refine pu ?_
        obtain ⟨x69, q69, hm⟩ := yes_bind hm
        refine pG (parse_reader_fail_ok m0 a2 (3 : Int) o0 T0 c0_0 x69 q69) Wl Pf Pf ?_
        rintro _ _ _ ⟨rfl, rfl, rfl⟩
        refine ops_n2 ?_
        refine p_build (r := [.v (.int .i64 (0 : Int)), .v (.int .i64 (0 : Int)), .v (.string ByteArray.empty), .lst 1 [] .full, .v (.int .i64 (0 : Int))]) htab rfl rfl rfl rfl rfl rfl rfl rfl rfl ?_
        refine pS2 (ds' := [.v (.int .i64 (0 : Int)), .v (.int .i64 (0 : Int)), .v (.string ByteArray.empty), .lst 1 [] .full, .v (.int .i64 (0 : Int))]) ?_
        refine ops_nt ?_
        refine wpD_ret ?_
        have er70 := yes_eq hm; subst er70
        refine retX.wk (WkS.bl2 (ds' := [.v (.int .i64 (0 : Int)), .v (.int .i64 (0 : Int)), .v (.string ByteArray.empty), .lst 5 (([] : List TApiExpr).map eTApiExpr) .no, .v (.int .i64 (0 : Int))]) (rC (rC (rC (WkR.cons (WkC.nil) rfl (rC WkR.nil)))))) ?_
        refine retX.wk (WkS.bl0 (ds' := [.lst 4 (x69.gL.map eTApiToken) .no, .v (.int .i64 x69.gAt), .v (.int .i64 x69.gE)]) (rO (rC (rC WkR.nil)))) ?_
        refine rP (t' := [(6, .ptr b2 0)]) [0,1] [] 1 (wC wN) (lC 1 lN) ?_
        exact ⟨by first | rfl | (simp only [wrapD, eTApiExpr_eq]; done) | (simp only [wrapD, eTApiExpr_eq]; rfl), rfl, rfl⟩
noncomputable def parse_reader_row_g : Nat → ((TParseReader) → (Int) → Option (TApiExpr × TParseReader)) × ((TParseReader) → Option (TApiExpr × TParseReader)) × ((TParseReader) → (TApiExpr) → (Int) → (Int) → Option (TApiExpr × TParseReader)) × ((TParseReader) → (ByteArray) → Option (TApiExpr × TParseReader)) × ((TParseReader) → (TApiToken) → (Int) → Option (TApiExpr × TParseReader))
  | 0 => (fun _ _ => none, fun _ => none, fun _ _ _ _ => none, fun _ _ => none, fun _ _ _ => none)
  | n + 1 => (parse_reader_row_b ((parse_reader_row_g n).1) ((parse_reader_row_g n).2.1) ((parse_reader_row_g n).2.2.1) ((parse_reader_row_g n).2.2.2.1) ((parse_reader_row_g n).2.2.2.2), parse_reader_unit_b ((parse_reader_row_g n).1) ((parse_reader_row_g n).2.1) ((parse_reader_row_g n).2.2.1) ((parse_reader_row_g n).2.2.2.1) ((parse_reader_row_g n).2.2.2.2), parse_reader_indexed_b ((parse_reader_row_g n).1) ((parse_reader_row_g n).2.1) ((parse_reader_row_g n).2.2.1) ((parse_reader_row_g n).2.2.2.1) ((parse_reader_row_g n).2.2.2.2), parse_reader_all_b ((parse_reader_row_g n).1) ((parse_reader_row_g n).2.1) ((parse_reader_row_g n).2.2.1) ((parse_reader_row_g n).2.2.2.1) ((parse_reader_row_g n).2.2.2.2), parse_reader_sign_b ((parse_reader_row_g n).1) ((parse_reader_row_g n).2.1) ((parse_reader_row_g n).2.2.1) ((parse_reader_row_g n).2.2.2.1) ((parse_reader_row_g n).2.2.2.2))
theorem parse_reader_row_g_ok : ∀ n, (∀ (m0 : TParseReader) (a1 : Int) (o0 : Nat) (T0 : TypeId) (c0_0 : Cap) (r : TApiExpr × TParseReader) (h0 : (parse_reader_row_g n).1 m0 a1 = some r), CallsD Try.prog 91 [.ptr o0 0, .v (.int .i64 a1)] [(o0, Blk.cells [.lst 4 (m0.gL.map eTApiToken) c0_0, .v (.int .i64 m0.gAt), .v (.int .i64 m0.gE)] T0)] [] (fun d h k => d = eTApiExpr r.1 ∧ h = [(o0, Blk.cells [.lst 4 (r.2.gL.map eTApiToken) .no, .v (.int .i64 r.2.gAt), .v (.int .i64 r.2.gE)] T0)] ∧ k = [])) ∧ (∀ (m0 : TParseReader) (o0 : Nat) (T0 : TypeId) (c0_0 : Cap) (r : TApiExpr × TParseReader) (h0 : (parse_reader_row_g n).2.1 m0 = some r), CallsD Try.prog 95 [.ptr o0 0] [(o0, Blk.cells [.lst 4 (m0.gL.map eTApiToken) c0_0, .v (.int .i64 m0.gAt), .v (.int .i64 m0.gE)] T0)] [] (fun d h k => d = eTApiExpr r.1 ∧ h = [(o0, Blk.cells [.lst 4 (r.2.gL.map eTApiToken) .no, .v (.int .i64 r.2.gAt), .v (.int .i64 r.2.gE)] T0)] ∧ k = [])) ∧ (∀ (m0 : TParseReader) (a1 : TApiExpr) (a2 : Int) (a3 : Int) (o0 : Nat) (T0 : TypeId) (c0_0 : Cap) (r : TApiExpr × TParseReader) (h0 : (parse_reader_row_g n).2.2.1 m0 a1 a2 a3 = some r), CallsD Try.prog 99 [.ptr o0 0, eTApiExpr a1, .v (.int .i64 a2), .v (.int .i64 a3)] [(o0, Blk.cells [.lst 4 (m0.gL.map eTApiToken) c0_0, .v (.int .i64 m0.gAt), .v (.int .i64 m0.gE)] T0)] [] (fun d h k => d = eTApiExpr r.1 ∧ h = [(o0, Blk.cells [.lst 4 (r.2.gL.map eTApiToken) .no, .v (.int .i64 r.2.gAt), .v (.int .i64 r.2.gE)] T0)] ∧ k = [])) ∧ (∀ (m0 : TParseReader) (a1 : ByteArray) (o0 : Nat) (T0 : TypeId) (c0_0 : Cap) (r : TApiExpr × TParseReader) (h0 : (parse_reader_row_g n).2.2.2.1 m0 a1 = some r), CallsD Try.prog 105 [.ptr o0 0, .v (.string a1)] [(o0, Blk.cells [.lst 4 (m0.gL.map eTApiToken) c0_0, .v (.int .i64 m0.gAt), .v (.int .i64 m0.gE)] T0)] [] (fun d h k => d = eTApiExpr r.1 ∧ h = [(o0, Blk.cells [.lst 4 (r.2.gL.map eTApiToken) .no, .v (.int .i64 r.2.gAt), .v (.int .i64 r.2.gE)] T0)] ∧ k = [])) ∧ (∀ (m0 : TParseReader) (a1 : TApiToken) (a2 : Int) (o0 : Nat) (T0 : TypeId) (c0_0 : Cap) (r : TApiExpr × TParseReader) (h0 : (parse_reader_row_g n).2.2.2.2 m0 a1 a2 = some r), CallsD Try.prog 100 [.ptr o0 0, eTApiToken a1, .v (.int .i64 a2)] [(o0, Blk.cells [.lst 4 (m0.gL.map eTApiToken) c0_0, .v (.int .i64 m0.gAt), .v (.int .i64 m0.gE)] T0)] [] (fun d h k => d = eTApiExpr r.1 ∧ h = [(o0, Blk.cells [.lst 4 (r.2.gL.map eTApiToken) .no, .v (.int .i64 r.2.gAt), .v (.int .i64 r.2.gE)] T0)] ∧ k = []))
  | 0 => ⟨(fun _ _ _ _ _ _ h0 => by cases h0), (fun _ _ _ _ _ h0 => by cases h0), (fun _ _ _ _ _ _ _ _ h0 => by cases h0), (fun _ _ _ _ _ _ h0 => by cases h0), (fun _ _ _ _ _ _ _ h0 => by cases h0)⟩
  | n + 1 => by
    have ih := parse_reader_row_g_ok n
    exact ⟨parse_reader_row_b_ok ((parse_reader_row_g n).1) ((parse_reader_row_g n).2.1) ((parse_reader_row_g n).2.2.1) ((parse_reader_row_g n).2.2.2.1) ((parse_reader_row_g n).2.2.2.2) (ih.1) (ih.2.1) (ih.2.2.1) (ih.2.2.2.1) (ih.2.2.2.2), parse_reader_unit_b_ok ((parse_reader_row_g n).1) ((parse_reader_row_g n).2.1) ((parse_reader_row_g n).2.2.1) ((parse_reader_row_g n).2.2.2.1) ((parse_reader_row_g n).2.2.2.2) (ih.1) (ih.2.1) (ih.2.2.1) (ih.2.2.2.1) (ih.2.2.2.2), parse_reader_indexed_b_ok ((parse_reader_row_g n).1) ((parse_reader_row_g n).2.1) ((parse_reader_row_g n).2.2.1) ((parse_reader_row_g n).2.2.2.1) ((parse_reader_row_g n).2.2.2.2) (ih.1) (ih.2.1) (ih.2.2.1) (ih.2.2.2.1) (ih.2.2.2.2), parse_reader_all_b_ok ((parse_reader_row_g n).1) ((parse_reader_row_g n).2.1) ((parse_reader_row_g n).2.2.1) ((parse_reader_row_g n).2.2.2.1) ((parse_reader_row_g n).2.2.2.2) (ih.1) (ih.2.1) (ih.2.2.1) (ih.2.2.2.1) (ih.2.2.2.2), parse_reader_sign_b_ok ((parse_reader_row_g n).1) ((parse_reader_row_g n).2.1) ((parse_reader_row_g n).2.2.1) ((parse_reader_row_g n).2.2.2.1) ((parse_reader_row_g n).2.2.2.2) (ih.1) (ih.2.1) (ih.2.2.1) (ih.2.2.2.1) (ih.2.2.2.2)⟩
theorem parse_reader_row_g_le : ∀ n, (∀ (m0 : TParseReader) (a1 : Int), Le ((parse_reader_row_g n).1 m0 a1) ((parse_reader_row_g (n + 1)).1 m0 a1)) ∧ (∀ (m0 : TParseReader), Le ((parse_reader_row_g n).2.1 m0) ((parse_reader_row_g (n + 1)).2.1 m0)) ∧ (∀ (m0 : TParseReader) (a1 : TApiExpr) (a2 : Int) (a3 : Int), Le ((parse_reader_row_g n).2.2.1 m0 a1 a2 a3) ((parse_reader_row_g (n + 1)).2.2.1 m0 a1 a2 a3)) ∧ (∀ (m0 : TParseReader) (a1 : ByteArray), Le ((parse_reader_row_g n).2.2.2.1 m0 a1) ((parse_reader_row_g (n + 1)).2.2.2.1 m0 a1)) ∧ (∀ (m0 : TParseReader) (a1 : TApiToken) (a2 : Int), Le ((parse_reader_row_g n).2.2.2.2 m0 a1 a2) ((parse_reader_row_g (n + 1)).2.2.2.2 m0 a1 a2))
  | 0 => ⟨fun _ _ => Le.none _, fun _ => Le.none _, fun _ _ _ _ => Le.none _, fun _ _ => Le.none _, fun _ _ _ => Le.none _⟩
  | n + 1 => by
    have ih := parse_reader_row_g_le n
    exact ⟨fun m0 a1 => by show Le (parse_reader_row_b ((parse_reader_row_g n).1) ((parse_reader_row_g n).2.1) ((parse_reader_row_g n).2.2.1) ((parse_reader_row_g n).2.2.2.1) ((parse_reader_row_g n).2.2.2.2) m0 a1) (parse_reader_row_b ((parse_reader_row_g (n + 1)).1) ((parse_reader_row_g (n + 1)).2.1) ((parse_reader_row_g (n + 1)).2.2.1) ((parse_reader_row_g (n + 1)).2.2.2.1) ((parse_reader_row_g (n + 1)).2.2.2.2) m0 a1); unfold parse_reader_row_b; repeat (first | exact Le.refl _ | exact ih.1 _ _ | exact ih.2.1 _ | exact ih.2.2.1 _ _ _ _ | exact ih.2.2.2.1 _ _ | exact ih.2.2.2.2 _ _ _ | assumption | (refine Le.bind ?_ (fun _ => ?_)) | (refine Le.cond ?_ ?_) | (refine Le.loop (fun _ => ?_)) | (refine Le.elim (fun _ => ?_) (fun _ => ?_))), fun m0 => by show Le (parse_reader_unit_b ((parse_reader_row_g n).1) ((parse_reader_row_g n).2.1) ((parse_reader_row_g n).2.2.1) ((parse_reader_row_g n).2.2.2.1) ((parse_reader_row_g n).2.2.2.2) m0) (parse_reader_unit_b ((parse_reader_row_g (n + 1)).1) ((parse_reader_row_g (n + 1)).2.1) ((parse_reader_row_g (n + 1)).2.2.1) ((parse_reader_row_g (n + 1)).2.2.2.1) ((parse_reader_row_g (n + 1)).2.2.2.2) m0); unfold parse_reader_unit_b; repeat (first | exact Le.refl _ | exact ih.1 _ _ | exact ih.2.1 _ | exact ih.2.2.1 _ _ _ _ | exact ih.2.2.2.1 _ _ | exact ih.2.2.2.2 _ _ _ | assumption | (refine Le.bind ?_ (fun _ => ?_)) | (refine Le.cond ?_ ?_) | (refine Le.loop (fun _ => ?_)) | (refine Le.elim (fun _ => ?_) (fun _ => ?_))), fun m0 a1 a2 a3 => by show Le (parse_reader_indexed_b ((parse_reader_row_g n).1) ((parse_reader_row_g n).2.1) ((parse_reader_row_g n).2.2.1) ((parse_reader_row_g n).2.2.2.1) ((parse_reader_row_g n).2.2.2.2) m0 a1 a2 a3) (parse_reader_indexed_b ((parse_reader_row_g (n + 1)).1) ((parse_reader_row_g (n + 1)).2.1) ((parse_reader_row_g (n + 1)).2.2.1) ((parse_reader_row_g (n + 1)).2.2.2.1) ((parse_reader_row_g (n + 1)).2.2.2.2) m0 a1 a2 a3); unfold parse_reader_indexed_b; repeat (first | exact Le.refl _ | exact ih.1 _ _ | exact ih.2.1 _ | exact ih.2.2.1 _ _ _ _ | exact ih.2.2.2.1 _ _ | exact ih.2.2.2.2 _ _ _ | assumption | (refine Le.bind ?_ (fun _ => ?_)) | (refine Le.cond ?_ ?_) | (refine Le.loop (fun _ => ?_)) | (refine Le.elim (fun _ => ?_) (fun _ => ?_))), fun m0 a1 => by show Le (parse_reader_all_b ((parse_reader_row_g n).1) ((parse_reader_row_g n).2.1) ((parse_reader_row_g n).2.2.1) ((parse_reader_row_g n).2.2.2.1) ((parse_reader_row_g n).2.2.2.2) m0 a1) (parse_reader_all_b ((parse_reader_row_g (n + 1)).1) ((parse_reader_row_g (n + 1)).2.1) ((parse_reader_row_g (n + 1)).2.2.1) ((parse_reader_row_g (n + 1)).2.2.2.1) ((parse_reader_row_g (n + 1)).2.2.2.2) m0 a1); unfold parse_reader_all_b; repeat (first | exact Le.refl _ | exact ih.1 _ _ | exact ih.2.1 _ | exact ih.2.2.1 _ _ _ _ | exact ih.2.2.2.1 _ _ | exact ih.2.2.2.2 _ _ _ | assumption | (refine Le.bind ?_ (fun _ => ?_)) | (refine Le.cond ?_ ?_) | (refine Le.loop (fun _ => ?_)) | (refine Le.elim (fun _ => ?_) (fun _ => ?_))), fun m0 a1 a2 => by show Le (parse_reader_sign_b ((parse_reader_row_g n).1) ((parse_reader_row_g n).2.1) ((parse_reader_row_g n).2.2.1) ((parse_reader_row_g n).2.2.2.1) ((parse_reader_row_g n).2.2.2.2) m0 a1 a2) (parse_reader_sign_b ((parse_reader_row_g (n + 1)).1) ((parse_reader_row_g (n + 1)).2.1) ((parse_reader_row_g (n + 1)).2.2.1) ((parse_reader_row_g (n + 1)).2.2.2.1) ((parse_reader_row_g (n + 1)).2.2.2.2) m0 a1 a2); unfold parse_reader_sign_b; repeat (first | exact Le.refl _ | exact ih.1 _ _ | exact ih.2.1 _ | exact ih.2.2.1 _ _ _ _ | exact ih.2.2.2.1 _ _ | exact ih.2.2.2.2 _ _ _ | assumption | (refine Le.bind ?_ (fun _ => ?_)) | (refine Le.cond ?_ ?_) | (refine Le.loop (fun _ => ?_)) | (refine Le.elim (fun _ => ?_) (fun _ => ?_)))⟩
noncomputable def parse_reader_row (m0 : TParseReader) (a1 : Int) : Option (TApiExpr × TParseReader) := anyN fun n => (parse_reader_row_g n).1 m0 a1
theorem parse_reader_row_of (m0 : TParseReader) (a1 : Int) {r : TApiExpr × TParseReader} (n : Nat) (h : (parse_reader_row_g n).1 m0 a1 = some r) : parse_reader_row m0 a1 = some r := anyN_of (fun m => (parse_reader_row_g_le m).1 m0 a1) h
theorem parse_reader_row_ok (m0 : TParseReader) (a1 : Int) (o0 : Nat) (T0 : TypeId) (c0_0 : Cap) (r : TApiExpr × TParseReader) (h0 : parse_reader_row m0 a1 = some r) : CallsD Try.prog 91 [.ptr o0 0, .v (.int .i64 a1)] [(o0, Blk.cells [.lst 4 (m0.gL.map eTApiToken) c0_0, .v (.int .i64 m0.gAt), .v (.int .i64 m0.gE)] T0)] [] (fun d h k => d = eTApiExpr r.1 ∧ h = [(o0, Blk.cells [.lst 4 (r.2.gL.map eTApiToken) .no, .v (.int .i64 r.2.gAt), .v (.int .i64 r.2.gE)] T0)] ∧ k = []) :=
  let ⟨n, hn⟩ := anyN_inv h0; (parse_reader_row_g_ok n).1 m0 a1 o0 T0 c0_0 r hn
noncomputable def parse_Expr (a0 : List TApiToken) (a1 : Int) : Option (TApiExpr × Int × Int) :=
  (Option.bind (α := Bool) (bif (decide (a1 < (0 : Int))) then some true else some (decide ((a0.length : Int) < a1))) fun y3 => (bif y3 then some ((⟨(0 : Int), (0 : Int), ByteArray.empty, [], (0 : Int)⟩ : TApiExpr), (0 : Int), (2 : Int)) else ((parse_reader_row (⟨a0, a1, (0 : Int)⟩ : TParseReader) (0 : Int)).bind fun x9 => (bif (x9.2.gE != (0 : Int)) then some ((⟨(0 : Int), (0 : Int), ByteArray.empty, [], (0 : Int)⟩ : TApiExpr), x9.2.gAt, x9.2.gE) else some (x9.1, x9.2.gAt, (0 : Int))))))
set_option maxRecDepth 100000 in
set_option maxHeartbeats 2000000 in
theorem parse_Expr_ok (a0 : List TApiToken) (a1 : Int) (r : TApiExpr × Int × Int) (h0 : parse_Expr a0 a1 = some r) : CallsD Try.prog 83 [.lst 4 (a0.map eTApiToken) .no, .v (.int .i64 a1)] [] [] (fun d h k => d = .tup [eTApiExpr r.1, .v (.int .i64 r.2.1), .v (.int .i64 r.2.2)] ∧ h = [] ∧ k = []) := by
  have hm := yes_of h0
  unfold parse_Expr at hm
  clear h0
  refine enterX htab Try.func83 rfl rfl rfl rfl rfl (fun C => ?_)
  refine wpD_sr ?_
  refine p_alloc htab rfl rfl rfl rfl rfl rfl rfl (fun b1 => ?_)
  refine pu ?_
  refine pu ?_
  refine ops_nt ?_
  refine wpD_seq ?_
  refine wpD_seq ?_
  obtain ⟨y3, q3, ho3⟩ := yes_bind hm
  refine wpD_mid (Y := Unit) (fun z3 => (⟨[(0, .lst 4 (a0.map eTApiToken) .no), (1, .v (.int .i64 a1)), (4, .ptr b1 0), (17, .v (.bool y3))], [(b1, Blk.cells [.v (.int .i64 (0 : Int)), .v (.int .i64 (0 : Int)), .v (.string ByteArray.empty), .lst 1 [] .full, .v (.int .i64 (0 : Int))] 100)], []⟩ : S)) ?_ ?_
  ·clear hm; have hm := yes_of q3
   refine wpD_region ?_
   iterate 3 refine pu ?_
   refine p_split (i := 12) rfl (fun hg4 => ?_) (fun hg4 => ?_)
   ·replace hm := yes_t hg4 hm
    iterate 4 refine pK ?_
    refine p_pickT rfl rfl rfl rfl rfl rfl ?_
    refine ops_nil ?_
    have e3 := yes_eq hm; subst e3
    refine ⟨rfl, ?_⟩
    exact WkX.of () (WkS.perm (WkS.cons rfl (Wk.refl _) (WkS.cons rfl (Wk.refl _) (WkS.cons rfl (Wk.refl _) (WkS.cons rfl (Wk.refl _) (WkS.nil))))) Pf Pf)
   ·replace hm := yes_f hg4 hm
    refine pu ?_
    refine pu ?_
    refine p_lenL htab rfl rfl rfl rfl rfl rfl rfl (by first | exact map_len | rfl) ?_
    refine pu ?_
    refine p_pickF rfl rfl rfl rfl rfl rfl ?_
    refine ops_nil ?_
    have e3 := yes_eq hm; subst e3
    refine ⟨rfl, ?_⟩
    exact WkX.of () (WkS.perm (WkS.cons rfl (Wk.refl _) (WkS.cons rfl (Wk.refl _) (WkS.cons rfl (Wk.refl _) (WkS.cons rfl (Wk.refl _) (WkS.nil))))) Pf Pf)
  ·intro s3 hw3; clear hm; have hm := ho3; clear q3 ho3
   refine then_normal ?_
   refine wpD_wkX hw3 (fun z3 => ?_)
   refine wpD_cond rfl (fun hc6 => ?_) (fun hc6 => ?_)
   ·replace hm := yes_t hc6 hm
    refine wpD_sr ?_
    refine p_build (r := [.v (.int .i64 (0 : Int)), .v (.int .i64 (0 : Int)), .v (.string ByteArray.empty), .lst 1 [] .full, .v (.int .i64 (0 : Int))]) htab rfl rfl rfl rfl rfl rfl rfl rfl rfl ?_
    refine pS0 (ds' := [.v (.int .i64 (0 : Int)), .v (.int .i64 (0 : Int)), .v (.string ByteArray.empty), .lst 1 [] .full, .v (.int .i64 (0 : Int))]) ?_
    refine pu ?_
    refine pu ?_
    refine ops_nt ?_
    refine wpD_ret ?_
    refine then_ret ?_
    have er7 := yes_eq hm; subst er7
    refine retX.wk (WkS.bl0 (ds' := [.v (.int .i64 (0 : Int)), .v (.int .i64 (0 : Int)), .v (.string ByteArray.empty), .lst 5 (([] : List TApiExpr).map eTApiExpr) .no, .v (.int .i64 (0 : Int))]) (rC (rC (rC (WkR.cons (WkC.nil) rfl (rC WkR.nil)))))) ?_
    refine rP (t' := [(4, .ptr b1 0), (5, .v (.int .i64 (0 : Int))), (6, .v (.int .i64 (2 : Int)))]) [0] [] 0 (wC (wC (wC wN))) (lC 0 (lT (lT lN))) ?_
    exact ⟨by first | rfl | (simp only [wrapD, eTApiExpr_eq]; done) | (simp only [wrapD, eTApiExpr_eq]; rfl), rfl, rfl⟩
   ·replace hm := yes_f hc6 hm
    refine wpD_skip ?_
    refine then_normal ?_
    refine wpD_sr ?_
    refine pu ?_
    refine pu ?_
    refine p_build (r := [.lst 4 (a0.map eTApiToken) .no, .v (.int .i64 a1), .v (.int .i64 (0 : Int))]) htab rfl rfl rfl rfl rfl rfl rfl rfl rfl ?_
    refine p_box rfl rfl rfl rfl rfl rfl rfl (fun b8 => ?_)
    refine pu ?_
    refine ops_n2 ?_
    refine pu ?_
    refine ops_n2 ?_
    refine pu ?_
    refine pu ?_
    obtain ⟨x9, q9, hm⟩ := yes_bind hm
    refine p_callV (parse_reader_row_ok (⟨a0, a1, (0 : Int)⟩ : TParseReader) (0 : Int) b8 134 .no x9 q9) rfl rfl rfl rfl rfl rfl rfl Wl ((perm_at (j := 1) rfl).trans (List.Perm.cons _ Pf)) Pf ?_
    rintro _ _ _ ⟨rfl, rfl, rfl⟩
    refine p_eq (i := 25) rfl (Wk.of_eq (eTApiExpr_eq x9.1)) ?_
    refine p_alloc htab rfl rfl rfl rfl rfl rfl rfl (fun b10 => ?_)
    refine pS2 (ds' := [.v (.int .i64 x9.1.gOp), .v (.int .i64 x9.1.gN), .v (.string x9.1.gName), .lst 5 (x9.1.gKids.map eTApiExpr) .no, .v (.int .i64 x9.1.gAt)]) ?_
    refine ops_nt ?_
    refine wpD_seq ?_
    refine wpD_sr ?_
    iterate 3 refine pu ?_
    refine pL 0 ?_
    refine pu ?_
    refine ops_nt ?_
    refine wpD_cond rfl (fun hc13 => ?_) (fun hc13 => ?_)
    ·replace hm := yes_t hc13 hm
     refine wpD_seq ?_
     refine wpD_store 11 [] [[],[],[1],[1,2],[1,2,3],[],[5],[5,6],[5,6,7],[0],[0,1,2,3,4,9]] [0,1,2,3,4,5,6,7,8,9] [[],[],[1],[1,2],[1,2,3],[],[5],[5,6],[5,6,7],[0],[0,1,2,3,4,9],[0,1,2,3,4,5,6,7,8,9,10]] 9 (by kernel_rfl) (by kernel_rfl) (by kernel_rfl) (by rfl) (by rfl) (by kernel_rfl) ?_
     refine ⟨[(b8, Blk.cells [.lst 4 (x9.2.gL.map eTApiToken) .no, .v (.int .i64 x9.2.gAt), .v (.int .i64 x9.2.gE)] 134), (b1, Blk.cells [.v (.int .i64 (0 : Int)), .v (.int .i64 (0 : Int)), .v (.string ByteArray.empty), .lst 1 [] .full, .v (.int .i64 (0 : Int))] 100), (b10, Blk.cells [.v (.int .i64 x9.1.gOp), .v (.int .i64 x9.1.gN), .v (.string x9.1.gName), .lst 5 (x9.1.gKids.map eTApiExpr) .no, .v (.int .i64 x9.1.gAt)] 100)], ?_⟩
     iterate 9 apply Exists.intro
     refine ⟨.any, ?_⟩
     intro bs v14
     refine zh_e rfl rfl (x_build (r := [.v (.int .i64 (0 : Int)), .v (.int .i64 (0 : Int)), .v (.string ByteArray.empty), .lst 1 [] .full, .v (.int .i64 (0 : Int))]) htab rfl rfl rfl rfl rfl rfl) rfl rfl rfl rfl rfl rfl rfl rfl ?_
     iterate 3 refine zh_e rfl rfl (ex_pure htab rfl) rfl rfl rfl rfl rfl rfl rfl rfl ?_
     refine zh_M rfl rfl (fun _ => xm_load 0 htab rfl rfl rfl rfl rfl) (fun _ => xm_load 0 htab rfl rfl rfl rfl rfl) rfl rfl rfl rfl rfl rfl rfl rfl ?_
     iterate 3 refine zh_e rfl rfl (ex_pure htab rfl) rfl rfl rfl rfl rfl rfl rfl rfl ?_
     refine zh_M rfl rfl (fun _ => xm_load 0 htab rfl rfl rfl rfl rfl) (fun _ => xm_load 0 htab rfl rfl rfl rfl rfl) rfl rfl rfl rfl rfl rfl rfl rfl ?_
     refine zh_store 1 htab rfl rfl rfl rfl rfl rfl rfl rfl rfl rfl rfl rfl rfl rfl rfl rfl ?_
     refine zh_q rfl rfl (ex_pure htab rfl) rfl rfl rfl rfl rfl rfl ?_
     refine zh_nil rfl rfl rfl rfl (fun e he => by simp [isAl] at he) ?_
     refine pu ?_
     refine ops_nt ?_
     refine wpD_ret ?_
     refine then_ret ?_
     have er15 := yes_eq hm; subst er15
     refine retX.wk (WkS.bl1 (ds' := [.v (.int .i64 (0 : Int)), .v (.int .i64 (0 : Int)), .v (.string ByteArray.empty), .lst 5 (([] : List TApiExpr).map eTApiExpr) .no, .v (.int .i64 (0 : Int))]) (rC (rC (rC (WkR.cons (WkC.nil) rfl (rC WkR.nil)))))) ?_
     refine rP (t' := [(4, .ptr b1 0), (5, .v (.int .i64 x9.2.gAt)), (6, .v (.int .i64 x9.2.gE))]) [1] [] 0 (wC (wC (wC wN))) (lC 0 (lT (lT lN))) ?_
     exact ⟨by first | rfl | (simp only [wrapD, eTApiExpr_eq]; done) | (simp only [wrapD, eTApiExpr_eq]; rfl), rfl, rfl⟩
    ·replace hm := yes_f hc13 hm
     refine wpD_skip ?_
     refine then_normal ?_
     refine wpD_seq ?_
     refine wpD_store 6 [] [[],[],[1],[1,2],[1,2,3],[0]] [0,1,2,3,4,5] [[],[],[1],[1,2],[1,2,3],[0],[0,1,2,3,4,5],[0,1,2,3,4,5,6]] 5 (by kernel_rfl) (by kernel_rfl) (by kernel_rfl) (by rfl) (by rfl) (by kernel_rfl) ?_
     refine ⟨[(b8, Blk.cells [.lst 4 (x9.2.gL.map eTApiToken) .no, .v (.int .i64 x9.2.gAt), .v (.int .i64 x9.2.gE)] 134), (b1, Blk.cells [.v (.int .i64 x9.1.gOp), .v (.int .i64 x9.1.gN), .v (.string x9.1.gName), .lst 5 (x9.1.gKids.map eTApiExpr) .no, .v (.int .i64 x9.1.gAt)] 100), (b10, Blk.cells [.v (.int .i64 x9.1.gOp), .v (.int .i64 x9.1.gN), .v (.string x9.1.gName), .lst 5 (x9.1.gKids.map eTApiExpr) .no, .v (.int .i64 x9.1.gAt)] 100)], ?_⟩
     iterate 5 apply Exists.intro
     refine ⟨.any, ?_⟩
     intro bs v16
     refine zh_M rfl rfl (fun _ => xm_load (d := .agg [.v (.int .i64 x9.1.gOp), .v (.int .i64 x9.1.gN), .v (.string x9.1.gName), .lst 5 (x9.1.gKids.map eTApiExpr) .no, .v (.int .i64 x9.1.gAt)]) 2 htab rfl rfl rfl rfl rfl) (offB rfl) rfl rfl rfl rfl rfl rfl rfl rfl ?_
     iterate 3 refine zh_e rfl rfl (ex_pure htab rfl) rfl rfl rfl rfl rfl rfl rfl rfl ?_
     refine zh_M rfl rfl (fun _ => xm_load 0 htab rfl rfl rfl rfl rfl) (fun _ => xm_load 0 htab rfl rfl rfl rfl rfl) rfl rfl rfl rfl rfl rfl rfl rfl ?_
     refine zh_store 1 htab rfl rfl rfl rfl rfl rfl rfl rfl rfl rfl rfl rfl rfl rfl rfl rfl ?_
     refine zh_nil rfl rfl rfl rfl (fun e he => by simp [isAl] at he) ?_
     refine pu ?_
     refine pu ?_
     refine ops_nt ?_
     refine wpD_ret ?_
     have er17 := yes_eq hm; subst er17
     refine rP (t' := [(4, .ptr b1 0), (5, .v (.int .i64 x9.2.gAt)), (6, .v (.int .i64 (0 : Int)))]) [1] [] 0 (wC (wC (wC wN))) (lC 0 (lT (lT lN))) ?_
     exact ⟨by first | rfl | (simp only [wrapD, eTApiExpr_eq]; done) | (simp only [wrapD, eTApiExpr_eq]; rfl), rfl, rfl⟩
abbrev nlGm1_6 : List (List Nat) := [[],[0],[0,1],[0,1,2],[],[4],[4,5],[4,5,6],[],[8],[8,9],[8,9,10],[8,9,10,11],[4,5,6,8,9,10,11],[0,1,2,3,4,5,6,8,9,10,11],[0,1,2,3,4,5,6,8,9,10,11,14],[0,1,2,3,4,5,6,8,9,10,11,14,15],[0,1,2,3,4,5,6,8,9,10,11,14,15],[0,1,2,3,4,5,6,8,9,10,11,14,15],[],[0,1,2,3,4,5,6,8,9,10,11,14,15,16,19],[0,1,2,3,4,5,6,8,9,10,11,14,15,16,19,20]]
abbrev nlGm1_7 : List (List Nat) := [[],[0],[0,1],[0,1,2],[],[4],[4,5],[4,5,6],[],[8],[8,9],[8,9,10],[8,9,10,11],[4,5,6,7,8,9,10,11,12],[0,1,2,3,4,5,6,7,8,9,10,11,12,13],[0,1,2,3,4,5,6,7,8,9,10,11,12,13,14],[0,1,2,3,4,5,6,7,8,9,10,11,12,13,14,15],[0,1,2,3,4,5,6,7,8,9,10,11,12,13,14,15],[0,1,2,3,4,5,6,7,8,9,10,11,12,13,14,15],[],[0,1,2,3,4,5,6,7,8,9,10,11,12,13,14,15,16,19],[0,1,2,3,4,5,6,7,8,9,10,11,12,13,14,15,16,17,19,20],[0,1,2,3,4,5,6,7,8,9,10,11,12,13,14,15,16,17,18,19,20,21]]
noncomputable def grammar_reader_expr (m0 : TGrammarReader) : Option (TApiExpr × TGrammarReader) :=
  (bif (m0.gE != (0 : Int)) then some ((⟨(0 : Int), (0 : Int), ByteArray.empty, [], (0 : Int)⟩ : TApiExpr), m0) else ((parse_Expr m0.gL (min m0.gAt (m0.gL.length : Int))).bind fun x5 => (bif (x5.2.2 != (0 : Int)) then ((grammar_reader_fail m0 x5.2.1 x5.2.2).bind fun x10 => some ((⟨(0 : Int), (0 : Int), ByteArray.empty, [], (0 : Int)⟩ : TApiExpr), x10)) else some (x5.1, (⟨m0.gL, x5.2.1, m0.gE, m0.gVars, m0.gOpen⟩ : TGrammarReader)))))
set_option maxRecDepth 100000 in
set_option maxHeartbeats 2000000 in
theorem grammar_reader_expr_ok (m0 : TGrammarReader) (o0 : Nat) (T0 : TypeId) (c0_0 : Cap) (r : TApiExpr × TGrammarReader) (h0 : grammar_reader_expr m0 = some r) : CallsD Try.prog 71 [.ptr o0 0] [(o0, Blk.cells [.lst 4 (m0.gL.map eTApiToken) c0_0, .v (.int .i64 m0.gAt), .v (.int .i64 m0.gE), .v (.int .i64 m0.gVars), .v (.int .i64 m0.gOpen)] T0)] [] (fun d h k => d = eTApiExpr r.1 ∧ h = [(o0, Blk.cells [.lst 4 (r.2.gL.map eTApiToken) c0_0, .v (.int .i64 r.2.gAt), .v (.int .i64 r.2.gE), .v (.int .i64 r.2.gVars), .v (.int .i64 r.2.gOpen)] T0)] ∧ k = []) := by
  have hm := yes_of h0
  unfold grammar_reader_expr at hm
  clear h0
  refine enterX htab Try.func71 rfl rfl rfl rfl rfl (fun C => ?_)
  refine wpD_sr ?_
  refine p_alloc htab rfl rfl rfl rfl rfl rfl rfl (fun b1 => ?_)
  refine ops_nt ?_
  refine wpD_seq ?_
  refine wpD_sr ?_
  iterate 3 refine pu ?_
  refine pL 0 ?_
  refine pu ?_
  refine ops_nt ?_
  refine wpD_cond rfl (fun hc3 => ?_) (fun hc3 => ?_)
  ·replace hm := yes_t hc3 hm
   refine wpD_sr ?_
   refine p_build (r := [.v (.int .i64 (0 : Int)), .v (.int .i64 (0 : Int)), .v (.string ByteArray.empty), .lst 1 [] .full, .v (.int .i64 (0 : Int))]) htab rfl rfl rfl rfl rfl rfl rfl rfl rfl ?_
   refine pS1 (ds' := [.v (.int .i64 (0 : Int)), .v (.int .i64 (0 : Int)), .v (.string ByteArray.empty), .lst 1 [] .full, .v (.int .i64 (0 : Int))]) ?_
   refine ops_nt ?_
   refine wpD_ret ?_
   refine then_ret ?_
   have er4 := yes_eq hm; subst er4
   refine retX.wk (WkS.bl1 (ds' := [.v (.int .i64 (0 : Int)), .v (.int .i64 (0 : Int)), .v (.string ByteArray.empty), .lst 5 (([] : List TApiExpr).map eTApiExpr) .no, .v (.int .i64 (0 : Int))]) (rC (rC (rC (WkR.cons (WkC.nil) rfl (rC WkR.nil)))))) ?_
   refine rP (t' := [(2, .ptr b1 0)]) [0,0] [] 1 (wC wN) (lC 1 lN) ?_
   exact ⟨by first | rfl | (simp only [wrapD, eTApiExpr_eq]; done) | (simp only [wrapD, eTApiExpr_eq]; rfl), rfl, rfl⟩
  ·replace hm := yes_f hc3 hm
   refine wpD_skip ?_
   refine then_normal ?_
   refine wpD_seq ?_
   obtain ⟨x5, q5, hm⟩ := yes_bind hm
   refine wpD_fills 22 [(19, [.v (.int .i64 (0 : Int)), .v (.int .i64 (0 : Int)), .v (.string ByteArray.empty), .lst 1 [] .full, .v (.int .i64 (0 : Int))], 100)] [(19, 20, [.v (.int .i64 x5.1.gOp), .v (.int .i64 x5.1.gN), .v (.string x5.1.gName), .lst 5 (x5.1.gKids.map eTApiExpr) .no, .v (.int .i64 x5.1.gAt)])] nlGm1_6 [0,1,2,3,4,5,6,8,9,10,11,14,15,16,19,20] nlGm1_7 (by kernel_rfl) (by kernel_rfl) (by kernel_rfl) (by rfl) (by rfl) (by kernel_rfl) ?_
   iterate 14 apply Exists.intro
   refine ⟨.any, ?_⟩
   refine ⟨.any, ?_⟩
   intro bs
   iterate 3 refine zf_e rfl rfl (ex_pure htab rfl) rfl rfl rfl rfl rfl rfl rfl ?_
   refine zf_eM rfl rfl (xm_load 0 htab rfl rfl rfl rfl rfl) rfl rfl rfl rfl rfl rfl rfl ?_
   iterate 3 refine zf_e rfl rfl (ex_pure htab rfl) rfl rfl rfl rfl rfl rfl rfl ?_
   refine zf_qM rfl rfl (xm_load 0 htab rfl rfl rfl rfl rfl) rfl rfl rfl rfl rfl rfl ?_
   iterate 3 refine zf_e rfl rfl (ex_pure htab rfl) rfl rfl rfl rfl rfl rfl rfl ?_
   refine zf_eM rfl rfl (xm_load 0 htab rfl rfl rfl rfl rfl) rfl rfl rfl rfl rfl rfl rfl ?_
   refine zf_q rfl rfl (x_lenL htab rfl rfl rfl rfl (by first | exact map_len | rfl)) rfl rfl rfl rfl rfl rfl ?_
   refine zf_q rfl rfl (x_min rfl rfl rfl) rfl rfl rfl rfl rfl rfl ?_
   refine zf_call rfl rfl (parse_Expr_ok m0.gL (min m0.gAt (m0.gL.length : Int)) x5 q5) rfl rfl (WkL.cons (Wk.no) (WkL.cons (Wk.refl _) Wl)) rfl rfl rfl rfl rfl rfl rfl ?_
   refine zf_e rfl rfl (ex_pure htab rfl) rfl rfl rfl rfl rfl rfl rfl ?_
   refine zf_e rfl rfl (Ex.wk (ex_pure htab rfl) (Wk.of_eq (eTApiExpr_eq x5.1))) rfl rfl rfl rfl rfl rfl rfl ?_
   refine zf_q rfl rfl (ex_pure htab rfl) rfl rfl rfl rfl rfl rfl ?_
   refine zf_q rfl rfl (ex_pure htab rfl) rfl rfl rfl rfl rfl rfl ?_
   refine zf_alloc rfl htab rfl rfl rfl rfl rfl rfl rfl rfl rfl rfl (by simp [dOf, eI64]) (by simp) ?_
   refine zf_fill (e := 19) (zs := [.v (.int .i64 (0 : Int)), .v (.int .i64 (0 : Int)), .v (.string ByteArray.empty), .lst 1 [] .full, .v (.int .i64 (0 : Int))]) (T' := 100) (ds' := [.v (.int .i64 x5.1.gOp), .v (.int .i64 x5.1.gN), .v (.string x5.1.gName), .lst 5 (x5.1.gKids.map eTApiExpr) .no, .v (.int .i64 x5.1.gAt)]) htab rfl rfl rfl rfl rfl rfl rfl rfl rfl (by simp) (by simp) rfl rfl rfl rfl rfl rfl rfl rfl rfl ?_
   refine zf_q rfl rfl (ex_pure htab rfl) rfl rfl rfl rfl rfl rfl ?_
   refine zf_nil (h' := [(o0, Blk.cells [.lst 4 (m0.gL.map eTApiToken) c0_0, .v (.int .i64 m0.gAt), .v (.int .i64 m0.gE), .v (.int .i64 m0.gVars), .v (.int .i64 m0.gOpen)] T0), (b1, Blk.cells [.v (.int .i64 (0 : Int)), .v (.int .i64 (0 : Int)), .v (.string ByteArray.empty), .lst 1 [] .full, .v (.int .i64 (0 : Int))] 100), (bs 19, Blk.cells [.v (.int .i64 x5.1.gOp), .v (.int .i64 x5.1.gN), .v (.string x5.1.gName), .lst 5 (x5.1.gKids.map eTApiExpr) .no, .v (.int .i64 x5.1.gAt)] 100)]) rfl rfl rfl (fun e he => by simp [isAl] at he; subst he; rfl) ?_
   obtain ⟨b6, hb6⟩ : ∃ b, bs 19 = b := ⟨_, rfl⟩
   simp only [hb6]
   clear hb6
   refine pu ?_
   refine ops_nt ?_
   refine wpD_seq ?_
   refine wpD_sr ?_
   refine pu ?_
   refine pu ?_
   refine ops_nt ?_
   refine wpD_cond rfl (fun hc9 => ?_) (fun hc9 => ?_)
   ·replace hm := yes_t hc9 hm
    refine wpD_sr ?_
    iterate 3 refine pu ?_
    obtain ⟨x10, q10, hm⟩ := yes_bind hm
    refine pG (grammar_reader_fail_ok m0 x5.2.1 x5.2.2 o0 T0 c0_0 x10 q10) Wl Pf Pf ?_
    rintro _ _ _ ⟨rfl, rfl, rfl⟩
    refine ops_n2 ?_
    refine p_build (r := [.v (.int .i64 (0 : Int)), .v (.int .i64 (0 : Int)), .v (.string ByteArray.empty), .lst 1 [] .full, .v (.int .i64 (0 : Int))]) htab rfl rfl rfl rfl rfl rfl rfl rfl rfl ?_
    refine pS1 (ds' := [.v (.int .i64 (0 : Int)), .v (.int .i64 (0 : Int)), .v (.string ByteArray.empty), .lst 1 [] .full, .v (.int .i64 (0 : Int))]) ?_
    refine ops_nt ?_
    refine wpD_ret ?_
    refine then_ret ?_
    have er11 := yes_eq hm; subst er11
    refine retX.wk (WkS.bl1 (ds' := [.v (.int .i64 (0 : Int)), .v (.int .i64 (0 : Int)), .v (.string ByteArray.empty), .lst 5 (([] : List TApiExpr).map eTApiExpr) .no, .v (.int .i64 (0 : Int))]) (rC (rC (rC (WkR.cons (WkC.nil) rfl (rC WkR.nil)))))) ?_
    refine rP (t' := [(2, .ptr b1 0)]) [0,0] [] 1 (wC wN) (lC 1 lN) ?_
    exact ⟨by first | rfl | (simp only [wrapD, eTApiExpr_eq]; done) | (simp only [wrapD, eTApiExpr_eq]; rfl), rfl, rfl⟩
   ·replace hm := yes_f hc9 hm
    refine wpD_skip ?_
    refine then_normal ?_
    refine wpD_sr ?_
    iterate 4 refine pu ?_
    refine pS0 (ds' := [.lst 4 (m0.gL.map eTApiToken) c0_0, .v (.int .i64 x5.2.1), .v (.int .i64 m0.gE), .v (.int .i64 m0.gVars), .v (.int .i64 m0.gOpen)]) ?_
    refine ops_n2 ?_
    refine p_load (d := .agg [.v (.int .i64 x5.1.gOp), .v (.int .i64 x5.1.gN), .v (.string x5.1.gName), .lst 5 (x5.1.gKids.map eTApiExpr) .no, .v (.int .i64 x5.1.gAt)]) 2 htab rfl rfl rfl rfl rfl rfl rfl rfl ?_
    refine pS1 (ds' := [.v (.int .i64 x5.1.gOp), .v (.int .i64 x5.1.gN), .v (.string x5.1.gName), .lst 5 (x5.1.gKids.map eTApiExpr) .no, .v (.int .i64 x5.1.gAt)]) ?_
    refine ops_nt ?_
    refine wpD_ret ?_
    have er12 := yes_eq hm; subst er12
    refine rP (t' := [(2, .ptr b1 0)]) [0,0] [] 1 (wC wN) (lC 1 lN) ?_
    exact ⟨by first | rfl | (simp only [wrapD, eTApiExpr_eq]; done) | (simp only [wrapD, eTApiExpr_eq]; rfl), rfl, rfl⟩
noncomputable def grammar_list_api_Expr (m0 : TGrammarReader) : Option (List TApiExpr × TGrammarReader) :=
  ((grammar_reader_eat m0 ([(ByteArray.mk #[40])] : List ByteArray)).bind fun x1 => ((grammar_reader_may x1 (ByteArray.mk #[41])).bind fun x2 => (bif x2.1 then some (([] : List TApiExpr), x2.2) else (Option.bind (α := List TApiExpr × List TApiToken × Int × Int × Int × Int) (loopM (fun (s28 : List TApiExpr × List TApiToken × Int × Int × Int × Int) => (bif (s28.2.2.2.1 == (0 : Int)) then ((grammar_reader_expr (⟨s28.2.1, s28.2.2.1, s28.2.2.2.1, s28.2.2.2.2.1, s28.2.2.2.2.2⟩ : TGrammarReader)).bind fun x43 => ((app 64 s28.1 ([x43.1] : List TApiExpr)).bind fun x44 => ((grammar_reader_may x43.2 (ByteArray.mk #[44])).bind fun x45 => (bif (!x45.1) then some (.done (x44, x45.2.gL, x45.2.gAt, x45.2.gE, x45.2.gVars, x45.2.gOpen)) else some (.next (x44, x45.2.gL, x45.2.gAt, x45.2.gE, x45.2.gVars, x45.2.gOpen)))))) else some (.done (s28.1, s28.2.1, s28.2.2.1, s28.2.2.2.1, s28.2.2.2.2.1, s28.2.2.2.2.2)))) (([] : List TApiExpr), x2.2.gL, x2.2.gAt, x2.2.gE, x2.2.gVars, x2.2.gOpen)) fun y27 => ((grammar_reader_eat (⟨y27.2.1, y27.2.2.1, y27.2.2.2.1, y27.2.2.2.2.1, y27.2.2.2.2.2⟩ : TGrammarReader) ([(ByteArray.mk #[41])] : List ByteArray)).bind fun x47 => some (y27.1, x47))))))
set_option maxRecDepth 100000 in
set_option maxHeartbeats 2000000 in
theorem grammar_list_api_Expr_ok (m0 : TGrammarReader) (o0 : Nat) (T0 : TypeId) (c0_0 : Cap) (r : List TApiExpr × TGrammarReader) (h0 : grammar_list_api_Expr m0 = some r) : CallsD Try.prog 90 [.ptr o0 0, .fn (.func 71) [.ptr o0 0] []] [(o0, Blk.cells [.lst 4 (m0.gL.map eTApiToken) c0_0, .v (.int .i64 m0.gAt), .v (.int .i64 m0.gE), .v (.int .i64 m0.gVars), .v (.int .i64 m0.gOpen)] T0)] [] (fun d h k => ∃ y0, d = .lst 5 (r.1.map eTApiExpr) (.cur y0) ∧ h = [(o0, Blk.cells [.lst 4 (r.2.gL.map eTApiToken) .no, .v (.int .i64 r.2.gAt), .v (.int .i64 r.2.gE), .v (.int .i64 r.2.gVars), .v (.int .i64 r.2.gOpen)] T0)] ∧ k = [(5, y0)]) := by
  have hm := yes_of h0
  unfold grammar_list_api_Expr at hm
  clear h0
  refine enterX htab Try.func90 rfl rfl rfl rfl rfl (fun C => ?_)
  refine wpD_sr ?_
  refine pu ?_
  refine ops_n2 ?_
  refine pu ?_
  refine ops_n2 ?_
  refine pu ?_
  refine p_lit htab rfl rfl rfl rfl rfl rfl rfl rfl rfl rfl rfl rfl rfl rfl ?_
  refine p_eq (i := 7) (d' := .lst 1 (([(ByteArray.mk #[40])] : List ByteArray).map eStr) .full) rfl (Wk.lst0 (.cons (WkC.refl _) (.nil))) ?_
  obtain ⟨x1, q1, hm⟩ := yes_bind hm
  refine p_callG (grammar_reader_eat_ok m0 ([(ByteArray.mk #[40])] : List ByteArray) o0 T0 c0_0 x1 q1) rfl rfl rfl rfl rfl (WkL.cons (Wk.refl _) (WkL.cons (Wk.no) Wl)) Pf Pf ?_
  rintro _ _ _ ⟨rfl, rfl, rfl⟩
  refine ops_nt ?_
  refine wpD_seq ?_
  refine wpD_sr ?_
  refine pu ?_
  obtain ⟨x2, q2, hm⟩ := yes_bind hm
  refine pG (grammar_reader_may_ok x1 (ByteArray.mk #[41]) o0 T0 c0_0 x2 q2) Wl Pf Pf ?_
  rintro _ _ _ ⟨rfl, rfl, rfl⟩
  refine ops_nt ?_
  refine wpD_cond rfl (fun hc4 => ?_) (fun hc4 => ?_)
  ·replace hm := yes_t hc4 hm
   refine wpD_sr ?_
   refine pu ?_
   refine pu ?_
   refine ops_nt ?_
   refine wpD_ret ?_
   refine then_ret ?_
   have er5 := yes_eq hm; subst er5
   refine retX.tokN (i := 4) 5 rfl (fun w6 => ?_)
   refine retX.wk (WkS.bl0 (ds' := [.lst 4 (x2.2.gL.map eTApiToken) .no, .v (.int .i64 x2.2.gAt), .v (.int .i64 x2.2.gE), .v (.int .i64 x2.2.gVars), .v (.int .i64 x2.2.gOpen)]) (rO (rC (rC (rC (rC WkR.nil)))))) ?_
   refine rP (t' := [(4, .lst 5 (([] : List TApiExpr).map eTApiExpr) (.cur w6))]) [0] [0] 1 (wC wN) (lT lN) ?_
   exact ⟨w6, rfl, rfl, rfl⟩
  ·replace hm := yes_f hc4 hm
   refine wpD_skip ?_
   refine then_normal ?_
   refine wpD_seq ?_
   obtain ⟨y27, q27, ho27⟩ := yes_bind hm
   refine wpD_mid (Y := Value) (fun z27 => (⟨[(0, .ptr o0 0), (5, .lst 5 (y27.1.map eTApiExpr) (.cur z27))], [(o0, Blk.cells [.lst 4 (y27.2.1.map eTApiToken) .no, .v (.int .i64 y27.2.2.1), .v (.int .i64 y27.2.2.2.1), .v (.int .i64 y27.2.2.2.2.1), .v (.int .i64 y27.2.2.2.2.2)] T0)], [(5, z27)]⟩ : S)) ?_ ?_
   ·clear hm; have hm := yes_of q27
    refine wpD_block ?_
    obtain ⟨u28, hl28, hq28⟩ := yes_m hm
    refine loop_M (Y := Value) hl28 (fun s28 z28 => (⟨[(0, .ptr o0 0), (1, .fn (.func 71) [.ptr o0 0] []), (5, .lst 5 (s28.1.map eTApiExpr) (.cur z28))], [(o0, Blk.cells [.lst 4 (s28.2.1.map eTApiToken) .no, .v (.int .i64 s28.2.2.1), .v (.int .i64 s28.2.2.2.1), .v (.int .i64 s28.2.2.2.2.1), .v (.int .i64 s28.2.2.2.2.2)] T0)], [(5, z28)]⟩ : S)) ?_ ?_
    ·skip
     refine WkX.tokN (i := 5) 5 rfl (fun w41 => ?_)
     refine WkX.wk (WkS.bl0 (ds' := [.lst 4 (x2.2.gL.map eTApiToken) .no, .v (.int .i64 x2.2.gAt), .v (.int .i64 x2.2.gE), .v (.int .i64 x2.2.gVars), .v (.int .i64 x2.2.gOpen)]) (rO (rC (rC (rC (rC WkR.nil)))))) ?_
     exact WkX.of w41 (WkS.perm (WkS.cons rfl (Wk.refl _) (WkS.cons rfl (Wk.refl _) (WkS.cons rfl (Wk.refl _) (WkS.nil)))) Pf Pf)
    ·intro G28 s28 z28 hm
     refine wpD_seq ?_
     refine wpD_sr ?_
     iterate 3 refine pu ?_
     refine pL 0 ?_
     refine pu ?_
     refine ops_nt ?_
     refine wpD_cond rfl (fun hc42 => ?_) (fun hc42 => ?_)
     ·replace hm := yes_t hc42 hm
      refine wpD_skip ?_
      refine then_normal ?_
      refine wpD_block ?_
      refine wpD_sr ?_
      refine pu ?_
      refine pu ?_
      obtain ⟨x43, q43, hm⟩ := yes_bind hm
      refine p_callV (grammar_reader_expr_ok (⟨s28.2.1, s28.2.2.1, s28.2.2.2.1, s28.2.2.2.2.1, s28.2.2.2.2.2⟩ : TGrammarReader) o0 T0 .no x43 q43) rfl rfl rfl rfl rfl rfl rfl Wl Pf Pf ?_
      rintro _ _ _ ⟨rfl, rfl, rfl⟩
      refine p_eq (i := 19) rfl (Wk.of_eq (eTApiExpr_eq x43.1)) ?_
      refine p_lit htab rfl rfl rfl rfl rfl rfl rfl rfl rfl rfl rfl rfl rfl rfl ?_
      refine p_eq (i := 20) (d' := .lst 5 (([x43.1] : List TApiExpr).map eTApiExpr) .full) rfl (Wk.lst0 (.cons (WkC.trans (WkC.agg (WkR.refl _)) (WkC.of_eq (eTApiExpr_eq x43.1).symm)) (.nil))) ?_
      obtain ⟨x44, q44, hm⟩ := yes_bind hm
      refine p_appC 0 htab rfl rfl rfl rfl rfl rfl rfl rfl rfl rfl rfl rfl rfl rfl rfl rfl rfl (app_bound q44) (fun v44 => ?_)
      refine p_mapD (i := 21) q44 rfl ?_
      refine pu ?_
      refine ops_n2 ?_
      refine pu ?_
      obtain ⟨x45, q45, hm⟩ := yes_bind hm
      refine pG (grammar_reader_may_ok x43.2 (ByteArray.mk #[44]) o0 T0 .no x45 q45) Wl Pf Pf ?_
      rintro _ _ _ ⟨rfl, rfl, rfl⟩
      refine pu ?_
      refine ops_nt ?_
      refine wpD_cond rfl (fun hc46 => ?_) (fun hc46 => ?_)
      ·replace hm := yes_t hc46 hm
       refine wpD_exit ?_
       refine block_miss rfl ?_
       have e28 := lp_done hm; subst e28; clear hm; have hm := hq28
       refine then_exit ?_
       refine block_hit ?_
       have e27 := yes_eq hm; subst e27
       refine ⟨rfl, ?_⟩
       exact WkX.of v44 (WkS.perm (WkS.cons rfl (Wk.refl _) (WkS.cons rfl (Wk.refl _) (WkS.nil))) Pf Pf)
      ·replace hm := yes_f hc46 hm
       refine wpD_skip ?_
       refine block_normal ?_
       refine then_normal ⟨_, lp_next hm, ?_⟩
       exact WkX.of v44 (WkS.perm (WkS.cons rfl (Wk.refl _) (WkS.cons rfl (Wk.refl _) (WkS.cons rfl (Wk.refl _) (WkS.nil)))) Pf Pf)
     ·replace hm := yes_f hc42 hm
      refine wpD_exit ?_
      refine then_exit ?_
      have e28 := lp_done hm; subst e28; clear hm; have hm := hq28
      refine then_exit ?_
      refine block_hit ?_
      have e27 := yes_eq hm; subst e27
      refine ⟨rfl, ?_⟩
      exact WkX.of z28 (WkS.perm (WkS.cons rfl (Wk.refl _) (WkS.cons rfl (Wk.refl _) (WkS.nil))) Pf Pf)
   ·intro s27 hw27; clear hm; have hm := ho27; clear q27 ho27
    refine then_normal ?_
    refine wpD_wkX hw27 (fun z27 => ?_)
    refine wpD_sr ?_
    refine pu ?_
    refine p_lit htab rfl rfl rfl rfl rfl rfl rfl rfl rfl rfl rfl rfl rfl rfl ?_
    refine p_eq (i := 26) (d' := .lst 1 (([(ByteArray.mk #[41])] : List ByteArray).map eStr) .full) rfl (Wk.lst0 (.cons (WkC.refl _) (.nil))) ?_
    obtain ⟨x47, q47, hm⟩ := yes_bind hm
    refine p_callG (grammar_reader_eat_ok (⟨y27.2.1, y27.2.2.1, y27.2.2.2.1, y27.2.2.2.2.1, y27.2.2.2.2.2⟩ : TGrammarReader) ([(ByteArray.mk #[41])] : List ByteArray) o0 T0 .no x47 q47) rfl rfl rfl rfl rfl (WkL.cons (Wk.refl _) (WkL.cons (Wk.no) Wl)) Pf Pf ?_
    rintro _ _ _ ⟨rfl, rfl, rfl⟩
    refine ops_n2 ?_
    refine pu ?_
    refine pu ?_
    refine ops_nt ?_
    refine wpD_ret ?_
    have er48 := yes_eq hm; subst er48
    refine rP (t' := [(4, .lst 5 (y27.1.map eTApiExpr) (.cur z27))]) [0] [0] 1 (wC wN) (lT lN) ?_
    exact ⟨z27, rfl, rfl, rfl⟩
noncomputable def grammar_reader_call (m0 : TGrammarReader) (a1 : TApiStmt) : Option (TApiStmt × TGrammarReader) :=
  ((grammar_reader_name m0).bind fun x3 => ((grammar_list_api_Expr x3.2).bind fun x5 => ((grammar_reader_eat x5.2 ([(ByteArray.mk #[59])] : List ByteArray)).bind fun x6 => some ((⟨(4 : Int), a1.gName, x3.1, x5.1, a1.gKids, a1.gElse, a1.gAt⟩ : TApiStmt), x6))))
set_option maxRecDepth 100000 in
set_option maxHeartbeats 2000000 in
theorem grammar_reader_call_ok (m0 : TGrammarReader) (a1 : TApiStmt) (o0 : Nat) (T0 : TypeId) (c0_0 : Cap) (r : TApiStmt × TGrammarReader) (h0 : grammar_reader_call m0 a1 = some r) : CallsD Try.prog 81 [.ptr o0 0, eTApiStmt a1] [(o0, Blk.cells [.lst 4 (m0.gL.map eTApiToken) c0_0, .v (.int .i64 m0.gAt), .v (.int .i64 m0.gE), .v (.int .i64 m0.gVars), .v (.int .i64 m0.gOpen)] T0)] [] (fun d h k => d = eTApiStmt r.1 ∧ h = [(o0, Blk.cells [.lst 4 (r.2.gL.map eTApiToken) .no, .v (.int .i64 r.2.gAt), .v (.int .i64 r.2.gE), .v (.int .i64 r.2.gVars), .v (.int .i64 r.2.gOpen)] T0)] ∧ k = []) := by
  have hm := yes_of h0
  unfold grammar_reader_call at hm
  clear h0
  refine enterX htab Try.func81 rfl rfl rfl rfl rfl (fun C => ?_)
  refine w_eq (i := 1) rfl (Wk.of_eq (eTApiStmt_eq a1)) ?_
  refine wpD_sr ?_
  refine p_box rfl rfl rfl rfl rfl rfl rfl (fun b1 => ?_)
  refine p_alloc htab rfl rfl rfl rfl rfl rfl rfl (fun b2 => ?_)
  refine ops_n2 ?_
  refine pu ?_
  refine pS1 (ds' := [.v (.int .i64 (4 : Int)), .v (.string a1.gName), .v (.string a1.gFunc), .lst 5 (a1.gExps.map eTApiExpr) .no, .lst 7 (a1.gKids.map eTApiStmt) .no, .lst 7 (a1.gElse.map eTApiStmt) .no, .v (.int .i64 a1.gAt)]) ?_
  refine ops_n2 ?_
  refine pu ?_
  obtain ⟨x3, q3, hm⟩ := yes_bind hm
  refine pG (grammar_reader_name_ok m0 o0 T0 c0_0 x3 q3) Wl Pf Pf ?_
  rintro _ _ _ ⟨rfl, rfl, rfl⟩
  refine pu ?_
  refine pS1 (ds' := [.v (.int .i64 (4 : Int)), .v (.string a1.gName), .v (.string x3.1), .lst 5 (a1.gExps.map eTApiExpr) .no, .lst 7 (a1.gKids.map eTApiStmt) .no, .lst 7 (a1.gElse.map eTApiStmt) .no, .v (.int .i64 a1.gAt)]) ?_
  refine ops_n2 ?_
  iterate 3 refine pu ?_
  obtain ⟨x5, q5, hm⟩ := yes_bind hm
  refine pG (grammar_list_api_Expr_ok x3.2 o0 T0 c0_0 x5 q5) Wl Pf Pf ?_
  rintro _ _ _ ⟨w4, rfl, rfl, rfl⟩
  refine pu ?_
  refine pS1 (ds' := [.v (.int .i64 (4 : Int)), .v (.string a1.gName), .v (.string x3.1), .lst 5 (x5.1.map eTApiExpr) (.cur w4), .lst 7 (a1.gKids.map eTApiStmt) .no, .lst 7 (a1.gElse.map eTApiStmt) .no, .v (.int .i64 a1.gAt)]) ?_
  refine ops_n2 ?_
  refine pu ?_
  refine p_lit htab rfl rfl rfl rfl rfl rfl rfl rfl rfl rfl rfl rfl rfl rfl ?_
  refine p_eq (i := 15) (d' := .lst 1 (([(ByteArray.mk #[59])] : List ByteArray).map eStr) .full) rfl (Wk.lst0 (.cons (WkC.refl _) (.nil))) ?_
  obtain ⟨x6, q6, hm⟩ := yes_bind hm
  refine p_callG (grammar_reader_eat_ok x5.2 ([(ByteArray.mk #[59])] : List ByteArray) o0 T0 .no x6 q6) rfl rfl rfl rfl rfl (WkL.cons (Wk.refl _) (WkL.cons (Wk.no) Wl)) Pf Pf ?_
  rintro _ _ _ ⟨rfl, rfl, rfl⟩
  refine ops_n2 ?_
  refine p_load (d := .agg [.v (.int .i64 (4 : Int)), .v (.string a1.gName), .v (.string x3.1), .lst 5 (x5.1.map eTApiExpr) (.cur w4), .lst 7 (a1.gKids.map eTApiStmt) .no, .lst 7 (a1.gElse.map eTApiStmt) .no, .v (.int .i64 a1.gAt)]) 1 htab rfl rfl rfl rfl rfl rfl rfl rfl ?_
  refine pS2 (ds' := [.v (.int .i64 (4 : Int)), .v (.string a1.gName), .v (.string x3.1), .lst 5 (x5.1.map eTApiExpr) (.cur w4), .lst 7 (a1.gKids.map eTApiStmt) .no, .lst 7 (a1.gElse.map eTApiStmt) .no, .v (.int .i64 a1.gAt)]) ?_
  refine ops_nt ?_
  refine wpD_ret ?_
  have er7 := yes_eq hm; subst er7
  refine retX.wk (WkS.bl2 (ds' := [.v (.int .i64 (4 : Int)), .v (.string a1.gName), .v (.string x3.1), .lst 5 (x5.1.map eTApiExpr) .no, .lst 7 (a1.gKids.map eTApiStmt) .no, .lst 7 (a1.gElse.map eTApiStmt) .no, .v (.int .i64 a1.gAt)]) (rC (rC (rC (rO (rC (rC (rC WkR.nil)))))))) ?_
  refine rP (t' := [(4, .ptr b2 0)]) [0,1] [] 1 (wC wN) (lC 1 lN) ?_
  exact ⟨by first | rfl | (simp only [wrapD, eTApiStmt_eq]; done) | (simp only [wrapD, eTApiStmt_eq]; rfl), rfl, rfl⟩
noncomputable def grammar_reader_assign (m0 : TGrammarReader) (a1 : TApiStmt) : Option (TApiStmt × TGrammarReader) :=
  ((grammar_reader_may m0 (ByteArray.mk #[105, 110, 112, 117, 116])).bind fun x15 => (bif x15.1 then ((grammar_reader_eat x15.2 ([(ByteArray.mk #[40]), (ByteArray.mk #[41]), (ByteArray.mk #[59])] : List ByteArray)).bind fun x28 => some ((⟨(5 : Int), a1.gName, a1.gFunc, a1.gExps, a1.gKids, a1.gElse, a1.gAt⟩ : TApiStmt), x28)) else (Option.bind (α := Bool) ((grammar_reader_look x15.2 (0 : Int)).bind fun x34 => (bif (x34.gKind == (1 : Int)) then ((grammar_reader_is x15.2 (1 : Int) (ByteArray.mk #[40])).bind fun x36 => some x36) else some false)) fun y33 => (bif y33 then ((grammar_reader_call x15.2 a1).bind fun x40 => some (x40.1, x40.2)) else ((grammar_reader_expr x15.2).bind fun x42 => ((grammar_reader_eat x42.2 ([(ByteArray.mk #[59])] : List ByteArray)).bind fun x43 => some ((⟨(1 : Int), a1.gName, a1.gFunc, ([x42.1] : List TApiExpr), a1.gKids, a1.gElse, a1.gAt⟩ : TApiStmt), x43)))))))
set_option maxRecDepth 100000 in
set_option maxHeartbeats 2000000 in
theorem grammar_reader_assign_ok (m0 : TGrammarReader) (a1 : TApiStmt) (o0 : Nat) (T0 : TypeId) (c0_0 : Cap) (r : TApiStmt × TGrammarReader) (h0 : grammar_reader_assign m0 a1 = some r) : CallsD Try.prog 82 [.ptr o0 0, eTApiStmt a1] [(o0, Blk.cells [.lst 4 (m0.gL.map eTApiToken) c0_0, .v (.int .i64 m0.gAt), .v (.int .i64 m0.gE), .v (.int .i64 m0.gVars), .v (.int .i64 m0.gOpen)] T0)] [] (fun d h k => d = eTApiStmt r.1 ∧ h = [(o0, Blk.cells [.lst 4 (r.2.gL.map eTApiToken) .no, .v (.int .i64 r.2.gAt), .v (.int .i64 r.2.gE), .v (.int .i64 r.2.gVars), .v (.int .i64 r.2.gOpen)] T0)] ∧ k = []) := by
  have hm := yes_of h0
  unfold grammar_reader_assign at hm
  clear h0
  refine enterX htab Try.func82 rfl rfl rfl rfl rfl (fun C => ?_)
  refine w_eq (i := 1) rfl (Wk.of_eq (eTApiStmt_eq a1)) ?_
  refine wpD_sr ?_
  refine p_box rfl rfl rfl rfl rfl rfl rfl (fun b1 => ?_)
  refine p_alloc htab rfl rfl rfl rfl rfl rfl rfl (fun b2 => ?_)
  refine ops_nt ?_
  refine wpD_seq ?_
  refine wpD_block ?_
  refine wpD_sr ?_
  refine pu ?_
  obtain ⟨x15, q15, hm⟩ := yes_bind hm
  refine pG (grammar_reader_may_ok m0 (ByteArray.mk #[105, 110, 112, 117, 116]) o0 T0 c0_0 x15 q15) Wl Pf Pf ?_
  rintro _ _ _ ⟨rfl, rfl, rfl⟩
  refine pu ?_
  refine ops_nt ?_
  refine wpD_cond rfl (fun hc27 => ?_) (fun hc27 => ?_)
  ·replace hm := yes_t hc27 hm
   refine wpD_sr ?_
   refine pu ?_
   refine pS1 (ds' := [.v (.int .i64 (5 : Int)), .v (.string a1.gName), .v (.string a1.gFunc), .lst 5 (a1.gExps.map eTApiExpr) .no, .lst 7 (a1.gKids.map eTApiStmt) .no, .lst 7 (a1.gElse.map eTApiStmt) .no, .v (.int .i64 a1.gAt)]) ?_
   refine ops_n2 ?_
   refine pu ?_
   refine p_lit htab rfl rfl rfl rfl rfl rfl rfl rfl rfl rfl rfl rfl rfl rfl ?_
   refine p_eq (i := 10) (d' := .lst 1 (([(ByteArray.mk #[40]), (ByteArray.mk #[41]), (ByteArray.mk #[59])] : List ByteArray).map eStr) .full) rfl (Wk.lst0 (.cons (WkC.refl _) (.cons (WkC.refl _) (.cons (WkC.refl _) (.nil))))) ?_
   obtain ⟨x28, q28, hm⟩ := yes_bind hm
   refine p_callG (grammar_reader_eat_ok x15.2 ([(ByteArray.mk #[40]), (ByteArray.mk #[41]), (ByteArray.mk #[59])] : List ByteArray) o0 T0 c0_0 x28 q28) rfl rfl rfl rfl rfl (WkL.cons (Wk.refl _) (WkL.cons (Wk.no) Wl)) Pf Pf ?_
   rintro _ _ _ ⟨rfl, rfl, rfl⟩
   refine ops_n2 ?_
   refine p_load (d := .agg [.v (.int .i64 (5 : Int)), .v (.string a1.gName), .v (.string a1.gFunc), .lst 5 (a1.gExps.map eTApiExpr) .no, .lst 7 (a1.gKids.map eTApiStmt) .no, .lst 7 (a1.gElse.map eTApiStmt) .no, .v (.int .i64 a1.gAt)]) 1 htab rfl rfl rfl rfl rfl rfl rfl rfl ?_
   refine pS2 (ds' := [.v (.int .i64 (5 : Int)), .v (.string a1.gName), .v (.string a1.gFunc), .lst 5 (a1.gExps.map eTApiExpr) .no, .lst 7 (a1.gKids.map eTApiStmt) .no, .lst 7 (a1.gElse.map eTApiStmt) .no, .v (.int .i64 a1.gAt)]) ?_
   refine ops_nt ?_
   refine wpD_ret ?_
   refine block_ret ?_
   refine then_ret ?_
   have er29 := yes_eq hm; subst er29
   refine retX.wk (WkS.bl0 (ds' := [.lst 4 (x28.gL.map eTApiToken) .no, .v (.int .i64 x28.gAt), .v (.int .i64 x28.gE), .v (.int .i64 x28.gVars), .v (.int .i64 x28.gOpen)]) (rO (rC (rC (rC (rC WkR.nil)))))) ?_
   refine rP (t' := [(4, .ptr b2 0)]) [0,1] [] 1 (wC wN) (lC 1 lN) ?_
   exact ⟨by first | rfl | (simp only [wrapD, eTApiStmt_eq]; done) | (simp only [wrapD, eTApiStmt_eq]; rfl), rfl, rfl⟩
  ·replace hm := yes_f hc27 hm
   refine wpD_seq ?_
   obtain ⟨y33, q33, ho33⟩ := yes_bind hm
   refine wpD_mid (Y := Unit) (fun z33 => (⟨[(0, .ptr o0 0), (3, .ptr b1 0), (4, .ptr b2 0), (13, .v (.bool y33))], [(o0, Blk.cells [.lst 4 (x15.2.gL.map eTApiToken) c0_0, .v (.int .i64 x15.2.gAt), .v (.int .i64 x15.2.gE), .v (.int .i64 x15.2.gVars), .v (.int .i64 x15.2.gOpen)] T0), (b1, Blk.cells [.v (.int .i64 a1.gOp), .v (.string a1.gName), .v (.string a1.gFunc), .lst 5 (a1.gExps.map eTApiExpr) .no, .lst 7 (a1.gKids.map eTApiStmt) .no, .lst 7 (a1.gElse.map eTApiStmt) .no, .v (.int .i64 a1.gAt)] 58), (b2, Blk.cells [.v (.int .i64 (0 : Int)), .v (.string ByteArray.empty), .v (.string ByteArray.empty), .lst 1 [] .full, .lst 1 [] .full, .lst 1 [] .full, .v (.int .i64 (0 : Int))] 58)], []⟩ : S)) ?_ ?_
   ·clear hm; have hm := yes_of q33
    refine wpD_region ?_
    refine pu ?_
    obtain ⟨x34, q34, hm⟩ := yes_bind hm
    refine pG (grammar_reader_look_ok x15.2 (0 : Int) o0 T0 c0_0 x34 q34) Wl Pf Pf ?_
    rintro _ _ _ ⟨rfl, rfl, rfl⟩
    iterate 3 refine pu ?_
    refine p_split (i := 18) rfl (fun hg35 => ?_) (fun hg35 => ?_)
    ·replace hm := yes_t hg35 hm
     refine pu ?_
     obtain ⟨x36, q36, hm⟩ := yes_bind hm
     refine pG (grammar_reader_is_ok x15.2 (1 : Int) (ByteArray.mk #[40]) o0 T0 c0_0 x36 q36) Wl Pf Pf ?_
     rintro _ _ _ ⟨rfl, rfl, rfl⟩
     refine p_pickT rfl rfl rfl rfl rfl rfl ?_
     refine pu ?_
     refine ops_nil ?_
     have e33 := yes_eq hm; subst e33
     refine ⟨rfl, ?_⟩
     exact WkX.of () (WkS.perm (WkS.cons rfl (Wk.refl _) (WkS.cons rfl (Wk.refl _) (WkS.cons rfl (Wk.refl _) (WkS.cons rfl (Wk.refl _) (WkS.nil))))) Pf Pf)
    ·replace hm := yes_f hg35 hm
     refine pK ?_
     refine pK ?_
     refine p_pickF rfl rfl rfl rfl rfl rfl ?_
     refine pu ?_
     refine ops_nil ?_
     have e33 := yes_eq hm; subst e33
     refine ⟨rfl, ?_⟩
     exact WkX.of () (WkS.perm (WkS.cons rfl (Wk.refl _) (WkS.cons rfl (Wk.refl _) (WkS.cons rfl (Wk.refl _) (WkS.cons rfl (Wk.refl _) (WkS.nil))))) Pf Pf)
   ·intro s33 hw33; clear hm; have hm := ho33; clear q33 ho33
    refine then_normal ?_
    refine wpD_wkX hw33 (fun z33 => ?_)
    refine wpD_cond rfl (fun hc39 => ?_) (fun hc39 => ?_)
    ·replace hm := yes_t hc39 hm
     refine wpD_sr ?_
     refine pu ?_
     refine p_load (d := .agg [.v (.int .i64 a1.gOp), .v (.string a1.gName), .v (.string a1.gFunc), .lst 5 (a1.gExps.map eTApiExpr) .no, .lst 7 (a1.gKids.map eTApiStmt) .no, .lst 7 (a1.gElse.map eTApiStmt) .no, .v (.int .i64 a1.gAt)]) 1 htab rfl rfl rfl rfl rfl rfl rfl rfl ?_
     obtain ⟨x40, q40, hm⟩ := yes_bind hm
     refine p_callG (grammar_reader_call_ok x15.2 a1 o0 T0 c0_0 x40 q40) rfl rfl rfl rfl rfl (WkL.cons (Wk.refl _) (WkL.cons (Wk.trans (Wk.agg (WkR.refl _)) (Wk.of_eq (eTApiStmt_eq a1).symm)) Wl)) Pf Pf ?_
     rintro _ _ _ ⟨rfl, rfl, rfl⟩
     refine p_eq (i := 24) rfl (Wk.of_eq (eTApiStmt_eq x40.1)) ?_
     refine pS2 (ds' := [.v (.int .i64 x40.1.gOp), .v (.string x40.1.gName), .v (.string x40.1.gFunc), .lst 5 (x40.1.gExps.map eTApiExpr) .no, .lst 7 (x40.1.gKids.map eTApiStmt) .no, .lst 7 (x40.1.gElse.map eTApiStmt) .no, .v (.int .i64 x40.1.gAt)]) ?_
     refine ops_nt ?_
     refine wpD_ret ?_
     refine block_ret ?_
     refine then_ret ?_
     have er41 := yes_eq hm; subst er41
     refine rP (t' := [(4, .ptr b2 0)]) [0,1] [] 1 (wC wN) (lC 1 lN) ?_
     exact ⟨by first | rfl | (simp only [wrapD, eTApiStmt_eq]; done) | (simp only [wrapD, eTApiStmt_eq]; rfl), rfl, rfl⟩
    ·replace hm := yes_f hc39 hm
     refine wpD_skip ?_
     refine block_normal ?_
     refine then_normal ?_
     refine wpD_sr ?_
     refine pu ?_
     refine pS1 (ds' := [.v (.int .i64 (1 : Int)), .v (.string a1.gName), .v (.string a1.gFunc), .lst 5 (a1.gExps.map eTApiExpr) .no, .lst 7 (a1.gKids.map eTApiStmt) .no, .lst 7 (a1.gElse.map eTApiStmt) .no, .v (.int .i64 a1.gAt)]) ?_
     refine ops_n2 ?_
     refine pu ?_
     obtain ⟨x42, q42, hm⟩ := yes_bind hm
     refine pG (grammar_reader_expr_ok x15.2 o0 T0 c0_0 x42 q42) Wl Pf Pf ?_
     rintro _ _ _ ⟨rfl, rfl, rfl⟩
     refine p_eq (i := 27) rfl (Wk.of_eq (eTApiExpr_eq x42.1)) ?_
     refine p_lit htab rfl rfl rfl rfl rfl rfl rfl rfl rfl rfl rfl rfl rfl rfl ?_
     refine p_eq (i := 28) (d' := .lst 5 (([x42.1] : List TApiExpr).map eTApiExpr) .full) rfl (Wk.lst0 (.cons (WkC.trans (WkC.agg (WkR.refl _)) (WkC.of_eq (eTApiExpr_eq x42.1).symm)) (.nil))) ?_
     refine pu ?_
     refine pS1 (ds' := [.v (.int .i64 (1 : Int)), .v (.string a1.gName), .v (.string a1.gFunc), .lst 5 (([x42.1] : List TApiExpr).map eTApiExpr) .full, .lst 7 (a1.gKids.map eTApiStmt) .no, .lst 7 (a1.gElse.map eTApiStmt) .no, .v (.int .i64 a1.gAt)]) ?_
     refine ops_n2 ?_
     refine pu ?_
     refine p_lit htab rfl rfl rfl rfl rfl rfl rfl rfl rfl rfl rfl rfl rfl rfl ?_
     refine p_eq (i := 31) (d' := .lst 1 (([(ByteArray.mk #[59])] : List ByteArray).map eStr) .full) rfl (Wk.lst0 (.cons (WkC.refl _) (.nil))) ?_
     obtain ⟨x43, q43, hm⟩ := yes_bind hm
     refine p_callG (grammar_reader_eat_ok x42.2 ([(ByteArray.mk #[59])] : List ByteArray) o0 T0 c0_0 x43 q43) rfl rfl rfl rfl rfl (WkL.cons (Wk.refl _) (WkL.cons (Wk.no) Wl)) Pf Pf ?_
     rintro _ _ _ ⟨rfl, rfl, rfl⟩
     refine ops_n2 ?_
     refine p_load (d := .agg [.v (.int .i64 (1 : Int)), .v (.string a1.gName), .v (.string a1.gFunc), .lst 5 (([x42.1] : List TApiExpr).map eTApiExpr) .full, .lst 7 (a1.gKids.map eTApiStmt) .no, .lst 7 (a1.gElse.map eTApiStmt) .no, .v (.int .i64 a1.gAt)]) 1 htab rfl rfl rfl rfl rfl rfl rfl rfl ?_
     refine pS2 (ds' := [.v (.int .i64 (1 : Int)), .v (.string a1.gName), .v (.string a1.gFunc), .lst 5 (([x42.1] : List TApiExpr).map eTApiExpr) .full, .lst 7 (a1.gKids.map eTApiStmt) .no, .lst 7 (a1.gElse.map eTApiStmt) .no, .v (.int .i64 a1.gAt)]) ?_
     refine ops_nt ?_
     refine wpD_ret ?_
     have er44 := yes_eq hm; subst er44
     refine retX.wk (WkS.bl2 (ds' := [.v (.int .i64 (1 : Int)), .v (.string a1.gName), .v (.string a1.gFunc), .lst 5 (([x42.1] : List TApiExpr).map eTApiExpr) .no, .lst 7 (a1.gKids.map eTApiStmt) .no, .lst 7 (a1.gElse.map eTApiStmt) .no, .v (.int .i64 a1.gAt)]) (rC (rC (rC (rO (rC (rC (rC WkR.nil)))))))) ?_
     refine retX.wk (WkS.bl0 (ds' := [.lst 4 (x43.gL.map eTApiToken) .no, .v (.int .i64 x43.gAt), .v (.int .i64 x43.gE), .v (.int .i64 x43.gVars), .v (.int .i64 x43.gOpen)]) (rO (rC (rC (rC (rC WkR.nil)))))) ?_
     refine rP (t' := [(4, .ptr b2 0)]) [0,1] [] 1 (wC wN) (lC 1 lN) ?_
     exact ⟨by first | rfl | (simp only [wrapD, eTApiStmt_eq]; done) | (simp only [wrapD, eTApiStmt_eq]; rfl), rfl, rfl⟩
end Go.Proofs.Ytmgklehakmdiiaa.Ab
