/- The texts that grammarGlobals_holds leans on, part 5. -/
import Derived.Test.YtmgklehakmdiiaaGd4
namespace Go.Proofs.Ytmgklehakmdiiaa.Ab
open Go
set_option linter.all false
noncomputable def grammar_reader_named (m0 : TGrammarReader) (a1 : TApiStmt) : Option (TApiStmt × TGrammarReader) :=
  ((grammar_reader_is m0 (1 : Int) (ByteArray.mk #[40])).bind fun x3 => (bif x3 then ((grammar_reader_call m0 a1).bind fun x7 => some (x7.1, x7.2)) else ((grammar_reader_name m0).bind fun x9 => ((grammar_reader_may x9.2 (ByteArray.mk #[91])).bind fun x10 => (bif x10.1 then ((grammar_reader_expr x10.2).bind fun x18 => ((grammar_reader_eat x18.2 ([(ByteArray.mk #[93]), (ByteArray.mk #[61])] : List ByteArray)).bind fun x20 => ((grammar_reader_expr x20).bind fun x21 => ((grammar_reader_eat x21.2 ([(ByteArray.mk #[59])] : List ByteArray)).bind fun x22 => some ((⟨(2 : Int), x9.1, a1.gFunc, ([x18.1, x21.1] : List TApiExpr), a1.gKids, a1.gElse, a1.gAt⟩ : TApiStmt), x22))))) else ((grammar_reader_eat x10.2 ([(ByteArray.mk #[61])] : List ByteArray)).bind fun x24 => ((grammar_reader_assign x24 (⟨a1.gOp, x9.1, a1.gFunc, a1.gExps, a1.gKids, a1.gElse, a1.gAt⟩ : TApiStmt)).bind fun x25 => some (x25.1, x25.2))))))))
set_option maxRecDepth 100000 in
set_option maxHeartbeats 2000000 in
theorem grammar_reader_named_ok (m0 : TGrammarReader) (a1 : TApiStmt) (o0 : Nat) (T0 : TypeId) (c0_0 : Cap) (r : TApiStmt × TGrammarReader) (h0 : grammar_reader_named m0 a1 = some r) : CallsD Try.prog 70 [.ptr o0 0, eTApiStmt a1] [(o0, Blk.cells [.lst 4 (m0.gL.map eTApiToken) c0_0, .v (.int .i64 m0.gAt), .v (.int .i64 m0.gE), .v (.int .i64 m0.gVars), .v (.int .i64 m0.gOpen)] T0)] [] (fun d h k => d = eTApiStmt r.1 ∧ h = [(o0, Blk.cells [.lst 4 (r.2.gL.map eTApiToken) .no, .v (.int .i64 r.2.gAt), .v (.int .i64 r.2.gE), .v (.int .i64 r.2.gVars), .v (.int .i64 r.2.gOpen)] T0)] ∧ k = []) := by
  have hm := yes_of h0
  unfold grammar_reader_named at hm
  clear h0
  refine enterX htab Try.func70 rfl rfl rfl rfl rfl (fun C => ?_)
  refine w_eq (i := 1) rfl (Wk.of_eq (eTApiStmt_eq a1)) ?_
  refine wpD_sr ?_
  refine p_box rfl rfl rfl rfl rfl rfl rfl (fun b1 => ?_)
  refine p_alloc htab rfl rfl rfl rfl rfl rfl rfl (fun b2 => ?_)
  refine ops_nt ?_
  refine wpD_seq ?_
  refine wpD_sr ?_
  refine pu ?_
  obtain ⟨x3, q3, hm⟩ := yes_bind hm
  refine pG (grammar_reader_is_ok m0 (1 : Int) (ByteArray.mk #[40]) o0 T0 c0_0 x3 q3) Wl Pf Pf ?_
  rintro _ _ _ ⟨rfl, rfl, rfl⟩
  refine ops_nt ?_
  refine wpD_cond rfl (fun hc6 => ?_) (fun hc6 => ?_)
  ·replace hm := yes_t hc6 hm
   refine wpD_sr ?_
   refine pu ?_
   refine p_load (d := .agg [.v (.int .i64 a1.gOp), .v (.string a1.gName), .v (.string a1.gFunc), .lst 5 (a1.gExps.map eTApiExpr) .no, .lst 7 (a1.gKids.map eTApiStmt) .no, .lst 7 (a1.gElse.map eTApiStmt) .no, .v (.int .i64 a1.gAt)]) 1 htab rfl rfl rfl rfl rfl rfl rfl rfl ?_
   obtain ⟨x7, q7, hm⟩ := yes_bind hm
   refine p_callG (grammar_reader_call_ok m0 a1 o0 T0 c0_0 x7 q7) rfl rfl rfl rfl rfl (WkL.cons (Wk.refl _) (WkL.cons (Wk.trans (Wk.agg (WkR.refl _)) (Wk.of_eq (eTApiStmt_eq a1).symm)) Wl)) Pf Pf ?_
   rintro _ _ _ ⟨rfl, rfl, rfl⟩
   refine p_eq (i := 10) rfl (Wk.of_eq (eTApiStmt_eq x7.1)) ?_
   refine pS2 (ds' := [.v (.int .i64 x7.1.gOp), .v (.string x7.1.gName), .v (.string x7.1.gFunc), .lst 5 (x7.1.gExps.map eTApiExpr) .no, .lst 7 (x7.1.gKids.map eTApiStmt) .no, .lst 7 (x7.1.gElse.map eTApiStmt) .no, .v (.int .i64 x7.1.gAt)]) ?_
   refine ops_nt ?_
   refine wpD_ret ?_
   refine then_ret ?_
   have er8 := yes_eq hm; subst er8
   refine rP (t' := [(4, .ptr b2 0)]) [0,1] [] 1 (wC wN) (lC 1 lN) ?_
   exact ⟨by first | rfl | (simp only [wrapD, eTApiStmt_eq]; done) | (simp only [wrapD, eTApiStmt_eq]; rfl), rfl, rfl⟩
  ·replace hm := yes_f hc6 hm
   refine wpD_skip ?_
   refine then_normal ?_
   refine wpD_sr ?_
   refine pu ?_
   obtain ⟨x9, q9, hm⟩ := yes_bind hm
   refine pG (grammar_reader_name_ok m0 o0 T0 c0_0 x9 q9) Wl Pf Pf ?_
   rintro _ _ _ ⟨rfl, rfl, rfl⟩
   refine pu ?_
   refine pS1 (ds' := [.v (.int .i64 a1.gOp), .v (.string x9.1), .v (.string a1.gFunc), .lst 5 (a1.gExps.map eTApiExpr) .no, .lst 7 (a1.gKids.map eTApiStmt) .no, .lst 7 (a1.gElse.map eTApiStmt) .no, .v (.int .i64 a1.gAt)]) ?_
   refine ops_nt ?_
   refine wpD_seq ?_
   refine wpD_sr ?_
   refine pu ?_
   obtain ⟨x10, q10, hm⟩ := yes_bind hm
   refine pG (grammar_reader_may_ok x9.2 (ByteArray.mk #[91]) o0 T0 c0_0 x10 q10) Wl Pf Pf ?_
   rintro _ _ _ ⟨rfl, rfl, rfl⟩
   refine ops_nt ?_
   refine wpD_cond rfl (fun hc17 => ?_) (fun hc17 => ?_)
   ·replace hm := yes_t hc17 hm
    refine wpD_sr ?_
    refine pu ?_
    refine pS1 (ds' := [.v (.int .i64 (2 : Int)), .v (.string x9.1), .v (.string a1.gFunc), .lst 5 (a1.gExps.map eTApiExpr) .no, .lst 7 (a1.gKids.map eTApiStmt) .no, .lst 7 (a1.gElse.map eTApiStmt) .no, .v (.int .i64 a1.gAt)]) ?_
    refine ops_n2 ?_
    refine pu ?_
    obtain ⟨x18, q18, hm⟩ := yes_bind hm
    refine pG (grammar_reader_expr_ok x10.2 o0 T0 c0_0 x18 q18) Wl Pf Pf ?_
    rintro _ _ _ ⟨rfl, rfl, rfl⟩
    refine p_eq (i := 18) rfl (Wk.of_eq (eTApiExpr_eq x18.1)) ?_
    refine p_alloc htab rfl rfl rfl rfl rfl rfl rfl (fun b19 => ?_)
    refine pS3 (ds' := [.v (.int .i64 x18.1.gOp), .v (.int .i64 x18.1.gN), .v (.string x18.1.gName), .lst 5 (x18.1.gKids.map eTApiExpr) .no, .v (.int .i64 x18.1.gAt)]) ?_
    refine ops_n2 ?_
    refine pu ?_
    refine p_lit htab rfl rfl rfl rfl rfl rfl rfl rfl rfl rfl rfl rfl rfl rfl ?_
    refine p_eq (i := 20) (d' := .lst 1 (([(ByteArray.mk #[93]), (ByteArray.mk #[61])] : List ByteArray).map eStr) .full) rfl (Wk.lst0 (.cons (WkC.refl _) (.cons (WkC.refl _) (.nil)))) ?_
    obtain ⟨x20, q20, hm⟩ := yes_bind hm
    refine p_callG (grammar_reader_eat_ok x18.2 ([(ByteArray.mk #[93]), (ByteArray.mk #[61])] : List ByteArray) o0 T0 c0_0 x20 q20) rfl rfl rfl rfl rfl (WkL.cons (Wk.refl _) (WkL.cons (Wk.no) Wl)) Pf Pf ?_
    rintro _ _ _ ⟨rfl, rfl, rfl⟩
    refine ops_nt ?_
    refine wpD_seq ?_
    obtain ⟨x21, q21, hm⟩ := yes_bind hm
    refine wpD_heavyX (X := BK) 3 [] [[],[],[1]] [0,1,2] [[],[],[1],[0,1,2],[0,1,2,3],[0,1,2,3,4]] ⟨2, fun x => x.1 ++ [(b1, Blk.cells [.v (.int .i64 (2 : Int)), .v (.string x9.1), .v (.string a1.gFunc), .lst 5 (a1.gExps.map eTApiExpr) .no, .lst 7 (a1.gKids.map eTApiStmt) .no, .lst 7 (a1.gElse.map eTApiStmt) .no, .v (.int .i64 a1.gAt)] 58), (b2, Blk.cells [.v (.int .i64 (0 : Int)), .v (.string ByteArray.empty), .v (.string ByteArray.empty), .lst 1 [] .full, .lst 1 [] .full, .lst 1 [] .full, .v (.int .i64 (0 : Int))] 58), (b19, Blk.cells [.v (.int .i64 x18.1.gOp), .v (.int .i64 x18.1.gN), .v (.string x18.1.gName), .lst 5 (x18.1.gKids.map eTApiExpr) .no, .v (.int .i64 x18.1.gAt)] 100)], fun x => x.2 ++ [], fun x => x.1 = [(o0, Blk.cells [.lst 4 (x21.2.gL.map eTApiToken) c0_0, .v (.int .i64 x21.2.gAt), .v (.int .i64 x21.2.gE), .v (.int .i64 x21.2.gVars), .v (.int .i64 x21.2.gOpen)] T0)] ∧ x.2 = []⟩ ([], []) (by kernel_rfl) (by kernel_rfl) (by kernel_rfl) (by rfl) (by rfl) (by kernel_rfl) ?_
    iterate 3 apply Exists.intro
    intro bs
    refine zx_M rfl rfl (fun _ => xm_load (d := .agg [.v (.int .i64 x18.1.gOp), .v (.int .i64 x18.1.gN), .v (.string x18.1.gName), .lst 5 (x18.1.gKids.map eTApiExpr) .no, .v (.int .i64 x18.1.gAt)]) 3 htab rfl rfl rfl rfl rfl) (fun _ ⟨x1, x2⟩ ⟨e1, e2⟩ => by cases e1; cases e2; exact xm_load (d := .agg [.v (.int .i64 x18.1.gOp), .v (.int .i64 x18.1.gN), .v (.string x18.1.gName), .lst 5 (x18.1.gKids.map eTApiExpr) .no, .v (.int .i64 x18.1.gAt)]) 3 htab rfl rfl rfl rfl rfl) rfl rfl rfl rfl rfl rfl rfl rfl ?_
    refine zx_e rfl rfl (ex_pure htab rfl) rfl rfl rfl rfl rfl rfl rfl rfl ?_
    refine zx_callH (h1 := [(o0, Blk.cells [.lst 4 (x20.gL.map eTApiToken) c0_0, .v (.int .i64 x20.gAt), .v (.int .i64 x20.gE), .v (.int .i64 x20.gVars), .v (.int .i64 x20.gOpen)] T0)]) (k1 := []) (d := .agg [.v (.int .i64 x21.1.gOp), .v (.int .i64 x21.1.gN), .v (.string x21.1.gName), .lst 5 (x21.1.gKids.map eTApiExpr) .no, .v (.int .i64 x21.1.gAt)]) rfl rfl rfl (grammar_reader_expr_ok x20 o0 T0 c0_0 x21 q21) rfl rfl Wl Pf Pf (fun _ => rfl) (fun _ => rfl) (fun d' h' k' ⟨e1, e2, e3⟩ => ⟨⟨e2, e3⟩, by subst e1; exact Wk.of_eq (eTApiExpr_eq x21.1)⟩) rfl rfl rfl rfl rfl rfl ?_
    refine zx_nilB (h2 := [(b1, Blk.cells [.v (.int .i64 (2 : Int)), .v (.string x9.1), .v (.string a1.gFunc), .lst 5 (a1.gExps.map eTApiExpr) .no, .lst 7 (a1.gKids.map eTApiStmt) .no, .lst 7 (a1.gElse.map eTApiStmt) .no, .v (.int .i64 a1.gAt)] 58), (b2, Blk.cells [.v (.int .i64 (0 : Int)), .v (.string ByteArray.empty), .v (.string ByteArray.empty), .lst 1 [] .full, .lst 1 [] .full, .lst 1 [] .full, .v (.int .i64 (0 : Int))] 58), (b19, Blk.cells [.v (.int .i64 x18.1.gOp), .v (.int .i64 x18.1.gN), .v (.string x18.1.gName), .lst 5 (x18.1.gKids.map eTApiExpr) .no, .v (.int .i64 x18.1.gAt)] 100)]) (hz := [(b1, Blk.cells [.v (.int .i64 (2 : Int)), .v (.string x9.1), .v (.string a1.gFunc), .lst 5 (a1.gExps.map eTApiExpr) .no, .lst 7 (a1.gKids.map eTApiStmt) .no, .lst 7 (a1.gElse.map eTApiStmt) .no, .v (.int .i64 a1.gAt)] 58), (b2, Blk.cells [.v (.int .i64 (0 : Int)), .v (.string ByteArray.empty), .v (.string ByteArray.empty), .lst 1 [] .full, .lst 1 [] .full, .lst 1 [] .full, .v (.int .i64 (0 : Int))] 58), (b19, Blk.cells [.v (.int .i64 x18.1.gOp), .v (.int .i64 x18.1.gN), .v (.string x18.1.gName), .lst 5 (x18.1.gKids.map eTApiExpr) .no, .v (.int .i64 x18.1.gAt)] 100)]) rfl rfl (fun _ => rfl) (fun _ => rfl) rfl (fun e he => by simp [isAl] at he) ?_
    rintro _ _ ⟨rfl, rfl⟩
    refine p_lit htab rfl rfl rfl rfl rfl rfl rfl rfl rfl rfl rfl rfl rfl rfl ?_
    refine p_eq (i := 25) (d' := .lst 5 (([x18.1, x21.1] : List TApiExpr).map eTApiExpr) .full) rfl (Wk.lst0 (.cons (WkC.trans (WkC.agg (WkR.refl _)) (WkC.of_eq (eTApiExpr_eq x18.1).symm)) (.cons (WkC.trans (WkC.agg (WkR.refl _)) (WkC.of_eq (eTApiExpr_eq x21.1).symm)) (.nil)))) ?_
    refine pu ?_
    refine pS1 (ds' := [.v (.int .i64 (2 : Int)), .v (.string x9.1), .v (.string a1.gFunc), .lst 5 (([x18.1, x21.1] : List TApiExpr).map eTApiExpr) .full, .lst 7 (a1.gKids.map eTApiStmt) .no, .lst 7 (a1.gElse.map eTApiStmt) .no, .v (.int .i64 a1.gAt)]) ?_
    refine ops_n2 ?_
    refine pu ?_
    refine p_lit htab rfl rfl rfl rfl rfl rfl rfl rfl rfl rfl rfl rfl rfl rfl ?_
    refine p_eq (i := 28) (d' := .lst 1 (([(ByteArray.mk #[59])] : List ByteArray).map eStr) .full) rfl (Wk.lst0 (.cons (WkC.refl _) (.nil))) ?_
    obtain ⟨x22, q22, hm⟩ := yes_bind hm
    refine p_callG (grammar_reader_eat_ok x21.2 ([(ByteArray.mk #[59])] : List ByteArray) o0 T0 c0_0 x22 q22) rfl rfl rfl rfl rfl (WkL.cons (Wk.refl _) (WkL.cons (Wk.no) Wl)) Pf Pf ?_
    rintro _ _ _ ⟨rfl, rfl, rfl⟩
    refine ops_n2 ?_
    refine p_load (d := .agg [.v (.int .i64 (2 : Int)), .v (.string x9.1), .v (.string a1.gFunc), .lst 5 (([x18.1, x21.1] : List TApiExpr).map eTApiExpr) .full, .lst 7 (a1.gKids.map eTApiStmt) .no, .lst 7 (a1.gElse.map eTApiStmt) .no, .v (.int .i64 a1.gAt)]) 1 htab rfl rfl rfl rfl rfl rfl rfl rfl ?_
    refine pS2 (ds' := [.v (.int .i64 (2 : Int)), .v (.string x9.1), .v (.string a1.gFunc), .lst 5 (([x18.1, x21.1] : List TApiExpr).map eTApiExpr) .full, .lst 7 (a1.gKids.map eTApiStmt) .no, .lst 7 (a1.gElse.map eTApiStmt) .no, .v (.int .i64 a1.gAt)]) ?_
    refine ops_nt ?_
    refine wpD_ret ?_
    refine then_ret ?_
    have er23 := yes_eq hm; subst er23
    refine retX.wk (WkS.bl2 (ds' := [.v (.int .i64 (2 : Int)), .v (.string x9.1), .v (.string a1.gFunc), .lst 5 (([x18.1, x21.1] : List TApiExpr).map eTApiExpr) .no, .lst 7 (a1.gKids.map eTApiStmt) .no, .lst 7 (a1.gElse.map eTApiStmt) .no, .v (.int .i64 a1.gAt)]) (rC (rC (rC (rO (rC (rC (rC WkR.nil)))))))) ?_
    refine retX.wk (WkS.bl0 (ds' := [.lst 4 (x22.gL.map eTApiToken) .no, .v (.int .i64 x22.gAt), .v (.int .i64 x22.gE), .v (.int .i64 x22.gVars), .v (.int .i64 x22.gOpen)]) (rO (rC (rC (rC (rC WkR.nil)))))) ?_
    refine rP (t' := [(4, .ptr b2 0)]) [0,1] [] 1 (wC wN) (lC 1 lN) ?_
    exact ⟨by first | rfl | (simp only [wrapD, eTApiStmt_eq]; done) | (simp only [wrapD, eTApiStmt_eq]; rfl), rfl, rfl⟩
   ·replace hm := yes_f hc17 hm
    refine wpD_skip ?_
    refine then_normal ?_
    refine wpD_sr ?_
    refine pu ?_
    refine p_lit htab rfl rfl rfl rfl rfl rfl rfl rfl rfl rfl rfl rfl rfl rfl ?_
    refine p_eq (i := 32) (d' := .lst 1 (([(ByteArray.mk #[61])] : List ByteArray).map eStr) .full) rfl (Wk.lst0 (.cons (WkC.refl _) (.nil))) ?_
    obtain ⟨x24, q24, hm⟩ := yes_bind hm
    refine p_callG (grammar_reader_eat_ok x10.2 ([(ByteArray.mk #[61])] : List ByteArray) o0 T0 c0_0 x24 q24) rfl rfl rfl rfl rfl (WkL.cons (Wk.refl _) (WkL.cons (Wk.no) Wl)) Pf Pf ?_
    rintro _ _ _ ⟨rfl, rfl, rfl⟩
    refine ops_n2 ?_
    refine pu ?_
    refine p_load (d := .agg [.v (.int .i64 a1.gOp), .v (.string x9.1), .v (.string a1.gFunc), .lst 5 (a1.gExps.map eTApiExpr) .no, .lst 7 (a1.gKids.map eTApiStmt) .no, .lst 7 (a1.gElse.map eTApiStmt) .no, .v (.int .i64 a1.gAt)]) 1 htab rfl rfl rfl rfl rfl rfl rfl rfl ?_
    obtain ⟨x25, q25, hm⟩ := yes_bind hm
    refine p_callG (grammar_reader_assign_ok x24 (⟨a1.gOp, x9.1, a1.gFunc, a1.gExps, a1.gKids, a1.gElse, a1.gAt⟩ : TApiStmt) o0 T0 c0_0 x25 q25) rfl rfl rfl rfl rfl (WkL.cons (Wk.refl _) (WkL.cons (Wk.trans (Wk.agg (WkR.refl _)) (Wk.of_eq (eTApiStmt_eq (⟨a1.gOp, x9.1, a1.gFunc, a1.gExps, a1.gKids, a1.gElse, a1.gAt⟩ : TApiStmt)).symm)) Wl)) Pf Pf ?_
    rintro _ _ _ ⟨rfl, rfl, rfl⟩
    refine p_eq (i := 36) rfl (Wk.of_eq (eTApiStmt_eq x25.1)) ?_
    refine pS2 (ds' := [.v (.int .i64 x25.1.gOp), .v (.string x25.1.gName), .v (.string x25.1.gFunc), .lst 5 (x25.1.gExps.map eTApiExpr) .no, .lst 7 (x25.1.gKids.map eTApiStmt) .no, .lst 7 (x25.1.gElse.map eTApiStmt) .no, .v (.int .i64 x25.1.gAt)]) ?_
    refine ops_nt ?_
    refine wpD_ret ?_
    have er26 := yes_eq hm; subst er26
    refine rP (t' := [(4, .ptr b2 0)]) [0,1] [] 1 (wC wN) (lC 1 lN) ?_
    exact ⟨by first | rfl | (simp only [wrapD, eTApiStmt_eq]; done) | (simp only [wrapD, eTApiStmt_eq]; rfl), rfl, rfl⟩
noncomputable def grammar_reader_test (m0 : TGrammarReader) : Option (List TApiExpr × TGrammarReader) :=
  ((grammar_reader_eat m0 ([(ByteArray.mk #[40])] : List ByteArray)).bind fun x1 => ((grammar_reader_expr x1).bind fun x2 => ((grammar_reader_eat x2.2 ([(ByteArray.mk #[41])] : List ByteArray)).bind fun x4 => some (([x2.1] : List TApiExpr), x4))))
set_option maxRecDepth 100000 in
set_option maxHeartbeats 2000000 in
theorem grammar_reader_test_ok (m0 : TGrammarReader) (o0 : Nat) (T0 : TypeId) (c0_0 : Cap) (r : List TApiExpr × TGrammarReader) (h0 : grammar_reader_test m0 = some r) : CallsD Try.prog 72 [.ptr o0 0] [(o0, Blk.cells [.lst 4 (m0.gL.map eTApiToken) c0_0, .v (.int .i64 m0.gAt), .v (.int .i64 m0.gE), .v (.int .i64 m0.gVars), .v (.int .i64 m0.gOpen)] T0)] [] (fun d h k => ∃ y0, d = .lst 5 (r.1.map eTApiExpr) (.cur y0) ∧ h = [(o0, Blk.cells [.lst 4 (r.2.gL.map eTApiToken) c0_0, .v (.int .i64 r.2.gAt), .v (.int .i64 r.2.gE), .v (.int .i64 r.2.gVars), .v (.int .i64 r.2.gOpen)] T0)] ∧ k = [(5, y0)]) := by
  have hm := yes_of h0
  unfold grammar_reader_test at hm
  clear h0
  refine enterX htab Try.func72 rfl rfl rfl rfl rfl (fun C => ?_)
  refine wpD_sr ?_
  refine pu ?_
  refine ops_n2 ?_
  refine pu ?_
  refine p_lit htab rfl rfl rfl rfl rfl rfl rfl rfl rfl rfl rfl rfl rfl rfl ?_
  refine p_eq (i := 5) (d' := .lst 1 (([(ByteArray.mk #[40])] : List ByteArray).map eStr) .full) rfl (Wk.lst0 (.cons (WkC.refl _) (.nil))) ?_
  obtain ⟨x1, q1, hm⟩ := yes_bind hm
  refine p_callG (grammar_reader_eat_ok m0 ([(ByteArray.mk #[40])] : List ByteArray) o0 T0 c0_0 x1 q1) rfl rfl rfl rfl rfl (WkL.cons (Wk.refl _) (WkL.cons (Wk.no) Wl)) Pf Pf ?_
  rintro _ _ _ ⟨rfl, rfl, rfl⟩
  refine ops_n2 ?_
  refine pu ?_
  obtain ⟨x2, q2, hm⟩ := yes_bind hm
  refine pG (grammar_reader_expr_ok x1 o0 T0 c0_0 x2 q2) Wl Pf Pf ?_
  rintro _ _ _ ⟨rfl, rfl, rfl⟩
  refine p_eq (i := 8) rfl (Wk.of_eq (eTApiExpr_eq x2.1)) ?_
  refine p_alloc htab rfl rfl rfl rfl rfl rfl rfl (fun b3 => ?_)
  refine pS1 (ds' := [.v (.int .i64 x2.1.gOp), .v (.int .i64 x2.1.gN), .v (.string x2.1.gName), .lst 5 (x2.1.gKids.map eTApiExpr) .no, .v (.int .i64 x2.1.gAt)]) ?_
  refine ops_n2 ?_
  refine pu ?_
  refine p_lit htab rfl rfl rfl rfl rfl rfl rfl rfl rfl rfl rfl rfl rfl rfl ?_
  refine p_eq (i := 10) (d' := .lst 1 (([(ByteArray.mk #[41])] : List ByteArray).map eStr) .full) rfl (Wk.lst0 (.cons (WkC.refl _) (.nil))) ?_
  obtain ⟨x4, q4, hm⟩ := yes_bind hm
  refine p_callG (grammar_reader_eat_ok x2.2 ([(ByteArray.mk #[41])] : List ByteArray) o0 T0 c0_0 x4 q4) rfl rfl rfl rfl rfl (WkL.cons (Wk.refl _) (WkL.cons (Wk.no) Wl)) Pf Pf ?_
  rintro _ _ _ ⟨rfl, rfl, rfl⟩
  refine ops_n2 ?_
  refine p_load (d := .agg [.v (.int .i64 x2.1.gOp), .v (.int .i64 x2.1.gN), .v (.string x2.1.gName), .lst 5 (x2.1.gKids.map eTApiExpr) .no, .v (.int .i64 x2.1.gAt)]) 1 htab rfl rfl rfl rfl rfl rfl rfl rfl ?_
  refine p_lit htab rfl rfl rfl rfl rfl rfl rfl rfl rfl rfl rfl rfl rfl rfl ?_
  refine p_eq (i := 13) (d' := .lst 5 (([x2.1] : List TApiExpr).map eTApiExpr) .full) rfl (Wk.lst0 (.cons (WkC.trans (WkC.agg (WkR.refl _)) (WkC.of_eq (eTApiExpr_eq x2.1).symm)) (.nil))) ?_
  refine pu ?_
  refine ops_nt ?_
  refine wpD_ret ?_
  have er5 := yes_eq hm; subst er5
  refine retX.tokF (i := 2) rfl (fun w6 => ?_)
  refine rP (t' := [(2, .lst 5 (([x2.1] : List TApiExpr).map eTApiExpr) (.cur w6))]) [0] [0] 1 (wC wN) (lT lN) ?_
  exact ⟨w6, rfl, rfl, rfl⟩
noncomputable def grammar_nothing : Option (Unit) :=
  some ()
set_option maxRecDepth 100000 in
set_option maxHeartbeats 2000000 in
theorem grammar_nothing_ok  (r : Unit) (h0 : grammar_nothing = some r) : CallsD Try.prog 73 [] [] [] (fun d h k => d = .tup [] ∧ h = [] ∧ k = []) := by
  have hm := yes_of h0
  unfold grammar_nothing at hm
  clear h0
  refine enterX htab Try.func73 rfl rfl rfl rfl rfl (fun C => ?_)
  refine wpD_skip ?_
  have er1 := yes_eq hm; subst er1
  refine rP (t' := []) [] [] 0 wN lN ?_
  exact ⟨rfl, rfl, rfl⟩
noncomputable def grammar_reader_stmt_b (g0 : (TGrammarReader) → Option (TApiStmt × TGrammarReader)) (g1 : (TGrammarReader) → Option (List TApiStmt × TGrammarReader)) (m0 : TGrammarReader) : Option (TApiStmt × TGrammarReader) :=
  ((grammar_reader_look m0 (0 : Int)).bind fun x2 => (bif (x2.gKind == (1 : Int)) then ((grammar_reader_named m0 (⟨(0 : Int), ByteArray.empty, ByteArray.empty, [], [], [], x2.gAt⟩ : TApiStmt)).bind fun x6 => some (x6.1, x6.2)) else ((grammar_reader_may m0 (ByteArray.mk #[42])).bind fun x8 => (bif x8.1 then ((grammar_reader_name x8.2).bind fun x10 => ((grammar_reader_eat x10.2 ([(ByteArray.mk #[61])] : List ByteArray)).bind fun x11 => ((grammar_reader_expr x11).bind fun x12 => ((grammar_reader_eat x12.2 ([(ByteArray.mk #[59])] : List ByteArray)).bind fun x13 => some ((⟨(3 : Int), x10.1, ByteArray.empty, ([x12.1] : List TApiExpr), [], [], x2.gAt⟩ : TApiStmt), x13))))) else ((grammar_reader_may x8.2 (ByteArray.mk #[105, 102])).bind fun x15 => (bif x15.1 then ((grammar_reader_test x15.2).bind fun x18 => ((g1 x18.2).bind fun x20 => ((grammar_reader_may x20.2 (ByteArray.mk #[101, 108, 115, 101])).bind fun x21 => (bif x21.1 then ((g1 x21.2).bind fun x24 => some ((⟨(6 : Int), ByteArray.empty, ByteArray.empty, x18.1, x20.1, x24.1, x2.gAt⟩ : TApiStmt), x24.2)) else some ((⟨(6 : Int), ByteArray.empty, ByteArray.empty, x18.1, x20.1, [], x2.gAt⟩ : TApiStmt), x21.2))))) else ((grammar_reader_may x15.2 (ByteArray.mk #[119, 104, 105, 108, 101])).bind fun x27 => (bif x27.1 then ((grammar_reader_test x27.2).bind fun x30 => ((g1 x30.2).bind fun x32 => some ((⟨(7 : Int), ByteArray.empty, ByteArray.empty, x30.1, x32.1, [], x2.gAt⟩ : TApiStmt), x32.2))) else ((grammar_reader_may x27.2 (ByteArray.mk #[114, 101, 116, 117, 114, 110])).bind fun x34 => (bif x34.1 then ((grammar_reader_expr x34.2).bind fun x36 => ((grammar_reader_eat x36.2 ([(ByteArray.mk #[59])] : List ByteArray)).bind fun x37 => some ((⟨(8 : Int), ByteArray.empty, ByteArray.empty, ([x36.1] : List TApiExpr), [], [], x2.gAt⟩ : TApiStmt), x37))) else ((grammar_reader_may x34.2 (ByteArray.mk #[97, 115, 115, 101, 114, 116])).bind fun x39 => (bif x39.1 then ((grammar_reader_test x39.2).bind fun x42 => ((grammar_reader_eat x42.2 ([(ByteArray.mk #[59])] : List ByteArray)).bind fun x43 => some ((⟨(9 : Int), ByteArray.empty, ByteArray.empty, x42.1, [], [], x2.gAt⟩ : TApiStmt), x43))) else ((grammar_reader_fail x39.2 x39.2.gAt (3 : Int)).bind fun x45 => some ((⟨(0 : Int), ByteArray.empty, ByteArray.empty, [], [], [], x2.gAt⟩ : TApiStmt), x45))))))))))))))
set_option maxRecDepth 100000 in
set_option maxHeartbeats 2000000 in
theorem grammar_reader_stmt_b_ok (g0 : (TGrammarReader) → Option (TApiStmt × TGrammarReader)) (g1 : (TGrammarReader) → Option (List TApiStmt × TGrammarReader)) (hg0 : ∀ (m0 : TGrammarReader) (o0 : Nat) (T0 : TypeId) (c0_0 : Cap) (r : TApiStmt × TGrammarReader) (h0 : g0 m0 = some r), CallsD Try.prog 58 [.ptr o0 0] [(o0, Blk.cells [.lst 4 (m0.gL.map eTApiToken) c0_0, .v (.int .i64 m0.gAt), .v (.int .i64 m0.gE), .v (.int .i64 m0.gVars), .v (.int .i64 m0.gOpen)] T0)] [] (fun d h k => d = eTApiStmt r.1 ∧ h = [(o0, Blk.cells [.lst 4 (r.2.gL.map eTApiToken) .no, .v (.int .i64 r.2.gAt), .v (.int .i64 r.2.gE), .v (.int .i64 r.2.gVars), .v (.int .i64 r.2.gOpen)] T0)] ∧ k = [])) (hg1 : ∀ (m0 : TGrammarReader) (o0 : Nat) (T0 : TypeId) (c0_0 : Cap) (r : List TApiStmt × TGrammarReader) (h0 : g1 m0 = some r), CallsD Try.prog 45 [.ptr o0 0, .fn (.func 73) [] []] [(o0, Blk.cells [.lst 4 (m0.gL.map eTApiToken) c0_0, .v (.int .i64 m0.gAt), .v (.int .i64 m0.gE), .v (.int .i64 m0.gVars), .v (.int .i64 m0.gOpen)] T0)] [] (fun d h k => ∃ y0, d = .lst 7 (r.1.map eTApiStmt) (.cur y0) ∧ h = [(o0, Blk.cells [.lst 4 (r.2.gL.map eTApiToken) .no, .v (.int .i64 r.2.gAt), .v (.int .i64 r.2.gE), .v (.int .i64 r.2.gVars), .v (.int .i64 r.2.gOpen)] T0)] ∧ k = [(7, y0)])) (m0 : TGrammarReader) (o0 : Nat) (T0 : TypeId) (c0_0 : Cap) (r : TApiStmt × TGrammarReader) (h0 : grammar_reader_stmt_b g0 g1 m0 = some r) : CallsD Try.prog 58 [.ptr o0 0] [(o0, Blk.cells [.lst 4 (m0.gL.map eTApiToken) c0_0, .v (.int .i64 m0.gAt), .v (.int .i64 m0.gE), .v (.int .i64 m0.gVars), .v (.int .i64 m0.gOpen)] T0)] [] (fun d h k => d = eTApiStmt r.1 ∧ h = [(o0, Blk.cells [.lst 4 (r.2.gL.map eTApiToken) .no, .v (.int .i64 r.2.gAt), .v (.int .i64 r.2.gE), .v (.int .i64 r.2.gVars), .v (.int .i64 r.2.gOpen)] T0)] ∧ k = []) := by
  have hm := yes_of h0
  unfold grammar_reader_stmt_b at hm
  clear h0
  refine enterX htab Try.func58 rfl rfl rfl rfl rfl (fun C => ?_)
  refine wpD_sr ?_
  refine p_alloc htab rfl rfl rfl rfl rfl rfl rfl (fun b1 => ?_)
  refine ops_n2 ?_
  refine pu ?_
  obtain ⟨x2, q2, hm⟩ := yes_bind hm
  refine pG (grammar_reader_look_ok m0 (0 : Int) o0 T0 c0_0 x2 q2) Wl Pf Pf ?_
  rintro _ _ _ ⟨rfl, rfl, rfl⟩
  refine p_alloc htab rfl rfl rfl rfl rfl rfl rfl (fun b3 => ?_)
  refine pS2 (ds' := [.v (.int .i64 x2.gKind), .v (.string x2.gText), .v (.int .i64 x2.gN), .v (.int .i64 x2.gAt)]) ?_
  refine ops_n2 ?_
  refine pu ?_
  refine pL 2 ?_
  refine p_build (r := [.v (.int .i64 (0 : Int)), .v (.string ByteArray.empty), .v (.string ByteArray.empty), .lst 1 [] .full, .lst 1 [] .full, .lst 1 [] .full, .v (.int .i64 x2.gAt)]) htab rfl rfl rfl rfl rfl rfl rfl rfl rfl ?_
  refine p_alloc htab rfl rfl rfl rfl rfl rfl rfl (fun b4 => ?_)
  refine pS3 (ds' := [.v (.int .i64 (0 : Int)), .v (.string ByteArray.empty), .v (.string ByteArray.empty), .lst 1 [] .full, .lst 1 [] .full, .lst 1 [] .full, .v (.int .i64 x2.gAt)]) ?_
  refine ops_nt ?_
  refine wpD_seq ?_
  refine wpD_block ?_
  refine wpD_sr ?_
  refine pu ?_
  refine pL 2 ?_
  refine pu ?_
  refine pu ?_
  refine ops_nt ?_
  refine wpD_cond rfl (fun hc5 => ?_) (fun hc5 => ?_)
  ·replace hm := yes_t hc5 hm
   refine wpD_sr ?_
   refine pu ?_
   refine p_load (d := .agg [.v (.int .i64 (0 : Int)), .v (.string ByteArray.empty), .v (.string ByteArray.empty), .lst 1 [] .full, .lst 1 [] .full, .lst 1 [] .full, .v (.int .i64 x2.gAt)]) 3 htab rfl rfl rfl rfl rfl rfl rfl rfl ?_
   obtain ⟨x6, q6, hm⟩ := yes_bind hm
   refine p_callG (grammar_reader_named_ok m0 (⟨(0 : Int), ByteArray.empty, ByteArray.empty, [], [], [], x2.gAt⟩ : TApiStmt) o0 T0 c0_0 x6 q6) rfl rfl rfl rfl rfl (WkL.cons (Wk.refl _) (WkL.cons (Wk.trans (Wk.agg (rC (rC (rC (WkR.cons (WkC.nil) rfl (WkR.cons (WkC.nil) rfl (WkR.cons (WkC.nil) rfl (rC WkR.nil)))))))) (Wk.of_eq (eTApiStmt_eq (⟨(0 : Int), ByteArray.empty, ByteArray.empty, [], [], [], x2.gAt⟩ : TApiStmt)).symm)) Wl)) Pf Pf ?_
   rintro _ _ _ ⟨rfl, rfl, rfl⟩
   refine p_eq (i := 22) rfl (Wk.of_eq (eTApiStmt_eq x6.1)) ?_
   refine pS1 (ds' := [.v (.int .i64 x6.1.gOp), .v (.string x6.1.gName), .v (.string x6.1.gFunc), .lst 5 (x6.1.gExps.map eTApiExpr) .no, .lst 7 (x6.1.gKids.map eTApiStmt) .no, .lst 7 (x6.1.gElse.map eTApiStmt) .no, .v (.int .i64 x6.1.gAt)]) ?_
   refine ops_nt ?_
   refine wpD_ret ?_
   refine block_ret ?_
   refine then_ret ?_
   have er7 := yes_eq hm; subst er7
   refine rP (t' := [(2, .ptr b1 0)]) [0,0] [] 1 (wC wN) (lC 1 lN) ?_
   exact ⟨by first | rfl | (simp only [wrapD, eTApiStmt_eq]; done) | (simp only [wrapD, eTApiStmt_eq]; rfl), rfl, rfl⟩
  ·replace hm := yes_f hc5 hm
   refine wpD_sr ?_
   refine pu ?_
   obtain ⟨x8, q8, hm⟩ := yes_bind hm
   refine pG (grammar_reader_may_ok m0 (ByteArray.mk #[42]) o0 T0 c0_0 x8 q8) Wl Pf Pf ?_
   rintro _ _ _ ⟨rfl, rfl, rfl⟩
   refine pu ?_
   refine ops_nt ?_
   refine wpD_cond rfl (fun hc9 => ?_) (fun hc9 => ?_)
   ·replace hm := yes_t hc9 hm
    refine wpD_sr ?_
    refine pu ?_
    obtain ⟨x10, q10, hm⟩ := yes_bind hm
    refine pG (grammar_reader_name_ok x8.2 o0 T0 c0_0 x10 q10) Wl Pf Pf ?_
    rintro _ _ _ ⟨rfl, rfl, rfl⟩
    refine pu ?_
    refine pS3 (ds' := [.v (.int .i64 (3 : Int)), .v (.string ByteArray.empty), .v (.string ByteArray.empty), .lst 1 [] .full, .lst 1 [] .full, .lst 1 [] .full, .v (.int .i64 x2.gAt)]) ?_
    refine pu ?_
    refine pS3 (ds' := [.v (.int .i64 (3 : Int)), .v (.string x10.1), .v (.string ByteArray.empty), .lst 1 [] .full, .lst 1 [] .full, .lst 1 [] .full, .v (.int .i64 x2.gAt)]) ?_
    refine ops_n2 ?_
    refine pu ?_
    refine p_lit htab rfl rfl rfl rfl rfl rfl rfl rfl rfl rfl rfl rfl rfl rfl ?_
    refine p_eq (i := 31) (d' := .lst 1 (([(ByteArray.mk #[61])] : List ByteArray).map eStr) .full) rfl (Wk.lst0 (.cons (WkC.refl _) (.nil))) ?_
    obtain ⟨x11, q11, hm⟩ := yes_bind hm
    refine p_callG (grammar_reader_eat_ok x10.2 ([(ByteArray.mk #[61])] : List ByteArray) o0 T0 c0_0 x11 q11) rfl rfl rfl rfl rfl (WkL.cons (Wk.refl _) (WkL.cons (Wk.no) Wl)) Pf Pf ?_
    rintro _ _ _ ⟨rfl, rfl, rfl⟩
    refine ops_n2 ?_
    refine pu ?_
    obtain ⟨x12, q12, hm⟩ := yes_bind hm
    refine pG (grammar_reader_expr_ok x11 o0 T0 c0_0 x12 q12) Wl Pf Pf ?_
    rintro _ _ _ ⟨rfl, rfl, rfl⟩
    refine p_eq (i := 34) rfl (Wk.of_eq (eTApiExpr_eq x12.1)) ?_
    refine p_lit htab rfl rfl rfl rfl rfl rfl rfl rfl rfl rfl rfl rfl rfl rfl ?_
    refine p_eq (i := 35) (d' := .lst 5 (([x12.1] : List TApiExpr).map eTApiExpr) .full) rfl (Wk.lst0 (.cons (WkC.trans (WkC.agg (WkR.refl _)) (WkC.of_eq (eTApiExpr_eq x12.1).symm)) (.nil))) ?_
    refine pu ?_
    refine pS3 (ds' := [.v (.int .i64 (3 : Int)), .v (.string x10.1), .v (.string ByteArray.empty), .lst 5 (([x12.1] : List TApiExpr).map eTApiExpr) .full, .lst 1 [] .full, .lst 1 [] .full, .v (.int .i64 x2.gAt)]) ?_
    refine ops_nt ?_
    refine wpD_region ?_
    refine pu ?_
    refine p_lit htab rfl rfl rfl rfl rfl rfl rfl rfl rfl rfl rfl rfl rfl rfl ?_
    refine p_eq (i := 38) (d' := .lst 1 (([(ByteArray.mk #[59])] : List ByteArray).map eStr) .full) rfl (Wk.lst0 (.cons (WkC.refl _) (.nil))) ?_
    obtain ⟨x13, q13, hm⟩ := yes_bind hm
    refine p_callG (grammar_reader_eat_ok x12.2 ([(ByteArray.mk #[59])] : List ByteArray) o0 T0 c0_0 x13 q13) rfl rfl rfl rfl rfl (WkL.cons (Wk.refl _) (WkL.cons (Wk.no) Wl)) Pf Pf ?_
    rintro _ _ _ ⟨rfl, rfl, rfl⟩
    refine ops_nil ?_
    refine block_normal ?_
    refine then_normal ?_
    refine wpD_sr ?_
    refine p_load (d := .agg [.v (.int .i64 (3 : Int)), .v (.string x10.1), .v (.string ByteArray.empty), .lst 5 (([x12.1] : List TApiExpr).map eTApiExpr) .full, .lst 1 [] .full, .lst 1 [] .full, .v (.int .i64 x2.gAt)]) 3 htab rfl rfl rfl rfl rfl rfl rfl rfl ?_
    refine pS1 (ds' := [.v (.int .i64 (3 : Int)), .v (.string x10.1), .v (.string ByteArray.empty), .lst 5 (([x12.1] : List TApiExpr).map eTApiExpr) .full, .lst 1 [] .full, .lst 1 [] .full, .v (.int .i64 x2.gAt)]) ?_
    refine ops_nt ?_
    refine wpD_ret ?_
    have er14 := yes_eq hm; subst er14
    refine retX.wk (WkS.bl1 (ds' := [.v (.int .i64 (3 : Int)), .v (.string x10.1), .v (.string ByteArray.empty), .lst 5 (([x12.1] : List TApiExpr).map eTApiExpr) .no, .lst 7 (([] : List TApiStmt).map eTApiStmt) .no, .lst 7 (([] : List TApiStmt).map eTApiStmt) .no, .v (.int .i64 x2.gAt)]) (rC (rC (rC (rO (WkR.cons (WkC.nil) rfl (WkR.cons (WkC.nil) rfl (rC WkR.nil)))))))) ?_
    refine retX.wk (WkS.bl0 (ds' := [.lst 4 (x13.gL.map eTApiToken) .no, .v (.int .i64 x13.gAt), .v (.int .i64 x13.gE), .v (.int .i64 x13.gVars), .v (.int .i64 x13.gOpen)]) (rO (rC (rC (rC (rC WkR.nil)))))) ?_
    refine rP (t' := [(2, .ptr b1 0)]) [0,0] [] 1 (wC wN) (lC 1 lN) ?_
    exact ⟨by first | rfl | (simp only [wrapD, eTApiStmt_eq]; done) | (simp only [wrapD, eTApiStmt_eq]; rfl), rfl, rfl⟩
   ·replace hm := yes_f hc9 hm
    refine wpD_sr ?_
    refine pu ?_
    obtain ⟨x15, q15, hm⟩ := yes_bind hm
    refine pG (grammar_reader_may_ok x8.2 (ByteArray.mk #[105, 102]) o0 T0 c0_0 x15 q15) Wl Pf Pf ?_
    rintro _ _ _ ⟨rfl, rfl, rfl⟩
    refine pu ?_
    refine ops_nt ?_
    refine wpD_cond rfl (fun hc16 => ?_) (fun hc16 => ?_)
    ·replace hm := yes_t hc16 hm
     refine wpD_sr ?_
     refine pu ?_
     obtain ⟨x18, q18, hm⟩ := yes_bind hm
     refine pG (grammar_reader_test_ok x15.2 o0 T0 c0_0 x18 q18) Wl Pf Pf ?_
     rintro _ _ _ ⟨w17, rfl, rfl, rfl⟩
     refine pu ?_
     refine pS3 (ds' := [.v (.int .i64 (6 : Int)), .v (.string ByteArray.empty), .v (.string ByteArray.empty), .lst 1 [] .full, .lst 1 [] .full, .lst 1 [] .full, .v (.int .i64 x2.gAt)]) ?_
     refine pu ?_
     refine pS3 (ds' := [.v (.int .i64 (6 : Int)), .v (.string ByteArray.empty), .v (.string ByteArray.empty), .lst 5 (x18.1.map eTApiExpr) (.cur w17), .lst 1 [] .full, .lst 1 [] .full, .v (.int .i64 x2.gAt)]) ?_
     refine ops_n2 ?_
     refine pu ?_
     obtain ⟨x20, q20, hm⟩ := yes_bind hm
     refine pG (hg1 x18.2 o0 T0 c0_0 x20 q20) Wl Pf Pf ?_
     rintro _ _ _ ⟨w19, rfl, rfl, rfl⟩
     refine pu ?_
     refine pS3 (ds' := [.v (.int .i64 (6 : Int)), .v (.string ByteArray.empty), .v (.string ByteArray.empty), .lst 5 (x18.1.map eTApiExpr) (.cur w17), .lst 7 (x20.1.map eTApiStmt) (.cur w19), .lst 1 [] .full, .v (.int .i64 x2.gAt)]) ?_
     refine ops_n2 ?_
     refine pu ?_
     obtain ⟨x21, q21, hm⟩ := yes_bind hm
     refine pG (grammar_reader_may_ok x20.2 (ByteArray.mk #[101, 108, 115, 101]) o0 T0 .no x21 q21) Wl Pf Pf ?_
     rintro _ _ _ ⟨rfl, rfl, rfl⟩
     refine ops_nt ?_
     refine wpD_cond rfl (fun hc22 => ?_) (fun hc22 => ?_)
     ·replace hm := yes_t hc22 hm
      refine wpD_region ?_
      refine pu ?_
      obtain ⟨x24, q24, hm⟩ := yes_bind hm
      refine pG (hg1 x21.2 o0 T0 .no x24 q24) Wl Pf Pf ?_
      rintro _ _ _ ⟨w23, rfl, rfl, rfl⟩
      refine pu ?_
      refine pS3 (ds' := [.v (.int .i64 (6 : Int)), .v (.string ByteArray.empty), .v (.string ByteArray.empty), .lst 5 (x18.1.map eTApiExpr) (.cur w17), .lst 7 (x20.1.map eTApiStmt) (.cur w19), .lst 7 (x24.1.map eTApiStmt) (.cur w23), .v (.int .i64 x2.gAt)]) ?_
      refine ops_nil ?_
      refine block_normal ?_
      refine then_normal ?_
      refine wpD_sr ?_
      refine p_load (d := .agg [.v (.int .i64 (6 : Int)), .v (.string ByteArray.empty), .v (.string ByteArray.empty), .lst 5 (x18.1.map eTApiExpr) (.cur w17), .lst 7 (x20.1.map eTApiStmt) (.cur w19), .lst 7 (x24.1.map eTApiStmt) (.cur w23), .v (.int .i64 x2.gAt)]) 3 htab rfl rfl rfl rfl rfl rfl rfl rfl ?_
      refine pS1 (ds' := [.v (.int .i64 (6 : Int)), .v (.string ByteArray.empty), .v (.string ByteArray.empty), .lst 5 (x18.1.map eTApiExpr) (.cur w17), .lst 7 (x20.1.map eTApiStmt) (.cur w19), .lst 7 (x24.1.map eTApiStmt) (.cur w23), .v (.int .i64 x2.gAt)]) ?_
      refine ops_nt ?_
      refine wpD_ret ?_
      have er25 := yes_eq hm; subst er25
      refine retX.wk (WkS.bl1 (ds' := [.v (.int .i64 (6 : Int)), .v (.string ByteArray.empty), .v (.string ByteArray.empty), .lst 5 (x18.1.map eTApiExpr) .no, .lst 7 (x20.1.map eTApiStmt) .no, .lst 7 (x24.1.map eTApiStmt) .no, .v (.int .i64 x2.gAt)]) (rC (rC (rC (rO (rO (rO (rC WkR.nil)))))))) ?_
      refine rP (t' := [(2, .ptr b1 0)]) [0,0] [] 1 (wC wN) (lC 1 lN) ?_
      exact ⟨by first | rfl | (simp only [wrapD, eTApiStmt_eq]; done) | (simp only [wrapD, eTApiStmt_eq]; rfl), rfl, rfl⟩
     ·replace hm := yes_f hc22 hm
      refine wpD_skip ?_
      refine block_normal ?_
      refine then_normal ?_
      refine wpD_sr ?_
      refine p_load (d := .agg [.v (.int .i64 (6 : Int)), .v (.string ByteArray.empty), .v (.string ByteArray.empty), .lst 5 (x18.1.map eTApiExpr) (.cur w17), .lst 7 (x20.1.map eTApiStmt) (.cur w19), .lst 1 [] .full, .v (.int .i64 x2.gAt)]) 3 htab rfl rfl rfl rfl rfl rfl rfl rfl ?_
      refine pS1 (ds' := [.v (.int .i64 (6 : Int)), .v (.string ByteArray.empty), .v (.string ByteArray.empty), .lst 5 (x18.1.map eTApiExpr) (.cur w17), .lst 7 (x20.1.map eTApiStmt) (.cur w19), .lst 1 [] .full, .v (.int .i64 x2.gAt)]) ?_
      refine ops_nt ?_
      refine wpD_ret ?_
      have er26 := yes_eq hm; subst er26
      refine retX.wk (WkS.bl1 (ds' := [.v (.int .i64 (6 : Int)), .v (.string ByteArray.empty), .v (.string ByteArray.empty), .lst 5 (x18.1.map eTApiExpr) .no, .lst 7 (x20.1.map eTApiStmt) .no, .lst 7 (([] : List TApiStmt).map eTApiStmt) .no, .v (.int .i64 x2.gAt)]) (rC (rC (rC (rO (rO (WkR.cons (WkC.nil) rfl (rC WkR.nil)))))))) ?_
      refine rP (t' := [(2, .ptr b1 0)]) [0,0] [] 1 (wC wN) (lC 1 lN) ?_
      exact ⟨by first | rfl | (simp only [wrapD, eTApiStmt_eq]; done) | (simp only [wrapD, eTApiStmt_eq]; rfl), rfl, rfl⟩
    ·replace hm := yes_f hc16 hm
     refine wpD_sr ?_
     refine pu ?_
     obtain ⟨x27, q27, hm⟩ := yes_bind hm
     refine pG (grammar_reader_may_ok x15.2 (ByteArray.mk #[119, 104, 105, 108, 101]) o0 T0 c0_0 x27 q27) Wl Pf Pf ?_
     rintro _ _ _ ⟨rfl, rfl, rfl⟩
     refine pu ?_
     refine ops_nt ?_
     refine wpD_cond rfl (fun hc28 => ?_) (fun hc28 => ?_)
     ·replace hm := yes_t hc28 hm
      refine wpD_sr ?_
      refine pu ?_
      obtain ⟨x30, q30, hm⟩ := yes_bind hm
      refine pG (grammar_reader_test_ok x27.2 o0 T0 c0_0 x30 q30) Wl Pf Pf ?_
      rintro _ _ _ ⟨w29, rfl, rfl, rfl⟩
      refine pu ?_
      refine pS3 (ds' := [.v (.int .i64 (7 : Int)), .v (.string ByteArray.empty), .v (.string ByteArray.empty), .lst 1 [] .full, .lst 1 [] .full, .lst 1 [] .full, .v (.int .i64 x2.gAt)]) ?_
      refine pu ?_
      refine pS3 (ds' := [.v (.int .i64 (7 : Int)), .v (.string ByteArray.empty), .v (.string ByteArray.empty), .lst 5 (x30.1.map eTApiExpr) (.cur w29), .lst 1 [] .full, .lst 1 [] .full, .v (.int .i64 x2.gAt)]) ?_
      refine ops_nt ?_
      refine wpD_region ?_
      refine pu ?_
      obtain ⟨x32, q32, hm⟩ := yes_bind hm
      refine pG (hg1 x30.2 o0 T0 c0_0 x32 q32) Wl Pf Pf ?_
      rintro _ _ _ ⟨w31, rfl, rfl, rfl⟩
      refine pu ?_
      refine pS3 (ds' := [.v (.int .i64 (7 : Int)), .v (.string ByteArray.empty), .v (.string ByteArray.empty), .lst 5 (x30.1.map eTApiExpr) (.cur w29), .lst 7 (x32.1.map eTApiStmt) (.cur w31), .lst 1 [] .full, .v (.int .i64 x2.gAt)]) ?_
      refine ops_nil ?_
      refine block_normal ?_
      refine then_normal ?_
      refine wpD_sr ?_
      refine p_load (d := .agg [.v (.int .i64 (7 : Int)), .v (.string ByteArray.empty), .v (.string ByteArray.empty), .lst 5 (x30.1.map eTApiExpr) (.cur w29), .lst 7 (x32.1.map eTApiStmt) (.cur w31), .lst 1 [] .full, .v (.int .i64 x2.gAt)]) 3 htab rfl rfl rfl rfl rfl rfl rfl rfl ?_
      refine pS1 (ds' := [.v (.int .i64 (7 : Int)), .v (.string ByteArray.empty), .v (.string ByteArray.empty), .lst 5 (x30.1.map eTApiExpr) (.cur w29), .lst 7 (x32.1.map eTApiStmt) (.cur w31), .lst 1 [] .full, .v (.int .i64 x2.gAt)]) ?_
      refine ops_nt ?_
      refine wpD_ret ?_
      have er33 := yes_eq hm; subst er33
      refine retX.wk (WkS.bl1 (ds' := [.v (.int .i64 (7 : Int)), .v (.string ByteArray.empty), .v (.string ByteArray.empty), .lst 5 (x30.1.map eTApiExpr) .no, .lst 7 (x32.1.map eTApiStmt) .no, .lst 7 (([] : List TApiStmt).map eTApiStmt) .no, .v (.int .i64 x2.gAt)]) (rC (rC (rC (rO (rO (WkR.cons (WkC.nil) rfl (rC WkR.nil)))))))) ?_
      refine rP (t' := [(2, .ptr b1 0)]) [0,0] [] 1 (wC wN) (lC 1 lN) ?_
      exact ⟨by first | rfl | (simp only [wrapD, eTApiStmt_eq]; done) | (simp only [wrapD, eTApiStmt_eq]; rfl), rfl, rfl⟩
     ·replace hm := yes_f hc28 hm
      refine wpD_sr ?_
      refine pu ?_
      obtain ⟨x34, q34, hm⟩ := yes_bind hm
      refine pG (grammar_reader_may_ok x27.2 (ByteArray.mk #[114, 101, 116, 117, 114, 110]) o0 T0 c0_0 x34 q34) Wl Pf Pf ?_
      rintro _ _ _ ⟨rfl, rfl, rfl⟩
      refine pu ?_
      refine ops_nt ?_
      refine wpD_cond rfl (fun hc35 => ?_) (fun hc35 => ?_)
      ·replace hm := yes_t hc35 hm
       refine wpD_sr ?_
       refine pu ?_
       obtain ⟨x36, q36, hm⟩ := yes_bind hm
       refine pG (grammar_reader_expr_ok x34.2 o0 T0 c0_0 x36 q36) Wl Pf Pf ?_
       rintro _ _ _ ⟨rfl, rfl, rfl⟩
       refine p_eq (i := 69) rfl (Wk.of_eq (eTApiExpr_eq x36.1)) ?_
       refine p_lit htab rfl rfl rfl rfl rfl rfl rfl rfl rfl rfl rfl rfl rfl rfl ?_
       refine p_eq (i := 70) (d' := .lst 5 (([x36.1] : List TApiExpr).map eTApiExpr) .full) rfl (Wk.lst0 (.cons (WkC.trans (WkC.agg (WkR.refl _)) (WkC.of_eq (eTApiExpr_eq x36.1).symm)) (.nil))) ?_
       refine pu ?_
       refine pS3 (ds' := [.v (.int .i64 (8 : Int)), .v (.string ByteArray.empty), .v (.string ByteArray.empty), .lst 1 [] .full, .lst 1 [] .full, .lst 1 [] .full, .v (.int .i64 x2.gAt)]) ?_
       refine pu ?_
       refine pS3 (ds' := [.v (.int .i64 (8 : Int)), .v (.string ByteArray.empty), .v (.string ByteArray.empty), .lst 5 (([x36.1] : List TApiExpr).map eTApiExpr) .full, .lst 1 [] .full, .lst 1 [] .full, .v (.int .i64 x2.gAt)]) ?_
       refine ops_nt ?_
       refine wpD_region ?_
       refine pu ?_
       refine p_lit htab rfl rfl rfl rfl rfl rfl rfl rfl rfl rfl rfl rfl rfl rfl ?_
       refine p_eq (i := 74) (d' := .lst 1 (([(ByteArray.mk #[59])] : List ByteArray).map eStr) .full) rfl (Wk.lst0 (.cons (WkC.refl _) (.nil))) ?_
       obtain ⟨x37, q37, hm⟩ := yes_bind hm
       refine p_callG (grammar_reader_eat_ok x36.2 ([(ByteArray.mk #[59])] : List ByteArray) o0 T0 c0_0 x37 q37) rfl rfl rfl rfl rfl (WkL.cons (Wk.refl _) (WkL.cons (Wk.no) Wl)) Pf Pf ?_
       rintro _ _ _ ⟨rfl, rfl, rfl⟩
       refine ops_nil ?_
       refine block_normal ?_
       refine then_normal ?_
       refine wpD_sr ?_
       refine p_load (d := .agg [.v (.int .i64 (8 : Int)), .v (.string ByteArray.empty), .v (.string ByteArray.empty), .lst 5 (([x36.1] : List TApiExpr).map eTApiExpr) .full, .lst 1 [] .full, .lst 1 [] .full, .v (.int .i64 x2.gAt)]) 3 htab rfl rfl rfl rfl rfl rfl rfl rfl ?_
       refine pS1 (ds' := [.v (.int .i64 (8 : Int)), .v (.string ByteArray.empty), .v (.string ByteArray.empty), .lst 5 (([x36.1] : List TApiExpr).map eTApiExpr) .full, .lst 1 [] .full, .lst 1 [] .full, .v (.int .i64 x2.gAt)]) ?_
       refine ops_nt ?_
       refine wpD_ret ?_
       have er38 := yes_eq hm; subst er38
       refine retX.wk (WkS.bl1 (ds' := [.v (.int .i64 (8 : Int)), .v (.string ByteArray.empty), .v (.string ByteArray.empty), .lst 5 (([x36.1] : List TApiExpr).map eTApiExpr) .no, .lst 7 (([] : List TApiStmt).map eTApiStmt) .no, .lst 7 (([] : List TApiStmt).map eTApiStmt) .no, .v (.int .i64 x2.gAt)]) (rC (rC (rC (rO (WkR.cons (WkC.nil) rfl (WkR.cons (WkC.nil) rfl (rC WkR.nil)))))))) ?_
       refine retX.wk (WkS.bl0 (ds' := [.lst 4 (x37.gL.map eTApiToken) .no, .v (.int .i64 x37.gAt), .v (.int .i64 x37.gE), .v (.int .i64 x37.gVars), .v (.int .i64 x37.gOpen)]) (rO (rC (rC (rC (rC WkR.nil)))))) ?_
       refine rP (t' := [(2, .ptr b1 0)]) [0,0] [] 1 (wC wN) (lC 1 lN) ?_
       exact ⟨by first | rfl | (simp only [wrapD, eTApiStmt_eq]; done) | (simp only [wrapD, eTApiStmt_eq]; rfl), rfl, rfl⟩
      ·replace hm := yes_f hc35 hm
       refine wpD_sr ?_
       refine pu ?_
       obtain ⟨x39, q39, hm⟩ := yes_bind hm
       refine pG (grammar_reader_may_ok x34.2 (ByteArray.mk #[97, 115, 115, 101, 114, 116]) o0 T0 c0_0 x39 q39) Wl Pf Pf ?_
       rintro _ _ _ ⟨rfl, rfl, rfl⟩
       refine pu ?_
       refine ops_nt ?_
       refine wpD_cond rfl (fun hc40 => ?_) (fun hc40 => ?_)
       ·replace hm := yes_t hc40 hm
        refine wpD_sr ?_
        refine pu ?_
        obtain ⟨x42, q42, hm⟩ := yes_bind hm
        refine pG (grammar_reader_test_ok x39.2 o0 T0 c0_0 x42 q42) Wl Pf Pf ?_
        rintro _ _ _ ⟨w41, rfl, rfl, rfl⟩
        refine pu ?_
        refine pS3 (ds' := [.v (.int .i64 (9 : Int)), .v (.string ByteArray.empty), .v (.string ByteArray.empty), .lst 1 [] .full, .lst 1 [] .full, .lst 1 [] .full, .v (.int .i64 x2.gAt)]) ?_
        refine pu ?_
        refine pS3 (ds' := [.v (.int .i64 (9 : Int)), .v (.string ByteArray.empty), .v (.string ByteArray.empty), .lst 5 (x42.1.map eTApiExpr) (.cur w41), .lst 1 [] .full, .lst 1 [] .full, .v (.int .i64 x2.gAt)]) ?_
        refine ops_nt ?_
        refine wpD_region ?_
        refine pu ?_
        refine p_lit htab rfl rfl rfl rfl rfl rfl rfl rfl rfl rfl rfl rfl rfl rfl ?_
        refine p_eq (i := 84) (d' := .lst 1 (([(ByteArray.mk #[59])] : List ByteArray).map eStr) .full) rfl (Wk.lst0 (.cons (WkC.refl _) (.nil))) ?_
        obtain ⟨x43, q43, hm⟩ := yes_bind hm
        refine p_callG (grammar_reader_eat_ok x42.2 ([(ByteArray.mk #[59])] : List ByteArray) o0 T0 c0_0 x43 q43) rfl rfl rfl rfl rfl (WkL.cons (Wk.refl _) (WkL.cons (Wk.no) Wl)) Pf Pf ?_
        rintro _ _ _ ⟨rfl, rfl, rfl⟩
        refine ops_nil ?_
        refine block_normal ?_
        refine then_normal ?_
        refine wpD_sr ?_
        refine p_load (d := .agg [.v (.int .i64 (9 : Int)), .v (.string ByteArray.empty), .v (.string ByteArray.empty), .lst 5 (x42.1.map eTApiExpr) (.cur w41), .lst 1 [] .full, .lst 1 [] .full, .v (.int .i64 x2.gAt)]) 3 htab rfl rfl rfl rfl rfl rfl rfl rfl ?_
        refine pS1 (ds' := [.v (.int .i64 (9 : Int)), .v (.string ByteArray.empty), .v (.string ByteArray.empty), .lst 5 (x42.1.map eTApiExpr) (.cur w41), .lst 1 [] .full, .lst 1 [] .full, .v (.int .i64 x2.gAt)]) ?_
        refine ops_nt ?_
        refine wpD_ret ?_
        have er44 := yes_eq hm; subst er44
        refine retX.wk (WkS.bl1 (ds' := [.v (.int .i64 (9 : Int)), .v (.string ByteArray.empty), .v (.string ByteArray.empty), .lst 5 (x42.1.map eTApiExpr) .no, .lst 7 (([] : List TApiStmt).map eTApiStmt) .no, .lst 7 (([] : List TApiStmt).map eTApiStmt) .no, .v (.int .i64 x2.gAt)]) (rC (rC (rC (rO (WkR.cons (WkC.nil) rfl (WkR.cons (WkC.nil) rfl (rC WkR.nil)))))))) ?_
        refine retX.wk (WkS.bl0 (ds' := [.lst 4 (x43.gL.map eTApiToken) .no, .v (.int .i64 x43.gAt), .v (.int .i64 x43.gE), .v (.int .i64 x43.gVars), .v (.int .i64 x43.gOpen)]) (rO (rC (rC (rC (rC WkR.nil)))))) ?_
        refine rP (t' := [(2, .ptr b1 0)]) [0,0] [] 1 (wC wN) (lC 1 lN) ?_
        exact ⟨by first | rfl | (simp only [wrapD, eTApiStmt_eq]; done) | (simp only [wrapD, eTApiStmt_eq]; rfl), rfl, rfl⟩
       ·replace hm := yes_f hc40 hm
        refine wpD_region ?_
        iterate 4 refine pu ?_
        refine pL 0 ?_
        obtain ⟨x45, q45, hm⟩ := yes_bind hm
        refine pG (grammar_reader_fail_ok x39.2 x39.2.gAt (3 : Int) o0 T0 c0_0 x45 q45) Wl Pf Pf ?_
        rintro _ _ _ ⟨rfl, rfl, rfl⟩
        refine ops_nil ?_
        refine block_normal ?_
        refine then_normal ?_
        refine wpD_sr ?_
        refine p_load (d := .agg [.v (.int .i64 (0 : Int)), .v (.string ByteArray.empty), .v (.string ByteArray.empty), .lst 1 [] .full, .lst 1 [] .full, .lst 1 [] .full, .v (.int .i64 x2.gAt)]) 3 htab rfl rfl rfl rfl rfl rfl rfl rfl ?_
        refine pS1 (ds' := [.v (.int .i64 (0 : Int)), .v (.string ByteArray.empty), .v (.string ByteArray.empty), .lst 1 [] .full, .lst 1 [] .full, .lst 1 [] .full, .v (.int .i64 x2.gAt)]) ?_
        refine ops_nt ?_
        refine wpD_ret ?_
        have er46 := yes_eq hm; subst er46
        refine retX.wk (WkS.bl1 (ds' := [.v (.int .i64 (0 : Int)), .v (.string ByteArray.empty), .v (.string ByteArray.empty), .lst 5 (([] : List TApiExpr).map eTApiExpr) .no, .lst 7 (([] : List TApiStmt).map eTApiStmt) .no, .lst 7 (([] : List TApiStmt).map eTApiStmt) .no, .v (.int .i64 x2.gAt)]) (rC (rC (rC (WkR.cons (WkC.nil) rfl (WkR.cons (WkC.nil) rfl (WkR.cons (WkC.nil) rfl (rC WkR.nil)))))))) ?_
        refine retX.wk (WkS.bl0 (ds' := [.lst 4 (x45.gL.map eTApiToken) .no, .v (.int .i64 x45.gAt), .v (.int .i64 x45.gE), .v (.int .i64 x45.gVars), .v (.int .i64 x45.gOpen)]) (rO (rC (rC (rC (rC WkR.nil)))))) ?_
        refine rP (t' := [(2, .ptr b1 0)]) [0,0] [] 1 (wC wN) (lC 1 lN) ?_
        exact ⟨by first | rfl | (simp only [wrapD, eTApiStmt_eq]; done) | (simp only [wrapD, eTApiStmt_eq]; rfl), rfl, rfl⟩
noncomputable def grammar_reader_block2_b (g0 : (TGrammarReader) → Option (TApiStmt × TGrammarReader)) (g1 : (TGrammarReader) → Option (List TApiStmt × TGrammarReader)) (m0 : TGrammarReader) : Option (List TApiStmt × TGrammarReader) :=
  ((grammar_reader_eat m0 ([(ByteArray.mk #[123])] : List ByteArray)).bind fun x1 => (Option.bind (α := List TApiToken × Int × Int × Int × Int) (bif (decide ((24 : Int) ≤ x1.gOpen)) then ((grammar_reader_fail x1 m0.gAt (5 : Int)).bind fun x6 => some (x6.gL, x6.gAt, x6.gE, x6.gVars, x6.gOpen)) else some (x1.gL, x1.gAt, x1.gE, x1.gVars, x1.gOpen)) fun y4 => (grammar_nothing.bind fun x7 => (Option.bind (α := List TApiStmt × List TApiToken × Int × Int × Int × Int) (loopM (fun (s38 : List TApiStmt × List TApiToken × Int × Int × Int × Int) => (Option.bind (α := Bool × List TApiToken × Int × Int × Int × Int) (bif (s38.2.2.2.1 == (0 : Int)) then ((grammar_reader_may (⟨s38.2.1, s38.2.2.1, s38.2.2.2.1, s38.2.2.2.2.1, s38.2.2.2.2.2⟩ : TGrammarReader) (ByteArray.mk #[125])).bind fun x62 => some ((!x62.1), x62.2.gL, x62.2.gAt, x62.2.gE, x62.2.gVars, x62.2.gOpen)) else some (false, s38.2.1, s38.2.2.1, s38.2.2.2.1, s38.2.2.2.2.1, s38.2.2.2.2.2)) fun y60 => (bif y60.1 then ((g0 (⟨y60.2.1, y60.2.2.1, y60.2.2.2.1, y60.2.2.2.2.1, y60.2.2.2.2.2⟩ : TGrammarReader)).bind fun x64 => ((app 120 s38.1 ([x64.1] : List TApiStmt)).bind fun x65 => some (.next (x65, x64.2.gL, x64.2.gAt, x64.2.gE, x64.2.gVars, x64.2.gOpen)))) else some (.done (s38.1, y60.2.1, y60.2.2.1, y60.2.2.2.1, y60.2.2.2.2.1, y60.2.2.2.2.2))))) (([] : List TApiStmt), y4.1, y4.2.1, y4.2.2.1, y4.2.2.2.1, (IntKind.i64.wrap (y4.2.2.2.2 + (1 : Int))))) fun y37 => some (y37.1, (⟨y37.2.1, y37.2.2.1, y37.2.2.2.1, y37.2.2.2.2.1, (IntKind.i64.wrap (y37.2.2.2.2.2 - (1 : Int)))⟩ : TGrammarReader))))))
set_option maxRecDepth 100000 in
set_option maxHeartbeats 2000000 in
theorem grammar_reader_block2_b_ok (g0 : (TGrammarReader) → Option (TApiStmt × TGrammarReader)) (g1 : (TGrammarReader) → Option (List TApiStmt × TGrammarReader)) (hg0 : ∀ (m0 : TGrammarReader) (o0 : Nat) (T0 : TypeId) (c0_0 : Cap) (r : TApiStmt × TGrammarReader) (h0 : g0 m0 = some r), CallsD Try.prog 58 [.ptr o0 0] [(o0, Blk.cells [.lst 4 (m0.gL.map eTApiToken) c0_0, .v (.int .i64 m0.gAt), .v (.int .i64 m0.gE), .v (.int .i64 m0.gVars), .v (.int .i64 m0.gOpen)] T0)] [] (fun d h k => d = eTApiStmt r.1 ∧ h = [(o0, Blk.cells [.lst 4 (r.2.gL.map eTApiToken) .no, .v (.int .i64 r.2.gAt), .v (.int .i64 r.2.gE), .v (.int .i64 r.2.gVars), .v (.int .i64 r.2.gOpen)] T0)] ∧ k = [])) (hg1 : ∀ (m0 : TGrammarReader) (o0 : Nat) (T0 : TypeId) (c0_0 : Cap) (r : List TApiStmt × TGrammarReader) (h0 : g1 m0 = some r), CallsD Try.prog 45 [.ptr o0 0, .fn (.func 73) [] []] [(o0, Blk.cells [.lst 4 (m0.gL.map eTApiToken) c0_0, .v (.int .i64 m0.gAt), .v (.int .i64 m0.gE), .v (.int .i64 m0.gVars), .v (.int .i64 m0.gOpen)] T0)] [] (fun d h k => ∃ y0, d = .lst 7 (r.1.map eTApiStmt) (.cur y0) ∧ h = [(o0, Blk.cells [.lst 4 (r.2.gL.map eTApiToken) .no, .v (.int .i64 r.2.gAt), .v (.int .i64 r.2.gE), .v (.int .i64 r.2.gVars), .v (.int .i64 r.2.gOpen)] T0)] ∧ k = [(7, y0)])) (m0 : TGrammarReader) (o0 : Nat) (T0 : TypeId) (c0_0 : Cap) (r : List TApiStmt × TGrammarReader) (h0 : grammar_reader_block2_b g0 g1 m0 = some r) : CallsD Try.prog 45 [.ptr o0 0, .fn (.func 73) [] []] [(o0, Blk.cells [.lst 4 (m0.gL.map eTApiToken) c0_0, .v (.int .i64 m0.gAt), .v (.int .i64 m0.gE), .v (.int .i64 m0.gVars), .v (.int .i64 m0.gOpen)] T0)] [] (fun d h k => ∃ y0, d = .lst 7 (r.1.map eTApiStmt) (.cur y0) ∧ h = [(o0, Blk.cells [.lst 4 (r.2.gL.map eTApiToken) .no, .v (.int .i64 r.2.gAt), .v (.int .i64 r.2.gE), .v (.int .i64 r.2.gVars), .v (.int .i64 r.2.gOpen)] T0)] ∧ k = [(7, y0)]) := by
  have hm := yes_of h0
  unfold grammar_reader_block2_b at hm
  clear h0
  refine enterX htab Try.func45 rfl rfl rfl rfl rfl (fun C => ?_)
  refine wpD_sr ?_
  refine pu ?_
  refine ops_n2 ?_
  iterate 3 refine pu ?_
  refine pL 0 ?_
  refine pu ?_
  refine ops_n2 ?_
  refine pu ?_
  refine p_lit htab rfl rfl rfl rfl rfl rfl rfl rfl rfl rfl rfl rfl rfl rfl ?_
  refine p_eq (i := 12) (d' := .lst 1 (([(ByteArray.mk #[123])] : List ByteArray).map eStr) .full) rfl (Wk.lst0 (.cons (WkC.refl _) (.nil))) ?_
  obtain ⟨x1, q1, hm⟩ := yes_bind hm
  refine p_callG (grammar_reader_eat_ok m0 ([(ByteArray.mk #[123])] : List ByteArray) o0 T0 c0_0 x1 q1) rfl rfl rfl rfl rfl (WkL.cons (Wk.refl _) (WkL.cons (Wk.no) Wl)) Pf Pf ?_
  rintro _ _ _ ⟨rfl, rfl, rfl⟩
  refine ops_nt ?_
  refine wpD_seq ?_
  refine wpD_sr ?_
  iterate 3 refine pu ?_
  refine pL 0 ?_
  refine pu ?_
  refine ops_nt ?_
  obtain ⟨y4, q4, ho4⟩ := yes_bind hm
  refine wpD_mid (Y := Unit) (fun z4 => (⟨[(0, .ptr o0 0), (1, .fn (.func 73) [] [])], [(o0, Blk.cells [.lst 4 (y4.1.map eTApiToken) .no, .v (.int .i64 y4.2.1), .v (.int .i64 y4.2.2.1), .v (.int .i64 y4.2.2.2.1), .v (.int .i64 y4.2.2.2.2)] T0)], []⟩ : S)) ?_ ?_
  ·clear hm; have hm := yes_of q4
   refine wpD_cond rfl (fun hc5 => ?_) (fun hc5 => ?_)
   ·replace hm := yes_t hc5 hm
    refine wpD_region ?_
    refine pu ?_
    refine pu ?_
    obtain ⟨x6, q6, hm⟩ := yes_bind hm
    refine pG (grammar_reader_fail_ok x1 m0.gAt (5 : Int) o0 T0 c0_0 x6 q6) Wl Pf Pf ?_
    rintro _ _ _ ⟨rfl, rfl, rfl⟩
    refine ops_nil ?_
    have e4 := yes_eq hm; subst e4
    refine ⟨rfl, ?_⟩
    refine WkX.wk (WkS.bl0 (ds' := [.lst 4 (x6.gL.map eTApiToken) .no, .v (.int .i64 x6.gAt), .v (.int .i64 x6.gE), .v (.int .i64 x6.gVars), .v (.int .i64 x6.gOpen)]) (rO (rC (rC (rC (rC WkR.nil)))))) ?_
    exact WkX.of () (WkS.perm (WkS.cons rfl (Wk.refl _) (WkS.cons rfl (Wk.refl _) (WkS.nil))) Pf Pf)
   ·replace hm := yes_f hc5 hm
    refine wpD_skip ?_
    have e4 := yes_eq hm; subst e4
    refine ⟨rfl, ?_⟩
    refine WkX.wk (WkS.bl0 (ds' := [.lst 4 (x1.gL.map eTApiToken) .no, .v (.int .i64 x1.gAt), .v (.int .i64 x1.gE), .v (.int .i64 x1.gVars), .v (.int .i64 x1.gOpen)]) (rO (rC (rC (rC (rC WkR.nil)))))) ?_
    exact WkX.of () (WkS.perm (WkS.cons rfl (Wk.refl _) (WkS.cons rfl (Wk.refl _) (WkS.nil))) Pf Pf)
  ·intro s4 hw4; clear hm; have hm := ho4; clear q4 ho4
   refine then_normal ?_
   refine wpD_wkX hw4 (fun z4 => ?_)
   refine wpD_sr ?_
   iterate 3 refine pu ?_
   refine pL 0 ?_
   iterate 3 refine pu ?_
   refine pS0 (ds' := [.lst 4 (y4.1.map eTApiToken) .no, .v (.int .i64 y4.2.1), .v (.int .i64 y4.2.2.1), .v (.int .i64 y4.2.2.2.1), .v (.int .i64 (IntKind.i64.wrap (y4.2.2.2.2 + (1 : Int))))]) ?_
   refine ops_n2 ?_
   refine pu ?_
   obtain ⟨x7, q7, hm⟩ := yes_bind hm
   refine p_callV0 (grammar_nothing_ok x7 q7) rfl rfl rfl rfl rfl rfl rfl Wl ?_
   rintro _ rfl
   refine ops_n2 ?_
   refine pu ?_
   refine ops_nt ?_
   refine wpD_seq ?_
   obtain ⟨y37, q37, ho37⟩ := yes_bind hm
   refine wpD_mid (Y := Value) (fun z37 => (⟨[(0, .ptr o0 0), (6, .lst 7 (y37.1.map eTApiStmt) (.cur z37))], [(o0, Blk.cells [.lst 4 (y37.2.1.map eTApiToken) .no, .v (.int .i64 y37.2.2.1), .v (.int .i64 y37.2.2.2.1), .v (.int .i64 y37.2.2.2.2.1), .v (.int .i64 y37.2.2.2.2.2)] T0)], [(7, z37)]⟩ : S)) ?_ ?_
   ·clear hm; have hm := yes_of q37
    refine wpD_block ?_
    obtain ⟨u38, hl38, hq38⟩ := yes_m hm
    refine loop_M (Y := Value) hl38 (fun s38 z38 => (⟨[(0, .ptr o0 0), (6, .lst 7 (s38.1.map eTApiStmt) (.cur z38))], [(o0, Blk.cells [.lst 4 (s38.2.1.map eTApiToken) .no, .v (.int .i64 s38.2.2.1), .v (.int .i64 s38.2.2.2.1), .v (.int .i64 s38.2.2.2.2.1), .v (.int .i64 s38.2.2.2.2.2)] T0)], [(7, z38)]⟩ : S)) ?_ ?_
    ·skip
     refine WkX.tokN (i := 6) 7 rfl (fun w57 => ?_)
     exact WkX.of w57 (WkS.perm (WkS.cons rfl (Wk.refl _) (WkS.cons rfl (Wk.refl _) (WkS.nil))) Pf Pf)
    ·intro G38 s38 z38 hm
     refine wpD_seq ?_
     refine wpD_seq ?_
     obtain ⟨y60, q60, ho60⟩ := yes_bind hm
     refine wpD_mid (Y := Unit) (fun z60 => (⟨[(0, .ptr o0 0), (6, .lst 7 (s38.1.map eTApiStmt) (.cur z38)), (40, .v (.bool y60.1))], [(o0, Blk.cells [.lst 4 (y60.2.1.map eTApiToken) .no, .v (.int .i64 y60.2.2.1), .v (.int .i64 y60.2.2.2.1), .v (.int .i64 y60.2.2.2.2.1), .v (.int .i64 y60.2.2.2.2.2)] T0)], [(7, z38)]⟩ : S)) ?_ ?_
     ·clear hm; have hm := yes_of q60
      refine wpD_region ?_
      iterate 3 refine pu ?_
      refine pL 0 ?_
      refine pu ?_
      refine pu ?_
      refine p_split (i := 36) rfl (fun hg61 => ?_) (fun hg61 => ?_)
      ·replace hm := yes_t hg61 hm
       refine pu ?_
       obtain ⟨x62, q62, hm⟩ := yes_bind hm
       refine pG (grammar_reader_may_ok (⟨s38.2.1, s38.2.2.1, s38.2.2.2.1, s38.2.2.2.2.1, s38.2.2.2.2.2⟩ : TGrammarReader) (ByteArray.mk #[125]) o0 T0 .no x62 q62) Wl Pf Pf ?_
       rintro _ _ _ ⟨rfl, rfl, rfl⟩
       refine pu ?_
       refine p_pickT rfl rfl rfl rfl rfl rfl ?_
       refine ops_nil ?_
       have e60 := yes_eq hm; subst e60
       refine ⟨rfl, ?_⟩
       exact WkX.of () (WkS.perm (WkS.cons rfl (Wk.refl _) (WkS.cons rfl (Wk.refl _) (WkS.cons rfl (Wk.refl _) (WkS.nil)))) Pf Pf)
      ·replace hm := yes_f hg61 hm
       iterate 3 refine pK ?_
       refine p_pickF rfl rfl rfl rfl rfl rfl ?_
       refine ops_nil ?_
       have e60 := yes_eq hm; subst e60
       refine ⟨rfl, ?_⟩
       exact WkX.of () (WkS.perm (WkS.cons rfl (Wk.refl _) (WkS.cons rfl (Wk.refl _) (WkS.cons rfl (Wk.refl _) (WkS.nil)))) Pf Pf)
     ·intro s60 hw60; clear hm; have hm := ho60; clear q60 ho60
      refine then_normal ?_
      refine wpD_wkX hw60 (fun z60 => ?_)
      refine wpD_cond rfl (fun hc63 => ?_) (fun hc63 => ?_)
      ·replace hm := yes_t hc63 hm
       refine wpD_skip ?_
       refine then_normal ?_
       refine wpD_block ?_
       refine wpD_region ?_
       refine pu ?_
       refine pu ?_
       obtain ⟨x64, q64, hm⟩ := yes_bind hm
       refine pG (hg0 (⟨y60.2.1, y60.2.2.1, y60.2.2.2.1, y60.2.2.2.2.1, y60.2.2.2.2.2⟩ : TGrammarReader) o0 T0 .no x64 q64) Wl Pf Pf ?_
       rintro _ _ _ ⟨rfl, rfl, rfl⟩
       refine p_eq (i := 43) rfl (Wk.of_eq (eTApiStmt_eq x64.1)) ?_
       refine p_lit htab rfl rfl rfl rfl rfl rfl rfl rfl rfl rfl rfl rfl rfl rfl ?_
       refine p_eq (i := 44) (d' := .lst 7 (([x64.1] : List TApiStmt).map eTApiStmt) .full) rfl (Wk.lst0 (.cons (WkC.trans (WkC.agg (WkR.refl _)) (WkC.of_eq (eTApiStmt_eq x64.1).symm)) (.nil))) ?_
       obtain ⟨x65, q65, hm⟩ := yes_bind hm
       refine p_appC 0 htab rfl rfl rfl rfl rfl rfl rfl rfl rfl rfl rfl rfl rfl rfl rfl rfl rfl (app_bound q65) (fun v65 => ?_)
       refine p_mapD (i := 45) q65 rfl ?_
       refine pu ?_
       refine ops_nil ?_
       refine block_normal ?_
       refine then_normal ⟨_, lp_next hm, ?_⟩
       exact WkX.of v65 (WkS.perm (WkS.cons rfl (Wk.refl _) (WkS.cons rfl (Wk.refl _) (WkS.nil))) Pf Pf)
      ·replace hm := yes_f hc63 hm
       refine wpD_exit ?_
       refine then_exit ?_
       have e38 := lp_done hm; subst e38; clear hm; have hm := hq38
       refine then_exit ?_
       refine block_hit ?_
       have e37 := yes_eq hm; subst e37
       refine ⟨rfl, ?_⟩
       exact WkX.of z38 (WkS.perm (WkS.cons rfl (Wk.refl _) (WkS.cons rfl (Wk.refl _) (WkS.nil))) Pf Pf)
   ·intro s37 hw37; clear hm; have hm := ho37; clear q37 ho37
    refine then_normal ?_
    refine wpD_wkX hw37 (fun z37 => ?_)
    refine wpD_sr ?_
    iterate 3 refine pu ?_
    refine pL 0 ?_
    iterate 3 refine pu ?_
    refine pS0 (ds' := [.lst 4 (y37.2.1.map eTApiToken) .no, .v (.int .i64 y37.2.2.1), .v (.int .i64 y37.2.2.2.1), .v (.int .i64 y37.2.2.2.2.1), .v (.int .i64 (IntKind.i64.wrap (y37.2.2.2.2.2 - (1 : Int))))]) ?_
    refine ops_n2 ?_
    refine pu ?_
    refine pu ?_
    refine ops_nt ?_
    refine wpD_ret ?_
    have er66 := yes_eq hm; subst er66
    refine rP (t' := [(4, .lst 7 (y37.1.map eTApiStmt) (.cur z37))]) [0] [0] 1 (wC wN) (lT lN) ?_
    exact ⟨z37, rfl, rfl, rfl⟩
noncomputable def grammar_reader_stmt_g : Nat → ((TGrammarReader) → Option (TApiStmt × TGrammarReader)) × ((TGrammarReader) → Option (List TApiStmt × TGrammarReader))
  | 0 => (fun _ => none, fun _ => none)
  | n + 1 => (grammar_reader_stmt_b ((grammar_reader_stmt_g n).1) ((grammar_reader_stmt_g n).2), grammar_reader_block2_b ((grammar_reader_stmt_g n).1) ((grammar_reader_stmt_g n).2))
theorem grammar_reader_stmt_g_ok : ∀ n, (∀ (m0 : TGrammarReader) (o0 : Nat) (T0 : TypeId) (c0_0 : Cap) (r : TApiStmt × TGrammarReader) (h0 : (grammar_reader_stmt_g n).1 m0 = some r), CallsD Try.prog 58 [.ptr o0 0] [(o0, Blk.cells [.lst 4 (m0.gL.map eTApiToken) c0_0, .v (.int .i64 m0.gAt), .v (.int .i64 m0.gE), .v (.int .i64 m0.gVars), .v (.int .i64 m0.gOpen)] T0)] [] (fun d h k => d = eTApiStmt r.1 ∧ h = [(o0, Blk.cells [.lst 4 (r.2.gL.map eTApiToken) .no, .v (.int .i64 r.2.gAt), .v (.int .i64 r.2.gE), .v (.int .i64 r.2.gVars), .v (.int .i64 r.2.gOpen)] T0)] ∧ k = [])) ∧ (∀ (m0 : TGrammarReader) (o0 : Nat) (T0 : TypeId) (c0_0 : Cap) (r : List TApiStmt × TGrammarReader) (h0 : (grammar_reader_stmt_g n).2 m0 = some r), CallsD Try.prog 45 [.ptr o0 0, .fn (.func 73) [] []] [(o0, Blk.cells [.lst 4 (m0.gL.map eTApiToken) c0_0, .v (.int .i64 m0.gAt), .v (.int .i64 m0.gE), .v (.int .i64 m0.gVars), .v (.int .i64 m0.gOpen)] T0)] [] (fun d h k => ∃ y0, d = .lst 7 (r.1.map eTApiStmt) (.cur y0) ∧ h = [(o0, Blk.cells [.lst 4 (r.2.gL.map eTApiToken) .no, .v (.int .i64 r.2.gAt), .v (.int .i64 r.2.gE), .v (.int .i64 r.2.gVars), .v (.int .i64 r.2.gOpen)] T0)] ∧ k = [(7, y0)]))
  | 0 => ⟨(fun _ _ _ _ _ h0 => by cases h0), (fun _ _ _ _ _ h0 => by cases h0)⟩
  | n + 1 => by
    have ih := grammar_reader_stmt_g_ok n
    exact ⟨grammar_reader_stmt_b_ok ((grammar_reader_stmt_g n).1) ((grammar_reader_stmt_g n).2) (ih.1) (ih.2), grammar_reader_block2_b_ok ((grammar_reader_stmt_g n).1) ((grammar_reader_stmt_g n).2) (ih.1) (ih.2)⟩
theorem grammar_reader_stmt_g_le : ∀ n, (∀ (m0 : TGrammarReader), Le ((grammar_reader_stmt_g n).1 m0) ((grammar_reader_stmt_g (n + 1)).1 m0)) ∧ (∀ (m0 : TGrammarReader), Le ((grammar_reader_stmt_g n).2 m0) ((grammar_reader_stmt_g (n + 1)).2 m0))
  | 0 => ⟨fun _ => Le.none _, fun _ => Le.none _⟩
  | n + 1 => by
    have ih := grammar_reader_stmt_g_le n
    exact ⟨fun m0 => by show Le (grammar_reader_stmt_b ((grammar_reader_stmt_g n).1) ((grammar_reader_stmt_g n).2) m0) (grammar_reader_stmt_b ((grammar_reader_stmt_g (n + 1)).1) ((grammar_reader_stmt_g (n + 1)).2) m0); unfold grammar_reader_stmt_b; repeat (first | exact Le.refl _ | exact ih.1 _ | exact ih.2 _ | assumption | (refine Le.bind ?_ (fun _ => ?_)) | (refine Le.cond ?_ ?_) | (refine Le.loop (fun _ => ?_)) | (refine Le.elim (fun _ => ?_) (fun _ => ?_))), fun m0 => by show Le (grammar_reader_block2_b ((grammar_reader_stmt_g n).1) ((grammar_reader_stmt_g n).2) m0) (grammar_reader_block2_b ((grammar_reader_stmt_g (n + 1)).1) ((grammar_reader_stmt_g (n + 1)).2) m0); unfold grammar_reader_block2_b; repeat (first | exact Le.refl _ | exact ih.1 _ | exact ih.2 _ | assumption | (refine Le.bind ?_ (fun _ => ?_)) | (refine Le.cond ?_ ?_) | (refine Le.loop (fun _ => ?_)) | (refine Le.elim (fun _ => ?_) (fun _ => ?_)))⟩
noncomputable def grammar_reader_stmt (m0 : TGrammarReader) : Option (TApiStmt × TGrammarReader) := anyN fun n => (grammar_reader_stmt_g n).1 m0
theorem grammar_reader_stmt_of (m0 : TGrammarReader) {r : TApiStmt × TGrammarReader} (n : Nat) (h : (grammar_reader_stmt_g n).1 m0 = some r) : grammar_reader_stmt m0 = some r := anyN_of (fun m => (grammar_reader_stmt_g_le m).1 m0) h
theorem grammar_reader_stmt_ok (m0 : TGrammarReader) (o0 : Nat) (T0 : TypeId) (c0_0 : Cap) (r : TApiStmt × TGrammarReader) (h0 : grammar_reader_stmt m0 = some r) : CallsD Try.prog 58 [.ptr o0 0] [(o0, Blk.cells [.lst 4 (m0.gL.map eTApiToken) c0_0, .v (.int .i64 m0.gAt), .v (.int .i64 m0.gE), .v (.int .i64 m0.gVars), .v (.int .i64 m0.gOpen)] T0)] [] (fun d h k => d = eTApiStmt r.1 ∧ h = [(o0, Blk.cells [.lst 4 (r.2.gL.map eTApiToken) .no, .v (.int .i64 r.2.gAt), .v (.int .i64 r.2.gE), .v (.int .i64 r.2.gVars), .v (.int .i64 r.2.gOpen)] T0)] ∧ k = []) :=
  let ⟨n, hn⟩ := anyN_inv h0; (grammar_reader_stmt_g_ok n).1 m0 o0 T0 c0_0 r hn
noncomputable def grammar_reader_block (m0 : TGrammarReader) (m2 : TApiFunc) : Option (List TApiStmt × TGrammarReader × TApiFunc) :=
  ((grammar_reader_eat m0 ([(ByteArray.mk #[123])] : List ByteArray)).bind fun x1 => (Option.bind (α := List TApiToken × Int × Int × Int × Int) (bif (decide ((24 : Int) ≤ x1.gOpen)) then ((grammar_reader_fail x1 m0.gAt (5 : Int)).bind fun x6 => some (x6.gL, x6.gAt, x6.gE, x6.gVars, x6.gOpen)) else some (x1.gL, x1.gAt, x1.gE, x1.gVars, x1.gOpen)) fun y4 => ((grammar_reader_function_1 m2 (⟨y4.1, y4.2.1, y4.2.2.1, y4.2.2.2.1, (IntKind.i64.wrap (y4.2.2.2.2 + (1 : Int)))⟩ : TGrammarReader)).bind fun x8 => (Option.bind (α := List TApiStmt × List TApiToken × Int × Int × Int × Int) (loopM (fun (s39 : List TApiStmt × List TApiToken × Int × Int × Int × Int) => (Option.bind (α := Bool × List TApiToken × Int × Int × Int × Int) (bif (s39.2.2.2.1 == (0 : Int)) then ((grammar_reader_may (⟨s39.2.1, s39.2.2.1, s39.2.2.2.1, s39.2.2.2.2.1, s39.2.2.2.2.2⟩ : TGrammarReader) (ByteArray.mk #[125])).bind fun x63 => some ((!x63.1), x63.2.gL, x63.2.gAt, x63.2.gE, x63.2.gVars, x63.2.gOpen)) else some (false, s39.2.1, s39.2.2.1, s39.2.2.2.1, s39.2.2.2.2.1, s39.2.2.2.2.2)) fun y61 => (bif y61.1 then ((grammar_reader_stmt (⟨y61.2.1, y61.2.2.1, y61.2.2.2.1, y61.2.2.2.2.1, y61.2.2.2.2.2⟩ : TGrammarReader)).bind fun x65 => ((app 120 s39.1 ([x65.1] : List TApiStmt)).bind fun x66 => some (.next (x66, x65.2.gL, x65.2.gAt, x65.2.gE, x65.2.gVars, x65.2.gOpen)))) else some (.done (s39.1, y61.2.1, y61.2.2.1, y61.2.2.2.1, y61.2.2.2.2.1, y61.2.2.2.2.2))))) (([] : List TApiStmt), x8.1.gL, x8.1.gAt, x8.1.gE, x8.1.gVars, x8.1.gOpen)) fun y38 => some (y38.1, (⟨y38.2.1, y38.2.2.1, y38.2.2.2.1, y38.2.2.2.2.1, (IntKind.i64.wrap (y38.2.2.2.2.2 - (1 : Int)))⟩ : TGrammarReader), x8.2)))))
set_option maxRecDepth 100000 in
set_option maxHeartbeats 2000000 in
theorem grammar_reader_block_ok (m0 : TGrammarReader) (m2 : TApiFunc) (o0 : Nat) (T0 : TypeId) (c0_0 : Cap) (o1 : Nat) (T1 : TypeId) (o2 : Nat) (T2 : TypeId) (c2_1 : Cap) (k2_2 : Value) (c2_3 : Cap) (r : List TApiStmt × TGrammarReader × TApiFunc) (h0 : grammar_reader_block m0 m2 = some r) : CallsD Try.prog 45 [.ptr o0 0, .fn (.func 46) [] [.ptr o1 0, .ptr o2 0]] [(o0, Blk.cells [.lst 4 (m0.gL.map eTApiToken) c0_0, .v (.int .i64 m0.gAt), .v (.int .i64 m0.gE), .v (.int .i64 m0.gVars), .v (.int .i64 m0.gOpen)] T0), (o1, Blk.cells [.ptr o0 0] T1), (o2, Blk.cells [.v (.string m2.gName), .lst 2 (m2.gParams.map eTApiVar) c2_1, .lst 2 (m2.gLocals.map eTApiVar) (.cur k2_2), .lst 7 (m2.gBody.map eTApiStmt) c2_3, .v (.int .i64 m2.gAt)] T2)] [(2, k2_2)] (fun d h k => ∃ y0 y1, d = .lst 7 (r.1.map eTApiStmt) (.cur y0) ∧ h = [(o0, Blk.cells [.lst 4 (r.2.1.gL.map eTApiToken) .no, .v (.int .i64 r.2.1.gAt), .v (.int .i64 r.2.1.gE), .v (.int .i64 r.2.1.gVars), .v (.int .i64 r.2.1.gOpen)] T0), (o1, Blk.cells [.ptr o0 0] T1), (o2, Blk.cells [.v (.string r.2.2.gName), .lst 2 (r.2.2.gParams.map eTApiVar) c2_1, .lst 2 (r.2.2.gLocals.map eTApiVar) (.cur y1), .lst 7 (r.2.2.gBody.map eTApiStmt) c2_3, .v (.int .i64 r.2.2.gAt)] T2)] ∧ k = [(7, y0), (2, y1)]) := by
  have hm := yes_of h0
  unfold grammar_reader_block at hm
  clear h0
  refine enterX htab Try.func45 rfl rfl rfl rfl rfl (fun C => ?_)
  refine wpD_sr ?_
  refine pu ?_
  refine ops_n2 ?_
  iterate 3 refine pu ?_
  refine pL 0 ?_
  refine pu ?_
  refine ops_n2 ?_
  refine pu ?_
  refine p_lit htab rfl rfl rfl rfl rfl rfl rfl rfl rfl rfl rfl rfl rfl rfl ?_
  refine p_eq (i := 12) (d' := .lst 1 (([(ByteArray.mk #[123])] : List ByteArray).map eStr) .full) rfl (Wk.lst0 (.cons (WkC.refl _) (.nil))) ?_
  obtain ⟨x1, q1, hm⟩ := yes_bind hm
  refine p_callG (grammar_reader_eat_ok m0 ([(ByteArray.mk #[123])] : List ByteArray) o0 T0 c0_0 x1 q1) rfl rfl rfl rfl rfl (WkL.cons (Wk.refl _) (WkL.cons (Wk.no) Wl)) Pf Pf ?_
  rintro _ _ _ ⟨rfl, rfl, rfl⟩
  refine ops_nt ?_
  refine wpD_seq ?_
  refine wpD_sr ?_
  iterate 3 refine pu ?_
  refine pL 0 ?_
  refine pu ?_
  refine ops_nt ?_
  obtain ⟨y4, q4, ho4⟩ := yes_bind hm
  refine wpD_mid (Y := Unit) (fun z4 => (⟨[(0, .ptr o0 0), (1, .fn (.func 46) [] [.ptr o1 0, .ptr o2 0])], [(o0, Blk.cells [.lst 4 (y4.1.map eTApiToken) .no, .v (.int .i64 y4.2.1), .v (.int .i64 y4.2.2.1), .v (.int .i64 y4.2.2.2.1), .v (.int .i64 y4.2.2.2.2)] T0), (o1, Blk.cells [.ptr o0 0] T1), (o2, Blk.cells [.v (.string m2.gName), .lst 2 (m2.gParams.map eTApiVar) c2_1, .lst 2 (m2.gLocals.map eTApiVar) (.cur k2_2), .lst 7 (m2.gBody.map eTApiStmt) c2_3, .v (.int .i64 m2.gAt)] T2)], [(2, k2_2)]⟩ : S)) ?_ ?_
  ·clear hm; have hm := yes_of q4
   refine wpD_cond rfl (fun hc5 => ?_) (fun hc5 => ?_)
   ·replace hm := yes_t hc5 hm
    refine wpD_region ?_
    refine pu ?_
    refine pu ?_
    obtain ⟨x6, q6, hm⟩ := yes_bind hm
    refine pG (grammar_reader_fail_ok x1 m0.gAt (5 : Int) o0 T0 c0_0 x6 q6) Wl Pf Pf ?_
    rintro _ _ _ ⟨rfl, rfl, rfl⟩
    refine ops_nil ?_
    have e4 := yes_eq hm; subst e4
    refine ⟨rfl, ?_⟩
    refine WkX.wk (WkS.bl0 (ds' := [.lst 4 (x6.gL.map eTApiToken) .no, .v (.int .i64 x6.gAt), .v (.int .i64 x6.gE), .v (.int .i64 x6.gVars), .v (.int .i64 x6.gOpen)]) (rO (rC (rC (rC (rC WkR.nil)))))) ?_
    exact WkX.of () (WkS.perm (WkS.cons rfl (Wk.refl _) (WkS.cons rfl (Wk.refl _) (WkS.nil))) Pf Pf)
   ·replace hm := yes_f hc5 hm
    refine wpD_skip ?_
    have e4 := yes_eq hm; subst e4
    refine ⟨rfl, ?_⟩
    refine WkX.wk (WkS.bl0 (ds' := [.lst 4 (x1.gL.map eTApiToken) .no, .v (.int .i64 x1.gAt), .v (.int .i64 x1.gE), .v (.int .i64 x1.gVars), .v (.int .i64 x1.gOpen)]) (rO (rC (rC (rC (rC WkR.nil)))))) ?_
    exact WkX.of () (WkS.perm (WkS.cons rfl (Wk.refl _) (WkS.cons rfl (Wk.refl _) (WkS.nil))) Pf Pf)
  ·intro s4 hw4; clear hm; have hm := ho4; clear q4 ho4
   refine then_normal ?_
   refine wpD_wkX hw4 (fun z4 => ?_)
   refine wpD_sr ?_
   iterate 3 refine pu ?_
   refine pL 0 ?_
   iterate 3 refine pu ?_
   refine pS0 (ds' := [.lst 4 (y4.1.map eTApiToken) .no, .v (.int .i64 y4.2.1), .v (.int .i64 y4.2.2.1), .v (.int .i64 y4.2.2.2.1), .v (.int .i64 (IntKind.i64.wrap (y4.2.2.2.2 + (1 : Int))))]) ?_
   refine ops_n2 ?_
   refine pu ?_
   obtain ⟨x8, q8, hm⟩ := yes_bind hm
   refine p_callV (grammar_reader_function_1_ok m2 (⟨y4.1, y4.2.1, y4.2.2.1, y4.2.2.2.1, (IntKind.i64.wrap (y4.2.2.2.2 + (1 : Int)))⟩ : TGrammarReader) o1 T1 o0 T0 .no o2 T2 c2_1 k2_2 c2_3 x8 q8) rfl rfl rfl rfl rfl rfl rfl Wl ((perm_at (j := 1) rfl).trans (List.Perm.cons _ ((perm_at (j := 0) rfl).trans (List.Perm.cons _ ((perm_at (j := 0) rfl).trans (List.Perm.cons _ Pf)))))) Pf ?_
   rintro _ _ _ ⟨w7, rfl, rfl, rfl⟩
   refine ops_n2 ?_
   refine pu ?_
   refine ops_nt ?_
   refine wpD_seq ?_
   obtain ⟨y38, q38, ho38⟩ := yes_bind hm
   refine wpD_mid (Y := Value) (fun z38 => (⟨[(0, .ptr o0 0), (6, .lst 7 (y38.1.map eTApiStmt) (.cur z38))], [(o1, Blk.cells [.ptr o0 0] T1), (o0, Blk.cells [.lst 4 (y38.2.1.map eTApiToken) .no, .v (.int .i64 y38.2.2.1), .v (.int .i64 y38.2.2.2.1), .v (.int .i64 y38.2.2.2.2.1), .v (.int .i64 y38.2.2.2.2.2)] T0), (o2, Blk.cells [.v (.string x8.2.gName), .lst 2 (x8.2.gParams.map eTApiVar) c2_1, .lst 2 (x8.2.gLocals.map eTApiVar) (.cur w7), .lst 7 (x8.2.gBody.map eTApiStmt) c2_3, .v (.int .i64 x8.2.gAt)] T2)], [(7, z38), (2, w7)]⟩ : S)) ?_ ?_
   ·clear hm; have hm := yes_of q38
    refine wpD_block ?_
    obtain ⟨u39, hl39, hq39⟩ := yes_m hm
    refine loop_M (Y := Value) hl39 (fun s39 z39 => (⟨[(0, .ptr o0 0), (6, .lst 7 (s39.1.map eTApiStmt) (.cur z39))], [(o1, Blk.cells [.ptr o0 0] T1), (o0, Blk.cells [.lst 4 (s39.2.1.map eTApiToken) .no, .v (.int .i64 s39.2.2.1), .v (.int .i64 s39.2.2.2.1), .v (.int .i64 s39.2.2.2.2.1), .v (.int .i64 s39.2.2.2.2.2)] T0), (o2, Blk.cells [.v (.string x8.2.gName), .lst 2 (x8.2.gParams.map eTApiVar) c2_1, .lst 2 (x8.2.gLocals.map eTApiVar) (.cur w7), .lst 7 (x8.2.gBody.map eTApiStmt) c2_3, .v (.int .i64 x8.2.gAt)] T2)], [(7, z39), (2, w7)]⟩ : S)) ?_ ?_
    ·skip
     refine WkX.tokN (i := 6) 7 rfl (fun w58 => ?_)
     exact WkX.of w58 (WkS.perm (WkS.cons rfl (Wk.refl _) (WkS.cons rfl (Wk.refl _) (WkS.nil))) Pf Pf)
    ·intro G39 s39 z39 hm
     refine wpD_seq ?_
     refine wpD_seq ?_
     obtain ⟨y61, q61, ho61⟩ := yes_bind hm
     refine wpD_mid (Y := Unit) (fun z61 => (⟨[(0, .ptr o0 0), (6, .lst 7 (s39.1.map eTApiStmt) (.cur z39)), (40, .v (.bool y61.1))], [(o1, Blk.cells [.ptr o0 0] T1), (o0, Blk.cells [.lst 4 (y61.2.1.map eTApiToken) .no, .v (.int .i64 y61.2.2.1), .v (.int .i64 y61.2.2.2.1), .v (.int .i64 y61.2.2.2.2.1), .v (.int .i64 y61.2.2.2.2.2)] T0), (o2, Blk.cells [.v (.string x8.2.gName), .lst 2 (x8.2.gParams.map eTApiVar) c2_1, .lst 2 (x8.2.gLocals.map eTApiVar) (.cur w7), .lst 7 (x8.2.gBody.map eTApiStmt) c2_3, .v (.int .i64 x8.2.gAt)] T2)], [(7, z39), (2, w7)]⟩ : S)) ?_ ?_
     ·clear hm; have hm := yes_of q61
      refine wpD_region ?_
      iterate 3 refine pu ?_
      refine pL 1 ?_
      refine pu ?_
      refine pu ?_
      refine p_split (i := 36) rfl (fun hg62 => ?_) (fun hg62 => ?_)
      ·replace hm := yes_t hg62 hm
       refine pu ?_
       obtain ⟨x63, q63, hm⟩ := yes_bind hm
       refine pG (grammar_reader_may_ok (⟨s39.2.1, s39.2.2.1, s39.2.2.2.1, s39.2.2.2.2.1, s39.2.2.2.2.2⟩ : TGrammarReader) (ByteArray.mk #[125]) o0 T0 .no x63 q63) Wl ((perm_at (j := 1) rfl).trans (List.Perm.cons _ Pf)) Pf ?_
       rintro _ _ _ ⟨rfl, rfl, rfl⟩
       refine pu ?_
       refine p_pickT rfl rfl rfl rfl rfl rfl ?_
       refine ops_nil ?_
       have e61 := yes_eq hm; subst e61
       refine ⟨rfl, ?_⟩
       exact WkX.of () (WkS.perm (WkS.cons rfl (Wk.refl _) (WkS.cons rfl (Wk.refl _) (WkS.cons rfl (Wk.refl _) (WkS.nil)))) ((perm_at (j := 1) rfl).trans (List.Perm.cons _ ((perm_at (j := 0) rfl).trans (List.Perm.cons _ ((perm_at (j := 0) rfl).trans (List.Perm.cons _ Pf)))))) Pf)
      ·replace hm := yes_f hg62 hm
       iterate 3 refine pK ?_
       refine p_pickF rfl rfl rfl rfl rfl rfl ?_
       refine ops_nil ?_
       have e61 := yes_eq hm; subst e61
       refine ⟨rfl, ?_⟩
       exact WkX.of () (WkS.perm (WkS.cons rfl (Wk.refl _) (WkS.cons rfl (Wk.refl _) (WkS.cons rfl (Wk.refl _) (WkS.nil)))) Pf Pf)
     ·intro s61 hw61; clear hm; have hm := ho61; clear q61 ho61
      refine then_normal ?_
      refine wpD_wkX hw61 (fun z61 => ?_)
      refine wpD_cond rfl (fun hc64 => ?_) (fun hc64 => ?_)
      ·replace hm := yes_t hc64 hm
       refine wpD_skip ?_
       refine then_normal ?_
       refine wpD_block ?_
       refine wpD_region ?_
       refine pu ?_
       refine pu ?_
       obtain ⟨x65, q65, hm⟩ := yes_bind hm
       refine pG (grammar_reader_stmt_ok (⟨y61.2.1, y61.2.2.1, y61.2.2.2.1, y61.2.2.2.2.1, y61.2.2.2.2.2⟩ : TGrammarReader) o0 T0 .no x65 q65) Wl ((perm_at (j := 1) rfl).trans (List.Perm.cons _ Pf)) Pf ?_
       rintro _ _ _ ⟨rfl, rfl, rfl⟩
       refine p_eq (i := 43) rfl (Wk.of_eq (eTApiStmt_eq x65.1)) ?_
       refine p_lit htab rfl rfl rfl rfl rfl rfl rfl rfl rfl rfl rfl rfl rfl rfl ?_
       refine p_eq (i := 44) (d' := .lst 7 (([x65.1] : List TApiStmt).map eTApiStmt) .full) rfl (Wk.lst0 (.cons (WkC.trans (WkC.agg (WkR.refl _)) (WkC.of_eq (eTApiStmt_eq x65.1).symm)) (.nil))) ?_
       obtain ⟨x66, q66, hm⟩ := yes_bind hm
       refine p_appC 0 htab rfl rfl rfl rfl rfl rfl rfl rfl rfl rfl rfl rfl rfl rfl rfl rfl rfl (app_bound q66) (fun v66 => ?_)
       refine p_mapD (i := 45) q66 rfl ?_
       refine pu ?_
       refine ops_nil ?_
       refine block_normal ?_
       refine then_normal ⟨_, lp_next hm, ?_⟩
       exact WkX.of v66 (WkS.perm (WkS.cons rfl (Wk.refl _) (WkS.cons rfl (Wk.refl _) (WkS.nil))) ((perm_at (j := 1) rfl).trans (List.Perm.cons _ ((perm_at (j := 0) rfl).trans (List.Perm.cons _ ((perm_at (j := 0) rfl).trans (List.Perm.cons _ Pf)))))) Pf)
      ·replace hm := yes_f hc64 hm
       refine wpD_exit ?_
       refine then_exit ?_
       have e39 := lp_done hm; subst e39; clear hm; have hm := hq39
       refine then_exit ?_
       refine block_hit ?_
       have e38 := yes_eq hm; subst e38
       refine ⟨rfl, ?_⟩
       exact WkX.of z39 (WkS.perm (WkS.cons rfl (Wk.refl _) (WkS.cons rfl (Wk.refl _) (WkS.nil))) Pf Pf)
   ·intro s38 hw38; clear hm; have hm := ho38; clear q38 ho38
    refine then_normal ?_
    refine wpD_wkX hw38 (fun z38 => ?_)
    refine wpD_sr ?_
    iterate 3 refine pu ?_
    refine pL 1 ?_
    iterate 3 refine pu ?_
    refine pS1 (ds' := [.lst 4 (y38.2.1.map eTApiToken) .no, .v (.int .i64 y38.2.2.1), .v (.int .i64 y38.2.2.2.1), .v (.int .i64 y38.2.2.2.2.1), .v (.int .i64 (IntKind.i64.wrap (y38.2.2.2.2.2 - (1 : Int))))]) ?_
    refine ops_n2 ?_
    refine pu ?_
    refine pu ?_
    refine ops_nt ?_
    refine wpD_ret ?_
    have er67 := yes_eq hm; subst er67
    refine rP (t' := [(4, .lst 7 (y38.1.map eTApiStmt) (.cur z38))]) [1,0,0] [0,0] 3 (wC wN) (lT lN) ?_
    exact ⟨z38, w7, rfl, rfl, rfl⟩
noncomputable def tree_Size_b (g0 : (TApiExpr) → Option (Int)) (a0 : TApiExpr) : Option (Int) :=
  (Option.bind (α := Int) (loopM (fun (s19 : Int × Int) => (bif (decide (s19.2 < (a0.gKids.length : Int))) then ((idx a0.gKids s19.2).bind fun x31 => ((g0 x31).bind fun x33 => some (.next ((IntKind.i64.wrap (s19.1 + x33)), (IntKind.i64.wrap (s19.2 + (1 : Int))))))) else some (.done s19.1))) ((1 : Int), (0 : Int))) fun y18 => some y18)
set_option maxRecDepth 100000 in
set_option maxHeartbeats 2000000 in
theorem tree_Size_b_ok (g0 : (TApiExpr) → Option (Int)) (hg0 : ∀ (a0 : TApiExpr) (r : Int) (h0 : g0 a0 = some r), CallsD Try.prog 59 [eTApiExpr a0] [] [] (fun d h k => d = .v (.int .i64 r) ∧ h = [] ∧ k = [])) (a0 : TApiExpr) (r : Int) (h0 : tree_Size_b g0 a0 = some r) : CallsD Try.prog 59 [eTApiExpr a0] [] [] (fun d h k => d = .v (.int .i64 r) ∧ h = [] ∧ k = []) := by
  have hm := yes_of h0
  unfold tree_Size_b at hm
  clear h0
  refine enterX htab Try.func59 rfl rfl rfl rfl rfl (fun C => ?_)
  refine w_eq (i := 0) rfl (Wk.of_eq (eTApiExpr_eq a0)) ?_
  refine wpD_sr ?_
  refine p_box rfl rfl rfl rfl rfl rfl rfl (fun b1 => ?_)
  refine pu ?_
  refine ops_n2 ?_
  refine pu ?_
  refine ops_nt ?_
  refine wpD_seq ?_
  refine wpD_sr ?_
  refine pu ?_
  refine pL 0 ?_
  refine p_lenL htab rfl rfl rfl rfl rfl rfl rfl (by first | exact map_len | rfl) ?_
  refine pu ?_
  refine ops_nt ?_
  obtain ⟨y18, q18, ho18⟩ := yes_bind hm
  refine wpD_mid (Y := Unit) (fun z18 => (⟨[(3, .v (.int .i64 y18))], [], []⟩ : S)) ?_ ?_
  ·clear hm; have hm := yes_of q18
   refine wpD_block ?_
   obtain ⟨u19, hl19, hq19⟩ := yes_m hm
   refine loop_M (Y := Unit) hl19 (fun s19 z19 => (⟨[(3, .v (.int .i64 s19.1)), (7, .lst 5 (a0.gKids.map eTApiExpr) .no), (8, .v (.int .i64 (a0.gKids.length : Int))), (9, .v (.int .i64 s19.2))], [], []⟩ : S)) ?_ ?_
   ·skip
    exact WkX.of () (WkS.perm (WkS.cons rfl (Wk.refl _) (WkS.cons rfl (Wk.refl _) (WkS.cons rfl (Wk.refl _) (WkS.cons rfl (Wk.refl _) (WkS.nil))))) Pf Pf)
   ·intro G19 s19 z19 hm
    refine wpD_sr ?_
    refine pu ?_
    refine ops_nt ?_
    refine wpD_seq ?_
    refine wpD_cond rfl (fun hc30 => ?_) (fun hc30 => ?_)
    ·replace hm := yes_t hc30 hm
     refine wpD_skip ?_
     refine then_normal ?_
     refine wpD_seq ?_
     refine wpD_block ?_
     refine wpD_sr ?_
     obtain ⟨x31, q31, hm⟩ := yes_bind hm
     refine p_elem htab rfl rfl rfl rfl rfl rfl rfl rfl rfl rfl (idx_nonneg q31) (idx_map q31) ?_
     refine p_eq (i := 11) rfl (Wk.of_eq (congrArg D.el (eTApiExpr_eq x31))) ?_
     refine p_loadEl (d := .agg [.v (.int .i64 x31.gOp), .v (.int .i64 x31.gN), .v (.string x31.gName), .lst 5 (x31.gKids.map eTApiExpr) .no, .v (.int .i64 x31.gAt)]) htab rfl rfl rfl rfl rfl rfl rfl rfl ?_
     refine p_alloc htab rfl rfl rfl rfl rfl rfl rfl (fun b32 => ?_)
     refine pS0 (ds' := [.v (.int .i64 x31.gOp), .v (.int .i64 x31.gN), .v (.string x31.gName), .lst 5 (x31.gKids.map eTApiExpr) .no, .v (.int .i64 x31.gAt)]) ?_
     refine ops_nt ?_
     refine wpD_region ?_
     refine pu ?_
     refine p_load (d := .agg [.v (.int .i64 x31.gOp), .v (.int .i64 x31.gN), .v (.string x31.gName), .lst 5 (x31.gKids.map eTApiExpr) .no, .v (.int .i64 x31.gAt)]) 0 htab rfl rfl rfl rfl rfl rfl rfl rfl ?_
     obtain ⟨x33, q33, hm⟩ := yes_bind hm
     refine p_call0 (hg0 x31 x33 q33) rfl rfl rfl rfl rfl (WkL.cons (Wk.trans (Wk.agg (WkR.refl _)) (Wk.of_eq (eTApiExpr_eq x31).symm)) Wl) ?_
     rintro _ rfl
     refine pu ?_
     refine pu ?_
     refine ops_nil ?_
     refine block_normal ?_
     refine then_normal ?_
     refine wpD_region ?_
     refine pu ?_
     refine pu ?_
     refine ops_nil ?_
     refine then_normal ⟨_, lp_next hm, ?_⟩
     exact WkX.of () (WkS.perm (WkS.cons rfl (Wk.refl _) (WkS.cons rfl (Wk.refl _) (WkS.cons rfl (Wk.refl _) (WkS.cons rfl (Wk.refl _) (WkS.nil))))) Pf Pf)
    ·replace hm := yes_f hc30 hm
     refine wpD_exit ?_
     refine then_exit ?_
     have e19 := lp_done hm; subst e19; clear hm; have hm := hq19
     refine then_exit ?_
     refine block_hit ?_
     have e18 := yes_eq hm; subst e18
     refine ⟨rfl, ?_⟩
     exact WkX.of () (WkS.perm (WkS.cons rfl (Wk.refl _) (WkS.nil)) Pf Pf)
  ·intro s18 hw18; clear hm; have hm := ho18; clear q18 ho18
   refine then_normal ?_
   refine wpD_wkX hw18 (fun z18 => ?_)
   refine wpD_sr ?_
   refine pu ?_
   refine pu ?_
   refine ops_nt ?_
   refine wpD_ret ?_
   have er34 := yes_eq hm; subst er34
   refine rP (t' := [(2, .v (.int .i64 y18))]) [] [] 0 (wC wN) (lT lN) ?_
   exact ⟨rfl, rfl, rfl⟩
noncomputable def tree_Size_g : Nat → ((TApiExpr) → Option (Int))
  | 0 => (fun _ => none)
  | n + 1 => (tree_Size_b ((tree_Size_g n)))
theorem tree_Size_g_ok : ∀ n, (∀ (a0 : TApiExpr) (r : Int) (h0 : (tree_Size_g n) a0 = some r), CallsD Try.prog 59 [eTApiExpr a0] [] [] (fun d h k => d = .v (.int .i64 r) ∧ h = [] ∧ k = []))
  | 0 => fun _ _ h0 => by cases h0
  | n + 1 => by
    have ih := tree_Size_g_ok n
    exact tree_Size_b_ok (tree_Size_g n) ih
theorem tree_Size_g_le : ∀ n, (∀ (a0 : TApiExpr), Le ((tree_Size_g n) a0) ((tree_Size_g (n + 1)) a0))
  | 0 => fun _ => Le.none _
  | n + 1 => by
    have ih := tree_Size_g_le n
    exact fun a0 => by show Le (tree_Size_b ((tree_Size_g n)) a0) (tree_Size_b ((tree_Size_g (n + 1))) a0); unfold tree_Size_b; repeat (first | exact Le.refl _ | exact ih _ | assumption | (refine Le.bind ?_ (fun _ => ?_)) | (refine Le.cond ?_ ?_) | (refine Le.loop (fun _ => ?_)) | (refine Le.elim (fun _ => ?_) (fun _ => ?_)))
noncomputable def tree_Size (a0 : TApiExpr) : Option (Int) := anyN fun n => (tree_Size_g n) a0
theorem tree_Size_of (a0 : TApiExpr) {r : Int} (n : Nat) (h : (tree_Size_g n) a0 = some r) : tree_Size a0 = some r := anyN_of (fun m => (tree_Size_g_le m) a0) h
theorem tree_Size_ok (a0 : TApiExpr) (r : Int) (h0 : tree_Size a0 = some r) : CallsD Try.prog 59 [eTApiExpr a0] [] [] (fun d h k => d = .v (.int .i64 r) ∧ h = [] ∧ k = []) :=
  let ⟨n, hn⟩ := anyN_inv h0; (tree_Size_g_ok n) a0  r hn
noncomputable def tree_Sizes_b (g0 : (List TApiStmt) → Option (Int)) (a0 : List TApiStmt) : Option (Int) :=
  (Option.bind (α := Int) (loopM (fun (s115 : Int × Int) => (bif (decide (s115.2 < (a0.length : Int))) then ((idx a0 s115.2).bind fun x191 => ((g0 x191.gKids).bind fun x193 => ((g0 x191.gElse).bind fun x194 => (Option.bind (α := Int) (loopM (fun (s211 : Int × Int) => (bif (decide (s211.2 < (x191.gExps.length : Int))) then ((idx x191.gExps s211.2).bind fun x223 => ((tree_Size x223).bind fun x225 => some (.next ((IntKind.i64.wrap (s211.1 + x225)), (IntKind.i64.wrap (s211.2 + (1 : Int))))))) else some (.done s211.1))) ((IntKind.i64.wrap (s115.1 + (IntKind.i64.wrap ((IntKind.i64.wrap ((1 : Int) + x193)) + x194)))), (0 : Int))) fun y210 => some (.next (y210, (IntKind.i64.wrap (s115.2 + (1 : Int))))))))) else some (.done s115.1))) ((0 : Int), (0 : Int))) fun y114 => some y114)
set_option maxRecDepth 100000 in
set_option maxHeartbeats 2000000 in
theorem tree_Sizes_b_ok (g0 : (List TApiStmt) → Option (Int)) (hg0 : ∀ (a0 : List TApiStmt) (r : Int) (h0 : g0 a0 = some r), CallsD Try.prog 48 [.lst 7 (a0.map eTApiStmt) .no] [] [] (fun d h k => d = .v (.int .i64 r) ∧ h = [] ∧ k = [])) (a0 : List TApiStmt) (r : Int) (h0 : tree_Sizes_b g0 a0 = some r) : CallsD Try.prog 48 [.lst 7 (a0.map eTApiStmt) .no] [] [] (fun d h k => d = .v (.int .i64 r) ∧ h = [] ∧ k = []) := by
  have hm := yes_of h0
  unfold tree_Sizes_b at hm
  clear h0
  refine enterX htab Try.func48 rfl rfl rfl rfl rfl (fun C => ?_)
  refine wpD_sr ?_
  refine pu ?_
  refine ops_n2 ?_
  refine pu ?_
  refine ops_nt ?_
  refine wpD_seq ?_
  refine wpD_sr ?_
  refine pu ?_
  refine p_lenL htab rfl rfl rfl rfl rfl rfl rfl (by first | exact map_len | rfl) ?_
  refine pu ?_
  refine ops_nt ?_
  obtain ⟨y114, q114, ho114⟩ := yes_bind hm
  refine wpD_mid (Y := Unit) (fun z114 => (⟨[(3, .v (.int .i64 y114))], [], []⟩ : S)) ?_ ?_
  ·clear hm; have hm := yes_of q114
   refine wpD_block ?_
   obtain ⟨u115, hl115, hq115⟩ := yes_m hm
   refine loop_M (Y := Unit) hl115 (fun s115 z115 => (⟨[(3, .v (.int .i64 s115.1)), (8, .lst 7 (a0.map eTApiStmt) .no), (9, .v (.int .i64 (a0.length : Int))), (10, .v (.int .i64 s115.2))], [], []⟩ : S)) ?_ ?_
   ·skip
    exact WkX.of () (WkS.perm (WkS.cons rfl (Wk.refl _) (WkS.cons rfl (Wk.refl _) (WkS.cons rfl (Wk.refl _) (WkS.cons rfl (Wk.refl _) (WkS.nil))))) Pf Pf)
   ·intro G115 s115 z115 hm
    refine wpD_sr ?_
    refine pu ?_
    refine ops_nt ?_
    refine wpD_seq ?_
    refine wpD_cond rfl (fun hc190 => ?_) (fun hc190 => ?_)
    ·replace hm := yes_t hc190 hm
     refine wpD_skip ?_
     refine then_normal ?_
     refine wpD_seq ?_
     refine wpD_block ?_
     refine wpD_sr ?_
     obtain ⟨x191, q191, hm⟩ := yes_bind hm
     refine p_elem htab rfl rfl rfl rfl rfl rfl rfl rfl rfl rfl (idx_nonneg q191) (idx_map q191) ?_
     refine p_eq (i := 12) rfl (Wk.of_eq (congrArg D.el (eTApiStmt_eq x191))) ?_
     refine p_loadEl (d := .agg [.v (.int .i64 x191.gOp), .v (.string x191.gName), .v (.string x191.gFunc), .lst 5 (x191.gExps.map eTApiExpr) .no, .lst 7 (x191.gKids.map eTApiStmt) .no, .lst 7 (x191.gElse.map eTApiStmt) .no, .v (.int .i64 x191.gAt)]) htab rfl rfl rfl rfl rfl rfl rfl rfl ?_
     refine p_alloc htab rfl rfl rfl rfl rfl rfl rfl (fun b192 => ?_)
     refine pS0 (ds' := [.v (.int .i64 x191.gOp), .v (.string x191.gName), .v (.string x191.gFunc), .lst 5 (x191.gExps.map eTApiExpr) .no, .lst 7 (x191.gKids.map eTApiStmt) .no, .lst 7 (x191.gElse.map eTApiStmt) .no, .v (.int .i64 x191.gAt)]) ?_
     refine ops_nt ?_
     refine wpD_seq ?_
     obtain ⟨x193, q193, hm⟩ := yes_bind hm
     obtain ⟨x194, q194, hm⟩ := yes_bind hm
     refine wpD_draws 9 [] [[],[],[1],[1,2],[1,2,3],[],[5],[1,2,3,5,6],[1,2,3,5,6,7]] [1,2,3,5,6,7] [[],[],[1],[1,2],[1,2,3],[],[5],[1,2,3,5,6],[1,2,3,4,5,6,7],[0,1,2,3,4,5,6,7,8],[0,1,2,3,4,5,6,7,8,9]] (by kernel_rfl) (by kernel_rfl) (by kernel_rfl) (by rfl) (by rfl) (by kernel_rfl) ?_
     iterate 6 apply Exists.intro
     intro bs
     refine zqp ?_
     refine zep ?_
     refine z_eM rfl rfl (xm_load 0 htab rfl rfl rfl rfl rfl) rfl rfl rfl rfl rfl rfl ?_
     refine z_call rfl rfl (hg0 x191.gKids x193 q193) rfl rfl Wl rfl rfl rfl rfl rfl rfl ?_
     refine zqp ?_
     refine zep ?_
     refine z_eM rfl rfl (xm_load 0 htab rfl rfl rfl rfl rfl) rfl rfl rfl rfl rfl rfl ?_
     refine z_call rfl rfl (hg0 x191.gElse x194 q194) rfl rfl Wl rfl rfl rfl rfl rfl rfl ?_
     refine zqp ?_
     refine z_nil rfl rfl (fun e he => by simp [isAl] at he) ?_
     refine pu ?_
     refine pu ?_
     refine ops_n2 ?_
     refine pu ?_
     refine pL 0 ?_
     refine p_lenL htab rfl rfl rfl rfl rfl rfl rfl (by first | exact map_len | rfl) ?_
     refine pu ?_
     refine ops_nt ?_
     obtain ⟨y210, q210, ho210⟩ := yes_bind hm
     refine wpD_mid (Y := Unit) (fun z210 => (⟨[(3, .v (.int .i64 y210)), (8, .lst 7 (a0.map eTApiStmt) .no), (9, .v (.int .i64 (a0.length : Int))), (10, .v (.int .i64 s115.2))], [], []⟩ : S)) ?_ ?_
     ·clear hm; have hm := yes_of q210
      refine wpD_block ?_
      obtain ⟨u211, hl211, hq211⟩ := yes_m hm
      refine loop_M (Y := Unit) hl211 (fun s211 z211 => (⟨[(3, .v (.int .i64 s211.1)), (8, .lst 7 (a0.map eTApiStmt) .no), (9, .v (.int .i64 (a0.length : Int))), (10, .v (.int .i64 s115.2)), (25, .lst 5 (x191.gExps.map eTApiExpr) .no), (26, .v (.int .i64 (x191.gExps.length : Int))), (27, .v (.int .i64 s211.2))], [], []⟩ : S)) ?_ ?_
      ·skip
       exact WkX.of () (WkS.perm (WkS.cons rfl (Wk.refl _) (WkS.cons rfl (Wk.refl _) (WkS.cons rfl (Wk.refl _) (WkS.cons rfl (Wk.refl _) (WkS.cons rfl (Wk.refl _) (WkS.cons rfl (Wk.refl _) (WkS.cons rfl (Wk.refl _) (WkS.nil)))))))) Pf Pf)
      ·intro G211 s211 z211 hm
       refine wpD_sr ?_
       refine pu ?_
       refine ops_nt ?_
       refine wpD_seq ?_
       refine wpD_cond rfl (fun hc222 => ?_) (fun hc222 => ?_)
       ·replace hm := yes_t hc222 hm
        refine wpD_skip ?_
        refine then_normal ?_
        refine wpD_seq ?_
        refine wpD_block ?_
        refine wpD_sr ?_
        obtain ⟨x223, q223, hm⟩ := yes_bind hm
        refine p_elem htab rfl rfl rfl rfl rfl rfl rfl rfl rfl rfl (idx_nonneg q223) (idx_map q223) ?_
        refine p_eq (i := 29) rfl (Wk.of_eq (congrArg D.el (eTApiExpr_eq x223))) ?_
        refine p_loadEl (d := .agg [.v (.int .i64 x223.gOp), .v (.int .i64 x223.gN), .v (.string x223.gName), .lst 5 (x223.gKids.map eTApiExpr) .no, .v (.int .i64 x223.gAt)]) htab rfl rfl rfl rfl rfl rfl rfl rfl ?_
        refine p_alloc htab rfl rfl rfl rfl rfl rfl rfl (fun b224 => ?_)
        refine pS0 (ds' := [.v (.int .i64 x223.gOp), .v (.int .i64 x223.gN), .v (.string x223.gName), .lst 5 (x223.gKids.map eTApiExpr) .no, .v (.int .i64 x223.gAt)]) ?_
        refine ops_nt ?_
        refine wpD_region ?_
        refine pu ?_
        refine p_load (d := .agg [.v (.int .i64 x223.gOp), .v (.int .i64 x223.gN), .v (.string x223.gName), .lst 5 (x223.gKids.map eTApiExpr) .no, .v (.int .i64 x223.gAt)]) 0 htab rfl rfl rfl rfl rfl rfl rfl rfl ?_
        obtain ⟨x225, q225, hm⟩ := yes_bind hm
        refine p_call0 (tree_Size_ok x223 x225 q225) rfl rfl rfl rfl rfl (WkL.cons (Wk.trans (Wk.agg (WkR.refl _)) (Wk.of_eq (eTApiExpr_eq x223).symm)) Wl) ?_
        rintro _ rfl
        refine pu ?_
        refine pu ?_
        refine ops_nil ?_
        refine block_normal ?_
        refine then_normal ?_
        refine wpD_region ?_
        refine pu ?_
        refine pu ?_
        refine ops_nil ?_
        refine then_normal ⟨_, lp_next hm, ?_⟩
        exact WkX.of () (WkS.perm (WkS.cons rfl (Wk.refl _) (WkS.cons rfl (Wk.refl _) (WkS.cons rfl (Wk.refl _) (WkS.cons rfl (Wk.refl _) (WkS.cons rfl (Wk.refl _) (WkS.cons rfl (Wk.refl _) (WkS.cons rfl (Wk.refl _) (WkS.nil)))))))) Pf Pf)
       ·replace hm := yes_f hc222 hm
        refine wpD_exit ?_
        refine then_exit ?_
        have e211 := lp_done hm; subst e211; clear hm; have hm := hq211
        refine then_exit ?_
        refine block_hit ?_
        have e210 := yes_eq hm; subst e210
        refine ⟨rfl, ?_⟩
        exact WkX.of () (WkS.perm (WkS.cons rfl (Wk.refl _) (WkS.cons rfl (Wk.refl _) (WkS.cons rfl (Wk.refl _) (WkS.cons rfl (Wk.refl _) (WkS.nil))))) Pf Pf)
     ·intro s210 hw210; clear hm; have hm := ho210; clear q210 ho210
      refine block_normal ?_
      refine then_normal ?_
      refine wpD_wkX hw210 (fun z210 => ?_)
      refine wpD_region ?_
      refine pu ?_
      refine pu ?_
      refine ops_nil ?_
      refine then_normal ⟨_, lp_next hm, ?_⟩
      exact WkX.of () (WkS.perm (WkS.cons rfl (Wk.refl _) (WkS.cons rfl (Wk.refl _) (WkS.cons rfl (Wk.refl _) (WkS.cons rfl (Wk.refl _) (WkS.nil))))) Pf Pf)
    ·replace hm := yes_f hc190 hm
     refine wpD_exit ?_
     refine then_exit ?_
     have e115 := lp_done hm; subst e115; clear hm; have hm := hq115
     refine then_exit ?_
     refine block_hit ?_
     have e114 := yes_eq hm; subst e114
     refine ⟨rfl, ?_⟩
     exact WkX.of () (WkS.perm (WkS.cons rfl (Wk.refl _) (WkS.nil)) Pf Pf)
  ·intro s114 hw114; clear hm; have hm := ho114; clear q114 ho114
   refine then_normal ?_
   refine wpD_wkX hw114 (fun z114 => ?_)
   refine wpD_sr ?_
   refine pu ?_
   refine pu ?_
   refine ops_nt ?_
   refine wpD_ret ?_
   have er226 := yes_eq hm; subst er226
   refine rP (t' := [(2, .v (.int .i64 y114))]) [] [] 0 (wC wN) (lT lN) ?_
   exact ⟨rfl, rfl, rfl⟩
noncomputable def tree_Sizes_g : Nat → ((List TApiStmt) → Option (Int))
  | 0 => (fun _ => none)
  | n + 1 => (tree_Sizes_b ((tree_Sizes_g n)))
theorem tree_Sizes_g_ok : ∀ n, (∀ (a0 : List TApiStmt) (r : Int) (h0 : (tree_Sizes_g n) a0 = some r), CallsD Try.prog 48 [.lst 7 (a0.map eTApiStmt) .no] [] [] (fun d h k => d = .v (.int .i64 r) ∧ h = [] ∧ k = []))
  | 0 => fun _ _ h0 => by cases h0
  | n + 1 => by
    have ih := tree_Sizes_g_ok n
    exact tree_Sizes_b_ok (tree_Sizes_g n) ih
theorem tree_Sizes_g_le : ∀ n, (∀ (a0 : List TApiStmt), Le ((tree_Sizes_g n) a0) ((tree_Sizes_g (n + 1)) a0))
  | 0 => fun _ => Le.none _
  | n + 1 => by
    have ih := tree_Sizes_g_le n
    exact fun a0 => by show Le (tree_Sizes_b ((tree_Sizes_g n)) a0) (tree_Sizes_b ((tree_Sizes_g (n + 1))) a0); unfold tree_Sizes_b; repeat (first | exact Le.refl _ | exact ih _ | assumption | (refine Le.bind ?_ (fun _ => ?_)) | (refine Le.cond ?_ ?_) | (refine Le.loop (fun _ => ?_)) | (refine Le.elim (fun _ => ?_) (fun _ => ?_)))
noncomputable def tree_Sizes (a0 : List TApiStmt) : Option (Int) := anyN fun n => (tree_Sizes_g n) a0
theorem tree_Sizes_of (a0 : List TApiStmt) {r : Int} (n : Nat) (h : (tree_Sizes_g n) a0 = some r) : tree_Sizes a0 = some r := anyN_of (fun m => (tree_Sizes_g_le m) a0) h
theorem tree_Sizes_ok (a0 : List TApiStmt) (r : Int) (h0 : tree_Sizes a0 = some r) : CallsD Try.prog 48 [.lst 7 (a0.map eTApiStmt) .no] [] [] (fun d h k => d = .v (.int .i64 r) ∧ h = [] ∧ k = []) :=
  let ⟨n, hn⟩ := anyN_inv h0; (tree_Sizes_g_ok n) a0  r hn
noncomputable def grammar_reader_function (m0 : TGrammarReader) : Option (TApiFunc × TGrammarReader) :=
  ((grammar_reader_look m0 (0 : Int)).bind fun x3 => ((grammar_reader_eat m0 ([(ByteArray.mk #[105, 110, 116])] : List ByteArray)).bind fun x5 => ((grammar_reader_name x5).bind fun x6 => ((grammar_list_api_Var x6.2).bind fun x8 => ((grammar_reader_block x8.2 (⟨x6.1, x8.1, [], [], x3.gAt⟩ : TApiFunc)).bind fun x12 => (Option.bind (α := Bool) (bif (x12.2.1.gE == (0 : Int)) then ((tree_Sizes x12.1).bind fun x17 => some (decide ((800 : Int) < x17))) else some false) fun y15 => (bif y15 then ((grammar_reader_fail x12.2.1 x5.gAt (6 : Int)).bind fun x19 => some ((⟨x12.2.2.gName, x12.2.2.gParams, x12.2.2.gLocals, x12.1, x12.2.2.gAt⟩ : TApiFunc), x19)) else some ((⟨x12.2.2.gName, x12.2.2.gParams, x12.2.2.gLocals, x12.1, x12.2.2.gAt⟩ : TApiFunc), x12.2.1))))))))
set_option maxRecDepth 100000 in
set_option maxHeartbeats 2000000 in
theorem grammar_reader_function_ok (m0 : TGrammarReader) (o0 : Nat) (T0 : TypeId) (c0_0 : Cap) (r : TApiFunc × TGrammarReader) (h0 : grammar_reader_function m0 = some r) : CallsD Try.prog 22 [.ptr o0 0] [(o0, Blk.cells [.lst 4 (m0.gL.map eTApiToken) c0_0, .v (.int .i64 m0.gAt), .v (.int .i64 m0.gE), .v (.int .i64 m0.gVars), .v (.int .i64 m0.gOpen)] T0)] [] (fun d h k => ∃ y0 y1 y2, d = .agg [.v (.string r.1.gName), .lst 2 (r.1.gParams.map eTApiVar) (.cur y0), .lst 2 (r.1.gLocals.map eTApiVar) (.cur y1), .lst 7 (r.1.gBody.map eTApiStmt) (.cur y2), .v (.int .i64 r.1.gAt)] ∧ h = [(o0, Blk.cells [.lst 4 (r.2.gL.map eTApiToken) .no, .v (.int .i64 r.2.gAt), .v (.int .i64 r.2.gE), .v (.int .i64 r.2.gVars), .v (.int .i64 r.2.gOpen)] T0)] ∧ k = [(2, y0), (2, y1), (7, y2)]) := by
  have hm := yes_of h0
  unfold grammar_reader_function at hm
  clear h0
  refine enterX htab Try.func22 rfl rfl rfl rfl rfl (fun C => ?_)
  refine wpD_sr ?_
  refine p_box rfl rfl rfl rfl rfl rfl rfl (fun b1 => ?_)
  refine p_alloc htab rfl rfl rfl rfl rfl rfl rfl (fun b2 => ?_)
  refine ops_n2 ?_
  refine pL 1 ?_
  obtain ⟨x3, q3, hm⟩ := yes_bind hm
  refine pG (grammar_reader_look_ok m0 (0 : Int) o0 T0 c0_0 x3 q3) Wl Pf Pf ?_
  rintro _ _ _ ⟨rfl, rfl, rfl⟩
  refine pu ?_
  refine p_build (r := [.v (.string ByteArray.empty), .lst 1 [] .full, .lst 1 [] .full, .lst 1 [] .full, .v (.int .i64 x3.gAt)]) htab rfl rfl rfl rfl rfl rfl rfl rfl rfl ?_
  refine p_alloc htab rfl rfl rfl rfl rfl rfl rfl (fun b4 => ?_)
  refine pS3 (ds' := [.v (.string ByteArray.empty), .lst 1 [] .full, .lst 1 [] .full, .lst 1 [] .full, .v (.int .i64 x3.gAt)]) ?_
  refine ops_n2 ?_
  refine pL 1 ?_
  refine p_lit htab rfl rfl rfl rfl rfl rfl rfl rfl rfl rfl rfl rfl rfl rfl ?_
  refine p_eq (i := 10) (d' := .lst 1 (([(ByteArray.mk #[105, 110, 116])] : List ByteArray).map eStr) .full) rfl (Wk.lst0 (.cons (WkC.refl _) (.nil))) ?_
  obtain ⟨x5, q5, hm⟩ := yes_bind hm
  refine p_callG (grammar_reader_eat_ok m0 ([(ByteArray.mk #[105, 110, 116])] : List ByteArray) o0 T0 c0_0 x5 q5) rfl rfl rfl rfl rfl (WkL.cons (Wk.refl _) (WkL.cons (Wk.no) Wl)) Pf Pf ?_
  rintro _ _ _ ⟨rfl, rfl, rfl⟩
  refine ops_n2 ?_
  refine pL 1 ?_
  refine pu ?_
  refine pu ?_
  refine pL 0 ?_
  refine pu ?_
  refine ops_n2 ?_
  refine pL 1 ?_
  obtain ⟨x6, q6, hm⟩ := yes_bind hm
  refine pG (grammar_reader_name_ok x5 o0 T0 c0_0 x6 q6) Wl Pf Pf ?_
  rintro _ _ _ ⟨rfl, rfl, rfl⟩
  refine pu ?_
  refine pS3 (ds' := [.v (.string x6.1), .lst 1 [] .full, .lst 1 [] .full, .lst 1 [] .full, .v (.int .i64 x3.gAt)]) ?_
  refine ops_n2 ?_
  refine pL 1 ?_
  refine pL 1 ?_
  refine pu ?_
  obtain ⟨x8, q8, hm⟩ := yes_bind hm
  refine pG (grammar_list_api_Var_ok x6.2 o0 T0 c0_0 x8 q8) Wl Pf Pf ?_
  rintro _ _ _ ⟨w7, rfl, rfl, rfl⟩
  refine pu ?_
  refine pS3 (ds' := [.v (.string x6.1), .lst 2 (x8.1.map eTApiVar) (.cur w7), .lst 1 [] .full, .lst 1 [] .full, .v (.int .i64 x3.gAt)]) ?_
  refine ops_n2 ?_
  refine pL 1 ?_
  refine pu ?_
  refine p_cellF (off := 2) 2 3 rfl rfl (by first | exact Or.inl rfl | exact Or.inr rfl) (fun w9 => ?_)
  refine o_blk 3 rfl (ds' := [.v (.string x6.1), .lst 2 (x8.1.map eTApiVar) (.cur w7), .lst 2 (([] : List TApiVar).map eTApiVar) (.cur w9), .lst 7 (([] : List TApiStmt).map eTApiStmt) .full, .v (.int .i64 x3.gAt)]) (rC (rC (rC (WkR.cons (WkC.nilF) rfl (rC WkR.nil))))) rfl ?_
  obtain ⟨x12, q12, hm⟩ := yes_bind hm
  refine pG (grammar_reader_block_ok x8.2 (⟨x6.1, x8.1, [], [], x3.gAt⟩ : TApiFunc) o0 T0 .no b1 59 b4 26 (.cur w7) w9 .full x12 q12) Wl ((perm_at (j := 0) rfl).trans (List.Perm.cons _ ((perm_at (j := 0) rfl).trans (List.Perm.cons _ ((perm_at (j := 1) rfl).trans (List.Perm.cons _ Pf)))))) Pf ?_
  rintro _ _ _ ⟨w10, w11, rfl, rfl, rfl⟩
  refine pu ?_
  refine pS2 (ds' := [.v (.string x12.2.2.gName), .lst 2 (x12.2.2.gParams.map eTApiVar) (.cur w7), .lst 2 (x12.2.2.gLocals.map eTApiVar) (.cur w11), .lst 7 (x12.1.map eTApiStmt) (.cur w10), .v (.int .i64 x12.2.2.gAt)]) ?_
  refine ops_nt ?_
  refine wpD_seq ?_
  refine wpD_seq ?_
  obtain ⟨y15, q15, ho15⟩ := yes_bind hm
  refine wpD_mid (Y := Unit) (fun z15 => (⟨[(1, .ptr b1 0), (2, .ptr b2 0), (3, .ptr b4 0), (4, .v (.int .i64 x5.gAt)), (38, .v (.bool y15))], [(o0, Blk.cells [.lst 4 (x12.2.1.gL.map eTApiToken) .no, .v (.int .i64 x12.2.1.gAt), .v (.int .i64 x12.2.1.gE), .v (.int .i64 x12.2.1.gVars), .v (.int .i64 x12.2.1.gOpen)] T0), (b1, Blk.cells [.ptr o0 0] 59), (b4, Blk.cells [.v (.string x12.2.2.gName), .lst 2 (x12.2.2.gParams.map eTApiVar) (.cur w7), .lst 2 (x12.2.2.gLocals.map eTApiVar) (.cur w11), .lst 7 (x12.1.map eTApiStmt) (.cur w10), .v (.int .i64 x12.2.2.gAt)] 26), (b2, Blk.cells [.v (.string ByteArray.empty), .lst 1 [] .full, .lst 1 [] .full, .lst 1 [] .full, .v (.int .i64 (0 : Int))] 26)], [(7, w10), (2, w11), (2, w7)]⟩ : S)) ?_ ?_
  ·clear hm; have hm := yes_of q15
   refine wpD_region ?_
   refine pL 1 ?_
   refine pu ?_
   refine pu ?_
   refine pL 0 ?_
   refine pu ?_
   refine pu ?_
   refine p_split (i := 33) rfl (fun hg16 => ?_) (fun hg16 => ?_)
   ·replace hm := yes_t hg16 hm
    refine pu ?_
    refine pL 2 ?_
    obtain ⟨x17, q17, hm⟩ := yes_bind hm
    refine p_call0 (tree_Sizes_ok x12.1 x17 q17) rfl rfl rfl rfl rfl (WkL.cons (Wk.no) Wl) ?_
    rintro _ rfl
    refine pu ?_
    refine p_pickT rfl rfl rfl rfl rfl rfl ?_
    refine ops_nil ?_
    have e15 := yes_eq hm; subst e15
    refine ⟨rfl, ?_⟩
    exact WkX.of () (WkS.perm (WkS.cons rfl (Wk.refl _) (WkS.cons rfl (Wk.refl _) (WkS.cons rfl (Wk.refl _) (WkS.cons rfl (Wk.refl _) (WkS.cons rfl (Wk.refl _) (WkS.nil)))))) Pf Pf)
   ·replace hm := yes_f hg16 hm
    iterate 4 refine pK ?_
    refine p_pickF rfl rfl rfl rfl rfl rfl ?_
    refine ops_nil ?_
    have e15 := yes_eq hm; subst e15
    refine ⟨rfl, ?_⟩
    exact WkX.of () (WkS.perm (WkS.cons rfl (Wk.refl _) (WkS.cons rfl (Wk.refl _) (WkS.cons rfl (Wk.refl _) (WkS.cons rfl (Wk.refl _) (WkS.cons rfl (Wk.refl _) (WkS.nil)))))) Pf Pf)
  ·intro s15 hw15; clear hm; have hm := ho15; clear q15 ho15
   refine then_normal ?_
   refine wpD_wkX hw15 (fun z15 => ?_)
   refine wpD_cond rfl (fun hc18 => ?_) (fun hc18 => ?_)
   ·replace hm := yes_t hc18 hm
    refine wpD_region ?_
    refine pL 1 ?_
    refine pu ?_
    obtain ⟨x19, q19, hm⟩ := yes_bind hm
    refine pG (grammar_reader_fail_ok x12.2.1 x5.gAt (6 : Int) o0 T0 .no x19 q19) Wl Pf Pf ?_
    rintro _ _ _ ⟨rfl, rfl, rfl⟩
    refine ops_n2 ?_
    refine p_load (d := .agg [.v (.string x12.2.2.gName), .lst 2 (x12.2.2.gParams.map eTApiVar) (.cur w7), .lst 2 (x12.2.2.gLocals.map eTApiVar) (.cur w11), .lst 7 (x12.1.map eTApiStmt) (.cur w10), .v (.int .i64 x12.2.2.gAt)]) 2 htab rfl rfl rfl rfl rfl rfl rfl rfl ?_
    refine pS3 (ds' := [.v (.string x12.2.2.gName), .lst 2 (x12.2.2.gParams.map eTApiVar) (.cur w7), .lst 2 (x12.2.2.gLocals.map eTApiVar) (.cur w11), .lst 7 (x12.1.map eTApiStmt) (.cur w10), .v (.int .i64 x12.2.2.gAt)]) ?_
    refine ops_nt ?_
    refine wpD_ret ?_
    have er20 := yes_eq hm; subst er20
    refine rP (t' := [(2, .ptr b2 0)]) [0,2] [2,1,0] 1 (wC wN) (lC 1 lN) ?_
    exact ⟨w7, w11, w10, rfl, rfl, rfl⟩
   ·replace hm := yes_f hc18 hm
    refine wpD_skip ?_
    refine then_normal ?_
    refine wpD_sr ?_
    refine p_load (d := .agg [.v (.string x12.2.2.gName), .lst 2 (x12.2.2.gParams.map eTApiVar) (.cur w7), .lst 2 (x12.2.2.gLocals.map eTApiVar) (.cur w11), .lst 7 (x12.1.map eTApiStmt) (.cur w10), .v (.int .i64 x12.2.2.gAt)]) 2 htab rfl rfl rfl rfl rfl rfl rfl rfl ?_
    refine pS3 (ds' := [.v (.string x12.2.2.gName), .lst 2 (x12.2.2.gParams.map eTApiVar) (.cur w7), .lst 2 (x12.2.2.gLocals.map eTApiVar) (.cur w11), .lst 7 (x12.1.map eTApiStmt) (.cur w10), .v (.int .i64 x12.2.2.gAt)]) ?_
    refine ops_nt ?_
    refine wpD_ret ?_
    have er21 := yes_eq hm; subst er21
    refine rP (t' := [(2, .ptr b2 0)]) [0,2] [2,1,0] 1 (wC wN) (lC 1 lN) ?_
    exact ⟨w7, w11, w10, rfl, rfl, rfl⟩
noncomputable def grammar_Func (a0 : List TApiToken) (a1 : Int) : Option (TApiFunc × Int × Int) :=
  ((grammar_begin a0 a1).bind fun x3 => (bif (!x3.2) then some ((⟨ByteArray.empty, [], [], [], (0 : Int)⟩ : TApiFunc), (0 : Int), (2 : Int)) else ((grammar_reader_function x3.1).bind fun x13 => (bif (x13.2.gE != (0 : Int)) then some ((⟨ByteArray.empty, [], [], [], (0 : Int)⟩ : TApiFunc), x13.2.gAt, x13.2.gE) else some (x13.1, x13.2.gAt, (0 : Int))))))
set_option maxRecDepth 100000 in
set_option maxHeartbeats 2000000 in
theorem grammar_Func_ok (a0 : List TApiToken) (a1 : Int) (r : TApiFunc × Int × Int) (h0 : grammar_Func a0 a1 = some r) : CallsD Try.prog 10 [.lst 4 (a0.map eTApiToken) .no, .v (.int .i64 a1)] [] [] (fun d h k => ∃ y0 y1 y2, d = .tup [.agg [.v (.string r.1.gName), .lst 2 (r.1.gParams.map eTApiVar) (.cur y0), .lst 2 (r.1.gLocals.map eTApiVar) (.cur y1), .lst 7 (r.1.gBody.map eTApiStmt) (.cur y2), .v (.int .i64 r.1.gAt)], .v (.int .i64 r.2.1), .v (.int .i64 r.2.2)] ∧ h = [] ∧ k = [(2, y0), (2, y1), (7, y2)]) := by
  have hm := yes_of h0
  unfold grammar_Func at hm
  clear h0
  refine enterX htab Try.func10 rfl rfl rfl rfl rfl (fun C => ?_)
  refine wpD_sr ?_
  refine p_alloc htab rfl rfl rfl rfl rfl rfl rfl (fun b1 => ?_)
  refine pu ?_
  refine pu ?_
  refine ops_n2 ?_
  refine pu ?_
  refine pu ?_
  obtain ⟨x3, q3, hm⟩ := yes_bind hm
  refine pG (grammar_begin_ok a0 a1 x3 q3) Wl Pf Pf ?_
  rintro _ _ _ ⟨w2, rfl, rfl, rfl⟩
  iterate 5 refine pu ?_
  refine ops_nt ?_
  refine wpD_seq ?_
  refine wpD_sr ?_
  refine pu ?_
  refine pu ?_
  refine ops_nt ?_
  refine wpD_cond rfl (fun hc5 => ?_) (fun hc5 => ?_)
  ·replace hm := yes_t hc5 hm
   refine wpD_sr ?_
   refine p_build (r := [.v (.string ByteArray.empty), .lst 1 [] .full, .lst 1 [] .full, .lst 1 [] .full, .v (.int .i64 (0 : Int))]) htab rfl rfl rfl rfl rfl rfl rfl rfl rfl ?_
   refine pS1 (ds' := [.v (.string ByteArray.empty), .lst 1 [] .full, .lst 1 [] .full, .lst 1 [] .full, .v (.int .i64 (0 : Int))]) ?_
   refine pu ?_
   refine pu ?_
   refine ops_nt ?_
   refine wpD_ret ?_
   refine then_ret ?_
   have er6 := yes_eq hm; subst er6
   refine retX.cellF (off := 1) 2 1 rfl rfl (by first | exact Or.inl rfl | exact Or.inr rfl) (fun w7 => ?_)
   refine retX.cellF (off := 2) 2 1 rfl rfl (by first | exact Or.inl rfl | exact Or.inr rfl) (fun w8 => ?_)
   refine retX.cellF (off := 3) 7 1 rfl rfl (by first | exact Or.inl rfl | exact Or.inr rfl) (fun w9 => ?_)
   refine rP (t' := [(4, .ptr b1 0), (5, .v (.int .i64 (0 : Int))), (6, .v (.int .i64 (2 : Int)))]) [1] [2,1,0] 0 (wC (wC (wC wN))) (lC 0 (lT (lT lN))) ?_
   exact ⟨w7, w8, w9, rfl, rfl, rfl⟩
  ·replace hm := yes_f hc5 hm
   refine wpD_skip ?_
   refine then_normal ?_
   refine wpD_sr ?_
   refine pu ?_
   obtain ⟨x13, q13, hm⟩ := yes_bind hm
   refine pG (grammar_reader_function_ok x3.1 w2 64 .no x13 q13) Wl Pf Pf ?_
   rintro _ _ _ ⟨w10, w11, w12, rfl, rfl, rfl⟩
   refine p_alloc htab rfl rfl rfl rfl rfl rfl rfl (fun b14 => ?_)
   refine pS2 (ds' := [.v (.string x13.1.gName), .lst 2 (x13.1.gParams.map eTApiVar) (.cur w10), .lst 2 (x13.1.gLocals.map eTApiVar) (.cur w11), .lst 7 (x13.1.gBody.map eTApiStmt) (.cur w12), .v (.int .i64 x13.1.gAt)]) ?_
   refine ops_nt ?_
   refine wpD_seq ?_
   refine wpD_sr ?_
   iterate 3 refine pu ?_
   refine pL 0 ?_
   refine pu ?_
   refine ops_nt ?_
   refine wpD_cond rfl (fun hc17 => ?_) (fun hc17 => ?_)
   ·replace hm := yes_t hc17 hm
    refine wpD_seq ?_
    refine wpD_store 11 [] [[],[],[1],[1,2],[1,2,3],[],[5],[5,6],[5,6,7],[0],[0,1,2,3,4,9]] [0,1,2,3,4,5,6,7,8,9] [[],[],[1],[1,2],[1,2,3],[],[5],[5,6],[5,6,7],[0],[0,1,2,3,4,9],[0,1,2,3,4,5,6,7,8,9,10]] 9 (by kernel_rfl) (by kernel_rfl) (by kernel_rfl) (by rfl) (by rfl) (by kernel_rfl) ?_
    refine ⟨[(w2, Blk.cells [.lst 4 (x13.2.gL.map eTApiToken) .no, .v (.int .i64 x13.2.gAt), .v (.int .i64 x13.2.gE), .v (.int .i64 x13.2.gVars), .v (.int .i64 x13.2.gOpen)] 64), (b1, Blk.cells [.v (.string ByteArray.empty), .lst 1 [] .full, .lst 1 [] .full, .lst 1 [] .full, .v (.int .i64 (0 : Int))] 26), (b14, Blk.cells [.v (.string x13.1.gName), .lst 2 (x13.1.gParams.map eTApiVar) (.cur w10), .lst 2 (x13.1.gLocals.map eTApiVar) (.cur w11), .lst 7 (x13.1.gBody.map eTApiStmt) (.cur w12), .v (.int .i64 x13.1.gAt)] 26)], ?_⟩
    iterate 9 apply Exists.intro
    refine ⟨.any, ?_⟩
    intro bs v18
    refine zh_e rfl rfl (x_build (r := [.v (.string ByteArray.empty), .lst 1 [] .full, .lst 1 [] .full, .lst 1 [] .full, .v (.int .i64 (0 : Int))]) htab rfl rfl rfl rfl rfl rfl) rfl rfl rfl rfl rfl rfl rfl rfl ?_
    iterate 3 refine zh_e rfl rfl (ex_pure htab rfl) rfl rfl rfl rfl rfl rfl rfl rfl ?_
    refine zh_M rfl rfl (fun _ => xm_load 0 htab rfl rfl rfl rfl rfl) (fun _ => xm_load 0 htab rfl rfl rfl rfl rfl) rfl rfl rfl rfl rfl rfl rfl rfl ?_
    iterate 3 refine zh_e rfl rfl (ex_pure htab rfl) rfl rfl rfl rfl rfl rfl rfl rfl ?_
    refine zh_M rfl rfl (fun _ => xm_load 0 htab rfl rfl rfl rfl rfl) (fun _ => xm_load 0 htab rfl rfl rfl rfl rfl) rfl rfl rfl rfl rfl rfl rfl rfl ?_
    refine zh_store 1 htab rfl rfl rfl rfl rfl rfl rfl rfl rfl rfl rfl rfl rfl rfl rfl rfl ?_
    refine zh_q rfl rfl (ex_pure htab rfl) rfl rfl rfl rfl rfl rfl ?_
    refine zh_nil rfl rfl rfl rfl (fun e he => by simp [isAl] at he) ?_
    refine pu ?_
    refine ops_nt ?_
    refine wpD_ret ?_
    refine then_ret ?_
    have er19 := yes_eq hm; subst er19
    refine retX.cellF (off := 1) 2 1 rfl rfl (by first | exact Or.inl rfl | exact Or.inr rfl) (fun w20 => ?_)
    refine retX.cellF (off := 2) 2 1 rfl rfl (by first | exact Or.inl rfl | exact Or.inr rfl) (fun w21 => ?_)
    refine retX.cellF (off := 3) 7 1 rfl rfl (by first | exact Or.inl rfl | exact Or.inr rfl) (fun w22 => ?_)
    refine rP (t' := [(4, .ptr b1 0), (5, .v (.int .i64 x13.2.gAt)), (6, .v (.int .i64 x13.2.gE))]) [1] [2,1,0] 0 (wC (wC (wC wN))) (lC 0 (lT (lT lN))) ?_
    exact ⟨w20, w21, w22, rfl, rfl, rfl⟩
   ·replace hm := yes_f hc17 hm
    refine wpD_skip ?_
    refine then_normal ?_
    refine wpD_seq ?_
    refine wpD_store 6 [] [[],[],[1],[1,2],[1,2,3],[0]] [0,1,2,3,4,5] [[],[],[1],[1,2],[1,2,3],[0],[0,1,2,3,4,5],[0,1,2,3,4,5,6]] 5 (by kernel_rfl) (by kernel_rfl) (by kernel_rfl) (by rfl) (by rfl) (by kernel_rfl) ?_
    refine ⟨[(w2, Blk.cells [.lst 4 (x13.2.gL.map eTApiToken) .no, .v (.int .i64 x13.2.gAt), .v (.int .i64 x13.2.gE), .v (.int .i64 x13.2.gVars), .v (.int .i64 x13.2.gOpen)] 64), (b1, Blk.cells [.v (.string x13.1.gName), .lst 2 (x13.1.gParams.map eTApiVar) (.cur w10), .lst 2 (x13.1.gLocals.map eTApiVar) (.cur w11), .lst 7 (x13.1.gBody.map eTApiStmt) (.cur w12), .v (.int .i64 x13.1.gAt)] 26), (b14, Blk.cells [.v (.string x13.1.gName), .lst 2 (x13.1.gParams.map eTApiVar) (.cur w10), .lst 2 (x13.1.gLocals.map eTApiVar) (.cur w11), .lst 7 (x13.1.gBody.map eTApiStmt) (.cur w12), .v (.int .i64 x13.1.gAt)] 26)], ?_⟩
    iterate 5 apply Exists.intro
    refine ⟨.any, ?_⟩
    intro bs v23
    refine zh_M rfl rfl (fun _ => xm_load (d := .agg [.v (.string x13.1.gName), .lst 2 (x13.1.gParams.map eTApiVar) (.cur w10), .lst 2 (x13.1.gLocals.map eTApiVar) (.cur w11), .lst 7 (x13.1.gBody.map eTApiStmt) (.cur w12), .v (.int .i64 x13.1.gAt)]) 2 htab rfl rfl rfl rfl rfl) (offB rfl) rfl rfl rfl rfl rfl rfl rfl rfl ?_
    iterate 3 refine zh_e rfl rfl (ex_pure htab rfl) rfl rfl rfl rfl rfl rfl rfl rfl ?_
    refine zh_M rfl rfl (fun _ => xm_load 0 htab rfl rfl rfl rfl rfl) (fun _ => xm_load 0 htab rfl rfl rfl rfl rfl) rfl rfl rfl rfl rfl rfl rfl rfl ?_
    refine zh_store 1 htab rfl rfl rfl rfl rfl rfl rfl rfl rfl rfl rfl rfl rfl rfl rfl rfl ?_
    refine zh_nil rfl rfl rfl rfl (fun e he => by simp [isAl] at he) ?_
    refine pu ?_
    refine pu ?_
    refine ops_nt ?_
    refine wpD_ret ?_
    have er24 := yes_eq hm; subst er24
    refine rP (t' := [(4, .ptr b1 0), (5, .v (.int .i64 x13.2.gAt)), (6, .v (.int .i64 (0 : Int)))]) [1] [0,0,0] 0 (wC (wC (wC wN))) (lC 0 (lT (lT lN))) ?_
    exact ⟨w10, w11, w12, rfl, rfl, rfl⟩
noncomputable def grammar_text_api_Func (a0 : List UInt8) : Option (TApiFunc × Int × Int) :=
  ((token_Read a0).bind fun x4 => (bif (x4.2.2 != (0 : Int)) then some ((⟨ByteArray.empty, [], [], [], (0 : Int)⟩ : TApiFunc), x4.2.1, x4.2.2) else ((grammar_Func x4.1 (0 : Int)).bind fun x14 => ((idx x4.1 (min x14.2.1 (IntKind.i64.wrap ((x4.1.length : Int) - (1 : Int))))).bind fun x16 => (bif (x14.2.2 != (0 : Int)) then some ((⟨ByteArray.empty, [], [], [], (0 : Int)⟩ : TApiFunc), x16.gAt, x14.2.2) else (bif (x16.gKind != (0 : Int)) then some ((⟨ByteArray.empty, [], [], [], (0 : Int)⟩ : TApiFunc), x16.gAt, (3 : Int)) else some (x14.1, (0 : Int), (0 : Int))))))))
set_option maxRecDepth 100000 in
set_option maxHeartbeats 2000000 in
theorem grammar_text_api_Func_ok (a0 : List UInt8) (r : TApiFunc × Int × Int) (h0 : grammar_text_api_Func a0 = some r) : CallsD Try.prog 16 [.lst 1 (a0.map byteD) .no, .fn (.func 10) [] []] [] [] (fun d h k => ∃ y0 y1 y2, d = .tup [.agg [.v (.string r.1.gName), .lst 2 (r.1.gParams.map eTApiVar) (.cur y0), .lst 2 (r.1.gLocals.map eTApiVar) (.cur y1), .lst 7 (r.1.gBody.map eTApiStmt) (.cur y2), .v (.int .i64 r.1.gAt)], .v (.int .i64 r.2.1), .v (.int .i64 r.2.2)] ∧ h = [] ∧ k = [(2, y0), (2, y1), (7, y2)]) := by
  have hm := yes_of h0
  unfold grammar_text_api_Func at hm
  clear h0
  refine enterX htab Try.func16 rfl rfl rfl rfl rfl (fun C => ?_)
  refine wpD_sr ?_
  refine p_alloc htab rfl rfl rfl rfl rfl rfl rfl (fun b1 => ?_)
  refine pu ?_
  refine pu ?_
  refine ops_n2 ?_
  refine p_alloc htab rfl rfl rfl rfl rfl rfl rfl (fun b2 => ?_)
  refine ops_n2 ?_
  refine pu ?_
  obtain ⟨x4, q4, hm⟩ := yes_bind hm
  refine pG (token_Read_ok a0 x4 q4) Wl Pf Pf ?_
  rintro _ _ _ ⟨w3, rfl, rfl, rfl⟩
  iterate 7 refine pu ?_
  refine ops_nt ?_
  refine wpD_seq ?_
  refine wpD_sr ?_
  refine pu ?_
  refine pu ?_
  refine ops_nt ?_
  refine wpD_cond rfl (fun hc6 => ?_) (fun hc6 => ?_)
  ·replace hm := yes_t hc6 hm
   refine wpD_sr ?_
   refine p_load (d := .agg [.v (.string ByteArray.empty), .lst 1 [] .full, .lst 1 [] .full, .lst 1 [] .full, .v (.int .i64 (0 : Int))]) 1 htab rfl rfl rfl rfl rfl rfl rfl rfl ?_
   refine pu ?_
   refine pu ?_
   refine pS0 (ds' := [.v (.string ByteArray.empty), .lst 1 [] .full, .lst 1 [] .full, .lst 1 [] .full, .v (.int .i64 (0 : Int))]) ?_
   refine pu ?_
   refine pu ?_
   refine ops_nt ?_
   refine wpD_ret ?_
   refine then_ret ?_
   have er7 := yes_eq hm; subst er7
   refine retX.cellF (off := 1) 2 0 rfl rfl (by first | exact Or.inl rfl | exact Or.inr rfl) (fun w8 => ?_)
   refine retX.cellF (off := 2) 2 0 rfl rfl (by first | exact Or.inl rfl | exact Or.inr rfl) (fun w9 => ?_)
   refine retX.cellF (off := 3) 7 0 rfl rfl (by first | exact Or.inl rfl | exact Or.inr rfl) (fun w10 => ?_)
   refine rP (t' := [(4, .ptr b1 0), (5, .v (.int .i64 x4.2.1)), (6, .v (.int .i64 x4.2.2))]) [0] [2,1,0] 0 (wC (wC (wC wN))) (lC 0 (lT (lT lN))) ?_
   exact ⟨w8, w9, w10, rfl, rfl, rfl⟩
  ·replace hm := yes_f hc6 hm
   refine wpD_skip ?_
   refine then_normal ?_
   refine wpD_sr ?_
   refine pu ?_
   refine pu ?_
   obtain ⟨x14, q14, hm⟩ := yes_bind hm
   refine p_callV (grammar_Func_ok x4.1 (0 : Int) x14 q14) rfl rfl rfl rfl rfl rfl rfl (WkL.cons (Wk.no) (WkL.cons (Wk.refl _) Wl)) Pf Pf ?_
   rintro _ _ _ ⟨w11, w12, w13, rfl, rfl, rfl⟩
   iterate 4 refine pu ?_
   refine p_alloc htab rfl rfl rfl rfl rfl rfl rfl (fun b15 => ?_)
   refine pS2 (ds' := [.v (.string x14.1.gName), .lst 2 (x14.1.gParams.map eTApiVar) (.cur w11), .lst 2 (x14.1.gLocals.map eTApiVar) (.cur w12), .lst 7 (x14.1.gBody.map eTApiStmt) (.cur w13), .v (.int .i64 x14.1.gAt)]) ?_
   refine pu ?_
   refine pu ?_
   refine ops_n2 ?_
   iterate 3 refine pu ?_
   refine p_lenL htab rfl rfl rfl rfl rfl rfl rfl (by first | exact map_len | rfl) ?_
   refine pu ?_
   refine p_min rfl rfl rfl rfl rfl rfl ?_
   obtain ⟨x16, q16, hm⟩ := yes_bind hm
   refine p_elem htab rfl rfl rfl rfl rfl rfl rfl rfl rfl rfl (idx_nonneg q16) (idx_map q16) ?_
   refine p_loadEl (d := eTApiToken x16) htab rfl rfl rfl rfl rfl rfl rfl rfl ?_
   refine p_alloc htab rfl rfl rfl rfl rfl rfl rfl (fun b17 => ?_)
   refine pS3 (ds' := [.v (.int .i64 x16.gKind), .v (.string x16.gText), .v (.int .i64 x16.gN), .v (.int .i64 x16.gAt)]) ?_
   refine ops_nt ?_
   refine wpD_seq ?_
   refine wpD_block ?_
   refine wpD_sr ?_
   iterate 3 refine pu ?_
   refine ops_nt ?_
   refine wpD_cond rfl (fun hc26 => ?_) (fun hc26 => ?_)
   ·replace hm := yes_t hc26 hm
    refine wpD_seq ?_
    refine wpD_store 6 [] [[],[],[1],[],[0],[0,1,2,4]] [0,1,2,4] [[],[],[1],[],[0],[0,1,2,4],[0,1,2,3,4,5]] 4 (by kernel_rfl) (by kernel_rfl) (by kernel_rfl) (by rfl) (by rfl) (by kernel_rfl) ?_
    refine ⟨[(b1, Blk.cells [.v (.string ByteArray.empty), .lst 1 [] .full, .lst 1 [] .full, .lst 1 [] .full, .v (.int .i64 (0 : Int))] 26), (b2, Blk.cells [.v (.string ByteArray.empty), .lst 1 [] .full, .lst 1 [] .full, .lst 1 [] .full, .v (.int .i64 (0 : Int))] 26), (b15, Blk.cells [.v (.string x14.1.gName), .lst 2 (x14.1.gParams.map eTApiVar) (.cur w11), .lst 2 (x14.1.gLocals.map eTApiVar) (.cur w12), .lst 7 (x14.1.gBody.map eTApiStmt) (.cur w13), .v (.int .i64 x14.1.gAt)] 26), (b17, Blk.cells [.v (.int .i64 x16.gKind), .v (.string x16.gText), .v (.int .i64 x16.gN), .v (.int .i64 x16.gAt)] 69)], ?_⟩
    iterate 3 apply Exists.intro
    refine ⟨.any, ?_⟩
    intro bs v27
    refine zh_M rfl rfl (fun _ => xm_load (d := .agg [.v (.string ByteArray.empty), .lst 1 [] .full, .lst 1 [] .full, .lst 1 [] .full, .v (.int .i64 (0 : Int))]) 1 htab rfl rfl rfl rfl rfl) (offB rfl) rfl rfl rfl rfl rfl rfl rfl rfl ?_
    refine zh_e rfl rfl (ex_pure htab rfl) rfl rfl rfl rfl rfl rfl rfl rfl ?_
    refine zh_M rfl rfl (fun _ => xm_load 3 htab rfl rfl rfl rfl rfl) (fun _ => xm_load 3 htab rfl rfl rfl rfl rfl) rfl rfl rfl rfl rfl rfl rfl rfl ?_
    refine zh_q rfl rfl (ex_pure htab rfl) rfl rfl rfl rfl rfl rfl ?_
    refine zh_store 0 htab rfl rfl rfl rfl rfl rfl rfl rfl rfl rfl rfl rfl rfl rfl rfl rfl ?_
    refine zh_q rfl rfl (ex_pure htab rfl) rfl rfl rfl rfl rfl rfl ?_
    refine zh_nil rfl rfl rfl rfl (fun e he => by simp [isAl] at he) ?_
    refine pu ?_
    refine ops_nt ?_
    refine wpD_ret ?_
    refine block_ret ?_
    refine then_ret ?_
    have er28 := yes_eq hm; subst er28
    refine retX.cellF (off := 1) 2 0 rfl rfl (by first | exact Or.inl rfl | exact Or.inr rfl) (fun w29 => ?_)
    refine retX.cellF (off := 2) 2 0 rfl rfl (by first | exact Or.inl rfl | exact Or.inr rfl) (fun w30 => ?_)
    refine retX.cellF (off := 3) 7 0 rfl rfl (by first | exact Or.inl rfl | exact Or.inr rfl) (fun w31 => ?_)
    refine rP (t' := [(4, .ptr b1 0), (5, .v (.int .i64 x16.gAt)), (6, .v (.int .i64 x14.2.2))]) [0] [2,1,0] 0 (wC (wC (wC wN))) (lC 0 (lT (lT lN))) ?_
    exact ⟨w29, w30, w31, rfl, rfl, rfl⟩
   ·replace hm := yes_f hc26 hm
    refine wpD_sr ?_
    refine pu ?_
    refine pL 3 ?_
    refine pu ?_
    refine pu ?_
    refine ops_nt ?_
    refine wpD_cond rfl (fun hc34 => ?_) (fun hc34 => ?_)
    ·replace hm := yes_t hc34 hm
     refine wpD_seq ?_
     refine wpD_store 4 [] [[],[],[1],[0]] [0,1,2,3] [[],[],[1],[0],[0,1,2,3],[0,1,2,3,4]] 3 (by kernel_rfl) (by kernel_rfl) (by kernel_rfl) (by rfl) (by rfl) (by kernel_rfl) ?_
     refine ⟨[(b1, Blk.cells [.v (.string ByteArray.empty), .lst 1 [] .full, .lst 1 [] .full, .lst 1 [] .full, .v (.int .i64 (0 : Int))] 26), (b2, Blk.cells [.v (.string ByteArray.empty), .lst 1 [] .full, .lst 1 [] .full, .lst 1 [] .full, .v (.int .i64 (0 : Int))] 26), (b15, Blk.cells [.v (.string x14.1.gName), .lst 2 (x14.1.gParams.map eTApiVar) (.cur w11), .lst 2 (x14.1.gLocals.map eTApiVar) (.cur w12), .lst 7 (x14.1.gBody.map eTApiStmt) (.cur w13), .v (.int .i64 x14.1.gAt)] 26), (b17, Blk.cells [.v (.int .i64 x16.gKind), .v (.string x16.gText), .v (.int .i64 x16.gN), .v (.int .i64 x16.gAt)] 69)], ?_⟩
     iterate 3 apply Exists.intro
     refine ⟨.any, ?_⟩
     intro bs v35
     refine zh_M rfl rfl (fun _ => xm_load (d := .agg [.v (.string ByteArray.empty), .lst 1 [] .full, .lst 1 [] .full, .lst 1 [] .full, .v (.int .i64 (0 : Int))]) 1 htab rfl rfl rfl rfl rfl) (offB rfl) rfl rfl rfl rfl rfl rfl rfl rfl ?_
     refine zh_e rfl rfl (ex_pure htab rfl) rfl rfl rfl rfl rfl rfl rfl rfl ?_
     refine zh_M rfl rfl (fun _ => xm_load 3 htab rfl rfl rfl rfl rfl) (fun _ => xm_load 3 htab rfl rfl rfl rfl rfl) rfl rfl rfl rfl rfl rfl rfl rfl ?_
     refine zh_store 0 htab rfl rfl rfl rfl rfl rfl rfl rfl rfl rfl rfl rfl rfl rfl rfl rfl ?_
     refine zh_nil rfl rfl rfl rfl (fun e he => by simp [isAl] at he) ?_
     refine pu ?_
     refine pu ?_
     refine ops_nt ?_
     refine wpD_ret ?_
     refine block_ret ?_
     refine then_ret ?_
     have er36 := yes_eq hm; subst er36
     refine retX.cellF (off := 1) 2 0 rfl rfl (by first | exact Or.inl rfl | exact Or.inr rfl) (fun w37 => ?_)
     refine retX.cellF (off := 2) 2 0 rfl rfl (by first | exact Or.inl rfl | exact Or.inr rfl) (fun w38 => ?_)
     refine retX.cellF (off := 3) 7 0 rfl rfl (by first | exact Or.inl rfl | exact Or.inr rfl) (fun w39 => ?_)
     refine rP (t' := [(4, .ptr b1 0), (5, .v (.int .i64 x16.gAt)), (6, .v (.int .i64 (3 : Int)))]) [0] [2,1,0] 0 (wC (wC (wC wN))) (lC 0 (lT (lT lN))) ?_
     exact ⟨w37, w38, w39, rfl, rfl, rfl⟩
    ·replace hm := yes_f hc34 hm
     refine wpD_skip ?_
     refine block_normal ?_
     refine then_normal ?_
     refine wpD_sr ?_
     refine p_load (d := .agg [.v (.string x14.1.gName), .lst 2 (x14.1.gParams.map eTApiVar) (.cur w11), .lst 2 (x14.1.gLocals.map eTApiVar) (.cur w12), .lst 7 (x14.1.gBody.map eTApiStmt) (.cur w13), .v (.int .i64 x14.1.gAt)]) 2 htab rfl rfl rfl rfl rfl rfl rfl rfl ?_
     refine pS0 (ds' := [.v (.string x14.1.gName), .lst 2 (x14.1.gParams.map eTApiVar) (.cur w11), .lst 2 (x14.1.gLocals.map eTApiVar) (.cur w12), .lst 7 (x14.1.gBody.map eTApiStmt) (.cur w13), .v (.int .i64 x14.1.gAt)]) ?_
     refine pu ?_
     refine pu ?_
     refine ops_nt ?_
     refine wpD_ret ?_
     have er40 := yes_eq hm; subst er40
     refine rP (t' := [(4, .ptr b1 0), (5, .v (.int .i64 (0 : Int))), (6, .v (.int .i64 (0 : Int)))]) [0] [0,0,0] 0 (wC (wC (wC wN))) (lC 0 (lT (lT lN))) ?_
     exact ⟨w11, w12, w13, rfl, rfl, rfl⟩
noncomputable def grammar_FuncText (a0 : List UInt8) : Option (TApiFunc × Int × Int) :=
  ((grammar_text_api_Func a0).bind fun x5 => some (x5.1, x5.2.1, x5.2.2))
set_option maxRecDepth 100000 in
set_option maxHeartbeats 2000000 in
theorem grammar_FuncText_ok (a0 : List UInt8) (r : TApiFunc × Int × Int) (h0 : grammar_FuncText a0 = some r) : CallsD Try.prog 6 [.lst 1 (a0.map byteD) .no] [] [] (fun d h k => ∃ y0 y1 y2, d = .tup [.agg [.v (.string r.1.gName), .lst 2 (r.1.gParams.map eTApiVar) (.cur y0), .lst 2 (r.1.gLocals.map eTApiVar) (.cur y1), .lst 7 (r.1.gBody.map eTApiStmt) (.cur y2), .v (.int .i64 r.1.gAt)], .v (.int .i64 r.2.1), .v (.int .i64 r.2.2)] ∧ h = [] ∧ k = [(2, y0), (2, y1), (7, y2)]) := by
  have hm := yes_of h0
  unfold grammar_FuncText at hm
  clear h0
  refine enterX htab Try.func6 rfl rfl rfl rfl rfl (fun C => ?_)
  refine wpD_sr ?_
  refine p_alloc htab rfl rfl rfl rfl rfl rfl rfl (fun b1 => ?_)
  refine pu ?_
  refine pu ?_
  refine ops_n2 ?_
  refine pu ?_
  obtain ⟨x5, q5, hm⟩ := yes_bind hm
  refine pG (grammar_text_api_Func_ok a0 x5 q5) Wl Pf Pf ?_
  rintro _ _ _ ⟨w2, w3, w4, rfl, rfl, rfl⟩
  iterate 3 refine pu ?_
  refine pS0 (ds' := [.v (.string x5.1.gName), .lst 2 (x5.1.gParams.map eTApiVar) (.cur w2), .lst 2 (x5.1.gLocals.map eTApiVar) (.cur w3), .lst 7 (x5.1.gBody.map eTApiStmt) (.cur w4), .v (.int .i64 x5.1.gAt)]) ?_
  refine pu ?_
  refine pu ?_
  refine ops_nt ?_
  refine wpD_ret ?_
  have er6 := yes_eq hm; subst er6
  refine rP (t' := [(2, .ptr b1 0), (3, .v (.int .i64 x5.2.1)), (4, .v (.int .i64 x5.2.2))]) [0] [0,0,0] 0 (wC (wC (wC wN))) (lC 0 (lT (lT lN))) ?_
  exact ⟨w2, w3, w4, rfl, rfl, rfl⟩
noncomputable def r10_letter (a0 : Int) : Option (Bool) :=
  (bif (decide ((97 : Int) ≤ a0)) then (bif (decide (a0 ≤ (122 : Int))) then some true else (bif (decide ((65 : Int) ≤ a0)) then (bif (decide (a0 ≤ (90 : Int))) then some true else some (a0 == (95 : Int))) else some (a0 == (95 : Int)))) else (bif (decide ((65 : Int) ≤ a0)) then (bif (decide (a0 ≤ (90 : Int))) then some true else some (a0 == (95 : Int))) else some (a0 == (95 : Int))))
set_option maxRecDepth 100000 in
set_option maxHeartbeats 2000000 in
theorem r10_letter_ok (a0 : Int) (r : Bool) (h0 : r10_letter a0 = some r) : CallsD Try.prog 54 [.v (.int .u8 a0)] [] [] (fun d h k => d = .v (.bool r) ∧ h = [] ∧ k = []) := by
  have hm := yes_of h0
  unfold r10_letter at hm
  clear h0
  refine enterX htab Try.func54 rfl rfl rfl rfl rfl (fun C => ?_)
  refine wpD_sr ?_
  refine pu ?_
  refine ops_n2 ?_
  iterate 3 refine pu ?_
  refine p_split (i := 5) rfl (fun hg1 => ?_) (fun hg1 => ?_)
  ·replace hm := yes_t hg1 hm
   refine pu ?_
   refine pu ?_
   refine p_pickT rfl rfl rfl rfl rfl rfl ?_
   refine pu ?_
   refine p_split (i := 9) rfl (fun hg2 => ?_) (fun hg2 => ?_)
   ·replace hm := yes_t hg2 hm
    iterate 6 refine pK ?_
    refine p_pickT rfl rfl rfl rfl rfl rfl ?_
    refine pu ?_
    refine pK ?_
    refine pK ?_
    refine p_pickT rfl rfl rfl rfl rfl rfl ?_
    refine pu ?_
    refine ops_nt ?_
    refine wpD_ret ?_
    have er3 := yes_eq hm; subst er3
    refine rP (t' := [(2, .v (.bool true))]) [] [] 0 (wC wN) (lT lN) ?_
    exact ⟨rfl, rfl, rfl⟩
   ·replace hm := yes_f hg2 hm
    iterate 3 refine pu ?_
    refine p_split (i := 12) rfl (fun hg4 => ?_) (fun hg4 => ?_)
    ·replace hm := yes_t hg4 hm
     refine pu ?_
     refine pu ?_
     refine p_pickT rfl rfl rfl rfl rfl rfl ?_
     refine p_pickF rfl rfl rfl rfl rfl rfl ?_
     refine pu ?_
     refine p_split (i := 17) rfl (fun hg5 => ?_) (fun hg5 => ?_)
     ·replace hm := yes_t hg5 hm
      refine pK ?_
      refine pK ?_
      refine p_pickT rfl rfl rfl rfl rfl rfl ?_
      refine pu ?_
      refine ops_nt ?_
      refine wpD_ret ?_
      have er6 := yes_eq hm; subst er6
      refine rP (t' := [(2, .v (.bool true))]) [] [] 0 (wC wN) (lT lN) ?_
      exact ⟨rfl, rfl, rfl⟩
     ·replace hm := yes_f hg5 hm
      refine pu ?_
      refine pu ?_
      refine p_pickF rfl rfl rfl rfl rfl rfl ?_
      refine pu ?_
      refine ops_nt ?_
      refine wpD_ret ?_
      have er7 := yes_eq hm; subst er7
      refine rP (t' := [(2, .v (.bool (a0 == (95 : Int))))]) [] [] 0 (wC wN) (lT lN) ?_
      exact ⟨rfl, rfl, rfl⟩
    ·replace hm := yes_f hg4 hm
     refine pK ?_
     refine pK ?_
     refine p_pickF rfl rfl rfl rfl rfl rfl ?_
     refine p_pickF rfl rfl rfl rfl rfl rfl ?_
     iterate 3 refine pu ?_
     refine p_pickF rfl rfl rfl rfl rfl rfl ?_
     refine pu ?_
     refine ops_nt ?_
     refine wpD_ret ?_
     have er8 := yes_eq hm; subst er8
     refine rP (t' := [(2, .v (.bool (a0 == (95 : Int))))]) [] [] 0 (wC wN) (lT lN) ?_
     exact ⟨rfl, rfl, rfl⟩
  ·replace hm := yes_f hg1 hm
   refine pK ?_
   refine pK ?_
   refine p_pickF rfl rfl rfl rfl rfl rfl ?_
   iterate 4 refine pu ?_
   refine p_split (i := 12) rfl (fun hg9 => ?_) (fun hg9 => ?_)
   ·replace hm := yes_t hg9 hm
    refine pu ?_
    refine pu ?_
    refine p_pickT rfl rfl rfl rfl rfl rfl ?_
    refine p_pickF rfl rfl rfl rfl rfl rfl ?_
    refine pu ?_
    refine p_split (i := 17) rfl (fun hg10 => ?_) (fun hg10 => ?_)
    ·replace hm := yes_t hg10 hm
     refine pK ?_
     refine pK ?_
     refine p_pickT rfl rfl rfl rfl rfl rfl ?_
     refine pu ?_
     refine ops_nt ?_
     refine wpD_ret ?_
     have er11 := yes_eq hm; subst er11
     refine rP (t' := [(2, .v (.bool true))]) [] [] 0 (wC wN) (lT lN) ?_
     exact ⟨rfl, rfl, rfl⟩
    ·replace hm := yes_f hg10 hm
     refine pu ?_
     refine pu ?_
     refine p_pickF rfl rfl rfl rfl rfl rfl ?_
     refine pu ?_
     refine ops_nt ?_
     refine wpD_ret ?_
     have er12 := yes_eq hm; subst er12
     refine rP (t' := [(2, .v (.bool (a0 == (95 : Int))))]) [] [] 0 (wC wN) (lT lN) ?_
     exact ⟨rfl, rfl, rfl⟩
   ·replace hm := yes_f hg9 hm
    refine pK ?_
    refine pK ?_
    refine p_pickF rfl rfl rfl rfl rfl rfl ?_
    refine p_pickF rfl rfl rfl rfl rfl rfl ?_
    iterate 3 refine pu ?_
    refine p_pickF rfl rfl rfl rfl rfl rfl ?_
    refine pu ?_
    refine ops_nt ?_
    refine wpD_ret ?_
    have er13 := yes_eq hm; subst er13
    refine rP (t' := [(2, .v (.bool (a0 == (95 : Int))))]) [] [] 0 (wC wN) (lT lN) ?_
    exact ⟨rfl, rfl, rfl⟩
noncomputable def r10_digit (a0 : Int) : Option (Bool) :=
  (bif (decide ((48 : Int) ≤ a0)) then some (decide (a0 ≤ (57 : Int))) else some false)
set_option maxRecDepth 100000 in
set_option maxHeartbeats 2000000 in
theorem r10_digit_ok (a0 : Int) (r : Bool) (h0 : r10_digit a0 = some r) : CallsD Try.prog 55 [.v (.int .u8 a0)] [] [] (fun d h k => d = .v (.bool r) ∧ h = [] ∧ k = []) := by
  have hm := yes_of h0
  unfold r10_digit at hm
  clear h0
  refine enterX htab Try.func55 rfl rfl rfl rfl rfl (fun C => ?_)
  refine wpD_sr ?_
  refine pu ?_
  refine ops_n2 ?_
  iterate 3 refine pu ?_
  refine p_split (i := 5) rfl (fun hg1 => ?_) (fun hg1 => ?_)
  ·replace hm := yes_t hg1 hm
   refine pu ?_
   refine pu ?_
   refine p_pickT rfl rfl rfl rfl rfl rfl ?_
   refine pu ?_
   refine ops_nt ?_
   refine wpD_ret ?_
   have er2 := yes_eq hm; subst er2
   refine rP (t' := [(2, .v (.bool (decide (a0 ≤ (57 : Int)))))]) [] [] 0 (wC wN) (lT lN) ?_
   exact ⟨rfl, rfl, rfl⟩
  ·replace hm := yes_f hg1 hm
   refine pK ?_
   refine pK ?_
   refine p_pickF rfl rfl rfl rfl rfl rfl ?_
   refine pu ?_
   refine ops_nt ?_
   refine wpD_ret ?_
   have er3 := yes_eq hm; subst er3
   refine rP (t' := [(2, .v (.bool false))]) [] [] 0 (wC wN) (lT lN) ?_
   exact ⟨rfl, rfl, rfl⟩
noncomputable def r10_in (a0 : List ByteArray) (a1 : ByteArray) : Option (Bool) :=
  (Option.bind (α := (Unit) ⊕ (Bool)) (loopM (fun (s15 : Int) => (bif (decide (s15 < (a0.length : Int))) then ((idx a0 s15).bind fun x25 => (bif (decide (x25 = a1)) then some (.done (.inr true)) else some (.next (IntKind.i64.wrap (s15 + (1 : Int)))))) else some (.done (.inl ())))) (0 : Int)) (Sum.elim (fun y14 => some false) (fun r => some r)))
set_option maxRecDepth 100000 in
set_option maxHeartbeats 2000000 in
theorem r10_in_ok (a0 : List ByteArray) (a1 : ByteArray) (r : Bool) (h0 : r10_in a0 a1 = some r) : CallsD Try.prog 69 [.lst 1 (a0.map eStr) .no, .v (.string a1)] [] [] (fun d h k => d = .v (.bool r) ∧ h = [] ∧ k = []) := by
  have hm := yes_of h0
  unfold r10_in at hm
  clear h0
  refine enterX htab Try.func69 rfl rfl rfl rfl rfl (fun C => ?_)
  refine wpD_sr ?_
  refine pu ?_
  refine ops_nt ?_
  refine wpD_seq ?_
  refine wpD_sr ?_
  refine pu ?_
  refine ops_nt ?_
  obtain ⟨x14, q14, ho14⟩ := yes_bind hm
  refine wpD_midX (τ := Unit) (Y := Unit) (fun y14 z14 => (⟨[], [], []⟩ : S)) x14 ?_ ?_
  ·clear hm; have hm := yes_of q14
   refine wpD_block ?_
   obtain ⟨u15, hl15, hq15⟩ := yes_m hm
   refine loop_M (Y := Unit) hl15 (fun s15 z15 => (⟨[(0, .lst 1 (a0.map eStr) .no), (1, .v (.string a1)), (5, .v (.int .i64 s15))], [], []⟩ : S)) ?_ ?_
   ·skip
    exact WkX.of () (WkS.perm (WkS.cons rfl (Wk.refl _) (WkS.cons rfl (Wk.refl _) (WkS.cons rfl (Wk.refl _) (WkS.nil)))) Pf Pf)
   ·intro G15 s15 z15 hm
    refine wpD_seq ?_
    refine wpD_sr ?_
    refine pu ?_
    refine pu ?_
    refine p_lenL htab rfl rfl rfl rfl rfl rfl rfl (by first | exact map_len | rfl) ?_
    refine pu ?_
    refine ops_nt ?_
    refine wpD_cond rfl (fun hc24 => ?_) (fun hc24 => ?_)
    ·replace hm := yes_t hc24 hm
     refine wpD_skip ?_
     refine then_normal ?_
     refine wpD_seq ?_
     refine wpD_block ?_
     refine wpD_sr ?_
     refine pu ?_
     refine pu ?_
     obtain ⟨x25, q25, hm⟩ := yes_bind hm
     refine p_elem htab rfl rfl rfl rfl rfl rfl rfl rfl rfl rfl (idx_nonneg q25) (idx_map q25) ?_
     refine p_loadEl htab rfl rfl rfl rfl rfl rfl rfl rfl ?_
     refine pu ?_
     refine pu ?_
     refine ops_nt ?_
     refine wpD_cond rfl (fun hc26 => ?_) (fun hc26 => ?_)
     ·replace hm := yes_t hc26 hm
      refine wpD_sr ?_
      refine pu ?_
      refine ops_nt ?_
      refine wpD_ret ?_
      refine block_ret ?_
      refine then_ret ?_
      have e15 := lp_done hm; subst e15; clear hm; have hm := hq15
      refine then_ret ?_
      refine block_ret ?_
      have e14 := yes_eq hm; subst e14; refine midX_inr ?_; clear hm; have hm := ho14; simp only [Sum.elim_inr] at hm
      refine then_ret ?_
      have er27 := yes_eq hm; subst er27
      refine rP (t' := [(4, .v (.bool true))]) [] [] 0 (wC wN) (lT lN) ?_
      exact ⟨rfl, rfl, rfl⟩
     ·replace hm := yes_f hc26 hm
      refine wpD_skip ?_
      refine block_normal ?_
      refine then_normal ?_
      refine wpD_region ?_
      iterate 3 refine pu ?_
      refine ops_nil ?_
      refine then_normal ⟨_, lp_next hm, ?_⟩
      exact WkX.of () (WkS.perm (WkS.cons rfl (Wk.refl _) (WkS.cons rfl (Wk.refl _) (WkS.cons rfl (Wk.refl _) (WkS.nil)))) Pf Pf)
    ·replace hm := yes_f hc24 hm
     refine wpD_exit ?_
     refine then_exit ?_
     have e15 := lp_done hm; subst e15; clear hm; have hm := hq15
     refine then_exit ?_
     refine block_hit ?_
     have e14 := yes_eq hm; subst e14
     refine midX_inl ?_
     exact WkX.of () (WkS.perm (WkS.nil) Pf Pf)
  ·intro y14 s14 hx14 hw14; subst hx14; clear hm; have hm := ho14; simp only [Sum.elim_inl] at hm; clear q14 ho14
   refine then_normal ?_
   refine wpD_wkX hw14 (fun z14 => ?_)
   refine wpD_sr ?_
   refine pu ?_
   refine ops_nt ?_
   refine wpD_ret ?_
   have er28 := yes_eq hm; subst er28
   refine rP (t' := [(4, .v (.bool false))]) [] [] 0 (wC wN) (lT lN) ?_
   exact ⟨rfl, rfl, rfl⟩
noncomputable def r10_Word (a0 : ByteArray) : Option (Bool) :=
  ((r10_in ([(ByteArray.mk #[97, 115, 115, 101, 114, 116]), (ByteArray.mk #[101, 108, 115, 101]), (ByteArray.mk #[105, 102]), (ByteArray.mk #[105, 110, 112, 117, 116]), (ByteArray.mk #[105, 110, 116]), (ByteArray.mk #[110, 117, 108, 108]), (ByteArray.mk #[114, 101, 116, 117, 114, 110]), (ByteArray.mk #[119, 104, 105, 108, 101])] : List ByteArray) a0).bind fun x1 => some x1)
set_option maxRecDepth 100000 in
set_option maxHeartbeats 2000000 in
theorem r10_Word_ok (a0 : ByteArray) (r : Bool) (h0 : r10_Word a0 = some r) : CallsD Try.prog 56 [.v (.string a0)] [] [] (fun d h k => d = .v (.bool r) ∧ h = [] ∧ k = []) := by
  have hm := yes_of h0
  unfold r10_Word at hm
  clear h0
  refine enterX htab Try.func56 rfl rfl rfl rfl rfl (fun C => ?_)
  refine wpD_sr ?_
  refine pu ?_
  refine ops_n2 ?_
  refine p_lit htab rfl rfl rfl rfl rfl rfl rfl rfl rfl rfl rfl rfl rfl rfl ?_
  refine p_eq (i := 3) (d' := .lst 1 (([(ByteArray.mk #[97, 115, 115, 101, 114, 116]), (ByteArray.mk #[101, 108, 115, 101]), (ByteArray.mk #[105, 102]), (ByteArray.mk #[105, 110, 112, 117, 116]), (ByteArray.mk #[105, 110, 116]), (ByteArray.mk #[110, 117, 108, 108]), (ByteArray.mk #[114, 101, 116, 117, 114, 110]), (ByteArray.mk #[119, 104, 105, 108, 101])] : List ByteArray).map eStr) .full) rfl (Wk.lst0 (.cons (WkC.refl _) (.cons (WkC.refl _) (.cons (WkC.refl _) (.cons (WkC.refl _) (.cons (WkC.refl _) (.cons (WkC.refl _) (.cons (WkC.refl _) (.cons (WkC.refl _) (.nil)))))))))) ?_
  refine pu ?_
  obtain ⟨x1, q1, hm⟩ := yes_bind hm
  refine p_call0 (r10_in_ok ([(ByteArray.mk #[97, 115, 115, 101, 114, 116]), (ByteArray.mk #[101, 108, 115, 101]), (ByteArray.mk #[105, 102]), (ByteArray.mk #[105, 110, 112, 117, 116]), (ByteArray.mk #[105, 110, 116]), (ByteArray.mk #[110, 117, 108, 108]), (ByteArray.mk #[114, 101, 116, 117, 114, 110]), (ByteArray.mk #[119, 104, 105, 108, 101])] : List ByteArray) a0 x1 q1) rfl rfl rfl rfl rfl (WkL.cons (Wk.no) (WkL.cons (Wk.refl _) Wl)) ?_
  rintro _ rfl
  refine pu ?_
  refine ops_nt ?_
  refine wpD_ret ?_
  have er2 := yes_eq hm; subst er2
  refine rP (t' := [(2, .v (.bool x1))]) [] [] 0 (wC wN) (lT lN) ?_
  exact ⟨rfl, rfl, rfl⟩
noncomputable def r10_number (a0 : ByteArray) : Option (Int × Int) :=
  (Option.bind (α := Bool) ((bAt a0 (0 : Int)).bind fun x4 => (bif ((x4.toNat : Int) == (48 : Int)) then some (decide ((1 : Int) < (a0.size : Int))) else some false)) fun y3 => (bif y3 then some ((0 : Int), (3 : Int)) else (Option.bind (α := (Int) ⊕ (Int × Int)) (loopM (fun (s24 : Int × Int) => (bif (decide (s24.2 < (a0.size : Int))) then (bif (decide ((19 : Int) < (a0.size : Int))) then some (.done (.inr ((0 : Int), (4 : Int)))) else ((bAt a0 s24.2).bind fun x36 => some (.next ((IntKind.u64.wrap ((IntKind.u64.wrap (s24.1 * (10 : Int))) + (IntKind.u64.wrap (IntKind.u8.wrap ((x36.toNat : Int) - (48 : Int)))))), (IntKind.i64.wrap (s24.2 + (1 : Int))))))) else some (.done (.inl s24.1)))) ((0 : Int), (0 : Int))) (Sum.elim (fun y23 => (bif (decide ((9223372036854775807 : Int) < y23)) then some ((0 : Int), (4 : Int)) else some ((IntKind.i64.wrap y23), (0 : Int)))) (fun r => some r)))))
set_option maxRecDepth 100000 in
set_option maxHeartbeats 2000000 in
theorem r10_number_ok (a0 : ByteArray) (r : Int × Int) (h0 : r10_number a0 = some r) : CallsD Try.prog 57 [.v (.string a0)] [] [] (fun d h k => d = .tup [.v (.int .i64 r.1), .v (.int .i64 r.2)] ∧ h = [] ∧ k = []) := by
  have hm := yes_of h0
  unfold r10_number at hm
  clear h0
  refine enterX htab Try.func57 rfl rfl rfl rfl rfl (fun C => ?_)
  refine wpD_sr ?_
  refine pu ?_
  refine pu ?_
  refine ops_nt ?_
  refine wpD_seq ?_
  refine wpD_seq ?_
  obtain ⟨y3, q3, ho3⟩ := yes_bind hm
  refine wpD_mid (Y := Unit) (fun z3 => (⟨[(0, .v (.string a0)), (13, .v (.bool y3))], [], []⟩ : S)) ?_ ?_
  ·clear hm; have hm := yes_of q3
   refine wpD_region ?_
   refine pu ?_
   obtain ⟨x4, q4, hm⟩ := yes_bind hm
   refine p_byte htab rfl rfl rfl rfl rfl rfl rfl rfl (bAt_nonneg q4) (bAt_ok q4) ?_
   refine pu ?_
   refine pu ?_
   refine p_split (i := 9) rfl (fun hg5 => ?_) (fun hg5 => ?_)
   ·replace hm := yes_t hg5 hm
    refine pu ?_
    refine p_lenS htab rfl rfl rfl rfl rfl rfl rfl rfl ?_
    refine pu ?_
    refine p_pickT rfl rfl rfl rfl rfl rfl ?_
    refine ops_nil ?_
    have e3 := yes_eq hm; subst e3
    refine ⟨rfl, ?_⟩
    exact WkX.of () (WkS.perm (WkS.cons rfl (Wk.refl _) (WkS.cons rfl (Wk.refl _) (WkS.nil))) Pf Pf)
   ·replace hm := yes_f hg5 hm
    iterate 3 refine pK ?_
    refine p_pickF rfl rfl rfl rfl rfl rfl ?_
    refine ops_nil ?_
    have e3 := yes_eq hm; subst e3
    refine ⟨rfl, ?_⟩
    exact WkX.of () (WkS.perm (WkS.cons rfl (Wk.refl _) (WkS.cons rfl (Wk.refl _) (WkS.nil))) Pf Pf)
  ·intro s3 hw3; clear hm; have hm := ho3; clear q3 ho3
   refine then_normal ?_
   refine wpD_wkX hw3 (fun z3 => ?_)
   refine wpD_cond rfl (fun hc7 => ?_) (fun hc7 => ?_)
   ·replace hm := yes_t hc7 hm
    refine wpD_sr ?_
    refine pu ?_
    refine pu ?_
    refine ops_nt ?_
    refine wpD_ret ?_
    refine then_ret ?_
    have er8 := yes_eq hm; subst er8
    refine rP (t' := [(2, .v (.int .i64 (0 : Int))), (3, .v (.int .i64 (3 : Int)))]) [] [] 0 (wC (wC wN)) (lT (lT lN)) ?_
    exact ⟨rfl, rfl, rfl⟩
   ·replace hm := yes_f hc7 hm
    refine wpD_skip ?_
    refine then_normal ?_
    refine wpD_sr ?_
    refine pu ?_
    refine ops_nt ?_
    refine wpD_seq ?_
    refine wpD_sr ?_
    refine pu ?_
    refine ops_nt ?_
    obtain ⟨x23, q23, ho23⟩ := yes_bind hm
    refine wpD_midX (τ := Int) (Y := Unit) (fun y23 z23 => (⟨[(4, .v (.int .u64 y23))], [], []⟩ : S)) x23 ?_ ?_
    ·clear hm; have hm := yes_of q23
     refine wpD_block ?_
     obtain ⟨u24, hl24, hq24⟩ := yes_m hm
     refine loop_M (Y := Unit) hl24 (fun s24 z24 => (⟨[(0, .v (.string a0)), (4, .v (.int .u64 s24.1)), (5, .v (.int .i64 s24.2))], [], []⟩ : S)) ?_ ?_
     ·skip
      exact WkX.of () (WkS.perm (WkS.cons rfl (Wk.refl _) (WkS.cons rfl (Wk.refl _) (WkS.cons rfl (Wk.refl _) (WkS.nil)))) Pf Pf)
     ·intro G24 s24 z24 hm
      refine wpD_seq ?_
      refine wpD_sr ?_
      refine pu ?_
      refine pu ?_
      refine p_lenS htab rfl rfl rfl rfl rfl rfl rfl rfl ?_
      refine pu ?_
      refine ops_nt ?_
      refine wpD_cond rfl (fun hc33 => ?_) (fun hc33 => ?_)
      ·replace hm := yes_t hc33 hm
       refine wpD_skip ?_
       refine then_normal ?_
       refine wpD_seq ?_
       refine wpD_block ?_
       refine wpD_seq ?_
       refine wpD_sr ?_
       refine pu ?_
       refine p_lenS htab rfl rfl rfl rfl rfl rfl rfl rfl ?_
       refine pu ?_
       refine ops_nt ?_
       refine wpD_cond rfl (fun hc34 => ?_) (fun hc34 => ?_)
       ·replace hm := yes_t hc34 hm
        refine wpD_sr ?_
        refine pu ?_
        refine pu ?_
        refine ops_nt ?_
        refine wpD_ret ?_
        refine then_ret ?_
        refine block_ret ?_
        refine then_ret ?_
        have e24 := lp_done hm; subst e24; clear hm; have hm := hq24
        refine then_ret ?_
        refine block_ret ?_
        have e23 := yes_eq hm; subst e23; refine midX_inr ?_; clear hm; have hm := ho23; simp only [Sum.elim_inr] at hm
        refine then_ret ?_
        have er35 := yes_eq hm; subst er35
        refine rP (t' := [(2, .v (.int .i64 (0 : Int))), (3, .v (.int .i64 (4 : Int)))]) [] [] 0 (wC (wC wN)) (lT (lT lN)) ?_
        exact ⟨rfl, rfl, rfl⟩
       ·replace hm := yes_f hc34 hm
        refine wpD_skip ?_
        refine then_normal ?_
        refine wpD_region ?_
        iterate 4 refine pu ?_
        obtain ⟨x36, q36, hm⟩ := yes_bind hm
        refine p_byte htab rfl rfl rfl rfl rfl rfl rfl rfl (bAt_nonneg q36) (bAt_ok q36) ?_
        iterate 4 refine pu ?_
        refine ops_nil ?_
        refine block_normal ?_
        refine then_normal ?_
        refine wpD_region ?_
        iterate 3 refine pu ?_
        refine ops_nil ?_
        refine then_normal ⟨_, lp_next hm, ?_⟩
        exact WkX.of () (WkS.perm (WkS.cons rfl (Wk.refl _) (WkS.cons rfl (Wk.refl _) (WkS.cons rfl (Wk.refl _) (WkS.nil)))) Pf Pf)
      ·replace hm := yes_f hc33 hm
       refine wpD_exit ?_
       refine then_exit ?_
       have e24 := lp_done hm; subst e24; clear hm; have hm := hq24
       refine then_exit ?_
       refine block_hit ?_
       have e23 := yes_eq hm; subst e23
       refine midX_inl ?_
       exact WkX.of () (WkS.perm (WkS.cons rfl (Wk.refl _) (WkS.nil)) Pf Pf)
    ·intro y23 s23 hx23 hw23; subst hx23; clear hm; have hm := ho23; simp only [Sum.elim_inl] at hm; clear q23 ho23
     refine then_normal ?_
     refine wpD_wkX hw23 (fun z23 => ?_)
     refine wpD_seq ?_
     refine wpD_sr ?_
     refine pu ?_
     refine pu ?_
     refine ops_nt ?_
     refine wpD_cond rfl (fun hc38 => ?_) (fun hc38 => ?_)
     ·replace hm := yes_t hc38 hm
      refine wpD_sr ?_
      refine pu ?_
      refine pu ?_
      refine ops_nt ?_
      refine wpD_ret ?_
      refine then_ret ?_
      have er39 := yes_eq hm; subst er39
      refine rP (t' := [(2, .v (.int .i64 (0 : Int))), (3, .v (.int .i64 (4 : Int)))]) [] [] 0 (wC (wC wN)) (lT (lT lN)) ?_
      exact ⟨rfl, rfl, rfl⟩
     ·replace hm := yes_f hc38 hm
      refine wpD_skip ?_
      refine then_normal ?_
      refine wpD_sr ?_
      iterate 4 refine pu ?_
      refine ops_nt ?_
      refine wpD_ret ?_
      have er40 := yes_eq hm; subst er40
      refine rP (t' := [(2, .v (.int .i64 (IntKind.i64.wrap y23))), (3, .v (.int .i64 (0 : Int)))]) [] [] 0 (wC (wC wN)) (lT (lT lN)) ?_
      exact ⟨rfl, rfl, rfl⟩
end Go.Proofs.Ytmgklehakmdiiaa.Ab
namespace Go.Proofs.Ytmgklehakmdiiaa.Ab
open Go
set_option linter.all false
abbrev nlGm1_8 : List (List Nat) := [[],[0],[],[0,1,2],[0,1,2,3],[0,1,2,3,4],[0,1,2,3,4],[0,1,2,3,4,5,6],[0,1,2,3,4],[0,1,2,3,4],[0,1,2,3,4,8,9],[0,1,2,3,4,8,9,10],[0,1,2,3,4,5,6,7,8,9,10,11],[0,1,2,3,4,5,6,7,8,9,10,11,12]]
noncomputable def r10_one (a0 : ByteArray) (a1 : Bool) : Option (TApiToken × Int) :=
  (Option.bind (α := Int) (loopM (fun (s27 : Int) => (bif (decide (s27 < (a0.size : Int))) then ((bAt a0 s27).bind fun x45 => ((r10_letter (x45.toNat : Int)).bind fun x46 => (bif x46 then some (.next (IntKind.i64.wrap (s27 + (1 : Int)))) else ((bAt a0 s27).bind fun x48 => ((r10_digit (x48.toNat : Int)).bind fun x49 => (bif x49 then some (.next (IntKind.i64.wrap (s27 + (1 : Int)))) else some (.done s27))))))) else some (.done s27))) (0 : Int)) fun y26 => ((bAt a0 (0 : Int)).bind fun x51 => ((r10_letter (x51.toNat : Int)).bind fun x52 => (bif x52 then (Option.bind (α := Bool) (bif (decide ((20 : Int) < y26)) then some true else some a1) fun y68 => (bif y68 then some ((⟨(0 : Int), ByteArray.empty, (0 : Int), (0 : Int)⟩ : TApiToken), (6 : Int)) else ((cutS a0 (0 : Int) y26).bind fun x72 => ((r10_Word x72).bind fun x73 => (bif x73 then ((cutS a0 (0 : Int) y26).bind fun x75 => some ((⟨(3 : Int), x75, (0 : Int), (0 : Int)⟩ : TApiToken), (0 : Int))) else ((cutS a0 (0 : Int) y26).bind fun x77 => some ((⟨(1 : Int), x77, (0 : Int), (0 : Int)⟩ : TApiToken), (0 : Int)))))))) else ((bAt a0 (0 : Int)).bind fun x79 => ((r10_digit (x79.toNat : Int)).bind fun x80 => (bif x80 then (bif a1 then some ((⟨(0 : Int), ByteArray.empty, (0 : Int), (0 : Int)⟩ : TApiToken), (6 : Int)) else (Option.bind (α := (Unit) ⊕ (TApiToken × Int)) (loopM (fun (s140 : Int) => (bif (decide (s140 < y26)) then ((bAt a0 s140).bind fun x152 => ((r10_letter (x152.toNat : Int)).bind fun x153 => (bif x153 then some (.done (.inr ((⟨(0 : Int), ByteArray.empty, (0 : Int), (0 : Int)⟩ : TApiToken), (3 : Int)))) else some (.next (IntKind.i64.wrap (s140 + (1 : Int))))))) else some (.done (.inl ())))) (0 : Int)) (Sum.elim (fun y139 => ((cutS a0 (0 : Int) y26).bind fun x156 => ((r10_number x156).bind fun x157 => (bif (x157.2 != (0 : Int)) then some ((⟨(0 : Int), ByteArray.empty, (0 : Int), (0 : Int)⟩ : TApiToken), x157.2) else ((cutS a0 (0 : Int) y26).bind fun x160 => some ((⟨(2 : Int), x160, x157.1, (0 : Int)⟩ : TApiToken), (0 : Int))))))) (fun r => some r)))) else (Option.bind (α := (Unit) ⊕ (TApiToken × Int)) (loopM (fun (s204 : Int) => (bif (decide (s204 < (([(ByteArray.mk #[61, 61]), (ByteArray.mk #[33, 61]), (ByteArray.mk #[60, 61]), (ByteArray.mk #[38, 38]), (ByteArray.mk #[124, 124]), (ByteArray.mk #[40]), (ByteArray.mk #[41]), (ByteArray.mk #[123]), (ByteArray.mk #[125]), (ByteArray.mk #[91]), (ByteArray.mk #[93]), (ByteArray.mk #[59]), (ByteArray.mk #[44]), (ByteArray.mk #[61]), (ByteArray.mk #[60]), (ByteArray.mk #[43]), (ByteArray.mk #[45]), (ByteArray.mk #[42]), (ByteArray.mk #[47]), (ByteArray.mk #[37]), (ByteArray.mk #[33]), (ByteArray.mk #[38])] : List ByteArray).length : Int))) then ((idx ([(ByteArray.mk #[61, 61]), (ByteArray.mk #[33, 61]), (ByteArray.mk #[60, 61]), (ByteArray.mk #[38, 38]), (ByteArray.mk #[124, 124]), (ByteArray.mk #[40]), (ByteArray.mk #[41]), (ByteArray.mk #[123]), (ByteArray.mk #[125]), (ByteArray.mk #[91]), (ByteArray.mk #[93]), (ByteArray.mk #[59]), (ByteArray.mk #[44]), (ByteArray.mk #[61]), (ByteArray.mk #[60]), (ByteArray.mk #[43]), (ByteArray.mk #[45]), (ByteArray.mk #[42]), (ByteArray.mk #[47]), (ByteArray.mk #[37]), (ByteArray.mk #[33]), (ByteArray.mk #[38])] : List ByteArray) s204).bind fun x232 => (Option.bind (α := Bool) (bif (decide ((x232.size : Int) ≤ (a0.size : Int))) then ((cutS a0 (0 : Int) (x232.size : Int)).bind fun x238 => ((idx ([(ByteArray.mk #[61, 61]), (ByteArray.mk #[33, 61]), (ByteArray.mk #[60, 61]), (ByteArray.mk #[38, 38]), (ByteArray.mk #[124, 124]), (ByteArray.mk #[40]), (ByteArray.mk #[41]), (ByteArray.mk #[123]), (ByteArray.mk #[125]), (ByteArray.mk #[91]), (ByteArray.mk #[93]), (ByteArray.mk #[59]), (ByteArray.mk #[44]), (ByteArray.mk #[61]), (ByteArray.mk #[60]), (ByteArray.mk #[43]), (ByteArray.mk #[45]), (ByteArray.mk #[42]), (ByteArray.mk #[47]), (ByteArray.mk #[37]), (ByteArray.mk #[33]), (ByteArray.mk #[38])] : List ByteArray) s204).bind fun x239 => some (decide (x238 = x239)))) else some false) fun y236 => (bif y236 then (bif a1 then some (.done (.inr ((⟨(0 : Int), ByteArray.empty, (0 : Int), (0 : Int)⟩ : TApiToken), (6 : Int)))) else ((idx ([(ByteArray.mk #[61, 61]), (ByteArray.mk #[33, 61]), (ByteArray.mk #[60, 61]), (ByteArray.mk #[38, 38]), (ByteArray.mk #[124, 124]), (ByteArray.mk #[40]), (ByteArray.mk #[41]), (ByteArray.mk #[123]), (ByteArray.mk #[125]), (ByteArray.mk #[91]), (ByteArray.mk #[93]), (ByteArray.mk #[59]), (ByteArray.mk #[44]), (ByteArray.mk #[61]), (ByteArray.mk #[60]), (ByteArray.mk #[43]), (ByteArray.mk #[45]), (ByteArray.mk #[42]), (ByteArray.mk #[47]), (ByteArray.mk #[37]), (ByteArray.mk #[33]), (ByteArray.mk #[38])] : List ByteArray) s204).bind fun x243 => some (.done (.inr ((⟨(3 : Int), x243, (0 : Int), (0 : Int)⟩ : TApiToken), (0 : Int)))))) else some (.next (IntKind.i64.wrap (s204 + (1 : Int))))))) else some (.done (.inl ())))) (0 : Int)) (Sum.elim (fun y203 => some ((⟨(0 : Int), ByteArray.empty, (0 : Int), (0 : Int)⟩ : TApiToken), (3 : Int))) (fun r => some r))))))))))
set_option maxRecDepth 100000 in
set_option maxHeartbeats 2000000 in
theorem r10_one_ok (a0 : ByteArray) (a1 : Bool) (r : TApiToken × Int) (h0 : r10_one a0 a1 = some r) : CallsD Try.prog 38 [.v (.string a0), .v (.bool a1)] [] [] (fun d h k => d = .tup [eTApiToken r.1, .v (.int .i64 r.2)] ∧ h = [] ∧ k = []) := by
  have hm := yes_of h0
  unfold r10_one at hm
  clear h0
  refine enterX htab Try.func38 rfl rfl rfl rfl rfl (fun C => ?_)
  refine wpD_sr ?_
  refine p_alloc htab rfl rfl rfl rfl rfl rfl rfl (fun b1 => ?_)
  refine pu ?_
  refine ops_n2 ?_
  refine pu ?_
  refine ops_nt ?_
  refine wpD_seq ?_
  obtain ⟨y26, q26, ho26⟩ := yes_bind hm
  refine wpD_mid (Y := Unit) (fun z26 => (⟨[(0, .v (.string a0)), (1, .v (.bool a1)), (4, .ptr b1 0), (6, .v (.int .i64 y26))], [(b1, Blk.cells [.v (.int .i64 (0 : Int)), .v (.string ByteArray.empty), .v (.int .i64 (0 : Int)), .v (.int .i64 (0 : Int))] 69)], []⟩ : S)) ?_ ?_
  ·clear hm; have hm := yes_of q26
   refine wpD_block ?_
   obtain ⟨u27, hl27, hq27⟩ := yes_m hm
   refine loop_M (Y := Unit) hl27 (fun s27 z27 => (⟨[(0, .v (.string a0)), (1, .v (.bool a1)), (4, .ptr b1 0), (6, .v (.int .i64 s27))], [(b1, Blk.cells [.v (.int .i64 (0 : Int)), .v (.string ByteArray.empty), .v (.int .i64 (0 : Int)), .v (.int .i64 (0 : Int))] 69)], []⟩ : S)) ?_ ?_
   ·skip
    exact WkX.of () (WkS.perm (WkS.cons rfl (Wk.refl _) (WkS.cons rfl (Wk.refl _) (WkS.cons rfl (Wk.refl _) (WkS.cons rfl (Wk.refl _) (WkS.nil))))) Pf Pf)
   ·intro G27 s27 z27 hm
    refine wpD_seq ?_
    refine wpD_sr ?_
    refine pu ?_
    refine pu ?_
    refine p_lenS htab rfl rfl rfl rfl rfl rfl rfl rfl ?_
    refine pu ?_
    refine pu ?_
    refine p_split (i := 17) rfl (fun hg44 => ?_) (fun hg44 => ?_)
    ·replace hm := yes_t hg44 hm
     refine pu ?_
     refine pu ?_
     obtain ⟨x45, q45, hm⟩ := yes_bind hm
     refine p_byte htab rfl rfl rfl rfl rfl rfl rfl rfl (bAt_nonneg q45) (bAt_ok q45) ?_
     obtain ⟨x46, q46, hm⟩ := yes_bind hm
     refine p_call0 (r10_letter_ok (x45.toNat : Int) x46 q46) rfl rfl rfl rfl rfl Wl ?_
     rintro _ rfl
     refine pu ?_
     refine p_split (i := 22) rfl (fun hg47 => ?_) (fun hg47 => ?_)
     ·replace hm := yes_t hg47 hm
      iterate 4 refine pK ?_
      refine p_pickT rfl rfl rfl rfl rfl rfl ?_
      refine p_pickT rfl rfl rfl rfl rfl rfl ?_
      refine ops_nt ?_
      refine wpD_true rfl ?_
      refine wpD_skip ?_
      refine then_normal ?_
      refine wpD_block ?_
      refine wpD_region ?_
      iterate 3 refine pu ?_
      refine ops_nil ?_
      refine block_normal ?_
      refine then_normal ⟨_, lp_next hm, ?_⟩
      exact WkX.of () (WkS.perm (WkS.cons rfl (Wk.refl _) (WkS.cons rfl (Wk.refl _) (WkS.cons rfl (Wk.refl _) (WkS.cons rfl (Wk.refl _) (WkS.nil))))) Pf Pf)
     ·replace hm := yes_f hg47 hm
      refine pu ?_
      refine pu ?_
      obtain ⟨x48, q48, hm⟩ := yes_bind hm
      refine p_byte htab rfl rfl rfl rfl rfl rfl rfl rfl (bAt_nonneg q48) (bAt_ok q48) ?_
      obtain ⟨x49, q49, hm⟩ := yes_bind hm
      refine p_call0 (r10_digit_ok (x48.toNat : Int) x49 q49) rfl rfl rfl rfl rfl Wl ?_
      rintro _ rfl
      refine p_pickF rfl rfl rfl rfl rfl rfl ?_
      refine p_pickT rfl rfl rfl rfl rfl rfl ?_
      refine ops_nt ?_
      refine wpD_cond rfl (fun hc50 => ?_) (fun hc50 => ?_)
      ·replace hm := yes_t hc50 hm
       refine wpD_skip ?_
       refine then_normal ?_
       refine wpD_block ?_
       refine wpD_region ?_
       iterate 3 refine pu ?_
       refine ops_nil ?_
       refine block_normal ?_
       refine then_normal ⟨_, lp_next hm, ?_⟩
       exact WkX.of () (WkS.perm (WkS.cons rfl (Wk.refl _) (WkS.cons rfl (Wk.refl _) (WkS.cons rfl (Wk.refl _) (WkS.cons rfl (Wk.refl _) (WkS.nil))))) Pf Pf)
      ·replace hm := yes_f hc50 hm
       refine wpD_exit ?_
       refine then_exit ?_
       have e27 := lp_done hm; subst e27; clear hm; have hm := hq27
       refine then_exit ?_
       refine block_hit ?_
       have e26 := yes_eq hm; subst e26
       refine ⟨rfl, ?_⟩
       exact WkX.of () (WkS.perm (WkS.cons rfl (Wk.refl _) (WkS.cons rfl (Wk.refl _) (WkS.cons rfl (Wk.refl _) (WkS.cons rfl (Wk.refl _) (WkS.nil))))) Pf Pf)
    ·replace hm := yes_f hg44 hm
     iterate 10 refine pK ?_
     refine p_pickF rfl rfl rfl rfl rfl rfl ?_
     refine ops_nt ?_
     refine wpD_false rfl ?_
     refine wpD_exit ?_
     refine then_exit ?_
     have e27 := lp_done hm; subst e27; clear hm; have hm := hq27
     refine then_exit ?_
     refine block_hit ?_
     have e26 := yes_eq hm; subst e26
     refine ⟨rfl, ?_⟩
     exact WkX.of () (WkS.perm (WkS.cons rfl (Wk.refl _) (WkS.cons rfl (Wk.refl _) (WkS.cons rfl (Wk.refl _) (WkS.cons rfl (Wk.refl _) (WkS.nil))))) Pf Pf)
  ·intro s26 hw26; clear hm; have hm := ho26; clear q26 ho26
   refine then_normal ?_
   refine wpD_wkX hw26 (fun z26 => ?_)
   refine wpD_seq ?_
   refine wpD_sr ?_
   refine pu ?_
   obtain ⟨x51, q51, hm⟩ := yes_bind hm
   refine p_byte htab rfl rfl rfl rfl rfl rfl rfl rfl (bAt_nonneg q51) (bAt_ok q51) ?_
   obtain ⟨x52, q52, hm⟩ := yes_bind hm
   refine p_call0 (r10_letter_ok (x51.toNat : Int) x52 q52) rfl rfl rfl rfl rfl Wl ?_
   rintro _ rfl
   refine ops_nt ?_
   refine wpD_cond rfl (fun hc66 => ?_) (fun hc66 => ?_)
   ·replace hm := yes_t hc66 hm
    refine wpD_seq ?_
    refine wpD_seq ?_
    obtain ⟨y68, q68, ho68⟩ := yes_bind hm
    refine wpD_mid (Y := Unit) (fun z68 => (⟨[(0, .v (.string a0)), (4, .ptr b1 0), (6, .v (.int .i64 y26)), (38, .v (.bool y68))], [(b1, Blk.cells [.v (.int .i64 (0 : Int)), .v (.string ByteArray.empty), .v (.int .i64 (0 : Int)), .v (.int .i64 (0 : Int))] 69)], []⟩ : S)) ?_ ?_
    ·clear hm; have hm := yes_of q68
     refine wpD_region ?_
     iterate 3 refine pu ?_
     refine p_split (i := 36) rfl (fun hg69 => ?_) (fun hg69 => ?_)
     ·replace hm := yes_t hg69 hm
      refine pK ?_
      refine p_pickT rfl rfl rfl rfl rfl rfl ?_
      refine ops_nil ?_
      have e68 := yes_eq hm; subst e68
      refine ⟨rfl, ?_⟩
      exact WkX.of () (WkS.perm (WkS.cons rfl (Wk.refl _) (WkS.cons rfl (Wk.refl _) (WkS.cons rfl (Wk.refl _) (WkS.cons rfl (Wk.refl _) (WkS.nil))))) Pf Pf)
     ·replace hm := yes_f hg69 hm
      refine pu ?_
      refine p_pickF rfl rfl rfl rfl rfl rfl ?_
      refine ops_nil ?_
      have e68 := yes_eq hm; subst e68
      refine ⟨rfl, ?_⟩
      exact WkX.of () (WkS.perm (WkS.cons rfl (Wk.refl _) (WkS.cons rfl (Wk.refl _) (WkS.cons rfl (Wk.refl _) (WkS.cons rfl (Wk.refl _) (WkS.nil))))) Pf Pf)
    ·intro s68 hw68; clear hm; have hm := ho68; clear q68 ho68
     refine then_normal ?_
     refine wpD_wkX hw68 (fun z68 => ?_)
     refine wpD_cond rfl (fun hc70 => ?_) (fun hc70 => ?_)
     ·replace hm := yes_t hc70 hm
      refine wpD_sr ?_
      refine p_build (r := [.v (.int .i64 (0 : Int)), .v (.string ByteArray.empty), .v (.int .i64 (0 : Int)), .v (.int .i64 (0 : Int))]) htab rfl rfl rfl rfl rfl rfl rfl rfl rfl ?_
      refine pS0 (ds' := [.v (.int .i64 (0 : Int)), .v (.string ByteArray.empty), .v (.int .i64 (0 : Int)), .v (.int .i64 (0 : Int))]) ?_
      refine pu ?_
      refine ops_nt ?_
      refine wpD_ret ?_
      refine then_ret ?_
      refine then_ret ?_
      have er71 := yes_eq hm; subst er71
      refine rP (t' := [(4, .ptr b1 0), (5, .v (.int .i64 (6 : Int)))]) [0] [] 0 (wC (wC wN)) (lC 0 (lT lN)) ?_
      exact ⟨rfl, rfl, rfl⟩
     ·replace hm := yes_f hc70 hm
      refine wpD_skip ?_
      refine then_normal ?_
      refine wpD_seq ?_
      refine wpD_sr ?_
      refine pu ?_
      refine pu ?_
      obtain ⟨x72, q72, hm⟩ := yes_bind hm
      refine p_cutS q72 htab rfl rfl rfl rfl rfl rfl rfl rfl rfl rfl rfl ?_
      obtain ⟨x73, q73, hm⟩ := yes_bind hm
      refine p_call0 (r10_Word_ok x72 x73 q73) rfl rfl rfl rfl rfl Wl ?_
      rintro _ rfl
      refine ops_nt ?_
      refine wpD_cond rfl (fun hc74 => ?_) (fun hc74 => ?_)
      ·replace hm := yes_t hc74 hm
       refine wpD_sr ?_
       refine pu ?_
       refine pu ?_
       obtain ⟨x75, q75, hm⟩ := yes_bind hm
       refine p_cutS q75 htab rfl rfl rfl rfl rfl rfl rfl rfl rfl rfl rfl ?_
       refine p_build (r := [.v (.int .i64 (3 : Int)), .v (.string x75), .v (.int .i64 (0 : Int)), .v (.int .i64 (0 : Int))]) htab rfl rfl rfl rfl rfl rfl rfl rfl rfl ?_
       refine pS0 (ds' := [.v (.int .i64 (3 : Int)), .v (.string x75), .v (.int .i64 (0 : Int)), .v (.int .i64 (0 : Int))]) ?_
       refine pu ?_
       refine ops_nt ?_
       refine wpD_ret ?_
       refine then_ret ?_
       refine then_ret ?_
       have er76 := yes_eq hm; subst er76
       refine rP (t' := [(4, .ptr b1 0), (5, .v (.int .i64 (0 : Int)))]) [0] [] 0 (wC (wC wN)) (lC 0 (lT lN)) ?_
       exact ⟨rfl, rfl, rfl⟩
      ·replace hm := yes_f hc74 hm
       refine wpD_skip ?_
       refine then_normal ?_
       refine wpD_sr ?_
       refine pu ?_
       refine pu ?_
       obtain ⟨x77, q77, hm⟩ := yes_bind hm
       refine p_cutS q77 htab rfl rfl rfl rfl rfl rfl rfl rfl rfl rfl rfl ?_
       refine p_build (r := [.v (.int .i64 (1 : Int)), .v (.string x77), .v (.int .i64 (0 : Int)), .v (.int .i64 (0 : Int))]) htab rfl rfl rfl rfl rfl rfl rfl rfl rfl ?_
       refine pS0 (ds' := [.v (.int .i64 (1 : Int)), .v (.string x77), .v (.int .i64 (0 : Int)), .v (.int .i64 (0 : Int))]) ?_
       refine pu ?_
       refine ops_nt ?_
       refine wpD_ret ?_
       refine then_ret ?_
       have er78 := yes_eq hm; subst er78
       refine rP (t' := [(4, .ptr b1 0), (5, .v (.int .i64 (0 : Int)))]) [0] [] 0 (wC (wC wN)) (lC 0 (lT lN)) ?_
       exact ⟨rfl, rfl, rfl⟩
   ·replace hm := yes_f hc66 hm
    refine wpD_skip ?_
    refine then_normal ?_
    refine wpD_seq ?_
    refine wpD_sr ?_
    refine pu ?_
    obtain ⟨x79, q79, hm⟩ := yes_bind hm
    refine p_byte htab rfl rfl rfl rfl rfl rfl rfl rfl (bAt_nonneg q79) (bAt_ok q79) ?_
    obtain ⟨x80, q80, hm⟩ := yes_bind hm
    refine p_call0 (r10_digit_ok (x79.toNat : Int) x80 q80) rfl rfl rfl rfl rfl Wl ?_
    rintro _ rfl
    refine ops_nt ?_
    refine wpD_cond rfl (fun hc121 => ?_) (fun hc121 => ?_)
    ·replace hm := yes_t hc121 hm
     refine wpD_seq ?_
     refine wpD_sr ?_
     refine pu ?_
     refine ops_nt ?_
     refine wpD_cond rfl (fun hc122 => ?_) (fun hc122 => ?_)
     ·replace hm := yes_t hc122 hm
      refine wpD_sr ?_
      refine p_build (r := [.v (.int .i64 (0 : Int)), .v (.string ByteArray.empty), .v (.int .i64 (0 : Int)), .v (.int .i64 (0 : Int))]) htab rfl rfl rfl rfl rfl rfl rfl rfl rfl ?_
      refine pS0 (ds' := [.v (.int .i64 (0 : Int)), .v (.string ByteArray.empty), .v (.int .i64 (0 : Int)), .v (.int .i64 (0 : Int))]) ?_
      refine pu ?_
      refine ops_nt ?_
      refine wpD_ret ?_
      refine then_ret ?_
      refine then_ret ?_
      have er123 := yes_eq hm; subst er123
      refine rP (t' := [(4, .ptr b1 0), (5, .v (.int .i64 (6 : Int)))]) [0] [] 0 (wC (wC wN)) (lC 0 (lT lN)) ?_
      exact ⟨rfl, rfl, rfl⟩
     ·replace hm := yes_f hc122 hm
      refine wpD_skip ?_
      refine then_normal ?_
      refine wpD_seq ?_
      refine wpD_sr ?_
      refine pu ?_
      refine ops_nt ?_
      obtain ⟨x139, q139, ho139⟩ := yes_bind hm
      refine wpD_midX (τ := Unit) (Y := Unit) (fun y139 z139 => (⟨[(0, .v (.string a0)), (4, .ptr b1 0), (6, .v (.int .i64 y26))], [(b1, Blk.cells [.v (.int .i64 (0 : Int)), .v (.string ByteArray.empty), .v (.int .i64 (0 : Int)), .v (.int .i64 (0 : Int))] 69)], []⟩ : S)) x139 ?_ ?_
      ·clear hm; have hm := yes_of q139
       refine wpD_block ?_
       obtain ⟨u140, hl140, hq140⟩ := yes_m hm
       refine loop_M (Y := Unit) hl140 (fun s140 z140 => (⟨[(0, .v (.string a0)), (4, .ptr b1 0), (6, .v (.int .i64 y26)), (7, .v (.int .i64 s140))], [(b1, Blk.cells [.v (.int .i64 (0 : Int)), .v (.string ByteArray.empty), .v (.int .i64 (0 : Int)), .v (.int .i64 (0 : Int))] 69)], []⟩ : S)) ?_ ?_
       ·skip
        exact WkX.of () (WkS.perm (WkS.cons rfl (Wk.refl _) (WkS.cons rfl (Wk.refl _) (WkS.cons rfl (Wk.refl _) (WkS.cons rfl (Wk.refl _) (WkS.nil))))) Pf Pf)
       ·intro G140 s140 z140 hm
        refine wpD_seq ?_
        refine wpD_sr ?_
        iterate 3 refine pu ?_
        refine ops_nt ?_
        refine wpD_cond rfl (fun hc151 => ?_) (fun hc151 => ?_)
        ·replace hm := yes_t hc151 hm
         refine wpD_skip ?_
         refine then_normal ?_
         refine wpD_seq ?_
         refine wpD_block ?_
         refine wpD_sr ?_
         refine pu ?_
         refine pu ?_
         obtain ⟨x152, q152, hm⟩ := yes_bind hm
         refine p_byte htab rfl rfl rfl rfl rfl rfl rfl rfl (bAt_nonneg q152) (bAt_ok q152) ?_
         obtain ⟨x153, q153, hm⟩ := yes_bind hm
         refine p_call0 (r10_letter_ok (x152.toNat : Int) x153 q153) rfl rfl rfl rfl rfl Wl ?_
         rintro _ rfl
         refine ops_nt ?_
         refine wpD_cond rfl (fun hc154 => ?_) (fun hc154 => ?_)
         ·replace hm := yes_t hc154 hm
          refine wpD_sr ?_
          refine p_build (r := [.v (.int .i64 (0 : Int)), .v (.string ByteArray.empty), .v (.int .i64 (0 : Int)), .v (.int .i64 (0 : Int))]) htab rfl rfl rfl rfl rfl rfl rfl rfl rfl ?_
          refine pS0 (ds' := [.v (.int .i64 (0 : Int)), .v (.string ByteArray.empty), .v (.int .i64 (0 : Int)), .v (.int .i64 (0 : Int))]) ?_
          refine pu ?_
          refine ops_nt ?_
          refine wpD_ret ?_
          refine block_ret ?_
          refine then_ret ?_
          have e140 := lp_done hm; subst e140; clear hm; have hm := hq140
          refine then_ret ?_
          refine block_ret ?_
          have e139 := yes_eq hm; subst e139; refine midX_inr ?_; clear hm; have hm := ho139; simp only [Sum.elim_inr] at hm
          refine then_ret ?_
          refine then_ret ?_
          have er155 := yes_eq hm; subst er155
          refine rP (t' := [(4, .ptr b1 0), (5, .v (.int .i64 (3 : Int)))]) [0] [] 0 (wC (wC wN)) (lC 0 (lT lN)) ?_
          exact ⟨rfl, rfl, rfl⟩
         ·replace hm := yes_f hc154 hm
          refine wpD_skip ?_
          refine block_normal ?_
          refine then_normal ?_
          refine wpD_region ?_
          iterate 3 refine pu ?_
          refine ops_nil ?_
          refine then_normal ⟨_, lp_next hm, ?_⟩
          exact WkX.of () (WkS.perm (WkS.cons rfl (Wk.refl _) (WkS.cons rfl (Wk.refl _) (WkS.cons rfl (Wk.refl _) (WkS.cons rfl (Wk.refl _) (WkS.nil))))) Pf Pf)
        ·replace hm := yes_f hc151 hm
         refine wpD_exit ?_
         refine then_exit ?_
         have e140 := lp_done hm; subst e140; clear hm; have hm := hq140
         refine then_exit ?_
         refine block_hit ?_
         have e139 := yes_eq hm; subst e139
         refine midX_inl ?_
         exact WkX.of () (WkS.perm (WkS.cons rfl (Wk.refl _) (WkS.cons rfl (Wk.refl _) (WkS.cons rfl (Wk.refl _) (WkS.nil)))) Pf Pf)
      ·intro y139 s139 hx139 hw139; subst hx139; clear hm; have hm := ho139; simp only [Sum.elim_inl] at hm; clear q139 ho139
       refine then_normal ?_
       refine wpD_wkX hw139 (fun z139 => ?_)
       refine wpD_sr ?_
       refine pu ?_
       refine pu ?_
       obtain ⟨x156, q156, hm⟩ := yes_bind hm
       refine p_cutS q156 htab rfl rfl rfl rfl rfl rfl rfl rfl rfl rfl rfl ?_
       obtain ⟨x157, q157, hm⟩ := yes_bind hm
       refine p_call0 (r10_number_ok x156 x157 q157) rfl rfl rfl rfl rfl Wl ?_
       rintro _ rfl
       iterate 5 refine pu ?_
       refine ops_nt ?_
       refine wpD_seq ?_
       refine wpD_sr ?_
       refine pu ?_
       refine pu ?_
       refine ops_nt ?_
       refine wpD_cond rfl (fun hc158 => ?_) (fun hc158 => ?_)
       ·replace hm := yes_t hc158 hm
        refine wpD_sr ?_
        refine p_build (r := [.v (.int .i64 (0 : Int)), .v (.string ByteArray.empty), .v (.int .i64 (0 : Int)), .v (.int .i64 (0 : Int))]) htab rfl rfl rfl rfl rfl rfl rfl rfl rfl ?_
        refine pu ?_
        refine pS0 (ds' := [.v (.int .i64 (0 : Int)), .v (.string ByteArray.empty), .v (.int .i64 (0 : Int)), .v (.int .i64 (0 : Int))]) ?_
        refine pu ?_
        refine ops_nt ?_
        refine wpD_ret ?_
        refine then_ret ?_
        refine then_ret ?_
        have er159 := yes_eq hm; subst er159
        refine rP (t' := [(4, .ptr b1 0), (5, .v (.int .i64 x157.2))]) [0] [] 0 (wC (wC wN)) (lC 0 (lT lN)) ?_
        exact ⟨rfl, rfl, rfl⟩
       ·replace hm := yes_f hc158 hm
        refine wpD_skip ?_
        refine then_normal ?_
        refine wpD_sr ?_
        refine pu ?_
        refine pu ?_
        obtain ⟨x160, q160, hm⟩ := yes_bind hm
        refine p_cutS q160 htab rfl rfl rfl rfl rfl rfl rfl rfl rfl rfl rfl ?_
        refine pu ?_
        refine p_build (r := [.v (.int .i64 (2 : Int)), .v (.string x160), .v (.int .i64 x157.1), .v (.int .i64 (0 : Int))]) htab rfl rfl rfl rfl rfl rfl rfl rfl rfl ?_
        refine pS0 (ds' := [.v (.int .i64 (2 : Int)), .v (.string x160), .v (.int .i64 x157.1), .v (.int .i64 (0 : Int))]) ?_
        refine pu ?_
        refine ops_nt ?_
        refine wpD_ret ?_
        refine then_ret ?_
        have er161 := yes_eq hm; subst er161
        refine rP (t' := [(4, .ptr b1 0), (5, .v (.int .i64 (0 : Int)))]) [0] [] 0 (wC (wC wN)) (lC 0 (lT lN)) ?_
        exact ⟨rfl, rfl, rfl⟩
    ·replace hm := yes_f hc121 hm
     refine wpD_skip ?_
     refine then_normal ?_
     refine wpD_sr ?_
     refine p_lit htab rfl rfl rfl rfl rfl rfl rfl rfl rfl rfl rfl rfl rfl rfl ?_
     refine p_eq (i := 83) (d' := .lst 1 (([(ByteArray.mk #[61, 61]), (ByteArray.mk #[33, 61]), (ByteArray.mk #[60, 61]), (ByteArray.mk #[38, 38]), (ByteArray.mk #[124, 124]), (ByteArray.mk #[40]), (ByteArray.mk #[41]), (ByteArray.mk #[123]), (ByteArray.mk #[125]), (ByteArray.mk #[91]), (ByteArray.mk #[93]), (ByteArray.mk #[59]), (ByteArray.mk #[44]), (ByteArray.mk #[61]), (ByteArray.mk #[60]), (ByteArray.mk #[43]), (ByteArray.mk #[45]), (ByteArray.mk #[42]), (ByteArray.mk #[47]), (ByteArray.mk #[37]), (ByteArray.mk #[33]), (ByteArray.mk #[38])] : List ByteArray).map eStr) .full) rfl (Wk.lst0 (.cons (WkC.refl _) (.cons (WkC.refl _) (.cons (WkC.refl _) (.cons (WkC.refl _) (.cons (WkC.refl _) (.cons (WkC.refl _) (.cons (WkC.refl _) (.cons (WkC.refl _) (.cons (WkC.refl _) (.cons (WkC.refl _) (.cons (WkC.refl _) (.cons (WkC.refl _) (.cons (WkC.refl _) (.cons (WkC.refl _) (.cons (WkC.refl _) (.cons (WkC.refl _) (.cons (WkC.refl _) (.cons (WkC.refl _) (.cons (WkC.refl _) (.cons (WkC.refl _) (.cons (WkC.refl _) (.cons (WkC.refl _) (.nil)))))))))))))))))))))))) ?_
     refine pu ?_
     refine ops_nt ?_
     refine wpD_seq ?_
     refine wpD_sr ?_
     refine pu ?_
     refine ops_nt ?_
     obtain ⟨x203, q203, ho203⟩ := yes_bind hm
     refine wpD_midX (τ := Unit) (Y := Unit) (fun y203 z203 => (⟨[(4, .ptr b1 0)], [(b1, Blk.cells [.v (.int .i64 (0 : Int)), .v (.string ByteArray.empty), .v (.int .i64 (0 : Int)), .v (.int .i64 (0 : Int))] 69)], []⟩ : S)) x203 ?_ ?_
     ·clear hm; have hm := yes_of q203
      refine wpD_block ?_
      obtain ⟨u204, hl204, hq204⟩ := yes_m hm
      refine loop_M (Y := Unit) hl204 (fun s204 z204 => (⟨[(0, .v (.string a0)), (1, .v (.bool a1)), (4, .ptr b1 0), (10, .lst 1 (([(ByteArray.mk #[61, 61]), (ByteArray.mk #[33, 61]), (ByteArray.mk #[60, 61]), (ByteArray.mk #[38, 38]), (ByteArray.mk #[124, 124]), (ByteArray.mk #[40]), (ByteArray.mk #[41]), (ByteArray.mk #[123]), (ByteArray.mk #[125]), (ByteArray.mk #[91]), (ByteArray.mk #[93]), (ByteArray.mk #[59]), (ByteArray.mk #[44]), (ByteArray.mk #[61]), (ByteArray.mk #[60]), (ByteArray.mk #[43]), (ByteArray.mk #[45]), (ByteArray.mk #[42]), (ByteArray.mk #[47]), (ByteArray.mk #[37]), (ByteArray.mk #[33]), (ByteArray.mk #[38])] : List ByteArray).map eStr) .full), (11, .v (.int .i64 s204))], [(b1, Blk.cells [.v (.int .i64 (0 : Int)), .v (.string ByteArray.empty), .v (.int .i64 (0 : Int)), .v (.int .i64 (0 : Int))] 69)], []⟩ : S)) ?_ ?_
      ·skip
       exact WkX.of () (WkS.perm (WkS.cons rfl (Wk.refl _) (WkS.cons rfl (Wk.refl _) (WkS.cons rfl (Wk.refl _) (WkS.cons rfl (Wk.refl _) (WkS.cons rfl (Wk.refl _) (WkS.nil)))))) Pf Pf)
      ·intro G204 s204 z204 hm
       refine wpD_seq ?_
       refine wpD_sr ?_
       refine pu ?_
       refine pu ?_
       refine p_lenL htab rfl rfl rfl rfl rfl rfl rfl (by first | exact map_len | rfl) ?_
       refine pu ?_
       refine ops_nt ?_
       refine wpD_cond rfl (fun hc231 => ?_) (fun hc231 => ?_)
       ·replace hm := yes_t hc231 hm
        refine wpD_skip ?_
        refine then_normal ?_
        refine wpD_seq ?_
        refine wpD_block ?_
        refine wpD_sr ?_
        refine pu ?_
        refine pu ?_
        obtain ⟨x232, q232, hm⟩ := yes_bind hm
        refine p_elem htab rfl rfl rfl rfl rfl rfl rfl rfl rfl rfl (idx_nonneg q232) (idx_map q232) ?_
        refine p_loadEl htab rfl rfl rfl rfl rfl rfl rfl rfl ?_
        refine p_lenS htab rfl rfl rfl rfl rfl rfl rfl rfl ?_
        refine pu ?_
        refine ops_nt ?_
        refine wpD_seq ?_
        obtain ⟨y236, q236, ho236⟩ := yes_bind hm
        refine wpD_mid (Y := Unit) (fun z236 => (⟨[(0, .v (.string a0)), (1, .v (.bool a1)), (4, .ptr b1 0), (10, .lst 1 (([(ByteArray.mk #[61, 61]), (ByteArray.mk #[33, 61]), (ByteArray.mk #[60, 61]), (ByteArray.mk #[38, 38]), (ByteArray.mk #[124, 124]), (ByteArray.mk #[40]), (ByteArray.mk #[41]), (ByteArray.mk #[123]), (ByteArray.mk #[125]), (ByteArray.mk #[91]), (ByteArray.mk #[93]), (ByteArray.mk #[59]), (ByteArray.mk #[44]), (ByteArray.mk #[61]), (ByteArray.mk #[60]), (ByteArray.mk #[43]), (ByteArray.mk #[45]), (ByteArray.mk #[42]), (ByteArray.mk #[47]), (ByteArray.mk #[37]), (ByteArray.mk #[33]), (ByteArray.mk #[38])] : List ByteArray).map eStr) .full), (11, .v (.int .i64 s204)), (108, .v (.bool y236))], [(b1, Blk.cells [.v (.int .i64 (0 : Int)), .v (.string ByteArray.empty), .v (.int .i64 (0 : Int)), .v (.int .i64 (0 : Int))] 69)], []⟩ : S)) ?_ ?_
        ·clear hm; have hm := yes_of q236
         refine bycB (decide ((x232.size : Int) ≤ (a0.size : Int))) (fun hs237 => ?_) (fun hs237 => ?_)
         ·replace hm := yes_t hs237 hm
          obtain ⟨x238, q238, hm⟩ := yes_bind hm
          obtain ⟨x239, q239, hm⟩ := yes_bind hm
          refine wpD_draws 12 [] [[],[],[],[],[],[],[],[],[],[],[8],[8,10]] [8,10] nlGm1_8 (by kernel_rfl) (by kernel_rfl) (by kernel_rfl) (by rfl) (by rfl) (by kernel_rfl) ?_
          apply Exists.intro
          apply Exists.intro
          intro bs
          refine zqp ?_
          refine z_q rfl rfl (x_lenS htab rfl rfl rfl rfl rfl) rfl rfl rfl rfl rfl rfl ?_
          iterate 3 refine zqp ?_
          refine z_known (j := 99) (b' := true) rfl hs237 ?_
          refine zqp ?_
          refine zqp ?_
          refine z_q rfl rfl (x_cutS q238 htab rfl rfl rfl rfl rfl rfl rfl rfl) rfl rfl rfl rfl rfl rfl ?_
          refine zep ?_
          refine zqp ?_
          refine z_e rfl rfl (x_elem htab rfl rfl rfl rfl rfl rfl rfl (idx_nonneg q239) (idx_map q239)) rfl rfl rfl rfl rfl rfl ?_
          refine z_qM rfl rfl (xm_loadEl htab rfl rfl rfl rfl rfl) rfl rfl rfl rfl rfl rfl ?_
          refine z_nil rfl rfl (fun e he => by simp [isAl] at he) ?_
          refine pu ?_
          refine p_pickT rfl rfl rfl rfl rfl rfl ?_
          refine ops_nil ?_
          have e236 := yes_eq hm; subst e236
          refine ⟨rfl, ?_⟩
          exact WkX.of () (WkS.perm (WkS.cons rfl (Wk.refl _) (WkS.cons rfl (Wk.refl _) (WkS.cons rfl (Wk.refl _) (WkS.cons rfl (Wk.refl _) (WkS.cons rfl (Wk.refl _) (WkS.cons rfl (Wk.refl _) (WkS.nil))))))) Pf Pf)
         ·replace hm := yes_f hs237 hm
          refine wpD_draws 12 [] [[],[],[],[],[],[],[],[],[],[],[],[]] [] nlGm1_8 (by kernel_rfl) (by kernel_rfl) (by kernel_rfl) (by rfl) (by rfl) (by kernel_rfl) ?_
          intro bs
          refine zqp ?_
          refine z_q rfl rfl (x_lenS htab rfl rfl rfl rfl rfl) rfl rfl rfl rfl rfl rfl ?_
          iterate 3 refine zqp ?_
          refine z_known (j := 99) (b' := false) rfl hs237 ?_
          iterate 7 refine zK ?_
          refine z_nil rfl rfl (fun e he => by simp [isAl] at he) ?_
          refine pK ?_
          refine p_pickF rfl rfl rfl rfl rfl rfl ?_
          refine ops_nil ?_
          have e236 := yes_eq hm; subst e236
          refine ⟨rfl, ?_⟩
          exact WkX.of () (WkS.perm (WkS.cons rfl (Wk.refl _) (WkS.cons rfl (Wk.refl _) (WkS.cons rfl (Wk.refl _) (WkS.cons rfl (Wk.refl _) (WkS.cons rfl (Wk.refl _) (WkS.cons rfl (Wk.refl _) (WkS.nil))))))) Pf Pf)
        ·intro s236 hw236; clear hm; have hm := ho236; clear q236 ho236
         refine then_normal ?_
         refine wpD_wkX hw236 (fun z236 => ?_)
         refine wpD_cond rfl (fun hc240 => ?_) (fun hc240 => ?_)
         ·replace hm := yes_t hc240 hm
          refine wpD_seq ?_
          refine wpD_sr ?_
          refine pu ?_
          refine ops_nt ?_
          refine wpD_cond rfl (fun hc241 => ?_) (fun hc241 => ?_)
          ·replace hm := yes_t hc241 hm
           refine wpD_sr ?_
           refine p_build (r := [.v (.int .i64 (0 : Int)), .v (.string ByteArray.empty), .v (.int .i64 (0 : Int)), .v (.int .i64 (0 : Int))]) htab rfl rfl rfl rfl rfl rfl rfl rfl rfl ?_
           refine pS0 (ds' := [.v (.int .i64 (0 : Int)), .v (.string ByteArray.empty), .v (.int .i64 (0 : Int)), .v (.int .i64 (0 : Int))]) ?_
           refine pu ?_
           refine ops_nt ?_
           refine wpD_ret ?_
           refine then_ret ?_
           refine block_ret ?_
           refine then_ret ?_
           have e204 := lp_done hm; subst e204; clear hm; have hm := hq204
           refine then_ret ?_
           refine block_ret ?_
           have e203 := yes_eq hm; subst e203; refine midX_inr ?_; clear hm; have hm := ho203; simp only [Sum.elim_inr] at hm
           refine then_ret ?_
           have er242 := yes_eq hm; subst er242
           refine rP (t' := [(4, .ptr b1 0), (5, .v (.int .i64 (6 : Int)))]) [0] [] 0 (wC (wC wN)) (lC 0 (lT lN)) ?_
           exact ⟨rfl, rfl, rfl⟩
          ·replace hm := yes_f hc241 hm
           refine wpD_skip ?_
           refine then_normal ?_
           refine wpD_sr ?_
           refine pu ?_
           refine pu ?_
           obtain ⟨x243, q243, hm⟩ := yes_bind hm
           refine p_elem htab rfl rfl rfl rfl rfl rfl rfl rfl rfl rfl (idx_nonneg q243) (idx_map q243) ?_
           refine p_loadEl htab rfl rfl rfl rfl rfl rfl rfl rfl ?_
           refine p_build (r := [.v (.int .i64 (3 : Int)), .v (.string x243), .v (.int .i64 (0 : Int)), .v (.int .i64 (0 : Int))]) htab rfl rfl rfl rfl rfl rfl rfl rfl rfl ?_
           refine pS0 (ds' := [.v (.int .i64 (3 : Int)), .v (.string x243), .v (.int .i64 (0 : Int)), .v (.int .i64 (0 : Int))]) ?_
           refine pu ?_
           refine ops_nt ?_
           refine wpD_ret ?_
           refine block_ret ?_
           refine then_ret ?_
           have e204 := lp_done hm; subst e204; clear hm; have hm := hq204
           refine then_ret ?_
           refine block_ret ?_
           have e203 := yes_eq hm; subst e203; refine midX_inr ?_; clear hm; have hm := ho203; simp only [Sum.elim_inr] at hm
           refine then_ret ?_
           have er244 := yes_eq hm; subst er244
           refine rP (t' := [(4, .ptr b1 0), (5, .v (.int .i64 (0 : Int)))]) [0] [] 0 (wC (wC wN)) (lC 0 (lT lN)) ?_
           exact ⟨rfl, rfl, rfl⟩
         ·replace hm := yes_f hc240 hm
          refine wpD_skip ?_
          refine block_normal ?_
          refine then_normal ?_
          refine wpD_region ?_
          iterate 3 refine pu ?_
          refine ops_nil ?_
          refine then_normal ⟨_, lp_next hm, ?_⟩
          exact WkX.of () (WkS.perm (WkS.cons rfl (Wk.refl _) (WkS.cons rfl (Wk.refl _) (WkS.cons rfl (Wk.refl _) (WkS.cons rfl (Wk.refl _) (WkS.cons rfl (Wk.refl _) (WkS.nil)))))) Pf Pf)
       ·replace hm := yes_f hc231 hm
        refine wpD_exit ?_
        refine then_exit ?_
        have e204 := lp_done hm; subst e204; clear hm; have hm := hq204
        refine then_exit ?_
        refine block_hit ?_
        have e203 := yes_eq hm; subst e203
        refine midX_inl ?_
        exact WkX.of () (WkS.perm (WkS.cons rfl (Wk.refl _) (WkS.nil)) Pf Pf)
     ·intro y203 s203 hx203 hw203; subst hx203; clear hm; have hm := ho203; simp only [Sum.elim_inl] at hm; clear q203 ho203
      refine then_normal ?_
      refine wpD_wkX hw203 (fun z203 => ?_)
      refine wpD_sr ?_
      refine p_build (r := [.v (.int .i64 (0 : Int)), .v (.string ByteArray.empty), .v (.int .i64 (0 : Int)), .v (.int .i64 (0 : Int))]) htab rfl rfl rfl rfl rfl rfl rfl rfl rfl ?_
      refine pS0 (ds' := [.v (.int .i64 (0 : Int)), .v (.string ByteArray.empty), .v (.int .i64 (0 : Int)), .v (.int .i64 (0 : Int))]) ?_
      refine pu ?_
      refine ops_nt ?_
      refine wpD_ret ?_
      have er245 := yes_eq hm; subst er245
      refine rP (t' := [(4, .ptr b1 0), (5, .v (.int .i64 (3 : Int)))]) [0] [] 0 (wC (wC wN)) (lC 0 (lT lN)) ?_
      exact ⟨rfl, rfl, rfl⟩
noncomputable def r10_Read (a0 : List UInt8) : Option (List TApiToken × Int × Int) :=
  (bif (decide ((20000 : Int) < (a0.length : Int))) then some (([] : List TApiToken), (0 : Int), (6 : Int)) else (Option.bind (α := (List TApiToken) ⊕ (List TApiToken × Int × Int)) (loopM (fun (s58 : List TApiToken × Int) => (bif (decide (s58.2 < ((ByteArray.mk a0.toArray).size : Int))) then ((bAt (ByteArray.mk a0.toArray) s58.2).bind fun x93 => (Option.bind (α := Bool) (bif ((x93.toNat : Int) == (32 : Int)) then some true else (bif ((x93.toNat : Int) == (9 : Int)) then some true else (bif ((x93.toNat : Int) == (10 : Int)) then some true else some ((x93.toNat : Int) == (13 : Int))))) fun y97 => (bif y97 then some (.next (s58.1, (IntKind.i64.wrap (s58.2 + (1 : Int))))) else ((cutS (ByteArray.mk a0.toArray) s58.2 (((ByteArray.mk a0.toArray)).size : Int)).bind fun x102 => ((r10_one x102 (decide ((4000 : Int) ≤ (s58.1.length : Int)))).bind fun x103 => (bif (x103.2 != (0 : Int)) then some (.done (.inr (([] : List TApiToken), s58.2, x103.2))) else ((app 40 s58.1 ([(⟨x103.1.gKind, x103.1.gText, x103.1.gN, s58.2⟩ : TApiToken)] : List TApiToken)).bind fun x108 => some (.next (x108, (IntKind.i64.wrap (s58.2 + (x103.1.gText.size : Int)))))))))))) else some (.done (.inl s58.1)))) (([] : List TApiToken), (0 : Int))) (Sum.elim (fun y57 => ((app 40 y57 ([(⟨(0 : Int), ByteArray.empty, (0 : Int), (a0.length : Int)⟩ : TApiToken)] : List TApiToken)).bind fun x109 => some (x109, (0 : Int), (0 : Int)))) (fun r => some r))))
set_option maxRecDepth 100000 in
set_option maxHeartbeats 2000000 in
theorem r10_Read_ok (a0 : List UInt8) (r : List TApiToken × Int × Int) (h0 : r10_Read a0 = some r) : CallsD Try.prog 17 [.lst 1 (a0.map byteD) .no] [] [] (fun d h k => ∃ y0, d = .tup [.lst 4 (r.1.map eTApiToken) (.cur y0), .v (.int .i64 r.2.1), .v (.int .i64 r.2.2)] ∧ h = [] ∧ k = [(4, y0)]) := by
  have hm := yes_of h0
  unfold r10_Read at hm
  clear h0
  refine enterX htab Try.func17 rfl rfl rfl rfl rfl (fun C => ?_)
  refine wpD_sr ?_
  iterate 3 refine pu ?_
  refine ops_nt ?_
  refine wpD_seq ?_
  refine wpD_sr ?_
  refine pu ?_
  refine p_lenL htab rfl rfl rfl rfl rfl rfl rfl (by first | exact map_len | rfl) ?_
  refine pu ?_
  refine ops_nt ?_
  refine wpD_cond rfl (fun hc2 => ?_) (fun hc2 => ?_)
  ·replace hm := yes_t hc2 hm
   refine wpD_sr ?_
   iterate 3 refine pu ?_
   refine ops_nt ?_
   refine wpD_ret ?_
   refine then_ret ?_
   have er3 := yes_eq hm; subst er3
   refine retX.tokN (i := 2) 4 rfl (fun w4 => ?_)
   refine rP (t' := [(2, .lst 4 (([] : List TApiToken).map eTApiToken) (.cur w4)), (3, .v (.int .i64 (0 : Int))), (4, .v (.int .i64 (6 : Int)))]) [] [0] 0 (wC (wC (wC wN))) (lT (lT (lT lN))) ?_
   exact ⟨w4, rfl, rfl, rfl⟩
  ·replace hm := yes_f hc2 hm
   refine wpD_skip ?_
   refine then_normal ?_
   refine wpD_sr ?_
   refine pu ?_
   refine p_toStr htab rfl rfl rfl rfl rfl rfl rfl rfl rfl rfl rfl ?_
   refine pu ?_
   refine ops_n2 ?_
   refine pu ?_
   refine ops_n2 ?_
   refine pu ?_
   refine ops_nt ?_
   refine wpD_seq ?_
   obtain ⟨x57, q57, ho57⟩ := yes_bind hm
   refine wpD_midX (τ := List TApiToken) (Y := Value) (fun y57 z57 => (⟨[(0, .lst 1 (a0.map byteD) .no), (6, .lst 4 (y57.map eTApiToken) (.cur z57))], [], [(4, z57)]⟩ : S)) x57 ?_ ?_
   ·clear hm; have hm := yes_of q57
    refine wpD_block ?_
    obtain ⟨u58, hl58, hq58⟩ := yes_m hm
    refine loop_M (Y := Value) hl58 (fun s58 z58 => (⟨[(0, .lst 1 (a0.map byteD) .no), (5, .v (.string (ByteArray.mk a0.toArray))), (6, .lst 4 (s58.1.map eTApiToken) (.cur z58)), (7, .v (.int .i64 s58.2))], [], [(4, z58)]⟩ : S)) ?_ ?_
    ·skip
     refine WkX.tokN (i := 6) 4 rfl (fun w91 => ?_)
     exact WkX.of w91 (WkS.perm (WkS.cons rfl (Wk.refl _) (WkS.cons rfl (Wk.refl _) (WkS.cons rfl (Wk.refl _) (WkS.cons rfl (Wk.refl _) (WkS.nil))))) Pf Pf)
    ·intro G58 s58 z58 hm
     refine wpD_seq ?_
     refine wpD_sr ?_
     refine pu ?_
     refine pu ?_
     refine p_lenS htab rfl rfl rfl rfl rfl rfl rfl rfl ?_
     refine pu ?_
     refine ops_nt ?_
     refine wpD_cond rfl (fun hc92 => ?_) (fun hc92 => ?_)
     ·replace hm := yes_t hc92 hm
      refine wpD_skip ?_
      refine then_normal ?_
      refine wpD_block ?_
      refine wpD_sr ?_
      refine pu ?_
      refine pu ?_
      obtain ⟨x93, q93, hm⟩ := yes_bind hm
      refine p_byte htab rfl rfl rfl rfl rfl rfl rfl rfl (bAt_nonneg q93) (bAt_ok q93) ?_
      refine pu ?_
      refine ops_nt ?_
      refine wpD_seq ?_
      refine wpD_seq ?_
      obtain ⟨y97, q97, ho97⟩ := yes_bind hm
      refine wpD_mid (Y := Unit) (fun z97 => (⟨[(0, .lst 1 (a0.map byteD) .no), (5, .v (.string (ByteArray.mk a0.toArray))), (6, .lst 4 (s58.1.map eTApiToken) (.cur z58)), (7, .v (.int .i64 s58.2)), (36, .v (.bool y97))], [], [(4, z58)]⟩ : S)) ?_ ?_
      ·clear hm; have hm := yes_of q97
       refine wpD_region ?_
       iterate 3 refine pu ?_
       refine p_split (i := 25) rfl (fun hg98 => ?_) (fun hg98 => ?_)
       ·replace hm := yes_t hg98 hm
        refine pK ?_
        refine pK ?_
        refine p_pickT rfl rfl rfl rfl rfl rfl ?_
        refine pu ?_
        refine pK ?_
        refine pK ?_
        refine p_pickT rfl rfl rfl rfl rfl rfl ?_
        refine pu ?_
        refine pK ?_
        refine pK ?_
        refine p_pickT rfl rfl rfl rfl rfl rfl ?_
        refine ops_nil ?_
        have e97 := yes_eq hm; subst e97
        refine ⟨rfl, ?_⟩
        exact WkX.of () (WkS.perm (WkS.cons rfl (Wk.refl _) (WkS.cons rfl (Wk.refl _) (WkS.cons rfl (Wk.refl _) (WkS.cons rfl (Wk.refl _) (WkS.cons rfl (Wk.refl _) (WkS.nil)))))) Pf Pf)
       ·replace hm := yes_f hg98 hm
        refine pu ?_
        refine pu ?_
        refine p_pickF rfl rfl rfl rfl rfl rfl ?_
        refine pu ?_
        refine p_split (i := 29) rfl (fun hg99 => ?_) (fun hg99 => ?_)
        ·replace hm := yes_t hg99 hm
         refine pK ?_
         refine pK ?_
         refine p_pickT rfl rfl rfl rfl rfl rfl ?_
         refine pu ?_
         refine pK ?_
         refine pK ?_
         refine p_pickT rfl rfl rfl rfl rfl rfl ?_
         refine ops_nil ?_
         have e97 := yes_eq hm; subst e97
         refine ⟨rfl, ?_⟩
         exact WkX.of () (WkS.perm (WkS.cons rfl (Wk.refl _) (WkS.cons rfl (Wk.refl _) (WkS.cons rfl (Wk.refl _) (WkS.cons rfl (Wk.refl _) (WkS.cons rfl (Wk.refl _) (WkS.nil)))))) Pf Pf)
        ·replace hm := yes_f hg99 hm
         refine pu ?_
         refine pu ?_
         refine p_pickF rfl rfl rfl rfl rfl rfl ?_
         refine pu ?_
         refine p_split (i := 33) rfl (fun hg100 => ?_) (fun hg100 => ?_)
         ·replace hm := yes_t hg100 hm
          refine pK ?_
          refine pK ?_
          refine p_pickT rfl rfl rfl rfl rfl rfl ?_
          refine ops_nil ?_
          have e97 := yes_eq hm; subst e97
          refine ⟨rfl, ?_⟩
          exact WkX.of () (WkS.perm (WkS.cons rfl (Wk.refl _) (WkS.cons rfl (Wk.refl _) (WkS.cons rfl (Wk.refl _) (WkS.cons rfl (Wk.refl _) (WkS.cons rfl (Wk.refl _) (WkS.nil)))))) Pf Pf)
         ·replace hm := yes_f hg100 hm
          refine pu ?_
          refine pu ?_
          refine p_pickF rfl rfl rfl rfl rfl rfl ?_
          refine ops_nil ?_
          have e97 := yes_eq hm; subst e97
          refine ⟨rfl, ?_⟩
          exact WkX.of () (WkS.perm (WkS.cons rfl (Wk.refl _) (WkS.cons rfl (Wk.refl _) (WkS.cons rfl (Wk.refl _) (WkS.cons rfl (Wk.refl _) (WkS.cons rfl (Wk.refl _) (WkS.nil)))))) Pf Pf)
      ·intro s97 hw97; clear hm; have hm := ho97; clear q97 ho97
       refine then_normal ?_
       refine wpD_wkX hw97 (fun z97 => ?_)
       refine wpD_cond rfl (fun hc101 => ?_) (fun hc101 => ?_)
       ·replace hm := yes_t hc101 hm
        refine wpD_sr ?_
        iterate 3 refine pu ?_
        refine ops_nt ?_
        refine wpD_exit ?_
        refine then_exit ?_
        refine block_hit ?_
        refine then_normal ⟨_, lp_next hm, ?_⟩
        exact WkX.of z58 (WkS.perm (WkS.cons rfl (Wk.refl _) (WkS.cons rfl (Wk.refl _) (WkS.cons rfl (Wk.refl _) (WkS.cons rfl (Wk.refl _) (WkS.nil))))) Pf Pf)
       ·replace hm := yes_f hc101 hm
        refine wpD_skip ?_
        refine then_normal ?_
        refine wpD_sr ?_
        refine pu ?_
        refine pu ?_
        obtain ⟨x102, q102, hm⟩ := yes_bind hm
        refine p_cutS q102 htab rfl rfl rfl rfl rfl rfl rfl rfl rfl rfl rfl ?_
        refine pu ?_
        refine p_lenL htab rfl rfl rfl rfl rfl rfl rfl (by first | exact map_len | rfl) ?_
        refine pu ?_
        obtain ⟨x103, q103, hm⟩ := yes_bind hm
        refine p_call0 (r10_one_ok x102 (decide ((4000 : Int) ≤ (s58.1.length : Int))) x103 q103) rfl rfl rfl rfl rfl Wl ?_
        rintro _ rfl
        iterate 3 refine pu ?_
        refine p_alloc htab rfl rfl rfl rfl rfl rfl rfl (fun b104 => ?_)
        refine pS0 (ds' := [.v (.int .i64 x103.1.gKind), .v (.string x103.1.gText), .v (.int .i64 x103.1.gN), .v (.int .i64 x103.1.gAt)]) ?_
        refine pu ?_
        refine ops_nt ?_
        refine wpD_seq ?_
        refine wpD_sr ?_
        refine pu ?_
        refine pu ?_
        refine ops_nt ?_
        refine wpD_cond rfl (fun hc105 => ?_) (fun hc105 => ?_)
        ·replace hm := yes_t hc105 hm
         refine wpD_sr ?_
         iterate 5 refine pu ?_
         refine ops_nt ?_
         refine wpD_ret ?_
         refine then_ret ?_
         refine block_ret ?_
         have e58 := lp_done hm; subst e58; clear hm; have hm := hq58
         refine then_ret ?_
         refine block_ret ?_
         have e57 := yes_eq hm; subst e57; refine midX_inr ?_; clear hm; have hm := ho57; simp only [Sum.elim_inr] at hm
         refine then_ret ?_
         have er106 := yes_eq hm; subst er106
         refine retX.tokN (i := 2) 4 rfl (fun w107 => ?_)
         refine rP (t' := [(2, .lst 4 (([] : List TApiToken).map eTApiToken) (.cur w107)), (3, .v (.int .i64 s58.2)), (4, .v (.int .i64 x103.2))]) [] [0] 0 (wC (wC (wC wN))) (lT (lT (lT lN))) ?_
         exact ⟨w107, rfl, rfl, rfl⟩
        ·replace hm := yes_f hc105 hm
         refine wpD_skip ?_
         refine then_normal ?_
         refine wpD_sr ?_
         refine pu ?_
         refine pu ?_
         refine pS0 (ds' := [.v (.int .i64 x103.1.gKind), .v (.string x103.1.gText), .v (.int .i64 x103.1.gN), .v (.int .i64 s58.2)]) ?_
         refine ops_n2 ?_
         refine pu ?_
         refine p_load (d := eTApiToken (⟨x103.1.gKind, x103.1.gText, x103.1.gN, s58.2⟩ : TApiToken)) 0 htab rfl rfl rfl rfl rfl rfl rfl rfl ?_
         refine p_lit htab rfl rfl rfl rfl rfl rfl rfl rfl rfl rfl rfl rfl rfl rfl ?_
         refine p_eq (i := 57) (d' := .lst 4 (([(⟨x103.1.gKind, x103.1.gText, x103.1.gN, s58.2⟩ : TApiToken)] : List TApiToken).map eTApiToken) .full) rfl (Wk.lst0 (.cons (WkC.refl _) (.nil))) ?_
         obtain ⟨x108, q108, hm⟩ := yes_bind hm
         refine p_appC 0 htab rfl rfl rfl rfl rfl rfl rfl rfl rfl rfl rfl rfl rfl rfl rfl rfl rfl (app_bound q108) (fun v108 => ?_)
         refine p_mapD (i := 58) q108 rfl ?_
         refine pu ?_
         refine ops_nt ?_
         refine wpD_region ?_
         refine pu ?_
         refine pu ?_
         refine pL 0 ?_
         refine p_lenS htab rfl rfl rfl rfl rfl rfl rfl rfl ?_
         refine pu ?_
         refine pu ?_
         refine ops_nil ?_
         refine block_normal ?_
         refine then_normal ⟨_, lp_next hm, ?_⟩
         exact WkX.of v108 (WkS.perm (WkS.cons rfl (Wk.refl _) (WkS.cons rfl (Wk.refl _) (WkS.cons rfl (Wk.refl _) (WkS.cons rfl (Wk.refl _) (WkS.nil))))) Pf Pf)
     ·replace hm := yes_f hc92 hm
      refine wpD_exit ?_
      refine then_exit ?_
      have e58 := lp_done hm; subst e58; clear hm; have hm := hq58
      refine then_exit ?_
      refine block_hit ?_
      have e57 := yes_eq hm; subst e57
      refine midX_inl ?_
      exact WkX.of z58 (WkS.perm (WkS.cons rfl (Wk.refl _) (WkS.cons rfl (Wk.refl _) (WkS.nil))) Pf Pf)
   ·intro y57 s57 hx57 hw57; subst hx57; clear hm; have hm := ho57; simp only [Sum.elim_inl] at hm; clear q57 ho57
    refine then_normal ?_
    refine wpD_wkX hw57 (fun z57 => ?_)
    refine wpD_sr ?_
    refine pu ?_
    refine pu ?_
    refine p_lenL htab rfl rfl rfl rfl rfl rfl rfl (by first | exact map_len | rfl) ?_
    refine p_build (r := [.v (.int .i64 (0 : Int)), .v (.string ByteArray.empty), .v (.int .i64 (0 : Int)), .v (.int .i64 (a0.length : Int))]) htab rfl rfl rfl rfl rfl rfl rfl rfl rfl ?_
    refine p_lit htab rfl rfl rfl rfl rfl rfl rfl rfl rfl rfl rfl rfl rfl rfl ?_
    refine p_eq (i := 68) (d' := .lst 4 (([(⟨(0 : Int), ByteArray.empty, (0 : Int), (a0.length : Int)⟩ : TApiToken)] : List TApiToken).map eTApiToken) .full) rfl (Wk.lst0 (.cons (WkC.refl _) (.nil))) ?_
    obtain ⟨x109, q109, hm⟩ := yes_bind hm
    refine p_appC 0 htab rfl rfl rfl rfl rfl rfl rfl rfl rfl rfl rfl rfl rfl rfl rfl rfl rfl (app_bound q109) (fun v109 => ?_)
    refine p_mapD (i := 69) q109 rfl ?_
    iterate 3 refine pu ?_
    refine ops_nt ?_
    refine wpD_ret ?_
    have er110 := yes_eq hm; subst er110
    refine rP (t' := [(2, .lst 4 (x109.map eTApiToken) (.cur v109)), (3, .v (.int .i64 (0 : Int))), (4, .v (.int .i64 (0 : Int)))]) [] [0] 0 (wC (wC (wC wN))) (lT (lT (lT lN))) ?_
    exact ⟨v109, rfl, rfl, rfl⟩
structure TSondageref12R where
  gL : List TApiToken
  gAt : Int
  gE : Int
noncomputable def r12_Look (m0 : TSondageref12R) : Option (TApiToken) :=
  (bif (decide (m0.gAt < (m0.gL.length : Int))) then ((idx m0.gL m0.gAt).bind fun x3 => some x3) else some (⟨(0 : Int), ByteArray.empty, (0 : Int), (0 : Int)⟩ : TApiToken))
set_option maxRecDepth 100000 in
set_option maxHeartbeats 2000000 in
theorem r12_Look_ok (m0 : TSondageref12R) (o0 : Nat) (T0 : TypeId) (c0_0 : Cap) (r : TApiToken) (h0 : r12_Look m0 = some r) : CallsD Try.prog 23 [.ptr o0 0] [(o0, Blk.cells [.lst 4 (m0.gL.map eTApiToken) c0_0, .v (.int .i64 m0.gAt), .v (.int .i64 m0.gE)] T0)] [] (fun d h k => d = eTApiToken r ∧ h = [(o0, Blk.cells [.lst 4 (m0.gL.map eTApiToken) c0_0, .v (.int .i64 m0.gAt), .v (.int .i64 m0.gE)] T0)] ∧ k = []) := by
  have hm := yes_of h0
  unfold r12_Look at hm
  clear h0
  refine enterX htab Try.func23 rfl rfl rfl rfl rfl (fun C => ?_)
  refine wpD_sr ?_
  refine p_alloc htab rfl rfl rfl rfl rfl rfl rfl (fun b1 => ?_)
  refine ops_nt ?_
  refine wpD_seq ?_
  refine wpD_seq ?_
  refine wpD_draws 9 [] [[],[0],[0,1],[0,1,2],[],[4],[4,5],[4,5,6],[4,5,6,7]] [0,1,2,4,5,6,7] [[],[0],[0,1],[0,1,2],[],[4],[4,5],[4,5,6],[4,5,6,7],[0,1,2,3,4,5,6,7,8]] (by kernel_rfl) (by kernel_rfl) (by kernel_rfl) (by rfl) (by rfl) (by kernel_rfl) ?_
  iterate 7 apply Exists.intro
  intro bs
  iterate 3 refine zep ?_
  refine z_qM rfl rfl (xm_load 0 htab rfl rfl rfl rfl rfl) rfl rfl rfl rfl rfl rfl ?_
  iterate 3 refine zep ?_
  refine z_eM rfl rfl (xm_load 0 htab rfl rfl rfl rfl rfl) rfl rfl rfl rfl rfl rfl ?_
  refine z_q rfl rfl (x_lenL htab rfl rfl rfl rfl (by first | exact map_len | rfl)) rfl rfl rfl rfl rfl rfl ?_
  refine z_nil rfl rfl (fun e he => by simp [isAl] at he) ?_
  refine pu ?_
  refine ops_nt ?_
  refine wpD_cond rfl (fun hc2 => ?_) (fun hc2 => ?_)
  ·replace hm := yes_t hc2 hm
   refine wpD_seq ?_
   refine wpD_draws 8 [] [[],[0],[0,1],[0,1,2],[],[4],[4,5],[4,5,6]] [0,1,2,3,4,5,6] [[],[0],[0,1],[0,1,2],[],[4],[4,5],[4,5,6],[0,1,2,3,4,5,6,7],[0,1,2,3,4,5,6,7,8],[0,1,2,3,4,5,6,7,8,9]] (by kernel_rfl) (by kernel_rfl) (by kernel_rfl) (by rfl) (by rfl) (by kernel_rfl) ?_
   iterate 7 apply Exists.intro
   intro bs
   iterate 3 refine zep ?_
   refine z_eM rfl rfl (xm_load 0 htab rfl rfl rfl rfl rfl) rfl rfl rfl rfl rfl rfl ?_
   iterate 3 refine zep ?_
   refine z_qM rfl rfl (xm_load 0 htab rfl rfl rfl rfl rfl) rfl rfl rfl rfl rfl rfl ?_
   refine z_nil rfl rfl (fun e he => by simp [isAl] at he) ?_
   obtain ⟨x3, q3, hm⟩ := yes_bind hm
   refine p_elem htab rfl rfl rfl rfl rfl rfl rfl rfl rfl rfl (idx_nonneg q3) (idx_map q3) ?_
   refine p_loadEl (d := eTApiToken x3) htab rfl rfl rfl rfl rfl rfl rfl rfl ?_
   refine pS1 (ds' := [.v (.int .i64 x3.gKind), .v (.string x3.gText), .v (.int .i64 x3.gN), .v (.int .i64 x3.gAt)]) ?_
   refine ops_nt ?_
   refine wpD_ret ?_
   refine then_ret ?_
   have er4 := yes_eq hm; subst er4
   refine rP (t' := [(2, .ptr b1 0)]) [0,0] [] 1 (wC wN) (lC 1 lN) ?_
   exact ⟨rfl, rfl, rfl⟩
  ·replace hm := yes_f hc2 hm
   refine wpD_skip ?_
   refine then_normal ?_
   refine wpD_sr ?_
   refine p_build (r := [.v (.int .i64 (0 : Int)), .v (.string ByteArray.empty), .v (.int .i64 (0 : Int)), .v (.int .i64 (0 : Int))]) htab rfl rfl rfl rfl rfl rfl rfl rfl rfl ?_
   refine pS1 (ds' := [.v (.int .i64 (0 : Int)), .v (.string ByteArray.empty), .v (.int .i64 (0 : Int)), .v (.int .i64 (0 : Int))]) ?_
   refine ops_nt ?_
   refine wpD_ret ?_
   have er5 := yes_eq hm; subst er5
   refine rP (t' := [(2, .ptr b1 0)]) [0,0] [] 1 (wC wN) (lC 1 lN) ?_
   exact ⟨rfl, rfl, rfl⟩
noncomputable def r12_Is (m0 : TSondageref12R) (a1 : ByteArray) : Option (Bool) :=
  ((r12_Look m0).bind fun x1 => (bif (x1.gKind == (3 : Int)) then ((r12_Look m0).bind fun x3 => some (decide (x3.gText = a1))) else some false))
set_option maxRecDepth 100000 in
set_option maxHeartbeats 2000000 in
theorem r12_Is_ok (m0 : TSondageref12R) (a1 : ByteArray) (o0 : Nat) (T0 : TypeId) (c0_0 : Cap) (r : Bool) (h0 : r12_Is m0 a1 = some r) : CallsD Try.prog 28 [.ptr o0 0, .v (.string a1)] [(o0, Blk.cells [.lst 4 (m0.gL.map eTApiToken) c0_0, .v (.int .i64 m0.gAt), .v (.int .i64 m0.gE)] T0)] [] (fun d h k => d = .v (.bool r) ∧ h = [(o0, Blk.cells [.lst 4 (m0.gL.map eTApiToken) c0_0, .v (.int .i64 m0.gAt), .v (.int .i64 m0.gE)] T0)] ∧ k = []) := by
  have hm := yes_of h0
  unfold r12_Is at hm
  clear h0
  refine enterX htab Try.func28 rfl rfl rfl rfl rfl (fun C => ?_)
  refine wpD_sr ?_
  refine pu ?_
  refine ops_n2 ?_
  refine pu ?_
  obtain ⟨x1, q1, hm⟩ := yes_bind hm
  refine pG (r12_Look_ok m0 o0 T0 c0_0 x1 q1) Wl Pf Pf ?_
  rintro _ _ _ ⟨rfl, rfl, rfl⟩
  iterate 3 refine pu ?_
  refine p_split (i := 9) rfl (fun hg2 => ?_) (fun hg2 => ?_)
  ·replace hm := yes_t hg2 hm
   refine pu ?_
   obtain ⟨x3, q3, hm⟩ := yes_bind hm
   refine pG (r12_Look_ok m0 o0 T0 c0_0 x3 q3) Wl Pf Pf ?_
   rintro _ _ _ ⟨rfl, rfl, rfl⟩
   iterate 3 refine pu ?_
   refine p_pickT rfl rfl rfl rfl rfl rfl ?_
   refine pu ?_
   refine ops_nt ?_
   refine wpD_ret ?_
   have er4 := yes_eq hm; subst er4
   refine rP (t' := [(4, .v (.bool (decide (x3.gText = a1))))]) [0] [] 1 (wC wN) (lT lN) ?_
   exact ⟨rfl, rfl, rfl⟩
  ·replace hm := yes_f hg2 hm
   iterate 5 refine pK ?_
   refine p_pickF rfl rfl rfl rfl rfl rfl ?_
   refine pu ?_
   refine ops_nt ?_
   refine wpD_ret ?_
   have er5 := yes_eq hm; subst er5
   refine rP (t' := [(4, .v (.bool false))]) [0] [] 1 (wC wN) (lT lN) ?_
   exact ⟨rfl, rfl, rfl⟩
noncomputable def r12_Fail (m0 : TSondageref12R) (a1 : Int) (a2 : Int) : Option (TSondageref12R) :=
  (bif (m0.gE == (0 : Int)) then some (⟨m0.gL, a1, a2⟩ : TSondageref12R) else some m0)
set_option maxRecDepth 100000 in
set_option maxHeartbeats 2000000 in
theorem r12_Fail_ok (m0 : TSondageref12R) (a1 : Int) (a2 : Int) (o0 : Nat) (T0 : TypeId) (c0_0 : Cap) (r : TSondageref12R) (h0 : r12_Fail m0 a1 a2 = some r) : CallsD Try.prog 33 [.ptr o0 0, .v (.int .i64 a1), .v (.int .i64 a2)] [(o0, Blk.cells [.lst 4 (m0.gL.map eTApiToken) c0_0, .v (.int .i64 m0.gAt), .v (.int .i64 m0.gE)] T0)] [] (fun d h k => d = .tup [] ∧ h = [(o0, Blk.cells [.lst 4 (r.gL.map eTApiToken) c0_0, .v (.int .i64 r.gAt), .v (.int .i64 r.gE)] T0)] ∧ k = []) := by
  have hm := yes_of h0
  unfold r12_Fail at hm
  clear h0
  refine enterX htab Try.func33 rfl rfl rfl rfl rfl (fun C => ?_)
  refine wpD_sr ?_
  iterate 3 refine pu ?_
  refine pL 0 ?_
  refine pu ?_
  refine ops_nt ?_
  refine wpD_cond rfl (fun hc1 => ?_) (fun hc1 => ?_)
  ·replace hm := yes_t hc1 hm
   refine wpD_sr ?_
   iterate 4 refine pu ?_
   refine pS0 (ds' := [.lst 4 (m0.gL.map eTApiToken) c0_0, .v (.int .i64 m0.gAt), .v (.int .i64 a2)]) ?_
   refine ops_nt ?_
   refine wpD_region ?_
   iterate 4 refine pu ?_
   refine pS0 (ds' := [.lst 4 (m0.gL.map eTApiToken) c0_0, .v (.int .i64 a1), .v (.int .i64 a2)]) ?_
   refine ops_nil ?_
   have er2 := yes_eq hm; subst er2
   refine rP (t' := []) [0] [] 1 wN lN ?_
   exact ⟨rfl, rfl, rfl⟩
  ·replace hm := yes_f hc1 hm
   refine wpD_skip ?_
   have er3 := yes_eq hm; subst er3
   refine rP (t' := []) [0] [] 1 wN lN ?_
   exact ⟨rfl, rfl, rfl⟩
noncomputable def r12_Eat (m0 : TSondageref12R) (a1 : ByteArray) : Option (TSondageref12R) :=
  (bif (m0.gE != (0 : Int)) then some m0 else ((r12_Is m0 a1).bind fun x4 => (bif x4 then some (⟨m0.gL, (IntKind.i64.wrap (m0.gAt + (1 : Int))), m0.gE⟩ : TSondageref12R) else ((r12_Fail m0 m0.gAt (3 : Int)).bind fun x7 => some x7))))
set_option maxRecDepth 100000 in
set_option maxHeartbeats 2000000 in
theorem r12_Eat_ok (m0 : TSondageref12R) (a1 : ByteArray) (o0 : Nat) (T0 : TypeId) (c0_0 : Cap) (r : TSondageref12R) (h0 : r12_Eat m0 a1 = some r) : CallsD Try.prog 24 [.ptr o0 0, .v (.string a1)] [(o0, Blk.cells [.lst 4 (m0.gL.map eTApiToken) c0_0, .v (.int .i64 m0.gAt), .v (.int .i64 m0.gE)] T0)] [] (fun d h k => d = .tup [] ∧ h = [(o0, Blk.cells [.lst 4 (r.gL.map eTApiToken) c0_0, .v (.int .i64 r.gAt), .v (.int .i64 r.gE)] T0)] ∧ k = []) := by
  have hm := yes_of h0
  unfold r12_Eat at hm
  clear h0
  refine enterX htab Try.func24 rfl rfl rfl rfl rfl (fun C => ?_)
  refine wpD_seq ?_
  refine wpD_sr ?_
  iterate 3 refine pu ?_
  refine pL 0 ?_
  refine pu ?_
  refine ops_nt ?_
  refine wpD_cond rfl (fun hc2 => ?_) (fun hc2 => ?_)
  ·replace hm := yes_t hc2 hm
   refine wpD_ret ?_
   refine then_ret ?_
   have er3 := yes_eq hm; subst er3
   refine rP (t' := []) [0] [] 1 wN lN ?_
   exact ⟨rfl, rfl, rfl⟩
  ·replace hm := yes_f hc2 hm
   refine wpD_skip ?_
   refine then_normal ?_
   refine wpD_sr ?_
   refine pu ?_
   refine pu ?_
   obtain ⟨x4, q4, hm⟩ := yes_bind hm
   refine pG (r12_Is_ok m0 a1 o0 T0 c0_0 x4 q4) Wl Pf Pf ?_
   rintro _ _ _ ⟨rfl, rfl, rfl⟩
   refine ops_nt ?_
   refine wpD_cond rfl (fun hc5 => ?_) (fun hc5 => ?_)
   ·replace hm := yes_t hc5 hm
    refine wpD_region ?_
    iterate 3 refine pu ?_
    refine pL 0 ?_
    iterate 3 refine pu ?_
    refine pS0 (ds' := [.lst 4 (m0.gL.map eTApiToken) c0_0, .v (.int .i64 (IntKind.i64.wrap (m0.gAt + (1 : Int)))), .v (.int .i64 m0.gE)]) ?_
    refine ops_nil ?_
    have er6 := yes_eq hm; subst er6
    refine rP (t' := []) [0] [] 1 wN lN ?_
    exact ⟨rfl, rfl, rfl⟩
   ·replace hm := yes_f hc5 hm
    refine wpD_region ?_
    iterate 4 refine pu ?_
    refine pL 0 ?_
    obtain ⟨x7, q7, hm⟩ := yes_bind hm
    refine pG (r12_Fail_ok m0 m0.gAt (3 : Int) o0 T0 c0_0 x7 q7) Wl Pf Pf ?_
    rintro _ _ _ ⟨rfl, rfl, rfl⟩
    refine ops_nil ?_
    have er8 := yes_eq hm; subst er8
    refine rP (t' := []) [0] [] 1 wN lN ?_
    exact ⟨rfl, rfl, rfl⟩
noncomputable def r12_Name (m0 : TSondageref12R) : Option (ByteArray × TSondageref12R) :=
  (bif (m0.gE != (0 : Int)) then some ((ByteArray.mk #[]), m0) else ((r12_Look m0).bind fun x4 => (bif (x4.gKind != (1 : Int)) then ((r12_Fail m0 m0.gAt (3 : Int)).bind fun x9 => some ((ByteArray.mk #[]), x9)) else some (x4.gText, (⟨m0.gL, (IntKind.i64.wrap (m0.gAt + (1 : Int))), m0.gE⟩ : TSondageref12R)))))
set_option maxRecDepth 100000 in
set_option maxHeartbeats 2000000 in
theorem r12_Name_ok (m0 : TSondageref12R) (o0 : Nat) (T0 : TypeId) (c0_0 : Cap) (r : ByteArray × TSondageref12R) (h0 : r12_Name m0 = some r) : CallsD Try.prog 25 [.ptr o0 0] [(o0, Blk.cells [.lst 4 (m0.gL.map eTApiToken) c0_0, .v (.int .i64 m0.gAt), .v (.int .i64 m0.gE)] T0)] [] (fun d h k => d = .v (.string r.1) ∧ h = [(o0, Blk.cells [.lst 4 (r.2.gL.map eTApiToken) c0_0, .v (.int .i64 r.2.gAt), .v (.int .i64 r.2.gE)] T0)] ∧ k = []) := by
  have hm := yes_of h0
  unfold r12_Name at hm
  clear h0
  refine enterX htab Try.func25 rfl rfl rfl rfl rfl (fun C => ?_)
  refine wpD_sr ?_
  refine pu ?_
  refine ops_nt ?_
  refine wpD_seq ?_
  refine wpD_sr ?_
  iterate 3 refine pu ?_
  refine pL 0 ?_
  refine pu ?_
  refine ops_nt ?_
  refine wpD_cond rfl (fun hc2 => ?_) (fun hc2 => ?_)
  ·replace hm := yes_t hc2 hm
   refine wpD_sr ?_
   refine pu ?_
   refine ops_nt ?_
   refine wpD_ret ?_
   refine then_ret ?_
   have er3 := yes_eq hm; subst er3
   refine rP (t' := [(2, .v (.string (ByteArray.mk #[])))]) [0] [] 1 (wC wN) (lT lN) ?_
   exact ⟨rfl, rfl, rfl⟩
  ·replace hm := yes_f hc2 hm
   refine wpD_skip ?_
   refine then_normal ?_
   refine wpD_sr ?_
   refine pu ?_
   obtain ⟨x4, q4, hm⟩ := yes_bind hm
   refine pG (r12_Look_ok m0 o0 T0 c0_0 x4 q4) Wl Pf Pf ?_
   rintro _ _ _ ⟨rfl, rfl, rfl⟩
   refine p_alloc htab rfl rfl rfl rfl rfl rfl rfl (fun b5 => ?_)
   refine pS1 (ds' := [.v (.int .i64 x4.gKind), .v (.string x4.gText), .v (.int .i64 x4.gN), .v (.int .i64 x4.gAt)]) ?_
   refine ops_nt ?_
   refine wpD_seq ?_
   refine wpD_sr ?_
   refine pu ?_
   refine pL 1 ?_
   refine pu ?_
   refine ops_nt ?_
   refine wpD_cond rfl (fun hc8 => ?_) (fun hc8 => ?_)
   ·replace hm := yes_t hc8 hm
    refine wpD_sr ?_
    iterate 4 refine pu ?_
    refine pL 0 ?_
    obtain ⟨x9, q9, hm⟩ := yes_bind hm
    refine pG (r12_Fail_ok m0 m0.gAt (3 : Int) o0 T0 c0_0 x9 q9) Wl Pf Pf ?_
    rintro _ _ _ ⟨rfl, rfl, rfl⟩
    refine ops_n2 ?_
    refine pu ?_
    refine ops_nt ?_
    refine wpD_ret ?_
    refine then_ret ?_
    have er10 := yes_eq hm; subst er10
    refine rP (t' := [(2, .v (.string (ByteArray.mk #[])))]) [0] [] 1 (wC wN) (lT lN) ?_
    exact ⟨rfl, rfl, rfl⟩
   ·replace hm := yes_f hc8 hm
    refine wpD_skip ?_
    refine then_normal ?_
    refine wpD_sr ?_
    iterate 3 refine pu ?_
    refine pL 0 ?_
    iterate 3 refine pu ?_
    refine pS0 (ds' := [.lst 4 (m0.gL.map eTApiToken) c0_0, .v (.int .i64 (IntKind.i64.wrap (m0.gAt + (1 : Int)))), .v (.int .i64 m0.gE)]) ?_
    refine ops_n2 ?_
    refine pu ?_
    refine pL 1 ?_
    refine pu ?_
    refine ops_nt ?_
    refine wpD_ret ?_
    have er11 := yes_eq hm; subst er11
    refine rP (t' := [(2, .v (.string x4.gText))]) [0] [] 1 (wC wN) (lT lN) ?_
    exact ⟨rfl, rfl, rfl⟩
noncomputable def r13_may (m0 : TSondageref12R) (a1 : ByteArray) : Option (Bool × TSondageref12R) :=
  (Option.bind (α := Bool) (bif (m0.gE == (0 : Int)) then ((r12_Is m0 a1).bind fun x5 => some x5) else some false) fun y3 => (bif y3 then some (true, (⟨m0.gL, (IntKind.i64.wrap (m0.gAt + (1 : Int))), m0.gE⟩ : TSondageref12R)) else some (false, m0)))
set_option maxRecDepth 100000 in
set_option maxHeartbeats 2000000 in
theorem r13_may_ok (m0 : TSondageref12R) (a1 : ByteArray) (o0 : Nat) (T0 : TypeId) (c0_0 : Cap) (r : Bool × TSondageref12R) (h0 : r13_may m0 a1 = some r) : CallsD Try.prog 35 [.ptr o0 0, .v (.string a1)] [(o0, Blk.cells [.lst 4 (m0.gL.map eTApiToken) c0_0, .v (.int .i64 m0.gAt), .v (.int .i64 m0.gE)] T0)] [] (fun d h k => d = .v (.bool r.1) ∧ h = [(o0, Blk.cells [.lst 4 (r.2.gL.map eTApiToken) c0_0, .v (.int .i64 r.2.gAt), .v (.int .i64 r.2.gE)] T0)] ∧ k = []) := by
  have hm := yes_of h0
  unfold r13_may at hm
  clear h0
  refine enterX htab Try.func35 rfl rfl rfl rfl rfl (fun C => ?_)
  refine wpD_sr ?_
  refine pu ?_
  refine ops_nt ?_
  refine wpD_seq ?_
  refine wpD_seq ?_
  obtain ⟨y3, q3, ho3⟩ := yes_bind hm
  refine wpD_mid (Y := Unit) (fun z3 => (⟨[(0, .ptr o0 0), (14, .v (.bool y3))], [(o0, Blk.cells [.lst 4 (m0.gL.map eTApiToken) c0_0, .v (.int .i64 m0.gAt), .v (.int .i64 m0.gE)] T0)], []⟩ : S)) ?_ ?_
  ·clear hm; have hm := yes_of q3
   refine wpD_region ?_
   iterate 3 refine pu ?_
   refine pL 0 ?_
   refine pu ?_
   refine pu ?_
   refine p_split (i := 10) rfl (fun hg4 => ?_) (fun hg4 => ?_)
   ·replace hm := yes_t hg4 hm
    refine pu ?_
    refine pu ?_
    obtain ⟨x5, q5, hm⟩ := yes_bind hm
    refine pG (r12_Is_ok m0 a1 o0 T0 c0_0 x5 q5) Wl Pf Pf ?_
    rintro _ _ _ ⟨rfl, rfl, rfl⟩
    refine p_pickT rfl rfl rfl rfl rfl rfl ?_
    refine ops_nil ?_
    have e3 := yes_eq hm; subst e3
    refine ⟨rfl, ?_⟩
    exact WkX.of () (WkS.perm (WkS.cons rfl (Wk.refl _) (WkS.cons rfl (Wk.refl _) (WkS.nil))) Pf Pf)
   ·replace hm := yes_f hg4 hm
    iterate 3 refine pK ?_
    refine p_pickF rfl rfl rfl rfl rfl rfl ?_
    refine ops_nil ?_
    have e3 := yes_eq hm; subst e3
    refine ⟨rfl, ?_⟩
    exact WkX.of () (WkS.perm (WkS.cons rfl (Wk.refl _) (WkS.cons rfl (Wk.refl _) (WkS.nil))) Pf Pf)
  ·intro s3 hw3; clear hm; have hm := ho3; clear q3 ho3
   refine then_normal ?_
   refine wpD_wkX hw3 (fun z3 => ?_)
   refine wpD_cond rfl (fun hc6 => ?_) (fun hc6 => ?_)
   ·replace hm := yes_t hc6 hm
    refine wpD_sr ?_
    iterate 3 refine pu ?_
    refine pL 0 ?_
    iterate 3 refine pu ?_
    refine pS0 (ds' := [.lst 4 (m0.gL.map eTApiToken) c0_0, .v (.int .i64 (IntKind.i64.wrap (m0.gAt + (1 : Int)))), .v (.int .i64 m0.gE)]) ?_
    refine ops_n2 ?_
    refine pu ?_
    refine ops_nt ?_
    refine wpD_ret ?_
    refine then_ret ?_
    have er7 := yes_eq hm; subst er7
    refine rP (t' := [(4, .v (.bool true))]) [0] [] 1 (wC wN) (lT lN) ?_
    exact ⟨rfl, rfl, rfl⟩
   ·replace hm := yes_f hc6 hm
    refine wpD_skip ?_
    refine then_normal ?_
    refine wpD_sr ?_
    refine pu ?_
    refine ops_nt ?_
    refine wpD_ret ?_
    have er8 := yes_eq hm; subst er8
    refine rP (t' := [(4, .v (.bool false))]) [0] [] 1 (wC wN) (lT lN) ?_
    exact ⟨rfl, rfl, rfl⟩
end Go.Proofs.Ytmgklehakmdiiaa.Ab
namespace Go.Proofs.Ytmgklehakmdiiaa.Ab
open Go
set_option linter.all false
noncomputable def r13_place (a0 : List TApiToken) (a1 : List UInt8) (a2 : Int) (a3 : Int) : Option (Int × Int) :=
  (Option.bind (α := Int × Int) (bif (decide (a2 < (a0.length : Int))) then ((idx a0 a2).bind fun x6 => ((idx a0 a2).bind fun x7 => some (x6.gAt, x7.gKind))) else some ((a1.length : Int), (0 : Int))) fun y4 => (Option.bind (α := Bool) (bif (a3 == (0 : Int)) then some (y4.2 != (0 : Int)) else some false) fun y9 => (Option.bind (α := Int) (bif y9 then some (3 : Int) else some a3) fun y12 => (Option.bind (α := Int) (bif (y12 == (0 : Int)) then some (0 : Int) else some y4.1) fun y15 => some (y15, y12)))))
set_option maxRecDepth 100000 in
set_option maxHeartbeats 2000000 in
theorem r13_place_ok (a0 : List TApiToken) (a1 : List UInt8) (a2 : Int) (a3 : Int) (r : Int × Int) (h0 : r13_place a0 a1 a2 a3 = some r) : CallsD Try.prog 18 [.lst 4 (a0.map eTApiToken) .no, .lst 1 (a1.map byteD) .no, .v (.int .i64 a2), .v (.int .i64 a3)] [] [] (fun d h k => d = .tup [.v (.int .i64 r.1), .v (.int .i64 r.2)] ∧ h = [] ∧ k = []) := by
  have hm := yes_of h0
  unfold r13_place at hm
  clear h0
  refine enterX htab Try.func18 rfl rfl rfl rfl rfl (fun C => ?_)
  refine wpD_sr ?_
  refine pu ?_
  refine pu ?_
  refine ops_n2 ?_
  refine pu ?_
  refine p_lenL htab rfl rfl rfl rfl rfl rfl rfl (by first | exact map_len | rfl) ?_
  refine pu ?_
  refine pu ?_
  refine ops_nt ?_
  refine wpD_seq ?_
  refine wpD_sr ?_
  refine pu ?_
  refine pu ?_
  refine p_lenL htab rfl rfl rfl rfl rfl rfl rfl (by first | exact map_len | rfl) ?_
  refine pu ?_
  refine ops_nt ?_
  obtain ⟨y4, q4, ho4⟩ := yes_bind hm
  refine wpD_mid (Y := Unit) (fun z4 => (⟨[(3, .v (.int .i64 a3)), (10, .v (.int .i64 y4.1)), (11, .v (.int .i64 y4.2))], [], []⟩ : S)) ?_ ?_
  ·clear hm; have hm := yes_of q4
   refine wpD_cond rfl (fun hc5 => ?_) (fun hc5 => ?_)
   ·replace hm := yes_t hc5 hm
    refine wpD_sr ?_
    refine pu ?_
    refine pu ?_
    obtain ⟨x6, q6, hm⟩ := yes_bind hm
    refine p_elem htab rfl rfl rfl rfl rfl rfl rfl rfl rfl rfl (idx_nonneg q6) (idx_map q6) ?_
    refine pu ?_
    refine p_loadEl htab rfl rfl rfl rfl rfl rfl rfl rfl ?_
    refine pu ?_
    refine ops_nt ?_
    refine wpD_region ?_
    refine pu ?_
    refine pu ?_
    obtain ⟨x7, q7, hm⟩ := yes_bind hm
    refine p_elem htab rfl rfl rfl rfl rfl rfl rfl rfl rfl rfl (idx_nonneg q7) (idx_map q7) ?_
    refine pu ?_
    refine p_loadEl htab rfl rfl rfl rfl rfl rfl rfl rfl ?_
    refine pu ?_
    refine ops_nil ?_
    have e4 := yes_eq hm; subst e4
    refine ⟨rfl, ?_⟩
    exact WkX.of () (WkS.perm (WkS.cons rfl (Wk.refl _) (WkS.cons rfl (Wk.refl _) (WkS.cons rfl (Wk.refl _) (WkS.nil)))) Pf Pf)
   ·replace hm := yes_f hc5 hm
    refine wpD_skip ?_
    have e4 := yes_eq hm; subst e4
    refine ⟨rfl, ?_⟩
    exact WkX.of () (WkS.perm (WkS.cons rfl (Wk.refl _) (WkS.cons rfl (Wk.refl _) (WkS.cons rfl (Wk.refl _) (WkS.nil)))) Pf Pf)
  ·intro s4 hw4; clear hm; have hm := ho4; clear q4 ho4
   refine then_normal ?_
   refine wpD_wkX hw4 (fun z4 => ?_)
   refine wpD_seq ?_
   refine wpD_seq ?_
   obtain ⟨y9, q9, ho9⟩ := yes_bind hm
   refine wpD_mid (Y := Unit) (fun z9 => (⟨[(3, .v (.int .i64 a3)), (10, .v (.int .i64 y4.1)), (33, .v (.bool y9))], [], []⟩ : S)) ?_ ?_
   ·clear hm; have hm := yes_of q9
    refine wpD_region ?_
    iterate 3 refine pu ?_
    refine p_split (i := 30) rfl (fun hg10 => ?_) (fun hg10 => ?_)
    ·replace hm := yes_t hg10 hm
     refine pu ?_
     refine pu ?_
     refine p_pickT rfl rfl rfl rfl rfl rfl ?_
     refine ops_nil ?_
     have e9 := yes_eq hm; subst e9
     refine ⟨rfl, ?_⟩
     exact WkX.of () (WkS.perm (WkS.cons rfl (Wk.refl _) (WkS.cons rfl (Wk.refl _) (WkS.cons rfl (Wk.refl _) (WkS.nil)))) Pf Pf)
    ·replace hm := yes_f hg10 hm
     refine pK ?_
     refine pK ?_
     refine p_pickF rfl rfl rfl rfl rfl rfl ?_
     refine ops_nil ?_
     have e9 := yes_eq hm; subst e9
     refine ⟨rfl, ?_⟩
     exact WkX.of () (WkS.perm (WkS.cons rfl (Wk.refl _) (WkS.cons rfl (Wk.refl _) (WkS.cons rfl (Wk.refl _) (WkS.nil)))) Pf Pf)
   ·intro s9 hw9; clear hm; have hm := ho9; clear q9 ho9
    refine then_normal ?_
    refine wpD_wkX hw9 (fun z9 => ?_)
    obtain ⟨y12, q12, ho12⟩ := yes_bind hm
    refine wpD_mid (Y := Unit) (fun z12 => (⟨[(3, .v (.int .i64 y12)), (10, .v (.int .i64 y4.1))], [], []⟩ : S)) ?_ ?_
    ·clear hm; have hm := yes_of q12
     refine wpD_cond rfl (fun hc13 => ?_) (fun hc13 => ?_)
     ·replace hm := yes_t hc13 hm
      refine wpD_region ?_
      refine pu ?_
      refine ops_nil ?_
      have e12 := yes_eq hm; subst e12
      refine ⟨rfl, ?_⟩
      exact WkX.of () (WkS.perm (WkS.cons rfl (Wk.refl _) (WkS.cons rfl (Wk.refl _) (WkS.nil))) Pf Pf)
     ·replace hm := yes_f hc13 hm
      refine wpD_skip ?_
      have e12 := yes_eq hm; subst e12
      refine ⟨rfl, ?_⟩
      exact WkX.of () (WkS.perm (WkS.cons rfl (Wk.refl _) (WkS.cons rfl (Wk.refl _) (WkS.nil))) Pf Pf)
    ·intro s12 hw12; clear hm; have hm := ho12; clear q12 ho12
     refine then_normal ?_
     refine wpD_wkX hw12 (fun z12 => ?_)
     refine wpD_seq ?_
     refine wpD_sr ?_
     refine pu ?_
     refine pu ?_
     refine ops_nt ?_
     obtain ⟨y15, q15, ho15⟩ := yes_bind hm
     refine wpD_mid (Y := Unit) (fun z15 => (⟨[(3, .v (.int .i64 y12)), (10, .v (.int .i64 y15))], [], []⟩ : S)) ?_ ?_
     ·clear hm; have hm := yes_of q15
      refine wpD_cond rfl (fun hc16 => ?_) (fun hc16 => ?_)
      ·replace hm := yes_t hc16 hm
       refine wpD_region ?_
       refine pu ?_
       refine ops_nil ?_
       have e15 := yes_eq hm; subst e15
       refine ⟨rfl, ?_⟩
       exact WkX.of () (WkS.perm (WkS.cons rfl (Wk.refl _) (WkS.cons rfl (Wk.refl _) (WkS.nil))) Pf Pf)
      ·replace hm := yes_f hc16 hm
       refine wpD_skip ?_
       have e15 := yes_eq hm; subst e15
       refine ⟨rfl, ?_⟩
       exact WkX.of () (WkS.perm (WkS.cons rfl (Wk.refl _) (WkS.cons rfl (Wk.refl _) (WkS.nil))) Pf Pf)
     ·intro s15 hw15; clear hm; have hm := ho15; clear q15 ho15
      refine then_normal ?_
      refine wpD_wkX hw15 (fun z15 => ?_)
      refine wpD_sr ?_
      iterate 4 refine pu ?_
      refine ops_nt ?_
      refine wpD_ret ?_
      have er17 := yes_eq hm; subst er17
      refine rP (t' := [(8, .v (.int .i64 y15)), (9, .v (.int .i64 y12))]) [] [] 0 (wC (wC wN)) (lT (lT lN)) ?_
      exact ⟨rfl, rfl, rfl⟩
end Go.Proofs.Ytmgklehakmdiiaa.Ab
namespace Go.Proofs.Ytmgklehakmdiiaa.Ab
open Go
set_option linter.all false
noncomputable def l13_lives : Option (Bool) :=
  ((grammar_FuncText ([(105 : UInt8), (110 : UInt8), (116 : UInt8), (32 : UInt8), (102 : UInt8), (40 : UInt8), (105 : UInt8), (110 : UInt8), (116 : UInt8), (32 : UInt8), (42 : UInt8), (112 : UInt8), (41 : UInt8), (32 : UInt8), (123 : UInt8), (32 : UInt8), (114 : UInt8), (101 : UInt8), (116 : UInt8), (117 : UInt8), (114 : UInt8), (110 : UInt8), (32 : UInt8), (42 : UInt8), (112 : UInt8), (59 : UInt8), (32 : UInt8), (125 : UInt8)] : List UInt8)).bind fun x4 => (bif (x4.2.2 == (0 : Int)) then (bif (decide (x4.1.gName = (ByteArray.mk #[102]))) then (bif ((x4.1.gParams.length : Int) == (1 : Int)) then ((idx x4.1.gParams (0 : Int)).bind fun x9 => (bif x9.gPtr then (bif ((x4.1.gBody.length : Int) == (1 : Int)) then ((idx x4.1.gBody (0 : Int)).bind fun x12 => some (x12.gOp == (8 : Int))) else some false) else some false)) else some false) else some false) else some false))
set_option maxRecDepth 100000 in
set_option maxHeartbeats 2000000 in
theorem l13_lives_ok  (r : Bool) (h0 : l13_lives = some r) : CallsD Try.prog 9 [] [] [] (fun d h k => d = .v (.bool r) ∧ h = [] ∧ k = []) := by
  have hm := yes_of h0
  unfold l13_lives at hm
  clear h0
  refine enterX htab Try.func9 rfl rfl rfl rfl rfl (fun C => ?_)
  refine wpD_sr ?_
  refine pu ?_
  refine ops_n2 ?_
  refine p_litB htab rfl rfl rfl rfl rfl rfl rfl rfl rfl rfl rfl rfl rfl rfl rfl rfl rfl rfl rfl ?_
  refine p_eq (i := 6) (d' := .lst 1 (([(105 : UInt8), (110 : UInt8), (116 : UInt8), (32 : UInt8), (102 : UInt8), (40 : UInt8), (105 : UInt8), (110 : UInt8), (116 : UInt8), (32 : UInt8), (42 : UInt8), (112 : UInt8), (41 : UInt8), (32 : UInt8), (123 : UInt8), (32 : UInt8), (114 : UInt8), (101 : UInt8), (116 : UInt8), (117 : UInt8), (114 : UInt8), (110 : UInt8), (32 : UInt8), (42 : UInt8), (112 : UInt8), (59 : UInt8), (32 : UInt8), (125 : UInt8)] : List UInt8).map byteD) .no) rfl (Wk.lst0 (.cons (WkC.refl _) (.cons (WkC.refl _) (.cons (WkC.refl _) (.cons (WkC.refl _) (.cons (WkC.refl _) (.cons (WkC.refl _) (.cons (WkC.refl _) (.cons (WkC.refl _) (.cons (WkC.refl _) (.cons (WkC.refl _) (.cons (WkC.refl _) (.cons (WkC.refl _) (.cons (WkC.refl _) (.cons (WkC.refl _) (.cons (WkC.refl _) (.cons (WkC.refl _) (.cons (WkC.refl _) (.cons (WkC.refl _) (.cons (WkC.refl _) (.cons (WkC.refl _) (.cons (WkC.refl _) (.cons (WkC.refl _) (.cons (WkC.refl _) (.cons (WkC.refl _) (.cons (WkC.refl _) (.cons (WkC.refl _) (.cons (WkC.refl _) (.cons (WkC.refl _) (.nil)))))))))))))))))))))))))))))) ?_
  obtain ⟨x4, q4, hm⟩ := yes_bind hm
  refine pG (grammar_FuncText_ok ([(105 : UInt8), (110 : UInt8), (116 : UInt8), (32 : UInt8), (102 : UInt8), (40 : UInt8), (105 : UInt8), (110 : UInt8), (116 : UInt8), (32 : UInt8), (42 : UInt8), (112 : UInt8), (41 : UInt8), (32 : UInt8), (123 : UInt8), (32 : UInt8), (114 : UInt8), (101 : UInt8), (116 : UInt8), (117 : UInt8), (114 : UInt8), (110 : UInt8), (32 : UInt8), (42 : UInt8), (112 : UInt8), (59 : UInt8), (32 : UInt8), (125 : UInt8)] : List UInt8) x4 q4) Wl Pf Pf ?_
  rintro _ _ _ ⟨w1, w2, w3, rfl, rfl, rfl⟩
  iterate 4 refine pu ?_
  refine p_alloc htab rfl rfl rfl rfl rfl rfl rfl (fun b5 => ?_)
  refine pS0 (ds' := [.v (.string x4.1.gName), .lst 2 (x4.1.gParams.map eTApiVar) (.cur w1), .lst 2 (x4.1.gLocals.map eTApiVar) (.cur w2), .lst 7 (x4.1.gBody.map eTApiStmt) (.cur w3), .v (.int .i64 x4.1.gAt)]) ?_
  refine pu ?_
  refine pu ?_
  refine ops_n2 ?_
  iterate 3 refine pu ?_
  refine p_split (i := 13) rfl (fun hg6 => ?_) (fun hg6 => ?_)
  ·replace hm := yes_t hg6 hm
   refine pu ?_
   refine pL 0 ?_
   refine pu ?_
   refine p_pickT rfl rfl rfl rfl rfl rfl ?_
   refine pu ?_
   refine p_split (i := 18) rfl (fun hg7 => ?_) (fun hg7 => ?_)
   ·replace hm := yes_t hg7 hm
    refine pu ?_
    refine pL 0 ?_
    refine p_lenL htab rfl rfl rfl rfl rfl rfl rfl (by first | exact map_len | rfl) ?_
    refine pu ?_
    refine p_pickT rfl rfl rfl rfl rfl rfl ?_
    refine pu ?_
    refine p_split (i := 24) rfl (fun hg8 => ?_) (fun hg8 => ?_)
    ·replace hm := yes_t hg8 hm
     refine pu ?_
     refine pL 0 ?_
     obtain ⟨x9, q9, hm⟩ := yes_bind hm
     refine p_elem htab rfl rfl rfl rfl rfl rfl rfl rfl rfl rfl (idx_nonneg q9) (idx_map q9) ?_
     refine pu ?_
     refine p_loadEl htab rfl rfl rfl rfl rfl rfl rfl rfl ?_
     refine p_pickT rfl rfl rfl rfl rfl rfl ?_
     refine pu ?_
     refine p_split (i := 31) rfl (fun hg10 => ?_) (fun hg10 => ?_)
     ·replace hm := yes_t hg10 hm
      refine pu ?_
      refine pL 0 ?_
      refine p_lenL htab rfl rfl rfl rfl rfl rfl rfl (by first | exact map_len | rfl) ?_
      refine pu ?_
      refine p_pickT rfl rfl rfl rfl rfl rfl ?_
      refine pu ?_
      refine p_split (i := 37) rfl (fun hg11 => ?_) (fun hg11 => ?_)
      ·replace hm := yes_t hg11 hm
       refine pu ?_
       refine pL 0 ?_
       obtain ⟨x12, q12, hm⟩ := yes_bind hm
       refine p_elem htab rfl rfl rfl rfl rfl rfl rfl rfl rfl rfl (idx_nonneg q12) (idx_map q12) ?_
       refine p_eq (i := 40) rfl (Wk.of_eq (congrArg D.el (eTApiStmt_eq x12))) ?_
       refine pu ?_
       refine p_loadEl htab rfl rfl rfl rfl rfl rfl rfl rfl ?_
       refine pu ?_
       refine p_pickT rfl rfl rfl rfl rfl rfl ?_
       refine pu ?_
       refine ops_nt ?_
       refine wpD_ret ?_
       have er13 := yes_eq hm; subst er13
       refine rP (t' := [(0, .v (.bool (x12.gOp == (8 : Int))))]) [] [] 0 (wC wN) (lT lN) ?_
       exact ⟨rfl, rfl, rfl⟩
      ·replace hm := yes_f hg11 hm
       iterate 6 refine pK ?_
       refine p_pickF rfl rfl rfl rfl rfl rfl ?_
       refine pu ?_
       refine ops_nt ?_
       refine wpD_ret ?_
       have er14 := yes_eq hm; subst er14
       refine rP (t' := [(0, .v (.bool false))]) [] [] 0 (wC wN) (lT lN) ?_
       exact ⟨rfl, rfl, rfl⟩
     ·replace hm := yes_f hg10 hm
      iterate 4 refine pK ?_
      refine p_pickF rfl rfl rfl rfl rfl rfl ?_
      refine pu ?_
      iterate 6 refine pK ?_
      refine p_pickF rfl rfl rfl rfl rfl rfl ?_
      refine pu ?_
      refine ops_nt ?_
      refine wpD_ret ?_
      have er15 := yes_eq hm; subst er15
      refine rP (t' := [(0, .v (.bool false))]) [] [] 0 (wC wN) (lT lN) ?_
      exact ⟨rfl, rfl, rfl⟩
    ·replace hm := yes_f hg8 hm
     iterate 5 refine pK ?_
     refine p_pickF rfl rfl rfl rfl rfl rfl ?_
     refine pu ?_
     iterate 4 refine pK ?_
     refine p_pickF rfl rfl rfl rfl rfl rfl ?_
     refine pu ?_
     iterate 6 refine pK ?_
     refine p_pickF rfl rfl rfl rfl rfl rfl ?_
     refine pu ?_
     refine ops_nt ?_
     refine wpD_ret ?_
     have er16 := yes_eq hm; subst er16
     refine rP (t' := [(0, .v (.bool false))]) [] [] 0 (wC wN) (lT lN) ?_
     exact ⟨rfl, rfl, rfl⟩
   ·replace hm := yes_f hg7 hm
    iterate 4 refine pK ?_
    refine p_pickF rfl rfl rfl rfl rfl rfl ?_
    refine pu ?_
    iterate 5 refine pK ?_
    refine p_pickF rfl rfl rfl rfl rfl rfl ?_
    refine pu ?_
    iterate 4 refine pK ?_
    refine p_pickF rfl rfl rfl rfl rfl rfl ?_
    refine pu ?_
    iterate 6 refine pK ?_
    refine p_pickF rfl rfl rfl rfl rfl rfl ?_
    refine pu ?_
    refine ops_nt ?_
    refine wpD_ret ?_
    have er17 := yes_eq hm; subst er17
    refine rP (t' := [(0, .v (.bool false))]) [] [] 0 (wC wN) (lT lN) ?_
    exact ⟨rfl, rfl, rfl⟩
  ·replace hm := yes_f hg6 hm
   iterate 3 refine pK ?_
   refine p_pickF rfl rfl rfl rfl rfl rfl ?_
   refine pu ?_
   iterate 4 refine pK ?_
   refine p_pickF rfl rfl rfl rfl rfl rfl ?_
   refine pu ?_
   iterate 5 refine pK ?_
   refine p_pickF rfl rfl rfl rfl rfl rfl ?_
   refine pu ?_
   iterate 4 refine pK ?_
   refine p_pickF rfl rfl rfl rfl rfl rfl ?_
   refine pu ?_
   iterate 6 refine pK ?_
   refine p_pickF rfl rfl rfl rfl rfl rfl ?_
   refine pu ?_
   refine ops_nt ?_
   refine wpD_ret ?_
   have er18 := yes_eq hm; subst er18
   refine rP (t' := [(0, .v (.bool false))]) [] [] 0 (wC wN) (lT lN) ?_
   exact ⟨rfl, rfl, rfl⟩
structure TApiGlobal where
  gName : ByteArray
  gPtr : Bool
  gSize : Int
  gAt : Int
def eTApiGlobal (x : TApiGlobal) : D := .agg [.v (.string x.gName), .v (.bool x.gPtr), .v (.int .i64 x.gSize), .v (.int .i64 x.gAt)]
end Go.Proofs.Ytmgklehakmdiiaa.Ab
