/- The texts that grammarGlobals_holds leans on, part 6. -/
import Derived.Test.YtmgklehakmdiiaaGd5
namespace Go.Proofs.Ytmgklehakmdiiaa.Ab
open Go
set_option linter.all false
noncomputable def grammar_reader_global (m0 : TGrammarReader) : Option (TApiGlobal × TGrammarReader) :=
  ((grammar_reader_look m0 (0 : Int)).bind fun x2 => ((grammar_reader_eat m0 ([(ByteArray.mk #[105, 110, 116])] : List ByteArray)).bind fun x4 => ((grammar_reader_may x4 (ByteArray.mk #[42])).bind fun x5 => ((grammar_reader_name x5.2).bind fun x6 => (Option.bind (α := Bool × List TApiToken × Int × Int × Int × Int) (bif (!x5.1) then ((grammar_reader_may x6.2 (ByteArray.mk #[91])).bind fun x11 => some (x11.1, x11.2.gL, x11.2.gAt, x11.2.gE, x11.2.gVars, x11.2.gOpen)) else some (false, x6.2.gL, x6.2.gAt, x6.2.gE, x6.2.gVars, x6.2.gOpen)) fun y9 => (Option.bind (α := List TApiToken × Int × Int × Int × Int × Int) (bif y9.1 then ((grammar_reader_look (⟨y9.2.1, y9.2.2.1, y9.2.2.2.1, y9.2.2.2.2.1, y9.2.2.2.2.2⟩ : TGrammarReader) (0 : Int)).bind fun x27 => (Option.bind (α := List TApiToken × Int × Int × Int × Int × Int) (Option.bind (α := List TApiToken × Int × Int × Int × Int × Int) (bif (x27.gKind != (2 : Int)) then ((grammar_reader_fail (⟨y9.2.1, y9.2.2.1, y9.2.2.2.1, y9.2.2.2.2.1, y9.2.2.2.2.2⟩ : TGrammarReader) y9.2.2.1 (3 : Int)).bind fun x46 => some (x46.gL, x46.gAt, x46.gE, x46.gVars, x46.gOpen, (0 : Int))) else (Option.bind (α := Bool) (bif (decide (x27.gN < (1 : Int))) then some true else some (decide ((1000 : Int) < x27.gN))) fun y48 => (Option.bind (α := List TApiToken × Int × Int × Int × Int × Int) (bif y48 then ((grammar_reader_fail (⟨y9.2.1, y9.2.2.1, y9.2.2.2.1, y9.2.2.2.2.1, y9.2.2.2.2.2⟩ : TGrammarReader) y9.2.2.1 (4 : Int)).bind fun x54 => some (x54.gL, x54.gAt, x54.gE, x54.gVars, x54.gOpen, (0 : Int))) else some (y9.2.1, (IntKind.i64.wrap (y9.2.2.1 + (1 : Int))), y9.2.2.2.1, y9.2.2.2.2.1, y9.2.2.2.2.2, x27.gN)) fun y52 => some (y52.1, y52.2.1, y52.2.2.1, y52.2.2.2.1, y52.2.2.2.2.1, y52.2.2.2.2.2)))) fun y44 => some (y44.1, y44.2.1, y44.2.2.1, y44.2.2.2.1, y44.2.2.2.2.1, y44.2.2.2.2.2)) fun y36 => ((grammar_reader_eat (⟨y36.1, y36.2.1, y36.2.2.1, y36.2.2.2.1, y36.2.2.2.2.1⟩ : TGrammarReader) ([(ByteArray.mk #[93])] : List ByteArray)).bind fun x55 => some (x55.gL, x55.gAt, x55.gE, x55.gVars, x55.gOpen, y36.2.2.2.2.2)))) else some (y9.2.1, y9.2.2.1, y9.2.2.2.1, y9.2.2.2.2.1, y9.2.2.2.2.2, (0 : Int))) fun y25 => ((grammar_reader_eat (⟨y25.1, y25.2.1, y25.2.2.1, y25.2.2.2.1, y25.2.2.2.2.1⟩ : TGrammarReader) ([(ByteArray.mk #[59])] : List ByteArray)).bind fun x56 => some ((⟨x6.1, x5.1, y25.2.2.2.2.2, x2.gAt⟩ : TApiGlobal), x56))))))))
set_option maxRecDepth 100000 in
set_option maxHeartbeats 2000000 in
theorem grammar_reader_global_ok (m0 : TGrammarReader) (o0 : Nat) (T0 : TypeId) (c0_0 : Cap) (r : TApiGlobal × TGrammarReader) (h0 : grammar_reader_global m0 = some r) : CallsD Try.prog 34 [.ptr o0 0] [(o0, Blk.cells [.lst 4 (m0.gL.map eTApiToken) c0_0, .v (.int .i64 m0.gAt), .v (.int .i64 m0.gE), .v (.int .i64 m0.gVars), .v (.int .i64 m0.gOpen)] T0)] [] (fun d h k => d = eTApiGlobal r.1 ∧ h = [(o0, Blk.cells [.lst 4 (r.2.gL.map eTApiToken) .no, .v (.int .i64 r.2.gAt), .v (.int .i64 r.2.gE), .v (.int .i64 r.2.gVars), .v (.int .i64 r.2.gOpen)] T0)] ∧ k = []) := by
  have hm := yes_of h0
  unfold grammar_reader_global at hm
  clear h0
  refine enterX htab Try.func34 rfl rfl rfl rfl rfl (fun C => ?_)
  refine wpD_sr ?_
  refine p_alloc htab rfl rfl rfl rfl rfl rfl rfl (fun b1 => ?_)
  refine ops_n2 ?_
  refine pu ?_
  obtain ⟨x2, q2, hm⟩ := yes_bind hm
  refine pG (grammar_reader_look_ok m0 (0 : Int) o0 T0 c0_0 x2 q2) Wl Pf Pf ?_
  rintro _ _ _ ⟨rfl, rfl, rfl⟩
  refine pu ?_
  refine p_build (r := [.v (.string ByteArray.empty), .v (.bool false), .v (.int .i64 (0 : Int)), .v (.int .i64 x2.gAt)]) htab rfl rfl rfl rfl rfl rfl rfl rfl rfl ?_
  refine p_alloc htab rfl rfl rfl rfl rfl rfl rfl (fun b3 => ?_)
  refine pS2 (ds' := [.v (.string ByteArray.empty), .v (.bool false), .v (.int .i64 (0 : Int)), .v (.int .i64 x2.gAt)]) ?_
  refine ops_n2 ?_
  refine pu ?_
  refine p_lit htab rfl rfl rfl rfl rfl rfl rfl rfl rfl rfl rfl rfl rfl rfl ?_
  refine p_eq (i := 11) (d' := .lst 1 (([(ByteArray.mk #[105, 110, 116])] : List ByteArray).map eStr) .full) rfl (Wk.lst0 (.cons (WkC.refl _) (.nil))) ?_
  obtain ⟨x4, q4, hm⟩ := yes_bind hm
  refine p_callG (grammar_reader_eat_ok m0 ([(ByteArray.mk #[105, 110, 116])] : List ByteArray) o0 T0 c0_0 x4 q4) rfl rfl rfl rfl rfl (WkL.cons (Wk.refl _) (WkL.cons (Wk.no) Wl)) Pf Pf ?_
  rintro _ _ _ ⟨rfl, rfl, rfl⟩
  refine ops_n2 ?_
  refine pu ?_
  obtain ⟨x5, q5, hm⟩ := yes_bind hm
  refine pG (grammar_reader_may_ok x4 (ByteArray.mk #[42]) o0 T0 c0_0 x5 q5) Wl Pf Pf ?_
  rintro _ _ _ ⟨rfl, rfl, rfl⟩
  refine pu ?_
  refine pS2 (ds' := [.v (.string ByteArray.empty), .v (.bool x5.1), .v (.int .i64 (0 : Int)), .v (.int .i64 x2.gAt)]) ?_
  refine ops_n2 ?_
  refine pu ?_
  obtain ⟨x6, q6, hm⟩ := yes_bind hm
  refine pG (grammar_reader_name_ok x5.2 o0 T0 c0_0 x6 q6) Wl Pf Pf ?_
  rintro _ _ _ ⟨rfl, rfl, rfl⟩
  refine pu ?_
  refine pS2 (ds' := [.v (.string x6.1), .v (.bool x5.1), .v (.int .i64 (0 : Int)), .v (.int .i64 x2.gAt)]) ?_
  refine ops_nt ?_
  refine wpD_seq ?_
  refine wpD_seq ?_
  obtain ⟨y9, q9, ho9⟩ := yes_bind hm
  refine wpD_mid (Y := Unit) (fun z9 => (⟨[(0, .ptr o0 0), (2, .ptr b1 0), (3, .ptr b3 0), (25, .v (.bool y9.1))], [(o0, Blk.cells [.lst 4 (y9.2.1.map eTApiToken) .no, .v (.int .i64 y9.2.2.1), .v (.int .i64 y9.2.2.2.1), .v (.int .i64 y9.2.2.2.2.1), .v (.int .i64 y9.2.2.2.2.2)] T0), (b1, Blk.cells [.v (.string ByteArray.empty), .v (.bool false), .v (.int .i64 (0 : Int)), .v (.int .i64 (0 : Int))] 39), (b3, Blk.cells [.v (.string x6.1), .v (.bool x5.1), .v (.int .i64 (0 : Int)), .v (.int .i64 x2.gAt)] 39)], []⟩ : S)) ?_ ?_
  ·clear hm; have hm := yes_of q9
   refine wpD_region ?_
   refine pu ?_
   refine pL 2 ?_
   refine pu ?_
   refine pu ?_
   refine p_split (i := 22) rfl (fun hg10 => ?_) (fun hg10 => ?_)
   ·replace hm := yes_t hg10 hm
    refine pu ?_
    obtain ⟨x11, q11, hm⟩ := yes_bind hm
    refine pG (grammar_reader_may_ok x6.2 (ByteArray.mk #[91]) o0 T0 c0_0 x11 q11) Wl Pf Pf ?_
    rintro _ _ _ ⟨rfl, rfl, rfl⟩
    refine p_pickT rfl rfl rfl rfl rfl rfl ?_
    refine ops_nil ?_
    have e9 := yes_eq hm; subst e9
    refine ⟨rfl, ?_⟩
    refine WkX.wk (WkS.bl0 (ds' := [.lst 4 (x11.2.gL.map eTApiToken) .no, .v (.int .i64 x11.2.gAt), .v (.int .i64 x11.2.gE), .v (.int .i64 x11.2.gVars), .v (.int .i64 x11.2.gOpen)]) (rO (rC (rC (rC (rC WkR.nil)))))) ?_
    exact WkX.of () (WkS.perm (WkS.cons rfl (Wk.refl _) (WkS.cons rfl (Wk.refl _) (WkS.cons rfl (Wk.refl _) (WkS.cons rfl (Wk.refl _) (WkS.nil))))) Pf Pf)
   ·replace hm := yes_f hg10 hm
    refine pK ?_
    refine pK ?_
    refine p_pickF rfl rfl rfl rfl rfl rfl ?_
    refine ops_nil ?_
    have e9 := yes_eq hm; subst e9
    refine ⟨rfl, ?_⟩
    refine WkX.wk (WkS.bl0 (ds' := [.lst 4 (x6.2.gL.map eTApiToken) .no, .v (.int .i64 x6.2.gAt), .v (.int .i64 x6.2.gE), .v (.int .i64 x6.2.gVars), .v (.int .i64 x6.2.gOpen)]) (rO (rC (rC (rC (rC WkR.nil)))))) ?_
    exact WkX.of () (WkS.perm (WkS.cons rfl (Wk.refl _) (WkS.cons rfl (Wk.refl _) (WkS.cons rfl (Wk.refl _) (WkS.cons rfl (Wk.refl _) (WkS.nil))))) Pf Pf)
  ·intro s9 hw9; clear hm; have hm := ho9; clear q9 ho9
   refine then_normal ?_
   refine wpD_wkX hw9 (fun z9 => ?_)
   obtain ⟨y25, q25, ho25⟩ := yes_bind hm
   refine wpD_mid (Y := Unit) (fun z25 => (⟨[(0, .ptr o0 0), (2, .ptr b1 0), (3, .ptr b3 0)], [(o0, Blk.cells [.lst 4 (y25.1.map eTApiToken) .no, .v (.int .i64 y25.2.1), .v (.int .i64 y25.2.2.1), .v (.int .i64 y25.2.2.2.1), .v (.int .i64 y25.2.2.2.2.1)] T0), (b1, Blk.cells [.v (.string ByteArray.empty), .v (.bool false), .v (.int .i64 (0 : Int)), .v (.int .i64 (0 : Int))] 39), (b3, Blk.cells [.v (.string x6.1), .v (.bool x5.1), .v (.int .i64 y25.2.2.2.2.2), .v (.int .i64 x2.gAt)] 39)], []⟩ : S)) ?_ ?_
   ·clear hm; have hm := yes_of q25
    refine wpD_cond rfl (fun hc26 => ?_) (fun hc26 => ?_)
    ·replace hm := yes_t hc26 hm
     refine wpD_seq ?_
     obtain ⟨x27, q27, hm⟩ := yes_bind hm
     refine wpD_fills 8 [(6, [.v (.int .i64 (0 : Int)), .v (.string ByteArray.empty), .v (.int .i64 (0 : Int)), .v (.int .i64 (0 : Int))], 69)] [(6, 7, [.v (.int .i64 x27.gKind), .v (.string x27.gText), .v (.int .i64 x27.gN), .v (.int .i64 x27.gAt)])] [[],[0],[],[2],[2,3],[2,3,4],[],[0,1,6]] [0,1,2,3,4,6,7] [[],[0],[],[2],[2,3],[2,3,4],[],[0,1,6],[0,1,2,3,4,5,6,7]] (by kernel_rfl) (by kernel_rfl) (by kernel_rfl) (by rfl) (by rfl) (by kernel_rfl) ?_
     iterate 5 apply Exists.intro
     refine ⟨.any, ?_⟩
     refine ⟨.any, ?_⟩
     intro bs
     refine zf_e rfl rfl (ex_pure htab rfl) rfl rfl rfl rfl rfl rfl rfl ?_
     refine zf_callB 0 rfl rfl (grammar_reader_look_ok (⟨y9.2.1, y9.2.2.1, y9.2.2.2.1, y9.2.2.2.2.1, y9.2.2.2.2.2⟩ : TGrammarReader) (0 : Int) o0 T0 .no x27 q27) rfl rfl Wl rfl rfl rfl rfl rfl rfl rfl rfl ?_
     iterate 3 refine zf_e rfl rfl (ex_pure htab rfl) rfl rfl rfl rfl rfl rfl rfl ?_
     refine zf_qM rfl rfl (xm_load 0 htab rfl rfl rfl rfl rfl) rfl rfl rfl rfl rfl rfl ?_
     refine zf_alloc rfl htab rfl rfl rfl rfl rfl rfl rfl rfl rfl rfl (by simp [dOf, eI64]) (by simp) ?_
     refine zf_fill (e := 6) (zs := [.v (.int .i64 (0 : Int)), .v (.string ByteArray.empty), .v (.int .i64 (0 : Int)), .v (.int .i64 (0 : Int))]) (T' := 69) (ds' := [.v (.int .i64 x27.gKind), .v (.string x27.gText), .v (.int .i64 x27.gN), .v (.int .i64 x27.gAt)]) htab rfl rfl rfl rfl rfl rfl rfl rfl rfl (by simp) (by simp) rfl rfl rfl rfl rfl rfl rfl rfl rfl ?_
     refine zf_nil (h' := [(o0, Blk.cells [.lst 4 (y9.2.1.map eTApiToken) .no, .v (.int .i64 y9.2.2.1), .v (.int .i64 y9.2.2.2.1), .v (.int .i64 y9.2.2.2.2.1), .v (.int .i64 y9.2.2.2.2.2)] T0), (b1, Blk.cells [.v (.string ByteArray.empty), .v (.bool false), .v (.int .i64 (0 : Int)), .v (.int .i64 (0 : Int))] 39), (b3, Blk.cells [.v (.string x6.1), .v (.bool x5.1), .v (.int .i64 (0 : Int)), .v (.int .i64 x2.gAt)] 39), (bs 6, Blk.cells [.v (.int .i64 x27.gKind), .v (.string x27.gText), .v (.int .i64 x27.gN), .v (.int .i64 x27.gAt)] 69)]) rfl rfl rfl (fun e he => by simp [isAl] at he; subst he; rfl) ?_
     obtain ⟨b28, hb28⟩ : ∃ b, bs 6 = b := ⟨_, rfl⟩
     simp only [hb28]
     clear hb28
     refine pu ?_
     refine ops_nt ?_
     refine wpD_seq ?_
     obtain ⟨y36, q36, ho36⟩ := yes_bind hm
     refine wpD_mid (Y := Unit) (fun z36 => (⟨[(0, .ptr o0 0), (2, .ptr b1 0), (3, .ptr b3 0)], [(o0, Blk.cells [.lst 4 (y36.1.map eTApiToken) .no, .v (.int .i64 y36.2.1), .v (.int .i64 y36.2.2.1), .v (.int .i64 y36.2.2.2.1), .v (.int .i64 y36.2.2.2.2.1)] T0), (b1, Blk.cells [.v (.string ByteArray.empty), .v (.bool false), .v (.int .i64 (0 : Int)), .v (.int .i64 (0 : Int))] 39), (b3, Blk.cells [.v (.string x6.1), .v (.bool x5.1), .v (.int .i64 y36.2.2.2.2.2), .v (.int .i64 x2.gAt)] 39)], []⟩ : S)) ?_ ?_
     ·clear hm; have hm := yes_of q36
      refine wpD_block ?_
      refine wpD_sr ?_
      refine pu ?_
      refine pL 3 ?_
      refine pu ?_
      refine pu ?_
      refine ops_nt ?_
      obtain ⟨y44, q44, ho44⟩ := yes_bind hm
      refine wpD_mid (Y := Unit) (fun z44 => (⟨[(0, .ptr o0 0), (2, .ptr b1 0), (3, .ptr b3 0)], [(o0, Blk.cells [.lst 4 (y44.1.map eTApiToken) .no, .v (.int .i64 y44.2.1), .v (.int .i64 y44.2.2.1), .v (.int .i64 y44.2.2.2.1), .v (.int .i64 y44.2.2.2.2.1)] T0), (b1, Blk.cells [.v (.string ByteArray.empty), .v (.bool false), .v (.int .i64 (0 : Int)), .v (.int .i64 (0 : Int))] 39), (b3, Blk.cells [.v (.string x6.1), .v (.bool x5.1), .v (.int .i64 y44.2.2.2.2.2), .v (.int .i64 x2.gAt)] 39)], []⟩ : S)) ?_ ?_
      ·clear hm; have hm := yes_of q44
       refine wpD_cond rfl (fun hc45 => ?_) (fun hc45 => ?_)
       ·replace hm := yes_t hc45 hm
        refine wpD_region ?_
        refine pu ?_
        refine pu ?_
        obtain ⟨x46, q46, hm⟩ := yes_bind hm
        refine pG (grammar_reader_fail_ok (⟨y9.2.1, y9.2.2.1, y9.2.2.2.1, y9.2.2.2.2.1, y9.2.2.2.2.2⟩ : TGrammarReader) y9.2.2.1 (3 : Int) o0 T0 .no x46 q46) Wl Pf Pf ?_
        rintro _ _ _ ⟨rfl, rfl, rfl⟩
        refine ops_nil ?_
        have e44 := yes_eq hm; subst e44
        refine ⟨rfl, ?_⟩
        exact WkX.of () (WkS.perm (WkS.cons rfl (Wk.refl _) (WkS.cons rfl (Wk.refl _) (WkS.cons rfl (Wk.refl _) (WkS.nil)))) Pf Pf)
       ·replace hm := yes_f hc45 hm
        refine wpD_seq ?_
        obtain ⟨y48, q48, ho48⟩ := yes_bind hm
        refine wpD_mid (Y := Unit) (fun z48 => (⟨[(0, .ptr o0 0), (2, .ptr b1 0), (3, .ptr b3 0), (4, .ptr b28 0), (5, .v (.int .i64 y9.2.2.1)), (49, .v (.bool y48))], [(o0, Blk.cells [.lst 4 (y9.2.1.map eTApiToken) .no, .v (.int .i64 y9.2.2.1), .v (.int .i64 y9.2.2.2.1), .v (.int .i64 y9.2.2.2.2.1), .v (.int .i64 y9.2.2.2.2.2)] T0), (b1, Blk.cells [.v (.string ByteArray.empty), .v (.bool false), .v (.int .i64 (0 : Int)), .v (.int .i64 (0 : Int))] 39), (b3, Blk.cells [.v (.string x6.1), .v (.bool x5.1), .v (.int .i64 (0 : Int)), .v (.int .i64 x2.gAt)] 39), (b28, Blk.cells [.v (.int .i64 x27.gKind), .v (.string x27.gText), .v (.int .i64 x27.gN), .v (.int .i64 x27.gAt)] 69)], []⟩ : S)) ?_ ?_
        ·clear hm; have hm := yes_of q48
         refine wpD_region ?_
         refine pu ?_
         refine pL 3 ?_
         refine pu ?_
         refine pu ?_
         refine p_split (i := 53) rfl (fun hg49 => ?_) (fun hg49 => ?_)
         ·replace hm := yes_t hg49 hm
          iterate 3 refine pK ?_
          refine p_pickT rfl rfl rfl rfl rfl rfl ?_
          refine pu ?_
          refine ops_nil ?_
          have e48 := yes_eq hm; subst e48
          refine ⟨rfl, ?_⟩
          exact WkX.of () (WkS.perm (WkS.cons rfl (Wk.refl _) (WkS.cons rfl (Wk.refl _) (WkS.cons rfl (Wk.refl _) (WkS.cons rfl (Wk.refl _) (WkS.cons rfl (Wk.refl _) (WkS.cons rfl (Wk.refl _) (WkS.nil))))))) Pf Pf)
         ·replace hm := yes_f hg49 hm
          refine pu ?_
          refine pL 3 ?_
          refine pu ?_
          refine p_pickF rfl rfl rfl rfl rfl rfl ?_
          refine pu ?_
          refine ops_nil ?_
          have e48 := yes_eq hm; subst e48
          refine ⟨rfl, ?_⟩
          exact WkX.of () (WkS.perm (WkS.cons rfl (Wk.refl _) (WkS.cons rfl (Wk.refl _) (WkS.cons rfl (Wk.refl _) (WkS.cons rfl (Wk.refl _) (WkS.cons rfl (Wk.refl _) (WkS.cons rfl (Wk.refl _) (WkS.nil))))))) Pf Pf)
        ·intro s48 hw48; clear hm; have hm := ho48; clear q48 ho48
         refine then_normal ?_
         refine wpD_wkX hw48 (fun z48 => ?_)
         obtain ⟨y52, q52, ho52⟩ := yes_bind hm
         refine wpD_mid (Y := Unit) (fun z52 => (⟨[(0, .ptr o0 0), (2, .ptr b1 0), (3, .ptr b3 0)], [(o0, Blk.cells [.lst 4 (y52.1.map eTApiToken) .no, .v (.int .i64 y52.2.1), .v (.int .i64 y52.2.2.1), .v (.int .i64 y52.2.2.2.1), .v (.int .i64 y52.2.2.2.2.1)] T0), (b1, Blk.cells [.v (.string ByteArray.empty), .v (.bool false), .v (.int .i64 (0 : Int)), .v (.int .i64 (0 : Int))] 39), (b3, Blk.cells [.v (.string x6.1), .v (.bool x5.1), .v (.int .i64 y52.2.2.2.2.2), .v (.int .i64 x2.gAt)] 39)], []⟩ : S)) ?_ ?_
         ·clear hm; have hm := yes_of q52
          refine wpD_cond rfl (fun hc53 => ?_) (fun hc53 => ?_)
          ·replace hm := yes_t hc53 hm
           refine wpD_region ?_
           refine pu ?_
           refine pu ?_
           obtain ⟨x54, q54, hm⟩ := yes_bind hm
           refine pG (grammar_reader_fail_ok (⟨y9.2.1, y9.2.2.1, y9.2.2.2.1, y9.2.2.2.2.1, y9.2.2.2.2.2⟩ : TGrammarReader) y9.2.2.1 (4 : Int) o0 T0 .no x54 q54) Wl Pf Pf ?_
           rintro _ _ _ ⟨rfl, rfl, rfl⟩
           refine ops_nil ?_
           have e52 := yes_eq hm; subst e52
           refine ⟨rfl, ?_⟩
           exact WkX.of () (WkS.perm (WkS.cons rfl (Wk.refl _) (WkS.cons rfl (Wk.refl _) (WkS.cons rfl (Wk.refl _) (WkS.nil)))) Pf Pf)
          ·replace hm := yes_f hc53 hm
           refine wpD_sr ?_
           refine pu ?_
           refine pL 3 ?_
           refine pu ?_
           refine pS2 (ds' := [.v (.string x6.1), .v (.bool x5.1), .v (.int .i64 x27.gN), .v (.int .i64 x2.gAt)]) ?_
           refine ops_nt ?_
           refine wpD_region ?_
           iterate 3 refine pu ?_
           refine pL 0 ?_
           iterate 3 refine pu ?_
           refine pS0 (ds' := [.lst 4 (y9.2.1.map eTApiToken) .no, .v (.int .i64 (IntKind.i64.wrap (y9.2.2.1 + (1 : Int)))), .v (.int .i64 y9.2.2.2.1), .v (.int .i64 y9.2.2.2.2.1), .v (.int .i64 y9.2.2.2.2.2)]) ?_
           refine ops_nil ?_
           have e52 := yes_eq hm; subst e52
           refine ⟨rfl, ?_⟩
           exact WkX.of () (WkS.perm (WkS.cons rfl (Wk.refl _) (WkS.cons rfl (Wk.refl _) (WkS.cons rfl (Wk.refl _) (WkS.nil)))) Pf Pf)
         ·intro s52 hw52; clear hm; have hm := ho52; clear q52 ho52
          have e44 := yes_eq hm; subst e44
          refine ⟨rfl, ?_⟩
          refine WkX.trans hw52 (fun z52 => ?_)
          exact WkX.of () (WkS.perm (WkS.cons rfl (Wk.refl _) (WkS.cons rfl (Wk.refl _) (WkS.cons rfl (Wk.refl _) (WkS.nil)))) Pf Pf)
      ·intro s44 hw44; clear hm; have hm := ho44; clear q44 ho44
       refine block_normal ?_
       have e36 := yes_eq hm; subst e36
       refine ⟨rfl, ?_⟩
       refine WkX.trans hw44 (fun z44 => ?_)
       exact WkX.of () (WkS.perm (WkS.cons rfl (Wk.refl _) (WkS.cons rfl (Wk.refl _) (WkS.cons rfl (Wk.refl _) (WkS.nil)))) Pf Pf)
     ·intro s36 hw36; clear hm; have hm := ho36; clear q36 ho36
      refine then_normal ?_
      refine wpD_wkX hw36 (fun z36 => ?_)
      refine wpD_region ?_
      refine pu ?_
      refine p_lit htab rfl rfl rfl rfl rfl rfl rfl rfl rfl rfl rfl rfl rfl rfl ?_
      refine p_eq (i := 62) (d' := .lst 1 (([(ByteArray.mk #[93])] : List ByteArray).map eStr) .full) rfl (Wk.lst0 (.cons (WkC.refl _) (.nil))) ?_
      obtain ⟨x55, q55, hm⟩ := yes_bind hm
      refine p_callG (grammar_reader_eat_ok (⟨y36.1, y36.2.1, y36.2.2.1, y36.2.2.2.1, y36.2.2.2.2.1⟩ : TGrammarReader) ([(ByteArray.mk #[93])] : List ByteArray) o0 T0 .no x55 q55) rfl rfl rfl rfl rfl (WkL.cons (Wk.refl _) (WkL.cons (Wk.no) Wl)) Pf Pf ?_
      rintro _ _ _ ⟨rfl, rfl, rfl⟩
      refine ops_nil ?_
      have e25 := yes_eq hm; subst e25
      refine ⟨rfl, ?_⟩
      exact WkX.of () (WkS.perm (WkS.cons rfl (Wk.refl _) (WkS.cons rfl (Wk.refl _) (WkS.cons rfl (Wk.refl _) (WkS.nil)))) Pf Pf)
    ·replace hm := yes_f hc26 hm
     refine wpD_skip ?_
     have e25 := yes_eq hm; subst e25
     refine ⟨rfl, ?_⟩
     exact WkX.of () (WkS.perm (WkS.cons rfl (Wk.refl _) (WkS.cons rfl (Wk.refl _) (WkS.cons rfl (Wk.refl _) (WkS.nil)))) Pf Pf)
   ·intro s25 hw25; clear hm; have hm := ho25; clear q25 ho25
    refine then_normal ?_
    refine wpD_wkX hw25 (fun z25 => ?_)
    refine wpD_sr ?_
    refine pu ?_
    refine p_lit htab rfl rfl rfl rfl rfl rfl rfl rfl rfl rfl rfl rfl rfl rfl ?_
    refine p_eq (i := 65) (d' := .lst 1 (([(ByteArray.mk #[59])] : List ByteArray).map eStr) .full) rfl (Wk.lst0 (.cons (WkC.refl _) (.nil))) ?_
    obtain ⟨x56, q56, hm⟩ := yes_bind hm
    refine p_callG (grammar_reader_eat_ok (⟨y25.1, y25.2.1, y25.2.2.1, y25.2.2.2.1, y25.2.2.2.2.1⟩ : TGrammarReader) ([(ByteArray.mk #[59])] : List ByteArray) o0 T0 .no x56 q56) rfl rfl rfl rfl rfl (WkL.cons (Wk.refl _) (WkL.cons (Wk.no) Wl)) Pf Pf ?_
    rintro _ _ _ ⟨rfl, rfl, rfl⟩
    refine ops_n2 ?_
    refine p_load (d := eTApiGlobal (⟨x6.1, x5.1, y25.2.2.2.2.2, x2.gAt⟩ : TApiGlobal)) 2 htab rfl rfl rfl rfl rfl rfl rfl rfl ?_
    refine pS1 (ds' := [.v (.string x6.1), .v (.bool x5.1), .v (.int .i64 y25.2.2.2.2.2), .v (.int .i64 x2.gAt)]) ?_
    refine ops_nt ?_
    refine wpD_ret ?_
    have er57 := yes_eq hm; subst er57
    refine rP (t' := [(2, .ptr b1 0)]) [0,0] [] 1 (wC wN) (lC 1 lN) ?_
    exact ⟨rfl, rfl, rfl⟩
noncomputable def grammar_Global (a0 : List TApiToken) (a1 : Int) : Option (TApiGlobal × Int × Int) :=
  ((grammar_begin a0 a1).bind fun x3 => (bif (!x3.2) then some ((⟨ByteArray.empty, false, (0 : Int), (0 : Int)⟩ : TApiGlobal), (0 : Int), (2 : Int)) else ((grammar_reader_global x3.1).bind fun x7 => (bif (x7.2.gE != (0 : Int)) then some ((⟨ByteArray.empty, false, (0 : Int), (0 : Int)⟩ : TApiGlobal), x7.2.gAt, x7.2.gE) else some (x7.1, x7.2.gAt, (0 : Int))))))
set_option maxRecDepth 100000 in
set_option maxHeartbeats 2000000 in
theorem grammar_Global_ok (a0 : List TApiToken) (a1 : Int) (r : TApiGlobal × Int × Int) (h0 : grammar_Global a0 a1 = some r) : CallsD Try.prog 12 [.lst 4 (a0.map eTApiToken) .no, .v (.int .i64 a1)] [] [] (fun d h k => d = .tup [eTApiGlobal r.1, .v (.int .i64 r.2.1), .v (.int .i64 r.2.2)] ∧ h = [] ∧ k = []) := by
  have hm := yes_of h0
  unfold grammar_Global at hm
  clear h0
  refine enterX htab Try.func12 rfl rfl rfl rfl rfl (fun C => ?_)
  refine wpD_sr ?_
  refine p_alloc htab rfl rfl rfl rfl rfl rfl rfl (fun b1 => ?_)
  refine pu ?_
  refine pu ?_
  refine ops_n2 ?_
  refine pu ?_
  refine pu ?_
  obtain ⟨x3, q3, hm⟩ := yes_bind hm
  refine pG (grammar_begin_ok a0 a1 x3 q3) Wl Pf Pf ?_
  rintro _ _ _ ⟨w2, rfl, rfl, rfl⟩
  iterate 5 refine pu ?_
  refine ops_nt ?_
  refine wpD_seq ?_
  refine wpD_sr ?_
  refine pu ?_
  refine pu ?_
  refine ops_nt ?_
  refine wpD_cond rfl (fun hc5 => ?_) (fun hc5 => ?_)
  ·replace hm := yes_t hc5 hm
   refine wpD_sr ?_
   refine p_build (r := [.v (.string ByteArray.empty), .v (.bool false), .v (.int .i64 (0 : Int)), .v (.int .i64 (0 : Int))]) htab rfl rfl rfl rfl rfl rfl rfl rfl rfl ?_
   refine pS1 (ds' := [.v (.string ByteArray.empty), .v (.bool false), .v (.int .i64 (0 : Int)), .v (.int .i64 (0 : Int))]) ?_
   refine pu ?_
   refine pu ?_
   refine ops_nt ?_
   refine wpD_ret ?_
   refine then_ret ?_
   have er6 := yes_eq hm; subst er6
   refine rP (t' := [(4, .ptr b1 0), (5, .v (.int .i64 (0 : Int))), (6, .v (.int .i64 (2 : Int)))]) [1] [] 0 (wC (wC (wC wN))) (lC 0 (lT (lT lN))) ?_
   exact ⟨rfl, rfl, rfl⟩
  ·replace hm := yes_f hc5 hm
   refine wpD_skip ?_
   refine then_normal ?_
   refine wpD_sr ?_
   refine pu ?_
   obtain ⟨x7, q7, hm⟩ := yes_bind hm
   refine pG (grammar_reader_global_ok x3.1 w2 64 .no x7 q7) Wl Pf Pf ?_
   rintro _ _ _ ⟨rfl, rfl, rfl⟩
   refine p_alloc htab rfl rfl rfl rfl rfl rfl rfl (fun b8 => ?_)
   refine pS2 (ds' := [.v (.string x7.1.gName), .v (.bool x7.1.gPtr), .v (.int .i64 x7.1.gSize), .v (.int .i64 x7.1.gAt)]) ?_
   refine ops_nt ?_
   refine wpD_seq ?_
   refine wpD_sr ?_
   iterate 3 refine pu ?_
   refine pL 0 ?_
   refine pu ?_
   refine ops_nt ?_
   refine wpD_cond rfl (fun hc11 => ?_) (fun hc11 => ?_)
   ·replace hm := yes_t hc11 hm
    refine wpD_seq ?_
    refine wpD_store 11 [] [[],[],[1],[1,2],[1,2,3],[],[5],[5,6],[5,6,7],[0],[0,1,2,3,4,9]] [0,1,2,3,4,5,6,7,8,9] [[],[],[1],[1,2],[1,2,3],[],[5],[5,6],[5,6,7],[0],[0,1,2,3,4,9],[0,1,2,3,4,5,6,7,8,9,10]] 9 (by kernel_rfl) (by kernel_rfl) (by kernel_rfl) (by rfl) (by rfl) (by kernel_rfl) ?_
    refine ⟨[(w2, Blk.cells [.lst 4 (x7.2.gL.map eTApiToken) .no, .v (.int .i64 x7.2.gAt), .v (.int .i64 x7.2.gE), .v (.int .i64 x7.2.gVars), .v (.int .i64 x7.2.gOpen)] 64), (b1, Blk.cells [.v (.string ByteArray.empty), .v (.bool false), .v (.int .i64 (0 : Int)), .v (.int .i64 (0 : Int))] 39), (b8, Blk.cells [.v (.string x7.1.gName), .v (.bool x7.1.gPtr), .v (.int .i64 x7.1.gSize), .v (.int .i64 x7.1.gAt)] 39)], ?_⟩
    iterate 9 apply Exists.intro
    refine ⟨.any, ?_⟩
    intro bs v12
    refine zh_e rfl rfl (x_build (r := [.v (.string ByteArray.empty), .v (.bool false), .v (.int .i64 (0 : Int)), .v (.int .i64 (0 : Int))]) htab rfl rfl rfl rfl rfl rfl) rfl rfl rfl rfl rfl rfl rfl rfl ?_
    iterate 3 refine zh_e rfl rfl (ex_pure htab rfl) rfl rfl rfl rfl rfl rfl rfl rfl ?_
    refine zh_M rfl rfl (fun _ => xm_load 0 htab rfl rfl rfl rfl rfl) (fun _ => xm_load 0 htab rfl rfl rfl rfl rfl) rfl rfl rfl rfl rfl rfl rfl rfl ?_
    iterate 3 refine zh_e rfl rfl (ex_pure htab rfl) rfl rfl rfl rfl rfl rfl rfl rfl ?_
    refine zh_M rfl rfl (fun _ => xm_load 0 htab rfl rfl rfl rfl rfl) (fun _ => xm_load 0 htab rfl rfl rfl rfl rfl) rfl rfl rfl rfl rfl rfl rfl rfl ?_
    refine zh_store 1 htab rfl rfl rfl rfl rfl rfl rfl rfl rfl rfl rfl rfl rfl rfl rfl rfl ?_
    refine zh_q rfl rfl (ex_pure htab rfl) rfl rfl rfl rfl rfl rfl ?_
    refine zh_nil rfl rfl rfl rfl (fun e he => by simp [isAl] at he) ?_
    refine pu ?_
    refine ops_nt ?_
    refine wpD_ret ?_
    refine then_ret ?_
    have er13 := yes_eq hm; subst er13
    refine rP (t' := [(4, .ptr b1 0), (5, .v (.int .i64 x7.2.gAt)), (6, .v (.int .i64 x7.2.gE))]) [1] [] 0 (wC (wC (wC wN))) (lC 0 (lT (lT lN))) ?_
    exact ⟨rfl, rfl, rfl⟩
   ·replace hm := yes_f hc11 hm
    refine wpD_skip ?_
    refine then_normal ?_
    refine wpD_seq ?_
    refine wpD_store 6 [] [[],[],[1],[1,2],[1,2,3],[0]] [0,1,2,3,4,5] [[],[],[1],[1,2],[1,2,3],[0],[0,1,2,3,4,5],[0,1,2,3,4,5,6]] 5 (by kernel_rfl) (by kernel_rfl) (by kernel_rfl) (by rfl) (by rfl) (by kernel_rfl) ?_
    refine ⟨[(w2, Blk.cells [.lst 4 (x7.2.gL.map eTApiToken) .no, .v (.int .i64 x7.2.gAt), .v (.int .i64 x7.2.gE), .v (.int .i64 x7.2.gVars), .v (.int .i64 x7.2.gOpen)] 64), (b1, Blk.cells [.v (.string x7.1.gName), .v (.bool x7.1.gPtr), .v (.int .i64 x7.1.gSize), .v (.int .i64 x7.1.gAt)] 39), (b8, Blk.cells [.v (.string x7.1.gName), .v (.bool x7.1.gPtr), .v (.int .i64 x7.1.gSize), .v (.int .i64 x7.1.gAt)] 39)], ?_⟩
    iterate 5 apply Exists.intro
    refine ⟨.any, ?_⟩
    intro bs v14
    refine zh_M rfl rfl (fun _ => xm_load (d := eTApiGlobal x7.1) 2 htab rfl rfl rfl rfl rfl) (offB rfl) rfl rfl rfl rfl rfl rfl rfl rfl ?_
    iterate 3 refine zh_e rfl rfl (ex_pure htab rfl) rfl rfl rfl rfl rfl rfl rfl rfl ?_
    refine zh_M rfl rfl (fun _ => xm_load 0 htab rfl rfl rfl rfl rfl) (fun _ => xm_load 0 htab rfl rfl rfl rfl rfl) rfl rfl rfl rfl rfl rfl rfl rfl ?_
    refine zh_store 1 htab rfl rfl rfl rfl rfl rfl rfl rfl rfl rfl rfl rfl rfl rfl rfl rfl ?_
    refine zh_nil rfl rfl rfl rfl (fun e he => by simp [isAl] at he) ?_
    refine pu ?_
    refine pu ?_
    refine ops_nt ?_
    refine wpD_ret ?_
    have er15 := yes_eq hm; subst er15
    refine rP (t' := [(4, .ptr b1 0), (5, .v (.int .i64 x7.2.gAt)), (6, .v (.int .i64 (0 : Int)))]) [1] [] 0 (wC (wC (wC wN))) (lC 0 (lT (lT lN))) ?_
    exact ⟨rfl, rfl, rfl⟩
noncomputable def r13_Global (a0 : List TApiToken) (a1 : Int) : Option (TApiGlobal × Int × Int) :=
  (Option.bind (α := Bool) (bif (decide (a1 < (0 : Int))) then some true else some (decide ((a0.length : Int) < a1))) fun y3 => (bif y3 then some ((⟨ByteArray.empty, false, (0 : Int), (0 : Int)⟩ : TApiGlobal), (0 : Int), (2 : Int)) else ((r12_Look (⟨a0, a1, (0 : Int)⟩ : TSondageref12R)).bind fun x9 => ((r12_Eat (⟨a0, a1, (0 : Int)⟩ : TSondageref12R) (ByteArray.mk #[105, 110, 116])).bind fun x11 => ((r13_may x11 (ByteArray.mk #[42])).bind fun x12 => ((r12_Name x12.2).bind fun x13 => (Option.bind (α := Bool × List TApiToken × Int × Int) (bif (!x12.1) then ((r13_may x13.2 (ByteArray.mk #[91])).bind fun x18 => some (x18.1, x18.2.gL, x18.2.gAt, x18.2.gE)) else some (false, x13.2.gL, x13.2.gAt, x13.2.gE)) fun y16 => (Option.bind (α := List TApiToken × Int × Int × Int) (bif y16.1 then ((r12_Look (⟨y16.2.1, y16.2.2.1, y16.2.2.2⟩ : TSondageref12R)).bind fun x45 => (Option.bind (α := List TApiToken × Int × Int) (bif (x45.gKind != (2 : Int)) then ((r12_Fail (⟨y16.2.1, y16.2.2.1, y16.2.2.2⟩ : TSondageref12R) y16.2.2.1 (3 : Int)).bind fun x56 => some (x56.gL, x56.gAt, x56.gE)) else (Option.bind (α := Bool) (bif (decide (x45.gN < (1 : Int))) then some true else some (decide ((1000 : Int) < x45.gN))) fun y58 => (Option.bind (α := List TApiToken × Int × Int) (bif y58 then ((r12_Fail (⟨y16.2.1, y16.2.2.1, y16.2.2.2⟩ : TSondageref12R) y16.2.2.1 (4 : Int)).bind fun x64 => some (x64.gL, x64.gAt, x64.gE)) else some (y16.2.1, y16.2.2.1, y16.2.2.2)) fun y62 => some (y62.1, y62.2.1, y62.2.2)))) fun y54 => (Option.bind (α := Int × Int) (bif (y54.2.2 == (0 : Int)) then some ((IntKind.i64.wrap (y54.2.1 + (1 : Int))), x45.gN) else some (y54.2.1, (0 : Int))) fun y66 => ((r12_Eat (⟨y54.1, y66.1, y54.2.2⟩ : TSondageref12R) (ByteArray.mk #[93])).bind fun x68 => some (x68.gL, x68.gAt, x68.gE, y66.2))))) else some (y16.2.1, y16.2.2.1, y16.2.2.2, (0 : Int))) fun y43 => ((r12_Eat (⟨y43.1, y43.2.1, y43.2.2.1⟩ : TSondageref12R) (ByteArray.mk #[59])).bind fun x69 => (bif (x69.gE != (0 : Int)) then some ((⟨ByteArray.empty, false, (0 : Int), (0 : Int)⟩ : TApiGlobal), x69.gAt, x69.gE) else some ((⟨x13.1, x12.1, y43.2.2.2, x9.gAt⟩ : TApiGlobal), x69.gAt, (0 : Int))))))))))))
set_option maxRecDepth 100000 in
set_option maxHeartbeats 2000000 in
theorem r13_Global_ok (a0 : List TApiToken) (a1 : Int) (r : TApiGlobal × Int × Int) (h0 : r13_Global a0 a1 = some r) : CallsD Try.prog 13 [.lst 4 (a0.map eTApiToken) .no, .v (.int .i64 a1)] [] [] (fun d h k => d = .tup [eTApiGlobal r.1, .v (.int .i64 r.2.1), .v (.int .i64 r.2.2)] ∧ h = [] ∧ k = []) := by
  have hm := yes_of h0
  unfold r13_Global at hm
  clear h0
  refine enterX htab Try.func13 rfl rfl rfl rfl rfl (fun C => ?_)
  refine wpD_sr ?_
  refine p_alloc htab rfl rfl rfl rfl rfl rfl rfl (fun b1 => ?_)
  refine pu ?_
  refine pu ?_
  refine ops_nt ?_
  refine wpD_seq ?_
  refine wpD_seq ?_
  obtain ⟨y3, q3, ho3⟩ := yes_bind hm
  refine wpD_mid (Y := Unit) (fun z3 => (⟨[(0, .lst 4 (a0.map eTApiToken) .no), (1, .v (.int .i64 a1)), (4, .ptr b1 0), (17, .v (.bool y3))], [(b1, Blk.cells [.v (.string ByteArray.empty), .v (.bool false), .v (.int .i64 (0 : Int)), .v (.int .i64 (0 : Int))] 39)], []⟩ : S)) ?_ ?_
  ·clear hm; have hm := yes_of q3
   refine wpD_region ?_
   iterate 3 refine pu ?_
   refine p_split (i := 12) rfl (fun hg4 => ?_) (fun hg4 => ?_)
   ·replace hm := yes_t hg4 hm
    iterate 4 refine pK ?_
    refine p_pickT rfl rfl rfl rfl rfl rfl ?_
    refine ops_nil ?_
    have e3 := yes_eq hm; subst e3
    refine ⟨rfl, ?_⟩
    exact WkX.of () (WkS.perm (WkS.cons rfl (Wk.refl _) (WkS.cons rfl (Wk.refl _) (WkS.cons rfl (Wk.refl _) (WkS.cons rfl (Wk.refl _) (WkS.nil))))) Pf Pf)
   ·replace hm := yes_f hg4 hm
    refine pu ?_
    refine pu ?_
    refine p_lenL htab rfl rfl rfl rfl rfl rfl rfl (by first | exact map_len | rfl) ?_
    refine pu ?_
    refine p_pickF rfl rfl rfl rfl rfl rfl ?_
    refine ops_nil ?_
    have e3 := yes_eq hm; subst e3
    refine ⟨rfl, ?_⟩
    exact WkX.of () (WkS.perm (WkS.cons rfl (Wk.refl _) (WkS.cons rfl (Wk.refl _) (WkS.cons rfl (Wk.refl _) (WkS.cons rfl (Wk.refl _) (WkS.nil))))) Pf Pf)
  ·intro s3 hw3; clear hm; have hm := ho3; clear q3 ho3
   refine then_normal ?_
   refine wpD_wkX hw3 (fun z3 => ?_)
   refine wpD_cond rfl (fun hc6 => ?_) (fun hc6 => ?_)
   ·replace hm := yes_t hc6 hm
    refine wpD_sr ?_
    refine p_build (r := [.v (.string ByteArray.empty), .v (.bool false), .v (.int .i64 (0 : Int)), .v (.int .i64 (0 : Int))]) htab rfl rfl rfl rfl rfl rfl rfl rfl rfl ?_
    refine pS0 (ds' := [.v (.string ByteArray.empty), .v (.bool false), .v (.int .i64 (0 : Int)), .v (.int .i64 (0 : Int))]) ?_
    refine pu ?_
    refine pu ?_
    refine ops_nt ?_
    refine wpD_ret ?_
    refine then_ret ?_
    have er7 := yes_eq hm; subst er7
    refine rP (t' := [(4, .ptr b1 0), (5, .v (.int .i64 (0 : Int))), (6, .v (.int .i64 (2 : Int)))]) [0] [] 0 (wC (wC (wC wN))) (lC 0 (lT (lT lN))) ?_
    exact ⟨rfl, rfl, rfl⟩
   ·replace hm := yes_f hc6 hm
    refine wpD_skip ?_
    refine then_normal ?_
    refine wpD_sr ?_
    refine pu ?_
    refine pu ?_
    refine p_build (r := [.lst 4 (a0.map eTApiToken) .no, .v (.int .i64 a1), .v (.int .i64 (0 : Int))]) htab rfl rfl rfl rfl rfl rfl rfl rfl rfl ?_
    refine p_box rfl rfl rfl rfl rfl rfl rfl (fun b8 => ?_)
    refine pu ?_
    refine ops_n2 ?_
    refine pu ?_
    obtain ⟨x9, q9, hm⟩ := yes_bind hm
    refine pG (r12_Look_ok (⟨a0, a1, (0 : Int)⟩ : TSondageref12R) b8 67 .no x9 q9) Wl ((perm_at (j := 1) rfl).trans (List.Perm.cons _ Pf)) Pf ?_
    rintro _ _ _ ⟨rfl, rfl, rfl⟩
    refine pu ?_
    refine p_build (r := [.v (.string ByteArray.empty), .v (.bool false), .v (.int .i64 (0 : Int)), .v (.int .i64 x9.gAt)]) htab rfl rfl rfl rfl rfl rfl rfl rfl rfl ?_
    refine p_alloc htab rfl rfl rfl rfl rfl rfl rfl (fun b10 => ?_)
    refine pS2 (ds' := [.v (.string ByteArray.empty), .v (.bool false), .v (.int .i64 (0 : Int)), .v (.int .i64 x9.gAt)]) ?_
    refine ops_n2 ?_
    refine pu ?_
    obtain ⟨x11, q11, hm⟩ := yes_bind hm
    refine pG (r12_Eat_ok (⟨a0, a1, (0 : Int)⟩ : TSondageref12R) (ByteArray.mk #[105, 110, 116]) b8 67 .no x11 q11) Wl Pf Pf ?_
    rintro _ _ _ ⟨rfl, rfl, rfl⟩
    refine ops_n2 ?_
    refine pu ?_
    obtain ⟨x12, q12, hm⟩ := yes_bind hm
    refine pG (r13_may_ok x11 (ByteArray.mk #[42]) b8 67 .no x12 q12) Wl Pf Pf ?_
    rintro _ _ _ ⟨rfl, rfl, rfl⟩
    refine pu ?_
    refine pS2 (ds' := [.v (.string ByteArray.empty), .v (.bool x12.1), .v (.int .i64 (0 : Int)), .v (.int .i64 x9.gAt)]) ?_
    refine ops_n2 ?_
    refine pu ?_
    obtain ⟨x13, q13, hm⟩ := yes_bind hm
    refine pG (r12_Name_ok x12.2 b8 67 .no x13 q13) Wl Pf Pf ?_
    rintro _ _ _ ⟨rfl, rfl, rfl⟩
    refine pu ?_
    refine pS2 (ds' := [.v (.string x13.1), .v (.bool x12.1), .v (.int .i64 (0 : Int)), .v (.int .i64 x9.gAt)]) ?_
    refine ops_nt ?_
    refine wpD_seq ?_
    refine wpD_seq ?_
    obtain ⟨y16, q16, ho16⟩ := yes_bind hm
    refine wpD_mid (Y := Unit) (fun z16 => (⟨[(4, .ptr b1 0), (7, .ptr b8 0), (8, .ptr b10 0), (41, .v (.bool y16.1))], [(b8, Blk.cells [.lst 4 (y16.2.1.map eTApiToken) .no, .v (.int .i64 y16.2.2.1), .v (.int .i64 y16.2.2.2)] 67), (b1, Blk.cells [.v (.string ByteArray.empty), .v (.bool false), .v (.int .i64 (0 : Int)), .v (.int .i64 (0 : Int))] 39), (b10, Blk.cells [.v (.string x13.1), .v (.bool x12.1), .v (.int .i64 (0 : Int)), .v (.int .i64 x9.gAt)] 39)], []⟩ : S)) ?_ ?_
    ·clear hm; have hm := yes_of q16
     refine wpD_region ?_
     refine pu ?_
     refine pL 2 ?_
     refine pu ?_
     refine pu ?_
     refine p_split (i := 38) rfl (fun hg17 => ?_) (fun hg17 => ?_)
     ·replace hm := yes_t hg17 hm
      refine pu ?_
      obtain ⟨x18, q18, hm⟩ := yes_bind hm
      refine pG (r13_may_ok x13.2 (ByteArray.mk #[91]) b8 67 .no x18 q18) Wl Pf Pf ?_
      rintro _ _ _ ⟨rfl, rfl, rfl⟩
      refine p_pickT rfl rfl rfl rfl rfl rfl ?_
      refine ops_nil ?_
      have e16 := yes_eq hm; subst e16
      refine ⟨rfl, ?_⟩
      exact WkX.of () (WkS.perm (WkS.cons rfl (Wk.refl _) (WkS.cons rfl (Wk.refl _) (WkS.cons rfl (Wk.refl _) (WkS.cons rfl (Wk.refl _) (WkS.nil))))) Pf Pf)
     ·replace hm := yes_f hg17 hm
      refine pK ?_
      refine pK ?_
      refine p_pickF rfl rfl rfl rfl rfl rfl ?_
      refine ops_nil ?_
      have e16 := yes_eq hm; subst e16
      refine ⟨rfl, ?_⟩
      exact WkX.of () (WkS.perm (WkS.cons rfl (Wk.refl _) (WkS.cons rfl (Wk.refl _) (WkS.cons rfl (Wk.refl _) (WkS.cons rfl (Wk.refl _) (WkS.nil))))) Pf Pf)
    ·intro s16 hw16; clear hm; have hm := ho16; clear q16 ho16
     refine then_normal ?_
     refine wpD_wkX hw16 (fun z16 => ?_)
     obtain ⟨y43, q43, ho43⟩ := yes_bind hm
     refine wpD_mid (Y := Unit) (fun z43 => (⟨[(4, .ptr b1 0), (7, .ptr b8 0), (8, .ptr b10 0)], [(b8, Blk.cells [.lst 4 (y43.1.map eTApiToken) .no, .v (.int .i64 y43.2.1), .v (.int .i64 y43.2.2.1)] 67), (b1, Blk.cells [.v (.string ByteArray.empty), .v (.bool false), .v (.int .i64 (0 : Int)), .v (.int .i64 (0 : Int))] 39), (b10, Blk.cells [.v (.string x13.1), .v (.bool x12.1), .v (.int .i64 y43.2.2.2), .v (.int .i64 x9.gAt)] 39)], []⟩ : S)) ?_ ?_
     ·clear hm; have hm := yes_of q43
      refine wpD_cond rfl (fun hc44 => ?_) (fun hc44 => ?_)
      ·replace hm := yes_t hc44 hm
       refine wpD_sr ?_
       refine pu ?_
       obtain ⟨x45, q45, hm⟩ := yes_bind hm
       refine pG (r12_Look_ok (⟨y16.2.1, y16.2.2.1, y16.2.2.2⟩ : TSondageref12R) b8 67 .no x45 q45) Wl Pf Pf ?_
       rintro _ _ _ ⟨rfl, rfl, rfl⟩
       refine p_alloc htab rfl rfl rfl rfl rfl rfl rfl (fun b46 => ?_)
       refine pS3 (ds' := [.v (.int .i64 x45.gKind), .v (.string x45.gText), .v (.int .i64 x45.gN), .v (.int .i64 x45.gAt)]) ?_
       refine ops_nt ?_
       refine wpD_seq ?_
       refine wpD_sr ?_
       refine pu ?_
       refine pL 3 ?_
       refine pu ?_
       refine ops_nt ?_
       obtain ⟨y54, q54, ho54⟩ := yes_bind hm
       refine wpD_mid (Y := Unit) (fun z54 => (⟨[(4, .ptr b1 0), (7, .ptr b8 0), (8, .ptr b10 0), (9, .ptr b46 0)], [(b8, Blk.cells [.lst 4 (y54.1.map eTApiToken) .no, .v (.int .i64 y54.2.1), .v (.int .i64 y54.2.2)] 67), (b1, Blk.cells [.v (.string ByteArray.empty), .v (.bool false), .v (.int .i64 (0 : Int)), .v (.int .i64 (0 : Int))] 39), (b10, Blk.cells [.v (.string x13.1), .v (.bool x12.1), .v (.int .i64 (0 : Int)), .v (.int .i64 x9.gAt)] 39), (b46, Blk.cells [.v (.int .i64 x45.gKind), .v (.string x45.gText), .v (.int .i64 x45.gN), .v (.int .i64 x45.gAt)] 69)], []⟩ : S)) ?_ ?_
       ·clear hm; have hm := yes_of q54
        refine wpD_cond rfl (fun hc55 => ?_) (fun hc55 => ?_)
        ·replace hm := yes_t hc55 hm
         refine wpD_region ?_
         iterate 4 refine pu ?_
         refine pL 0 ?_
         obtain ⟨x56, q56, hm⟩ := yes_bind hm
         refine pG (r12_Fail_ok (⟨y16.2.1, y16.2.2.1, y16.2.2.2⟩ : TSondageref12R) y16.2.2.1 (3 : Int) b8 67 .no x56 q56) Wl Pf Pf ?_
         rintro _ _ _ ⟨rfl, rfl, rfl⟩
         refine ops_nil ?_
         have e54 := yes_eq hm; subst e54
         refine ⟨rfl, ?_⟩
         exact WkX.of () (WkS.perm (WkS.cons rfl (Wk.refl _) (WkS.cons rfl (Wk.refl _) (WkS.cons rfl (Wk.refl _) (WkS.cons rfl (Wk.refl _) (WkS.nil))))) Pf Pf)
        ·replace hm := yes_f hc55 hm
         refine wpD_seq ?_
         obtain ⟨y58, q58, ho58⟩ := yes_bind hm
         refine wpD_mid (Y := Unit) (fun z58 => (⟨[(4, .ptr b1 0), (7, .ptr b8 0), (8, .ptr b10 0), (9, .ptr b46 0), (60, .v (.bool y58))], [(b8, Blk.cells [.lst 4 (y16.2.1.map eTApiToken) .no, .v (.int .i64 y16.2.2.1), .v (.int .i64 y16.2.2.2)] 67), (b1, Blk.cells [.v (.string ByteArray.empty), .v (.bool false), .v (.int .i64 (0 : Int)), .v (.int .i64 (0 : Int))] 39), (b10, Blk.cells [.v (.string x13.1), .v (.bool x12.1), .v (.int .i64 (0 : Int)), .v (.int .i64 x9.gAt)] 39), (b46, Blk.cells [.v (.int .i64 x45.gKind), .v (.string x45.gText), .v (.int .i64 x45.gN), .v (.int .i64 x45.gAt)] 69)], []⟩ : S)) ?_ ?_
         ·clear hm; have hm := yes_of q58
          refine wpD_region ?_
          refine pu ?_
          refine pL 3 ?_
          refine pu ?_
          refine pu ?_
          refine p_split (i := 56) rfl (fun hg59 => ?_) (fun hg59 => ?_)
          ·replace hm := yes_t hg59 hm
           iterate 3 refine pK ?_
           refine p_pickT rfl rfl rfl rfl rfl rfl ?_
           refine ops_nil ?_
           have e58 := yes_eq hm; subst e58
           refine ⟨rfl, ?_⟩
           exact WkX.of () (WkS.perm (WkS.cons rfl (Wk.refl _) (WkS.cons rfl (Wk.refl _) (WkS.cons rfl (Wk.refl _) (WkS.cons rfl (Wk.refl _) (WkS.cons rfl (Wk.refl _) (WkS.nil)))))) Pf Pf)
          ·replace hm := yes_f hg59 hm
           refine pu ?_
           refine pL 3 ?_
           refine pu ?_
           refine p_pickF rfl rfl rfl rfl rfl rfl ?_
           refine ops_nil ?_
           have e58 := yes_eq hm; subst e58
           refine ⟨rfl, ?_⟩
           exact WkX.of () (WkS.perm (WkS.cons rfl (Wk.refl _) (WkS.cons rfl (Wk.refl _) (WkS.cons rfl (Wk.refl _) (WkS.cons rfl (Wk.refl _) (WkS.cons rfl (Wk.refl _) (WkS.nil)))))) Pf Pf)
         ·intro s58 hw58; clear hm; have hm := ho58; clear q58 ho58
          refine then_normal ?_
          refine wpD_wkX hw58 (fun z58 => ?_)
          obtain ⟨y62, q62, ho62⟩ := yes_bind hm
          refine wpD_mid (Y := Unit) (fun z62 => (⟨[(4, .ptr b1 0), (7, .ptr b8 0), (8, .ptr b10 0), (9, .ptr b46 0)], [(b8, Blk.cells [.lst 4 (y62.1.map eTApiToken) .no, .v (.int .i64 y62.2.1), .v (.int .i64 y62.2.2)] 67), (b1, Blk.cells [.v (.string ByteArray.empty), .v (.bool false), .v (.int .i64 (0 : Int)), .v (.int .i64 (0 : Int))] 39), (b10, Blk.cells [.v (.string x13.1), .v (.bool x12.1), .v (.int .i64 (0 : Int)), .v (.int .i64 x9.gAt)] 39), (b46, Blk.cells [.v (.int .i64 x45.gKind), .v (.string x45.gText), .v (.int .i64 x45.gN), .v (.int .i64 x45.gAt)] 69)], []⟩ : S)) ?_ ?_
          ·clear hm; have hm := yes_of q62
           refine wpD_cond rfl (fun hc63 => ?_) (fun hc63 => ?_)
           ·replace hm := yes_t hc63 hm
            refine wpD_region ?_
            iterate 4 refine pu ?_
            refine pL 0 ?_
            obtain ⟨x64, q64, hm⟩ := yes_bind hm
            refine pG (r12_Fail_ok (⟨y16.2.1, y16.2.2.1, y16.2.2.2⟩ : TSondageref12R) y16.2.2.1 (4 : Int) b8 67 .no x64 q64) Wl Pf Pf ?_
            rintro _ _ _ ⟨rfl, rfl, rfl⟩
            refine ops_nil ?_
            have e62 := yes_eq hm; subst e62
            refine ⟨rfl, ?_⟩
            exact WkX.of () (WkS.perm (WkS.cons rfl (Wk.refl _) (WkS.cons rfl (Wk.refl _) (WkS.cons rfl (Wk.refl _) (WkS.cons rfl (Wk.refl _) (WkS.nil))))) Pf Pf)
           ·replace hm := yes_f hc63 hm
            refine wpD_skip ?_
            have e62 := yes_eq hm; subst e62
            refine ⟨rfl, ?_⟩
            exact WkX.of () (WkS.perm (WkS.cons rfl (Wk.refl _) (WkS.cons rfl (Wk.refl _) (WkS.cons rfl (Wk.refl _) (WkS.cons rfl (Wk.refl _) (WkS.nil))))) Pf Pf)
          ·intro s62 hw62; clear hm; have hm := ho62; clear q62 ho62
           have e54 := yes_eq hm; subst e54
           refine ⟨rfl, ?_⟩
           refine WkX.trans hw62 (fun z62 => ?_)
           exact WkX.of () (WkS.perm (WkS.cons rfl (Wk.refl _) (WkS.cons rfl (Wk.refl _) (WkS.cons rfl (Wk.refl _) (WkS.cons rfl (Wk.refl _) (WkS.nil))))) Pf Pf)
       ·intro s54 hw54; clear hm; have hm := ho54; clear q54 ho54
        refine then_normal ?_
        refine wpD_wkX hw54 (fun z54 => ?_)
        refine wpD_seq ?_
        refine wpD_sr ?_
        iterate 3 refine pu ?_
        refine pL 0 ?_
        refine pu ?_
        refine ops_nt ?_
        obtain ⟨y66, q66, ho66⟩ := yes_bind hm
        refine wpD_mid (Y := Unit) (fun z66 => (⟨[(4, .ptr b1 0), (7, .ptr b8 0), (8, .ptr b10 0)], [(b8, Blk.cells [.lst 4 (y54.1.map eTApiToken) .no, .v (.int .i64 y66.1), .v (.int .i64 y54.2.2)] 67), (b1, Blk.cells [.v (.string ByteArray.empty), .v (.bool false), .v (.int .i64 (0 : Int)), .v (.int .i64 (0 : Int))] 39), (b10, Blk.cells [.v (.string x13.1), .v (.bool x12.1), .v (.int .i64 y66.2), .v (.int .i64 x9.gAt)] 39)], []⟩ : S)) ?_ ?_
        ·clear hm; have hm := yes_of q66
         refine wpD_cond rfl (fun hc67 => ?_) (fun hc67 => ?_)
         ·replace hm := yes_t hc67 hm
          refine wpD_sr ?_
          refine pu ?_
          refine pL 3 ?_
          refine pu ?_
          refine pS2 (ds' := [.v (.string x13.1), .v (.bool x12.1), .v (.int .i64 x45.gN), .v (.int .i64 x9.gAt)]) ?_
          refine ops_nt ?_
          refine wpD_region ?_
          iterate 3 refine pu ?_
          refine pL 0 ?_
          iterate 3 refine pu ?_
          refine pS0 (ds' := [.lst 4 (y54.1.map eTApiToken) .no, .v (.int .i64 (IntKind.i64.wrap (y54.2.1 + (1 : Int)))), .v (.int .i64 y54.2.2)]) ?_
          refine ops_nil ?_
          have e66 := yes_eq hm; subst e66
          refine ⟨rfl, ?_⟩
          exact WkX.of () (WkS.perm (WkS.cons rfl (Wk.refl _) (WkS.cons rfl (Wk.refl _) (WkS.cons rfl (Wk.refl _) (WkS.nil)))) Pf Pf)
         ·replace hm := yes_f hc67 hm
          refine wpD_skip ?_
          have e66 := yes_eq hm; subst e66
          refine ⟨rfl, ?_⟩
          exact WkX.of () (WkS.perm (WkS.cons rfl (Wk.refl _) (WkS.cons rfl (Wk.refl _) (WkS.cons rfl (Wk.refl _) (WkS.nil)))) Pf Pf)
        ·intro s66 hw66; clear hm; have hm := ho66; clear q66 ho66
         refine then_normal ?_
         refine wpD_wkX hw66 (fun z66 => ?_)
         refine wpD_region ?_
         refine pu ?_
         obtain ⟨x68, q68, hm⟩ := yes_bind hm
         refine pG (r12_Eat_ok (⟨y54.1, y66.1, y54.2.2⟩ : TSondageref12R) (ByteArray.mk #[93]) b8 67 .no x68 q68) Wl Pf Pf ?_
         rintro _ _ _ ⟨rfl, rfl, rfl⟩
         refine ops_nil ?_
         have e43 := yes_eq hm; subst e43
         refine ⟨rfl, ?_⟩
         exact WkX.of () (WkS.perm (WkS.cons rfl (Wk.refl _) (WkS.cons rfl (Wk.refl _) (WkS.cons rfl (Wk.refl _) (WkS.nil)))) Pf Pf)
      ·replace hm := yes_f hc44 hm
       refine wpD_skip ?_
       have e43 := yes_eq hm; subst e43
       refine ⟨rfl, ?_⟩
       exact WkX.of () (WkS.perm (WkS.cons rfl (Wk.refl _) (WkS.cons rfl (Wk.refl _) (WkS.cons rfl (Wk.refl _) (WkS.nil)))) Pf Pf)
     ·intro s43 hw43; clear hm; have hm := ho43; clear q43 ho43
      refine then_normal ?_
      refine wpD_wkX hw43 (fun z43 => ?_)
      refine wpD_sr ?_
      refine pu ?_
      obtain ⟨x69, q69, hm⟩ := yes_bind hm
      refine pG (r12_Eat_ok (⟨y43.1, y43.2.1, y43.2.2.1⟩ : TSondageref12R) (ByteArray.mk #[59]) b8 67 .no x69 q69) Wl Pf Pf ?_
      rintro _ _ _ ⟨rfl, rfl, rfl⟩
      refine ops_nt ?_
      refine wpD_seq ?_
      refine wpD_sr ?_
      iterate 3 refine pu ?_
      refine pL 0 ?_
      refine pu ?_
      refine ops_nt ?_
      refine wpD_cond rfl (fun hc72 => ?_) (fun hc72 => ?_)
      ·replace hm := yes_t hc72 hm
       refine wpD_seq ?_
       refine wpD_store 11 [] [[],[],[1],[1,2],[1,2,3],[],[5],[5,6],[5,6,7],[0],[0,1,2,3,4,9]] [0,1,2,3,4,5,6,7,8,9] [[],[],[1],[1,2],[1,2,3],[],[5],[5,6],[5,6,7],[0],[0,1,2,3,4,9],[0,1,2,3,4,5,6,7,8,9,10]] 9 (by kernel_rfl) (by kernel_rfl) (by kernel_rfl) (by rfl) (by rfl) (by kernel_rfl) ?_
       refine ⟨[(b8, Blk.cells [.lst 4 (x69.gL.map eTApiToken) .no, .v (.int .i64 x69.gAt), .v (.int .i64 x69.gE)] 67), (b1, Blk.cells [.v (.string ByteArray.empty), .v (.bool false), .v (.int .i64 (0 : Int)), .v (.int .i64 (0 : Int))] 39), (b10, Blk.cells [.v (.string x13.1), .v (.bool x12.1), .v (.int .i64 y43.2.2.2), .v (.int .i64 x9.gAt)] 39)], ?_⟩
       iterate 9 apply Exists.intro
       refine ⟨.any, ?_⟩
       intro bs v73
       refine zh_e rfl rfl (x_build (r := [.v (.string ByteArray.empty), .v (.bool false), .v (.int .i64 (0 : Int)), .v (.int .i64 (0 : Int))]) htab rfl rfl rfl rfl rfl rfl) rfl rfl rfl rfl rfl rfl rfl rfl ?_
       iterate 3 refine zh_e rfl rfl (ex_pure htab rfl) rfl rfl rfl rfl rfl rfl rfl rfl ?_
       refine zh_M rfl rfl (fun _ => xm_load 0 htab rfl rfl rfl rfl rfl) (fun _ => xm_load 0 htab rfl rfl rfl rfl rfl) rfl rfl rfl rfl rfl rfl rfl rfl ?_
       iterate 3 refine zh_e rfl rfl (ex_pure htab rfl) rfl rfl rfl rfl rfl rfl rfl rfl ?_
       refine zh_M rfl rfl (fun _ => xm_load 0 htab rfl rfl rfl rfl rfl) (fun _ => xm_load 0 htab rfl rfl rfl rfl rfl) rfl rfl rfl rfl rfl rfl rfl rfl ?_
       refine zh_store 1 htab rfl rfl rfl rfl rfl rfl rfl rfl rfl rfl rfl rfl rfl rfl rfl rfl ?_
       refine zh_q rfl rfl (ex_pure htab rfl) rfl rfl rfl rfl rfl rfl ?_
       refine zh_nil rfl rfl rfl rfl (fun e he => by simp [isAl] at he) ?_
       refine pu ?_
       refine ops_nt ?_
       refine wpD_ret ?_
       refine then_ret ?_
       have er74 := yes_eq hm; subst er74
       refine rP (t' := [(4, .ptr b1 0), (5, .v (.int .i64 x69.gAt)), (6, .v (.int .i64 x69.gE))]) [1] [] 0 (wC (wC (wC wN))) (lC 0 (lT (lT lN))) ?_
       exact ⟨rfl, rfl, rfl⟩
      ·replace hm := yes_f hc72 hm
       refine wpD_skip ?_
       refine then_normal ?_
       refine wpD_seq ?_
       refine wpD_store 6 [] [[],[],[1],[1,2],[1,2,3],[0]] [0,1,2,3,4,5] [[],[],[1],[1,2],[1,2,3],[0],[0,1,2,3,4,5],[0,1,2,3,4,5,6]] 5 (by kernel_rfl) (by kernel_rfl) (by kernel_rfl) (by rfl) (by rfl) (by kernel_rfl) ?_
       refine ⟨[(b8, Blk.cells [.lst 4 (x69.gL.map eTApiToken) .no, .v (.int .i64 x69.gAt), .v (.int .i64 x69.gE)] 67), (b1, Blk.cells [.v (.string x13.1), .v (.bool x12.1), .v (.int .i64 y43.2.2.2), .v (.int .i64 x9.gAt)] 39), (b10, Blk.cells [.v (.string x13.1), .v (.bool x12.1), .v (.int .i64 y43.2.2.2), .v (.int .i64 x9.gAt)] 39)], ?_⟩
       iterate 5 apply Exists.intro
       refine ⟨.any, ?_⟩
       intro bs v75
       refine zh_M rfl rfl (fun _ => xm_load (d := eTApiGlobal (⟨x13.1, x12.1, y43.2.2.2, x9.gAt⟩ : TApiGlobal)) 2 htab rfl rfl rfl rfl rfl) (offB rfl) rfl rfl rfl rfl rfl rfl rfl rfl ?_
       iterate 3 refine zh_e rfl rfl (ex_pure htab rfl) rfl rfl rfl rfl rfl rfl rfl rfl ?_
       refine zh_M rfl rfl (fun _ => xm_load 0 htab rfl rfl rfl rfl rfl) (fun _ => xm_load 0 htab rfl rfl rfl rfl rfl) rfl rfl rfl rfl rfl rfl rfl rfl ?_
       refine zh_store 1 htab rfl rfl rfl rfl rfl rfl rfl rfl rfl rfl rfl rfl rfl rfl rfl rfl ?_
       refine zh_nil rfl rfl rfl rfl (fun e he => by simp [isAl] at he) ?_
       refine pu ?_
       refine pu ?_
       refine ops_nt ?_
       refine wpD_ret ?_
       have er76 := yes_eq hm; subst er76
       refine rP (t' := [(4, .ptr b1 0), (5, .v (.int .i64 x69.gAt)), (6, .v (.int .i64 (0 : Int)))]) [1] [] 0 (wC (wC (wC wN))) (lC 0 (lT (lT lN))) ?_
       exact ⟨rfl, rfl, rfl⟩
noncomputable def grammar_text_api_Global (a0 : List UInt8) : Option (TApiGlobal × Int × Int) :=
  ((token_Read a0).bind fun x4 => (bif (x4.2.2 != (0 : Int)) then some ((⟨ByteArray.empty, false, (0 : Int), (0 : Int)⟩ : TApiGlobal), x4.2.1, x4.2.2) else ((grammar_Global x4.1 (0 : Int)).bind fun x8 => ((idx x4.1 (min x8.2.1 (IntKind.i64.wrap ((x4.1.length : Int) - (1 : Int))))).bind fun x10 => (bif (x8.2.2 != (0 : Int)) then some ((⟨ByteArray.empty, false, (0 : Int), (0 : Int)⟩ : TApiGlobal), x10.gAt, x8.2.2) else (bif (x10.gKind != (0 : Int)) then some ((⟨ByteArray.empty, false, (0 : Int), (0 : Int)⟩ : TApiGlobal), x10.gAt, (3 : Int)) else some (x8.1, (0 : Int), (0 : Int))))))))
set_option maxRecDepth 100000 in
set_option maxHeartbeats 2000000 in
theorem grammar_text_api_Global_ok (a0 : List UInt8) (r : TApiGlobal × Int × Int) (h0 : grammar_text_api_Global a0 = some r) : CallsD Try.prog 36 [.lst 1 (a0.map byteD) .no, .fn (.func 12) [] []] [] [] (fun d h k => d = .tup [eTApiGlobal r.1, .v (.int .i64 r.2.1), .v (.int .i64 r.2.2)] ∧ h = [] ∧ k = []) := by
  have hm := yes_of h0
  unfold grammar_text_api_Global at hm
  clear h0
  refine enterX htab Try.func36 rfl rfl rfl rfl rfl (fun C => ?_)
  refine wpD_sr ?_
  refine p_alloc htab rfl rfl rfl rfl rfl rfl rfl (fun b1 => ?_)
  refine pu ?_
  refine pu ?_
  refine ops_n2 ?_
  refine p_alloc htab rfl rfl rfl rfl rfl rfl rfl (fun b2 => ?_)
  refine ops_n2 ?_
  refine pu ?_
  obtain ⟨x4, q4, hm⟩ := yes_bind hm
  refine pG (token_Read_ok a0 x4 q4) Wl Pf Pf ?_
  rintro _ _ _ ⟨w3, rfl, rfl, rfl⟩
  iterate 7 refine pu ?_
  refine ops_nt ?_
  refine wpD_seq ?_
  refine wpD_sr ?_
  refine pu ?_
  refine pu ?_
  refine ops_nt ?_
  refine wpD_cond rfl (fun hc6 => ?_) (fun hc6 => ?_)
  ·replace hm := yes_t hc6 hm
   refine wpD_sr ?_
   refine p_load (d := eTApiGlobal (⟨ByteArray.empty, false, (0 : Int), (0 : Int)⟩ : TApiGlobal)) 1 htab rfl rfl rfl rfl rfl rfl rfl rfl ?_
   refine pu ?_
   refine pu ?_
   refine pS0 (ds' := [.v (.string ByteArray.empty), .v (.bool false), .v (.int .i64 (0 : Int)), .v (.int .i64 (0 : Int))]) ?_
   refine pu ?_
   refine pu ?_
   refine ops_nt ?_
   refine wpD_ret ?_
   refine then_ret ?_
   have er7 := yes_eq hm; subst er7
   refine rP (t' := [(4, .ptr b1 0), (5, .v (.int .i64 x4.2.1)), (6, .v (.int .i64 x4.2.2))]) [0] [] 0 (wC (wC (wC wN))) (lC 0 (lT (lT lN))) ?_
   exact ⟨rfl, rfl, rfl⟩
  ·replace hm := yes_f hc6 hm
   refine wpD_skip ?_
   refine then_normal ?_
   refine wpD_sr ?_
   refine pu ?_
   refine pu ?_
   obtain ⟨x8, q8, hm⟩ := yes_bind hm
   refine p_callV0 (grammar_Global_ok x4.1 (0 : Int) x8 q8) rfl rfl rfl rfl rfl rfl rfl (WkL.cons (Wk.no) (WkL.cons (Wk.refl _) Wl)) ?_
   rintro _ rfl
   iterate 4 refine pu ?_
   refine p_alloc htab rfl rfl rfl rfl rfl rfl rfl (fun b9 => ?_)
   refine pS2 (ds' := [.v (.string x8.1.gName), .v (.bool x8.1.gPtr), .v (.int .i64 x8.1.gSize), .v (.int .i64 x8.1.gAt)]) ?_
   refine pu ?_
   refine pu ?_
   refine ops_n2 ?_
   iterate 3 refine pu ?_
   refine p_lenL htab rfl rfl rfl rfl rfl rfl rfl (by first | exact map_len | rfl) ?_
   refine pu ?_
   refine p_min rfl rfl rfl rfl rfl rfl ?_
   obtain ⟨x10, q10, hm⟩ := yes_bind hm
   refine p_elem htab rfl rfl rfl rfl rfl rfl rfl rfl rfl rfl (idx_nonneg q10) (idx_map q10) ?_
   refine p_loadEl (d := eTApiToken x10) htab rfl rfl rfl rfl rfl rfl rfl rfl ?_
   refine p_alloc htab rfl rfl rfl rfl rfl rfl rfl (fun b11 => ?_)
   refine pS3 (ds' := [.v (.int .i64 x10.gKind), .v (.string x10.gText), .v (.int .i64 x10.gN), .v (.int .i64 x10.gAt)]) ?_
   refine ops_nt ?_
   refine wpD_seq ?_
   refine wpD_block ?_
   refine wpD_sr ?_
   iterate 3 refine pu ?_
   refine ops_nt ?_
   refine wpD_cond rfl (fun hc20 => ?_) (fun hc20 => ?_)
   ·replace hm := yes_t hc20 hm
    refine wpD_seq ?_
    refine wpD_store 6 [] [[],[],[1],[],[0],[0,1,2,4]] [0,1,2,4] [[],[],[1],[],[0],[0,1,2,4],[0,1,2,3,4,5]] 4 (by kernel_rfl) (by kernel_rfl) (by kernel_rfl) (by rfl) (by rfl) (by kernel_rfl) ?_
    refine ⟨[(b1, Blk.cells [.v (.string ByteArray.empty), .v (.bool false), .v (.int .i64 (0 : Int)), .v (.int .i64 (0 : Int))] 39), (b2, Blk.cells [.v (.string ByteArray.empty), .v (.bool false), .v (.int .i64 (0 : Int)), .v (.int .i64 (0 : Int))] 39), (b9, Blk.cells [.v (.string x8.1.gName), .v (.bool x8.1.gPtr), .v (.int .i64 x8.1.gSize), .v (.int .i64 x8.1.gAt)] 39), (b11, Blk.cells [.v (.int .i64 x10.gKind), .v (.string x10.gText), .v (.int .i64 x10.gN), .v (.int .i64 x10.gAt)] 69)], ?_⟩
    iterate 3 apply Exists.intro
    refine ⟨.any, ?_⟩
    intro bs v21
    refine zh_M rfl rfl (fun _ => xm_load (d := eTApiGlobal (⟨ByteArray.empty, false, (0 : Int), (0 : Int)⟩ : TApiGlobal)) 1 htab rfl rfl rfl rfl rfl) (offB rfl) rfl rfl rfl rfl rfl rfl rfl rfl ?_
    refine zh_e rfl rfl (ex_pure htab rfl) rfl rfl rfl rfl rfl rfl rfl rfl ?_
    refine zh_M rfl rfl (fun _ => xm_load 3 htab rfl rfl rfl rfl rfl) (fun _ => xm_load 3 htab rfl rfl rfl rfl rfl) rfl rfl rfl rfl rfl rfl rfl rfl ?_
    refine zh_q rfl rfl (ex_pure htab rfl) rfl rfl rfl rfl rfl rfl ?_
    refine zh_store 0 htab rfl rfl rfl rfl rfl rfl rfl rfl rfl rfl rfl rfl rfl rfl rfl rfl ?_
    refine zh_q rfl rfl (ex_pure htab rfl) rfl rfl rfl rfl rfl rfl ?_
    refine zh_nil rfl rfl rfl rfl (fun e he => by simp [isAl] at he) ?_
    refine pu ?_
    refine ops_nt ?_
    refine wpD_ret ?_
    refine block_ret ?_
    refine then_ret ?_
    have er22 := yes_eq hm; subst er22
    refine rP (t' := [(4, .ptr b1 0), (5, .v (.int .i64 x10.gAt)), (6, .v (.int .i64 x8.2.2))]) [0] [] 0 (wC (wC (wC wN))) (lC 0 (lT (lT lN))) ?_
    exact ⟨rfl, rfl, rfl⟩
   ·replace hm := yes_f hc20 hm
    refine wpD_sr ?_
    refine pu ?_
    refine pL 3 ?_
    refine pu ?_
    refine pu ?_
    refine ops_nt ?_
    refine wpD_cond rfl (fun hc25 => ?_) (fun hc25 => ?_)
    ·replace hm := yes_t hc25 hm
     refine wpD_seq ?_
     refine wpD_store 4 [] [[],[],[1],[0]] [0,1,2,3] [[],[],[1],[0],[0,1,2,3],[0,1,2,3,4]] 3 (by kernel_rfl) (by kernel_rfl) (by kernel_rfl) (by rfl) (by rfl) (by kernel_rfl) ?_
     refine ⟨[(b1, Blk.cells [.v (.string ByteArray.empty), .v (.bool false), .v (.int .i64 (0 : Int)), .v (.int .i64 (0 : Int))] 39), (b2, Blk.cells [.v (.string ByteArray.empty), .v (.bool false), .v (.int .i64 (0 : Int)), .v (.int .i64 (0 : Int))] 39), (b9, Blk.cells [.v (.string x8.1.gName), .v (.bool x8.1.gPtr), .v (.int .i64 x8.1.gSize), .v (.int .i64 x8.1.gAt)] 39), (b11, Blk.cells [.v (.int .i64 x10.gKind), .v (.string x10.gText), .v (.int .i64 x10.gN), .v (.int .i64 x10.gAt)] 69)], ?_⟩
     iterate 3 apply Exists.intro
     refine ⟨.any, ?_⟩
     intro bs v26
     refine zh_M rfl rfl (fun _ => xm_load (d := eTApiGlobal (⟨ByteArray.empty, false, (0 : Int), (0 : Int)⟩ : TApiGlobal)) 1 htab rfl rfl rfl rfl rfl) (offB rfl) rfl rfl rfl rfl rfl rfl rfl rfl ?_
     refine zh_e rfl rfl (ex_pure htab rfl) rfl rfl rfl rfl rfl rfl rfl rfl ?_
     refine zh_M rfl rfl (fun _ => xm_load 3 htab rfl rfl rfl rfl rfl) (fun _ => xm_load 3 htab rfl rfl rfl rfl rfl) rfl rfl rfl rfl rfl rfl rfl rfl ?_
     refine zh_store 0 htab rfl rfl rfl rfl rfl rfl rfl rfl rfl rfl rfl rfl rfl rfl rfl rfl ?_
     refine zh_nil rfl rfl rfl rfl (fun e he => by simp [isAl] at he) ?_
     refine pu ?_
     refine pu ?_
     refine ops_nt ?_
     refine wpD_ret ?_
     refine block_ret ?_
     refine then_ret ?_
     have er27 := yes_eq hm; subst er27
     refine rP (t' := [(4, .ptr b1 0), (5, .v (.int .i64 x10.gAt)), (6, .v (.int .i64 (3 : Int)))]) [0] [] 0 (wC (wC (wC wN))) (lC 0 (lT (lT lN))) ?_
     exact ⟨rfl, rfl, rfl⟩
    ·replace hm := yes_f hc25 hm
     refine wpD_skip ?_
     refine block_normal ?_
     refine then_normal ?_
     refine wpD_sr ?_
     refine p_load (d := eTApiGlobal x8.1) 2 htab rfl rfl rfl rfl rfl rfl rfl rfl ?_
     refine pS0 (ds' := [.v (.string x8.1.gName), .v (.bool x8.1.gPtr), .v (.int .i64 x8.1.gSize), .v (.int .i64 x8.1.gAt)]) ?_
     refine pu ?_
     refine pu ?_
     refine ops_nt ?_
     refine wpD_ret ?_
     have er28 := yes_eq hm; subst er28
     refine rP (t' := [(4, .ptr b1 0), (5, .v (.int .i64 (0 : Int))), (6, .v (.int .i64 (0 : Int)))]) [0] [] 0 (wC (wC (wC wN))) (lC 0 (lT (lT lN))) ?_
     exact ⟨rfl, rfl, rfl⟩
noncomputable def grammar_GlobalText (a0 : List UInt8) : Option (TApiGlobal × Int × Int) :=
  ((grammar_text_api_Global a0).bind fun x2 => some (x2.1, x2.2.1, x2.2.2))
set_option maxRecDepth 100000 in
set_option maxHeartbeats 2000000 in
theorem grammar_GlobalText_ok (a0 : List UInt8) (r : TApiGlobal × Int × Int) (h0 : grammar_GlobalText a0 = some r) : CallsD Try.prog 14 [.lst 1 (a0.map byteD) .no] [] [] (fun d h k => d = .tup [eTApiGlobal r.1, .v (.int .i64 r.2.1), .v (.int .i64 r.2.2)] ∧ h = [] ∧ k = []) := by
  have hm := yes_of h0
  unfold grammar_GlobalText at hm
  clear h0
  refine enterX htab Try.func14 rfl rfl rfl rfl rfl (fun C => ?_)
  refine wpD_sr ?_
  refine p_alloc htab rfl rfl rfl rfl rfl rfl rfl (fun b1 => ?_)
  refine pu ?_
  refine pu ?_
  refine ops_n2 ?_
  refine pu ?_
  obtain ⟨x2, q2, hm⟩ := yes_bind hm
  refine p_call0 (grammar_text_api_Global_ok a0 x2 q2) rfl rfl rfl rfl rfl Wl ?_
  rintro _ rfl
  iterate 3 refine pu ?_
  refine pS0 (ds' := [.v (.string x2.1.gName), .v (.bool x2.1.gPtr), .v (.int .i64 x2.1.gSize), .v (.int .i64 x2.1.gAt)]) ?_
  refine pu ?_
  refine pu ?_
  refine ops_nt ?_
  refine wpD_ret ?_
  have er3 := yes_eq hm; subst er3
  refine rP (t' := [(2, .ptr b1 0), (3, .v (.int .i64 x2.2.1)), (4, .v (.int .i64 x2.2.2))]) [0] [] 0 (wC (wC (wC wN))) (lC 0 (lT (lT lN))) ?_
  exact ⟨rfl, rfl, rfl⟩
noncomputable def r13_GlobalText (a0 : List UInt8) : Option (TApiGlobal × Int × Int) :=
  ((r10_Read a0).bind fun x3 => (bif (x3.2.2 != (0 : Int)) then some ((⟨ByteArray.empty, false, (0 : Int), (0 : Int)⟩ : TApiGlobal), x3.2.1, x3.2.2) else ((r13_Global x3.1 (0 : Int)).bind fun x7 => ((r13_place x3.1 a0 x7.2.1 x7.2.2).bind fun x9 => (bif (x9.2 != (0 : Int)) then some ((⟨ByteArray.empty, false, (0 : Int), (0 : Int)⟩ : TApiGlobal), x9.1, x9.2) else some (x7.1, (0 : Int), (0 : Int)))))))
set_option maxRecDepth 100000 in
set_option maxHeartbeats 2000000 in
theorem r13_GlobalText_ok (a0 : List UInt8) (r : TApiGlobal × Int × Int) (h0 : r13_GlobalText a0 = some r) : CallsD Try.prog 15 [.lst 1 (a0.map byteD) .no] [] [] (fun d h k => d = .tup [eTApiGlobal r.1, .v (.int .i64 r.2.1), .v (.int .i64 r.2.2)] ∧ h = [] ∧ k = []) := by
  have hm := yes_of h0
  unfold r13_GlobalText at hm
  clear h0
  refine enterX htab Try.func15 rfl rfl rfl rfl rfl (fun C => ?_)
  refine wpD_sr ?_
  refine p_alloc htab rfl rfl rfl rfl rfl rfl rfl (fun b1 => ?_)
  refine pu ?_
  refine pu ?_
  refine ops_n2 ?_
  refine pu ?_
  obtain ⟨x3, q3, hm⟩ := yes_bind hm
  refine pG (r10_Read_ok a0 x3 q3) Wl Pf Pf ?_
  rintro _ _ _ ⟨w2, rfl, rfl, rfl⟩
  iterate 7 refine pu ?_
  refine ops_nt ?_
  refine wpD_seq ?_
  refine wpD_sr ?_
  refine pu ?_
  refine pu ?_
  refine ops_nt ?_
  refine wpD_cond rfl (fun hc5 => ?_) (fun hc5 => ?_)
  ·replace hm := yes_t hc5 hm
   refine wpD_sr ?_
   refine p_build (r := [.v (.string ByteArray.empty), .v (.bool false), .v (.int .i64 (0 : Int)), .v (.int .i64 (0 : Int))]) htab rfl rfl rfl rfl rfl rfl rfl rfl rfl ?_
   refine pu ?_
   refine pu ?_
   refine pS0 (ds' := [.v (.string ByteArray.empty), .v (.bool false), .v (.int .i64 (0 : Int)), .v (.int .i64 (0 : Int))]) ?_
   refine pu ?_
   refine pu ?_
   refine ops_nt ?_
   refine wpD_ret ?_
   refine then_ret ?_
   have er6 := yes_eq hm; subst er6
   refine rP (t' := [(2, .ptr b1 0), (3, .v (.int .i64 x3.2.1)), (4, .v (.int .i64 x3.2.2))]) [0] [] 0 (wC (wC (wC wN))) (lC 0 (lT (lT lN))) ?_
   exact ⟨rfl, rfl, rfl⟩
  ·replace hm := yes_f hc5 hm
   refine wpD_skip ?_
   refine then_normal ?_
   refine wpD_sr ?_
   refine pu ?_
   obtain ⟨x7, q7, hm⟩ := yes_bind hm
   refine p_call0 (r13_Global_ok x3.1 (0 : Int) x7 q7) rfl rfl rfl rfl rfl (WkL.cons (Wk.no) (WkL.cons (Wk.refl _) Wl)) ?_
   rintro _ rfl
   iterate 4 refine pu ?_
   refine p_alloc htab rfl rfl rfl rfl rfl rfl rfl (fun b8 => ?_)
   refine pS1 (ds' := [.v (.string x7.1.gName), .v (.bool x7.1.gPtr), .v (.int .i64 x7.1.gSize), .v (.int .i64 x7.1.gAt)]) ?_
   refine pu ?_
   refine pu ?_
   refine ops_n2 ?_
   iterate 4 refine pu ?_
   obtain ⟨x9, q9, hm⟩ := yes_bind hm
   refine p_call0 (r13_place_ok x3.1 a0 x7.2.1 x7.2.2 x9 q9) rfl rfl rfl rfl rfl (WkL.cons (Wk.no) (WkL.cons (Wk.refl _) (WkL.cons (Wk.refl _) (WkL.cons (Wk.refl _) Wl)))) ?_
   rintro _ rfl
   iterate 5 refine pu ?_
   refine ops_nt ?_
   refine wpD_seq ?_
   refine wpD_sr ?_
   refine pu ?_
   refine pu ?_
   refine ops_nt ?_
   refine wpD_cond rfl (fun hc11 => ?_) (fun hc11 => ?_)
   ·replace hm := yes_t hc11 hm
    refine wpD_sr ?_
    refine p_build (r := [.v (.string ByteArray.empty), .v (.bool false), .v (.int .i64 (0 : Int)), .v (.int .i64 (0 : Int))]) htab rfl rfl rfl rfl rfl rfl rfl rfl rfl ?_
    refine pu ?_
    refine pu ?_
    refine pS0 (ds' := [.v (.string ByteArray.empty), .v (.bool false), .v (.int .i64 (0 : Int)), .v (.int .i64 (0 : Int))]) ?_
    refine pu ?_
    refine pu ?_
    refine ops_nt ?_
    refine wpD_ret ?_
    refine then_ret ?_
    have er12 := yes_eq hm; subst er12
    refine rP (t' := [(2, .ptr b1 0), (3, .v (.int .i64 x9.1)), (4, .v (.int .i64 x9.2))]) [0] [] 0 (wC (wC (wC wN))) (lC 0 (lT (lT lN))) ?_
    exact ⟨rfl, rfl, rfl⟩
   ·replace hm := yes_f hc11 hm
    refine wpD_skip ?_
    refine then_normal ?_
    refine wpD_sr ?_
    refine p_load (d := eTApiGlobal x7.1) 1 htab rfl rfl rfl rfl rfl rfl rfl rfl ?_
    refine pS0 (ds' := [.v (.string x7.1.gName), .v (.bool x7.1.gPtr), .v (.int .i64 x7.1.gSize), .v (.int .i64 x7.1.gAt)]) ?_
    refine pu ?_
    refine pu ?_
    refine ops_nt ?_
    refine wpD_ret ?_
    have er13 := yes_eq hm; subst er13
    refine rP (t' := [(2, .ptr b1 0), (3, .v (.int .i64 (0 : Int))), (4, .v (.int .i64 (0 : Int)))]) [0] [] 0 (wC (wC (wC wN))) (lC 0 (lT (lT lN))) ?_
    exact ⟨rfl, rfl, rfl⟩
noncomputable def l13_GrammarGlobals (a0 : List UInt8) : Option (Bool) :=
  ((grammar_GlobalText a0).bind fun x1 => ((r13_GlobalText a0).bind fun x3 => (bif (decide (x1.1.gName = x3.1.gName) && (x1.1.gPtr == x3.1.gPtr && (x1.1.gSize == x3.1.gSize && (x1.1.gAt == x3.1.gAt && true)))) then (bif (x1.2.1 == x3.2.1) then (bif (x1.2.2 == x3.2.2) then (l13_lives.bind fun x8 => some x8) else some false) else some false) else some false)))
set_option maxRecDepth 100000 in
set_option maxHeartbeats 2000000 in
theorem l13_GrammarGlobals_ok (a0 : List UInt8) (r : Bool) (h0 : l13_GrammarGlobals a0 = some r) : CallsD Try.prog 5 [.lst 1 (a0.map byteD) .no] [] [] (fun d h k => d = .v (.bool r) ∧ h = [] ∧ k = []) := by
  have hm := yes_of h0
  unfold l13_GrammarGlobals at hm
  clear h0
  refine enterX htab Try.func5 rfl rfl rfl rfl rfl (fun C => ?_)
  refine wpD_sr ?_
  refine pu ?_
  refine ops_n2 ?_
  refine pu ?_
  obtain ⟨x1, q1, hm⟩ := yes_bind hm
  refine p_call0 (grammar_GlobalText_ok a0 x1 q1) rfl rfl rfl rfl rfl Wl ?_
  rintro _ rfl
  iterate 4 refine pu ?_
  refine p_alloc htab rfl rfl rfl rfl rfl rfl rfl (fun b2 => ?_)
  refine pS0 (ds' := [.v (.string x1.1.gName), .v (.bool x1.1.gPtr), .v (.int .i64 x1.1.gSize), .v (.int .i64 x1.1.gAt)]) ?_
  refine pu ?_
  refine pu ?_
  refine ops_n2 ?_
  refine pu ?_
  obtain ⟨x3, q3, hm⟩ := yes_bind hm
  refine p_call0 (r13_GlobalText_ok a0 x3 q3) rfl rfl rfl rfl rfl Wl ?_
  rintro _ rfl
  iterate 4 refine pu ?_
  refine p_alloc htab rfl rfl rfl rfl rfl rfl rfl (fun b4 => ?_)
  refine pS1 (ds' := [.v (.string x3.1.gName), .v (.bool x3.1.gPtr), .v (.int .i64 x3.1.gSize), .v (.int .i64 x3.1.gAt)]) ?_
  refine pu ?_
  refine pu ?_
  refine ops_n2 ?_
  refine p_load (d := eTApiGlobal x1.1) 0 htab rfl rfl rfl rfl rfl rfl rfl rfl ?_
  refine p_load (d := eTApiGlobal x3.1) 1 htab rfl rfl rfl rfl rfl rfl rfl rfl ?_
  refine p_eqS htab rfl rfl rfl rfl rfl eqt39 rfl rfl rfl rfl rfl ?_
  refine pu ?_
  refine p_split (i := 24) rfl (fun hg5 => ?_) (fun hg5 => ?_)
  ·replace hm := yes_t hg5 hm
   iterate 3 refine pu ?_
   refine p_pickT rfl rfl rfl rfl rfl rfl ?_
   refine pu ?_
   refine p_split (i := 29) rfl (fun hg6 => ?_) (fun hg6 => ?_)
   ·replace hm := yes_t hg6 hm
    iterate 3 refine pu ?_
    refine p_pickT rfl rfl rfl rfl rfl rfl ?_
    refine pu ?_
    refine p_split (i := 34) rfl (fun hg7 => ?_) (fun hg7 => ?_)
    ·replace hm := yes_t hg7 hm
     obtain ⟨x8, q8, hm⟩ := yes_bind hm
     refine p_call0 (l13_lives_ok x8 q8) rfl rfl rfl rfl rfl Wl ?_
     rintro _ rfl
     refine p_pickT rfl rfl rfl rfl rfl rfl ?_
     refine pu ?_
     refine ops_nt ?_
     refine wpD_ret ?_
     have er9 := yes_eq hm; subst er9
     refine rP (t' := [(2, .v (.bool x8))]) [] [] 0 (wC wN) (lT lN) ?_
     exact ⟨rfl, rfl, rfl⟩
    ·replace hm := yes_f hg7 hm
     refine pK ?_
     refine p_pickF rfl rfl rfl rfl rfl rfl ?_
     refine pu ?_
     refine ops_nt ?_
     refine wpD_ret ?_
     have er10 := yes_eq hm; subst er10
     refine rP (t' := [(2, .v (.bool false))]) [] [] 0 (wC wN) (lT lN) ?_
     exact ⟨rfl, rfl, rfl⟩
   ·replace hm := yes_f hg6 hm
    iterate 3 refine pK ?_
    refine p_pickF rfl rfl rfl rfl rfl rfl ?_
    refine pu ?_
    refine pK ?_
    refine p_pickF rfl rfl rfl rfl rfl rfl ?_
    refine pu ?_
    refine ops_nt ?_
    refine wpD_ret ?_
    have er11 := yes_eq hm; subst er11
    refine rP (t' := [(2, .v (.bool false))]) [] [] 0 (wC wN) (lT lN) ?_
    exact ⟨rfl, rfl, rfl⟩
  ·replace hm := yes_f hg5 hm
   iterate 3 refine pK ?_
   refine p_pickF rfl rfl rfl rfl rfl rfl ?_
   refine pu ?_
   iterate 3 refine pK ?_
   refine p_pickF rfl rfl rfl rfl rfl rfl ?_
   refine pu ?_
   refine pK ?_
   refine p_pickF rfl rfl rfl rfl rfl rfl ?_
   refine pu ?_
   refine ops_nt ?_
   refine wpD_ret ?_
   have er12 := yes_eq hm; subst er12
   refine rP (t' := [(2, .v (.bool false))]) [] [] 0 (wC wN) (lT lN) ?_
   exact ⟨rfl, rfl, rfl⟩
end Go.Proofs.Ytmgklehakmdiiaa.Ab
namespace Go.Proofs.Ytmgklehakmdiiaa.Ab
open Go
set_option linter.all false
def fieldsOK (tab : List (Option TI)) (ts : List Nat) : Nat → List (Nat × Nat) → Option Nat
  | off, [] => some off
  | off, (ty, o) :: fs => match ti tab ty with
    | some i => bif Nat.beq o off && ts.contains ty then fieldsOK tab ts (off + i.size) fs else none
    | none => none
def typeOK (tab : List (Option TI)) (ts : List Nat) (t : Nat) : Bool :=
  match ti tab t with
  | some i => match i.d with
    | .bool => Nat.beq i.size 1
    | .int _ => Nat.beq i.size 1
    | .str => Nat.beq i.size 1
    | .slice e => ts.contains e && Nat.beq i.size 1 && (match ti tab e with | some ie => Nat.ble 1 ie.size | none => false)
    | .struct fs => match fieldsOK tab ts 0 fs with
      | some n => Nat.beq n i.size
      | none => false
    | .array n e => ts.contains e && (match ti tab e with | some ie => Nat.beq i.size (n * ie.size) | none => false)
    | _ => false
  | none => false
def closedT (tab : List (Option TI)) (ts : List Nat) : Bool := ts.all (typeOK tab ts)
def GoodT (tab : List (Option TI)) : Nat → Nat → D → Prop
  | 0, _, _ => False
  | n + 1, t, d => ∃ i, ti tab t = some i ∧ match i.d with
    | .bool => ∃ b, d = .v (.bool b)
    | .int k => ∃ m, d = .v (.int k m) ∧ (Lit.int k m).wf = true
    | .str => ∃ s : ByteArray, d = .v (.string s) ∧ s.size ≤ maxLen
    | .slice e => ∃ ie xs, ti tab e = some ie ∧ d = .lst ie.size xs .no ∧ xs.length ≤ maxLen ∧ ∀ x ∈ xs, GoodT tab n e x
    | .struct fs => ∃ ds : List D, d = .agg (ds.flatMap dcells) ∧ ds.length = fs.length ∧ ∀ (j : Nat) (f : Nat × Nat) (d0 : D), fs[j]? = some f → ds[j]? = some d0 → GoodT tab n f.1 d0
    | .array m e => ∃ ds : List D, d = .agg (ds.flatMap dcells) ∧ ds.length = m ∧ ∀ x ∈ ds, GoodT tab n e x
    | _ => False
section
variable {H : Type} {enc : TypeId × Value → H} {P : Program} {w : World} {base : Nat} {spare : Nat → Bool} {held : Bool} {tab : List (Option TI)} {ts : List Nat}
theorem cellsOf_ti (hT : TabOK P tab) {t : TypeId} {i : TI} (h : ti tab t = some i) : P.cellsOf t = i.size := by
  obtain ⟨tf, z, dd, h1, _, _, h2, _⟩ := tiOf_inv (ti_ok hT h)
  simp [Program.cellsOf, h1, h2]
def allOf (w : World) : Hp := fun a => w.cell? a
theorem ag_all (w : World) : Ag (allOf w) w := fun _ _ h => h
def Rd (tab : List (Option TI)) (w : World) (n t : Nat) (cs : List Value) (d : D) : Prop :=
  ∃ i, ti tab t = some i ∧ RepC (allOf w) d cs ∧ Reps (allOf w) (dcells d) cs ∧ cs.length = i.size ∧ (dcells d).length = i.size ∧ GoodT tab n t d
theorem rd_fields (hT : TabOK P tab) {n : Nat} {cs : List Value} (ih : ∀ t cs x, ts.contains t = true → DataW.trod enc P w base spare held n t cs = some x → ∃ d, Rd tab w n t cs d) :
    ∀ (gs : List Field) (off total : Nat), fieldsOK tab ts off (gs.map fun f => (f.type, f.offset)) = some total → total ≤ cs.length → (∀ f ∈ gs, ∃ y, DataW.trod enc P w base spare held n f.type ((cs.drop f.offset).take (P.cellsOf f.type)) = some y) →
      off ≤ total ∧ ∃ ds : List D, ds.length = gs.length ∧ Reps (allOf w) (ds.flatMap dcells) ((cs.drop off).take (total - off)) ∧ (ds.flatMap dcells).length = total - off ∧ ∀ (j : Nat) (f : Nat × Nat) (d0 : D), (gs.map fun f => (f.type, f.offset))[j]? = some f → ds[j]? = some d0 → GoodT tab n f.1 d0
  | [], off, total, h, _, _ => by
    simp [fieldsOK] at h; subst h
    exact ⟨Nat.le_refl _, [], rfl, by simp [Reps], by simp, fun j f d0 e => by simp at e⟩
  | g :: gs, off, total, h, hl, hy => by
    simp only [List.map_cons, fieldsOK] at h
    split at h
    · rename_i i hi
      cases hb : (Nat.beq g.offset off && ts.contains g.type) with
      | false => rw [hb] at h; cases h
      | true =>
        rw [hb] at h
        simp only [cond_true] at h
        simp only [Bool.and_eq_true] at hb
        have ho := Nat.eq_of_beq_eq_true hb.1
        obtain ⟨y, hy0⟩ := hy g (by simp)
        obtain ⟨d, i', hi', h1, h2, h3, h4, h5⟩ := ih _ _ y hb.2 hy0
        rw [hi] at hi'; cases hi'
        obtain ⟨hle, ds, e1, e2, e3, e4⟩ := rd_fields hT ih gs (off + i.size) total h hl fun f hf => hy f (by simp [hf])
        rw [cellsOf_ti hT hi, ho] at h2
        refine ⟨by omega, d :: ds, by simp [e1], ?_, by simp [h4, e3]; omega, ?_⟩
        · simp only [List.flatMap_cons]
          have := reps_append h2 e2
          have e : (cs.drop off).take i.size ++ (cs.drop (off + i.size)).take (total - (off + i.size)) = (cs.drop off).take (total - off) := by
            rw [show total - off = i.size + (total - (off + i.size)) by omega, List.take_add, List.drop_drop]
          rwa [e] at this
        · intro j f d0 hf hd
          cases j with
          | zero => simp at hf hd; subst hf; subst hd; exact h5
          | succ j => exact e4 j f d0 (by simpa using hf) (by simpa using hd)
    · cases h
theorem rd_elems {n e sz b off : Nat} {ie : TI} (hie : ti tab e = some ie) (hsz : ie.size = sz) (he : ts.contains e = true) (ih : ∀ t cs x, ts.contains t = true → DataW.trod enc P w base spare held n t cs = some x → ∃ d, Rd tab w n t cs d) :
    ∀ (m i0 : Nat), (∀ i, i0 ≤ i → i < i0 + m → ∃ cs y, w.cells? base ((⟨b, off, none⟩ : Addr).add (i * sz)) sz = some cs ∧ DataW.trod enc P w base spare held n e cs = some y) →
      ∃ xs : List D, xs.length = m ∧ Els (allOf w) sz b (off + i0 * sz) xs ∧ ∀ x ∈ xs, GoodT tab n e x
  | 0, i0, _ => ⟨[], rfl, by simp [Els], by simp⟩
  | m + 1, i0, h => by
    obtain ⟨cs, y, h1, h2⟩ := h i0 (Nat.le_refl _) (by omega)
    obtain ⟨d, i', hi', g1, g2, g3, g4, g5⟩ := ih e cs y he h2
    rw [hie] at hi'; cases hi'
    obtain ⟨xs, f1, f2, f3⟩ := rd_elems hie hsz he ih m (i0 + 1) fun i hi hi' => h i (by omega) (by omega)
    refine ⟨d :: xs, by simp [f1], ?_, ?_⟩
    · simp only [Els]
      refine ⟨⟨cs, by rw [g3, hsz], g1, fun j u hj => ?_, reps_one g2⟩, ?_⟩
      · obtain ⟨_, hlen, hc⟩ := World.cells?_some h1
        have hjl : j < sz := by rw [← hlen]; exact (List.getElem?_eq_some_iff.1 hj).1
        have := hc j hjl
        rw [addr_add, addr_add] at this
        show w.cell? _ = _
        rw [this]; exact hj
      · rw [show off + i0 * sz + sz = off + (i0 + 1) * sz by rw [Nat.add_mul]; omega]; exact f2
    · intro x hx
      rcases List.mem_cons.1 hx with rfl | hx
      · exact g5
      · exact f3 x hx
theorem rd_arr {n e sz : Nat} {ie : TI} {cs : List Value} (hie : ti tab e = some ie) (hsz : ie.size = sz) (he : ts.contains e = true) (ih : ∀ t cs x, ts.contains t = true → DataW.trod enc P w base spare held n t cs = some x → ∃ d, Rd tab w n t cs d) :
    ∀ (m i0 : Nat), (∀ i, i0 ≤ i → i < i0 + m → ∃ y, DataW.trod enc P w base spare held n e ((cs.drop (i * sz)).take sz) = some y) →
      ∃ ds : List D, ds.length = m ∧ Reps (allOf w) (ds.flatMap dcells) ((cs.drop (i0 * sz)).take (m * sz)) ∧ (ds.flatMap dcells).length = m * sz ∧ ∀ x ∈ ds, GoodT tab n e x
  | 0, i0, _ => ⟨[], rfl, by simp [Reps], by simp, by simp⟩
  | m + 1, i0, h => by
    obtain ⟨y, h2⟩ := h i0 (Nat.le_refl _) (by omega)
    obtain ⟨d, i', hi', g1, g2, g3, g4, g5⟩ := ih e _ y he h2
    rw [hie] at hi'; cases hi'
    obtain ⟨ds, f1, f2, f3, f4⟩ := rd_arr hie hsz he ih m (i0 + 1) fun i hi hi' => h i (by omega) (by omega)
    refine ⟨d :: ds, by simp [f1], ?_, ?_, ?_⟩
    · simp only [List.flatMap_cons]
      have := reps_append g2 f2
      have e2 : (cs.drop (i0 * sz)).take sz ++ (cs.drop ((i0 + 1) * sz)).take (m * sz) = (cs.drop (i0 * sz)).take ((m + 1) * sz) := by
        rw [show (m + 1) * sz = sz + m * sz by rw [Nat.add_mul]; omega, List.take_add, List.drop_drop, show i0 * sz + sz = (i0 + 1) * sz by rw [Nat.add_mul]; omega]
      rwa [e2] at this
    · simp only [List.flatMap_cons, List.length_append, f3, g4, hsz]
      rw [Nat.add_mul]; omega
    · intro x hx
      rcases List.mem_cons.1 hx with rfl | hx
      · exact g5
      · exact f4 x hx
theorem rd (hT : TabOK P tab) (hc : closedT tab ts = true) : ∀ (n : Nat) (t : TypeId) (cs : List Value) (x : DataW H × List MemPlace), ts.contains t = true → DataW.trod enc P w base spare held n t cs = some x → ∃ d, Rd tab w n t cs d := by
  intro n
  induction n with
  | zero => intro t cs x _ h; simp [DataW.trod] at h
  | succ n ih =>
    intro t cs x ht h
    have hok : typeOK tab ts t = true := by
      unfold closedT at hc
      rw [List.all_eq_true] at hc
      exact hc t (by simpa using ht)
    unfold typeOK at hok
    split at hok
    · rename_i i hi
      obtain ⟨tf, z, dd, h1, h2, h3, h4, _⟩ := tiOf_inv (ti_ok hT hi)
      split at hok
      · rename_i hd
        have hs := Nat.eq_of_beq_eq_true hok
        obtain ⟨b, rfl, _⟩ := DataW.trod_bool (by rw [h2, td_bool (h3.trans hd)]) h
        refine ⟨.v (.bool b), i, hi, by simp [RepC], ?_, by simp [hs], by simp [dcells, hs], ?_⟩
        · simp only [dcells, Reps]; exact ⟨_, _, rfl, ⟨by simp [RepC], rfl, rfl⟩, rfl⟩
        · unfold GoodT; exact ⟨i, hi, by rw [hd]; exact ⟨b, rfl⟩⟩
      · rename_i k hd
        have hs := Nat.eq_of_beq_eq_true hok
        obtain ⟨m, rfl, _, hwf⟩ := DataW.trod_int (by rw [h2, td_int (h3.trans hd)]) h
        refine ⟨.v (.int k m), i, hi, by simp [RepC], ?_, by simp [hs], by simp [dcells, hs], ?_⟩
        · simp only [dcells, Reps]; exact ⟨_, _, rfl, ⟨by simp [RepC], rfl, rfl⟩, rfl⟩
        · unfold GoodT; exact ⟨i, hi, by rw [hd]; exact ⟨m, rfl, hwf⟩⟩
      · rename_i hd
        have hs := Nat.eq_of_beq_eq_true hok
        obtain ⟨s, rfl, _, hwf⟩ := DataW.trod_string (by rw [h2, td_str (h3.trans hd)]) h
        refine ⟨.v (.string s), i, hi, by simp [RepC], ?_, by simp [hs], by simp [dcells, hs], ?_⟩
        · simp only [dcells, Reps]; exact ⟨_, _, rfl, ⟨by simp [RepC], rfl, rfl⟩, rfl⟩
        · unfold GoodT; exact ⟨i, hi, by rw [hd]; exact ⟨s, rfl, hwf⟩⟩
      · rename_i e hd
        simp only [Bool.and_eq_true] at hok
        obtain ⟨⟨he, hs⟩, hsz⟩ := hok
        have hs := Nat.eq_of_beq_eq_true hs
        split at hsz
        · rename_i ie hie
          have hsz := Nat.le_of_ble_eq_true hsz
          rcases DataW.trod_slice (by rw [h2, td_slice (h3.trans hd)]) h with ⟨rfl, _⟩ | ⟨a, len, cap, elems, rest, n', hf, rfl, _, hb, hlc, hcm, hel, hcells, _, _⟩
          · have hr : RepC (allOf w) (.lst ie.size [] .no) [.slice none 0 0] := by
              simp only [RepC, CapOK]; exact ⟨_, rfl, trivial, .inl ⟨by trivial, none, 0, rfl, fun _ => rfl⟩⟩
            refine ⟨.lst ie.size [] .no, i, hi, hr, ?_, by simp [hs], by simp [dcells, hs], ?_⟩
            · simp only [dcells, Reps]; exact ⟨_, _, rfl, ⟨hr, rfl, rfl⟩, rfl⟩
            · unfold GoodT; exact ⟨i, hi, by rw [hd]; exact ⟨ie, [], hie, rfl, by simp, by simp⟩⟩
          · have : n' = n := by omega
            subst this
            rw [cellsOf_ti hT hie] at hcells
            rcases Nat.eq_zero_or_pos len with hz | hpos
            · subst hz
              have hr : RepC (allOf w) (.lst ie.size [] .no) [.slice (some a) 0 cap] := by
                simp only [RepC, CapOK]; exact ⟨_, rfl, trivial, .inl ⟨by trivial, some a, cap, rfl, fun q => by cases q⟩⟩
              refine ⟨.lst ie.size [] .no, i, hi, hr, ?_, by simp [hs], by simp [dcells, hs], ?_⟩
              · simp only [dcells, Reps]; exact ⟨_, _, rfl, ⟨hr, rfl, rfl⟩, rfl⟩
              · unfold GoodT; exact ⟨i, hi, by rw [hd]; exact ⟨ie, [], hie, rfl, by simp, by simp⟩⟩
            · have hsome : ∀ j, j < len → ∃ cs y, w.cells? base (a.add (j * ie.size)) ie.size = some cs ∧ DataW.trod enc P w base spare held n' e cs = some y := by
                intro j hj
                have hj2 := hcells j hj
                rw [List.getElem?_eq_getElem (by omega)] at hj2
                rw [Option.bind_eq_some_iff] at hj2
                obtain ⟨cs, q1, q2⟩ := hj2
                exact ⟨cs, _, q1, q2⟩
              have hspot : a.spot = none := by
                obtain ⟨cs, y, q1, _⟩ := hsome 0 hpos
                obtain ⟨_, hlen, hcc⟩ := World.cells?_some q1
                have q2 := hcc 0 (by omega)
                rw [List.getElem?_eq_getElem (by omega)] at q2
                have q3 : (a.add (0 * ie.size)).add 0 = a := by simp [Addr.add]
                rw [q3] at q2
                cases hsp : a.spot with
                | none => rfl
                | some s =>
                  unfold World.cell? at q2
                  split at q2
                  · simp [hsp] at q2
                  · cases q2
              obtain ⟨b, off, sp⟩ := a
              simp only at hspot; subst hspot
              obtain ⟨xs, f1, f2, f3⟩ := rd_elems (spare := spare) (held := held) (enc := enc) (P := P) (base := base) hie rfl he ih len 0 fun j _ hj => hsome j (by omega)
              have hr : RepC (allOf w) (.lst ie.size xs .no) [.slice (some ⟨b, off, none⟩) len cap] := by
                simp only [RepC, CapOK]
                refine ⟨_, rfl, trivial, .inr ⟨b, off, cap, by rw [f1], by rw [f1]; exact hlc, by simpa using f2⟩⟩
              refine ⟨.lst ie.size xs .no, i, hi, hr, ?_, by simp [hs], by simp [dcells, hs], ?_⟩
              · simp only [dcells, Reps]; exact ⟨_, _, rfl, ⟨hr, rfl, rfl⟩, rfl⟩
              · unfold GoodT; exact ⟨i, hi, by rw [hd]; exact ⟨ie, xs, hie, rfl, by rw [f1]; omega, f3⟩⟩
        · cases hsz
      · rename_i fs hd
        split at hok
        · rename_i tot hfo
          have hs := Nat.eq_of_beq_eq_true hok
          obtain ⟨gs, e1, e2⟩ := td_struct (h3.trans hd)
          obtain ⟨xs, n', hf, _, hl, hxl, hx⟩ := DataW.trod_struct (by rw [h2, e1]) h
          have : n' = n := by omega
          subst this
          rw [cellsOf_ti hT hi] at hl
          obtain ⟨_, ds, f1, f2, f3, f4⟩ := rd_fields hT (cs := cs) ih gs.toList 0 tot (by rw [e2]; exact hfo) (by omega) fun f hfm => by
            obtain ⟨j, hj⟩ := List.getElem?_of_mem hfm
            have hj' : gs[j]? = some f := by simpa using hj
            have q := hx j f hj'
            have hjl : j < xs.length := by rw [hxl]; exact (Array.getElem?_eq_some_iff.1 hj').1
            rw [List.getElem?_eq_getElem hjl] at q
            exact ⟨_, q⟩
          simp only [List.drop_zero, Nat.sub_zero] at f2 f3
          rw [List.take_of_length_le (by omega)] at f2
          refine ⟨.agg (ds.flatMap dcells), i, hi, by simp only [RepC]; exact f2, f2, hl, by simp only [dcells]; omega, ?_⟩
          unfold GoodT
          exact ⟨i, hi, by rw [hd]; exact ⟨ds, rfl, by rw [f1, ← e2]; simp, fun j f d0 q1 q2 => f4 j f d0 (by rw [e2]; exact q1) q2⟩⟩
        · cases hok
      · rename_i m e hd
        simp only [Bool.and_eq_true] at hok
        obtain ⟨he, hsz⟩ := hok
        split at hsz
        · rename_i ie hie
          have hsz := Nat.eq_of_beq_eq_true hsz
          obtain ⟨xs, n', hf, _, hl, hxl, hx⟩ := DataW.trod_array (by rw [h2, td_array (h3.trans hd)]) h
          have : n' = n := by omega
          subst this
          rw [cellsOf_ti hT hi] at hl
          rw [cellsOf_ti hT hie] at hx
          obtain ⟨ds, f1, f2, f3, f4⟩ := rd_arr (cs := cs) hie rfl he ih m 0 fun j _ hj => by
            have q := hx j (by omega)
            rw [List.getElem?_eq_getElem (by omega)] at q
            exact ⟨_, q⟩
          simp only [Nat.zero_mul, List.drop_zero] at f2
          rw [List.take_of_length_le (by omega)] at f2
          refine ⟨.agg (ds.flatMap dcells), i, hi, by simp only [RepC]; exact f2, f2, hl, by simp only [dcells]; omega, ?_⟩
          unfold GoodT
          exact ⟨i, hi, by rw [hd]; exact ⟨ds, rfl, f1, f4⟩⟩
        · cases hsz
      · cases hok
    · cases hok
end
end Go.Proofs.Ytmgklehakmdiiaa.Ab
namespace Go.Proofs.Ytmgklehakmdiiaa.Ab
open Go
set_option linter.all false
section
variable {P : Program} {tab : List (Option TI)} {n t : Nat} {i : TI} {d : D}
theorem good_int {k : IntKind} (hi : ti tab t = some i) (hd : i.d = .int k) (g : GoodT tab n t d) : ∃ m, d = .v (.int k m) ∧ (Lit.int k m).wf = true := by
  cases n with
  | zero => simp [GoodT] at g
  | succ n =>
    unfold GoodT at g
    obtain ⟨i', h1, h2⟩ := g
    rw [hi] at h1; cases h1
    rw [hd] at h2; exact h2
theorem good_slice {e : Nat} {ie : TI} (hi : ti tab t = some i) (hd : i.d = .slice e) (he : ti tab e = some ie) (g : GoodT tab n t d) : ∃ (n' : Nat) (xs : List D), n = n' + 1 ∧ d = .lst ie.size xs .no ∧ xs.length ≤ maxLen ∧ ∀ x ∈ xs, GoodT tab n' e x := by
  cases n with
  | zero => simp [GoodT] at g
  | succ n =>
    unfold GoodT at g
    obtain ⟨i', h1, h2⟩ := g
    rw [hi] at h1; cases h1
    rw [hd] at h2
    obtain ⟨ie', xs, h3, h4, h5, h6⟩ := h2
    rw [he] at h3; cases h3
    exact ⟨n, xs, rfl, h4, h5, h6⟩
theorem good_u8 (hi : ti tab t = some i) (hd : i.d = .int .u8) (g : GoodT tab n t d) : ∃ c : UInt8, d = byteD c := by
  obtain ⟨m, rfl, h⟩ := good_int hi hd g
  simp [Lit.wf, IntKind.min, IntKind.max, IntKind.signed, IntKind.bits] at h
  refine ⟨UInt8.ofNat m.toNat, ?_⟩
  unfold byteD
  have e : ((UInt8.ofNat m.toNat).toNat : Int) = m := by
    rw [UInt8.toNat_ofNat']
    omega
  rw [e]
theorem good_list {α : Type} {f : α → D} {K : α → Prop} {p : D → Prop} (h : ∀ x, p x → ∃ y, x = f y ∧ K y) : ∀ (xs : List D), (∀ x ∈ xs, p x) → ∃ ys : List α, xs = ys.map f ∧ ∀ y ∈ ys, K y
  | [], _ => ⟨[], rfl, by simp⟩
  | x :: xs, hx => by
    obtain ⟨y, rfl, hy⟩ := h x (hx x (by simp))
    obtain ⟨ys, rfl, hys⟩ := good_list h xs fun z hz => hx z (by simp [hz])
    refine ⟨y :: ys, rfl, fun z hz => ?_⟩
    rcases List.mem_cons.1 hz with rfl | hz
    · exact hy
    · exact hys z hz
theorem shape_of {w : World} {r : Reach} {base : Nat} {v : Value} (hT : TabOK P tab) (hv : Value.okWide P w r base t v) (g : GoodT tab n t d) : d.shape v = true := by
  cases n with
  | zero => simp [GoodT] at g
  | succ n =>
    unfold GoodT at g
    obtain ⟨i, hi, g⟩ := g
    obtain ⟨tf, z, dd, h1, h2, h3, _⟩ := tiOf_inv (ti_ok hT hi)
    unfold Value.okWide at hv
    rw [h2] at hv
    split at g
    · rename_i hd
      have := td_bool (h3.trans hd); subst this
      obtain ⟨b, rfl⟩ := g
      cases v <;> first | rfl | (simp [Cell.okWide, Cell.ok, h2] at hv)
    · rename_i k hd
      have := td_int (h3.trans hd); subst this
      obtain ⟨b, rfl, _⟩ := g
      cases v <;> first | rfl | (simp [Cell.okWide, Cell.ok, h2] at hv)
    · rename_i hd
      have := td_str (h3.trans hd); subst this
      obtain ⟨b, rfl, _⟩ := g
      cases v <;> first | rfl | (simp [Cell.okWide, Cell.ok, h2] at hv)
    · rename_i e hd
      have := td_slice (h3.trans hd); subst this
      obtain ⟨ie, xs, _, rfl, _⟩ := g
      cases v <;> first | rfl | (simp [Cell.okWide, Cell.ok, h2] at hv)
    · rename_i fs hd
      obtain ⟨gs, rfl, _⟩ := td_struct (h3.trans hd)
      obtain ⟨ds, rfl, _⟩ := g
      simp only at hv
      obtain ⟨cs, rfl, _⟩ := hv
      rfl
    · rename_i m e hd
      have := td_array (h3.trans hd); subst this
      obtain ⟨ds, rfl, _⟩ := g
      simp only at hv
      obtain ⟨cs, rfl, _⟩ := hv
      rfl
    · exact g.elim
theorem rd_arg {H : Type} {enc : TypeId × Value → H} {w : World} {base : Nat} {spare : Nat → Bool} {held : Bool} {v : Value} {x : DataW H} {ps : List MemPlace} {r : Reach} {b0 : Nat} (hT : TabOK P tab) (ts : List Nat) (hc : closedT tab ts = true) (ht : ts.contains t = true)
    (hv : Value.okWide P w r b0 t v) (h : DataW.Trod enc P w base spare held t v x ps) : ∃ n d, GoodT tab n t d ∧ Rep (allOf w) d v := by
  obtain ⟨n, hn⟩ := h
  obtain ⟨d, i, h1, h2, h3, h4, h5, h6⟩ := rd hT hc n t _ _ ht hn
  exact ⟨n, d, h6, h2, shape_of hT hv h6⟩
end
end Go.Proofs.Ytmgklehakmdiiaa.Ab
namespace Go.Proofs.Ytmgklehakmdiiaa
open Go.ChangeShapes Go.WideShapes Go.ChangeAt Go.RowKit Go.Joins
set_option linter.all false
theorem own : ownKnob Try.prog.godebug = none := by kernel_rfl
theorem laidOut' : laidOutB Try.prog = true := by kernel_rfl
theorem args_back {H : Type} {enc : TypeId × Value → H} {P : Program} {W : World} (hl : laidOutB P = true) : ∀ {ts : List TypeId} {vs : List Value} {ds : List (DataW H)} {ps : List MemPlace},
    (ts.all fun t => P.readableRec t && decide (t < P.types.size)) = true → DataW.TrodAll enc P W 0 (fun _ => true) true ts vs ds ps → (∀ x ∈ ps, x.block < W.heap.size) → ∀ W', Below W.heap.size W W' →
    ∀ sp : Nat → Bool, (∀ x ∈ ps, sp x.block = true) → DataW.TrodAll enc P W' 0 sp true ts vs ds ps
  | [], vs, ds, ps, _, h, _, W', hb, sp, hsp => by
    obtain ⟨rfl, rfl, rfl⟩ := trodAll_nil h
    exact trodAll_mk0
  | t :: ts, vs, ds, ps, hr, h, hlt, W', hb, sp, hsp => by
    obtain ⟨v, vs', d, ds', p, q, rfl, rfl, rfl, h0, h1⟩ := trodAll_cons h
    simp only [List.all_cons, Bool.and_eq_true, decide_eq_true_eq] at hr
    exact trodAll_cons_mk (WideElems.Trod_stays hl hr.1.1 hr.1.2 h0 (fun x hx => hb.same (hlt x (by simp [hx]))) (fun x hx => hsp x (by simp [hx])))
      (args_back hl hr.2 h1 (fun x hx => hlt x (by simp [hx])) W' hb sp (fun x hx => hsp x (by simp [hx])))
end Go.Proofs.Ytmgklehakmdiiaa
namespace Go.Proofs.Ytmgklehakmdiiaa.Ab
open Go
set_option linter.all false
section
variable {H : Type} {enc : TypeId × Value → H} {P : Program} {w : World} {base : Nat} {spare : Nat → Bool} {held : Bool} {tab : List (Option TI)} {ts : List Nat}
end
end Go.Proofs.Ytmgklehakmdiiaa.Ab
namespace Go.Proofs.Ytmgklehakmdiiaa.Ab.Pq
open Go
set_option linter.all false
abbrev Tok := TApiToken
abbrev Rdr := TParseReader
def z0 : Tok := ⟨0, ByteArray.empty, 0, 0⟩
def lk (L : List Tok) (i : Nat) : Tok := L.getD i z0
def mk (L : List Tok) (i : Nat) (e : Int) : Rdr := ⟨L, (i : Int), e⟩
theorem lk_end {L : List Tok} {i : Nat} (h : L.length ≤ i) : lk L i = z0 := by unfold lk; rw [List.getD_eq_getElem?_getD, List.getElem?_eq_none h]; rfl
theorem lk_lt {L : List Tok} {i : Nat} (h : (lk L i).gKind ≠ 0) : i < L.length := by
  rcases Nat.lt_or_ge i L.length with q | q
  · exact q
  · rw [lk_end q] at h; exact absurd rfl h
def isS (L : List Tok) (i : Nat) (s : ByteArray) : Bool := (lk L i).gKind == 3 && decide ((lk L i).gText = s)
theorem isB_lt {L : List Tok} {i : Nat} {s : ByteArray} (h : isS L i s = true) : i < L.length ∧ (lk L i).gKind = 3 ∧ (lk L i).gText = s := by
  unfold isS at h
  simp only [Bool.and_eq_true, beq_iff_eq, decide_eq_true_eq] at h
  exact ⟨lk_lt (by rw [h.1]; decide), h⟩
theorem winc {i : Nat} (h : i ≤ 4000000) : IntKind.i64.wrap ((i : Int) + 1) = ((i + 1 : Nat) : Int) := by rw [wrap_id (by omega) (by omega)]; omega
def shT (p : Int) (t : Tok) : Tok := ⟨t.gKind, t.gText, t.gN, t.gAt + p⟩
structure Mt (L L2 : List Tok) (d : Nat) (p : Int) (m : Nat) : Prop where
  tok : ∀ i, i < m → lk L2 (i + d) = shT p (lk L i)
  fin : (lk L m).gKind = 0
  stp : (lk L2 (m + d)).gKind = 3 ∧ (lk L2 (m + d)).gText = ByteArray.mk #[41]
  len : m + d ≤ 1000000
theorem Mt.lt {L L2 : List Tok} {d : Nat} {p : Int} {m i : Nat} (h : Mt L L2 d p m) (hi : i ≤ m) (hk : (lk L i).gKind ≠ 0) : i < m := by
  rcases Nat.lt_or_ge i m with q | q
  · exact q
  · have : i = m := by omega
    subst this; exact absurd h.fin hk
end Go.Proofs.Ytmgklehakmdiiaa.Ab.Pq
namespace Go.Proofs.Ytmgklehakmdiiaa.Ab.Pq
open Go
set_option linter.all false
def Tot {α : Type} (m : Option α) : Prop := ∃ r, m = some r
theorem Tot.some {α : Type} (a : α) : Tot (Option.some a) := ⟨a, rfl⟩
theorem Tot.bind {α β : Type} {m : Option α} {f : α → Option β} (h : Tot m) (k : ∀ a, Tot (f a)) : Tot (m.bind f) := by
  obtain ⟨a, rfl⟩ := h
  exact k a
theorem Tot.cond {α : Type} {c : Bool} {m n : Option α} (h : Tot m) (k : Tot n) : Tot (bif c then m else n) := by
  cases c
  · exact k
  · exact h
theorem Tot.get {α : Type} {m : Option α} (h : Tot m) (z : α) : m = Option.some (m.getD z) := by obtain ⟨a, rfl⟩ := h; rfl
theorem kind_tot (c : Int) : Tot (token_kind c) := by
  unfold token_kind
  repeat (first | exact Tot.some _ | refine Tot.bind ?_ (fun _ => ?_) | refine Tot.cond ?_ ?_)
noncomputable def kd (c : UInt8) : Int := (token_kind (IntKind.i32.wrap (c.toNat : Int))).getD 0
theorem kind_eq (c : UInt8) : token_kind (IntKind.i32.wrap (c.toNat : Int)) = some (kd c) := (kind_tot _).get 0
noncomputable def dg (w : Bool) (c : UInt8) : Bool := kd c == 3 || (w && kd c == 2)
noncomputable def spn (w : Bool) (r : List UInt8) : Nat := (r.takeWhile (dg w)).length
theorem spn_le (w : Bool) (r : List UInt8) : spn w r ≤ r.length := by unfold spn; exact (List.takeWhile_sublist _).length_le
def rt (b : List UInt8) (a : Nat) (l : List Tok) : TTokenReader := ⟨b, (a : Int), l⟩
theorem drop_at {b : List UInt8} {a : Nat} {c : UInt8} {r : List UInt8} (h : b.drop a = c :: r) : b[a]? = some c ∧ a < b.length ∧ b.drop (a + 1) = r := by
  have h1 := congrArg List.head? h
  rw [List.head?_drop] at h1
  refine ⟨h1, (List.getElem?_eq_some_iff.1 h1).1, ?_⟩
  have h2 := congrArg (List.drop 1) h
  rw [List.drop_drop] at h2
  simpa using h2
theorem span_eq {b : List UInt8} {a : Nat} {l : List Tok} (w : Bool) (hb : b.length ≤ 100000) (ha : a ≤ b.length) : token_reader_span (rt b a l) w = some ((spn w (b.drop a) : Nat) : Int) := by
  unfold token_reader_span rt
  have key : ∀ (post pre : List UInt8), b.drop a = pre ++ post → loopM (fun (s24 : Int) => (bif (decide ((IntKind.i64.wrap ((a : Int) + s24)) < (b.length : Int))) then ((idx b (IntKind.i64.wrap ((a : Int) + s24))).bind fun x40 => ((token_kind (IntKind.i32.wrap (x40.toNat : Int))).bind fun x41 => (bif (x41 != (3 : Int)) then (bif (x41 != (2 : Int)) then some (.done s24) else (bif (!w) then some (.done s24) else some (.next (IntKind.i64.wrap (s24 + (1 : Int)))))) else some (.next (IntKind.i64.wrap (s24 + (1 : Int))))))) else some (.done s24))) ((pre.length : Nat) : Int) = some (((pre.length + spn w post : Nat)) : Int) := by
    intro post
    induction post with
    | nil =>
      intro pre h
      refine loopM_done ?_
      have hl := congrArg List.length h
      simp only [List.length_drop, List.append_nil] at hl
      rw [wrap_id (n := (a : Int) + (pre.length : Int)) (by omega) (by omega), decide_eq_false (by omega), cond_false]
      simp [spn]
    | cons c post ih =>
      intro pre h
      have hl := congrArg List.length h
      simp only [List.length_drop, List.length_append, List.length_cons] at hl
      have hc : b[a + pre.length]? = some c := by
        have := congrArg (fun z => z[pre.length]?) h
        simpa [List.getElem?_drop] using this
      have step : ∀ x, x = (bif (kd c != 3) then (bif (kd c != 2) then some (Step.done ((pre.length : Nat) : Int)) else (bif (!w) then some (.done ((pre.length : Nat) : Int)) else some (.next (IntKind.i64.wrap (((pre.length : Nat) : Int) + 1))))) else some (.next (IntKind.i64.wrap (((pre.length : Nat) : Int) + 1))) : Option (Step Int Int)) → (dg w c = true → x = some (.next ((pre.length + 1 : Nat) : Int))) ∧ (dg w c = false → x = some (.done ((pre.length : Nat) : Int))) := by
        rintro x rfl
        have hw := winc (i := pre.length) (by omega)
        unfold dg
        cases h3 : kd c == 3 <;> cases h2 : kd c == 2 <;> cases w <;> simp [bne, h3, h2, hw]
      obtain ⟨s1, s2⟩ := step _ rfl
      have hw := wrap_id (n := (a : Int) + (pre.length : Int)) (by omega) (by omega)
      have hidx : idx b ((a : Int) + (pre.length : Int)) = some c := by
        rw [show (a : Int) + (pre.length : Int) = ((a + pre.length : Nat) : Int) by omega, idx_nat]; exact hc
      cases hd : dg w c
      · rw [loopM_done (t := ((pre.length : Nat) : Int)) ?_]
        · simp [spn, hd]
        · rw [hw, decide_eq_true (by omega), cond_true, hidx, Option.bind_some, kind_eq, Option.bind_some]
          exact s2 hd
      · rw [loopM_next (s' := ((pre.length + 1 : Nat) : Int)) ?_]
        · have := ih (pre ++ [c]) (by simp [h])
          simp only [List.length_append, List.length_cons, List.length_nil, Nat.zero_add] at this
          rw [this]
          congr 2
          simp [spn, hd]; omega
        · rw [hw, decide_eq_true (by omega), cond_true, hidx, Option.bind_some, kind_eq, Option.bind_some]
          exact s1 hd
  have := key (b.drop a) [] rfl
  simp only [List.length_nil, Nat.zero_add] at this
  rw [show ((0 : Nat) : Int) = 0 from rfl] at this
  rw [this]; rfl
def txt (r : List UInt8) (n : Nat) : ByteArray := ByteArray.mk (r.take n).toArray
theorem cut_eq {b : List UInt8} {a n : Nat} (h : n ≤ (b.drop a).length) (ha : a ≤ b.length) (hb : b.length ≤ 100000) : cutL b (a : Int) (IntKind.i64.wrap ((a : Int) + (n : Int))) = some ((b.drop a).take n) := by
  rw [List.length_drop] at h
  rw [wrap_id (by omega) (by omega), show (a : Int) + (n : Int) = ((a + n : Nat) : Int) by omega, cutL_nat]
  · rw [Nat.add_sub_cancel_left]
  · omega
  · omega
theorem add_eq {b : List UInt8} {a n : Nat} {l : List Tok} {k v : Int} (h : n ≤ (b.drop a).length) (ha : a ≤ b.length) (hb : b.length ≤ 100000) (hl : l.length ≤ 100000) : token_reader_add (rt b a l) k (n : Int) v = some (bif decide (4000 ≤ l.length) then (6, rt b a l) else (0, rt b (a + n) (l ++ [⟨k, txt (b.drop a) n, v, (a : Int)⟩]))) := by
  unfold token_reader_add
  change (bif decide ((4000 : Int) ≤ (l.length : Int)) then _ else Option.bind (cutL b (a : Int) (IntKind.i64.wrap ((a : Int) + (n : Int)))) _) = _
  by_cases q : 4000 ≤ l.length
  · rw [decide_eq_true (by omega), cond_true, decide_eq_true q, cond_true]
  · rw [decide_eq_false (by omega), cond_false, decide_eq_false q, cond_false, cut_eq h ha hb, Option.bind_some]
    rw [app_len (by omega) (by simp [rt]; omega), Option.bind_some]
    have h2 := h
    rw [List.length_drop] at h2
    unfold rt txt
    simp only []
    rw [wrap_id (by omega) (by omega), show (a : Int) + (n : Int) = ((a + n : Nat) : Int) by omega]
def hasS (s : ByteArray) (l : List ByteArray) : Bool := l.any fun x => decide (s = x)
theorem index_eq (s : ByteArray) (l : List ByteArray) (hl : l.length ≤ 1000) : ∃ i, slices_Index_string_string l s = some i ∧ decide ((0 : Int) ≤ i) = hasS s l := by
  unfold slices_Index_string_string
  have key : ∀ (post pre : List ByteArray), l = pre ++ post → hasS s pre = false → ∃ r, loopM (fun (s15 : Int) => (bif (decide (s15 < (l.length : Int))) then ((idx l s15).bind fun x25 => (bif (decide (s = x25)) then some (Step.done (Sum.inr (α := Unit) s15)) else some (.next (IntKind.i64.wrap (s15 + (1 : Int)))))) else some (.done (.inl ())))) ((pre.length : Nat) : Int) = some r ∧ decide ((0 : Int) ≤ Sum.elim (fun _ => -1) id r) = hasS s l := by
    intro post
    induction post with
    | nil =>
      intro pre h hs
      rw [List.append_nil] at h; subst h
      refine ⟨.inl (), loopM_done (by rw [lt_end, cond_false]), ?_⟩
      rw [hs]; rfl
    | cons x post ih =>
      intro pre h hs
      have hf : (bif (decide (((pre.length : Nat) : Int) < (l.length : Int))) then ((idx l ((pre.length : Nat) : Int)).bind fun x25 => (bif (decide (s = x25)) then some (Step.done (Sum.inr (α := Unit) ((pre.length : Nat) : Int))) else some (.next (IntKind.i64.wrap (((pre.length : Nat) : Int) + (1 : Int)))))) else some (.done (.inl ()))) = (bif decide (s = x) then some (Step.done (Sum.inr (α := Unit) ((pre.length : Nat) : Int))) else some (.next ((pre.length + 1 : Nat) : Int))) := by
        rw [lt_pre h, cond_true, idx_pre2 h rfl, Option.bind_some, inc_pre h (by omega)]
      by_cases q : s = x
      · rw [decide_eq_true q, cond_true] at hf
        refine ⟨_, loopM_done hf, ?_⟩
        rw [show hasS s l = true by rw [h, q]; simp [hasS], decide_eq_true (by show (0 : Int) ≤ (pre.length : Int); omega)]
      · rw [decide_eq_false q, cond_false] at hf
        rw [loopM_next hf]
        have := ih (pre ++ [x]) (by simp [h]) (by unfold hasS at hs ⊢; rw [List.any_append, hs]; simp [q])
        simpa using this
  obtain ⟨r, h1, h2⟩ := key l [] rfl rfl
  simp only [List.length_nil] at h1
  rw [show ((0 : Nat) : Int) = 0 from rfl] at h1
  rw [h1, Option.bind_some]
  cases r with
  | inl u => exact ⟨-1, rfl, h2⟩
  | inr i => exact ⟨i, rfl, h2⟩
theorem contains_eq (s : ByteArray) (l : List ByteArray) (hl : l.length ≤ 1000) : slices_Contains_string_string l s = some (hasS s l) := by
  unfold slices_Contains_string_string
  obtain ⟨i, h1, h2⟩ := index_eq s l hl
  rw [h1, Option.bind_some, h2]
noncomputable def wd (s : ByteArray) : Bool := (token_Word s).getD false
theorem word_eq (s : ByteArray) : token_Word s = some (wd s) := by
  have : Tot (token_Word s) := by
    unfold token_Word
    rw [contains_eq _ _ (by decide)]
    exact Tot.some _
  exact this.get false
theorem name2_eq {b : List UInt8} {a : Nat} {l : List Tok} (ha : a ≤ b.length) (hb : b.length ≤ 100000) (hl : l.length ≤ 100000) : token_reader_name (rt b a l) =
    some (bif decide (20 < spn true (b.drop a)) then (6, rt b a l) else bif decide (4000 ≤ l.length) then (6, rt b a l) else (0, rt b (a + spn true (b.drop a)) (l ++ [⟨bif wd (txt (b.drop a) (spn true (b.drop a))) then 3 else 1, txt (b.drop a) (spn true (b.drop a)), 0, (a : Int)⟩]))) := by
  unfold token_reader_name
  rw [span_eq true hb ha, Option.bind_some]
  change Option.bind (cutL b (a : Int) (IntKind.i64.wrap ((a : Int) + (((spn true (b.drop a)) : Nat) : Int)))) _ = _
  have hn := spn_le true (b.drop a)
  rw [cut_eq hn ha hb, Option.bind_some]
  by_cases q : 20 < spn true (b.drop a)
  · rw [decide_eq_true (by omega), cond_true, decide_eq_true q, cond_true]
  · rw [decide_eq_false (by omega), cond_false, decide_eq_false q, cond_false, word_eq, Option.bind_some]
    rw [show (ByteArray.mk ((b.drop a).take (spn true (b.drop a))).toArray) = txt (b.drop a) (spn true (b.drop a)) from rfl]
    cases wd (txt (b.drop a) (spn true (b.drop a)))
    · simp only [cond_false, add_eq hn ha hb hl, Option.bind_some]
    · simp only [cond_true, add_eq hn ha hb hl, Option.bind_some]
end Go.Proofs.Ytmgklehakmdiiaa.Ab.Pq
namespace Go.Proofs.Ytmgklehakmdiiaa.Ab.Pq
open Go
set_option linter.all false
noncomputable def digF (x17 : List UInt8) (m0 : TTokenReader) (s33 : Int × Int) : Option (Step (Int × Int) (Int ⊕ (Int × TTokenReader))) := (bif (decide (s33.2 < (x17.length : Int))) then ((idx x17 s33.2).bind fun x43 => (bif (decide ((IntKind.u64.wrap ((IntKind.u64.wrap ((9223372036854775807 : Int) - (IntKind.u64.wrap (IntKind.u8.wrap ((x43.toNat : Int) - (48 : Int)))))).tdiv (10 : Int))) < s33.1)) then some (.done (.inr ((4 : Int), m0))) else some (.next ((IntKind.u64.wrap ((IntKind.u64.wrap ((10 : Int) * s33.1)) + (IntKind.u64.wrap (IntKind.u8.wrap ((x43.toNat : Int) - (48 : Int)))))), (IntKind.i64.wrap (s33.2 + (1 : Int))))))) else some (.done (.inl s33.1)))
def dv (m0 : TTokenReader) : Option Int → Int ⊕ (Int × TTokenReader)
  | some y => .inl y
  | none => .inr ((4 : Int), m0)
def numBad (c : UInt8) (r : List UInt8) (n m : Nat) : Bool := decide (n < m) || ((c.toNat : Int) == 48 && decide (1 < n))
def dn' (b : List UInt8) (a : Nat) (l : List Tok) (r : List UInt8) (n : Nat) : Option Int → Int × TTokenReader
  | some y => (0, rt b (a + n) (l ++ [⟨2, txt r n, IntKind.i64.wrap y, (a : Int)⟩]))
  | none => (4, rt b a l)
noncomputable abbrev dn (b : List UInt8) (a : Nat) (l : List Tok) (r : List UInt8) (v : Option Int) : Int × TTokenReader := dn' b a l r (spn false r) v
theorem number_eq {b : List UInt8} {a : Nat} {l : List Tok} {c : UInt8} {r : List UInt8} (hr : b.drop a = c :: r) (hb : b.length ≤ 100000) (hl : l.length ≤ 100000) (v : Option Int) (hv : ∀ m0, loopM (digF ((c :: r).take (spn false (c :: r))) m0) ((0 : Int), (0 : Int)) = some (dv m0 v)) :
    token_reader_number (rt b a l) = some (bif decide (4000 ≤ l.length) then ((6 : Int), rt b a l) else bif numBad c r (spn false (c :: r)) (spn true (c :: r)) then (3, rt b a l) else dn b a l (c :: r) v) := by
  obtain ⟨h1, h2, h3⟩ := drop_at hr
  have ha : a ≤ b.length := by omega
  unfold token_reader_number
  change (bif decide ((4000 : Int) ≤ (l.length : Int)) then _ else _) = _
  by_cases q : 4000 ≤ l.length
  · rw [decide_eq_true (by omega), cond_true, decide_eq_true q, cond_true]
  · rw [decide_eq_false (by omega), cond_false, decide_eq_false q, cond_false, span_eq false hb ha, span_eq true hb ha, hr]
    simp only [Option.bind_some]
    have hidx : idx (rt b a l).gB (rt b a l).gAt = some c := by show idx b (a : Int) = _; rw [idx_nat]; exact h1
    rw [hidx, Option.bind_some]
    have hbad : (bif decide (((spn false (c :: r) : Nat) : Int) < ((spn true (c :: r) : Nat) : Int)) then some true else (bif ((c.toNat : Int) == (48 : Int)) then some (decide ((1 : Int) < ((spn false (c :: r) : Nat) : Int))) else some false)) = some (numBad c r (spn false (c :: r)) (spn true (c :: r))) := by
      unfold numBad
      rw [show decide (((spn false (c :: r) : Nat) : Int) < ((spn true (c :: r) : Nat) : Int)) = decide (spn false (c :: r) < spn true (c :: r)) from decide_eq_decide.2 (by omega), show decide ((1 : Int) < ((spn false (c :: r) : Nat) : Int)) = decide (1 < spn false (c :: r)) from decide_eq_decide.2 (by omega)]
      cases decide (spn false (c :: r) < spn true (c :: r)) <;> cases ((c.toNat : Int) == 48) <;> cases decide (1 < spn false (c :: r)) <;> rfl
    rw [hbad, Option.bind_some]
    cases numBad c r (spn false (c :: r)) (spn true (c :: r))
    · simp only [cond_false]
      have hn := spn_le false (c :: r)
      change Option.bind (cutL b (a : Int) (IntKind.i64.wrap ((a : Int) + ((spn false (c :: r) : Nat) : Int)))) _ = _
      rw [cut_eq (by rw [hr]; exact hn) ha hb, Option.bind_some, hr]
      change Option.bind (loopM (digF ((c :: r).take (spn false (c :: r))) (rt b a l)) ((0 : Int), (0 : Int))) _ = _
      rw [hv, Option.bind_some]
      cases v with
      | some y =>
        simp only [dv, dn, dn', Sum.elim_inl]
        rw [add_eq (by rw [hr]; exact hn) ha hb hl, Option.bind_some, decide_eq_false q, cond_false, hr]
      | none => rfl
    · rfl
theorem bind_eta2 {α β : Type} (o : Option (α × β)) : (o.bind fun x => some (x.1, x.2)) = o := by cases o <;> rfl
def twos : List ByteArray := [(ByteArray.mk #[61, 61]), (ByteArray.mk #[33, 61]), (ByteArray.mk #[60, 61]), (ByteArray.mk #[38, 38]), (ByteArray.mk #[124, 124])]
def ones : ByteArray := ByteArray.mk #[40, 41, 123, 125, 91, 93, 59, 44, 61, 60, 43, 45, 42, 47, 37, 33, 38]
def twoB (r : List UInt8) : Bool := decide (1 < r.length) && hasS (txt r 2) twos
def sg (c : UInt8) (r : List UInt8) : Nat := bif twoB (c :: r) then 2 else bif decide (0 ≤ indexB ones (c.toNat : Int)) then 1 else 0
theorem sg_le (c : UInt8) (r : List UInt8) : sg c r ≤ (c :: r).length := by
  unfold sg twoB
  by_cases h : 1 < (c :: r).length
  · cases (decide (1 < (c :: r).length) && hasS (txt (c :: r) 2) twos)
    · cases decide (0 ≤ indexB ones (c.toNat : Int)) <;> simp
    · simp only [cond_true]; omega
  · rw [decide_eq_false h, Bool.false_and, cond_false]
    cases decide (0 ≤ indexB ones (c.toNat : Int)) <;> simp
theorem sign_eq' {b : List UInt8} {a : Nat} {l : List Tok} {c : UInt8} {r : List UInt8} (hr : b.drop a = c :: r) : token_reader_sign (rt b a l) = some ((sg c r : Nat) : Int) := by
  obtain ⟨h1, h2, h3⟩ := drop_at hr
  unfold token_reader_sign
  change Option.bind (cutL b (a : Int) ((b.length : Nat) : Int)) _ = _
  rw [cutL_nat (by omega) (Nat.le_refl _), Option.bind_some, List.take_of_length_le (by simp), hr]
  unfold sg twoB
  by_cases h : 1 < (c :: r).length
  · rw [decide_eq_true (by omega), cond_true, decide_eq_true h, Bool.true_and]
    rw [show cutL (c :: r) 0 2 = some ((c :: r).take 2) from by
      have := cutL_nat (xs := c :: r) (l := 0) (h := 2) (by omega) (by omega)
      simpa using this, Option.bind_some, contains_eq _ _ (by decide), Option.bind_some, Option.bind_some]
    change (bif hasS (txt (c :: r) 2) twos then _ else _) = _
    cases hasS (txt (c :: r) 2) twos
    · simp only [cond_false]
      show Option.bind (some c) _ = _
      rw [Option.bind_some]
      show (bif decide (0 ≤ indexB ones (c.toNat : Int)) then some (1 : Int) else some 0) = _
      cases decide (0 ≤ indexB ones (c.toNat : Int)) <;> rfl
    · rfl
  · rw [decide_eq_false (by omega), cond_false, decide_eq_false h, Bool.false_and, Option.bind_some, cond_false]
    show Option.bind (some c) _ = _
    rw [Option.bind_some]
    show (bif decide (0 ≤ indexB ones (c.toNat : Int)) then some (1 : Int) else some 0) = _
    cases decide (0 ≤ indexB ones (c.toNat : Int)) <;> rfl
theorem next_eq {b : List UInt8} {a : Nat} {l : List Tok} {c : UInt8} {r : List UInt8} (hr : b.drop a = c :: r) (hb : b.length ≤ 100000) (hl : l.length ≤ 100000) : token_reader_next (rt b a l) =
    (bif kd c == 1 then some (0, rt b (a + 1) l) else bif kd c == 2 then token_reader_name (rt b a l) else bif kd c == 3 then token_reader_number (rt b a l)
    else some (bif (sg c r) == 0 then (3, rt b a l) else bif decide (4000 ≤ l.length) then (6, rt b a l) else (0, rt b (a + sg c r) (l ++ [⟨3, txt (c :: r) (sg c r), 0, (a : Int)⟩])))) := by
  obtain ⟨h1, h2, h3⟩ := drop_at hr
  unfold token_reader_next
  have hidx : idx (rt b a l).gB (rt b a l).gAt = some c := by show idx b (a : Int) = _; rw [idx_nat]; exact h1
  rw [hidx, Option.bind_some, kind_eq, Option.bind_some, sign_eq' hr, Option.bind_some, bind_eta2, bind_eta2]
  have hw : IntKind.i64.wrap ((a : Int) + 1) = ((a + 1 : Nat) : Int) := winc (by omega)
  change (bif kd c == 1 then some (0, (⟨b, IntKind.i64.wrap ((a : Int) + 1), l⟩ : TTokenReader)) else _) = _
  rw [hw]
  cases kd c == 1
  · cases kd c == 2
    · cases kd c == 3
      · simp only [cond_false]
        rw [add_eq (by rw [hr]; exact sg_le c r) (by omega) hb hl, Option.bind_some, hr]
        by_cases q : sg c r = 0
        · rw [q]; rfl
        · rw [show (((sg c r : Nat) : Int) == 0) = false by simp; omega, show (sg c r == 0) = false by simp [q]]
          rfl
      · rfl
    · rfl
  · rfl
theorem dg_true {c : UInt8} {r : List UInt8} {w : Bool} (h : dg w c = true) : 1 ≤ spn w (c :: r) := by unfold spn; rw [List.takeWhile_cons, h]; simp
end Go.Proofs.Ytmgklehakmdiiaa.Ab.Pq
namespace Go.Proofs.Ytmgklehakmdiiaa.Ab.Pq
open Go
set_option linter.all false
theorem all256 {p : UInt8 → Bool} (h : (List.range 256).all (fun n => p (UInt8.ofNat n)) = true) (c : UInt8) : p c = true := by
  have := List.all_eq_true.1 h c.toNat (by simp; exact c.toNat_lt)
  simpa using this
noncomputable def tabF (c : UInt8) : Bool := decide (r10_letter (c.toNat : Int) = some (kd c == 2)) && (decide (r10_digit (c.toNat : Int) = some (kd c == 3)) && (((c.toNat : Int) == 32 || ((c.toNat : Int) == 9 || ((c.toNat : Int) == 10 || (c.toNat : Int) == 13))) == (kd c == 1) && (!(kd c == 3) || (decide (48 ≤ c.toNat) && decide (c.toNat ≤ 57)))))
theorem tab_all (c : UInt8) : tabF c = true := all256 (p := tabF) (by kernel_rfl) c
theorem let_eq (c : UInt8) : r10_letter (c.toNat : Int) = some (kd c == 2) := by
  have := tab_all c
  unfold tabF at this
  simp only [Bool.and_eq_true, decide_eq_true_eq] at this
  exact this.1
theorem digit_eq (c : UInt8) : r10_digit (c.toNat : Int) = some (kd c == 3) := by
  have := tab_all c
  unfold tabF at this
  simp only [Bool.and_eq_true, decide_eq_true_eq] at this
  exact this.2.1
theorem blank_eq (c : UInt8) : ((c.toNat : Int) == 32 || ((c.toNat : Int) == 9 || ((c.toNat : Int) == 10 || (c.toNat : Int) == 13))) = (kd c == 1) := by
  have := tab_all c
  unfold tabF at this
  simp only [Bool.and_eq_true, decide_eq_true_eq] at this
  exact eq_of_beq this.2.2.1
theorem digit_rng {c : UInt8} (h : kd c = 3) : 48 ≤ c.toNat ∧ c.toNat ≤ 57 := by
  have := tab_all c
  unfold tabF at this
  simp only [Bool.and_eq_true, decide_eq_true_eq, h] at this
  simpa using this.2.2.2
abbrev ra (r : List UInt8) : ByteArray := ByteArray.mk r.toArray
theorem ra_size (r : List UInt8) : (ra r).size = r.length := by simp [ra, ByteArray.size]
theorem bAt_ra (r : List UInt8) (i : Int) : bAt (ra r) i = idx r i := by unfold bAt; simp [ra]
theorem cutS_ra {r : List UInt8} {n : Nat} (h : n ≤ r.length) : cutS (ra r) 0 (n : Int) = some (txt r n) := by
  unfold cutS
  rw [ra_size, decide_eq_true (by omega), decide_eq_true (by omega), decide_eq_true (by omega)]
  simp only [Bool.and_self, cond_true]
  congr 1
  unfold txt
  apply ByteArray.ext
  simp [ByteArray.data_extract]
theorem cutS_end {r : List UInt8} {n : Nat} (h : n ≤ r.length) : cutS (ra r) (n : Int) ((ra r).size : Int) = some (ra (r.drop n)) := by
  unfold cutS
  rw [ra_size, decide_eq_true (by omega), decide_eq_true (by omega), decide_eq_true (by omega)]
  simp only [Bool.and_self, cond_true]
  congr 1
  apply ByteArray.ext
  simp only [ByteArray.data_extract]
  simp only [List.extract_toArray, List.extract_eq_take_drop, ra]
  rw [List.take_of_length_le (by simp)]; simp
def dig (c : UInt8) : Nat := c.toNat - 48
def valF (v : Nat) (l : List UInt8) : Nat := l.foldl (fun v c => 10 * v + dig c) v
theorem valF_ge : ∀ (l : List UInt8) (v : Nat), v ≤ valF v l
  | [], v => Nat.le_refl _
  | c :: l, v => by
    have := valF_ge l (10 * v + dig c)
    show v ≤ valF (10 * v + dig c) l
    omega
theorem valF_big : ∀ (l : List UInt8) (v : Nat), v * 10 ^ l.length ≤ valF v l
  | [], v => by simp [valF]
  | c :: l, v => by
    have := valF_big l (10 * v + dig c)
    show v * 10 ^ (l.length + 1) ≤ valF (10 * v + dig c) l
    refine Nat.le_trans ?_ this
    rw [Nat.pow_succ]
    have e : v * (10 ^ l.length * 10) = (10 * v) * 10 ^ l.length := by
      rw [Nat.mul_comm (10 ^ l.length) 10, ← Nat.mul_assoc, Nat.mul_comm v 10]
    rw [e]
    exact Nat.mul_le_mul_right _ (by omega)
def nv (v : Nat) : Option Int := if v ≤ 9223372036854775807 then some (v : Int) else none
theorem w8 {c : UInt8} (h : 48 ≤ c.toNat ∧ c.toNat ≤ 57) : IntKind.u64.wrap (IntKind.u8.wrap ((c.toNat : Int) - 48)) = (dig c : Int) := by
  unfold dig
  rw [IntKind.wrap_u64]
  have : IntKind.u8.wrap ((c.toNat : Int) - 48) = (c.toNat : Int) - 48 := by
    have h8 : ∀ x : Int, 0 ≤ x → x < 256 → IntKind.u8.wrap x = x := by
      intro x h0 h1
      show x % _ = x
      exact Int.emod_eq_of_lt h0 h1
    exact h8 _ (by omega) (by omega)
  rw [this]; omega
theorem dig_val (ds : List UInt8) (hd : ds.length ≤ 100000) (hr : ∀ c ∈ ds, 48 ≤ c.toNat ∧ c.toNat ≤ 57) (m0 : TTokenReader) : loopM (digF ds m0) ((0 : Int), (0 : Int)) = some (dv m0 (nv (valF 0 ds))) := by
  have key : ∀ (post pre : List UInt8) (acc : Nat), ds = pre ++ post → acc ≤ 9223372036854775807 → loopM (digF ds m0) ((acc : Int), ((pre.length : Nat) : Int)) = some (dv m0 (nv (valF acc post))) := by
    intro post
    induction post with
    | nil =>
      intro pre acc h ha
      rw [List.append_nil] at h; subst h
      refine loopM_done ?_
      unfold digF; simp only []; rw [lt_end, cond_false]
      rw [show valF acc [] = acc from rfl]
      unfold nv; rw [if_pos ha]; rfl
    | cons x post ih =>
      intro pre acc h ha
      have hx := hr x (by rw [h]; simp)
      have hd9 : dig x ≤ 9 := by unfold dig; omega
      have hf : digF ds m0 ((acc : Int), ((pre.length : Nat) : Int)) = (bif (decide ((IntKind.u64.wrap ((IntKind.u64.wrap ((9223372036854775807 : Int) - (dig x : Int))).tdiv (10 : Int))) < (acc : Int))) then some (.done (.inr ((4 : Int), m0))) else some (.next ((IntKind.u64.wrap ((IntKind.u64.wrap ((10 : Int) * (acc : Int))) + (dig x : Int))), ((pre.length + 1 : Nat) : Int)))) := by
        unfold digF
        simp only []
        rw [lt_pre h, cond_true, idx_pre2 h rfl, Option.bind_some, inc_pre h (by omega), w8 hx]
      have e1 : IntKind.u64.wrap ((IntKind.u64.wrap ((9223372036854775807 : Int) - (dig x : Int))).tdiv 10) = (((9223372036854775807 - dig x) / 10 : Nat) : Int) := by
        have h1 : IntKind.u64.wrap ((9223372036854775807 : Int) - (dig x : Int)) = ((9223372036854775807 - dig x : Nat) : Int) := by rw [IntKind.wrap_u64]; omega
        rw [h1, IntKind.wrap_u64, show (((9223372036854775807 - dig x : Nat) : Int)).tdiv 10 = (((9223372036854775807 - dig x) / 10 : Nat) : Int) from rfl]; omega
      rw [e1] at hf
      have hge := valF_ge post (10 * acc + dig x)
      have ev : valF acc (x :: post) = valF (10 * acc + dig x) post := rfl
      by_cases q : (9223372036854775807 - dig x) / 10 < acc
      · rw [decide_eq_true (by omega), cond_true] at hf
        rw [loopM_done hf, ev]
        unfold nv; rw [if_neg (by omega)]; rfl
      · rw [decide_eq_false (by omega), cond_false] at hf
        rw [loopM_next hf, ev]
        have := ih (pre ++ [x]) (10 * acc + dig x) (by simp [h]) (by omega)
        rw [show IntKind.u64.wrap (IntKind.u64.wrap (10 * (acc : Int)) + (dig x : Int)) = ((10 * acc + dig x : Nat) : Int) by rw [IntKind.wrap_u64, IntKind.wrap_u64]; omega]
        simpa using this
  exact key ds [] 0 rfl (by omega)
theorem rnum_eq {c : UInt8} {r : List UInt8} (hl : (c :: r).length ≤ 100000) (hr : ∀ x ∈ c :: r, 48 ≤ x.toNat ∧ x.toNat ≤ 57) : r10_number (ra (c :: r)) = some (bif (c.toNat : Int) == 48 && decide (1 < (c :: r).length) then ((0 : Int), (3 : Int)) else match nv (valF 0 (c :: r)) with
    | some y => (IntKind.i64.wrap y, (0 : Int))
    | none => ((0 : Int), (4 : Int))) := by
  unfold r10_number
  rw [bAt_ra, show idx (c :: r) 0 = some c from rfl, Option.bind_some, ra_size]
  have hd9 : ∀ x ∈ c :: r, dig x ≤ 9 := fun x hx => by have := hr x hx; unfold dig; omega
  cases h48 : ((c.toNat : Int) == 48) && decide (1 < (c :: r).length)
  rotate_left
  · rw [Bool.and_eq_true, decide_eq_true_eq] at h48
    rw [h48.1, cond_true, decide_eq_true (by omega)]; rfl
  · have hb : (bif (c.toNat : Int) == 48 then some (decide ((1 : Int) < (((c :: r).length : Nat) : Int))) else some false) = some false := by
      cases q : (c.toNat : Int) == 48
      · rfl
      · rw [q, Bool.true_and] at h48
        have := of_decide_eq_false h48
        rw [cond_true, decide_eq_false (by omega)]
    rw [hb, Option.bind_some, cond_false, cond_false]
    by_cases q : 19 < (c :: r).length
    · rw [loopM_done (t := .inr ((0 : Int), (4 : Int))) ?_]
      · have hbig : ¬ valF 0 (c :: r) ≤ 9223372036854775807 := by
          have hc := hr c (by simp)
          have h1 : 1 ≤ dig c := by
            have : (c.toNat : Int) ≠ 48 := by
              intro e
              rw [e, decide_eq_true (show 1 < (c :: r).length by omega)] at h48
              simp at h48
            unfold dig; omega
          have h2 := valF_big r (dig c)
          have h3 : valF 0 (c :: r) = valF (dig c) r := by simp [valF]
          have h4 : 10 ^ 19 ≤ 10 ^ r.length := Nat.pow_le_pow_right (by omega) (by simp at q; omega)
          have h5 : 1 * 10 ^ r.length ≤ dig c * 10 ^ r.length := Nat.mul_le_mul_right _ h1
          have h6 : (10 : Nat) ^ 19 = 10000000000000000000 := by decide
          omega
        unfold nv; rw [if_neg hbig]; rfl
      · simp only []
        rw [decide_eq_true (show (0 : Int) < (((c :: r).length : Nat) : Int) by simp), cond_true, decide_eq_true (show (19 : Int) < (((c :: r).length : Nat) : Int) by omega), cond_true]
    · have key : ∀ (post pre : List UInt8) (acc : Nat), c :: r = pre ++ post → acc < 10 ^ pre.length → acc = valF 0 pre →
          loopM (fun (s24 : Int × Int) => (bif (decide (s24.2 < (((c :: r).length : Nat) : Int))) then (bif (decide ((19 : Int) < (((c :: r).length : Nat) : Int))) then some (Step.done (Sum.inr (α := Int) ((0 : Int), (4 : Int)))) else ((bAt (ra (c :: r)) s24.2).bind fun x36 => some (.next ((IntKind.u64.wrap ((IntKind.u64.wrap (s24.1 * (10 : Int))) + (IntKind.u64.wrap (IntKind.u8.wrap ((x36.toNat : Int) - (48 : Int)))))), (IntKind.i64.wrap (s24.2 + (1 : Int))))))) else some (.done (.inl s24.1)))) ((acc : Int), ((pre.length : Nat) : Int)) = some (.inl ((valF acc post : Nat) : Int)) := by
        intro post
        induction post with
        | nil =>
          intro pre acc h ha hv
          rw [List.append_nil] at h
          refine loopM_done ?_
          simp only []
          rw [h, lt_end, cond_false]; rfl
        | cons x post ih =>
          intro pre acc h ha hv
          have hx := hr x (by rw [h]; simp)
          have hx9 : dig x ≤ 9 := by unfold dig; omega
          have hpl : pre.length ≤ 18 := by
            have := congrArg List.length h
            simp only [List.length_append, List.length_cons] at this q
            omega
          have h18 : 10 ^ pre.length ≤ 10 ^ 18 := Nat.pow_le_pow_right (by omega) hpl
          have h6 : (10 : Nat) ^ 18 = 1000000000000000000 := by decide
          rw [loopM_next (s' := ((((10 * acc + dig x : Nat)) : Int), ((pre.length + 1 : Nat) : Int))) ?_]
          · have := ih (pre ++ [x]) (10 * acc + dig x) (by simp [h]) (by rw [List.length_append, List.length_singleton, Nat.pow_succ]; omega) (by rw [hv]; simp [valF])
            simpa [valF] using this
          · simp only []
            rw [lt_pre h, cond_true, decide_eq_false (by omega), cond_false, bAt_ra, idx_pre2 h rfl, Option.bind_some, inc_pre h (by omega), w8 hx]
            rw [show IntKind.u64.wrap (IntKind.u64.wrap ((acc : Int) * 10) + (dig x : Int)) = ((10 * acc + dig x : Nat) : Int) by rw [IntKind.wrap_u64, IntKind.wrap_u64]; omega]
      have := key (c :: r) [] 0 rfl (by simp) rfl
      simp only [List.length_nil] at this
      rw [show ((0 : Nat) : Int) = 0 from rfl] at this
      rw [this, Option.bind_some, Sum.elim_inl]
      unfold nv
      by_cases hm : valF 0 (c :: r) ≤ 9223372036854775807
      · rw [if_pos hm, decide_eq_false (by omega), cond_false]
      · rw [if_neg hm, decide_eq_true (by omega), cond_true]
theorem rin_eq (l : List ByteArray) (s : ByteArray) (hl : l.length ≤ 1000) : r10_in l s = some (hasS s l) := by
  unfold r10_in
  have key : ∀ (post pre : List ByteArray), l = pre ++ post → hasS s pre = false → loopM (fun (s15 : Int) => (bif (decide (s15 < (l.length : Int))) then ((idx l s15).bind fun x25 => (bif (decide (x25 = s)) then some (Step.done (Sum.inr (α := Unit) true)) else some (.next (IntKind.i64.wrap (s15 + (1 : Int)))))) else some (.done (.inl ())))) ((pre.length : Nat) : Int) = some (bif hasS s l then .inr true else .inl ()) := by
    intro post
    induction post with
    | nil =>
      intro pre h hs
      rw [List.append_nil] at h; subst h
      exact loopM_done (by rw [lt_end, cond_false, hs, cond_false])
    | cons x post ih =>
      intro pre h hs
      have hf : (bif (decide (((pre.length : Nat) : Int) < (l.length : Int))) then ((idx l ((pre.length : Nat) : Int)).bind fun x25 => (bif (decide (x25 = s)) then some (Step.done (Sum.inr (α := Unit) true)) else some (.next (IntKind.i64.wrap (((pre.length : Nat) : Int) + (1 : Int)))))) else some (.done (.inl ()))) = (bif decide (x = s) then some (Step.done (Sum.inr (α := Unit) true)) else some (.next ((pre.length + 1 : Nat) : Int))) := by
        rw [lt_pre h, cond_true, idx_pre2 h rfl, Option.bind_some, inc_pre h (by omega)]
      by_cases q : x = s
      · rw [decide_eq_true q, cond_true] at hf
        rw [loopM_done hf, show hasS s l = true by rw [h, q]; simp [hasS], cond_true]
      · rw [decide_eq_false q, cond_false] at hf
        rw [loopM_next hf]
        have := ih (pre ++ [x]) (by simp [h]) (by unfold hasS at hs ⊢; rw [List.any_append, hs]; simp [Ne.symm q])
        simpa using this
  have := key l [] rfl rfl
  simp only [List.length_nil] at this
  rw [show ((0 : Nat) : Int) = 0 from rfl] at this
  rw [this, Option.bind_some]
  cases hasS s l <;> rfl
theorem rword_eq (s : ByteArray) : r10_Word s = some (wd s) := by
  unfold r10_Word
  rw [rin_eq _ _ (by decide), Option.bind_some]
  unfold wd token_Word
  rw [contains_eq _ _ (by decide), Option.bind_some]
  simp only [Option.getD_some]
  congr 1
  unfold hasS
  simp only [List.any_cons, List.any_nil, Bool.or_false]
  ac_rfl
end Go.Proofs.Ytmgklehakmdiiaa.Ab.Pq
namespace Go.Proofs.Ytmgklehakmdiiaa.Ab.Pq
open Go
set_option linter.all false
theorem txt_size {r : List UInt8} {n : Nat} (h : n ≤ r.length) : (txt r n).size = n := by
  unfold txt ByteArray.size
  simp [h]
theorem spn_cons (w : Bool) (c : UInt8) (r : List UInt8) : spn w (c :: r) = bif dg w c then spn w r + 1 else 0 := by
  unfold spn
  rw [List.takeWhile_cons]
  cases dg w c <;> simp
theorem dgT (c : UInt8) : dg true c = (kd c == 2 || kd c == 3) := by unfold dg; rw [Bool.true_and, Bool.or_comm]
theorem dgF (c : UInt8) : dg false c = (kd c == 3) := by unfold dg; simp
theorem spn_dig : ∀ (l : List UInt8), ∀ x ∈ l.take (spn false l), kd x = 3
  | [], x, h => by simp at h
  | c :: l, x, h => by
    rw [spn_cons, dgF] at h
    cases h3 : kd c == 3
    · rw [h3, cond_false, List.take_zero] at h; simp at h
    · rw [h3, cond_true, List.take_succ_cons, List.mem_cons] at h
      rcases h with h | h
      · subst h; simpa using h3
      · exact spn_dig l x h
noncomputable def run1 (R : ByteArray) (s27 : Int) : Option (Step Int Int) := (bif (decide (s27 < (R.size : Int))) then ((bAt R s27).bind fun x45 => ((r10_letter (x45.toNat : Int)).bind fun x46 => (bif x46 then some (.next (IntKind.i64.wrap (s27 + (1 : Int)))) else ((bAt R s27).bind fun x48 => ((r10_digit (x48.toNat : Int)).bind fun x49 => (bif x49 then some (.next (IntKind.i64.wrap (s27 + (1 : Int)))) else some (.done s27))))))) else some (.done s27))
theorem run1_eq (r : List UInt8) (hr : r.length ≤ 100000) : loopM (run1 (ra r)) 0 = some ((spn true r : Nat) : Int) := by
  have key : ∀ (post pre : List UInt8), r = pre ++ post → loopM (run1 (ra r)) ((pre.length : Nat) : Int) = some (((pre.length + spn true post : Nat)) : Int) := by
    intro post
    induction post with
    | nil =>
      intro pre h
      rw [List.append_nil] at h; subst h
      refine loopM_done ?_
      unfold run1
      rw [ra_size, lt_end, cond_false]; simp [spn]
    | cons x post ih =>
      intro pre h
      have hf : run1 (ra r) ((pre.length : Nat) : Int) = (bif dg true x then some (.next ((pre.length + 1 : Nat) : Int)) else some (.done ((pre.length : Nat) : Int))) := by
        unfold run1
        rw [ra_size, lt_pre h, cond_true, bAt_ra, idx_pre2 h rfl, Option.bind_some, let_eq, Option.bind_some, Option.bind_some, digit_eq, Option.bind_some, inc_pre h (by omega), dgT]
        cases kd x == 2 <;> cases kd x == 3 <;> rfl
      rw [spn_cons]
      cases hd : dg true x
      · rw [hd, cond_false] at hf
        rw [loopM_done hf]; simp
      · rw [hd, cond_true] at hf
        rw [loopM_next hf]
        have := ih (pre ++ [x]) (by simp [h])
        rw [List.length_append, List.length_singleton] at this
        rw [this, cond_true]
        congr 2; omega
  have := key r [] rfl
  simpa using this
noncomputable def run2 (R : ByteArray) (n : Int) (s140 : Int) : Option (Step Int (Unit ⊕ (Tok × Int))) := (bif (decide (s140 < n)) then ((bAt R s140).bind fun x152 => ((r10_letter (x152.toNat : Int)).bind fun x153 => (bif x153 then some (.done (.inr ((⟨(0 : Int), ByteArray.empty, (0 : Int), (0 : Int)⟩ : TApiToken), (3 : Int)))) else some (.next (IntKind.i64.wrap (s140 + (1 : Int))))))) else some (.done (.inl ())))
theorem run2_eq (r : List UInt8) (hr : r.length ≤ 100000) : loopM (run2 (ra r) ((spn true r : Nat) : Int)) 0 = some (bif decide (spn false r < spn true r) then .inr (z0, 3) else .inl ()) := by
  have key : ∀ (post pre : List UInt8), r = pre ++ post → spn true r = pre.length + spn true post → loopM (run2 (ra r) ((spn true r : Nat) : Int)) ((pre.length : Nat) : Int) = some (bif decide (spn false post < spn true post) then .inr (z0, 3) else .inl ()) := by
    intro post
    induction post with
    | nil =>
      intro pre h hn
      refine loopM_done ?_
      unfold run2
      rw [hn, decide_eq_false (by simp [spn]), cond_false]
      simp [spn]
    | cons x post ih =>
      intro pre h hn
      rw [spn_cons, dgT] at hn
      rw [spn_cons, spn_cons, dgT, dgF]
      have hf : run2 (ra r) ((spn true r : Nat) : Int) ((pre.length : Nat) : Int) = (bif decide (pre.length < spn true r) then (bif kd x == 2 then some (.done (.inr (z0, 3))) else some (.next ((pre.length + 1 : Nat) : Int))) else some (.done (.inl ()))) := by
        unfold run2
        rw [bAt_ra, idx_pre2 h rfl, Option.bind_some, let_eq, Option.bind_some, inc_pre h (by omega)]
        rw [show decide (((pre.length : Nat) : Int) < ((spn true r : Nat) : Int)) = decide (pre.length < spn true r) from decide_eq_decide.2 (by omega)]
        cases kd x == 2 <;> rfl
      cases h2 : kd x == 2
      · cases h3 : kd x == 3
        · rw [h2, h3, Bool.or_false, cond_false] at hn
          rw [decide_eq_false (by omega), cond_false] at hf
          rw [loopM_done hf]; rfl
        · rw [h2, h3, Bool.or_true, cond_true] at hn
          rw [decide_eq_true (by omega), cond_true, h2, cond_false] at hf
          rw [loopM_next hf]
          have := ih (pre ++ [x]) (by simp [h]) (by rw [List.length_append, List.length_singleton]; omega)
          rw [List.length_append, List.length_singleton] at this
          rw [this, Bool.or_true, cond_true, cond_true]
          rw [show decide (spn false post < spn true post) = decide (spn false post + 1 < spn true post + 1) from decide_eq_decide.2 (by omega)]
      · have h3 : (kd x == 3) = false := by
          have : kd x = 2 := by simpa using h2
          rw [this]; rfl
        rw [h2, Bool.true_or, cond_true] at hn
        rw [decide_eq_true (by omega), cond_true, h2, cond_true] at hf
        rw [loopM_done hf, Bool.true_or, h3, cond_true, cond_false, decide_eq_true (by omega), cond_true]
  have := key r [] rfl (by simp)
  simpa using this
def preB (r : List UInt8) (x : ByteArray) : Bool := decide (x.size ≤ r.length) && decide (txt r x.size = x)
noncomputable def run3 (R : ByteArray) (l : List ByteArray) (a1 : Bool) (s204 : Int) : Option (Step Int (Unit ⊕ (Tok × Int))) := (bif (decide (s204 < (l.length : Int))) then ((idx l s204).bind fun x232 => (Option.bind (α := Bool) (bif (decide ((x232.size : Int) ≤ (R.size : Int))) then ((cutS R (0 : Int) (x232.size : Int)).bind fun x238 => ((idx l s204).bind fun x239 => some (decide (x238 = x239)))) else some false) fun y236 => (bif y236 then (bif a1 then some (.done (.inr ((⟨(0 : Int), ByteArray.empty, (0 : Int), (0 : Int)⟩ : TApiToken), (6 : Int)))) else ((idx l s204).bind fun x243 => some (.done (.inr ((⟨(3 : Int), x243, (0 : Int), (0 : Int)⟩ : TApiToken), (0 : Int)))))) else some (.next (IntKind.i64.wrap (s204 + (1 : Int))))))) else some (.done (.inl ())))
def rs3 (many : Bool) : Option ByteArray → Unit ⊕ (Tok × Int)
  | none => .inl ()
  | some x => .inr (bif many then (z0, 6) else (⟨3, x, 0, 0⟩, 0))
theorem run3_eq (r : List UInt8) (l : List ByteArray) (many : Bool) (hl : l.length ≤ 100000) : loopM (run3 (ra r) l many) 0 = some (rs3 many (l.find? (preB r))) := by
  have key : ∀ (post pre : List ByteArray), l = pre ++ post → loopM (run3 (ra r) l many) ((pre.length : Nat) : Int) = some (rs3 many (post.find? (preB r))) := by
    intro post
    induction post with
    | nil =>
      intro pre h
      rw [List.append_nil] at h; subst h
      refine loopM_done ?_
      unfold run3
      rw [lt_end, cond_false]; rfl
    | cons x post ih =>
      intro pre h
      have hf : run3 (ra r) l many ((pre.length : Nat) : Int) = (bif preB r x then some (.done (rs3 many (some x))) else some (.next ((pre.length + 1 : Nat) : Int))) := by
        unfold run3
        rw [lt_pre h, cond_true, idx_pre2 h rfl]
        simp only [Option.bind_some]
        rw [inc_pre h (by omega), ra_size r]
        unfold preB
        by_cases q : x.size ≤ r.length
        · rw [decide_eq_true (by omega), cond_true, cutS_ra q, Option.bind_some, Option.bind_some, decide_eq_true q, Bool.true_and]
          cases decide (txt r x.size = x) <;> cases many <;> rfl
        · rw [decide_eq_false (by omega), cond_false, Option.bind_some, cond_false, decide_eq_false q, Bool.false_and, cond_false]
      rw [List.find?_cons]
      cases hp : preB r x
      · rw [hp, cond_false] at hf
        rw [loopM_next hf]
        have := ih (pre ++ [x]) (by simp [h])
        simpa using this
      · rw [hp, cond_true] at hf
        exact loopM_done hf
  have := key l [] rfl
  simpa using this
theorem find_len (r : List UInt8) (k : Nat) (l : List ByteArray) (hl : ∀ x ∈ l, x.size = k) : l.find? (preB r) = bif decide (k ≤ r.length) && hasS (txt r k) l then some (txt r k) else none := by
  cases hb : decide (k ≤ r.length) && hasS (txt r k) l
  · rw [cond_false, List.find?_eq_none]
    intro x hx hp
    unfold preB at hp
    rw [hl x hx, Bool.and_eq_true, decide_eq_true_eq, decide_eq_true_eq] at hp
    rw [decide_eq_true hp.1, Bool.true_and] at hb
    unfold hasS at hb
    rw [List.any_eq_false] at hb
    exact hb x hx (by rw [hp.2]; simp)
  · rw [cond_true]
    rw [Bool.and_eq_true, decide_eq_true_eq] at hb
    obtain ⟨h1, h2⟩ := hb
    unfold hasS at h2
    rw [List.any_eq_true] at h2
    obtain ⟨x, hx, he⟩ := h2
    have hex : x = txt r k := (of_decide_eq_true he).symm
    cases hf : l.find? (preB r) with
    | none =>
      rw [List.find?_eq_none] at hf
      exact absurd (by unfold preB; rw [hl x hx, decide_eq_true h1, hex]; simp) (hf x hx)
    | some y =>
      have hp := List.find?_some hf
      have hm := List.mem_of_find?_eq_some hf
      unfold preB at hp
      rw [hl y hm, Bool.and_eq_true, decide_eq_true_eq, decide_eq_true_eq] at hp
      rw [hp.2]
def onesL : List ByteArray := [(ByteArray.mk #[40]), (ByteArray.mk #[41]), (ByteArray.mk #[123]), (ByteArray.mk #[125]), (ByteArray.mk #[91]), (ByteArray.mk #[93]), (ByteArray.mk #[59]), (ByteArray.mk #[44]), (ByteArray.mk #[61]), (ByteArray.mk #[60]), (ByteArray.mk #[43]), (ByteArray.mk #[45]), (ByteArray.mk #[42]), (ByteArray.mk #[47]), (ByteArray.mk #[37]), (ByteArray.mk #[33]), (ByteArray.mk #[38])]
theorem ones_eq (c : UInt8) : hasS (ByteArray.mk #[c]) onesL = decide (0 ≤ indexB ones (c.toNat : Int)) := by
  have := all256 (p := fun c => hasS (ByteArray.mk #[c]) onesL == decide (0 ≤ indexB ones (c.toNat : Int))) (by kernel_rfl) c
  exact eq_of_beq this
theorem find_sg (c : UInt8) (r : List UInt8) : (twos ++ onesL).find? (preB (c :: r)) = bif sg c r == 0 then none else some (txt (c :: r) (sg c r)) := by
  rw [List.find?_append, find_len (c :: r) 2 twos (by intro x hx; revert x; simp only [twos, List.forall_mem_cons]; exact ⟨rfl, rfl, rfl, rfl, rfl, by simp⟩), find_len (c :: r) 1 onesL (by intro x hx; simp only [onesL, List.mem_cons, List.not_mem_nil, or_false] at hx; rcases hx with h | h | h | h | h | h | h | h | h | h | h | h | h | h | h | h | h <;> (subst h; rfl))]
  rw [show txt (c :: r) 1 = ByteArray.mk #[c] from rfl, ones_eq]
  unfold sg twoB
  rw [show decide (2 ≤ (c :: r).length) = decide (1 < (c :: r).length) from rfl]
  cases decide (1 < (c :: r).length) && hasS (txt (c :: r) 2) twos
  · rw [decide_eq_true (show 1 ≤ (c :: r).length by simp), Bool.true_and]
    cases decide (0 ≤ indexB ones (c.toNat : Int)) <;> rfl
  · rfl
theorem one_eq {b : List UInt8} {a : Nat} {l : List Tok} {c : UInt8} {r : List UInt8} (hr : b.drop a = c :: r) (hb : b.length ≤ 100000) (hl : l.length ≤ 100000) (hk : kd c ≠ 1) :
    ∃ t e, r10_one (ra (c :: r)) (decide ((4000 : Int) ≤ (l.length : Int))) = some (t, e) ∧ ((e ≠ 0 ∧ token_reader_next (rt b a l) = some (e, rt b a l)) ∨
      (e = 0 ∧ l.length < 4000 ∧ 1 ≤ t.gText.size ∧ t.gText.size ≤ (c :: r).length ∧ token_reader_next (rt b a l) = some (0, rt b (a + t.gText.size) (l ++ [⟨t.gKind, t.gText, t.gN, (a : Int)⟩])))) := by
  have hlen : (c :: r).length ≤ 100000 := by rw [← hr, List.length_drop]; omega
  have e := next_eq hr hb hl
  rw [show (kd c == 1) = false by simp [hk], cond_false] at e
  have h1 : r10_one (ra (c :: r)) (decide ((4000 : Int) ≤ (l.length : Int))) = (bif kd c == 2 then some (bif decide (20 < spn true (c :: r)) || decide (4000 ≤ l.length) then (z0, 6) else (⟨bif wd (txt (c :: r) (spn true (c :: r))) then 3 else 1, txt (c :: r) (spn true (c :: r)), 0, 0⟩, (0 : Int)))
      else bif kd c == 3 then (bif decide (4000 ≤ l.length) then some (z0, 6) else bif decide (spn false (c :: r) < spn true (c :: r)) then some (z0, 3) else ((r10_number (txt (c :: r) (spn true (c :: r)))).bind fun x157 => (bif (x157.2 != (0 : Int)) then some (z0, x157.2) else some (⟨2, txt (c :: r) (spn true (c :: r)), x157.1, 0⟩, (0 : Int)))))
      else some (bif sg c r == 0 then (z0, 3) else bif decide (4000 ≤ l.length) then (z0, 6) else (⟨3, txt (c :: r) (sg c r), 0, 0⟩, (0 : Int)))) := by
    unfold r10_one
    change Option.bind (loopM (run1 (ra (c :: r))) 0) _ = _
    rw [run1_eq _ hlen, Option.bind_some, bAt_ra, show idx (c :: r) 0 = some c from rfl]
    rw [Option.bind_some, let_eq, Option.bind_some, Option.bind_some, digit_eq, Option.bind_some]
    rw [show decide ((4000 : Int) ≤ (l.length : Int)) = decide (4000 ≤ l.length) from decide_eq_decide.2 (by omega), show decide ((20 : Int) < ((spn true (c :: r) : Nat) : Int)) = decide (20 < spn true (c :: r)) from decide_eq_decide.2 (by omega)]
    cases kd c == 2
    · cases kd c == 3
      · simp only [cond_false]
        change Option.bind (loopM (run3 (ra (c :: r)) (twos ++ onesL) (decide (4000 ≤ l.length))) 0) _ = _
        rw [run3_eq _ _ _ (by decide), Option.bind_some, find_sg]
        cases sg c r == 0
        · simp only [cond_false, rs3, Sum.elim_inr]
        · rfl
      · simp only [cond_false, cond_true]
        cases decide (4000 ≤ l.length)
        · simp only [cond_false]
          change Option.bind (loopM (run2 (ra (c :: r)) ((spn true (c :: r) : Nat) : Int)) 0) _ = _
          rw [run2_eq _ hlen, Option.bind_some]
          cases decide (spn false (c :: r) < spn true (c :: r))
          · simp only [cond_false, Sum.elim_inl]
            rw [cutS_ra (spn_le _ _), Option.bind_some]; rfl
          · rfl
        · rfl
    · simp only [cond_true]
      rw [cutS_ra (spn_le _ _), Option.bind_some, rword_eq, Option.bind_some, Option.bind_some, Option.bind_some]
      cases decide (20 < spn true (c :: r)) <;> cases decide (4000 ≤ l.length) <;> cases wd (txt (c :: r) (spn true (c :: r))) <;> rfl
  rw [h1]
  have ha : a ≤ b.length := by have := (drop_at hr).2.1; omega
  cases k2 : kd c == 2
  rotate_left
  · rw [k2, cond_true, name2_eq ha hb hl, hr] at e
    rw [cond_true]
    by_cases q : 20 < spn true (c :: r)
    · rw [decide_eq_true q, cond_true] at e
      rw [decide_eq_true q]
      exact ⟨z0, 6, rfl, .inl ⟨by decide, e⟩⟩
    · rw [decide_eq_false q, cond_false] at e
      rw [decide_eq_false q, Bool.false_or]
      by_cases q2 : 4000 ≤ l.length
      · rw [decide_eq_true q2, cond_true] at e
        rw [decide_eq_true q2]
        exact ⟨z0, 6, rfl, .inl ⟨by decide, e⟩⟩
      · rw [decide_eq_false q2, cond_false] at e
        rw [decide_eq_false q2]
        refine ⟨_, _, rfl, .inr ⟨rfl, by omega, ?_, ?_, ?_⟩⟩
        · show 1 ≤ (txt (c :: r) (spn true (c :: r))).size
          rw [txt_size (spn_le _ _)]
          exact dg_true (by rw [dgT, k2]; rfl)
        · show (txt (c :: r) (spn true (c :: r))).size ≤ _
          rw [txt_size (spn_le _ _)]; exact spn_le _ _
        · show _ = some ((0 : Int), rt b (a + (txt (c :: r) (spn true (c :: r))).size) _)
          rw [txt_size (spn_le _ _), e]
  rw [k2, cond_false] at e
  rw [cond_false]
  cases k3 : kd c == 3
  rotate_left
  · have k3' : kd c = 3 := by simpa using k3
    rw [k3, cond_true] at e
    rw [cond_true]
    have hrng : ∀ x ∈ (c :: r).take (spn false (c :: r)), 48 ≤ x.toNat ∧ x.toNat ≤ 57 := by
      intro x hx
      exact digit_rng (spn_dig _ x hx)
    have hn1 : 1 ≤ spn false (c :: r) := dg_true (by rw [dgF, k3])
    rw [number_eq hr hb hl (nv (valF 0 ((c :: r).take (spn false (c :: r))))) (fun m0 => dig_val _ (by have := spn_le false (c :: r); rw [List.length_take]; omega) hrng m0)] at e
    by_cases q2 : 4000 ≤ l.length
    · rw [decide_eq_true q2, cond_true] at e
      rw [decide_eq_true q2]
      exact ⟨z0, 6, rfl, .inl ⟨by decide, e⟩⟩
    rw [decide_eq_false q2, cond_false] at e
    rw [decide_eq_false q2, cond_false]
    unfold numBad at e
    by_cases q3 : spn false (c :: r) < spn true (c :: r)
    · rw [decide_eq_true q3, Bool.true_or, cond_true] at e
      rw [decide_eq_true q3]
      exact ⟨z0, 3, rfl, .inl ⟨by decide, e⟩⟩
    rw [decide_eq_false q3, Bool.false_or] at e
    rw [decide_eq_false q3, cond_false]
    have hle : spn false (c :: r) ≤ spn true (c :: r) := by
      have : ∀ x : List UInt8, spn false x ≤ spn true x := by
        intro x
        induction x with
        | nil => simp [spn]
        | cons y x ih =>
          rw [spn_cons, spn_cons, dgT, dgF]
          cases kd y == 2 <;> cases kd y == 3 <;> simp <;> omega
      exact this _
    have heq : spn true (c :: r) = spn false (c :: r) := by omega
    rw [heq]
    obtain ⟨n, hn⟩ : ∃ n, spn false (c :: r) = n + 1 := ⟨spn false (c :: r) - 1, by omega⟩
    have hnl := spn_le false (c :: r)
    have htx : txt (c :: r) (spn false (c :: r)) = ra (c :: r.take n) := by rw [hn]; rfl
    have htk : (c :: r).take (spn false (c :: r)) = c :: r.take n := by rw [hn]; rfl
    have hln : (c :: r.take n).length = spn false (c :: r) := by rw [← htk, List.length_take]; omega
    rw [htk] at hrng e
    rw [htx, rnum_eq (by rw [hln]; omega) hrng, Option.bind_some, ← htx, hln]
    cases h48 : (c.toNat : Int) == 48 && decide (1 < spn false (c :: r))
    rotate_left
    · rw [h48, cond_true] at e
      exact ⟨z0, 3, rfl, .inl ⟨by decide, e⟩⟩
    rw [h48, cond_false] at e
    rw [cond_false]
    cases hv : nv (valF 0 (c :: r.take n)) with
    | none =>
      rw [hv] at e
      exact ⟨z0, 4, rfl, .inl ⟨by decide, e⟩⟩
    | some y =>
      rw [hv] at e
      refine ⟨_, _, rfl, .inr ⟨rfl, by omega, ?_, ?_, ?_⟩⟩
      · show 1 ≤ (txt (c :: r) (spn false (c :: r))).size
        rw [txt_size hnl]; exact hn1
      · show (txt (c :: r) (spn false (c :: r))).size ≤ _
        rw [txt_size hnl]; exact hnl
      · show _ = some ((0 : Int), rt b (a + (txt (c :: r) (spn false (c :: r))).size) _)
        rw [txt_size hnl, e]; rfl
  rw [k3, cond_false] at e
  rw [cond_false]
  by_cases q : sg c r = 0
  · rw [q] at e ⊢
    exact ⟨z0, 3, rfl, .inl ⟨by decide, e⟩⟩
  rw [show (sg c r == 0) = false by simp [q], cond_false] at e
  rw [show (sg c r == 0) = false by simp [q], cond_false]
  by_cases q2 : 4000 ≤ l.length
  · rw [decide_eq_true q2, cond_true] at e
    rw [decide_eq_true q2]
    exact ⟨z0, 6, rfl, .inl ⟨by decide, e⟩⟩
  rw [decide_eq_false q2, cond_false] at e
  rw [decide_eq_false q2]
  refine ⟨_, _, rfl, .inr ⟨rfl, by omega, ?_, ?_, ?_⟩⟩
  · show 1 ≤ (txt (c :: r) (sg c r)).size
    rw [txt_size (sg_le c r)]; omega
  · show (txt (c :: r) (sg c r)).size ≤ _
    rw [txt_size (sg_le c r)]; exact sg_le c r
  · show _ = some ((0 : Int), rt b (a + (txt (c :: r) (sg c r)).size) _)
    rw [txt_size (sg_le c r), e]
noncomputable def rdP (n : Nat) (s25 : List UInt8 × Int × List TApiToken) : Option (Step (List UInt8 × Int × List TApiToken) ((List UInt8 × Int × List TApiToken) ⊕ (List TApiToken × Int × Int))) := (bif (decide (s25.2.1 < (n : Int))) then ((token_reader_next (⟨s25.1, s25.2.1, s25.2.2⟩ : TTokenReader)).bind fun x40 => (bif (x40.1 != (0 : Int)) then some (.done (.inr (([] : List TApiToken), x40.2.gAt, x40.1))) else some (.next (x40.2.gB, x40.2.gAt, x40.2.gL)))) else some (.done (.inl (s25.1, s25.2.1, s25.2.2))))
noncomputable def rdR (R : ByteArray) (s58 : List TApiToken × Int) : Option (Step (List TApiToken × Int) ((List TApiToken) ⊕ (List TApiToken × Int × Int))) := (bif (decide (s58.2 < (R.size : Int))) then ((bAt R s58.2).bind fun x93 => (Option.bind (α := Bool) (bif ((x93.toNat : Int) == (32 : Int)) then some true else (bif ((x93.toNat : Int) == (9 : Int)) then some true else (bif ((x93.toNat : Int) == (10 : Int)) then some true else some ((x93.toNat : Int) == (13 : Int))))) fun y97 => (bif y97 then some (.next (s58.1, (IntKind.i64.wrap (s58.2 + (1 : Int))))) else ((cutS R s58.2 ((R).size : Int)).bind fun x102 => ((r10_one x102 (decide ((4000 : Int) ≤ (s58.1.length : Int)))).bind fun x103 => (bif (x103.2 != (0 : Int)) then some (.done (.inr (([] : List TApiToken), s58.2, x103.2))) else ((app 40 s58.1 ([(⟨x103.1.gKind, x103.1.gText, x103.1.gN, s58.2⟩ : TApiToken)] : List TApiToken)).bind fun x108 => some (.next (x108, (IntKind.i64.wrap (s58.2 + (x103.1.gText.size : Int)))))))))))) else some (.done (.inl s58.1)))
theorem read_loops (b : List UInt8) (hb : b.length ≤ 20000) : ∀ (q a : Nat) (l : List Tok), b.length - a ≤ q → a ≤ b.length → l.length ≤ 4000 → (∃ l', l'.length ≤ 4000 ∧ loopM (rdP b.length) (b, (a : Int), l) = some (.inl (b, (b.length : Int), l')) ∧ loopM (rdR (ra b)) (l, (a : Int)) = some (.inl l')) ∨ (∃ (x : Nat) (e : Int), e ≠ 0 ∧ loopM (rdP b.length) (b, (a : Int), l) = some (.inr ([], (x : Int), e)) ∧ loopM (rdR (ra b)) (l, (a : Int)) = some (.inr ([], (x : Int), e))) := by
  intro q
  induction q with
  | zero =>
    intro a l hq ha hl
    have : a = b.length := by omega
    subst this
    refine .inl ⟨l, hl, loopM_done ?_, loopM_done ?_⟩
    · unfold rdP; simp
    · unfold rdR; rw [ra_size]; simp
  | succ q ih =>
    intro a l hq ha hl
    by_cases hlt : a < b.length
    rotate_left
    · have : a = b.length := by omega
      subst this
      refine .inl ⟨l, hl, loopM_done ?_, loopM_done ?_⟩
      · unfold rdP; simp
      · unfold rdR; rw [ra_size]; simp
    obtain ⟨c, r, hr⟩ : ∃ c r, b.drop a = c :: r := by
      cases h : b.drop a with
      | nil => have := congrArg List.length h; simp at this; omega
      | cons c r => exact ⟨c, r, rfl⟩
    have hP : rdP b.length (b, (a : Int), l) = ((token_reader_next (rt b a l)).bind fun x40 => (bif (x40.1 != (0 : Int)) then some (.done (.inr (([] : List TApiToken), x40.2.gAt, x40.1))) else some (.next (x40.2.gB, x40.2.gAt, x40.2.gL)))) := by
      unfold rdP
      simp only []
      rw [decide_eq_true (by omega), cond_true]; rfl
    have hR : rdR (ra b) (l, (a : Int)) = (bif kd c == 1 then some (.next (l, ((a + 1 : Nat) : Int))) else ((r10_one (ra (c :: r)) (decide ((4000 : Int) ≤ (l.length : Int)))).bind fun x103 => (bif (x103.2 != (0 : Int)) then some (.done (.inr (([] : List TApiToken), (a : Int), x103.2))) else ((app 40 l ([(⟨x103.1.gKind, x103.1.gText, x103.1.gN, (a : Int)⟩ : TApiToken)] : List TApiToken)).bind fun x108 => some (.next (x108, (IntKind.i64.wrap ((a : Int) + (x103.1.gText.size : Int))))))))) := by
      unfold rdR
      simp only []
      rw [ra_size, decide_eq_true (by omega), cond_true, bAt_ra, idx_nat, (drop_at hr).1, Option.bind_some]
      have hbl := blank_eq c
      have : (bif ((c.toNat : Int) == (32 : Int)) then some true else (bif ((c.toNat : Int) == (9 : Int)) then some true else (bif ((c.toNat : Int) == (10 : Int)) then some true else some ((c.toNat : Int) == (13 : Int))))) = some (kd c == 1) := by
        rw [← hbl]
        cases (c.toNat : Int) == 32 <;> cases (c.toNat : Int) == 9 <;> cases (c.toNat : Int) == 10 <;> rfl
      rw [this, Option.bind_some, winc (by omega)]
      have hc := cutS_end (r := b) (n := a) ha
      rw [ra_size, hr] at hc
      rw [hc, Option.bind_some]
    by_cases hk : kd c = 1
    · have e := next_eq hr (by omega) (l := l) (by omega)
      rw [hk] at e hR
      simp only [beq_self_eq_true, cond_true] at e hR
      rw [e, Option.bind_some] at hP
      have hP' : rdP b.length (b, (a : Int), l) = some (.next (b, ((a + 1 : Nat) : Int), l)) := hP
      rw [loopM_next hP', loopM_next hR]
      exact ih (a + 1) l (by omega) (by omega) hl
    · obtain ⟨t, e, h1, h2⟩ := one_eq hr (by omega) (l := l) (by omega) hk
      rw [show (kd c == 1) = false by simp [hk], cond_false, h1, Option.bind_some] at hR
      rcases h2 with ⟨he, h3⟩ | ⟨he, h4, h5, h6, h3⟩
      · rw [h3, Option.bind_some] at hP
        simp only [bne, show (e == 0) = false by simp [he], Bool.not_false, cond_true] at hP hR
        exact .inr ⟨a, e, he, loopM_done hP, loopM_done hR⟩
      · subst he
        rw [h3, Option.bind_some] at hP
        have hdl := congrArg List.length hr
        rw [List.length_drop] at hdl
        simp only [bne, beq_self_eq_true, Bool.not_true, cond_false] at hP hR
        rw [app_len (by omega) (by simp; omega), Option.bind_some, wrap_id (by omega) (by omega), show (a : Int) + (t.gText.size : Int) = ((a + t.gText.size : Nat) : Int) by omega] at hR
        rw [loopM_next hP, loopM_next hR]
        exact ih (a + t.gText.size) (l ++ [⟨t.gKind, t.gText, t.gN, (a : Int)⟩]) (by omega) (by omega) (by rw [List.length_append, List.length_singleton]; omega)
theorem read_both (b : List UInt8) : (∃ l, l.length ≤ 4000 ∧ token_Read b = some (l ++ [⟨0, ByteArray.empty, 0, (b.length : Int)⟩], 0, 0) ∧ r10_Read b = some (l ++ [⟨0, ByteArray.empty, 0, (b.length : Int)⟩], 0, 0)) ∨ (∃ (x : Nat) (e : Int), e ≠ 0 ∧ token_Read b = some ([], (x : Int), e) ∧ r10_Read b = some ([], (x : Int), e)) := by
  unfold token_Read r10_Read
  by_cases h : 20000 < b.length
  · rw [decide_eq_true (by omega), cond_true, cond_true]
    exact .inr ⟨0, 6, by decide, rfl, rfl⟩
  rw [decide_eq_false (by omega), cond_false, cond_false]
  have := read_loops b (by omega) b.length 0 [] (by omega) (by omega) (Nat.zero_le _)
  rw [show ((0 : Nat) : Int) = 0 from rfl] at this
  change (∃ l : List Tok, l.length ≤ 4000 ∧ Option.bind (loopM (rdP b.length) (b, 0, [])) _ = _ ∧ Option.bind (loopM (rdR (ra b)) ([], 0)) _ = _) ∨ (∃ (x : Nat) (e : Int), e ≠ 0 ∧ Option.bind (loopM (rdP b.length) (b, 0, [])) _ = _ ∧ Option.bind (loopM (rdR (ra b)) ([], 0)) _ = _)
  rcases this with ⟨l', hl, h1, h2⟩ | ⟨x, e, he, h1, h2⟩
  · refine .inl ⟨l', hl, ?_, ?_⟩
    · rw [h1, Option.bind_some]
      simp only [Sum.elim_inl]
      rw [app_len (by omega) (by simp; omega), Option.bind_some]
    · rw [h2, Option.bind_some]
      simp only [Sum.elim_inl]
      rw [app_len (by omega) (by simp; omega), Option.bind_some]
  · refine .inr ⟨x, e, he, ?_, ?_⟩
    · rw [h1]; rfl
    · rw [h2]; rfl
end Go.Proofs.Ytmgklehakmdiiaa.Ab.Pq
namespace Go.Proofs.Ytmgklehakmdiiaa.Ab.Pq
open Go
set_option linter.all false
abbrev Pos (L : List Tok) : Type := {i : Nat // i ≤ L.length}
abbrev gm (L : List Tok) (p : Pos L) (e v o : Int) : TGrammarReader := ⟨L, ((p.1 : Nat) : Int), e, v, o⟩
abbrev rm (L : List Tok) (p : Pos L) (e : Int) : TSondageref12R := ⟨L, ((p.1 : Nat) : Int), e⟩
def eatP (L : List Tok) (p : Pos L) (e : Int) (s : ByteArray) : Pos L × Int :=
  if e = 0 then if h2 : isS L p.1 s = true then (⟨p.1 + 1, (isB_lt h2).1⟩, 0) else (p, 3) else (p, e)
def mayP (L : List Tok) (p : Pos L) (e : Int) (s : ByteArray) : Bool × Pos L :=
  if e = 0 then if h2 : isS L p.1 s = true then (true, ⟨p.1 + 1, (isB_lt h2).1⟩) else (false, p) else (false, p)
def nameP (L : List Tok) (p : Pos L) (e : Int) : ByteArray × Pos L × Int :=
  if e = 0 then if h2 : (lk L p.1).gKind = 1 then ((lk L p.1).gText, ⟨p.1 + 1, lk_lt (by rw [h2]; decide)⟩, 0) else (ByteArray.empty, p, 3) else (ByteArray.empty, p, e)
def failP (L : List Tok) (p : Pos L) (e : Int) (a : Pos L) (k : Int) : Pos L × Int := if e = 0 then (a, k) else (p, e)
section
variable {L : List Tok} (hL : L.length ≤ 100000)
include hL
theorem glookN (p : Pos L) (e v o : Int) (k : Nat) (hk : k ≤ 100) : grammar_reader_look (gm L p e v o) (k : Int) = some (lk L (p.1 + k)) := by
  have hp := p.2
  unfold grammar_reader_look
  simp only []
  rw [wrap_id (by omega) (by omega)]
  by_cases h : L.length ≤ p.1 + k
  · rw [decide_eq_true (by omega), cond_true, lk_end h]; rfl
  · rw [decide_eq_false (by omega), cond_false, show ((p.1 : Nat) : Int) + (k : Int) = ((p.1 + k : Nat) : Int) by omega, idx_nat]
    unfold lk
    rw [List.getD_eq_getElem?_getD, List.getElem?_eq_getElem (by omega)]; rfl
theorem glook0 (p : Pos L) (e v o : Int) : grammar_reader_look (gm L p e v o) 0 = some (lk L p.1) := glookN hL p e v o 0 (by omega)
theorem gis0 (p : Pos L) (e v o : Int) (s : ByteArray) : grammar_reader_is (gm L p e v o) 0 s = some (isS L p.1 s) := by
  unfold grammar_reader_is isS
  rw [glook0 hL, Option.bind_some]
  cases (lk L p.1).gKind == 3 <;> rfl
omit hL in
theorem gfail (p a : Pos L) (e v o k : Int) : grammar_reader_fail (gm L p e v o) ((a.1 : Nat) : Int) k = some (gm L (failP L p e a k).1 (failP L p e a k).2 v o) := by
  unfold grammar_reader_fail failP
  simp only []
  by_cases h : e = 0
  · subst h; rfl
  · rw [show (e == 0) = false by simp [h], if_neg h]; rfl
theorem rlook (p : Pos L) (e : Int) : r12_Look (rm L p e) = some (lk L p.1) := by
  have hp := p.2
  unfold r12_Look
  simp only []
  by_cases h : L.length ≤ p.1
  · rw [decide_eq_false (by omega), cond_false, lk_end h]; rfl
  · rw [decide_eq_true (by omega), cond_true, idx_nat]
    unfold lk
    rw [List.getD_eq_getElem?_getD, List.getElem?_eq_getElem (by omega)]; rfl
theorem ris (p : Pos L) (e : Int) (s : ByteArray) : r12_Is (rm L p e) s = some (isS L p.1 s) := by
  unfold r12_Is isS
  rw [rlook hL, Option.bind_some, Option.bind_some]
  cases (lk L p.1).gKind == 3 <;> rfl
omit hL in
theorem rfail (p a : Pos L) (e k : Int) : r12_Fail (rm L p e) ((a.1 : Nat) : Int) k = some (rm L (failP L p e a k).1 (failP L p e a k).2) := by
  unfold r12_Fail failP
  simp only []
  by_cases h : e = 0
  · subst h; rfl
  · rw [show (e == 0) = false by simp [h], if_neg h]; rfl
theorem reat (p : Pos L) (e : Int) (s : ByteArray) : r12_Eat (rm L p e) s = some (rm L (eatP L p e s).1 (eatP L p e s).2) := by
  have hp := p.2
  unfold r12_Eat eatP
  by_cases h : e = 0
  · subst h
    simp only [bne, beq_self_eq_true, Bool.not_true, cond_false, if_true]
    rw [ris hL, Option.bind_some, winc (by omega)]
    by_cases h2 : isS L p.1 s = true
    · rw [dif_pos h2, h2]; rfl
    · rw [dif_neg h2, show isS L p.1 s = false by simpa using h2, cond_false, rfail p p, Option.bind_some]; rfl
  · simp only [bne, show (e == 0) = false by simp [h], Bool.not_false, cond_true, if_neg h]
theorem rname (p : Pos L) (e : Int) : r12_Name (rm L p e) = some ((nameP L p e).1, rm L (nameP L p e).2.1 (nameP L p e).2.2) := by
  have hp := p.2
  unfold r12_Name nameP
  by_cases h : e = 0
  · subst h
    simp only [bne, beq_self_eq_true, Bool.not_true, cond_false, if_true]
    rw [rlook hL, Option.bind_some, winc (by omega)]
    by_cases h2 : (lk L p.1).gKind = 1
    · rw [dif_pos h2, show ((lk L p.1).gKind == 1) = true by simp [h2]]; rfl
    · rw [dif_neg h2, show ((lk L p.1).gKind == 1) = false by simp [h2], Bool.not_false, cond_true, rfail p p, Option.bind_some]; rfl
  · simp only [bne, show (e == 0) = false by simp [h], Bool.not_false, cond_true, if_neg h]; rfl
theorem rmay (p : Pos L) (e : Int) (s : ByteArray) : r13_may (rm L p e) s = some ((mayP L p e s).1, rm L (mayP L p e s).2 e) := by
  have hp := p.2
  unfold r13_may mayP
  by_cases h : e = 0
  · subst h
    simp only [beq_self_eq_true, cond_true, if_true]
    rw [ris hL, Option.bind_some, Option.bind_some, winc (by omega)]
    by_cases h2 : isS L p.1 s = true
    · rw [dif_pos h2, h2]; rfl
    · rw [dif_neg h2, show isS L p.1 s = false by simpa using h2, cond_false]
  · simp only [show (e == 0) = false by simp [h], cond_false, if_neg h]; rfl
theorem gmay (p : Pos L) (e v o : Int) (s : ByteArray) : grammar_reader_may (gm L p e v o) s = some ((mayP L p e s).1, gm L (mayP L p e s).2 e v o) := by
  have hp := p.2
  unfold grammar_reader_may mayP
  by_cases h : e = 0
  · subst h
    simp only [bne, beq_self_eq_true, Bool.not_true, cond_false, if_true]
    rw [gis0 hL, Option.bind_some, Option.bind_some, winc (by omega)]
    by_cases h2 : isS L p.1 s = true
    · rw [dif_pos h2, h2]; rfl
    · rw [dif_neg h2, show isS L p.1 s = false by simpa using h2]; rfl
  · simp only [bne, show (e == 0) = false by simp [h], Bool.not_false, cond_true, if_neg h]; rfl
theorem gname (p : Pos L) (e v o : Int) : grammar_reader_name (gm L p e v o) = some ((nameP L p e).1, gm L (nameP L p e).2.1 (nameP L p e).2.2 v o) := by
  have hp := p.2
  unfold grammar_reader_name nameP
  by_cases h : e = 0
  · subst h
    simp only [bne, beq_self_eq_true, Bool.not_true, cond_false, if_true]
    rw [glook0 hL, Option.bind_some, winc (by omega)]
    by_cases h2 : (lk L p.1).gKind = 1
    · rw [dif_pos h2, show ((lk L p.1).gKind == 1) = true by simp [h2]]; rfl
    · rw [dif_neg h2, show ((lk L p.1).gKind == 1) = false by simp [h2], Bool.not_false, cond_true, gfail p p, Option.bind_some]; rfl
  · simp only [bne, show (e == 0) = false by simp [h], Bool.not_false, cond_true, if_neg h]; rfl
omit hL in
theorem eatP_bad {p : Pos L} {e : Int} (h : e ≠ 0) (s : ByteArray) : eatP L p e s = (p, e) := by unfold eatP; rw [if_neg h]
omit hL in
theorem failP_ok {p a : Pos L} {k : Int} : failP L p 0 a k = (a, k) := by unfold failP; rw [if_pos rfl]
def eatsP (L : List Tok) (p : Pos L) (e : Int) (l : List ByteArray) : Pos L × Int := l.foldl (fun q s => eatP L q.1 q.2 s) (p, e)
omit hL in
theorem eatsP_bad {p : Pos L} {e : Int} (h : e ≠ 0) : ∀ l, eatsP L p e l = (p, e)
  | [] => rfl
  | s :: l => by
    unfold eatsP
    rw [List.foldl_cons]
    simp only []
    rw [eatP_bad h]
    exact eatsP_bad h l
noncomputable def eatF (a1 : List ByteArray) (m0 : TGrammarReader) (s34 : Int × Int) : Option (Step (Int × Int) (Int ⊕ TGrammarReader)) := (bif (decide (s34.1 < (a1.length : Int))) then ((idx a1 s34.1).bind fun x50 => (bif (m0.gE != (0 : Int)) then some (.done (.inr (⟨m0.gL, s34.2, m0.gE, m0.gVars, m0.gOpen⟩ : TGrammarReader))) else ((grammar_reader_is (⟨m0.gL, s34.2, m0.gE, m0.gVars, m0.gOpen⟩ : TGrammarReader) (0 : Int) x50).bind fun x53 => (bif (!x53) then ((grammar_reader_fail (⟨m0.gL, s34.2, m0.gE, m0.gVars, m0.gOpen⟩ : TGrammarReader) s34.2 (3 : Int)).bind fun x55 => some (.done (.inr x55))) else some (.next ((IntKind.i64.wrap (s34.1 + (1 : Int))), (IntKind.i64.wrap (s34.2 + (1 : Int))))))))) else some (.done (.inl s34.2)))
theorem geats (p : Pos L) (e v o : Int) (l : List ByteArray) (hl : l.length ≤ 1000) : grammar_reader_eat (gm L p e v o) l = some (gm L (eatsP L p e l).1 (eatsP L p e l).2 v o) := by
  unfold grammar_reader_eat
  change Option.bind (loopM (eatF l (gm L p e v o)) ((0 : Int), ((p.1 : Nat) : Int))) _ = _
  by_cases h : e = 0
  · subst h
    have key : ∀ (post pre : List ByteArray) (q : Pos L), l = pre ++ post → (loopM (eatF l (gm L p 0 v o)) (((pre.length : Nat) : Int), ((q.1 : Nat) : Int))).bind (Sum.elim (fun y33 => some (⟨(gm L p 0 v o).gL, y33, (gm L p 0 v o).gE, (gm L p 0 v o).gVars, (gm L p 0 v o).gOpen⟩ : TGrammarReader)) (fun r => some r)) = some (gm L (eatsP L q 0 post).1 (eatsP L q 0 post).2 v o) := by
      intro post
      induction post with
      | nil =>
        intro pre q h
        rw [List.append_nil] at h; subst h
        rw [loopM_done (t := .inl ((q.1 : Nat) : Int)) (by unfold eatF; simp only []; rw [lt_end, cond_false])]
        rfl
      | cons s post ih =>
        intro pre q h
        have hq := q.2
        have hf : eatF l (gm L p 0 v o) (((pre.length : Nat) : Int), ((q.1 : Nat) : Int)) = (bif isS L q.1 s then some (.next (((pre.length + 1 : Nat) : Int), ((q.1 + 1 : Nat) : Int))) else some (.done (.inr (gm L q 3 v o)))) := by
          unfold eatF
          simp only []
          rw [lt_pre h, cond_true, idx_pre2 h rfl, Option.bind_some]
          simp only [bne, beq_self_eq_true, Bool.not_true, cond_false]
          rw [gis0 hL q, Option.bind_some, inc_pre h (by omega), winc (by omega), gfail q q, Option.bind_some]
          cases isS L q.1 s <;> rfl
        have he : eatsP L q 0 (s :: post) = eatsP L (eatP L q 0 s).1 (eatP L q 0 s).2 post := rfl
        rw [he]
        unfold eatP
        rw [if_pos rfl]
        by_cases h2 : isS L q.1 s = true
        · rw [h2, cond_true] at hf
          rw [loopM_next hf, dif_pos h2]
          have := ih (pre ++ [s]) ⟨q.1 + 1, (isB_lt h2).1⟩ (by simp [h])
          rw [List.length_append, List.length_singleton] at this
          exact this
        · rw [show isS L q.1 s = false by simpa using h2, cond_false] at hf
          rw [loopM_done hf, dif_neg h2]
          simp only []
          rw [eatsP_bad (by decide)]; rfl
    exact key l [] p rfl
  · rw [eatsP_bad h]
    cases l with
    | nil => rw [loopM_done (t := .inl ((p.1 : Nat) : Int)) rfl]; rfl
    | cons s l =>
      rw [loopM_done (t := .inr (gm L p e v o)) ?_]
      · rfl
      · unfold eatF
        simp only []
        rw [decide_eq_true (show (0 : Int) < (((s :: l).length : Nat) : Int) by simp), cond_true, show idx (s :: l) 0 = some s from rfl, Option.bind_some]
        simp only [bne, show (e == 0) = false by simp [h], Bool.not_false, cond_true]
theorem geat (p : Pos L) (e v o : Int) (s : ByteArray) : grammar_reader_eat (gm L p e v o) [s] = some (gm L (eatP L p e s).1 (eatP L p e s).2 v o) := geats hL p e v o [s] (by simp)
end
end Go.Proofs.Ytmgklehakmdiiaa.Ab.Pq
namespace Go.Proofs.Ytmgklehakmdiiaa.Ab.Pq
open Go
set_option linter.all false
def zG : TApiGlobal := ⟨ByteArray.empty, false, 0, 0⟩
theorem mayP_true {L : List Tok} {p : Pos L} {e : Int} {s : ByteArray} (h : (mayP L p e s).1 = true) : e = 0 := by
  unfold mayP at h
  by_cases q : e = 0
  · exact q
  · rw [if_neg q] at h; cases h
noncomputable def sizeP (L : List Tok) (p : Pos L) : Pos L × Int × Int :=
  if h : (lk L p.1).gKind = 2 then if (lk L p.1).gN < 1 ∨ 1000 < (lk L p.1).gN then (p, 4, 0) else (⟨p.1 + 1, lk_lt (by rw [h]; decide)⟩, 0, (lk L p.1).gN) else (p, 3, 0)
noncomputable def globP (L : List Tok) (p : Pos L) : TApiGlobal × Pos L × Int :=
  let a := eatP L p 0 (ByteArray.mk #[105, 110, 116])
  let b := mayP L a.1 a.2 (ByteArray.mk #[42])
  let n := nameP L b.2 a.2
  let m := if b.1 = true then (false, n.2.1) else mayP L n.2.1 n.2.2 (ByteArray.mk #[91])
  let s := if m.1 = true then ((eatP L (sizeP L m.2).1 (sizeP L m.2).2.1 (ByteArray.mk #[93])).1, (eatP L (sizeP L m.2).1 (sizeP L m.2).2.1 (ByteArray.mk #[93])).2, (sizeP L m.2).2.2) else (m.2, n.2.2, 0)
  let f := eatP L s.1 s.2.1 (ByteArray.mk #[59])
  (⟨n.1, b.1, s.2.2, (lk L p.1).gAt⟩, f.1, f.2)
section
variable {L : List Tok} (hL : L.length ≤ 100000)
include hL
theorem gglob (p : Pos L) (v o : Int) : grammar_reader_global (gm L p 0 v o) = some ((globP L p).1, gm L (globP L p).2.1 (globP L p).2.2 v o) := by
  unfold grammar_reader_global globP
  simp only []
  rw [glook0 hL, Option.bind_some, geat hL, Option.bind_some, gmay hL, Option.bind_some, gname hL, Option.bind_some]
  generalize eatP L p 0 (ByteArray.mk #[105, 110, 116]) = a
  generalize mayP L a.1 a.2 (ByteArray.mk #[42]) = b
  generalize nameP L b.2 a.2 = n
  have hm : (bif (!b.1) then ((grammar_reader_may (gm L n.2.1 n.2.2 v o) (ByteArray.mk #[91])).bind fun x11 => some (x11.1, x11.2.gL, x11.2.gAt, x11.2.gE, x11.2.gVars, x11.2.gOpen)) else some (false, L, ((n.2.1.1 : Nat) : Int), n.2.2, v, o)) = some ((if b.1 = true then (false, n.2.1) else mayP L n.2.1 n.2.2 (ByteArray.mk #[91])).1, L, (((if b.1 = true then (false, n.2.1) else mayP L n.2.1 n.2.2 (ByteArray.mk #[91])).2.1 : Nat) : Int), n.2.2, v, o) := by
    rw [gmay hL, Option.bind_some]
    cases b.1 <;> rfl
  have he : (if b.1 = true then (false, n.2.1) else mayP L n.2.1 n.2.2 (ByteArray.mk #[91])).1 = true → n.2.2 = 0 := by
    intro h
    cases hb : b.1
    · rw [hb] at h; exact mayP_true h
    · rw [hb] at h; cases h
  simp only [] at hm ⊢
  rw [hm, Option.bind_some]
  generalize (if b.1 = true then (false, n.2.1) else mayP L n.2.1 n.2.2 (ByteArray.mk #[91])) = m at he ⊢
  cases hm1 : m.1
  · simp only [cond_false, Option.bind_some, Bool.false_eq_true, if_false]
    rw [geat hL m.2, Option.bind_some]
  · rw [he hm1]
    simp only [cond_true, if_true]
    rw [glook0 hL m.2, Option.bind_some]
    unfold sizeP
    by_cases k2 : (lk L m.2.1).gKind = 2
    · rw [dif_pos k2]
      simp only [bne, show ((lk L m.2.1).gKind == 2) = true by simp [k2], Bool.not_true, cond_false]
      by_cases k3 : (lk L m.2.1).gN < 1 ∨ 1000 < (lk L m.2.1).gN
      · have hb : (bif decide ((lk L m.2.1).gN < 1) then some true else some (decide (1000 < (lk L m.2.1).gN))) = some true := by
          rcases k3 with k | k
          · rw [decide_eq_true k]; rfl
          · rw [decide_eq_true k]; cases decide ((lk L m.2.1).gN < 1) <;> rfl
        rw [if_pos k3, hb, Option.bind_some, cond_true, gfail m.2 m.2, failP_ok, Option.bind_some, Option.bind_some, Option.bind_some, Option.bind_some]
        simp only []
        rw [geat hL m.2, Option.bind_some, Option.bind_some]
        simp only []
        rw [geat hL, Option.bind_some]
      · have hb : (bif decide ((lk L m.2.1).gN < 1) then some true else some (decide (1000 < (lk L m.2.1).gN))) = some false := by
          rw [decide_eq_false (fun h => k3 (.inl h)), decide_eq_false (fun h => k3 (.inr h))]; rfl
        have hp := m.2.2
        rw [if_neg k3, hb, Option.bind_some, cond_false, Option.bind_some, Option.bind_some, Option.bind_some]
        simp only []
        rw [winc (by omega)]
        rw [geat hL ⟨m.2.1 + 1, lk_lt (by rw [k2]; decide)⟩, Option.bind_some, Option.bind_some]
        simp only []
        rw [geat hL, Option.bind_some]
    · rw [dif_neg k2]
      simp only [bne, show ((lk L m.2.1).gKind == 2) = false by simp [k2], Bool.not_false, cond_true]
      rw [gfail m.2 m.2, failP_ok, Option.bind_some, Option.bind_some, Option.bind_some]
      simp only []
      rw [geat hL m.2, Option.bind_some, Option.bind_some]
      simp only []
      rw [geat hL, Option.bind_some]
def outG (x : TApiGlobal × Nat × Int) : TApiGlobal × Int × Int := bif x.2.2 != 0 then (zG, ((x.2.1 : Nat) : Int), x.2.2) else (x.1, ((x.2.1 : Nat) : Int), 0)
theorem gGlobal (p : Pos L) : grammar_Global L ((p.1 : Nat) : Int) = some (outG ((globP L p).1, (globP L p).2.1.1, (globP L p).2.2)) := by
  have hp := p.2
  unfold grammar_Global grammar_begin
  rw [decide_eq_true (by omega), cond_true, Option.bind_some, decide_eq_true (by omega)]
  simp only [Bool.not_true, cond_false]
  rw [gglob hL p, Option.bind_some]
  unfold outG
  cases ((globP L p).2.2 != 0) <;> rfl
theorem rGlobal (p : Pos L) : r13_Global L ((p.1 : Nat) : Int) = some (outG ((globP L p).1, (globP L p).2.1.1, (globP L p).2.2)) := by
  have hp := p.2
  unfold r13_Global globP
  rw [decide_eq_false (by omega), cond_false, decide_eq_false (by omega), Option.bind_some, cond_false]
  rw [rlook hL p, Option.bind_some, reat hL p, Option.bind_some, rmay hL, Option.bind_some, rname hL, Option.bind_some]
  try simp only []
  generalize eatP L p 0 (ByteArray.mk #[105, 110, 116]) = a
  generalize mayP L a.1 a.2 (ByteArray.mk #[42]) = b
  generalize nameP L b.2 a.2 = n
  have hm : (bif (!b.1) then ((r13_may (rm L n.2.1 n.2.2) (ByteArray.mk #[91])).bind fun x11 => some (x11.1, x11.2.gL, x11.2.gAt, x11.2.gE)) else some (false, L, ((n.2.1.1 : Nat) : Int), n.2.2)) = some ((if b.1 = true then (false, n.2.1) else mayP L n.2.1 n.2.2 (ByteArray.mk #[91])).1, L, (((if b.1 = true then (false, n.2.1) else mayP L n.2.1 n.2.2 (ByteArray.mk #[91])).2.1 : Nat) : Int), n.2.2) := by
    rw [rmay hL, Option.bind_some]
    cases b.1 <;> rfl
  have he : (if b.1 = true then (false, n.2.1) else mayP L n.2.1 n.2.2 (ByteArray.mk #[91])).1 = true → n.2.2 = 0 := by
    intro h
    cases hb : b.1
    · rw [hb] at h; exact mayP_true h
    · rw [hb] at h; cases h
  try simp only [] at hm ⊢
  rw [hm, Option.bind_some]
  generalize (if b.1 = true then (false, n.2.1) else mayP L n.2.1 n.2.2 (ByteArray.mk #[91])) = m at he ⊢
  unfold outG
  cases hm1 : m.1
  · simp only [cond_false, Option.bind_some, Bool.false_eq_true, if_false]
    rw [reat hL m.2, Option.bind_some]
    cases ((eatP L m.2 n.2.2 (ByteArray.mk #[59])).2 != 0) <;> rfl
  · rw [he hm1]
    simp only [cond_true, if_true]
    rw [rlook hL m.2, Option.bind_some]
    unfold sizeP
    by_cases k2 : (lk L m.2.1).gKind = 2
    · rw [dif_pos k2]
      simp only [bne, show ((lk L m.2.1).gKind == 2) = true by simp [k2], Bool.not_true, cond_false]
      by_cases k3 : (lk L m.2.1).gN < 1 ∨ 1000 < (lk L m.2.1).gN
      · have hb : (bif decide ((lk L m.2.1).gN < 1) then some true else some (decide (1000 < (lk L m.2.1).gN))) = some true := by
          rcases k3 with k | k
          · rw [decide_eq_true k]; rfl
          · rw [decide_eq_true k]; cases decide ((lk L m.2.1).gN < 1) <;> rfl
        rw [if_pos k3, hb, Option.bind_some, cond_true, rfail m.2 m.2, failP_ok, Option.bind_some, Option.bind_some, Option.bind_some]
        simp only []
        rw [show ((4 : Int) == 0) = false from rfl, cond_false, Option.bind_some]
        simp only []
        rw [reat hL m.2, Option.bind_some, Option.bind_some]
        simp only []
        rw [reat hL, Option.bind_some]
        rw [eatP_bad (p := m.2) (e := 4) (by decide)]
        simp only []
        rw [eatP_bad (p := m.2) (e := 4) (by decide)]; rfl
      · have hb : (bif decide ((lk L m.2.1).gN < 1) then some true else some (decide (1000 < (lk L m.2.1).gN))) = some false := by
          rw [decide_eq_false (fun h => k3 (.inl h)), decide_eq_false (fun h => k3 (.inr h))]; rfl
        have hp := m.2.2
        rw [if_neg k3, hb, Option.bind_some, cond_false, Option.bind_some, Option.bind_some]
        simp only []
        rw [show ((0 : Int) == 0) = true from rfl, cond_true, Option.bind_some]
        simp only []
        rw [winc (by omega)]
        rw [reat hL ⟨m.2.1 + 1, lk_lt (by rw [k2]; decide)⟩, Option.bind_some, Option.bind_some]
        simp only []
        rw [reat hL, Option.bind_some]
        generalize eatP L (eatP L ⟨m.2.1 + 1, lk_lt (by rw [k2]; decide)⟩ 0 (ByteArray.mk #[93])).1 (eatP L ⟨m.2.1 + 1, lk_lt (by rw [k2]; decide)⟩ 0 (ByteArray.mk #[93])).2 (ByteArray.mk #[59]) = f
        cases (f.2 == 0) <;> rfl
    · rw [dif_neg k2]
      simp only [bne, show ((lk L m.2.1).gKind == 2) = false by simp [k2], Bool.not_false, cond_true]
      rw [rfail m.2 m.2, failP_ok, Option.bind_some, Option.bind_some]
      simp only []
      rw [show ((3 : Int) == 0) = false from rfl, cond_false, Option.bind_some]
      simp only []
      rw [reat hL m.2, Option.bind_some, Option.bind_some]
      simp only []
      rw [reat hL, Option.bind_some]
      rw [eatP_bad (p := m.2) (e := 3) (by decide)]
      simp only []
      rw [eatP_bad (p := m.2) (e := 3) (by decide)]; rfl
theorem global_both (a : Int) : ∃ r, grammar_Global L a = some r ∧ r13_Global L a = some r ∧ (0 ≤ a → a ≤ (L.length : Int) → ∃ q : Pos L, r.2.1 = ((q.1 : Nat) : Int)) := by
  by_cases h0 : 0 ≤ a
  · by_cases h1 : a ≤ (L.length : Int)
    · obtain ⟨n, rfl⟩ := Int.eq_ofNat_of_zero_le h0
      refine ⟨_, gGlobal hL ⟨n, by omega⟩, rGlobal hL ⟨n, by omega⟩, fun _ _ => ⟨(globP L ⟨n, by omega⟩).2.1, ?_⟩⟩
      unfold outG
      cases ((globP L ⟨n, by omega⟩).2.2 != 0) <;> rfl
    · refine ⟨(zG, 0, 2), ?_, ?_, fun _ h => absurd h h1⟩
      · unfold grammar_Global grammar_begin
        rw [decide_eq_true h0, cond_true, Option.bind_some, decide_eq_false h1]; rfl
      · unfold r13_Global
        rw [decide_eq_false (by omega), cond_false, decide_eq_true (by omega)]; rfl
  · refine ⟨(zG, 0, 2), ?_, ?_, fun h => absurd h h0⟩
    · unfold grammar_Global grammar_begin
      rw [decide_eq_false h0, cond_false]; rfl
    · unfold r13_Global
      rw [decide_eq_true (by omega), cond_true]; rfl
end
theorem lk_app_lt {l : List Tok} {t : Tok} {i : Nat} (h : i < (l ++ [t]).length) : idx (l ++ [t]) (i : Int) = some (lk (l ++ [t]) i) := by
  rw [idx_nat]; unfold lk
  rw [List.getD_eq_getElem?_getD, List.getElem?_eq_getElem h]; rfl
theorem lk_app_end {l : List Tok} {t : Tok} : lk (l ++ [t]) l.length = t := by
  unfold lk
  rw [List.getD_eq_getElem?_getD, List.getElem?_append_right (Nat.le_refl _), Nat.sub_self]; rfl
theorem place_eq {b : List UInt8} {l : List Tok} (hl : l.length ≤ 4000) {i : Nat} (hi : i ≤ (l ++ [(⟨0, ByteArray.empty, 0, (b.length : Int)⟩ : Tok)]).length) (e : Int) :
    r13_place (l ++ [⟨0, ByteArray.empty, 0, (b.length : Int)⟩]) b (i : Int) e = some (bif (bif e == 0 && (lk (l ++ [⟨0, ByteArray.empty, 0, (b.length : Int)⟩]) (min i l.length)).gKind != 0 then 3 else e) == 0 then 0 else (lk (l ++ [⟨0, ByteArray.empty, 0, (b.length : Int)⟩]) (min i l.length)).gAt, bif e == 0 && (lk (l ++ [⟨0, ByteArray.empty, 0, (b.length : Int)⟩]) (min i l.length)).gKind != 0 then 3 else e) := by
  unfold r13_place
  have hlen : (l ++ [(⟨0, ByteArray.empty, 0, (b.length : Int)⟩ : Tok)]).length = l.length + 1 := by simp
  have h1 : (bif (decide ((i : Int) < ((l ++ [(⟨0, ByteArray.empty, 0, (b.length : Int)⟩ : Tok)]).length : Int))) then ((idx (l ++ [(⟨0, ByteArray.empty, 0, (b.length : Int)⟩ : Tok)]) (i : Int)).bind fun x6 => ((idx (l ++ [(⟨0, ByteArray.empty, 0, (b.length : Int)⟩ : Tok)]) (i : Int)).bind fun x7 => some (x6.gAt, x7.gKind))) else some ((b.length : Int), (0 : Int))) = some ((lk (l ++ [⟨0, ByteArray.empty, 0, (b.length : Int)⟩]) (min i l.length)).gAt, (lk (l ++ [⟨0, ByteArray.empty, 0, (b.length : Int)⟩]) (min i l.length)).gKind) := by
    by_cases q : i < l.length + 1
    · rw [decide_eq_true (by omega), cond_true, lk_app_lt (by omega), Option.bind_some, Option.bind_some, show min i l.length = i by omega]
    · rw [decide_eq_false (by omega), cond_false, show min i l.length = l.length by omega, lk_app_end]
  rw [h1, Option.bind_some]
  generalize lk (l ++ [(⟨0, ByteArray.empty, 0, (b.length : Int)⟩ : Tok)]) (min i l.length) = t
  simp only []
  cases he : e == 0
  · simp only [cond_false, Option.bind_some, Bool.false_and, he]
  · simp only [cond_true, Option.bind_some, Bool.true_and]
    cases hk : t.gKind != 0
    · simp only [cond_false, Option.bind_some, he, cond_true]
    · simp only [cond_true, Option.bind_some]; rfl
theorem globalText_both (b : List UInt8) : ∃ r, grammar_GlobalText b = some r ∧ r13_GlobalText b = some r := by
  unfold grammar_GlobalText grammar_text_api_Global r13_GlobalText
  rcases read_both b with ⟨l, hl, h1, h2⟩ | ⟨x, e, he, h1, h2⟩
  · rw [h1, h2]
    simp only [Option.bind_some, bne, beq_self_eq_true, Bool.not_true, cond_false]
    have hlen : (l ++ [(⟨0, ByteArray.empty, 0, (b.length : Int)⟩ : Tok)]).length = l.length + 1 := by simp
    obtain ⟨r, h3, h4, h5⟩ := global_both (L := l ++ [⟨0, ByteArray.empty, 0, (b.length : Int)⟩]) (by omega) 0
    obtain ⟨q, hq⟩ := h5 (by omega) (by omega)
    have hq2 := q.2
    rw [h3, h4, Option.bind_some, Option.bind_some, hq, place_eq hl q.2, Option.bind_some]
    have hw : IntKind.i64.wrap (((l ++ [(⟨0, ByteArray.empty, 0, (b.length : Int)⟩ : Tok)]).length : Int) - 1) = (l.length : Int) := by rw [hlen, wrap_id (by omega) (by omega)]; omega
    rw [hw, show min ((q.1 : Nat) : Int) (l.length : Int) = ((min q.1 l.length : Nat) : Int) by omega, lk_app_lt (by omega), Option.bind_some]
    generalize lk (l ++ [(⟨0, ByteArray.empty, 0, (b.length : Int)⟩ : Tok)]) (min q.1 l.length) = t
    simp only []
    cases he : r.2.2 == 0
    · simp only [Bool.not_false, cond_true, Bool.false_and, cond_false, he, Option.bind_some]
      exact ⟨_, rfl, rfl⟩
    · simp only [Bool.not_true, cond_false, Bool.true_and]
      cases hk : t.gKind == 0
      · simp only [bne, hk, Bool.not_false, cond_true]
        exact ⟨_, rfl, rfl⟩
      · simp only [bne, hk, Bool.not_true, cond_false, he, cond_true]
        exact ⟨_, rfl, rfl⟩
  · rw [h1, h2]
    simp only [Option.bind_some, bne, show (e == 0) = false by simp [he], Bool.not_false, cond_true]
    exact ⟨_, rfl, rfl⟩
end Go.Proofs.Ytmgklehakmdiiaa.Ab.Pq
namespace Go.Proofs.Ytmgklehakmdiiaa.Ab
open Go
set_option linter.all false
def token_kind_c (fu : Nat) (a0 : Int) : Option (Int) :=
  (Option.bind (α := Bool) (bif (a0 == (32 : Int)) then some true else (bif (a0 == (9 : Int)) then some true else (bif (a0 == (10 : Int)) then some true else some (a0 == (13 : Int))))) fun y4 => (bif y4 then some (1 : Int) else (Option.bind (α := Bool) (bif (decide ((97 : Int) ≤ a0)) then (bif (decide (a0 ≤ (122 : Int))) then some true else (bif (decide ((65 : Int) ≤ a0)) then (bif (decide (a0 ≤ (90 : Int))) then some true else some (a0 == (95 : Int))) else some (a0 == (95 : Int)))) else (bif (decide ((65 : Int) ≤ a0)) then (bif (decide (a0 ≤ (90 : Int))) then some true else some (a0 == (95 : Int))) else some (a0 == (95 : Int)))) fun y16 => (bif y16 then some (2 : Int) else (bif (decide ((48 : Int) ≤ a0)) then (bif (decide (a0 ≤ (57 : Int))) then some (3 : Int) else some (0 : Int)) else some (0 : Int))))))
set_option maxRecDepth 100000 in
theorem token_kind_cle (fu : Nat)   (a0 : Int) : Le (token_kind_c fu  a0) (token_kind  a0) := by
  unfold token_kind_c token_kind
  repeat (first | exact Le.refl _ | assumption | (refine Le.bind ?_ (fun _ => ?_)) | (refine Le.cond ?_ ?_) | (refine Le.loopC (fun _ => ?_)) | (refine Le.elim (fun _ => ?_) (fun _ => ?_)))
def token_reader_span_c (fu : Nat) (m0 : TTokenReader) (a1 : Bool) : Option (Int) :=
  (Option.bind (α := Int) (loopC fu (fun (s24 : Int) => (bif (decide ((IntKind.i64.wrap (m0.gAt + s24)) < (m0.gB.length : Int))) then ((idx m0.gB (IntKind.i64.wrap (m0.gAt + s24))).bind fun x40 => ((token_kind_c fu (IntKind.i32.wrap (x40.toNat : Int))).bind fun x41 => (bif (x41 != (3 : Int)) then (bif (x41 != (2 : Int)) then some (.done s24) else (bif (!a1) then some (.done s24) else some (.next (IntKind.i64.wrap (s24 + (1 : Int)))))) else some (.next (IntKind.i64.wrap (s24 + (1 : Int))))))) else some (.done s24))) (0 : Int)) fun y23 => some y23)
set_option maxRecDepth 100000 in
theorem token_reader_span_cle (fu : Nat)   (m0 : TTokenReader) (a1 : Bool) : Le (token_reader_span_c fu  m0 a1) (token_reader_span  m0 a1) := by
  unfold token_reader_span_c token_reader_span
  repeat (first | exact Le.refl _ | assumption | exact token_kind_cle fu _ | (refine Le.bind ?_ (fun _ => ?_)) | (refine Le.cond ?_ ?_) | (refine Le.loopC (fun _ => ?_)) | (refine Le.elim (fun _ => ?_) (fun _ => ?_)))
def slices_Index_string_string_c (fu : Nat) (a0 : List ByteArray) (a1 : ByteArray) : Option (Int) :=
  (Option.bind (α := (Unit) ⊕ (Int)) (loopC fu (fun (s15 : Int) => (bif (decide (s15 < (a0.length : Int))) then ((idx a0 s15).bind fun x25 => (bif (decide (a1 = x25)) then some (.done (.inr s15)) else some (.next (IntKind.i64.wrap (s15 + (1 : Int)))))) else some (.done (.inl ())))) (0 : Int)) (Sum.elim (fun y14 => some (-1 : Int)) (fun r => some r)))
set_option maxRecDepth 100000 in
theorem slices_Index_string_string_cle (fu : Nat)   (a0 : List ByteArray) (a1 : ByteArray) : Le (slices_Index_string_string_c fu  a0 a1) (slices_Index_string_string  a0 a1) := by
  unfold slices_Index_string_string_c slices_Index_string_string
  repeat (first | exact Le.refl _ | assumption | (refine Le.bind ?_ (fun _ => ?_)) | (refine Le.cond ?_ ?_) | (refine Le.loopC (fun _ => ?_)) | (refine Le.elim (fun _ => ?_) (fun _ => ?_)))
def slices_Contains_string_string_c (fu : Nat) (a0 : List ByteArray) (a1 : ByteArray) : Option (Bool) :=
  ((slices_Index_string_string_c fu a0 a1).bind fun x1 => some (decide ((0 : Int) ≤ x1)))
set_option maxRecDepth 100000 in
theorem slices_Contains_string_string_cle (fu : Nat)   (a0 : List ByteArray) (a1 : ByteArray) : Le (slices_Contains_string_string_c fu  a0 a1) (slices_Contains_string_string  a0 a1) := by
  unfold slices_Contains_string_string_c slices_Contains_string_string
  repeat (first | exact Le.refl _ | assumption | exact slices_Index_string_string_cle fu _ _ | (refine Le.bind ?_ (fun _ => ?_)) | (refine Le.cond ?_ ?_) | (refine Le.loopC (fun _ => ?_)) | (refine Le.elim (fun _ => ?_) (fun _ => ?_)))
def token_Word_c (fu : Nat) (a0 : ByteArray) : Option (Bool) :=
  ((slices_Contains_string_string_c fu ([(ByteArray.mk #[105, 110, 116]), (ByteArray.mk #[105, 102]), (ByteArray.mk #[101, 108, 115, 101]), (ByteArray.mk #[119, 104, 105, 108, 101]), (ByteArray.mk #[114, 101, 116, 117, 114, 110]), (ByteArray.mk #[97, 115, 115, 101, 114, 116]), (ByteArray.mk #[105, 110, 112, 117, 116]), (ByteArray.mk #[110, 117, 108, 108])] : List ByteArray) a0).bind fun x1 => some x1)
set_option maxRecDepth 100000 in
theorem token_Word_cle (fu : Nat)   (a0 : ByteArray) : Le (token_Word_c fu  a0) (token_Word  a0) := by
  unfold token_Word_c token_Word
  repeat (first | exact Le.refl _ | assumption | exact slices_Contains_string_string_cle fu _ _ | (refine Le.bind ?_ (fun _ => ?_)) | (refine Le.cond ?_ ?_) | (refine Le.loopC (fun _ => ?_)) | (refine Le.elim (fun _ => ?_) (fun _ => ?_)))
def token_reader_add_c (fu : Nat) (m0 : TTokenReader) (a1 : Int) (a2 : Int) (a3 : Int) : Option (Int × TTokenReader) :=
  (bif (decide ((4000 : Int) ≤ (m0.gL.length : Int))) then some ((6 : Int), m0) else ((cutL m0.gB m0.gAt (IntKind.i64.wrap (m0.gAt + a2))).bind fun x4 => ((app 40 m0.gL ([(⟨a1, (ByteArray.mk x4.toArray), a3, m0.gAt⟩ : TApiToken)] : List TApiToken)).bind fun x5 => some ((0 : Int), (⟨m0.gB, (IntKind.i64.wrap (m0.gAt + a2)), x5⟩ : TTokenReader)))))
set_option maxRecDepth 100000 in
theorem token_reader_add_cle (fu : Nat)   (m0 : TTokenReader) (a1 : Int) (a2 : Int) (a3 : Int) : Le (token_reader_add_c fu  m0 a1 a2 a3) (token_reader_add  m0 a1 a2 a3) := by
  unfold token_reader_add_c token_reader_add
  repeat (first | exact Le.refl _ | assumption | (refine Le.bind ?_ (fun _ => ?_)) | (refine Le.cond ?_ ?_) | (refine Le.loopC (fun _ => ?_)) | (refine Le.elim (fun _ => ?_) (fun _ => ?_)))
def token_reader_name_c (fu : Nat) (m0 : TTokenReader) : Option (Int × TTokenReader) :=
  ((token_reader_span_c fu m0 true).bind fun x1 => ((cutL m0.gB m0.gAt (IntKind.i64.wrap (m0.gAt + x1))).bind fun x2 => (bif (decide ((20 : Int) < x1)) then some ((6 : Int), m0) else ((token_Word_c fu (ByteArray.mk x2.toArray)).bind fun x15 => (bif x15 then ((token_reader_add_c fu m0 (3 : Int) x1 (0 : Int)).bind fun x21 => some (x21.1, x21.2)) else ((token_reader_add_c fu m0 (1 : Int) x1 (0 : Int)).bind fun x24 => some (x24.1, x24.2)))))))
set_option maxRecDepth 100000 in
theorem token_reader_name_cle (fu : Nat)   (m0 : TTokenReader) : Le (token_reader_name_c fu  m0) (token_reader_name  m0) := by
  unfold token_reader_name_c token_reader_name
  repeat (first | exact Le.refl _ | assumption | exact token_reader_span_cle fu _ _ | exact token_Word_cle fu _ | exact token_reader_add_cle fu _ _ _ _ | (refine Le.bind ?_ (fun _ => ?_)) | (refine Le.cond ?_ ?_) | (refine Le.loopC (fun _ => ?_)) | (refine Le.elim (fun _ => ?_) (fun _ => ?_)))
def token_reader_number_c (fu : Nat) (m0 : TTokenReader) : Option (Int × TTokenReader) :=
  (bif (decide ((4000 : Int) ≤ (m0.gL.length : Int))) then some ((6 : Int), m0) else ((token_reader_span_c fu m0 false).bind fun x4 => (Option.bind (α := Bool) ((token_reader_span_c fu m0 true).bind fun x10 => (bif (decide (x4 < x10)) then some true else ((idx m0.gB m0.gAt).bind fun x12 => (bif ((x12.toNat : Int) == (48 : Int)) then some (decide ((1 : Int) < x4)) else some false)))) fun y9 => (bif y9 then some ((3 : Int), m0) else ((cutL m0.gB m0.gAt (IntKind.i64.wrap (m0.gAt + x4))).bind fun x17 => (Option.bind (α := (Int) ⊕ (Int × TTokenReader)) (loopC fu (fun (s33 : Int × Int) => (bif (decide (s33.2 < (x17.length : Int))) then ((idx x17 s33.2).bind fun x43 => (bif (decide ((IntKind.u64.wrap ((IntKind.u64.wrap ((9223372036854775807 : Int) - (IntKind.u64.wrap (IntKind.u8.wrap ((x43.toNat : Int) - (48 : Int)))))).tdiv (10 : Int))) < s33.1)) then some (.done (.inr ((4 : Int), m0))) else some (.next ((IntKind.u64.wrap ((IntKind.u64.wrap ((10 : Int) * s33.1)) + (IntKind.u64.wrap (IntKind.u8.wrap ((x43.toNat : Int) - (48 : Int)))))), (IntKind.i64.wrap (s33.2 + (1 : Int))))))) else some (.done (.inl s33.1)))) ((0 : Int), (0 : Int))) (Sum.elim (fun y32 => ((token_reader_add_c fu m0 (2 : Int) x4 (IntKind.i64.wrap y32)).bind fun x47 => some (x47.1, x47.2))) (fun r => some r))))))))
set_option maxRecDepth 100000 in
theorem token_reader_number_cle (fu : Nat)   (m0 : TTokenReader) : Le (token_reader_number_c fu  m0) (token_reader_number  m0) := by
  unfold token_reader_number_c token_reader_number
  repeat (first | exact Le.refl _ | assumption | exact token_reader_span_cle fu _ _ | exact token_reader_add_cle fu _ _ _ _ | (refine Le.bind ?_ (fun _ => ?_)) | (refine Le.cond ?_ ?_) | (refine Le.loopC (fun _ => ?_)) | (refine Le.elim (fun _ => ?_) (fun _ => ?_)))
def token_reader_sign_c (fu : Nat) (m0 : TTokenReader) : Option (Int) :=
  ((cutL m0.gB m0.gAt ((m0.gB).length : Int)).bind fun x1 => (Option.bind (α := Bool) (bif (decide ((1 : Int) < (x1.length : Int))) then ((cutL x1 (0 : Int) (2 : Int)).bind fun x7 => ((slices_Contains_string_string_c fu ([(ByteArray.mk #[61, 61]), (ByteArray.mk #[33, 61]), (ByteArray.mk #[60, 61]), (ByteArray.mk #[38, 38]), (ByteArray.mk #[124, 124])] : List ByteArray) (ByteArray.mk x7.toArray)).bind fun x8 => some x8)) else some false) fun y5 => (bif y5 then some (2 : Int) else ((idx x1 (0 : Int)).bind fun x12 => (bif (decide ((0 : Int) ≤ (indexB (ByteArray.mk #[40, 41, 123, 125, 91, 93, 59, 44, 61, 60, 43, 45, 42, 47, 37, 33, 38]) (x12.toNat : Int)))) then some (1 : Int) else some (0 : Int))))))
set_option maxRecDepth 100000 in
theorem token_reader_sign_cle (fu : Nat)   (m0 : TTokenReader) : Le (token_reader_sign_c fu  m0) (token_reader_sign  m0) := by
  unfold token_reader_sign_c token_reader_sign
  repeat (first | exact Le.refl _ | assumption | exact slices_Contains_string_string_cle fu _ _ | (refine Le.bind ?_ (fun _ => ?_)) | (refine Le.cond ?_ ?_) | (refine Le.loopC (fun _ => ?_)) | (refine Le.elim (fun _ => ?_) (fun _ => ?_)))
def token_reader_next_c (fu : Nat) (m0 : TTokenReader) : Option (Int × TTokenReader) :=
  ((idx m0.gB m0.gAt).bind fun x1 => ((token_kind_c fu (IntKind.i32.wrap (x1.toNat : Int))).bind fun x2 => (bif (x2 == (1 : Int)) then some ((0 : Int), (⟨m0.gB, (IntKind.i64.wrap (m0.gAt + (1 : Int))), m0.gL⟩ : TTokenReader)) else (bif (x2 == (2 : Int)) then ((token_reader_name_c fu m0).bind fun x27 => some (x27.1, x27.2)) else (bif (x2 == (3 : Int)) then ((token_reader_number_c fu m0).bind fun x34 => some (x34.1, x34.2)) else ((token_reader_sign_c fu m0).bind fun x36 => (bif (x36 == (0 : Int)) then some ((3 : Int), m0) else ((token_reader_add_c fu m0 (3 : Int) x36 (0 : Int)).bind fun x41 => some (x41.1, x41.2)))))))))
set_option maxRecDepth 100000 in
theorem token_reader_next_cle (fu : Nat)   (m0 : TTokenReader) : Le (token_reader_next_c fu  m0) (token_reader_next  m0) := by
  unfold token_reader_next_c token_reader_next
  repeat (first | exact Le.refl _ | assumption | exact token_kind_cle fu _ | exact token_reader_name_cle fu _ | exact token_reader_number_cle fu _ | exact token_reader_sign_cle fu _ | exact token_reader_add_cle fu _ _ _ _ | (refine Le.bind ?_ (fun _ => ?_)) | (refine Le.cond ?_ ?_) | (refine Le.loopC (fun _ => ?_)) | (refine Le.elim (fun _ => ?_) (fun _ => ?_)))
def token_Read_c (fu : Nat) (a0 : List UInt8) : Option (List TApiToken × Int × Int) :=
  (bif (decide ((20000 : Int) < (a0.length : Int))) then some (([] : List TApiToken), (0 : Int), (6 : Int)) else (Option.bind (α := (List UInt8 × Int × List TApiToken) ⊕ (List TApiToken × Int × Int)) (loopC fu (fun (s25 : List UInt8 × Int × List TApiToken) => (bif (decide (s25.2.1 < (a0.length : Int))) then ((token_reader_next_c fu (⟨s25.1, s25.2.1, s25.2.2⟩ : TTokenReader)).bind fun x40 => (bif (x40.1 != (0 : Int)) then some (.done (.inr (([] : List TApiToken), x40.2.gAt, x40.1))) else some (.next (x40.2.gB, x40.2.gAt, x40.2.gL)))) else some (.done (.inl (s25.1, s25.2.1, s25.2.2))))) (a0, (0 : Int), ([] : List TApiToken))) (Sum.elim (fun y24 => ((app 40 y24.2.2 ([(⟨(0 : Int), ByteArray.empty, (0 : Int), (a0.length : Int)⟩ : TApiToken)] : List TApiToken)).bind fun x44 => some (x44, (0 : Int), (0 : Int)))) (fun r => some r))))
set_option maxRecDepth 100000 in
theorem token_Read_cle (fu : Nat)   (a0 : List UInt8) : Le (token_Read_c fu  a0) (token_Read  a0) := by
  unfold token_Read_c token_Read
  repeat (first | exact Le.refl _ | assumption | exact token_reader_next_cle fu _ | (refine Le.bind ?_ (fun _ => ?_)) | (refine Le.cond ?_ ?_) | (refine Le.loopC (fun _ => ?_)) | (refine Le.elim (fun _ => ?_) (fun _ => ?_)))
def grammar_begin_c (fu : Nat) (a0 : List TApiToken) (a1 : Int) : Option (TGrammarReader × Bool) :=
  (bif (decide ((0 : Int) ≤ a1)) then some ((⟨a0, a1, (0 : Int), (0 : Int), (0 : Int)⟩ : TGrammarReader), (decide (a1 ≤ (a0.length : Int)))) else some ((⟨a0, a1, (0 : Int), (0 : Int), (0 : Int)⟩ : TGrammarReader), false))
set_option maxRecDepth 100000 in
theorem grammar_begin_cle (fu : Nat)   (a0 : List TApiToken) (a1 : Int) : Le (grammar_begin_c fu  a0 a1) (grammar_begin  a0 a1) := by
  unfold grammar_begin_c grammar_begin
  repeat (first | exact Le.refl _ | assumption | (refine Le.bind ?_ (fun _ => ?_)) | (refine Le.cond ?_ ?_) | (refine Le.loopC (fun _ => ?_)) | (refine Le.elim (fun _ => ?_) (fun _ => ?_)))
def grammar_reader_look_c (fu : Nat) (m0 : TGrammarReader) (a1 : Int) : Option (TApiToken) :=
  (bif (decide ((m0.gL.length : Int) ≤ (IntKind.i64.wrap (m0.gAt + a1)))) then some (⟨(0 : Int), ByteArray.empty, (0 : Int), (0 : Int)⟩ : TApiToken) else ((idx m0.gL (IntKind.i64.wrap (m0.gAt + a1))).bind fun x5 => some x5))
set_option maxRecDepth 100000 in
theorem grammar_reader_look_cle (fu : Nat)   (m0 : TGrammarReader) (a1 : Int) : Le (grammar_reader_look_c fu  m0 a1) (grammar_reader_look  m0 a1) := by
  unfold grammar_reader_look_c grammar_reader_look
  repeat (first | exact Le.refl _ | assumption | (refine Le.bind ?_ (fun _ => ?_)) | (refine Le.cond ?_ ?_) | (refine Le.loopC (fun _ => ?_)) | (refine Le.elim (fun _ => ?_) (fun _ => ?_)))
def grammar_reader_is_c (fu : Nat) (m0 : TGrammarReader) (a1 : Int) (a2 : ByteArray) : Option (Bool) :=
  ((grammar_reader_look_c fu m0 a1).bind fun x1 => (bif (x1.gKind == (3 : Int)) then some (decide (x1.gText = a2)) else some false))
set_option maxRecDepth 100000 in
theorem grammar_reader_is_cle (fu : Nat)   (m0 : TGrammarReader) (a1 : Int) (a2 : ByteArray) : Le (grammar_reader_is_c fu  m0 a1 a2) (grammar_reader_is  m0 a1 a2) := by
  unfold grammar_reader_is_c grammar_reader_is
  repeat (first | exact Le.refl _ | assumption | exact grammar_reader_look_cle fu _ _ | (refine Le.bind ?_ (fun _ => ?_)) | (refine Le.cond ?_ ?_) | (refine Le.loopC (fun _ => ?_)) | (refine Le.elim (fun _ => ?_) (fun _ => ?_)))
def grammar_reader_fail_c (fu : Nat) (m0 : TGrammarReader) (a1 : Int) (a2 : Int) : Option (TGrammarReader) :=
  (bif (m0.gE == (0 : Int)) then some (⟨m0.gL, a1, a2, m0.gVars, m0.gOpen⟩ : TGrammarReader) else some m0)
set_option maxRecDepth 100000 in
theorem grammar_reader_fail_cle (fu : Nat)   (m0 : TGrammarReader) (a1 : Int) (a2 : Int) : Le (grammar_reader_fail_c fu  m0 a1 a2) (grammar_reader_fail  m0 a1 a2) := by
  unfold grammar_reader_fail_c grammar_reader_fail
  repeat (first | exact Le.refl _ | assumption | (refine Le.bind ?_ (fun _ => ?_)) | (refine Le.cond ?_ ?_) | (refine Le.loopC (fun _ => ?_)) | (refine Le.elim (fun _ => ?_) (fun _ => ?_)))
def grammar_reader_eat_c (fu : Nat) (m0 : TGrammarReader) (a1 : List ByteArray) : Option (TGrammarReader) :=
  (Option.bind (α := (Int) ⊕ (TGrammarReader)) (loopC fu (fun (s34 : Int × Int) => (bif (decide (s34.1 < (a1.length : Int))) then ((idx a1 s34.1).bind fun x50 => (bif (m0.gE != (0 : Int)) then some (.done (.inr (⟨m0.gL, s34.2, m0.gE, m0.gVars, m0.gOpen⟩ : TGrammarReader))) else ((grammar_reader_is_c fu (⟨m0.gL, s34.2, m0.gE, m0.gVars, m0.gOpen⟩ : TGrammarReader) (0 : Int) x50).bind fun x53 => (bif (!x53) then ((grammar_reader_fail_c fu (⟨m0.gL, s34.2, m0.gE, m0.gVars, m0.gOpen⟩ : TGrammarReader) s34.2 (3 : Int)).bind fun x55 => some (.done (.inr x55))) else some (.next ((IntKind.i64.wrap (s34.1 + (1 : Int))), (IntKind.i64.wrap (s34.2 + (1 : Int))))))))) else some (.done (.inl s34.2)))) ((0 : Int), m0.gAt)) (Sum.elim (fun y33 => some (⟨m0.gL, y33, m0.gE, m0.gVars, m0.gOpen⟩ : TGrammarReader)) (fun r => some r)))
set_option maxRecDepth 100000 in
theorem grammar_reader_eat_cle (fu : Nat)   (m0 : TGrammarReader) (a1 : List ByteArray) : Le (grammar_reader_eat_c fu  m0 a1) (grammar_reader_eat  m0 a1) := by
  unfold grammar_reader_eat_c grammar_reader_eat
  repeat (first | exact Le.refl _ | assumption | exact grammar_reader_is_cle fu _ _ _ | exact grammar_reader_fail_cle fu _ _ _ | (refine Le.bind ?_ (fun _ => ?_)) | (refine Le.cond ?_ ?_) | (refine Le.loopC (fun _ => ?_)) | (refine Le.elim (fun _ => ?_) (fun _ => ?_)))
def grammar_reader_name_c (fu : Nat) (m0 : TGrammarReader) : Option (ByteArray × TGrammarReader) :=
  (bif (m0.gE != (0 : Int)) then some ((ByteArray.mk #[]), m0) else ((grammar_reader_look_c fu m0 (0 : Int)).bind fun x4 => (bif (x4.gKind != (1 : Int)) then ((grammar_reader_fail_c fu m0 m0.gAt (3 : Int)).bind fun x9 => some ((ByteArray.mk #[]), x9)) else some (x4.gText, (⟨m0.gL, (IntKind.i64.wrap (m0.gAt + (1 : Int))), m0.gE, m0.gVars, m0.gOpen⟩ : TGrammarReader)))))
set_option maxRecDepth 100000 in
theorem grammar_reader_name_cle (fu : Nat)   (m0 : TGrammarReader) : Le (grammar_reader_name_c fu  m0) (grammar_reader_name  m0) := by
  unfold grammar_reader_name_c grammar_reader_name
  repeat (first | exact Le.refl _ | assumption | exact grammar_reader_look_cle fu _ _ | exact grammar_reader_fail_cle fu _ _ _ | (refine Le.bind ?_ (fun _ => ?_)) | (refine Le.cond ?_ ?_) | (refine Le.loopC (fun _ => ?_)) | (refine Le.elim (fun _ => ?_) (fun _ => ?_)))
def grammar_reader_may_c (fu : Nat) (m0 : TGrammarReader) (a1 : ByteArray) : Option (Bool × TGrammarReader) :=
  (Option.bind (α := Bool) (bif (m0.gE != (0 : Int)) then some true else ((grammar_reader_is_c fu m0 (0 : Int) a1).bind fun x5 => some (!x5))) fun y3 => (bif y3 then some (false, m0) else some (true, (⟨m0.gL, (IntKind.i64.wrap (m0.gAt + (1 : Int))), m0.gE, m0.gVars, m0.gOpen⟩ : TGrammarReader))))
set_option maxRecDepth 100000 in
theorem grammar_reader_may_cle (fu : Nat)   (m0 : TGrammarReader) (a1 : ByteArray) : Le (grammar_reader_may_c fu  m0 a1) (grammar_reader_may  m0 a1) := by
  unfold grammar_reader_may_c grammar_reader_may
  repeat (first | exact Le.refl _ | assumption | exact grammar_reader_is_cle fu _ _ _ | (refine Le.bind ?_ (fun _ => ?_)) | (refine Le.cond ?_ ?_) | (refine Le.loopC (fun _ => ?_)) | (refine Le.elim (fun _ => ?_) (fun _ => ?_)))
def grammar_reader_variable_c (fu : Nat) (m0 : TGrammarReader) : Option (TApiVar × TGrammarReader) :=
  ((grammar_reader_eat_c fu m0 ([(ByteArray.mk #[105, 110, 116])] : List ByteArray)).bind fun x2 => ((grammar_reader_may_c fu x2 (ByteArray.mk #[42])).bind fun x3 => ((grammar_reader_name_c fu x3.2).bind fun x5 => (bif (decide ((16 : Int) < (IntKind.i64.wrap (x5.2.gVars + (1 : Int))))) then ((grammar_reader_fail_c fu (⟨x5.2.gL, x5.2.gAt, x5.2.gE, (IntKind.i64.wrap (x5.2.gVars + (1 : Int))), x5.2.gOpen⟩ : TGrammarReader) x3.2.gAt (6 : Int)).bind fun x7 => some ((⟨x5.1, x3.1⟩ : TApiVar), x7)) else some ((⟨x5.1, x3.1⟩ : TApiVar), (⟨x5.2.gL, x5.2.gAt, x5.2.gE, (IntKind.i64.wrap (x5.2.gVars + (1 : Int))), x5.2.gOpen⟩ : TGrammarReader))))))
set_option maxRecDepth 100000 in
theorem grammar_reader_variable_cle (fu : Nat)   (m0 : TGrammarReader) : Le (grammar_reader_variable_c fu  m0) (grammar_reader_variable  m0) := by
  unfold grammar_reader_variable_c grammar_reader_variable
  repeat (first | exact Le.refl _ | assumption | exact grammar_reader_eat_cle fu _ _ | exact grammar_reader_may_cle fu _ _ | exact grammar_reader_name_cle fu _ | exact grammar_reader_fail_cle fu _ _ _ | (refine Le.bind ?_ (fun _ => ?_)) | (refine Le.cond ?_ ?_) | (refine Le.loopC (fun _ => ?_)) | (refine Le.elim (fun _ => ?_) (fun _ => ?_)))
def grammar_list_api_Var_c (fu : Nat) (m0 : TGrammarReader) : Option (List TApiVar × TGrammarReader) :=
  ((grammar_reader_eat_c fu m0 ([(ByteArray.mk #[40])] : List ByteArray)).bind fun x1 => ((grammar_reader_may_c fu x1 (ByteArray.mk #[41])).bind fun x2 => (bif x2.1 then some (([] : List TApiVar), x2.2) else (Option.bind (α := List TApiVar × List TApiToken × Int × Int × Int × Int) (loopC fu (fun (s28 : List TApiVar × List TApiToken × Int × Int × Int × Int) => (bif (s28.2.2.2.1 == (0 : Int)) then ((grammar_reader_variable_c fu (⟨s28.2.1, s28.2.2.1, s28.2.2.2.1, s28.2.2.2.2.1, s28.2.2.2.2.2⟩ : TGrammarReader)).bind fun x43 => ((app 24 s28.1 ([x43.1] : List TApiVar)).bind fun x44 => ((grammar_reader_may_c fu x43.2 (ByteArray.mk #[44])).bind fun x45 => (bif (!x45.1) then some (.done (x44, x45.2.gL, x45.2.gAt, x45.2.gE, x45.2.gVars, x45.2.gOpen)) else some (.next (x44, x45.2.gL, x45.2.gAt, x45.2.gE, x45.2.gVars, x45.2.gOpen)))))) else some (.done (s28.1, s28.2.1, s28.2.2.1, s28.2.2.2.1, s28.2.2.2.2.1, s28.2.2.2.2.2)))) (([] : List TApiVar), x2.2.gL, x2.2.gAt, x2.2.gE, x2.2.gVars, x2.2.gOpen)) fun y27 => ((grammar_reader_eat_c fu (⟨y27.2.1, y27.2.2.1, y27.2.2.2.1, y27.2.2.2.2.1, y27.2.2.2.2.2⟩ : TGrammarReader) ([(ByteArray.mk #[41])] : List ByteArray)).bind fun x47 => some (y27.1, x47))))))
set_option maxRecDepth 100000 in
theorem grammar_list_api_Var_cle (fu : Nat)   (m0 : TGrammarReader) : Le (grammar_list_api_Var_c fu  m0) (grammar_list_api_Var  m0) := by
  unfold grammar_list_api_Var_c grammar_list_api_Var
  repeat (first | exact Le.refl _ | assumption | exact grammar_reader_eat_cle fu _ _ | exact grammar_reader_may_cle fu _ _ | exact grammar_reader_variable_cle fu _ | (refine Le.bind ?_ (fun _ => ?_)) | (refine Le.cond ?_ ?_) | (refine Le.loopC (fun _ => ?_)) | (refine Le.elim (fun _ => ?_) (fun _ => ?_)))
def grammar_reader_function_1_c (fu : Nat) (m2 : TApiFunc) (m1 : TGrammarReader) : Option (TGrammarReader × TApiFunc) :=
  (Option.bind (α := List TApiToken × Int × Int × Int × Int × List TApiVar) (loopC fu (fun (s33 : List TApiToken × Int × Int × Int × Int × List TApiVar) => (Option.bind (α := Bool) (bif (s33.2.2.1 == (0 : Int)) then ((grammar_reader_is_c fu (⟨s33.1, s33.2.1, s33.2.2.1, s33.2.2.2.1, s33.2.2.2.2.1⟩ : TGrammarReader) (0 : Int) (ByteArray.mk #[105, 110, 116])).bind fun x58 => some x58) else some false) fun y56 => (bif y56 then ((grammar_reader_variable_c fu (⟨s33.1, s33.2.1, s33.2.2.1, s33.2.2.2.1, s33.2.2.2.2.1⟩ : TGrammarReader)).bind fun x60 => ((app 24 s33.2.2.2.2.2 ([x60.1] : List TApiVar)).bind fun x61 => ((grammar_reader_eat_c fu x60.2 ([(ByteArray.mk #[59])] : List ByteArray)).bind fun x62 => some (.next (x62.gL, x62.gAt, x62.gE, x62.gVars, x62.gOpen, x61))))) else some (.done (s33.1, s33.2.1, s33.2.2.1, s33.2.2.2.1, s33.2.2.2.2.1, s33.2.2.2.2.2))))) (m1.gL, m1.gAt, m1.gE, m1.gVars, m1.gOpen, m2.gLocals)) fun y32 => some ((⟨y32.1, y32.2.1, y32.2.2.1, y32.2.2.2.1, y32.2.2.2.2.1⟩ : TGrammarReader), (⟨m2.gName, m2.gParams, y32.2.2.2.2.2, m2.gBody, m2.gAt⟩ : TApiFunc)))
set_option maxRecDepth 100000 in
theorem grammar_reader_function_1_cle (fu : Nat)   (m2 : TApiFunc) (m1 : TGrammarReader) : Le (grammar_reader_function_1_c fu  m2 m1) (grammar_reader_function_1  m2 m1) := by
  unfold grammar_reader_function_1_c grammar_reader_function_1
  repeat (first | exact Le.refl _ | assumption | exact grammar_reader_is_cle fu _ _ _ | exact grammar_reader_variable_cle fu _ | exact grammar_reader_eat_cle fu _ _ | (refine Le.bind ?_ (fun _ => ?_)) | (refine Le.cond ?_ ?_) | (refine Le.loopC (fun _ => ?_)) | (refine Le.elim (fun _ => ?_) (fun _ => ?_)))
def parse_reader_look_c (fu : Nat) (m0 : TParseReader) : Option (TApiToken) :=
  (bif (decide ((m0.gL.length : Int) ≤ m0.gAt)) then some (⟨(0 : Int), ByteArray.empty, (0 : Int), (0 : Int)⟩ : TApiToken) else ((idx m0.gL m0.gAt).bind fun x5 => some x5))
set_option maxRecDepth 100000 in
theorem parse_reader_look_cle (fu : Nat)   (m0 : TParseReader) : Le (parse_reader_look_c fu  m0) (parse_reader_look  m0) := by
  unfold parse_reader_look_c parse_reader_look
  repeat (first | exact Le.refl _ | assumption | (refine Le.bind ?_ (fun _ => ?_)) | (refine Le.cond ?_ ?_) | (refine Le.loopC (fun _ => ?_)) | (refine Le.elim (fun _ => ?_) (fun _ => ?_)))
def parse_reader_is_c (fu : Nat) (m0 : TParseReader) (a1 : ByteArray) : Option (Bool) :=
  ((parse_reader_look_c fu m0).bind fun x1 => (bif (x1.gKind == (3 : Int)) then some (decide (x1.gText = a1)) else some false))
set_option maxRecDepth 100000 in
theorem parse_reader_is_cle (fu : Nat)   (m0 : TParseReader) (a1 : ByteArray) : Le (parse_reader_is_c fu  m0 a1) (parse_reader_is  m0 a1) := by
  unfold parse_reader_is_c parse_reader_is
  repeat (first | exact Le.refl _ | assumption | exact parse_reader_look_cle fu _ | (refine Le.bind ?_ (fun _ => ?_)) | (refine Le.cond ?_ ?_) | (refine Le.loopC (fun _ => ?_)) | (refine Le.elim (fun _ => ?_) (fun _ => ?_)))
def parse_reader_fail_c (fu : Nat) (m0 : TParseReader) (a1 : Int) (a2 : Int) : Option (TParseReader) :=
  (bif (m0.gE == (0 : Int)) then some (⟨m0.gL, a1, a2⟩ : TParseReader) else some m0)
set_option maxRecDepth 100000 in
theorem parse_reader_fail_cle (fu : Nat)   (m0 : TParseReader) (a1 : Int) (a2 : Int) : Le (parse_reader_fail_c fu  m0 a1 a2) (parse_reader_fail  m0 a1 a2) := by
  unfold parse_reader_fail_c parse_reader_fail
  repeat (first | exact Le.refl _ | assumption | (refine Le.bind ?_ (fun _ => ?_)) | (refine Le.cond ?_ ?_) | (refine Le.loopC (fun _ => ?_)) | (refine Le.elim (fun _ => ?_) (fun _ => ?_)))
def parse_reader_eat_c (fu : Nat) (m0 : TParseReader) (a1 : ByteArray) : Option (TParseReader) :=
  ((parse_reader_is_c fu m0 a1).bind fun x1 => (bif (!x1) then ((parse_reader_fail_c fu m0 m0.gAt (3 : Int)).bind fun x5 => some x5) else some (⟨m0.gL, (IntKind.i64.wrap (m0.gAt + (1 : Int))), m0.gE⟩ : TParseReader)))
set_option maxRecDepth 100000 in
theorem parse_reader_eat_cle (fu : Nat)   (m0 : TParseReader) (a1 : ByteArray) : Le (parse_reader_eat_c fu  m0 a1) (parse_reader_eat  m0 a1) := by
  unfold parse_reader_eat_c parse_reader_eat
  repeat (first | exact Le.refl _ | assumption | exact parse_reader_is_cle fu _ _ | exact parse_reader_fail_cle fu _ _ _ | (refine Le.bind ?_ (fun _ => ?_)) | (refine Le.cond ?_ ?_) | (refine Le.loopC (fun _ => ?_)) | (refine Le.elim (fun _ => ?_) (fun _ => ?_)))
def tree_Deep_b_c (fu : Nat) (g0 : (TApiExpr) → Option (Int)) (a0 : TApiExpr) : Option (Int) :=
  (Option.bind (α := Int) (loopC fu (fun (s19 : Int × Int) => (bif (decide (s19.2 < (a0.gKids.length : Int))) then ((idx a0.gKids s19.2).bind fun x31 => ((g0 x31).bind fun x33 => some (.next ((max s19.1 x33), (IntKind.i64.wrap (s19.2 + (1 : Int))))))) else some (.done s19.1))) ((0 : Int), (0 : Int))) fun y18 => some (IntKind.i64.wrap (y18 + (1 : Int))))
set_option maxRecDepth 100000 in
theorem tree_Deep_b_cle (fu : Nat) (g0 g0' : (TApiExpr) → Option (Int)) (hg0 : ∀ x0, Le (g0 x0) (g0' x0)) (a0 : TApiExpr) : Le (tree_Deep_b_c fu g0 a0) (tree_Deep_b g0' a0) := by
  unfold tree_Deep_b_c tree_Deep_b
  repeat (first | exact Le.refl _ | assumption | exact hg0 _ | (refine Le.bind ?_ (fun _ => ?_)) | (refine Le.cond ?_ ?_) | (refine Le.loopC (fun _ => ?_)) | (refine Le.elim (fun _ => ?_) (fun _ => ?_)))
def tree_Deep_g_c (fu : Nat) : Nat → ((TApiExpr) → Option (Int))
  | 0 => (fun _ => none)
  | n + 1 => (tree_Deep_b_c fu ((tree_Deep_g_c fu n)))
theorem tree_Deep_g_cle (fu : Nat) : ∀ n, (∀ (a0 : TApiExpr), Le ((tree_Deep_g_c fu n) a0) ((tree_Deep_g n) a0))
  | 0 => fun _ => Le.none _
  | n + 1 => by
    have ih := tree_Deep_g_cle fu n
    exact fun a0 => tree_Deep_b_cle fu _ _ ih a0
def tree_Deep_c (fu : Nat) (a0 : TApiExpr) : Option (Int) := (tree_Deep_g_c fu fu) a0
theorem tree_Deep_cle (fu : Nat) (a0 : TApiExpr) : Le (tree_Deep_c fu a0) (tree_Deep a0) := fun r h => tree_Deep_of a0 fu (((tree_Deep_g_cle fu fu) a0) r h)
def parse_reader_sound_c (fu : Nat) (m0 : TParseReader) (a1 : TApiExpr) (a2 : Int) : Option (TApiExpr × TParseReader) :=
  (bif (m0.gE != (0 : Int)) then some ((⟨(0 : Int), (0 : Int), ByteArray.empty, [], (0 : Int)⟩ : TApiExpr), m0) else ((tree_Deep_c fu a1).bind fun x6 => (bif (decide ((24 : Int) < x6)) then ((parse_reader_fail_c fu m0 a2 (5 : Int)).bind fun x8 => some ((⟨(0 : Int), (0 : Int), ByteArray.empty, [], (0 : Int)⟩ : TApiExpr), x8)) else some (a1, m0))))
set_option maxRecDepth 100000 in
theorem parse_reader_sound_cle (fu : Nat)   (m0 : TParseReader) (a1 : TApiExpr) (a2 : Int) : Le (parse_reader_sound_c fu  m0 a1 a2) (parse_reader_sound  m0 a1 a2) := by
  unfold parse_reader_sound_c parse_reader_sound
  repeat (first | exact Le.refl _ | assumption | exact tree_Deep_cle fu _ | exact parse_reader_fail_cle fu _ _ _ | (refine Le.bind ?_ (fun _ => ?_)) | (refine Le.cond ?_ ?_) | (refine Le.loopC (fun _ => ?_)) | (refine Le.elim (fun _ => ?_) (fun _ => ?_)))
def parse_pick_c (fu : Nat) (a0 : ByteArray) (a1 : ByteArray) (a2 : Int) (a3 : ByteArray) (a4 : Int) : Option (Int) :=
  (bif (decide (a0 = a1)) then some a2 else (bif (decide (a0 = a3)) then some a4 else some (0 : Int)))
set_option maxRecDepth 100000 in
theorem parse_pick_cle (fu : Nat)   (a0 : ByteArray) (a1 : ByteArray) (a2 : Int) (a3 : ByteArray) (a4 : Int) : Le (parse_pick_c fu  a0 a1 a2 a3 a4) (parse_pick  a0 a1 a2 a3 a4) := by
  unfold parse_pick_c parse_pick
  repeat (first | exact Le.refl _ | assumption | (refine Le.bind ?_ (fun _ => ?_)) | (refine Le.cond ?_ ?_) | (refine Le.loopC (fun _ => ?_)) | (refine Le.elim (fun _ => ?_) (fun _ => ?_)))
def parse_reader_name_c (fu : Nat) (m0 : TParseReader) : Option (ByteArray × TParseReader) :=
  ((parse_reader_look_c fu m0).bind fun x1 => (bif (x1.gKind != (1 : Int)) then ((parse_reader_fail_c fu m0 m0.gAt (3 : Int)).bind fun x6 => some ((ByteArray.mk #[]), x6)) else some (x1.gText, (⟨m0.gL, (IntKind.i64.wrap (m0.gAt + (1 : Int))), m0.gE⟩ : TParseReader))))
set_option maxRecDepth 100000 in
theorem parse_reader_name_cle (fu : Nat)   (m0 : TParseReader) : Le (parse_reader_name_c fu  m0) (parse_reader_name  m0) := by
  unfold parse_reader_name_c parse_reader_name
  repeat (first | exact Le.refl _ | assumption | exact parse_reader_look_cle fu _ | exact parse_reader_fail_cle fu _ _ _ | (refine Le.bind ?_ (fun _ => ?_)) | (refine Le.cond ?_ ?_) | (refine Le.loopC (fun _ => ?_)) | (refine Le.elim (fun _ => ?_) (fun _ => ?_)))
def parse_between_c (fu : Nat) (a0 : Int) (a1 : ByteArray) : Option (Int) :=
  (bif (a0 == (0 : Int)) then (bif (decide (a1 = (ByteArray.mk #[124, 124]))) then some (17 : Int) else some (0 : Int)) else (bif (a0 == (1 : Int)) then (bif (decide (a1 = (ByteArray.mk #[38, 38]))) then some (16 : Int) else some (0 : Int)) else (bif (a0 == (2 : Int)) then ((parse_pick_c fu a1 (ByteArray.mk #[61, 61]) (14 : Int) (ByteArray.mk #[33, 61]) (15 : Int)).bind fun x10 => some x10) else (bif (a0 == (3 : Int)) then ((parse_pick_c fu a1 (ByteArray.mk #[60]) (12 : Int) (ByteArray.mk #[60, 61]) (13 : Int)).bind fun x13 => some x13) else (bif (a0 == (4 : Int)) then ((parse_pick_c fu a1 (ByteArray.mk #[43]) (10 : Int) (ByteArray.mk #[45]) (11 : Int)).bind fun x16 => some x16) else (bif (a0 == (5 : Int)) then (bif (decide (a1 = (ByteArray.mk #[37]))) then some (9 : Int) else ((parse_pick_c fu a1 (ByteArray.mk #[42]) (7 : Int) (ByteArray.mk #[47]) (8 : Int)).bind fun x22 => some x22)) else some (0 : Int)))))))
set_option maxRecDepth 100000 in
theorem parse_between_cle (fu : Nat)   (a0 : Int) (a1 : ByteArray) : Le (parse_between_c fu  a0 a1) (parse_between  a0 a1) := by
  unfold parse_between_c parse_between
  repeat (first | exact Le.refl _ | assumption | exact parse_pick_cle fu _ _ _ _ _ | (refine Le.bind ?_ (fun _ => ?_)) | (refine Le.cond ?_ ?_) | (refine Le.loopC (fun _ => ?_)) | (refine Le.elim (fun _ => ?_) (fun _ => ?_)))
def parse_reader_row_b_c (fu : Nat) (g0 : (TParseReader) → (Int) → Option (TApiExpr × TParseReader)) (g1 : (TParseReader) → Option (TApiExpr × TParseReader)) (g2 : (TParseReader) → (TApiExpr) → (Int) → (Int) → Option (TApiExpr × TParseReader)) (g3 : (TParseReader) → (ByteArray) → Option (TApiExpr × TParseReader)) (g4 : (TParseReader) → (TApiToken) → (Int) → Option (TApiExpr × TParseReader)) (m0 : TParseReader) (a1 : Int) : Option (TApiExpr × TParseReader) :=
  (bif (a1 == (6 : Int)) then ((g1 m0).bind fun x5 => some (x5.1, x5.2)) else ((g0 m0 (IntKind.i64.wrap (a1 + (1 : Int)))).bind fun x7 => (Option.bind (α := List TApiToken × Int × Int × Int × Int × ByteArray × List TApiExpr × Int) (loopC fu (fun (s51 : List TApiToken × Int × Int × Int × Int × ByteArray × List TApiExpr × Int) => (bif (s51.2.2.1 == (0 : Int)) then ((parse_reader_look_c fu (⟨s51.1, s51.2.1, s51.2.2.1⟩ : TParseReader)).bind fun x79 => (Option.bind (α := Int) (bif (x79.gKind == (3 : Int)) then ((parse_between_c fu a1 x79.gText).bind fun x85 => some x85) else some (0 : Int)) fun y83 => (bif (y83 == (0 : Int)) then some (.done (s51.1, s51.2.1, s51.2.2.1, s51.2.2.2.1, s51.2.2.2.2.1, s51.2.2.2.2.2.1, s51.2.2.2.2.2.2.1, s51.2.2.2.2.2.2.2)) else ((g0 (⟨s51.1, (IntKind.i64.wrap (s51.2.1 + (1 : Int))), s51.2.2.1⟩ : TParseReader) (IntKind.i64.wrap (a1 + (1 : Int)))).bind fun x87 => ((parse_reader_sound_c fu x87.2 (⟨y83, (0 : Int), ByteArray.empty, ([(⟨s51.2.2.2.1, s51.2.2.2.2.1, s51.2.2.2.2.2.1, s51.2.2.2.2.2.2.1, s51.2.2.2.2.2.2.2⟩ : TApiExpr), x87.1] : List TApiExpr), x79.gAt⟩ : TApiExpr) s51.2.1).bind fun x89 => some (.next (x89.2.gL, x89.2.gAt, x89.2.gE, x89.1.gOp, x89.1.gN, x89.1.gName, x89.1.gKids, x89.1.gAt))))))) else some (.done (s51.1, s51.2.1, s51.2.2.1, s51.2.2.2.1, s51.2.2.2.2.1, s51.2.2.2.2.2.1, s51.2.2.2.2.2.2.1, s51.2.2.2.2.2.2.2)))) (x7.2.gL, x7.2.gAt, x7.2.gE, x7.1.gOp, x7.1.gN, x7.1.gName, x7.1.gKids, x7.1.gAt)) fun y50 => some ((⟨y50.2.2.2.1, y50.2.2.2.2.1, y50.2.2.2.2.2.1, y50.2.2.2.2.2.2.1, y50.2.2.2.2.2.2.2⟩ : TApiExpr), (⟨y50.1, y50.2.1, y50.2.2.1⟩ : TParseReader)))))
set_option maxRecDepth 100000 in
theorem parse_reader_row_b_cle (fu : Nat) (g0 g0' : (TParseReader) → (Int) → Option (TApiExpr × TParseReader)) (g1 g1' : (TParseReader) → Option (TApiExpr × TParseReader)) (g2 g2' : (TParseReader) → (TApiExpr) → (Int) → (Int) → Option (TApiExpr × TParseReader)) (g3 g3' : (TParseReader) → (ByteArray) → Option (TApiExpr × TParseReader)) (g4 g4' : (TParseReader) → (TApiToken) → (Int) → Option (TApiExpr × TParseReader)) (hg0 : ∀ x0 x1, Le (g0 x0 x1) (g0' x0 x1)) (hg1 : ∀ x0, Le (g1 x0) (g1' x0)) (hg2 : ∀ x0 x1 x2 x3, Le (g2 x0 x1 x2 x3) (g2' x0 x1 x2 x3)) (hg3 : ∀ x0 x1, Le (g3 x0 x1) (g3' x0 x1)) (hg4 : ∀ x0 x1 x2, Le (g4 x0 x1 x2) (g4' x0 x1 x2)) (m0 : TParseReader) (a1 : Int) : Le (parse_reader_row_b_c fu g0 g1 g2 g3 g4 m0 a1) (parse_reader_row_b g0' g1' g2' g3' g4' m0 a1) := by
  unfold parse_reader_row_b_c parse_reader_row_b
  repeat (first | exact Le.refl _ | assumption | exact hg0 _ _ | exact hg1 _ | exact hg2 _ _ _ _ | exact hg3 _ _ | exact hg4 _ _ _ | exact parse_reader_look_cle fu _ | exact parse_between_cle fu _ _ | exact parse_reader_sound_cle fu _ _ _ | (refine Le.bind ?_ (fun _ => ?_)) | (refine Le.cond ?_ ?_) | (refine Le.loopC (fun _ => ?_)) | (refine Le.elim (fun _ => ?_) (fun _ => ?_)))
def parse_reader_unit_b_c (fu : Nat) (g0 : (TParseReader) → (Int) → Option (TApiExpr × TParseReader)) (g1 : (TParseReader) → Option (TApiExpr × TParseReader)) (g2 : (TParseReader) → (TApiExpr) → (Int) → (Int) → Option (TApiExpr × TParseReader)) (g3 : (TParseReader) → (ByteArray) → Option (TApiExpr × TParseReader)) (g4 : (TParseReader) → (TApiToken) → (Int) → Option (TApiExpr × TParseReader)) (m0 : TParseReader) : Option (TApiExpr × TParseReader) :=
  ((parse_reader_look_c fu m0).bind fun x2 => (bif (m0.gE != (0 : Int)) then some ((⟨(0 : Int), (0 : Int), ByteArray.empty, [], (0 : Int)⟩ : TApiExpr), m0) else (bif (x2.gKind == (2 : Int)) then some ((⟨(1 : Int), x2.gN, ByteArray.empty, [], x2.gAt⟩ : TApiExpr), (⟨m0.gL, (IntKind.i64.wrap (m0.gAt + (1 : Int))), m0.gE⟩ : TParseReader)) else (bif (x2.gKind == (1 : Int)) then ((g2 (⟨m0.gL, (IntKind.i64.wrap (m0.gAt + (1 : Int))), m0.gE⟩ : TParseReader) (⟨(2 : Int), (0 : Int), x2.gText, [], x2.gAt⟩ : TApiExpr) (3 : Int) m0.gAt).bind fun x24 => some (x24.1, x24.2)) else (bif (x2.gKind == (3 : Int)) then ((g4 (⟨m0.gL, (IntKind.i64.wrap (m0.gAt + (1 : Int))), m0.gE⟩ : TParseReader) x2 m0.gAt).bind fun x29 => some (x29.1, x29.2)) else ((parse_reader_fail_c fu (⟨m0.gL, (IntKind.i64.wrap (m0.gAt + (1 : Int))), m0.gE⟩ : TParseReader) m0.gAt (3 : Int)).bind fun x31 => some ((⟨(0 : Int), (0 : Int), ByteArray.empty, [], (0 : Int)⟩ : TApiExpr), x31)))))))
set_option maxRecDepth 100000 in
theorem parse_reader_unit_b_cle (fu : Nat) (g0 g0' : (TParseReader) → (Int) → Option (TApiExpr × TParseReader)) (g1 g1' : (TParseReader) → Option (TApiExpr × TParseReader)) (g2 g2' : (TParseReader) → (TApiExpr) → (Int) → (Int) → Option (TApiExpr × TParseReader)) (g3 g3' : (TParseReader) → (ByteArray) → Option (TApiExpr × TParseReader)) (g4 g4' : (TParseReader) → (TApiToken) → (Int) → Option (TApiExpr × TParseReader)) (hg0 : ∀ x0 x1, Le (g0 x0 x1) (g0' x0 x1)) (hg1 : ∀ x0, Le (g1 x0) (g1' x0)) (hg2 : ∀ x0 x1 x2 x3, Le (g2 x0 x1 x2 x3) (g2' x0 x1 x2 x3)) (hg3 : ∀ x0 x1, Le (g3 x0 x1) (g3' x0 x1)) (hg4 : ∀ x0 x1 x2, Le (g4 x0 x1 x2) (g4' x0 x1 x2)) (m0 : TParseReader) : Le (parse_reader_unit_b_c fu g0 g1 g2 g3 g4 m0) (parse_reader_unit_b g0' g1' g2' g3' g4' m0) := by
  unfold parse_reader_unit_b_c parse_reader_unit_b
  repeat (first | exact Le.refl _ | assumption | exact hg0 _ _ | exact hg1 _ | exact hg2 _ _ _ _ | exact hg3 _ _ | exact hg4 _ _ _ | exact parse_reader_look_cle fu _ | exact parse_reader_fail_cle fu _ _ _ | (refine Le.bind ?_ (fun _ => ?_)) | (refine Le.cond ?_ ?_) | (refine Le.loopC (fun _ => ?_)) | (refine Le.elim (fun _ => ?_) (fun _ => ?_)))
def parse_reader_indexed_b_c (fu : Nat) (g0 : (TParseReader) → (Int) → Option (TApiExpr × TParseReader)) (g1 : (TParseReader) → Option (TApiExpr × TParseReader)) (g2 : (TParseReader) → (TApiExpr) → (Int) → (Int) → Option (TApiExpr × TParseReader)) (g3 : (TParseReader) → (ByteArray) → Option (TApiExpr × TParseReader)) (g4 : (TParseReader) → (TApiToken) → (Int) → Option (TApiExpr × TParseReader)) (m0 : TParseReader) (a1 : TApiExpr) (a2 : Int) (a3 : Int) : Option (TApiExpr × TParseReader) :=
  (Option.bind (α := Bool) (bif (m0.gE != (0 : Int)) then some true else ((parse_reader_is_c fu m0 (ByteArray.mk #[91])).bind fun x7 => some (!x7))) fun y5 => (bif y5 then some (a1, m0) else ((g3 (⟨m0.gL, (IntKind.i64.wrap (m0.gAt + (1 : Int))), m0.gE⟩ : TParseReader) (ByteArray.mk #[93])).bind fun x11 => ((parse_reader_sound_c fu x11.2 (⟨a2, a1.gN, a1.gName, ([x11.1] : List TApiExpr), a1.gAt⟩ : TApiExpr) a3).bind fun x12 => some (x12.1, x12.2)))))
set_option maxRecDepth 100000 in
theorem parse_reader_indexed_b_cle (fu : Nat) (g0 g0' : (TParseReader) → (Int) → Option (TApiExpr × TParseReader)) (g1 g1' : (TParseReader) → Option (TApiExpr × TParseReader)) (g2 g2' : (TParseReader) → (TApiExpr) → (Int) → (Int) → Option (TApiExpr × TParseReader)) (g3 g3' : (TParseReader) → (ByteArray) → Option (TApiExpr × TParseReader)) (g4 g4' : (TParseReader) → (TApiToken) → (Int) → Option (TApiExpr × TParseReader)) (hg0 : ∀ x0 x1, Le (g0 x0 x1) (g0' x0 x1)) (hg1 : ∀ x0, Le (g1 x0) (g1' x0)) (hg2 : ∀ x0 x1 x2 x3, Le (g2 x0 x1 x2 x3) (g2' x0 x1 x2 x3)) (hg3 : ∀ x0 x1, Le (g3 x0 x1) (g3' x0 x1)) (hg4 : ∀ x0 x1 x2, Le (g4 x0 x1 x2) (g4' x0 x1 x2)) (m0 : TParseReader) (a1 : TApiExpr) (a2 : Int) (a3 : Int) : Le (parse_reader_indexed_b_c fu g0 g1 g2 g3 g4 m0 a1 a2 a3) (parse_reader_indexed_b g0' g1' g2' g3' g4' m0 a1 a2 a3) := by
  unfold parse_reader_indexed_b_c parse_reader_indexed_b
  repeat (first | exact Le.refl _ | assumption | exact hg0 _ _ | exact hg1 _ | exact hg2 _ _ _ _ | exact hg3 _ _ | exact hg4 _ _ _ | exact parse_reader_is_cle fu _ _ | exact parse_reader_sound_cle fu _ _ _ | (refine Le.bind ?_ (fun _ => ?_)) | (refine Le.cond ?_ ?_) | (refine Le.loopC (fun _ => ?_)) | (refine Le.elim (fun _ => ?_) (fun _ => ?_)))
def parse_reader_all_b_c (fu : Nat) (g0 : (TParseReader) → (Int) → Option (TApiExpr × TParseReader)) (g1 : (TParseReader) → Option (TApiExpr × TParseReader)) (g2 : (TParseReader) → (TApiExpr) → (Int) → (Int) → Option (TApiExpr × TParseReader)) (g3 : (TParseReader) → (ByteArray) → Option (TApiExpr × TParseReader)) (g4 : (TParseReader) → (TApiToken) → (Int) → Option (TApiExpr × TParseReader)) (m0 : TParseReader) (a1 : ByteArray) : Option (TApiExpr × TParseReader) :=
  ((g0 m0 (0 : Int)).bind fun x2 => (bif (x2.2.gE == (0 : Int)) then ((parse_reader_eat_c fu x2.2 a1).bind fun x5 => some (x2.1, x5)) else some (x2.1, x2.2)))
set_option maxRecDepth 100000 in
theorem parse_reader_all_b_cle (fu : Nat) (g0 g0' : (TParseReader) → (Int) → Option (TApiExpr × TParseReader)) (g1 g1' : (TParseReader) → Option (TApiExpr × TParseReader)) (g2 g2' : (TParseReader) → (TApiExpr) → (Int) → (Int) → Option (TApiExpr × TParseReader)) (g3 g3' : (TParseReader) → (ByteArray) → Option (TApiExpr × TParseReader)) (g4 g4' : (TParseReader) → (TApiToken) → (Int) → Option (TApiExpr × TParseReader)) (hg0 : ∀ x0 x1, Le (g0 x0 x1) (g0' x0 x1)) (hg1 : ∀ x0, Le (g1 x0) (g1' x0)) (hg2 : ∀ x0 x1 x2 x3, Le (g2 x0 x1 x2 x3) (g2' x0 x1 x2 x3)) (hg3 : ∀ x0 x1, Le (g3 x0 x1) (g3' x0 x1)) (hg4 : ∀ x0 x1 x2, Le (g4 x0 x1 x2) (g4' x0 x1 x2)) (m0 : TParseReader) (a1 : ByteArray) : Le (parse_reader_all_b_c fu g0 g1 g2 g3 g4 m0 a1) (parse_reader_all_b g0' g1' g2' g3' g4' m0 a1) := by
  unfold parse_reader_all_b_c parse_reader_all_b
  repeat (first | exact Le.refl _ | assumption | exact hg0 _ _ | exact hg1 _ | exact hg2 _ _ _ _ | exact hg3 _ _ | exact hg4 _ _ _ | exact parse_reader_eat_cle fu _ _ | (refine Le.bind ?_ (fun _ => ?_)) | (refine Le.cond ?_ ?_) | (refine Le.loopC (fun _ => ?_)) | (refine Le.elim (fun _ => ?_) (fun _ => ?_)))
def parse_reader_sign_b_c (fu : Nat) (g0 : (TParseReader) → (Int) → Option (TApiExpr × TParseReader)) (g1 : (TParseReader) → Option (TApiExpr × TParseReader)) (g2 : (TParseReader) → (TApiExpr) → (Int) → (Int) → Option (TApiExpr × TParseReader)) (g3 : (TParseReader) → (ByteArray) → Option (TApiExpr × TParseReader)) (g4 : (TParseReader) → (TApiToken) → (Int) → Option (TApiExpr × TParseReader)) (m0 : TParseReader) (a1 : TApiToken) (a2 : Int) : Option (TApiExpr × TParseReader) :=
  (Option.bind (α := Bool) (bif (decide (a1.gText = (ByteArray.mk #[45]))) then some (decide (a1.gText = (ByteArray.mk #[45]))) else some (decide (a1.gText = (ByteArray.mk #[33])))) fun y19 => (bif y19 then ((parse_pick_c fu a1.gText (ByteArray.mk #[45]) (5 : Int) (ByteArray.mk #[33]) (6 : Int)).bind fun x34 => ((g1 m0).bind fun x35 => ((parse_reader_sound_c fu x35.2 (⟨x34, (0 : Int), ByteArray.empty, ([x35.1] : List TApiExpr), a1.gAt⟩ : TApiExpr) a2).bind fun x36 => some (x36.1, x36.2)))) else (bif (decide (a1.gText = (ByteArray.mk #[42]))) then ((parse_reader_name_c fu m0).bind fun x47 => some ((⟨(4 : Int), (0 : Int), x47.1, [], a1.gAt⟩ : TApiExpr), x47.2)) else (bif (decide (a1.gText = (ByteArray.mk #[38]))) then ((parse_reader_name_c fu m0).bind fun x56 => ((g2 x56.2 (⟨(19 : Int), (0 : Int), x56.1, [], a1.gAt⟩ : TApiExpr) (20 : Int) a2).bind fun x57 => some (x57.1, x57.2))) else (bif (decide (a1.gText = (ByteArray.mk #[110, 117, 108, 108]))) then some ((⟨(18 : Int), (0 : Int), ByteArray.empty, [], a1.gAt⟩ : TApiExpr), m0) else (bif (decide (a1.gText = (ByteArray.mk #[40]))) then ((g3 m0 (ByteArray.mk #[41])).bind fun x67 => some (x67.1, x67.2)) else ((parse_reader_fail_c fu m0 a2 (3 : Int)).bind fun x69 => some ((⟨(0 : Int), (0 : Int), ByteArray.empty, [], (0 : Int)⟩ : TApiExpr), x69))))))))
set_option maxRecDepth 100000 in
theorem parse_reader_sign_b_cle (fu : Nat) (g0 g0' : (TParseReader) → (Int) → Option (TApiExpr × TParseReader)) (g1 g1' : (TParseReader) → Option (TApiExpr × TParseReader)) (g2 g2' : (TParseReader) → (TApiExpr) → (Int) → (Int) → Option (TApiExpr × TParseReader)) (g3 g3' : (TParseReader) → (ByteArray) → Option (TApiExpr × TParseReader)) (g4 g4' : (TParseReader) → (TApiToken) → (Int) → Option (TApiExpr × TParseReader)) (hg0 : ∀ x0 x1, Le (g0 x0 x1) (g0' x0 x1)) (hg1 : ∀ x0, Le (g1 x0) (g1' x0)) (hg2 : ∀ x0 x1 x2 x3, Le (g2 x0 x1 x2 x3) (g2' x0 x1 x2 x3)) (hg3 : ∀ x0 x1, Le (g3 x0 x1) (g3' x0 x1)) (hg4 : ∀ x0 x1 x2, Le (g4 x0 x1 x2) (g4' x0 x1 x2)) (m0 : TParseReader) (a1 : TApiToken) (a2 : Int) : Le (parse_reader_sign_b_c fu g0 g1 g2 g3 g4 m0 a1 a2) (parse_reader_sign_b g0' g1' g2' g3' g4' m0 a1 a2) := by
  unfold parse_reader_sign_b_c parse_reader_sign_b
  repeat (first | exact Le.refl _ | assumption | exact hg0 _ _ | exact hg1 _ | exact hg2 _ _ _ _ | exact hg3 _ _ | exact hg4 _ _ _ | exact parse_pick_cle fu _ _ _ _ _ | exact parse_reader_sound_cle fu _ _ _ | exact parse_reader_name_cle fu _ | exact parse_reader_fail_cle fu _ _ _ | (refine Le.bind ?_ (fun _ => ?_)) | (refine Le.cond ?_ ?_) | (refine Le.loopC (fun _ => ?_)) | (refine Le.elim (fun _ => ?_) (fun _ => ?_)))
def parse_reader_row_g_c (fu : Nat) : Nat → ((TParseReader) → (Int) → Option (TApiExpr × TParseReader)) × ((TParseReader) → Option (TApiExpr × TParseReader)) × ((TParseReader) → (TApiExpr) → (Int) → (Int) → Option (TApiExpr × TParseReader)) × ((TParseReader) → (ByteArray) → Option (TApiExpr × TParseReader)) × ((TParseReader) → (TApiToken) → (Int) → Option (TApiExpr × TParseReader))
  | 0 => (fun _ _ => none, fun _ => none, fun _ _ _ _ => none, fun _ _ => none, fun _ _ _ => none)
  | n + 1 => (parse_reader_row_b_c fu ((parse_reader_row_g_c fu n).1) ((parse_reader_row_g_c fu n).2.1) ((parse_reader_row_g_c fu n).2.2.1) ((parse_reader_row_g_c fu n).2.2.2.1) ((parse_reader_row_g_c fu n).2.2.2.2), parse_reader_unit_b_c fu ((parse_reader_row_g_c fu n).1) ((parse_reader_row_g_c fu n).2.1) ((parse_reader_row_g_c fu n).2.2.1) ((parse_reader_row_g_c fu n).2.2.2.1) ((parse_reader_row_g_c fu n).2.2.2.2), parse_reader_indexed_b_c fu ((parse_reader_row_g_c fu n).1) ((parse_reader_row_g_c fu n).2.1) ((parse_reader_row_g_c fu n).2.2.1) ((parse_reader_row_g_c fu n).2.2.2.1) ((parse_reader_row_g_c fu n).2.2.2.2), parse_reader_all_b_c fu ((parse_reader_row_g_c fu n).1) ((parse_reader_row_g_c fu n).2.1) ((parse_reader_row_g_c fu n).2.2.1) ((parse_reader_row_g_c fu n).2.2.2.1) ((parse_reader_row_g_c fu n).2.2.2.2), parse_reader_sign_b_c fu ((parse_reader_row_g_c fu n).1) ((parse_reader_row_g_c fu n).2.1) ((parse_reader_row_g_c fu n).2.2.1) ((parse_reader_row_g_c fu n).2.2.2.1) ((parse_reader_row_g_c fu n).2.2.2.2))
theorem parse_reader_row_g_cle (fu : Nat) : ∀ n, (∀ (m0 : TParseReader) (a1 : Int), Le ((parse_reader_row_g_c fu n).1 m0 a1) ((parse_reader_row_g n).1 m0 a1)) ∧ (∀ (m0 : TParseReader), Le ((parse_reader_row_g_c fu n).2.1 m0) ((parse_reader_row_g n).2.1 m0)) ∧ (∀ (m0 : TParseReader) (a1 : TApiExpr) (a2 : Int) (a3 : Int), Le ((parse_reader_row_g_c fu n).2.2.1 m0 a1 a2 a3) ((parse_reader_row_g n).2.2.1 m0 a1 a2 a3)) ∧ (∀ (m0 : TParseReader) (a1 : ByteArray), Le ((parse_reader_row_g_c fu n).2.2.2.1 m0 a1) ((parse_reader_row_g n).2.2.2.1 m0 a1)) ∧ (∀ (m0 : TParseReader) (a1 : TApiToken) (a2 : Int), Le ((parse_reader_row_g_c fu n).2.2.2.2 m0 a1 a2) ((parse_reader_row_g n).2.2.2.2 m0 a1 a2))
  | 0 => ⟨fun _ _ => Le.none _, fun _ => Le.none _, fun _ _ _ _ => Le.none _, fun _ _ => Le.none _, fun _ _ _ => Le.none _⟩
  | n + 1 => by
    have ih := parse_reader_row_g_cle fu n
    exact ⟨fun m0 a1 => parse_reader_row_b_cle fu _ _ _ _ _ _ _ _ _ _ ih.1 ih.2.1 ih.2.2.1 ih.2.2.2.1 ih.2.2.2.2 m0 a1, fun m0 => parse_reader_unit_b_cle fu _ _ _ _ _ _ _ _ _ _ ih.1 ih.2.1 ih.2.2.1 ih.2.2.2.1 ih.2.2.2.2 m0, fun m0 a1 a2 a3 => parse_reader_indexed_b_cle fu _ _ _ _ _ _ _ _ _ _ ih.1 ih.2.1 ih.2.2.1 ih.2.2.2.1 ih.2.2.2.2 m0 a1 a2 a3, fun m0 a1 => parse_reader_all_b_cle fu _ _ _ _ _ _ _ _ _ _ ih.1 ih.2.1 ih.2.2.1 ih.2.2.2.1 ih.2.2.2.2 m0 a1, fun m0 a1 a2 => parse_reader_sign_b_cle fu _ _ _ _ _ _ _ _ _ _ ih.1 ih.2.1 ih.2.2.1 ih.2.2.2.1 ih.2.2.2.2 m0 a1 a2⟩
def parse_reader_row_c (fu : Nat) (m0 : TParseReader) (a1 : Int) : Option (TApiExpr × TParseReader) := (parse_reader_row_g_c fu fu).1 m0 a1
theorem parse_reader_row_cle (fu : Nat) (m0 : TParseReader) (a1 : Int) : Le (parse_reader_row_c fu m0 a1) (parse_reader_row m0 a1) := fun r h => parse_reader_row_of m0 a1 fu (((parse_reader_row_g_cle fu fu).1 m0 a1) r h)
def parse_Expr_c (fu : Nat) (a0 : List TApiToken) (a1 : Int) : Option (TApiExpr × Int × Int) :=
  (Option.bind (α := Bool) (bif (decide (a1 < (0 : Int))) then some true else some (decide ((a0.length : Int) < a1))) fun y3 => (bif y3 then some ((⟨(0 : Int), (0 : Int), ByteArray.empty, [], (0 : Int)⟩ : TApiExpr), (0 : Int), (2 : Int)) else ((parse_reader_row_c fu (⟨a0, a1, (0 : Int)⟩ : TParseReader) (0 : Int)).bind fun x9 => (bif (x9.2.gE != (0 : Int)) then some ((⟨(0 : Int), (0 : Int), ByteArray.empty, [], (0 : Int)⟩ : TApiExpr), x9.2.gAt, x9.2.gE) else some (x9.1, x9.2.gAt, (0 : Int))))))
set_option maxRecDepth 100000 in
theorem parse_Expr_cle (fu : Nat)   (a0 : List TApiToken) (a1 : Int) : Le (parse_Expr_c fu  a0 a1) (parse_Expr  a0 a1) := by
  unfold parse_Expr_c parse_Expr
  repeat (first | exact Le.refl _ | assumption | exact parse_reader_row_cle fu _ _ | (refine Le.bind ?_ (fun _ => ?_)) | (refine Le.cond ?_ ?_) | (refine Le.loopC (fun _ => ?_)) | (refine Le.elim (fun _ => ?_) (fun _ => ?_)))
def grammar_reader_expr_c (fu : Nat) (m0 : TGrammarReader) : Option (TApiExpr × TGrammarReader) :=
  (bif (m0.gE != (0 : Int)) then some ((⟨(0 : Int), (0 : Int), ByteArray.empty, [], (0 : Int)⟩ : TApiExpr), m0) else ((parse_Expr_c fu m0.gL (min m0.gAt (m0.gL.length : Int))).bind fun x5 => (bif (x5.2.2 != (0 : Int)) then ((grammar_reader_fail_c fu m0 x5.2.1 x5.2.2).bind fun x10 => some ((⟨(0 : Int), (0 : Int), ByteArray.empty, [], (0 : Int)⟩ : TApiExpr), x10)) else some (x5.1, (⟨m0.gL, x5.2.1, m0.gE, m0.gVars, m0.gOpen⟩ : TGrammarReader)))))
set_option maxRecDepth 100000 in
theorem grammar_reader_expr_cle (fu : Nat)   (m0 : TGrammarReader) : Le (grammar_reader_expr_c fu  m0) (grammar_reader_expr  m0) := by
  unfold grammar_reader_expr_c grammar_reader_expr
  repeat (first | exact Le.refl _ | assumption | exact parse_Expr_cle fu _ _ | exact grammar_reader_fail_cle fu _ _ _ | (refine Le.bind ?_ (fun _ => ?_)) | (refine Le.cond ?_ ?_) | (refine Le.loopC (fun _ => ?_)) | (refine Le.elim (fun _ => ?_) (fun _ => ?_)))
def grammar_list_api_Expr_c (fu : Nat) (m0 : TGrammarReader) : Option (List TApiExpr × TGrammarReader) :=
  ((grammar_reader_eat_c fu m0 ([(ByteArray.mk #[40])] : List ByteArray)).bind fun x1 => ((grammar_reader_may_c fu x1 (ByteArray.mk #[41])).bind fun x2 => (bif x2.1 then some (([] : List TApiExpr), x2.2) else (Option.bind (α := List TApiExpr × List TApiToken × Int × Int × Int × Int) (loopC fu (fun (s28 : List TApiExpr × List TApiToken × Int × Int × Int × Int) => (bif (s28.2.2.2.1 == (0 : Int)) then ((grammar_reader_expr_c fu (⟨s28.2.1, s28.2.2.1, s28.2.2.2.1, s28.2.2.2.2.1, s28.2.2.2.2.2⟩ : TGrammarReader)).bind fun x43 => ((app 64 s28.1 ([x43.1] : List TApiExpr)).bind fun x44 => ((grammar_reader_may_c fu x43.2 (ByteArray.mk #[44])).bind fun x45 => (bif (!x45.1) then some (.done (x44, x45.2.gL, x45.2.gAt, x45.2.gE, x45.2.gVars, x45.2.gOpen)) else some (.next (x44, x45.2.gL, x45.2.gAt, x45.2.gE, x45.2.gVars, x45.2.gOpen)))))) else some (.done (s28.1, s28.2.1, s28.2.2.1, s28.2.2.2.1, s28.2.2.2.2.1, s28.2.2.2.2.2)))) (([] : List TApiExpr), x2.2.gL, x2.2.gAt, x2.2.gE, x2.2.gVars, x2.2.gOpen)) fun y27 => ((grammar_reader_eat_c fu (⟨y27.2.1, y27.2.2.1, y27.2.2.2.1, y27.2.2.2.2.1, y27.2.2.2.2.2⟩ : TGrammarReader) ([(ByteArray.mk #[41])] : List ByteArray)).bind fun x47 => some (y27.1, x47))))))
set_option maxRecDepth 100000 in
theorem grammar_list_api_Expr_cle (fu : Nat)   (m0 : TGrammarReader) : Le (grammar_list_api_Expr_c fu  m0) (grammar_list_api_Expr  m0) := by
  unfold grammar_list_api_Expr_c grammar_list_api_Expr
  repeat (first | exact Le.refl _ | assumption | exact grammar_reader_eat_cle fu _ _ | exact grammar_reader_may_cle fu _ _ | exact grammar_reader_expr_cle fu _ | (refine Le.bind ?_ (fun _ => ?_)) | (refine Le.cond ?_ ?_) | (refine Le.loopC (fun _ => ?_)) | (refine Le.elim (fun _ => ?_) (fun _ => ?_)))
def grammar_reader_call_c (fu : Nat) (m0 : TGrammarReader) (a1 : TApiStmt) : Option (TApiStmt × TGrammarReader) :=
  ((grammar_reader_name_c fu m0).bind fun x3 => ((grammar_list_api_Expr_c fu x3.2).bind fun x5 => ((grammar_reader_eat_c fu x5.2 ([(ByteArray.mk #[59])] : List ByteArray)).bind fun x6 => some ((⟨(4 : Int), a1.gName, x3.1, x5.1, a1.gKids, a1.gElse, a1.gAt⟩ : TApiStmt), x6))))
set_option maxRecDepth 100000 in
theorem grammar_reader_call_cle (fu : Nat)   (m0 : TGrammarReader) (a1 : TApiStmt) : Le (grammar_reader_call_c fu  m0 a1) (grammar_reader_call  m0 a1) := by
  unfold grammar_reader_call_c grammar_reader_call
  repeat (first | exact Le.refl _ | assumption | exact grammar_reader_name_cle fu _ | exact grammar_list_api_Expr_cle fu _ | exact grammar_reader_eat_cle fu _ _ | (refine Le.bind ?_ (fun _ => ?_)) | (refine Le.cond ?_ ?_) | (refine Le.loopC (fun _ => ?_)) | (refine Le.elim (fun _ => ?_) (fun _ => ?_)))
def grammar_reader_assign_c (fu : Nat) (m0 : TGrammarReader) (a1 : TApiStmt) : Option (TApiStmt × TGrammarReader) :=
  ((grammar_reader_may_c fu m0 (ByteArray.mk #[105, 110, 112, 117, 116])).bind fun x15 => (bif x15.1 then ((grammar_reader_eat_c fu x15.2 ([(ByteArray.mk #[40]), (ByteArray.mk #[41]), (ByteArray.mk #[59])] : List ByteArray)).bind fun x28 => some ((⟨(5 : Int), a1.gName, a1.gFunc, a1.gExps, a1.gKids, a1.gElse, a1.gAt⟩ : TApiStmt), x28)) else (Option.bind (α := Bool) ((grammar_reader_look_c fu x15.2 (0 : Int)).bind fun x34 => (bif (x34.gKind == (1 : Int)) then ((grammar_reader_is_c fu x15.2 (1 : Int) (ByteArray.mk #[40])).bind fun x36 => some x36) else some false)) fun y33 => (bif y33 then ((grammar_reader_call_c fu x15.2 a1).bind fun x40 => some (x40.1, x40.2)) else ((grammar_reader_expr_c fu x15.2).bind fun x42 => ((grammar_reader_eat_c fu x42.2 ([(ByteArray.mk #[59])] : List ByteArray)).bind fun x43 => some ((⟨(1 : Int), a1.gName, a1.gFunc, ([x42.1] : List TApiExpr), a1.gKids, a1.gElse, a1.gAt⟩ : TApiStmt), x43)))))))
set_option maxRecDepth 100000 in
theorem grammar_reader_assign_cle (fu : Nat)   (m0 : TGrammarReader) (a1 : TApiStmt) : Le (grammar_reader_assign_c fu  m0 a1) (grammar_reader_assign  m0 a1) := by
  unfold grammar_reader_assign_c grammar_reader_assign
  repeat (first | exact Le.refl _ | assumption | exact grammar_reader_may_cle fu _ _ | exact grammar_reader_eat_cle fu _ _ | exact grammar_reader_look_cle fu _ _ | exact grammar_reader_is_cle fu _ _ _ | exact grammar_reader_call_cle fu _ _ | exact grammar_reader_expr_cle fu _ | (refine Le.bind ?_ (fun _ => ?_)) | (refine Le.cond ?_ ?_) | (refine Le.loopC (fun _ => ?_)) | (refine Le.elim (fun _ => ?_) (fun _ => ?_)))
def grammar_reader_named_c (fu : Nat) (m0 : TGrammarReader) (a1 : TApiStmt) : Option (TApiStmt × TGrammarReader) :=
  ((grammar_reader_is_c fu m0 (1 : Int) (ByteArray.mk #[40])).bind fun x3 => (bif x3 then ((grammar_reader_call_c fu m0 a1).bind fun x7 => some (x7.1, x7.2)) else ((grammar_reader_name_c fu m0).bind fun x9 => ((grammar_reader_may_c fu x9.2 (ByteArray.mk #[91])).bind fun x10 => (bif x10.1 then ((grammar_reader_expr_c fu x10.2).bind fun x18 => ((grammar_reader_eat_c fu x18.2 ([(ByteArray.mk #[93]), (ByteArray.mk #[61])] : List ByteArray)).bind fun x20 => ((grammar_reader_expr_c fu x20).bind fun x21 => ((grammar_reader_eat_c fu x21.2 ([(ByteArray.mk #[59])] : List ByteArray)).bind fun x22 => some ((⟨(2 : Int), x9.1, a1.gFunc, ([x18.1, x21.1] : List TApiExpr), a1.gKids, a1.gElse, a1.gAt⟩ : TApiStmt), x22))))) else ((grammar_reader_eat_c fu x10.2 ([(ByteArray.mk #[61])] : List ByteArray)).bind fun x24 => ((grammar_reader_assign_c fu x24 (⟨a1.gOp, x9.1, a1.gFunc, a1.gExps, a1.gKids, a1.gElse, a1.gAt⟩ : TApiStmt)).bind fun x25 => some (x25.1, x25.2))))))))
set_option maxRecDepth 100000 in
theorem grammar_reader_named_cle (fu : Nat)   (m0 : TGrammarReader) (a1 : TApiStmt) : Le (grammar_reader_named_c fu  m0 a1) (grammar_reader_named  m0 a1) := by
  unfold grammar_reader_named_c grammar_reader_named
  repeat (first | exact Le.refl _ | assumption | exact grammar_reader_is_cle fu _ _ _ | exact grammar_reader_call_cle fu _ _ | exact grammar_reader_name_cle fu _ | exact grammar_reader_may_cle fu _ _ | exact grammar_reader_expr_cle fu _ | exact grammar_reader_eat_cle fu _ _ | exact grammar_reader_assign_cle fu _ _ | (refine Le.bind ?_ (fun _ => ?_)) | (refine Le.cond ?_ ?_) | (refine Le.loopC (fun _ => ?_)) | (refine Le.elim (fun _ => ?_) (fun _ => ?_)))
def grammar_reader_test_c (fu : Nat) (m0 : TGrammarReader) : Option (List TApiExpr × TGrammarReader) :=
  ((grammar_reader_eat_c fu m0 ([(ByteArray.mk #[40])] : List ByteArray)).bind fun x1 => ((grammar_reader_expr_c fu x1).bind fun x2 => ((grammar_reader_eat_c fu x2.2 ([(ByteArray.mk #[41])] : List ByteArray)).bind fun x4 => some (([x2.1] : List TApiExpr), x4))))
set_option maxRecDepth 100000 in
theorem grammar_reader_test_cle (fu : Nat)   (m0 : TGrammarReader) : Le (grammar_reader_test_c fu  m0) (grammar_reader_test  m0) := by
  unfold grammar_reader_test_c grammar_reader_test
  repeat (first | exact Le.refl _ | assumption | exact grammar_reader_eat_cle fu _ _ | exact grammar_reader_expr_cle fu _ | (refine Le.bind ?_ (fun _ => ?_)) | (refine Le.cond ?_ ?_) | (refine Le.loopC (fun _ => ?_)) | (refine Le.elim (fun _ => ?_) (fun _ => ?_)))
def grammar_nothing_c (fu : Nat)  : Option (Unit) :=
  some ()
set_option maxRecDepth 100000 in
theorem grammar_nothing_cle (fu : Nat)    : Le (grammar_nothing_c fu  ) (grammar_nothing  ) := by
  unfold grammar_nothing_c grammar_nothing
  repeat (first | exact Le.refl _ | assumption | (refine Le.bind ?_ (fun _ => ?_)) | (refine Le.cond ?_ ?_) | (refine Le.loopC (fun _ => ?_)) | (refine Le.elim (fun _ => ?_) (fun _ => ?_)))
def grammar_reader_stmt_b_c (fu : Nat) (g0 : (TGrammarReader) → Option (TApiStmt × TGrammarReader)) (g1 : (TGrammarReader) → Option (List TApiStmt × TGrammarReader)) (m0 : TGrammarReader) : Option (TApiStmt × TGrammarReader) :=
  ((grammar_reader_look_c fu m0 (0 : Int)).bind fun x2 => (bif (x2.gKind == (1 : Int)) then ((grammar_reader_named_c fu m0 (⟨(0 : Int), ByteArray.empty, ByteArray.empty, [], [], [], x2.gAt⟩ : TApiStmt)).bind fun x6 => some (x6.1, x6.2)) else ((grammar_reader_may_c fu m0 (ByteArray.mk #[42])).bind fun x8 => (bif x8.1 then ((grammar_reader_name_c fu x8.2).bind fun x10 => ((grammar_reader_eat_c fu x10.2 ([(ByteArray.mk #[61])] : List ByteArray)).bind fun x11 => ((grammar_reader_expr_c fu x11).bind fun x12 => ((grammar_reader_eat_c fu x12.2 ([(ByteArray.mk #[59])] : List ByteArray)).bind fun x13 => some ((⟨(3 : Int), x10.1, ByteArray.empty, ([x12.1] : List TApiExpr), [], [], x2.gAt⟩ : TApiStmt), x13))))) else ((grammar_reader_may_c fu x8.2 (ByteArray.mk #[105, 102])).bind fun x15 => (bif x15.1 then ((grammar_reader_test_c fu x15.2).bind fun x18 => ((g1 x18.2).bind fun x20 => ((grammar_reader_may_c fu x20.2 (ByteArray.mk #[101, 108, 115, 101])).bind fun x21 => (bif x21.1 then ((g1 x21.2).bind fun x24 => some ((⟨(6 : Int), ByteArray.empty, ByteArray.empty, x18.1, x20.1, x24.1, x2.gAt⟩ : TApiStmt), x24.2)) else some ((⟨(6 : Int), ByteArray.empty, ByteArray.empty, x18.1, x20.1, [], x2.gAt⟩ : TApiStmt), x21.2))))) else ((grammar_reader_may_c fu x15.2 (ByteArray.mk #[119, 104, 105, 108, 101])).bind fun x27 => (bif x27.1 then ((grammar_reader_test_c fu x27.2).bind fun x30 => ((g1 x30.2).bind fun x32 => some ((⟨(7 : Int), ByteArray.empty, ByteArray.empty, x30.1, x32.1, [], x2.gAt⟩ : TApiStmt), x32.2))) else ((grammar_reader_may_c fu x27.2 (ByteArray.mk #[114, 101, 116, 117, 114, 110])).bind fun x34 => (bif x34.1 then ((grammar_reader_expr_c fu x34.2).bind fun x36 => ((grammar_reader_eat_c fu x36.2 ([(ByteArray.mk #[59])] : List ByteArray)).bind fun x37 => some ((⟨(8 : Int), ByteArray.empty, ByteArray.empty, ([x36.1] : List TApiExpr), [], [], x2.gAt⟩ : TApiStmt), x37))) else ((grammar_reader_may_c fu x34.2 (ByteArray.mk #[97, 115, 115, 101, 114, 116])).bind fun x39 => (bif x39.1 then ((grammar_reader_test_c fu x39.2).bind fun x42 => ((grammar_reader_eat_c fu x42.2 ([(ByteArray.mk #[59])] : List ByteArray)).bind fun x43 => some ((⟨(9 : Int), ByteArray.empty, ByteArray.empty, x42.1, [], [], x2.gAt⟩ : TApiStmt), x43))) else ((grammar_reader_fail_c fu x39.2 x39.2.gAt (3 : Int)).bind fun x45 => some ((⟨(0 : Int), ByteArray.empty, ByteArray.empty, [], [], [], x2.gAt⟩ : TApiStmt), x45))))))))))))))
set_option maxRecDepth 100000 in
theorem grammar_reader_stmt_b_cle (fu : Nat) (g0 g0' : (TGrammarReader) → Option (TApiStmt × TGrammarReader)) (g1 g1' : (TGrammarReader) → Option (List TApiStmt × TGrammarReader)) (hg0 : ∀ x0, Le (g0 x0) (g0' x0)) (hg1 : ∀ x0, Le (g1 x0) (g1' x0)) (m0 : TGrammarReader) : Le (grammar_reader_stmt_b_c fu g0 g1 m0) (grammar_reader_stmt_b g0' g1' m0) := by
  unfold grammar_reader_stmt_b_c grammar_reader_stmt_b
  repeat (first | exact Le.refl _ | assumption | exact hg0 _ | exact hg1 _ | exact grammar_reader_look_cle fu _ _ | exact grammar_reader_named_cle fu _ _ | exact grammar_reader_may_cle fu _ _ | exact grammar_reader_name_cle fu _ | exact grammar_reader_eat_cle fu _ _ | exact grammar_reader_expr_cle fu _ | exact grammar_reader_test_cle fu _ | exact grammar_reader_fail_cle fu _ _ _ | (refine Le.bind ?_ (fun _ => ?_)) | (refine Le.cond ?_ ?_) | (refine Le.loopC (fun _ => ?_)) | (refine Le.elim (fun _ => ?_) (fun _ => ?_)))
def grammar_reader_block2_b_c (fu : Nat) (g0 : (TGrammarReader) → Option (TApiStmt × TGrammarReader)) (g1 : (TGrammarReader) → Option (List TApiStmt × TGrammarReader)) (m0 : TGrammarReader) : Option (List TApiStmt × TGrammarReader) :=
  ((grammar_reader_eat_c fu m0 ([(ByteArray.mk #[123])] : List ByteArray)).bind fun x1 => (Option.bind (α := List TApiToken × Int × Int × Int × Int) (bif (decide ((24 : Int) ≤ x1.gOpen)) then ((grammar_reader_fail_c fu x1 m0.gAt (5 : Int)).bind fun x6 => some (x6.gL, x6.gAt, x6.gE, x6.gVars, x6.gOpen)) else some (x1.gL, x1.gAt, x1.gE, x1.gVars, x1.gOpen)) fun y4 => ((grammar_nothing_c fu).bind fun x7 => (Option.bind (α := List TApiStmt × List TApiToken × Int × Int × Int × Int) (loopC fu (fun (s38 : List TApiStmt × List TApiToken × Int × Int × Int × Int) => (Option.bind (α := Bool × List TApiToken × Int × Int × Int × Int) (bif (s38.2.2.2.1 == (0 : Int)) then ((grammar_reader_may_c fu (⟨s38.2.1, s38.2.2.1, s38.2.2.2.1, s38.2.2.2.2.1, s38.2.2.2.2.2⟩ : TGrammarReader) (ByteArray.mk #[125])).bind fun x62 => some ((!x62.1), x62.2.gL, x62.2.gAt, x62.2.gE, x62.2.gVars, x62.2.gOpen)) else some (false, s38.2.1, s38.2.2.1, s38.2.2.2.1, s38.2.2.2.2.1, s38.2.2.2.2.2)) fun y60 => (bif y60.1 then ((g0 (⟨y60.2.1, y60.2.2.1, y60.2.2.2.1, y60.2.2.2.2.1, y60.2.2.2.2.2⟩ : TGrammarReader)).bind fun x64 => ((app 120 s38.1 ([x64.1] : List TApiStmt)).bind fun x65 => some (.next (x65, x64.2.gL, x64.2.gAt, x64.2.gE, x64.2.gVars, x64.2.gOpen)))) else some (.done (s38.1, y60.2.1, y60.2.2.1, y60.2.2.2.1, y60.2.2.2.2.1, y60.2.2.2.2.2))))) (([] : List TApiStmt), y4.1, y4.2.1, y4.2.2.1, y4.2.2.2.1, (IntKind.i64.wrap (y4.2.2.2.2 + (1 : Int))))) fun y37 => some (y37.1, (⟨y37.2.1, y37.2.2.1, y37.2.2.2.1, y37.2.2.2.2.1, (IntKind.i64.wrap (y37.2.2.2.2.2 - (1 : Int)))⟩ : TGrammarReader))))))
set_option maxRecDepth 100000 in
theorem grammar_reader_block2_b_cle (fu : Nat) (g0 g0' : (TGrammarReader) → Option (TApiStmt × TGrammarReader)) (g1 g1' : (TGrammarReader) → Option (List TApiStmt × TGrammarReader)) (hg0 : ∀ x0, Le (g0 x0) (g0' x0)) (hg1 : ∀ x0, Le (g1 x0) (g1' x0)) (m0 : TGrammarReader) : Le (grammar_reader_block2_b_c fu g0 g1 m0) (grammar_reader_block2_b g0' g1' m0) := by
  unfold grammar_reader_block2_b_c grammar_reader_block2_b
  repeat (first | exact Le.refl _ | assumption | exact hg0 _ | exact hg1 _ | exact grammar_reader_eat_cle fu _ _ | exact grammar_reader_fail_cle fu _ _ _ | exact grammar_nothing_cle fu | exact grammar_reader_may_cle fu _ _ | (refine Le.bind ?_ (fun _ => ?_)) | (refine Le.cond ?_ ?_) | (refine Le.loopC (fun _ => ?_)) | (refine Le.elim (fun _ => ?_) (fun _ => ?_)))
def grammar_reader_stmt_g_c (fu : Nat) : Nat → ((TGrammarReader) → Option (TApiStmt × TGrammarReader)) × ((TGrammarReader) → Option (List TApiStmt × TGrammarReader))
  | 0 => (fun _ => none, fun _ => none)
  | n + 1 => (grammar_reader_stmt_b_c fu ((grammar_reader_stmt_g_c fu n).1) ((grammar_reader_stmt_g_c fu n).2), grammar_reader_block2_b_c fu ((grammar_reader_stmt_g_c fu n).1) ((grammar_reader_stmt_g_c fu n).2))
theorem grammar_reader_stmt_g_cle (fu : Nat) : ∀ n, (∀ (m0 : TGrammarReader), Le ((grammar_reader_stmt_g_c fu n).1 m0) ((grammar_reader_stmt_g n).1 m0)) ∧ (∀ (m0 : TGrammarReader), Le ((grammar_reader_stmt_g_c fu n).2 m0) ((grammar_reader_stmt_g n).2 m0))
  | 0 => ⟨fun _ => Le.none _, fun _ => Le.none _⟩
  | n + 1 => by
    have ih := grammar_reader_stmt_g_cle fu n
    exact ⟨fun m0 => grammar_reader_stmt_b_cle fu _ _ _ _ ih.1 ih.2 m0, fun m0 => grammar_reader_block2_b_cle fu _ _ _ _ ih.1 ih.2 m0⟩
def grammar_reader_stmt_c (fu : Nat) (m0 : TGrammarReader) : Option (TApiStmt × TGrammarReader) := (grammar_reader_stmt_g_c fu fu).1 m0
theorem grammar_reader_stmt_cle (fu : Nat) (m0 : TGrammarReader) : Le (grammar_reader_stmt_c fu m0) (grammar_reader_stmt m0) := fun r h => grammar_reader_stmt_of m0 fu (((grammar_reader_stmt_g_cle fu fu).1 m0) r h)
def grammar_reader_block_c (fu : Nat) (m0 : TGrammarReader) (m2 : TApiFunc) : Option (List TApiStmt × TGrammarReader × TApiFunc) :=
  ((grammar_reader_eat_c fu m0 ([(ByteArray.mk #[123])] : List ByteArray)).bind fun x1 => (Option.bind (α := List TApiToken × Int × Int × Int × Int) (bif (decide ((24 : Int) ≤ x1.gOpen)) then ((grammar_reader_fail_c fu x1 m0.gAt (5 : Int)).bind fun x6 => some (x6.gL, x6.gAt, x6.gE, x6.gVars, x6.gOpen)) else some (x1.gL, x1.gAt, x1.gE, x1.gVars, x1.gOpen)) fun y4 => ((grammar_reader_function_1_c fu m2 (⟨y4.1, y4.2.1, y4.2.2.1, y4.2.2.2.1, (IntKind.i64.wrap (y4.2.2.2.2 + (1 : Int)))⟩ : TGrammarReader)).bind fun x8 => (Option.bind (α := List TApiStmt × List TApiToken × Int × Int × Int × Int) (loopC fu (fun (s39 : List TApiStmt × List TApiToken × Int × Int × Int × Int) => (Option.bind (α := Bool × List TApiToken × Int × Int × Int × Int) (bif (s39.2.2.2.1 == (0 : Int)) then ((grammar_reader_may_c fu (⟨s39.2.1, s39.2.2.1, s39.2.2.2.1, s39.2.2.2.2.1, s39.2.2.2.2.2⟩ : TGrammarReader) (ByteArray.mk #[125])).bind fun x63 => some ((!x63.1), x63.2.gL, x63.2.gAt, x63.2.gE, x63.2.gVars, x63.2.gOpen)) else some (false, s39.2.1, s39.2.2.1, s39.2.2.2.1, s39.2.2.2.2.1, s39.2.2.2.2.2)) fun y61 => (bif y61.1 then ((grammar_reader_stmt_c fu (⟨y61.2.1, y61.2.2.1, y61.2.2.2.1, y61.2.2.2.2.1, y61.2.2.2.2.2⟩ : TGrammarReader)).bind fun x65 => ((app 120 s39.1 ([x65.1] : List TApiStmt)).bind fun x66 => some (.next (x66, x65.2.gL, x65.2.gAt, x65.2.gE, x65.2.gVars, x65.2.gOpen)))) else some (.done (s39.1, y61.2.1, y61.2.2.1, y61.2.2.2.1, y61.2.2.2.2.1, y61.2.2.2.2.2))))) (([] : List TApiStmt), x8.1.gL, x8.1.gAt, x8.1.gE, x8.1.gVars, x8.1.gOpen)) fun y38 => some (y38.1, (⟨y38.2.1, y38.2.2.1, y38.2.2.2.1, y38.2.2.2.2.1, (IntKind.i64.wrap (y38.2.2.2.2.2 - (1 : Int)))⟩ : TGrammarReader), x8.2)))))
set_option maxRecDepth 100000 in
theorem grammar_reader_block_cle (fu : Nat)   (m0 : TGrammarReader) (m2 : TApiFunc) : Le (grammar_reader_block_c fu  m0 m2) (grammar_reader_block  m0 m2) := by
  unfold grammar_reader_block_c grammar_reader_block
  repeat (first | exact Le.refl _ | assumption | exact grammar_reader_eat_cle fu _ _ | exact grammar_reader_fail_cle fu _ _ _ | exact grammar_reader_function_1_cle fu _ _ | exact grammar_reader_may_cle fu _ _ | exact grammar_reader_stmt_cle fu _ | (refine Le.bind ?_ (fun _ => ?_)) | (refine Le.cond ?_ ?_) | (refine Le.loopC (fun _ => ?_)) | (refine Le.elim (fun _ => ?_) (fun _ => ?_)))
def tree_Size_b_c (fu : Nat) (g0 : (TApiExpr) → Option (Int)) (a0 : TApiExpr) : Option (Int) :=
  (Option.bind (α := Int) (loopC fu (fun (s19 : Int × Int) => (bif (decide (s19.2 < (a0.gKids.length : Int))) then ((idx a0.gKids s19.2).bind fun x31 => ((g0 x31).bind fun x33 => some (.next ((IntKind.i64.wrap (s19.1 + x33)), (IntKind.i64.wrap (s19.2 + (1 : Int))))))) else some (.done s19.1))) ((1 : Int), (0 : Int))) fun y18 => some y18)
set_option maxRecDepth 100000 in
theorem tree_Size_b_cle (fu : Nat) (g0 g0' : (TApiExpr) → Option (Int)) (hg0 : ∀ x0, Le (g0 x0) (g0' x0)) (a0 : TApiExpr) : Le (tree_Size_b_c fu g0 a0) (tree_Size_b g0' a0) := by
  unfold tree_Size_b_c tree_Size_b
  repeat (first | exact Le.refl _ | assumption | exact hg0 _ | (refine Le.bind ?_ (fun _ => ?_)) | (refine Le.cond ?_ ?_) | (refine Le.loopC (fun _ => ?_)) | (refine Le.elim (fun _ => ?_) (fun _ => ?_)))
def tree_Size_g_c (fu : Nat) : Nat → ((TApiExpr) → Option (Int))
  | 0 => (fun _ => none)
  | n + 1 => (tree_Size_b_c fu ((tree_Size_g_c fu n)))
theorem tree_Size_g_cle (fu : Nat) : ∀ n, (∀ (a0 : TApiExpr), Le ((tree_Size_g_c fu n) a0) ((tree_Size_g n) a0))
  | 0 => fun _ => Le.none _
  | n + 1 => by
    have ih := tree_Size_g_cle fu n
    exact fun a0 => tree_Size_b_cle fu _ _ ih a0
def tree_Size_c (fu : Nat) (a0 : TApiExpr) : Option (Int) := (tree_Size_g_c fu fu) a0
theorem tree_Size_cle (fu : Nat) (a0 : TApiExpr) : Le (tree_Size_c fu a0) (tree_Size a0) := fun r h => tree_Size_of a0 fu (((tree_Size_g_cle fu fu) a0) r h)
def tree_Sizes_b_c (fu : Nat) (g0 : (List TApiStmt) → Option (Int)) (a0 : List TApiStmt) : Option (Int) :=
  (Option.bind (α := Int) (loopC fu (fun (s115 : Int × Int) => (bif (decide (s115.2 < (a0.length : Int))) then ((idx a0 s115.2).bind fun x191 => ((g0 x191.gKids).bind fun x193 => ((g0 x191.gElse).bind fun x194 => (Option.bind (α := Int) (loopC fu (fun (s211 : Int × Int) => (bif (decide (s211.2 < (x191.gExps.length : Int))) then ((idx x191.gExps s211.2).bind fun x223 => ((tree_Size_c fu x223).bind fun x225 => some (.next ((IntKind.i64.wrap (s211.1 + x225)), (IntKind.i64.wrap (s211.2 + (1 : Int))))))) else some (.done s211.1))) ((IntKind.i64.wrap (s115.1 + (IntKind.i64.wrap ((IntKind.i64.wrap ((1 : Int) + x193)) + x194)))), (0 : Int))) fun y210 => some (.next (y210, (IntKind.i64.wrap (s115.2 + (1 : Int))))))))) else some (.done s115.1))) ((0 : Int), (0 : Int))) fun y114 => some y114)
set_option maxRecDepth 100000 in
theorem tree_Sizes_b_cle (fu : Nat) (g0 g0' : (List TApiStmt) → Option (Int)) (hg0 : ∀ x0, Le (g0 x0) (g0' x0)) (a0 : List TApiStmt) : Le (tree_Sizes_b_c fu g0 a0) (tree_Sizes_b g0' a0) := by
  unfold tree_Sizes_b_c tree_Sizes_b
  repeat (first | exact Le.refl _ | assumption | exact hg0 _ | exact tree_Size_cle fu _ | (refine Le.bind ?_ (fun _ => ?_)) | (refine Le.cond ?_ ?_) | (refine Le.loopC (fun _ => ?_)) | (refine Le.elim (fun _ => ?_) (fun _ => ?_)))
def tree_Sizes_g_c (fu : Nat) : Nat → ((List TApiStmt) → Option (Int))
  | 0 => (fun _ => none)
  | n + 1 => (tree_Sizes_b_c fu ((tree_Sizes_g_c fu n)))
theorem tree_Sizes_g_cle (fu : Nat) : ∀ n, (∀ (a0 : List TApiStmt), Le ((tree_Sizes_g_c fu n) a0) ((tree_Sizes_g n) a0))
  | 0 => fun _ => Le.none _
  | n + 1 => by
    have ih := tree_Sizes_g_cle fu n
    exact fun a0 => tree_Sizes_b_cle fu _ _ ih a0
def tree_Sizes_c (fu : Nat) (a0 : List TApiStmt) : Option (Int) := (tree_Sizes_g_c fu fu) a0
theorem tree_Sizes_cle (fu : Nat) (a0 : List TApiStmt) : Le (tree_Sizes_c fu a0) (tree_Sizes a0) := fun r h => tree_Sizes_of a0 fu (((tree_Sizes_g_cle fu fu) a0) r h)
def grammar_reader_function_c (fu : Nat) (m0 : TGrammarReader) : Option (TApiFunc × TGrammarReader) :=
  ((grammar_reader_look_c fu m0 (0 : Int)).bind fun x3 => ((grammar_reader_eat_c fu m0 ([(ByteArray.mk #[105, 110, 116])] : List ByteArray)).bind fun x5 => ((grammar_reader_name_c fu x5).bind fun x6 => ((grammar_list_api_Var_c fu x6.2).bind fun x8 => ((grammar_reader_block_c fu x8.2 (⟨x6.1, x8.1, [], [], x3.gAt⟩ : TApiFunc)).bind fun x12 => (Option.bind (α := Bool) (bif (x12.2.1.gE == (0 : Int)) then ((tree_Sizes_c fu x12.1).bind fun x17 => some (decide ((800 : Int) < x17))) else some false) fun y15 => (bif y15 then ((grammar_reader_fail_c fu x12.2.1 x5.gAt (6 : Int)).bind fun x19 => some ((⟨x12.2.2.gName, x12.2.2.gParams, x12.2.2.gLocals, x12.1, x12.2.2.gAt⟩ : TApiFunc), x19)) else some ((⟨x12.2.2.gName, x12.2.2.gParams, x12.2.2.gLocals, x12.1, x12.2.2.gAt⟩ : TApiFunc), x12.2.1))))))))
set_option maxRecDepth 100000 in
theorem grammar_reader_function_cle (fu : Nat)   (m0 : TGrammarReader) : Le (grammar_reader_function_c fu  m0) (grammar_reader_function  m0) := by
  unfold grammar_reader_function_c grammar_reader_function
  repeat (first | exact Le.refl _ | assumption | exact grammar_reader_look_cle fu _ _ | exact grammar_reader_eat_cle fu _ _ | exact grammar_reader_name_cle fu _ | exact grammar_list_api_Var_cle fu _ | exact grammar_reader_block_cle fu _ _ | exact tree_Sizes_cle fu _ | exact grammar_reader_fail_cle fu _ _ _ | (refine Le.bind ?_ (fun _ => ?_)) | (refine Le.cond ?_ ?_) | (refine Le.loopC (fun _ => ?_)) | (refine Le.elim (fun _ => ?_) (fun _ => ?_)))
def grammar_Func_c (fu : Nat) (a0 : List TApiToken) (a1 : Int) : Option (TApiFunc × Int × Int) :=
  ((grammar_begin_c fu a0 a1).bind fun x3 => (bif (!x3.2) then some ((⟨ByteArray.empty, [], [], [], (0 : Int)⟩ : TApiFunc), (0 : Int), (2 : Int)) else ((grammar_reader_function_c fu x3.1).bind fun x13 => (bif (x13.2.gE != (0 : Int)) then some ((⟨ByteArray.empty, [], [], [], (0 : Int)⟩ : TApiFunc), x13.2.gAt, x13.2.gE) else some (x13.1, x13.2.gAt, (0 : Int))))))
set_option maxRecDepth 100000 in
theorem grammar_Func_cle (fu : Nat)   (a0 : List TApiToken) (a1 : Int) : Le (grammar_Func_c fu  a0 a1) (grammar_Func  a0 a1) := by
  unfold grammar_Func_c grammar_Func
  repeat (first | exact Le.refl _ | assumption | exact grammar_begin_cle fu _ _ | exact grammar_reader_function_cle fu _ | (refine Le.bind ?_ (fun _ => ?_)) | (refine Le.cond ?_ ?_) | (refine Le.loopC (fun _ => ?_)) | (refine Le.elim (fun _ => ?_) (fun _ => ?_)))
def grammar_text_api_Func_c (fu : Nat) (a0 : List UInt8) : Option (TApiFunc × Int × Int) :=
  ((token_Read_c fu a0).bind fun x4 => (bif (x4.2.2 != (0 : Int)) then some ((⟨ByteArray.empty, [], [], [], (0 : Int)⟩ : TApiFunc), x4.2.1, x4.2.2) else ((grammar_Func_c fu x4.1 (0 : Int)).bind fun x14 => ((idx x4.1 (min x14.2.1 (IntKind.i64.wrap ((x4.1.length : Int) - (1 : Int))))).bind fun x16 => (bif (x14.2.2 != (0 : Int)) then some ((⟨ByteArray.empty, [], [], [], (0 : Int)⟩ : TApiFunc), x16.gAt, x14.2.2) else (bif (x16.gKind != (0 : Int)) then some ((⟨ByteArray.empty, [], [], [], (0 : Int)⟩ : TApiFunc), x16.gAt, (3 : Int)) else some (x14.1, (0 : Int), (0 : Int))))))))
set_option maxRecDepth 100000 in
theorem grammar_text_api_Func_cle (fu : Nat)   (a0 : List UInt8) : Le (grammar_text_api_Func_c fu  a0) (grammar_text_api_Func  a0) := by
  unfold grammar_text_api_Func_c grammar_text_api_Func
  repeat (first | exact Le.refl _ | assumption | exact token_Read_cle fu _ | exact grammar_Func_cle fu _ _ | (refine Le.bind ?_ (fun _ => ?_)) | (refine Le.cond ?_ ?_) | (refine Le.loopC (fun _ => ?_)) | (refine Le.elim (fun _ => ?_) (fun _ => ?_)))
def grammar_FuncText_c (fu : Nat) (a0 : List UInt8) : Option (TApiFunc × Int × Int) :=
  ((grammar_text_api_Func_c fu a0).bind fun x5 => some (x5.1, x5.2.1, x5.2.2))
set_option maxRecDepth 100000 in
theorem grammar_FuncText_cle (fu : Nat)   (a0 : List UInt8) : Le (grammar_FuncText_c fu  a0) (grammar_FuncText  a0) := by
  unfold grammar_FuncText_c grammar_FuncText
  repeat (first | exact Le.refl _ | assumption | exact grammar_text_api_Func_cle fu _ | (refine Le.bind ?_ (fun _ => ?_)) | (refine Le.cond ?_ ?_) | (refine Le.loopC (fun _ => ?_)) | (refine Le.elim (fun _ => ?_) (fun _ => ?_)))
def l13_lives_c (fu : Nat)  : Option (Bool) :=
  ((grammar_FuncText_c fu ([(105 : UInt8), (110 : UInt8), (116 : UInt8), (32 : UInt8), (102 : UInt8), (40 : UInt8), (105 : UInt8), (110 : UInt8), (116 : UInt8), (32 : UInt8), (42 : UInt8), (112 : UInt8), (41 : UInt8), (32 : UInt8), (123 : UInt8), (32 : UInt8), (114 : UInt8), (101 : UInt8), (116 : UInt8), (117 : UInt8), (114 : UInt8), (110 : UInt8), (32 : UInt8), (42 : UInt8), (112 : UInt8), (59 : UInt8), (32 : UInt8), (125 : UInt8)] : List UInt8)).bind fun x4 => (bif (x4.2.2 == (0 : Int)) then (bif (decide (x4.1.gName = (ByteArray.mk #[102]))) then (bif ((x4.1.gParams.length : Int) == (1 : Int)) then ((idx x4.1.gParams (0 : Int)).bind fun x9 => (bif x9.gPtr then (bif ((x4.1.gBody.length : Int) == (1 : Int)) then ((idx x4.1.gBody (0 : Int)).bind fun x12 => some (x12.gOp == (8 : Int))) else some false) else some false)) else some false) else some false) else some false))
set_option maxRecDepth 100000 in
theorem l13_lives_cle (fu : Nat)    : Le (l13_lives_c fu  ) (l13_lives  ) := by
  unfold l13_lives_c l13_lives
  repeat (first | exact Le.refl _ | assumption | exact grammar_FuncText_cle fu _ | (refine Le.bind ?_ (fun _ => ?_)) | (refine Le.cond ?_ ?_) | (refine Le.loopC (fun _ => ?_)) | (refine Le.elim (fun _ => ?_) (fun _ => ?_)))
end Go.Proofs.Ytmgklehakmdiiaa.Ab
namespace Go.Proofs.Ytmgklehakmdiiaa.Ab
open Go
set_option linter.all false
theorem lives13 : l13_lives = some true := (l13_lives_cle 90).of (by kernel_rfl)
end Go.Proofs.Ytmgklehakmdiiaa.Ab
namespace Go.Proofs.Ytmgklehakmdiiaa.Ab
open Go
set_option linter.all false
def wfL22 : List UInt8 → Prop := (fun y => (y.length ≤ maxLen ∧ ∀ z ∈ y, True))
theorem goodL22 {n : Nat} {d : D} (g : GoodT tab n 22 d) : ∃ x : List UInt8, d = .lst 1 (x.map byteD) .no ∧ wfL22 x := by
  obtain ⟨n1, zs1, _, rfl, hl1, hz1⟩ := good_slice ti22 rfl ti5 (g)
  obtain ⟨x1, rfl, w1⟩ := good_list (f := byteD) (K := (fun y => True)) (p := fun x => GoodT tab n1 5 x) (fun x hx => by obtain ⟨x2, rfl⟩ := good_u8 ti5 rfl (hx); exact ⟨x2, rfl, trivial⟩) zs1 hz1
  exact ⟨x1, rfl, ⟨by simpa using hl1, w1⟩⟩
theorem GrammarGlobals_true (a0 : List UInt8) (k0 : wfL22 a0) : l13_GrammarGlobals a0 = some true := by
  unfold l13_GrammarGlobals
  obtain ⟨r, h1, h2⟩ := Pq.globalText_both a0
  rw [h1, h2]
  simp only [Option.bind_some, beq_self_eq_true, decide_true, Bool.and_self, cond_true, lives13]
end Go.Proofs.Ytmgklehakmdiiaa.Ab
