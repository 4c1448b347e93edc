/- The texts that memDoes_holds leans on, part 3. -/
import Derived.Test.YtfepijllmfedfaaMd2
namespace Go.Proofs.Ytfepijllmfedfaa.Ab
open Go
set_option linter.all false
theorem mk61 : KeyOK Try.prog 9 (fun s : ByteArray => Value.string s) := str_key (by kernel_rfl)
theorem mz61 : (Try.prog.info? 3).bind (·.zero) = some (.int .i64 (0 : Int)) := by kernel_rfl
theorem mr61 (H : Hp) : Rep H (eI64 (0 : Int)) (.int .i64 (0 : Int)) := rep_v rfl
instance : DecidableEq TApiCell := fun a b => decidable_of_iff (a.gName = b.gName ∧ a.gAt = b.gAt) (by cases a; cases b; simp)
def kcTApiCell (x : TApiCell) : List Value := [.string x.gName, .int .i64 x.gAt]
theorem keTApiCell (a b : TApiCell) : (decide (a.gName = b.gName) && (a.gAt == b.gAt && true)) = decide (b = a) := by
  rw [Bool.eq_iff_iff, decide_eq_true_iff]
  obtain ⟨a0, a1⟩ := a
  obtain ⟨b0, b1⟩ := b
  simp only [Bool.and_eq_true, decide_eq_true_eq, beq_iff_eq, and_true, TApiCell.mk.injEq]
  constructor <;> intro h <;> simp_all
theorem mk62 : KeyOK Try.prog 35 (fun a => Value.agg (kcTApiCell a).toArray) := struct_key (g := kcTApiCell) htab eqt35 rfl rfl (fun _ => rfl) (fun _ => rfl) (fun a b => (show eqL tab _ _ _ = some ((decide (a.gName = b.gName) && (a.gAt == b.gAt && true))) from rfl).trans (congrArg some (keTApiCell a b)))
theorem mz62 : (Try.prog.info? 37).bind (·.zero) = some (.agg #[.bool false, .int .i64 (0 : Int), .string ByteArray.empty, .int .i64 (0 : Int)]) := by kernel_rfl
theorem mr62 (H : Hp) : Rep H (eTApiWord (⟨false, (0 : Int), (⟨ByteArray.empty, (0 : Int)⟩ : TApiCell)⟩ : TApiWord)) (.agg #[.bool false, .int .i64 (0 : Int), .string ByteArray.empty, .int .i64 (0 : Int)]) := rep_va H (us := [.bool false, .int .i64 (0 : Int), .string ByteArray.empty, .int .i64 (0 : Int)]) rfl
structure TApiGlobal where
  gName : ByteArray
  gPtr : Bool
  gSize : Int
  gAt : Int
def eTApiGlobal (x : TApiGlobal) : D := .agg [.v (.string x.gName), .v (.bool x.gPtr), .v (.int .i64 x.gSize), .v (.int .i64 x.gAt)]
structure TApiVar where
  gName : ByteArray
  gPtr : Bool
def eTApiVar (x : TApiVar) : D := .agg [.v (.string x.gName), .v (.bool x.gPtr)]
structure TApiExpr where
  gOp : Int
  gN : Int
  gName : ByteArray
  gKids : List TApiExpr
  gAt : Int
mutual
def eTApiExpr : TApiExpr → D
  | ⟨f0, f1, f2, f3, f4⟩ => .agg [.v (.int .i64 f0), .v (.int .i64 f1), .v (.string f2), .lst 5 (eTApiExpr_l f3) .no, .v (.int .i64 f4)]
def eTApiExpr_l : List TApiExpr → List D
  | [] => []
  | x :: l => eTApiExpr x :: eTApiExpr_l l
end
theorem eTApiExpr_map : ∀ l, eTApiExpr_l l = l.map eTApiExpr
  | [] => by simp [eTApiExpr_l]
  | x :: l => by simp only [eTApiExpr_l, List.map_cons, eTApiExpr_map l]
theorem eTApiExpr_eq (x : TApiExpr) : eTApiExpr x = .agg [.v (.int .i64 x.gOp), .v (.int .i64 x.gN), .v (.string x.gName), .lst 5 (x.gKids.map eTApiExpr) .no, .v (.int .i64 x.gAt)] := by
  cases x
  simp only [eTApiExpr, eTApiExpr_map]
structure TApiStmt where
  gOp : Int
  gName : ByteArray
  gFunc : ByteArray
  gExps : List TApiExpr
  gKids : List TApiStmt
  gElse : List TApiStmt
  gAt : Int
mutual
def eTApiStmt : TApiStmt → D
  | ⟨f0, f1, f2, f3, f4, f5, f6⟩ => .agg [.v (.int .i64 f0), .v (.string f1), .v (.string f2), .lst 5 (f3.map eTApiExpr) .no, .lst 7 (eTApiStmt_l f4) .no, .lst 7 (eTApiStmt_l f5) .no, .v (.int .i64 f6)]
def eTApiStmt_l : List TApiStmt → List D
  | [] => []
  | x :: l => eTApiStmt x :: eTApiStmt_l l
end
theorem eTApiStmt_map : ∀ l, eTApiStmt_l l = l.map eTApiStmt
  | [] => by simp [eTApiStmt_l]
  | x :: l => by simp only [eTApiStmt_l, List.map_cons, eTApiStmt_map l]
theorem eTApiStmt_eq (x : TApiStmt) : eTApiStmt x = .agg [.v (.int .i64 x.gOp), .v (.string x.gName), .v (.string x.gFunc), .lst 5 (x.gExps.map eTApiExpr) .no, .lst 7 (x.gKids.map eTApiStmt) .no, .lst 7 (x.gElse.map eTApiStmt) .no, .v (.int .i64 x.gAt)] := by
  cases x
  simp only [eTApiStmt, eTApiStmt_map]
structure TApiFunc where
  gName : ByteArray
  gParams : List TApiVar
  gLocals : List TApiVar
  gBody : List TApiStmt
  gAt : Int
def eTApiFunc (x : TApiFunc) : D := .agg [.v (.string x.gName), .lst 2 (x.gParams.map eTApiVar) .no, .lst 2 (x.gLocals.map eTApiVar) .no, .lst 7 (x.gBody.map eTApiStmt) .no, .v (.int .i64 x.gAt)]
structure TApiProgram where
  gGlobals : List TApiGlobal
  gFuncs : List TApiFunc
def eTApiProgram (x : TApiProgram) : D := .agg [.lst 4 (x.gGlobals.map eTApiGlobal) .no, .lst 5 (x.gFuncs.map eTApiFunc) .no]
structure TMemMem where
  gSizes : List (ByteArray × Int)
  gWords : List (TApiCell × TApiWord)
  gCells : List TApiCell
noncomputable def mem_New (a0 : TApiProgram) : Option (TMemMem) :=
  (Option.bind (α := List TApiCell × List (ByteArray × Int) × List (TApiCell × TApiWord)) (loopM (fun (s190 : Int × List TApiCell × List (ByteArray × Int) × List (TApiCell × TApiWord)) => (bif (decide (s190.1 < (a0.gGlobals.length : Int))) then ((idx a0.gGlobals s190.1).bind fun x329 => (bif (decide ((0 : Int) < (mgetD s190.2.2.1 x329.gName (0 : Int)))) then some (.next ((IntKind.i64.wrap (s190.1 + (1 : Int))), s190.2.1, s190.2.2.1, s190.2.2.2)) else (Option.bind (α := Bool) (bif (!x329.gPtr) then some (decide ((0 : Int) < x329.gSize)) else some false) fun y333 => (Option.bind (α := Int) (bif y333 then some x329.gSize else some (1 : Int)) fun y336 => (Option.bind (α := List TApiCell × List (TApiCell × TApiWord)) (loopM (fun (s355 : Int × List TApiCell × List (TApiCell × TApiWord)) => (bif (decide (s355.1 < y336)) then ((app 24 s355.2.1 ([(⟨x329.gName, s355.1⟩ : TApiCell)] : List TApiCell)).bind fun x370 => some (.next ((IntKind.i64.wrap (s355.1 + (1 : Int))), x370, (mput s355.2.2 (⟨x329.gName, s355.1⟩ : TApiCell) (⟨x329.gPtr, (0 : Int), (⟨ByteArray.empty, (0 : Int)⟩ : TApiCell)⟩ : TApiWord))))) else some (.done (s355.2.1, s355.2.2)))) ((0 : Int), s190.2.1, s190.2.2.2)) fun y354 => some (.next ((IntKind.i64.wrap (s190.1 + (1 : Int))), y354.1, (mput s190.2.2.1 x329.gName y336), y354.2))))))) else some (.done (s190.2.1, s190.2.2.1, s190.2.2.2)))) ((0 : Int), ([] : List TApiCell), ([] : List (ByteArray × Int)), ([] : List (TApiCell × TApiWord)))) fun y189 => some (⟨y189.2.1, y189.2.2, y189.1⟩ : TMemMem))
set_option maxRecDepth 100000 in
set_option maxHeartbeats 2000000 in
theorem mem_New_ok (a0 : TApiProgram) (r : TMemMem) (h0 : mem_New a0 = some r) : CallsD Try.prog 6 [eTApiProgram a0] [] [] (fun d h k => ∃ y0 y1 y2 y3, d = .ptr y0 0 ∧ h = [(y0, Blk.cells [.v (.map (some y1)), .v (.map (some y2)), .lst 2 (r.gCells.map eTApiCell) (.cur y3)] 64), (y1, Blk.mp (r.gSizes.map fun p => ((fun s : ByteArray => Value.string s) p.1, eI64 p.2))), (y2, Blk.mp (r.gWords.map fun p => ((fun a => Value.agg (kcTApiCell a).toArray) p.1, eTApiWord p.2)))] ∧ k = [(2, y3)]) := by
  have hm := yes_of h0
  unfold mem_New at hm
  clear h0
  refine enterX htab Try.func6 rfl rfl rfl rfl rfl (fun C => ?_)
  refine wpD_sr ?_
  refine p_box rfl rfl rfl rfl rfl rfl rfl (fun b1 => ?_)
  refine pu ?_
  refine ops_n2 ?_
  refine p_makeMap rfl rfl rfl rfl (fun b2 => ?_)
  refine p_makeMap rfl rfl rfl rfl (fun b3 => ?_)
  refine p_build (r := [.v (.map (some b2)), .v (.map (some b3)), .lst 1 [] .full]) htab rfl rfl rfl rfl rfl rfl rfl rfl rfl ?_
  refine p_box rfl rfl rfl rfl rfl rfl rfl (fun b4 => ?_)
  refine pu ?_
  refine ops_nt ?_
  refine wpD_seq ?_
  refine wpD_sr ?_
  refine pu ?_
  refine pL 2 ?_
  refine p_lenL htab rfl rfl rfl rfl rfl rfl rfl (by first | exact map_len | rfl) ?_
  refine pu ?_
  refine ops_nt ?_
  obtain ⟨y189, q189, ho189⟩ := yes_bind hm
  refine wpD_mid (Y := Value) (fun z189 => (⟨[(3, .ptr b4 0)], [(b3, Blk.mp (y189.2.2.map fun p => ((fun a => Value.agg (kcTApiCell a).toArray) p.1, eTApiWord p.2))), (b2, Blk.mp (y189.2.1.map fun p => ((fun s : ByteArray => Value.string s) p.1, eI64 p.2))), (b4, Blk.cells [.v (.map (some b2)), .v (.map (some b3)), .lst 2 (y189.1.map eTApiCell) (.cur z189)] 64)], [(2, z189)]⟩ : S)) ?_ ?_
  ·clear hm; have hm := yes_of q189
   refine wpD_block ?_
   obtain ⟨u190, hl190, hq190⟩ := yes_m hm
   refine loop_M (Y := Value) hl190 (fun s190 z190 => (⟨[(3, .ptr b4 0), (14, .lst 4 (a0.gGlobals.map eTApiGlobal) .no), (15, .v (.int .i64 (a0.gGlobals.length : Int))), (16, .v (.int .i64 s190.1))], [(b3, Blk.mp (s190.2.2.2.map fun p => ((fun a => Value.agg (kcTApiCell a).toArray) p.1, eTApiWord p.2))), (b2, Blk.mp (s190.2.2.1.map fun p => ((fun s : ByteArray => Value.string s) p.1, eI64 p.2))), (b4, Blk.cells [.v (.map (some b2)), .v (.map (some b3)), .lst 2 (s190.2.1.map eTApiCell) (.cur z190)] 64)], [(2, z190)]⟩ : S)) ?_ ?_
   ·skip
    refine WkX.cellF (off := 2) 2 3 rfl rfl (by first | exact Or.inl rfl | exact Or.inr rfl) (fun w327 => ?_)
    exact WkX.of w327 (WkS.perm (WkS.cons rfl (Wk.refl _) (WkS.cons rfl (Wk.refl _) (WkS.cons rfl (Wk.refl _) (WkS.cons rfl (Wk.refl _) (WkS.nil))))) ((perm_at (j := 0) rfl).trans (List.Perm.cons _ ((perm_at (j := 0) rfl).trans (List.Perm.cons _ ((perm_at (j := 1) rfl).trans (List.Perm.cons _ Pf)))))) Pf)
   ·intro G190 s190 z190 hm
    refine wpD_sr ?_
    refine pu ?_
    refine ops_nt ?_
    refine wpD_seq ?_
    refine wpD_cond rfl (fun hc328 => ?_) (fun hc328 => ?_)
    ·replace hm := yes_t hc328 hm
     refine wpD_skip ?_
     refine then_normal ?_
     refine wpD_seq ?_
     refine wpD_block ?_
     refine wpD_sr ?_
     obtain ⟨x329, q329, hm⟩ := yes_bind hm
     refine p_elem htab rfl rfl rfl rfl rfl rfl rfl rfl rfl rfl (idx_nonneg q329) (idx_map q329) ?_
     refine p_loadEl (d := eTApiGlobal x329) htab rfl rfl rfl rfl rfl rfl rfl rfl ?_
     refine p_alloc htab rfl rfl rfl rfl rfl rfl rfl (fun b330 => ?_)
     refine pS3 (ds' := [.v (.string x329.gName), .v (.bool x329.gPtr), .v (.int .i64 x329.gSize), .v (.int .i64 x329.gAt)]) ?_
     refine ops_nt ?_
     refine wpD_seq ?_
     refine wpD_seq ?_
     refine wpD_draws 6 [] [[],[0],[0,1],[0,1,2],[],[4]] [0,1,2,3,4] [[],[0],[0,1],[0,1,2],[],[4],[0,1,2,3,4,5],[0,1,2,3,4,5,6]] (by kernel_rfl) (by kernel_rfl) (by kernel_rfl) (by rfl) (by rfl) (by kernel_rfl) ?_
     iterate 5 apply Exists.intro
     intro bs
     iterate 3 refine zep ?_
     refine z_eM rfl rfl (xm_load 2 htab rfl rfl rfl rfl rfl) rfl rfl rfl rfl rfl rfl ?_
     refine zep ?_
     refine z_qM rfl rfl (xm_load 3 htab rfl rfl rfl rfl rfl) rfl rfl rfl rfl rfl rfl ?_
     refine z_nil rfl rfl (fun e he => by simp [isAl] at he) ?_
     refine p_lookup (l := s190.2.2.1) (f := (fun s : ByteArray => Value.string s)) (e := eI64) (kk := x329.gName) (z := (0 : Int)) (dr := .v (.int .i64 (mgetD s190.2.2.1 x329.gName (0 : Int)))) 1 htab rfl rfl rfl rfl rfl rfl rfl rfl rfl rfl mk61 (fun H v h => rep_v_inv h) mz61 mr61 rfl ?_
     refine pu ?_
     refine ops_nt ?_
     refine wpD_cond rfl (fun hc331 => ?_) (fun hc331 => ?_)
     ·replace hm := yes_t hc331 hm
      refine wpD_exit ?_
      refine then_exit ?_
      refine block_hit ?_
      refine then_normal ?_
      refine wpD_region ?_
      refine pu ?_
      refine pu ?_
      refine ops_nil ?_
      refine then_normal ⟨_, lp_next hm, ?_⟩
      exact WkX.of z190 (WkS.perm (WkS.cons rfl (Wk.refl _) (WkS.cons rfl (Wk.refl _) (WkS.cons rfl (Wk.refl _) (WkS.cons rfl (Wk.refl _) (WkS.nil))))) Pf Pf)
     ·replace hm := yes_f hc331 hm
      refine wpD_skip ?_
      refine then_normal ?_
      refine wpD_sr ?_
      refine pu ?_
      refine ops_nt ?_
      refine wpD_seq ?_
      refine wpD_seq ?_
      obtain ⟨y333, q333, ho333⟩ := yes_bind hm
      refine wpD_mid (Y := Unit) (fun z333 => (⟨[(3, .ptr b4 0), (5, .ptr b330 0), (6, .v (.int .i64 (1 : Int))), (14, .lst 4 (a0.gGlobals.map eTApiGlobal) .no), (15, .v (.int .i64 (a0.gGlobals.length : Int))), (16, .v (.int .i64 s190.1)), (35, .v (.bool y333))], [(b3, Blk.mp (s190.2.2.2.map fun p => ((fun a => Value.agg (kcTApiCell a).toArray) p.1, eTApiWord p.2))), (b2, Blk.mp (s190.2.2.1.map fun p => ((fun s : ByteArray => Value.string s) p.1, eI64 p.2))), (b4, Blk.cells [.v (.map (some b2)), .v (.map (some b3)), .lst 2 (s190.2.1.map eTApiCell) (.cur z190)] 64), (b330, Blk.cells [.v (.string x329.gName), .v (.bool x329.gPtr), .v (.int .i64 x329.gSize), .v (.int .i64 x329.gAt)] 29)], [(2, z190)]⟩ : S)) ?_ ?_
      ·clear hm; have hm := yes_of q333
       refine wpD_region ?_
       refine pu ?_
       refine pL 3 ?_
       refine pu ?_
       refine pu ?_
       refine p_split (i := 31) rfl (fun hg334 => ?_) (fun hg334 => ?_)
       ·replace hm := yes_t hg334 hm
        refine pu ?_
        refine pL 3 ?_
        refine pu ?_
        refine p_pickT rfl rfl rfl rfl rfl rfl ?_
        refine ops_nil ?_
        have e333 := yes_eq hm; subst e333
        refine ⟨rfl, ?_⟩
        exact WkX.of () (WkS.perm (WkS.cons rfl (Wk.refl _) (WkS.cons rfl (Wk.refl _) (WkS.cons rfl (Wk.refl _) (WkS.cons rfl (Wk.refl _) (WkS.cons rfl (Wk.refl _) (WkS.cons rfl (Wk.refl _) (WkS.cons rfl (Wk.refl _) (WkS.nil)))))))) Pf Pf)
       ·replace hm := yes_f hg334 hm
        iterate 3 refine pK ?_
        refine p_pickF rfl rfl rfl rfl rfl rfl ?_
        refine ops_nil ?_
        have e333 := yes_eq hm; subst e333
        refine ⟨rfl, ?_⟩
        exact WkX.of () (WkS.perm (WkS.cons rfl (Wk.refl _) (WkS.cons rfl (Wk.refl _) (WkS.cons rfl (Wk.refl _) (WkS.cons rfl (Wk.refl _) (WkS.cons rfl (Wk.refl _) (WkS.cons rfl (Wk.refl _) (WkS.cons rfl (Wk.refl _) (WkS.nil)))))))) Pf Pf)
      ·intro s333 hw333; clear hm; have hm := ho333; clear q333 ho333
       refine then_normal ?_
       refine wpD_wkX hw333 (fun z333 => ?_)
       obtain ⟨y336, q336, ho336⟩ := yes_bind hm
       refine wpD_mid (Y := Unit) (fun z336 => (⟨[(3, .ptr b4 0), (5, .ptr b330 0), (6, .v (.int .i64 y336)), (14, .lst 4 (a0.gGlobals.map eTApiGlobal) .no), (15, .v (.int .i64 (a0.gGlobals.length : Int))), (16, .v (.int .i64 s190.1))], [(b3, Blk.mp (s190.2.2.2.map fun p => ((fun a => Value.agg (kcTApiCell a).toArray) p.1, eTApiWord p.2))), (b2, Blk.mp (s190.2.2.1.map fun p => ((fun s : ByteArray => Value.string s) p.1, eI64 p.2))), (b4, Blk.cells [.v (.map (some b2)), .v (.map (some b3)), .lst 2 (s190.2.1.map eTApiCell) (.cur z190)] 64), (b330, Blk.cells [.v (.string x329.gName), .v (.bool x329.gPtr), .v (.int .i64 x329.gSize), .v (.int .i64 x329.gAt)] 29)], [(2, z190)]⟩ : S)) ?_ ?_
       ·clear hm; have hm := yes_of q336
        refine wpD_cond rfl (fun hc337 => ?_) (fun hc337 => ?_)
        ·replace hm := yes_t hc337 hm
         refine wpD_region ?_
         refine pu ?_
         refine pL 3 ?_
         refine pu ?_
         refine ops_nil ?_
         have e336 := yes_eq hm; subst e336
         refine ⟨rfl, ?_⟩
         exact WkX.of () (WkS.perm (WkS.cons rfl (Wk.refl _) (WkS.cons rfl (Wk.refl _) (WkS.cons rfl (Wk.refl _) (WkS.cons rfl (Wk.refl _) (WkS.cons rfl (Wk.refl _) (WkS.cons rfl (Wk.refl _) (WkS.nil))))))) Pf Pf)
        ·replace hm := yes_f hc337 hm
         refine wpD_skip ?_
         have e336 := yes_eq hm; subst e336
         refine ⟨rfl, ?_⟩
         exact WkX.of () (WkS.perm (WkS.cons rfl (Wk.refl _) (WkS.cons rfl (Wk.refl _) (WkS.cons rfl (Wk.refl _) (WkS.cons rfl (Wk.refl _) (WkS.cons rfl (Wk.refl _) (WkS.cons rfl (Wk.refl _) (WkS.nil))))))) Pf Pf)
       ·intro s336 hw336; clear hm; have hm := ho336; clear q336 ho336
        refine then_normal ?_
        refine wpD_wkX hw336 (fun z336 => ?_)
        refine wpD_seq ?_
        refine wpD_draws 7 [] [[],[0],[0,1],[0,1,2],[],[4],[]] [0,1,2,3,4] [[],[0],[0,1],[0,1,2],[],[4],[],[0,1,2,3,4,5,6]] (by kernel_rfl) (by kernel_rfl) (by kernel_rfl) (by rfl) (by rfl) (by kernel_rfl) ?_
        iterate 5 apply Exists.intro
        intro bs
        iterate 3 refine zep ?_
        refine z_eM rfl rfl (xm_load 2 htab rfl rfl rfl rfl rfl) rfl rfl rfl rfl rfl rfl ?_
        refine zep ?_
        refine z_qM rfl rfl (xm_load 3 htab rfl rfl rfl rfl rfl) rfl rfl rfl rfl rfl rfl ?_
        refine zqp ?_
        refine z_nil rfl rfl (fun e he => by simp [isAl] at he) ?_
        refine p_mapUpdate (l := s190.2.2.1) (f := (fun s : ByteArray => Value.string s)) (e := eI64) (kk := x329.gName) (vv := y336) (h' := [(b3, Blk.mp (s190.2.2.2.map fun p => ((fun a => Value.agg (kcTApiCell a).toArray) p.1, eTApiWord p.2))), (b2, Blk.mp ((mput s190.2.2.1 x329.gName y336).map fun p => ((fun s : ByteArray => Value.string s) p.1, eI64 p.2))), (b4, Blk.cells [.v (.map (some b2)), .v (.map (some b3)), .lst 2 (s190.2.1.map eTApiCell) (.cur z190)] 64), (b330, Blk.cells [.v (.string x329.gName), .v (.bool x329.gPtr), .v (.int .i64 x329.gSize), .v (.int .i64 x329.gAt)] 29)]) 1 htab rfl rfl rfl rfl rfl rfl rfl rfl rfl rfl mk61 (fun H v h => rep_v_inv h) (Wk.refl _) rfl ?_
        refine ops_n2 ?_
        refine pu ?_
        refine pu ?_
        refine ops_nt ?_
        obtain ⟨y354, q354, ho354⟩ := yes_bind hm
        refine wpD_mid (Y := Value) (fun z354 => (⟨[(3, .ptr b4 0), (14, .lst 4 (a0.gGlobals.map eTApiGlobal) .no), (15, .v (.int .i64 (a0.gGlobals.length : Int))), (16, .v (.int .i64 s190.1))], [(b3, Blk.mp (y354.2.map fun p => ((fun a => Value.agg (kcTApiCell a).toArray) p.1, eTApiWord p.2))), (b2, Blk.mp ((mput s190.2.2.1 x329.gName y336).map fun p => ((fun s : ByteArray => Value.string s) p.1, eI64 p.2))), (b4, Blk.cells [.v (.map (some b2)), .v (.map (some b3)), .lst 2 (y354.1.map eTApiCell) (.cur z354)] 64)], [(2, z354)]⟩ : S)) ?_ ?_
        ·clear hm; have hm := yes_of q354
         refine wpD_block ?_
         obtain ⟨u355, hl355, hq355⟩ := yes_m hm
         refine loop_M (Y := Value) hl355 (fun s355 z355 => (⟨[(3, .ptr b4 0), (5, .ptr b330 0), (14, .lst 4 (a0.gGlobals.map eTApiGlobal) .no), (15, .v (.int .i64 (a0.gGlobals.length : Int))), (16, .v (.int .i64 s190.1)), (45, .v (.int .i64 y336)), (46, .v (.int .i64 s355.1))], [(b3, Blk.mp (s355.2.2.map fun p => ((fun a => Value.agg (kcTApiCell a).toArray) p.1, eTApiWord p.2))), (b2, Blk.mp ((mput s190.2.2.1 x329.gName y336).map fun p => ((fun s : ByteArray => Value.string s) p.1, eI64 p.2))), (b4, Blk.cells [.v (.map (some b2)), .v (.map (some b3)), .lst 2 (s355.2.1.map eTApiCell) (.cur z355)] 64), (b330, Blk.cells [.v (.string x329.gName), .v (.bool x329.gPtr), .v (.int .i64 x329.gSize), .v (.int .i64 x329.gAt)] 29)], [(2, z355)]⟩ : S)) ?_ ?_
         ·skip
          exact WkX.of z190 (WkS.perm (WkS.cons rfl (Wk.refl _) (WkS.cons rfl (Wk.refl _) (WkS.cons rfl (Wk.refl _) (WkS.cons rfl (Wk.refl _) (WkS.cons rfl (Wk.refl _) (WkS.cons rfl (Wk.refl _) (WkS.cons rfl (Wk.refl _) (WkS.nil)))))))) Pf Pf)
         ·intro G355 s355 z355 hm
          refine wpD_sr ?_
          refine pu ?_
          refine ops_nt ?_
          refine wpD_seq ?_
          refine wpD_cond rfl (fun hc368 => ?_) (fun hc368 => ?_)
          ·replace hm := yes_t hc368 hm
           refine wpD_skip ?_
           refine then_normal ?_
           refine wpD_seq ?_
           refine wpD_block ?_
           refine wpD_sr ?_
           refine pu ?_
           refine pu ?_
           refine ops_n2 ?_
           refine pu ?_
           refine pL 3 ?_
           refine pu ?_
           refine p_build (r := [.v (.string x329.gName), .v (.int .i64 s355.1)]) htab rfl rfl rfl rfl rfl rfl rfl rfl rfl ?_
           refine p_alloc htab rfl rfl rfl rfl rfl rfl rfl (fun b369 => ?_)
           refine pS4 (ds' := [.v (.string x329.gName), .v (.int .i64 s355.1)]) ?_
           refine ops_nt ?_
           refine wpD_seq ?_
           refine wpD_draws 8 [] [[],[0],[0,1],[0,1,2],[],[],[5],[5]] [0,1,2,3,4,5,7] [[],[0],[0,1],[0,1,2],[],[],[5],[5,6],[0,1,2,3,4,5,6,7]] (by kernel_rfl) (by kernel_rfl) (by kernel_rfl) (by rfl) (by rfl) (by kernel_rfl) ?_
           iterate 7 apply Exists.intro
           intro bs
           iterate 3 refine zep ?_
           refine z_eM rfl rfl (xm_load 2 htab rfl rfl rfl rfl rfl) rfl rfl rfl rfl rfl rfl ?_
           refine z_eM rfl rfl (xm_load (d := eTApiCell (⟨x329.gName, s355.1⟩ : TApiCell)) 4 htab rfl rfl rfl rfl rfl) rfl rfl rfl rfl rfl rfl ?_
           refine zep ?_
           refine z_qM rfl rfl (xm_load 3 htab rfl rfl rfl rfl rfl) rfl rfl rfl rfl rfl rfl ?_
           refine z_e rfl rfl (x_build (r := [.v (.bool x329.gPtr), .v (.int .i64 (0 : Int)), .v (.string ByteArray.empty), .v (.int .i64 (0 : Int))]) htab rfl rfl rfl rfl rfl rfl) rfl rfl rfl rfl rfl rfl ?_
           refine z_nil rfl rfl (fun e he => by simp [isAl] at he) ?_
           refine p_mapUpdate (l := s355.2.2) (f := (fun a => Value.agg (kcTApiCell a).toArray)) (e := eTApiWord) (kk := (⟨x329.gName, s355.1⟩ : TApiCell)) (vv := (⟨x329.gPtr, (0 : Int), (⟨ByteArray.empty, (0 : Int)⟩ : TApiCell)⟩ : TApiWord)) (h' := [(b3, Blk.mp ((mput s355.2.2 (⟨x329.gName, s355.1⟩ : TApiCell) (⟨x329.gPtr, (0 : Int), (⟨ByteArray.empty, (0 : Int)⟩ : TApiCell)⟩ : TApiWord)).map fun p => ((fun a => Value.agg (kcTApiCell a).toArray) p.1, eTApiWord p.2))), (b2, Blk.mp ((mput s190.2.2.1 x329.gName y336).map fun p => ((fun s : ByteArray => Value.string s) p.1, eI64 p.2))), (b4, Blk.cells [.v (.map (some b2)), .v (.map (some b3)), .lst 2 (s355.2.1.map eTApiCell) (.cur z355)] 64), (b330, Blk.cells [.v (.string x329.gName), .v (.bool x329.gPtr), .v (.int .i64 x329.gSize), .v (.int .i64 x329.gAt)] 29), (b369, Blk.cells [.v (.string x329.gName), .v (.int .i64 s355.1)] 35)]) 0 htab rfl rfl rfl rfl rfl rfl rfl rfl rfl rfl mk62 (fun H v h => rep_va_inv (us := kcTApiCell (⟨x329.gName, s355.1⟩ : TApiCell)) h) (Wk.refl _) rfl ?_
           refine ops_nt ?_
           obtain ⟨x370, q370, hm⟩ := yes_bind hm
           refine wpD_app 8 [] [[],[],[1],[1,2],[1,2,3],[],[5],[1,2,3,4,5,6]] [0,1,2,3,4,5,6,7] [[],[],[1],[1,2],[1,2,3],[],[5],[1,2,3,4,5,6],[0,1,2,3,4,5,6,7],[0,1,2,3,4,5,6,7,8],[0,1,2,3,4,5,6,7,8,9]] 7 2 0 (by kernel_rfl) (by kernel_rfl) (by kernel_rfl) (by rfl) (by rfl) (by kernel_rfl) rfl ?_
           iterate 8 apply Exists.intro
           refine ⟨.any, ?_⟩
           intro bs v370
           iterate 4 refine zh_e rfl rfl (ex_pure htab rfl) rfl rfl rfl rfl rfl rfl rfl rfl ?_
           refine zh_M rfl rfl (fun _ => xm_load 2 htab rfl rfl rfl rfl rfl) (offB rfl) rfl rfl rfl rfl rfl rfl rfl rfl ?_
           refine zh_M rfl rfl (fun _ => xm_load (d := eTApiCell (⟨x329.gName, s355.1⟩ : TApiCell)) 4 htab rfl rfl rfl rfl rfl) (offB rfl) rfl rfl rfl rfl rfl rfl rfl rfl ?_
           refine zh_E rfl rfl (ExE.wk (x_lit htab rfl rfl rfl rfl rfl rfl rfl rfl rfl rfl rfl) (show Wk _ (.lst 2 (([(⟨x329.gName, s355.1⟩ : TApiCell)] : List TApiCell).map eTApiCell) .full) from Wk.lst0 (.cons (WkC.refl _) (.nil)))) rfl rfl rfl rfl rfl rfl rfl rfl ?_
           refine zh_app htab rfl rfl rfl rfl rfl rfl rfl rfl (rep_of rfl) rfl (app_kC rfl) (perm_at (j := 0) rfl) rfl rfl rfl rfl rfl rfl rfl rfl rfl (app_bound q370) (app_map q370) ?_
           refine zh_nil rfl rfl rfl rfl (fun e he => by simp [isAl] at he) ?_
           refine pu ?_
           refine pu ?_
           refine pS2 (ds' := [.v (.map (some b2)), .v (.map (some b3)), .lst 2 (x370.map eTApiCell) (.cur v370)]) ?_
           refine ops_nil ?_
           refine block_normal ?_
           refine then_normal ?_
           refine wpD_region ?_
           refine pu ?_
           refine pu ?_
           refine ops_nil ?_
           refine then_normal ⟨_, lp_next hm, ?_⟩
           exact WkX.of v370 (WkS.perm (WkS.cons rfl (Wk.refl _) (WkS.cons rfl (Wk.refl _) (WkS.cons rfl (Wk.refl _) (WkS.cons rfl (Wk.refl _) (WkS.cons rfl (Wk.refl _) (WkS.cons rfl (Wk.refl _) (WkS.cons rfl (Wk.refl _) (WkS.nil)))))))) Pf Pf)
          ·replace hm := yes_f hc368 hm
           refine wpD_exit ?_
           refine then_exit ?_
           have e355 := lp_done hm; subst e355; clear hm; have hm := hq355
           refine then_exit ?_
           refine block_hit ?_
           have e354 := yes_eq hm; subst e354
           refine ⟨rfl, ?_⟩
           exact WkX.of z355 (WkS.perm (WkS.cons rfl (Wk.refl _) (WkS.cons rfl (Wk.refl _) (WkS.cons rfl (Wk.refl _) (WkS.cons rfl (Wk.refl _) (WkS.nil))))) Pf Pf)
        ·intro s354 hw354; clear hm; have hm := ho354; clear q354 ho354
         refine block_normal ?_
         refine then_normal ?_
         refine wpD_wkX hw354 (fun z354 => ?_)
         refine wpD_region ?_
         refine pu ?_
         refine pu ?_
         refine ops_nil ?_
         refine then_normal ⟨_, lp_next hm, ?_⟩
         exact WkX.of z354 (WkS.perm (WkS.cons rfl (Wk.refl _) (WkS.cons rfl (Wk.refl _) (WkS.cons rfl (Wk.refl _) (WkS.cons rfl (Wk.refl _) (WkS.nil))))) Pf Pf)
    ·replace hm := yes_f hc328 hm
     refine wpD_exit ?_
     refine then_exit ?_
     have e190 := lp_done hm; subst e190; clear hm; have hm := hq190
     refine then_exit ?_
     refine block_hit ?_
     have e189 := yes_eq hm; subst e189
     refine ⟨rfl, ?_⟩
     exact WkX.of z190 (WkS.perm (WkS.cons rfl (Wk.refl _) (WkS.nil)) Pf Pf)
  ·intro s189 hw189; clear hm; have hm := ho189; clear q189 ho189
   refine then_normal ?_
   refine wpD_wkX hw189 (fun z189 => ?_)
   refine wpD_sr ?_
   refine pu ?_
   refine pu ?_
   refine ops_nt ?_
   refine wpD_ret ?_
   have er371 := yes_eq hm; subst er371
   refine rP (t' := [(2, .ptr b4 0)]) [2,1,0] [0] 3 (wC wN) (lT lN) ?_
   exact ⟨b4, b2, b3, z189, rfl, rfl, rfl⟩
noncomputable def mem_Mem_All (m0 : TMemMem) : Option (List TMemHeld) :=
  (Option.bind (α := List TMemHeld) (loopM (fun (s24 : List TMemHeld × Int) => (bif (decide (s24.2 < (m0.gCells.length : Int))) then ((idx m0.gCells s24.2).bind fun x42 => ((app 64 s24.1 ([(⟨x42, (⟨(mgetD m0.gWords x42 (⟨false, (0 : Int), (⟨ByteArray.empty, (0 : Int)⟩ : TApiCell)⟩ : TApiWord)).gPtr, (mgetD m0.gWords x42 (⟨false, (0 : Int), (⟨ByteArray.empty, (0 : Int)⟩ : TApiCell)⟩ : TApiWord)).gN, ((mgetD m0.gWords x42 (⟨false, (0 : Int), (⟨ByteArray.empty, (0 : Int)⟩ : TApiCell)⟩ : TApiWord)).gTo)⟩ : TApiWord)⟩ : TMemHeld)] : List TMemHeld)).bind fun x44 => some (.next (x44, (IntKind.i64.wrap (s24.2 + (1 : Int))))))) else some (.done s24.1))) (([] : List TMemHeld), (0 : Int))) fun y23 => ((need (len62H y23)).bind fun x45 => some (sortH y23)))
set_option maxRecDepth 100000 in
set_option maxHeartbeats 2000000 in
theorem mem_Mem_All_ok (m0 : TMemMem) (o0 : Nat) (T0 : TypeId) (z0_0 : Nat) (z0_1 : Nat) (c0_2 : Cap) (r : List TMemHeld) (h0 : mem_Mem_All m0 = some r) : CallsD Try.prog 14 [.ptr o0 0] [(o0, Blk.cells [.v (.map (some z0_0)), .v (.map (some z0_1)), .lst 2 (m0.gCells.map eTApiCell) c0_2] T0), (z0_0, Blk.mp (m0.gSizes.map fun p => ((fun s : ByteArray => Value.string s) p.1, eI64 p.2))), (z0_1, Blk.mp (m0.gWords.map fun p => ((fun a => Value.agg (kcTApiCell a).toArray) p.1, eTApiWord p.2)))] [] (fun d h k => ∃ y0, d = .lst 6 (r.map eTMemHeld) (.cur y0) ∧ h = [(o0, Blk.cells [.v (.map (some z0_0)), .v (.map (some z0_1)), .lst 2 (m0.gCells.map eTApiCell) c0_2] T0), (z0_0, Blk.mp (m0.gSizes.map fun p => ((fun s : ByteArray => Value.string s) p.1, eI64 p.2))), (z0_1, Blk.mp (m0.gWords.map fun p => ((fun a => Value.agg (kcTApiCell a).toArray) p.1, eTApiWord p.2)))] ∧ k = [(6, y0)]) := by
  have hm := yes_of h0
  unfold mem_Mem_All at hm
  clear h0
  refine enterX htab Try.func14 rfl rfl rfl rfl rfl (fun C => ?_)
  refine wpD_sr ?_
  refine pu ?_
  refine ops_n2 ?_
  refine pu ?_
  refine ops_nt ?_
  refine wpD_seq ?_
  refine wpD_sr ?_
  refine pu ?_
  refine p_eqP htab rfl rfl rfl rfl rfl rfl rfl rfl rfl rfl ?_
  refine ops_nt ?_
  refine wpD_false rfl ?_
  refine wpD_skip ?_
  refine then_normal ?_
  refine wpD_seq ?_
  refine wpD_sr ?_
  iterate 3 refine pu ?_
  refine pL 0 ?_
  refine p_lenL htab rfl rfl rfl rfl rfl rfl rfl (by first | exact map_len | rfl) ?_
  refine pu ?_
  refine ops_nt ?_
  obtain ⟨y23, q23, ho23⟩ := yes_bind hm
  refine wpD_mid (Y := Z3) (fun z23 => (⟨[(3, .v (SL z23))], [(0, Blk.row 6 (y23.map eTMemHeld) (SL z23)), (o0, Blk.cells [.v (.map (some z0_0)), .v (.map (some z0_1)), .lst 2 (m0.gCells.map eTApiCell) c0_2] T0), (z0_0, Blk.mp (m0.gSizes.map fun p => ((fun s : ByteArray => Value.string s) p.1, eI64 p.2))), (z0_1, Blk.mp (m0.gWords.map fun p => ((fun a => Value.agg (kcTApiCell a).toArray) p.1, eTApiWord p.2)))], []⟩ : S)) ?_ ?_
  ·clear hm; have hm := yes_of q23
   refine wpD_block ?_
   obtain ⟨u24, hl24, hq24⟩ := yes_m hm
   refine loop_M (Y := Z3) hl24 (fun s24 z24 => (⟨[(0, .ptr o0 0), (3, .v (SL z24)), (12, .lst 2 (m0.gCells.map eTApiCell) c0_2), (13, .v (.int .i64 (m0.gCells.length : Int))), (14, .v (.int .i64 s24.2))], [(0, Blk.row 6 (s24.1.map eTMemHeld) (SL z24)), (o0, Blk.cells [.v (.map (some z0_0)), .v (.map (some z0_1)), .lst 2 (m0.gCells.map eTApiCell) c0_2] T0), (z0_0, Blk.mp (m0.gSizes.map fun p => ((fun s : ByteArray => Value.string s) p.1, eI64 p.2))), (z0_1, Blk.mp (m0.gWords.map fun p => ((fun a => Value.agg (kcTApiCell a).toArray) p.1, eTApiWord p.2)))], []⟩ : S)) ?_ ?_
   ·skip
    refine WkX.rowN (i := 3) 6 rfl (fun w40 => ?_)
    exact WkX.of w40 (WkS.perm (WkS.cons rfl (Wk.refl _) (WkS.cons rfl (Wk.refl _) (WkS.cons rfl (Wk.refl _) (WkS.cons rfl (Wk.refl _) (WkS.cons rfl (Wk.refl _) (WkS.nil)))))) Pf Pf)
   ·intro G24 s24 z24 hm
    refine wpD_sr ?_
    refine pu ?_
    refine ops_nt ?_
    refine wpD_seq ?_
    refine wpD_cond rfl (fun hc41 => ?_) (fun hc41 => ?_)
    ·replace hm := yes_t hc41 hm
     refine wpD_skip ?_
     refine then_normal ?_
     refine wpD_seq ?_
     refine wpD_block ?_
     refine wpD_sr ?_
     obtain ⟨x42, q42, hm⟩ := yes_bind hm
     refine p_elem htab rfl rfl rfl rfl rfl rfl rfl rfl rfl rfl (idx_nonneg q42) (idx_map q42) ?_
     refine p_loadEl (d := eTApiCell x42) htab rfl rfl rfl rfl rfl rfl rfl rfl ?_
     refine p_alloc htab rfl rfl rfl rfl rfl rfl rfl (fun b43 => ?_)
     refine pS4 (ds' := [.v (.string x42.gName), .v (.int .i64 x42.gAt)]) ?_
     refine ops_nt ?_
     refine wpD_draws 10 [] [[],[],[],[2],[2,3],[2,3,4],[],[2,3,4,5,6],[1,2,3,4,5,6,7],[1,2,3,4,5,6,7,8]] [0,1,2,3,4,5,6,7,8,9] [[],[],[],[2],[2,3],[2,3,4],[],[2,3,4,5,6],[1,2,3,4,5,6,7],[1,2,3,4,5,6,7,8],[0,1,2,3,4,5,6,7,8,9],[0,1,2,3,4,5,6,7,8,9,10]] (by kernel_rfl) (by kernel_rfl) (by kernel_rfl) (by rfl) (by rfl) (by kernel_rfl) ?_
     iterate 10 apply Exists.intro
     intro bs
     refine zep ?_
     refine z_eM rfl rfl (xm_load (d := eTApiCell x42) 4 htab rfl rfl rfl rfl rfl) rfl rfl rfl rfl rfl rfl ?_
     iterate 3 refine zep ?_
     refine z_eM rfl rfl (xm_load 1 htab rfl rfl rfl rfl rfl) rfl rfl rfl rfl rfl rfl ?_
     refine z_eM rfl rfl (xm_load (d := eTApiCell x42) 4 htab rfl rfl rfl rfl rfl) rfl rfl rfl rfl rfl rfl ?_
     refine z_eM rfl rfl ((xm_lookup (l := m0.gWords) (f := (fun a => Value.agg (kcTApiCell a).toArray)) (e := eTApiWord) (kk := x42) (z := (⟨false, (0 : Int), (⟨ByteArray.empty, (0 : Int)⟩ : TApiCell)⟩ : TApiWord)) (dr := eTApiWord (⟨(mgetD m0.gWords x42 (⟨false, (0 : Int), (⟨ByteArray.empty, (0 : Int)⟩ : TApiCell)⟩ : TApiWord)).gPtr, (mgetD m0.gWords x42 (⟨false, (0 : Int), (⟨ByteArray.empty, (0 : Int)⟩ : TApiCell)⟩ : TApiWord)).gN, ((mgetD m0.gWords x42 (⟨false, (0 : Int), (⟨ByteArray.empty, (0 : Int)⟩ : TApiCell)⟩ : TApiWord)).gTo)⟩ : TApiWord)) 3 htab rfl rfl rfl rfl rfl rfl rfl mk62 (fun H v h => rep_va_inv (us := kcTApiCell x42) h) mz62 mr62 rfl)) rfl rfl rfl rfl rfl rfl ?_
     refine z_e rfl rfl (x_build (r := [.v (.string x42.gName), .v (.int .i64 x42.gAt), .v (.bool ((mgetD m0.gWords x42 (⟨false, (0 : Int), (⟨ByteArray.empty, (0 : Int)⟩ : TApiCell)⟩ : TApiWord)).gPtr)), .v (.int .i64 ((mgetD m0.gWords x42 (⟨false, (0 : Int), (⟨ByteArray.empty, (0 : Int)⟩ : TApiCell)⟩ : TApiWord)).gN)), .v (.string (((mgetD m0.gWords x42 (⟨false, (0 : Int), (⟨ByteArray.empty, (0 : Int)⟩ : TApiCell)⟩ : TApiWord)).gTo).gName)), .v (.int .i64 (((mgetD m0.gWords x42 (⟨false, (0 : Int), (⟨ByteArray.empty, (0 : Int)⟩ : TApiCell)⟩ : TApiWord)).gTo).gAt))]) htab rfl rfl rfl rfl rfl rfl) rfl rfl rfl rfl rfl rfl ?_
     refine z_E rfl rfl (ExE.wk (x_lit htab rfl rfl rfl rfl rfl rfl rfl rfl rfl rfl rfl) (show Wk _ (.lst 6 (([(⟨x42, (⟨(mgetD m0.gWords x42 (⟨false, (0 : Int), (⟨ByteArray.empty, (0 : Int)⟩ : TApiCell)⟩ : TApiWord)).gPtr, (mgetD m0.gWords x42 (⟨false, (0 : Int), (⟨ByteArray.empty, (0 : Int)⟩ : TApiCell)⟩ : TApiWord)).gN, ((mgetD m0.gWords x42 (⟨false, (0 : Int), (⟨ByteArray.empty, (0 : Int)⟩ : TApiCell)⟩ : TApiWord)).gTo)⟩ : TApiWord)⟩ : TMemHeld)] : List TMemHeld).map eTMemHeld) .full) from Wk.lst0 (.cons (WkC.refl _) (.nil)))) rfl rfl rfl rfl rfl rfl ?_
     refine z_nil rfl rfl (fun e he => by simp [isAl] at he) ?_
     obtain ⟨x44, q44, hm⟩ := yes_bind hm
     refine p_appR2 0 htab rfl rfl rfl rfl rfl rfl rfl rfl rfl rfl rfl rfl rfl rfl rfl rfl (app_bound q44) (app_map q44) (fun v44 => ?_)
     refine pu ?_
     refine ops_nil ?_
     refine block_normal ?_
     refine then_normal ?_
     refine wpD_region ?_
     refine pu ?_
     refine pu ?_
     refine ops_nil ?_
     refine then_normal ⟨_, lp_next hm, ?_⟩
     exact WkX.of v44 (WkS.perm (WkS.cons rfl (Wk.refl _) (WkS.cons rfl (Wk.refl _) (WkS.cons rfl (Wk.refl _) (WkS.cons rfl (Wk.refl _) (WkS.cons rfl (Wk.refl _) (WkS.nil)))))) Pf Pf)
    ·replace hm := yes_f hc41 hm
     refine wpD_exit ?_
     refine then_exit ?_
     have e24 := lp_done hm; subst e24; clear hm; have hm := hq24
     refine then_exit ?_
     refine block_hit ?_
     have e23 := yes_eq hm; subst e23
     refine ⟨rfl, ?_⟩
     exact WkX.of z24 (WkS.perm (WkS.cons rfl (Wk.refl _) (WkS.nil)) Pf Pf)
  ·intro s23 hw23; clear hm; have hm := ho23; clear q23 ho23
   refine then_normal ?_
   refine wpD_wkX hw23 (fun z23 => ?_)
   refine wpD_sr ?_
   refine pu ?_
   obtain ⟨x45, q45, hm⟩ := yes_bind hm
   refine pG (sortH_ok y23 z23 (need_ok q45)) Wl Pf Pf ?_
   rintro _ _ _ ⟨rfl, rfl, rfl⟩
   refine ops_n2 ?_
   refine pu ?_
   refine pu ?_
   refine ops_nt ?_
   refine wpD_ret ?_
   have er46 := yes_eq hm; subst er46
   refine retX.wk (WkS.frz 0 rfl rfl) ?_
   refine retX.wk (WkS.tld 2 0 rfl rfl) ?_
   refine retX.wk (WkS.tld 3 0 rfl rfl) ?_
   refine retX.wk (WkS.tld 30 0 rfl rfl) ?_
   refine retX.wk (WkS.tld 32 0 rfl rfl) ?_
   refine retX.wk (WkS.drop 0 rfl) ?_
   refine rP (t' := [(2, .lst 6 ((sortH y23).map eTMemHeld) (.cur (SL z23)))]) [0,0,0] [0] 3 (wC wN) (lT lN) ?_
   exact ⟨(SL z23), rfl, rfl, rfl⟩
noncomputable def mem_Mem_Place (m0 : TMemMem) (a1 : ByteArray) (a2 : Int) : Option (TApiCell × Int) :=
  (bif ((mgetD m0.gSizes a1 (0 : Int)) == (0 : Int)) then some ((⟨ByteArray.empty, (0 : Int)⟩ : TApiCell), (7 : Int)) else (Option.bind (α := Bool) (bif (decide (a2 < (0 : Int))) then some true else some (decide ((mgetD m0.gSizes a1 (0 : Int)) ≤ a2))) fun y11 => (bif y11 then some ((⟨ByteArray.empty, (0 : Int)⟩ : TApiCell), (11 : Int)) else some ((⟨a1, a2⟩ : TApiCell), (0 : Int)))))
set_option maxRecDepth 100000 in
set_option maxHeartbeats 2000000 in
theorem mem_Mem_Place_ok (m0 : TMemMem) (a1 : ByteArray) (a2 : Int) (o0 : Nat) (T0 : TypeId) (z0_0 : Nat) (z0_1 : Nat) (c0_2 : Cap) (r : TApiCell × Int) (h0 : mem_Mem_Place m0 a1 a2 = some r) : CallsD Try.prog 12 [.ptr o0 0, .v (.string a1), .v (.int .i64 a2)] [(o0, Blk.cells [.v (.map (some z0_0)), .v (.map (some z0_1)), .lst 2 (m0.gCells.map eTApiCell) c0_2] T0), (z0_0, Blk.mp (m0.gSizes.map fun p => ((fun s : ByteArray => Value.string s) p.1, eI64 p.2))), (z0_1, Blk.mp (m0.gWords.map fun p => ((fun a => Value.agg (kcTApiCell a).toArray) p.1, eTApiWord p.2)))] [] (fun d h k => d = .tup [eTApiCell r.1, .v (.int .i64 r.2)] ∧ h = [(o0, Blk.cells [.v (.map (some z0_0)), .v (.map (some z0_1)), .lst 2 (m0.gCells.map eTApiCell) c0_2] T0), (z0_0, Blk.mp (m0.gSizes.map fun p => ((fun s : ByteArray => Value.string s) p.1, eI64 p.2))), (z0_1, Blk.mp (m0.gWords.map fun p => ((fun a => Value.agg (kcTApiCell a).toArray) p.1, eTApiWord p.2)))] ∧ k = []) := by
  have hm := yes_of h0
  unfold mem_Mem_Place at hm
  clear h0
  refine enterX htab Try.func12 rfl rfl rfl rfl rfl (fun C => ?_)
  refine wpD_sr ?_
  refine p_alloc htab rfl rfl rfl rfl rfl rfl rfl (fun b1 => ?_)
  refine pu ?_
  refine ops_nt ?_
  refine wpD_seq ?_
  refine wpD_sr ?_
  refine pu ?_
  refine p_eqP htab rfl rfl rfl rfl rfl rfl rfl rfl rfl rfl ?_
  refine ops_nt ?_
  refine wpD_false rfl ?_
  refine wpD_skip ?_
  refine then_normal ?_
  refine wpD_sr ?_
  iterate 3 refine pu ?_
  refine pL 0 ?_
  refine pu ?_
  refine p_lookup (l := m0.gSizes) (f := (fun s : ByteArray => Value.string s)) (e := eI64) (kk := a1) (z := (0 : Int)) (dr := .v (.int .i64 (mgetD m0.gSizes a1 (0 : Int)))) 1 htab rfl rfl rfl rfl rfl rfl rfl rfl rfl rfl mk61 (fun H v h => rep_v_inv h) mz61 mr61 rfl ?_
  refine pu ?_
  refine ops_nt ?_
  refine wpD_seq ?_
  refine wpD_block ?_
  refine wpD_sr ?_
  iterate 3 refine pu ?_
  refine ops_nt ?_
  refine wpD_cond rfl (fun hc8 => ?_) (fun hc8 => ?_)
  ·replace hm := yes_t hc8 hm
   refine wpD_sr ?_
   refine p_build (r := [.v (.string ByteArray.empty), .v (.int .i64 (0 : Int))]) htab rfl rfl rfl rfl rfl rfl rfl rfl rfl ?_
   refine pS3 (ds' := [.v (.string ByteArray.empty), .v (.int .i64 (0 : Int))]) ?_
   refine pu ?_
   refine ops_nt ?_
   refine wpD_ret ?_
   refine block_ret ?_
   refine then_ret ?_
   have er9 := yes_eq hm; subst er9
   refine rP (t' := [(6, .ptr b1 0), (7, .v (.int .i64 (7 : Int)))]) [0,0,0,0] [] 3 (wC (wC wN)) (lC 3 (lT lN)) ?_
   exact ⟨rfl, rfl, rfl⟩
  ·replace hm := yes_f hc8 hm
   refine wpD_seq ?_
   obtain ⟨y11, q11, ho11⟩ := yes_bind hm
   refine wpD_mid (Y := Unit) (fun z11 => (⟨[(1, .v (.string a1)), (2, .v (.int .i64 a2)), (6, .ptr b1 0), (22, .v (.bool y11))], [(o0, Blk.cells [.v (.map (some z0_0)), .v (.map (some z0_1)), .lst 2 (m0.gCells.map eTApiCell) c0_2] T0), (z0_0, Blk.mp (m0.gSizes.map fun p => ((fun s : ByteArray => Value.string s) p.1, eI64 p.2))), (z0_1, Blk.mp (m0.gWords.map fun p => ((fun a => Value.agg (kcTApiCell a).toArray) p.1, eTApiWord p.2))), (b1, Blk.cells [.v (.string ByteArray.empty), .v (.int .i64 (0 : Int))] 35)], []⟩ : S)) ?_ ?_
   ·clear hm; have hm := yes_of q11
    refine wpD_region ?_
    iterate 3 refine pu ?_
    refine p_split (i := 25) rfl (fun hg12 => ?_) (fun hg12 => ?_)
    ·replace hm := yes_t hg12 hm
     iterate 3 refine pK ?_
     refine p_pickT rfl rfl rfl rfl rfl rfl ?_
     refine pu ?_
     refine ops_nil ?_
     have e11 := yes_eq hm; subst e11
     refine ⟨rfl, ?_⟩
     exact WkX.of () (WkS.perm (WkS.cons rfl (Wk.refl _) (WkS.cons rfl (Wk.refl _) (WkS.cons rfl (Wk.refl _) (WkS.cons rfl (Wk.refl _) (WkS.nil))))) Pf Pf)
    ·replace hm := yes_f hg12 hm
     iterate 3 refine pu ?_
     refine p_pickF rfl rfl rfl rfl rfl rfl ?_
     refine pu ?_
     refine ops_nil ?_
     have e11 := yes_eq hm; subst e11
     refine ⟨rfl, ?_⟩
     exact WkX.of () (WkS.perm (WkS.cons rfl (Wk.refl _) (WkS.cons rfl (Wk.refl _) (WkS.cons rfl (Wk.refl _) (WkS.cons rfl (Wk.refl _) (WkS.nil))))) Pf Pf)
   ·intro s11 hw11; clear hm; have hm := ho11; clear q11 ho11
    refine then_normal ?_
    refine wpD_wkX hw11 (fun z11 => ?_)
    refine wpD_cond rfl (fun hc14 => ?_) (fun hc14 => ?_)
    ·replace hm := yes_t hc14 hm
     refine wpD_sr ?_
     refine p_build (r := [.v (.string ByteArray.empty), .v (.int .i64 (0 : Int))]) htab rfl rfl rfl rfl rfl rfl rfl rfl rfl ?_
     refine pS3 (ds' := [.v (.string ByteArray.empty), .v (.int .i64 (0 : Int))]) ?_
     refine pu ?_
     refine ops_nt ?_
     refine wpD_ret ?_
     refine block_ret ?_
     refine then_ret ?_
     have er15 := yes_eq hm; subst er15
     refine rP (t' := [(6, .ptr b1 0), (7, .v (.int .i64 (11 : Int)))]) [0,0,0,0] [] 3 (wC (wC wN)) (lC 3 (lT lN)) ?_
     exact ⟨rfl, rfl, rfl⟩
    ·replace hm := yes_f hc14 hm
     refine wpD_skip ?_
     refine block_normal ?_
     refine then_normal ?_
     refine wpD_sr ?_
     refine pu ?_
     refine pu ?_
     refine p_build (r := [.v (.string a1), .v (.int .i64 a2)]) htab rfl rfl rfl rfl rfl rfl rfl rfl rfl ?_
     refine pS3 (ds' := [.v (.string a1), .v (.int .i64 a2)]) ?_
     refine pu ?_
     refine ops_nt ?_
     refine wpD_ret ?_
     have er16 := yes_eq hm; subst er16
     refine rP (t' := [(6, .ptr b1 0), (7, .v (.int .i64 (0 : Int)))]) [0,0,0,0] [] 3 (wC (wC wN)) (lC 3 (lT lN)) ?_
     exact ⟨rfl, rfl, rfl⟩
noncomputable def mem_Mem_known (m0 : TMemMem) (a1 : TApiCell) : Option (Int) :=
  (bif (decide (a1.gName = (ByteArray.mk #[]))) then some (12 : Int) else ((mem_Mem_Place m0 a1.gName a1.gAt).bind fun x5 => some x5.2))
set_option maxRecDepth 100000 in
set_option maxHeartbeats 2000000 in
theorem mem_Mem_known_ok (m0 : TMemMem) (a1 : TApiCell) (o0 : Nat) (T0 : TypeId) (z0_0 : Nat) (z0_1 : Nat) (c0_2 : Cap) (r : Int) (h0 : mem_Mem_known m0 a1 = some r) : CallsD Try.prog 18 [.ptr o0 0, eTApiCell a1] [(o0, Blk.cells [.v (.map (some z0_0)), .v (.map (some z0_1)), .lst 2 (m0.gCells.map eTApiCell) c0_2] T0), (z0_0, Blk.mp (m0.gSizes.map fun p => ((fun s : ByteArray => Value.string s) p.1, eI64 p.2))), (z0_1, Blk.mp (m0.gWords.map fun p => ((fun a => Value.agg (kcTApiCell a).toArray) p.1, eTApiWord p.2)))] [] (fun d h k => d = .v (.int .i64 r) ∧ h = [(o0, Blk.cells [.v (.map (some z0_0)), .v (.map (some z0_1)), .lst 2 (m0.gCells.map eTApiCell) c0_2] T0), (z0_0, Blk.mp (m0.gSizes.map fun p => ((fun s : ByteArray => Value.string s) p.1, eI64 p.2))), (z0_1, Blk.mp (m0.gWords.map fun p => ((fun a => Value.agg (kcTApiCell a).toArray) p.1, eTApiWord p.2)))] ∧ k = []) := by
  have hm := yes_of h0
  unfold mem_Mem_known at hm
  clear h0
  refine enterX htab Try.func18 rfl rfl rfl rfl rfl (fun C => ?_)
  refine wpD_sr ?_
  refine p_box rfl rfl rfl rfl rfl rfl rfl (fun b1 => ?_)
  refine pu ?_
  refine ops_nt ?_
  refine wpD_seq ?_
  refine wpD_sr ?_
  refine pu ?_
  refine p_eqP htab rfl rfl rfl rfl rfl rfl rfl rfl rfl rfl ?_
  refine pu ?_
  refine pu ?_
  refine pL 3 ?_
  refine pu ?_
  refine p_pickT rfl rfl rfl rfl rfl rfl ?_
  refine ops_nt ?_
  refine wpD_cond rfl (fun hc3 => ?_) (fun hc3 => ?_)
  ·replace hm := yes_t hc3 hm
   refine wpD_sr ?_
   refine pu ?_
   refine ops_nt ?_
   refine wpD_ret ?_
   refine then_ret ?_
   have er4 := yes_eq hm; subst er4
   refine rP (t' := [(4, .v (.int .i64 (12 : Int)))]) [0,0,0] [] 3 (wC wN) (lT lN) ?_
   exact ⟨rfl, rfl, rfl⟩
  ·replace hm := yes_f hc3 hm
   refine wpD_skip ?_
   refine then_normal ?_
   refine wpD_sr ?_
   refine pu ?_
   refine pu ?_
   refine pL 3 ?_
   refine pu ?_
   refine pL 3 ?_
   obtain ⟨x5, q5, hm⟩ := yes_bind hm
   refine pG (mem_Mem_Place_ok m0 a1.gName a1.gAt o0 T0 z0_0 z0_1 c0_2 x5 q5) Wl Pf Pf ?_
   rintro _ _ _ ⟨rfl, rfl, rfl⟩
   iterate 3 refine pu ?_
   refine p_alloc htab rfl rfl rfl rfl rfl rfl rfl (fun b6 => ?_)
   refine pS4 (ds' := [.v (.string x5.1.gName), .v (.int .i64 x5.1.gAt)]) ?_
   refine pu ?_
   refine ops_n2 ?_
   refine pu ?_
   refine pu ?_
   refine ops_nt ?_
   refine wpD_ret ?_
   have er7 := yes_eq hm; subst er7
   refine rP (t' := [(4, .v (.int .i64 x5.2))]) [0,0,0] [] 3 (wC wN) (lT lN) ?_
   exact ⟨rfl, rfl, rfl⟩
noncomputable def mem_Mem_Set (m0 : TMemMem) (a1 : TApiCell) (a2 : TApiWord) : Option (Int × TMemMem) :=
  ((mem_Mem_known m0 a1).bind fun x3 => (bif (x3 != (0 : Int)) then some (x3, m0) else (bif (!(((mgetD m0.gWords a1 (⟨false, (0 : Int), (⟨ByteArray.empty, (0 : Int)⟩ : TApiCell)⟩ : TApiWord)).gPtr) == a2.gPtr)) then some ((9 : Int), m0) else some ((0 : Int), (⟨m0.gSizes, (mput m0.gWords a1 a2), m0.gCells⟩ : TMemMem)))))
set_option maxRecDepth 100000 in
set_option maxHeartbeats 2000000 in
theorem mem_Mem_Set_ok (m0 : TMemMem) (a1 : TApiCell) (a2 : TApiWord) (o0 : Nat) (T0 : TypeId) (z0_0 : Nat) (z0_1 : Nat) (c0_2 : Cap) (r : Int × TMemMem) (h0 : mem_Mem_Set m0 a1 a2 = some r) : CallsD Try.prog 10 [.ptr o0 0, eTApiCell a1, eTApiWord a2] [(o0, Blk.cells [.v (.map (some z0_0)), .v (.map (some z0_1)), .lst 2 (m0.gCells.map eTApiCell) c0_2] T0), (z0_0, Blk.mp (m0.gSizes.map fun p => ((fun s : ByteArray => Value.string s) p.1, eI64 p.2))), (z0_1, Blk.mp (m0.gWords.map fun p => ((fun a => Value.agg (kcTApiCell a).toArray) p.1, eTApiWord p.2)))] [] (fun d h k => ∃ y0 y1, d = .v (.int .i64 r.1) ∧ h = [(o0, Blk.cells [.v (.map (some y0)), .v (.map (some y1)), .lst 2 (r.2.gCells.map eTApiCell) c0_2] T0), (y0, Blk.mp (r.2.gSizes.map fun p => ((fun s : ByteArray => Value.string s) p.1, eI64 p.2))), (y1, Blk.mp (r.2.gWords.map fun p => ((fun a => Value.agg (kcTApiCell a).toArray) p.1, eTApiWord p.2)))] ∧ k = []) := by
  have hm := yes_of h0
  unfold mem_Mem_Set at hm
  clear h0
  refine enterX htab Try.func10 rfl rfl rfl rfl rfl (fun C => ?_)
  refine wpD_sr ?_
  refine p_box rfl rfl rfl rfl rfl rfl rfl (fun b1 => ?_)
  refine p_box rfl rfl rfl rfl rfl rfl rfl (fun b2 => ?_)
  refine pu ?_
  refine ops_nt ?_
  refine wpD_seq ?_
  refine wpD_sr ?_
  refine pu ?_
  refine p_load (d := eTApiCell a1) 3 htab rfl rfl rfl rfl rfl rfl rfl rfl ?_
  obtain ⟨x3, q3, hm⟩ := yes_bind hm
  refine pG (mem_Mem_known_ok m0 a1 o0 T0 z0_0 z0_1 c0_2 x3 q3) Wl Pf Pf ?_
  rintro _ _ _ ⟨rfl, rfl, rfl⟩
  refine pu ?_
  refine ops_n2 ?_
  refine pu ?_
  refine pu ?_
  refine ops_nt ?_
  refine wpD_cond rfl (fun hc5 => ?_) (fun hc5 => ?_)
  ·replace hm := yes_t hc5 hm
   refine wpD_sr ?_
   refine pu ?_
   refine pu ?_
   refine ops_nt ?_
   refine wpD_ret ?_
   refine then_ret ?_
   have er6 := yes_eq hm; subst er6
   refine rP (t' := [(6, .v (.int .i64 x3))]) [0,0,0] [] 3 (wC wN) (lT lN) ?_
   exact ⟨z0_0, z0_1, rfl, rfl, rfl⟩
  ·replace hm := yes_f hc5 hm
   refine wpD_skip ?_
   refine then_normal ?_
   refine wpD_seq ?_
   refine wpD_seq ?_
   refine wpD_draws 9 [] [[],[0],[0,1],[0,1,2],[],[0,1,2,3,4],[0,1,2,3,4,5],[],[7]] [0,1,2,3,4,5,7] [[],[0],[0,1],[0,1,2],[],[0,1,2,3,4],[0,1,2,3,4,5],[],[7],[0,1,2,3,4,5,6,7,8]] (by kernel_rfl) (by kernel_rfl) (by kernel_rfl) (by rfl) (by rfl) (by kernel_rfl) ?_
   iterate 7 apply Exists.intro
   intro bs
   iterate 3 refine zep ?_
   refine z_eM rfl rfl (xm_load 0 htab rfl rfl rfl rfl rfl) rfl rfl rfl rfl rfl rfl ?_
   refine z_eM rfl rfl (xm_load (d := eTApiCell a1) 3 htab rfl rfl rfl rfl rfl) rfl rfl rfl rfl rfl rfl ?_
   refine z_eM rfl rfl ((xm_lookup (l := m0.gWords) (f := (fun a => Value.agg (kcTApiCell a).toArray)) (e := eTApiWord) (kk := a1) (z := (⟨false, (0 : Int), (⟨ByteArray.empty, (0 : Int)⟩ : TApiCell)⟩ : TApiWord)) (dr := eTApiWord (⟨(mgetD m0.gWords a1 (⟨false, (0 : Int), (⟨ByteArray.empty, (0 : Int)⟩ : TApiCell)⟩ : TApiWord)).gPtr, (mgetD m0.gWords a1 (⟨false, (0 : Int), (⟨ByteArray.empty, (0 : Int)⟩ : TApiCell)⟩ : TApiWord)).gN, ((mgetD m0.gWords a1 (⟨false, (0 : Int), (⟨ByteArray.empty, (0 : Int)⟩ : TApiCell)⟩ : TApiWord)).gTo)⟩ : TApiWord)) 2 htab rfl rfl rfl rfl rfl rfl rfl mk62 (fun H v h => rep_va_inv (us := kcTApiCell a1) h) mz62 mr62 rfl)) rfl rfl rfl rfl rfl rfl ?_
   refine zqp ?_
   refine zep ?_
   refine z_qM rfl rfl (xm_load 4 htab rfl rfl rfl rfl rfl) rfl rfl rfl rfl rfl rfl ?_
   refine z_nil rfl rfl (fun e he => by simp [isAl] at he) ?_
   refine pu ?_
   refine ops_nt ?_
   refine wpD_cond rfl (fun hc8 => ?_) (fun hc8 => ?_)
   ·replace hm := yes_t hc8 hm
    refine wpD_sr ?_
    refine pu ?_
    refine ops_nt ?_
    refine wpD_ret ?_
    refine then_ret ?_
    have er9 := yes_eq hm; subst er9
    refine rP (t' := [(6, .v (.int .i64 (9 : Int)))]) [0,0,0] [] 3 (wC wN) (lT lN) ?_
    exact ⟨z0_0, z0_1, rfl, rfl, rfl⟩
   ·replace hm := yes_f hc8 hm
    refine wpD_skip ?_
    refine then_normal ?_
    refine wpD_seq ?_
    refine wpD_draws 6 [] [[],[0],[0,1],[0,1,2],[],[]] [0,1,2,3,4,5] [[],[0],[0,1],[0,1,2],[],[],[0,1,2,3,4,5]] (by kernel_rfl) (by kernel_rfl) (by kernel_rfl) (by rfl) (by rfl) (by kernel_rfl) ?_
    iterate 6 apply Exists.intro
    intro bs
    iterate 3 refine zep ?_
    refine z_eM rfl rfl (xm_load 0 htab rfl rfl rfl rfl rfl) rfl rfl rfl rfl rfl rfl ?_
    refine z_eM rfl rfl (xm_load (d := eTApiCell a1) 3 htab rfl rfl rfl rfl rfl) rfl rfl rfl rfl rfl rfl ?_
    refine z_eM rfl rfl (xm_load (d := eTApiWord a2) 4 htab rfl rfl rfl rfl rfl) rfl rfl rfl rfl rfl rfl ?_
    refine z_nil rfl rfl (fun e he => by simp [isAl] at he) ?_
    refine p_mapUpdate (l := m0.gWords) (f := (fun a => Value.agg (kcTApiCell a).toArray)) (e := eTApiWord) (kk := a1) (vv := a2) (h' := [(o0, Blk.cells [.v (.map (some z0_0)), .v (.map (some z0_1)), .lst 2 (m0.gCells.map eTApiCell) c0_2] T0), (z0_0, Blk.mp (m0.gSizes.map fun p => ((fun s : ByteArray => Value.string s) p.1, eI64 p.2))), (z0_1, Blk.mp ((mput m0.gWords a1 a2).map fun p => ((fun a => Value.agg (kcTApiCell a).toArray) p.1, eTApiWord p.2))), (b1, Blk.cells [.v (.string a1.gName), .v (.int .i64 a1.gAt)] 35), (b2, Blk.cells [.v (.bool a2.gPtr), .v (.int .i64 a2.gN), .v (.string a2.gTo.gName), .v (.int .i64 a2.gTo.gAt)] 37)]) 2 htab rfl rfl rfl rfl rfl rfl rfl rfl rfl rfl mk62 (fun H v h => rep_va_inv (us := kcTApiCell a1) h) (Wk.refl _) rfl ?_
    refine ops_n2 ?_
    refine pu ?_
    refine ops_nt ?_
    refine wpD_ret ?_
    have er10 := yes_eq hm; subst er10
    refine rP (t' := [(6, .v (.int .i64 (0 : Int)))]) [0,0,0] [] 3 (wC wN) (lT lN) ?_
    exact ⟨z0_0, z0_1, rfl, rfl, rfl⟩
noncomputable def l19_lives : Option (Bool) :=
  ((mem_New (⟨([(⟨(ByteArray.mk #[97]), false, (2 : Int), (0 : Int)⟩ : TApiGlobal)] : List TApiGlobal), []⟩ : TApiProgram)).bind fun x5 => ((mem_Mem_All x5).bind fun x7 => (bif ((x7.length : Int) == (2 : Int)) then ((mem_Mem_Set x5 (⟨(ByteArray.mk #[97]), (1 : Int)⟩ : TApiCell) (⟨false, (7 : Int), (⟨ByteArray.empty, (0 : Int)⟩ : TApiCell)⟩ : TApiWord)).bind fun x11 => (bif (x11.1 == (0 : Int)) then ((mem_Mem_All x11.2).bind fun x14 => ((idx x14 (1 : Int)).bind fun x15 => some (x15.gW.gN == (7 : Int)))) else some false)) else some false)))
set_option maxRecDepth 100000 in
set_option maxHeartbeats 2000000 in
theorem l19_lives_ok  (r : Bool) (h0 : l19_lives = some r) : CallsD Try.prog 5 [] [] [] (fun d h k => d = .v (.bool r) ∧ h = [] ∧ k = []) := by
  have hm := yes_of h0
  unfold l19_lives at hm
  clear h0
  refine enterX htab Try.func5 rfl rfl rfl rfl rfl (fun C => ?_)
  refine wpD_sr ?_
  refine pu ?_
  refine ops_n2 ?_
  refine p_build (r := [.v (.string (ByteArray.mk #[97])), .v (.bool false), .v (.int .i64 (2 : Int)), .v (.int .i64 (0 : Int))]) htab rfl rfl rfl rfl rfl rfl rfl rfl rfl ?_
  refine p_lit htab rfl rfl rfl rfl rfl rfl rfl rfl rfl rfl rfl rfl rfl rfl ?_
  refine p_eq (i := 3) (d' := .lst 4 (([(⟨(ByteArray.mk #[97]), false, (2 : Int), (0 : Int)⟩ : TApiGlobal)] : List TApiGlobal).map eTApiGlobal) .full) rfl (Wk.lst0 (.cons (WkC.refl _) (.nil))) ?_
  refine p_build (r := [.lst 4 (([(⟨(ByteArray.mk #[97]), false, (2 : Int), (0 : Int)⟩ : TApiGlobal)] : List TApiGlobal).map eTApiGlobal) .full, .lst 1 [] .full]) htab rfl rfl rfl rfl rfl rfl rfl rfl rfl ?_
  obtain ⟨x5, q5, hm⟩ := yes_bind hm
  refine p_callG (mem_New_ok (⟨([(⟨(ByteArray.mk #[97]), false, (2 : Int), (0 : Int)⟩ : TApiGlobal)] : List TApiGlobal), []⟩ : TApiProgram) x5 q5) rfl rfl rfl rfl rfl (WkL.cons (Wk.agg (rO (WkR.cons (WkC.nil) rfl WkR.nil))) Wl) Pf Pf ?_
  rintro _ _ _ ⟨w1, w2, w3, w4, rfl, rfl, rfl⟩
  refine pu ?_
  refine ops_n2 ?_
  refine pu ?_
  refine p_eqP htab rfl rfl rfl rfl rfl rfl rfl rfl rfl rfl ?_
  refine pu ?_
  refine pu ?_
  obtain ⟨x7, q7, hm⟩ := yes_bind hm
  refine pG (mem_Mem_All_ok x5 w1 64 w2 w3 (.cur w4) x7 q7) Wl Pf Pf ?_
  rintro _ _ _ ⟨w6, rfl, rfl, rfl⟩
  refine p_lenL htab rfl rfl rfl rfl rfl rfl rfl (by first | exact map_len | rfl) ?_
  refine pu ?_
  refine p_pickT rfl rfl rfl rfl rfl rfl ?_
  refine pu ?_
  refine p_split (i := 14) rfl (fun hg8 => ?_) (fun hg8 => ?_)
  ·replace hm := yes_t hg8 hm
   refine pu ?_
   refine p_build (r := [.v (.string (ByteArray.mk #[97])), .v (.int .i64 (1 : Int))]) htab rfl rfl rfl rfl rfl rfl rfl rfl rfl ?_
   refine p_build (r := [.v (.bool false), .v (.int .i64 (7 : Int)), .v (.string ByteArray.empty), .v (.int .i64 (0 : Int))]) htab rfl rfl rfl rfl rfl rfl rfl rfl rfl ?_
   obtain ⟨x11, q11, hm⟩ := yes_bind hm
   refine pG (mem_Mem_Set_ok x5 (⟨(ByteArray.mk #[97]), (1 : Int)⟩ : TApiCell) (⟨false, (7 : Int), (⟨ByteArray.empty, (0 : Int)⟩ : TApiCell)⟩ : TApiWord) w1 64 w2 w3 (.cur w4) x11 q11) Wl Pf Pf ?_
   rintro _ _ _ ⟨w9, w10, rfl, rfl, rfl⟩
   refine pu ?_
   refine p_pickT rfl rfl rfl rfl rfl rfl ?_
   refine pu ?_
   refine p_split (i := 21) rfl (fun hg12 => ?_) (fun hg12 => ?_)
   ·replace hm := yes_t hg12 hm
    refine pu ?_
    obtain ⟨x14, q14, hm⟩ := yes_bind hm
    refine pG (mem_Mem_All_ok x11.2 w1 64 w9 w10 (.cur w4) x14 q14) Wl Pf Pf ?_
    rintro _ _ _ ⟨w13, rfl, rfl, rfl⟩
    obtain ⟨x15, q15, hm⟩ := yes_bind hm
    refine p_elem htab rfl rfl rfl rfl rfl rfl rfl rfl rfl rfl (idx_nonneg q15) (idx_map q15) ?_
    refine pu ?_
    refine pu ?_
    refine p_loadEl htab rfl rfl rfl rfl rfl rfl rfl rfl ?_
    refine pu ?_
    refine p_pickT rfl rfl rfl rfl rfl rfl ?_
    refine pu ?_
    refine ops_nt ?_
    refine wpD_ret ?_
    have er16 := yes_eq hm; subst er16
    refine rP (t' := [(0, .v (.bool (x15.gW.gN == (7 : Int))))]) [] [] 0 (wC wN) (lT lN) ?_
    exact ⟨rfl, rfl, rfl⟩
   ·replace hm := yes_f hg12 hm
    iterate 7 refine pK ?_
    refine p_pickF rfl rfl rfl rfl rfl rfl ?_
    refine pu ?_
    refine ops_nt ?_
    refine wpD_ret ?_
    have er17 := yes_eq hm; subst er17
    refine rP (t' := [(0, .v (.bool false))]) [] [] 0 (wC wN) (lT lN) ?_
    exact ⟨rfl, rfl, rfl⟩
  ·replace hm := yes_f hg8 hm
   iterate 5 refine pK ?_
   refine p_pickF rfl rfl rfl rfl rfl rfl ?_
   refine pu ?_
   iterate 7 refine pK ?_
   refine p_pickF rfl rfl rfl rfl rfl rfl ?_
   refine pu ?_
   refine ops_nt ?_
   refine wpD_ret ?_
   have er18 := yes_eq hm; subst er18
   refine rP (t' := [(0, .v (.bool false))]) [] [] 0 (wC wN) (lT lN) ?_
   exact ⟨rfl, rfl, rfl⟩
noncomputable def r18_Global (a0 : TApiProgram) (a1 : ByteArray) : Option (Int) :=
  (Option.bind (α := (Unit) ⊕ (Int)) (loopM (fun (s16 : Int) => (bif (decide (s16 < (a0.gGlobals.length : Int))) then ((idx a0.gGlobals s16).bind fun x26 => (bif (decide (x26.gName = a1)) then some (.done (.inr s16)) else some (.next (IntKind.i64.wrap (s16 + (1 : Int)))))) else some (.done (.inl ())))) (0 : Int)) (Sum.elim (fun y15 => some (-1 : Int)) (fun r => some r)))
set_option maxRecDepth 100000 in
set_option maxHeartbeats 2000000 in
theorem r18_Global_ok (a0 : TApiProgram) (a1 : ByteArray) (r : Int) (h0 : r18_Global a0 a1 = some r) : CallsD Try.prog 16 [eTApiProgram a0, .v (.string a1)] [] [] (fun d h k => d = .v (.int .i64 r) ∧ h = [] ∧ k = []) := by
  have hm := yes_of h0
  unfold r18_Global at hm
  clear h0
  refine enterX htab Try.func16 rfl rfl rfl rfl rfl (fun C => ?_)
  refine wpD_sr ?_
  refine p_box rfl rfl rfl rfl rfl rfl rfl (fun b1 => ?_)
  refine pu ?_
  refine ops_nt ?_
  refine wpD_seq ?_
  refine wpD_sr ?_
  refine pu ?_
  refine ops_nt ?_
  obtain ⟨x15, q15, ho15⟩ := yes_bind hm
  refine wpD_midX (τ := Unit) (Y := Unit) (fun y15 z15 => (⟨[], [], []⟩ : S)) x15 ?_ ?_
  ·clear hm; have hm := yes_of q15
   refine wpD_block ?_
   obtain ⟨u16, hl16, hq16⟩ := yes_m hm
   refine loop_M (Y := Unit) hl16 (fun s16 z16 => (⟨[(1, .v (.string a1)), (2, .ptr b1 0), (5, .v (.int .i64 s16))], [(b1, Blk.cells [.lst 4 (a0.gGlobals.map eTApiGlobal) .no, .lst 5 (a0.gFuncs.map eTApiFunc) .no] 25)], []⟩ : S)) ?_ ?_
   ·skip
    exact WkX.of () (WkS.perm (WkS.cons rfl (Wk.refl _) (WkS.cons rfl (Wk.refl _) (WkS.cons rfl (Wk.refl _) (WkS.nil)))) Pf Pf)
   ·intro G16 s16 z16 hm
    refine wpD_seq ?_
    refine wpD_sr ?_
    refine pu ?_
    refine pu ?_
    refine pL 0 ?_
    refine p_lenL htab rfl rfl rfl rfl rfl rfl rfl (by first | exact map_len | rfl) ?_
    refine pu ?_
    refine ops_nt ?_
    refine wpD_cond rfl (fun hc25 => ?_) (fun hc25 => ?_)
    ·replace hm := yes_t hc25 hm
     refine wpD_skip ?_
     refine then_normal ?_
     refine wpD_seq ?_
     refine wpD_block ?_
     refine wpD_sr ?_
     refine pu ?_
     refine pL 0 ?_
     refine pu ?_
     obtain ⟨x26, q26, hm⟩ := yes_bind hm
     refine p_elem htab rfl rfl rfl rfl rfl rfl rfl rfl rfl rfl (idx_nonneg q26) (idx_map q26) ?_
     refine pu ?_
     refine p_loadEl htab rfl rfl rfl rfl rfl rfl rfl rfl ?_
     refine pu ?_
     refine pu ?_
     refine ops_nt ?_
     refine wpD_cond rfl (fun hc27 => ?_) (fun hc27 => ?_)
     ·replace hm := yes_t hc27 hm
      refine wpD_sr ?_
      refine pu ?_
      refine pu ?_
      refine ops_nt ?_
      refine wpD_ret ?_
      refine block_ret ?_
      refine then_ret ?_
      have e16 := lp_done hm; subst e16; clear hm; have hm := hq16
      refine then_ret ?_
      refine block_ret ?_
      have e15 := yes_eq hm; subst e15; refine midX_inr ?_; clear hm; have hm := ho15; simp only [Sum.elim_inr] at hm
      refine then_ret ?_
      have er28 := yes_eq hm; subst er28
      refine rP (t' := [(4, .v (.int .i64 s16))]) [] [] 0 (wC wN) (lT lN) ?_
      exact ⟨rfl, rfl, rfl⟩
     ·replace hm := yes_f hc27 hm
      refine wpD_skip ?_
      refine block_normal ?_
      refine then_normal ?_
      refine wpD_region ?_
      iterate 3 refine pu ?_
      refine ops_nil ?_
      refine then_normal ⟨_, lp_next hm, ?_⟩
      exact WkX.of () (WkS.perm (WkS.cons rfl (Wk.refl _) (WkS.cons rfl (Wk.refl _) (WkS.cons rfl (Wk.refl _) (WkS.nil)))) Pf Pf)
    ·replace hm := yes_f hc25 hm
     refine wpD_exit ?_
     refine then_exit ?_
     have e16 := lp_done hm; subst e16; clear hm; have hm := hq16
     refine then_exit ?_
     refine block_hit ?_
     have e15 := yes_eq hm; subst e15
     refine midX_inl ?_
     exact WkX.of () (WkS.perm (WkS.nil) Pf Pf)
  ·intro y15 s15 hx15 hw15; subst hx15; clear hm; have hm := ho15; simp only [Sum.elim_inl] at hm; clear q15 ho15
   refine then_normal ?_
   refine wpD_wkX hw15 (fun z15 => ?_)
   refine wpD_sr ?_
   refine pu ?_
   refine ops_nt ?_
   refine wpD_ret ?_
   have er29 := yes_eq hm; subst er29
   refine rP (t' := [(4, .v (.int .i64 (-1 : Int)))]) [] [] 0 (wC wN) (lT lN) ?_
   exact ⟨rfl, rfl, rfl⟩
noncomputable def r19_size (a0 : TApiProgram) (a1 : ByteArray) : Option (Int) :=
  ((r18_Global a0 a1).bind fun x2 => (bif (decide (x2 < (0 : Int))) then some (0 : Int) else (Option.bind (α := Bool) ((idx a0.gGlobals x2).bind fun x10 => (bif x10.gPtr then some true else ((idx a0.gGlobals x2).bind fun x12 => some (decide (x12.gSize < (1 : Int)))))) fun y9 => (bif y9 then some (1 : Int) else ((idx a0.gGlobals x2).bind fun x16 => some x16.gSize)))))
set_option maxRecDepth 100000 in
set_option maxHeartbeats 2000000 in
theorem r19_size_ok (a0 : TApiProgram) (a1 : ByteArray) (r : Int) (h0 : r19_size a0 a1 = some r) : CallsD Try.prog 17 [eTApiProgram a0, .v (.string a1)] [] [] (fun d h k => d = .v (.int .i64 r) ∧ h = [] ∧ k = []) := by
  have hm := yes_of h0
  unfold r19_size at hm
  clear h0
  refine enterX htab Try.func17 rfl rfl rfl rfl rfl (fun C => ?_)
  refine wpD_sr ?_
  refine p_box rfl rfl rfl rfl rfl rfl rfl (fun b1 => ?_)
  refine pu ?_
  refine ops_n2 ?_
  refine p_load (d := eTApiProgram a0) 0 htab rfl rfl rfl rfl rfl rfl rfl rfl ?_
  refine pu ?_
  obtain ⟨x2, q2, hm⟩ := yes_bind hm
  refine p_call0 (r18_Global_ok a0 a1 x2 q2) rfl rfl rfl rfl rfl Wl ?_
  rintro _ rfl
  refine pu ?_
  refine ops_nt ?_
  refine wpD_seq ?_
  refine wpD_sr ?_
  refine pu ?_
  refine pu ?_
  refine ops_nt ?_
  refine wpD_cond rfl (fun hc4 => ?_) (fun hc4 => ?_)
  ·replace hm := yes_t hc4 hm
   refine wpD_sr ?_
   refine pu ?_
   refine ops_nt ?_
   refine wpD_ret ?_
   refine then_ret ?_
   have er5 := yes_eq hm; subst er5
   refine rP (t' := [(4, .v (.int .i64 (0 : Int)))]) [] [] 0 (wC wN) (lT lN) ?_
   exact ⟨rfl, rfl, rfl⟩
  ·replace hm := yes_f hc4 hm
   refine wpD_skip ?_
   refine then_normal ?_
   refine wpD_seq ?_
   refine wpD_seq ?_
   obtain ⟨y9, q9, ho9⟩ := yes_bind hm
   refine wpD_mid (Y := Unit) (fun z9 => (⟨[(2, .ptr b1 0), (5, .v (.int .i64 x2)), (25, .v (.bool y9))], [(b1, Blk.cells [.lst 4 (a0.gGlobals.map eTApiGlobal) .no, .lst 5 (a0.gFuncs.map eTApiFunc) .no] 25)], []⟩ : S)) ?_ ?_
   ·clear hm; have hm := yes_of q9
    refine wpD_region ?_
    refine pu ?_
    refine pL 0 ?_
    refine pu ?_
    obtain ⟨x10, q10, hm⟩ := yes_bind hm
    refine p_elem htab rfl rfl rfl rfl rfl rfl rfl rfl rfl rfl (idx_nonneg q10) (idx_map q10) ?_
    refine pu ?_
    refine p_loadEl htab rfl rfl rfl rfl rfl rfl rfl rfl ?_
    refine pu ?_
    refine p_split (i := 17) rfl (fun hg11 => ?_) (fun hg11 => ?_)
    ·replace hm := yes_t hg11 hm
     iterate 7 refine pK ?_
     refine p_pickT rfl rfl rfl rfl rfl rfl ?_
     refine ops_nil ?_
     have e9 := yes_eq hm; subst e9
     refine ⟨rfl, ?_⟩
     exact WkX.of () (WkS.perm (WkS.cons rfl (Wk.refl _) (WkS.cons rfl (Wk.refl _) (WkS.cons rfl (Wk.refl _) (WkS.nil)))) Pf Pf)
    ·replace hm := yes_f hg11 hm
     refine pu ?_
     refine pL 0 ?_
     refine pu ?_
     obtain ⟨x12, q12, hm⟩ := yes_bind hm
     refine p_elem htab rfl rfl rfl rfl rfl rfl rfl rfl rfl rfl (idx_nonneg q12) (idx_map q12) ?_
     refine pu ?_
     refine p_loadEl htab rfl rfl rfl rfl rfl rfl rfl rfl ?_
     refine pu ?_
     refine p_pickF rfl rfl rfl rfl rfl rfl ?_
     refine ops_nil ?_
     have e9 := yes_eq hm; subst e9
     refine ⟨rfl, ?_⟩
     exact WkX.of () (WkS.perm (WkS.cons rfl (Wk.refl _) (WkS.cons rfl (Wk.refl _) (WkS.cons rfl (Wk.refl _) (WkS.nil)))) Pf Pf)
   ·intro s9 hw9; clear hm; have hm := ho9; clear q9 ho9
    refine then_normal ?_
    refine wpD_wkX hw9 (fun z9 => ?_)
    refine wpD_cond rfl (fun hc14 => ?_) (fun hc14 => ?_)
    ·replace hm := yes_t hc14 hm
     refine wpD_sr ?_
     refine pu ?_
     refine ops_nt ?_
     refine wpD_ret ?_
     refine then_ret ?_
     have er15 := yes_eq hm; subst er15
     refine rP (t' := [(4, .v (.int .i64 (1 : Int)))]) [] [] 0 (wC wN) (lT lN) ?_
     exact ⟨rfl, rfl, rfl⟩
    ·replace hm := yes_f hc14 hm
     refine wpD_skip ?_
     refine then_normal ?_
     refine wpD_sr ?_
     refine pu ?_
     refine pL 0 ?_
     refine pu ?_
     obtain ⟨x16, q16, hm⟩ := yes_bind hm
     refine p_elem htab rfl rfl rfl rfl rfl rfl rfl rfl rfl rfl (idx_nonneg q16) (idx_map q16) ?_
     refine pu ?_
     refine p_loadEl htab rfl rfl rfl rfl rfl rfl rfl rfl ?_
     refine pu ?_
     refine ops_nt ?_
     refine wpD_ret ?_
     have er17 := yes_eq hm; subst er17
     refine rP (t' := [(4, .v (.int .i64 x16.gSize))]) [] [] 0 (wC wN) (lT lN) ?_
     exact ⟨rfl, rfl, rfl⟩
noncomputable def mem_Mem_Get (m0 : TMemMem) (a1 : TApiCell) : Option (TApiWord × Int) :=
  ((mem_Mem_known m0 a1).bind fun x3 => (bif (x3 != (0 : Int)) then some ((⟨false, (0 : Int), (⟨ByteArray.empty, (0 : Int)⟩ : TApiCell)⟩ : TApiWord), x3) else some ((⟨(mgetD m0.gWords a1 (⟨false, (0 : Int), (⟨ByteArray.empty, (0 : Int)⟩ : TApiCell)⟩ : TApiWord)).gPtr, (mgetD m0.gWords a1 (⟨false, (0 : Int), (⟨ByteArray.empty, (0 : Int)⟩ : TApiCell)⟩ : TApiWord)).gN, ((mgetD m0.gWords a1 (⟨false, (0 : Int), (⟨ByteArray.empty, (0 : Int)⟩ : TApiCell)⟩ : TApiWord)).gTo)⟩ : TApiWord), (0 : Int))))
set_option maxRecDepth 100000 in
set_option maxHeartbeats 2000000 in
theorem mem_Mem_Get_ok (m0 : TMemMem) (a1 : TApiCell) (o0 : Nat) (T0 : TypeId) (z0_0 : Nat) (z0_1 : Nat) (c0_2 : Cap) (r : TApiWord × Int) (h0 : mem_Mem_Get m0 a1 = some r) : CallsD Try.prog 8 [.ptr o0 0, eTApiCell a1] [(o0, Blk.cells [.v (.map (some z0_0)), .v (.map (some z0_1)), .lst 2 (m0.gCells.map eTApiCell) c0_2] T0), (z0_0, Blk.mp (m0.gSizes.map fun p => ((fun s : ByteArray => Value.string s) p.1, eI64 p.2))), (z0_1, Blk.mp (m0.gWords.map fun p => ((fun a => Value.agg (kcTApiCell a).toArray) p.1, eTApiWord p.2)))] [] (fun d h k => d = .tup [eTApiWord r.1, .v (.int .i64 r.2)] ∧ h = [(o0, Blk.cells [.v (.map (some z0_0)), .v (.map (some z0_1)), .lst 2 (m0.gCells.map eTApiCell) c0_2] T0), (z0_0, Blk.mp (m0.gSizes.map fun p => ((fun s : ByteArray => Value.string s) p.1, eI64 p.2))), (z0_1, Blk.mp (m0.gWords.map fun p => ((fun a => Value.agg (kcTApiCell a).toArray) p.1, eTApiWord p.2)))] ∧ k = []) := by
  have hm := yes_of h0
  unfold mem_Mem_Get at hm
  clear h0
  refine enterX htab Try.func8 rfl rfl rfl rfl rfl (fun C => ?_)
  refine wpD_sr ?_
  refine p_box rfl rfl rfl rfl rfl rfl rfl (fun b1 => ?_)
  refine p_alloc htab rfl rfl rfl rfl rfl rfl rfl (fun b2 => ?_)
  refine pu ?_
  refine ops_nt ?_
  refine wpD_seq ?_
  refine wpD_sr ?_
  refine pu ?_
  refine p_load (d := eTApiCell a1) 3 htab rfl rfl rfl rfl rfl rfl rfl rfl ?_
  obtain ⟨x3, q3, hm⟩ := yes_bind hm
  refine pG (mem_Mem_known_ok m0 a1 o0 T0 z0_0 z0_1 c0_2 x3 q3) Wl Pf Pf ?_
  rintro _ _ _ ⟨rfl, rfl, rfl⟩
  refine pu ?_
  refine ops_n2 ?_
  refine pu ?_
  refine pu ?_
  refine ops_nt ?_
  refine wpD_cond rfl (fun hc5 => ?_) (fun hc5 => ?_)
  ·replace hm := yes_t hc5 hm
   refine wpD_sr ?_
   refine p_build (r := [.v (.bool false), .v (.int .i64 (0 : Int)), .v (.string ByteArray.empty), .v (.int .i64 (0 : Int))]) htab rfl rfl rfl rfl rfl rfl rfl rfl rfl ?_
   refine pu ?_
   refine pS4 (ds' := [.v (.bool false), .v (.int .i64 (0 : Int)), .v (.string ByteArray.empty), .v (.int .i64 (0 : Int))]) ?_
   refine pu ?_
   refine ops_nt ?_
   refine wpD_ret ?_
   refine then_ret ?_
   have er6 := yes_eq hm; subst er6
   refine rP (t' := [(4, .ptr b2 0), (5, .v (.int .i64 x3))]) [0,0,0,1] [] 3 (wC (wC wN)) (lC 3 (lT lN)) ?_
   exact ⟨rfl, rfl, rfl⟩
  ·replace hm := yes_f hc5 hm
   refine wpD_skip ?_
   refine then_normal ?_
   refine wpD_seq ?_
   refine wpD_draws 5 [] [[],[0],[0,1],[0,1,2],[]] [0,1,2,3,4] [[],[0],[0,1],[0,1,2],[],[0,1,2,3,4],[0,1,2,3,4,5],[0,1,2,3,4,5,6]] (by kernel_rfl) (by kernel_rfl) (by kernel_rfl) (by rfl) (by rfl) (by kernel_rfl) ?_
   iterate 5 apply Exists.intro
   intro bs
   iterate 3 refine zep ?_
   refine z_eM rfl rfl (xm_load 0 htab rfl rfl rfl rfl rfl) rfl rfl rfl rfl rfl rfl ?_
   refine z_eM rfl rfl (xm_load (d := eTApiCell a1) 3 htab rfl rfl rfl rfl rfl) rfl rfl rfl rfl rfl rfl ?_
   refine z_nil rfl rfl (fun e he => by simp [isAl] at he) ?_
   refine p_lookup (l := m0.gWords) (f := (fun a => Value.agg (kcTApiCell a).toArray)) (e := eTApiWord) (kk := a1) (z := (⟨false, (0 : Int), (⟨ByteArray.empty, (0 : Int)⟩ : TApiCell)⟩ : TApiWord)) (dr := eTApiWord (⟨(mgetD m0.gWords a1 (⟨false, (0 : Int), (⟨ByteArray.empty, (0 : Int)⟩ : TApiCell)⟩ : TApiWord)).gPtr, (mgetD m0.gWords a1 (⟨false, (0 : Int), (⟨ByteArray.empty, (0 : Int)⟩ : TApiCell)⟩ : TApiWord)).gN, ((mgetD m0.gWords a1 (⟨false, (0 : Int), (⟨ByteArray.empty, (0 : Int)⟩ : TApiCell)⟩ : TApiWord)).gTo)⟩ : TApiWord)) 2 htab rfl rfl rfl rfl rfl rfl rfl rfl rfl rfl mk62 (fun H v h => rep_va_inv (us := kcTApiCell a1) h) mz62 mr62 rfl ?_
   refine pS4 (ds' := [.v (.bool ((mgetD m0.gWords a1 (⟨false, (0 : Int), (⟨ByteArray.empty, (0 : Int)⟩ : TApiCell)⟩ : TApiWord)).gPtr)), .v (.int .i64 ((mgetD m0.gWords a1 (⟨false, (0 : Int), (⟨ByteArray.empty, (0 : Int)⟩ : TApiCell)⟩ : TApiWord)).gN)), .v (.string (((mgetD m0.gWords a1 (⟨false, (0 : Int), (⟨ByteArray.empty, (0 : Int)⟩ : TApiCell)⟩ : TApiWord)).gTo).gName)), .v (.int .i64 (((mgetD m0.gWords a1 (⟨false, (0 : Int), (⟨ByteArray.empty, (0 : Int)⟩ : TApiCell)⟩ : TApiWord)).gTo).gAt))]) ?_
   refine pu ?_
   refine ops_nt ?_
   refine wpD_ret ?_
   have er7 := yes_eq hm; subst er7
   refine rP (t' := [(4, .ptr b2 0), (5, .v (.int .i64 (0 : Int)))]) [0,0,0,1] [] 3 (wC (wC wN)) (lC 3 (lT lN)) ?_
   exact ⟨rfl, rfl, rfl⟩
structure TSondageref19Mem where
  gP : TApiProgram
  gCells : List TApiCell
  gWords : List TApiWord
noncomputable def r19_Mem_Find_w (m0 : TSondageref19Mem) (a1 : TApiCell) : Option (Int × Int) :=
  ((r19_size m0.gP a1.gName).bind fun x2 => (bif (x2 == (0 : Int)) then some ((0 : Int), (7 : Int)) else (Option.bind (α := Bool) (bif (decide (a1.gAt < (0 : Int))) then some true else some (decide (x2 ≤ a1.gAt))) fun y7 => (bif y7 then some ((0 : Int), (11 : Int)) else (Option.bind (α := (Unit) ⊕ (Int × Int)) (loopM (fun (s30 : Int) => (bif (decide (s30 < (m0.gCells.length : Int))) then ((idx m0.gCells s30).bind fun x44 => (bif (decide (x44.gName = a1.gName) && (x44.gAt == a1.gAt && true)) then some (.done (.inr (s30, (0 : Int)))) else some (.next (IntKind.i64.wrap (s30 + (1 : Int)))))) else some (.done (.inl ())))) (0 : Int)) (Sum.elim (fun y29 => some ((0 : Int), (7 : Int))) (fun r => some r)))))))
set_option maxRecDepth 100000 in
set_option maxHeartbeats 2000000 in
theorem r19_Mem_Find_w_ok (m0 : TSondageref19Mem) (a1 : TApiCell) (o0 : Nat) (T0 : TypeId) (c0_0 : Cap) (c0_1 : Cap) (c0_2 : Cap) (z0_3 : Z3) (r : Int × Int) (h0 : r19_Mem_Find_w m0 a1 = some r) : CallsD Try.prog 13 [.ptr o0 0, eTApiCell a1] [(o0, Blk.cells [.lst 4 (m0.gP.gGlobals.map eTApiGlobal) c0_0, .lst 5 (m0.gP.gFuncs.map eTApiFunc) c0_1, .lst 2 (m0.gCells.map eTApiCell) c0_2, .v (SL z0_3)] T0), (0, Blk.row 4 (m0.gWords.map eTApiWord) (SL z0_3))] [] (fun d h k => d = .tup [.v (.int .i64 r.1), .v (.int .i64 r.2)] ∧ h = [(o0, Blk.cells [.lst 4 (m0.gP.gGlobals.map eTApiGlobal) c0_0, .lst 5 (m0.gP.gFuncs.map eTApiFunc) c0_1, .lst 2 (m0.gCells.map eTApiCell) c0_2, .v (SL z0_3)] T0), (0, Blk.row 4 (m0.gWords.map eTApiWord) (SL z0_3))] ∧ k = []) := by
  have hm := yes_of h0
  unfold r19_Mem_Find_w at hm
  clear h0
  refine enterX htab Try.func13 rfl rfl rfl rfl rfl (fun C => ?_)
  refine wpD_sr ?_
  refine p_box rfl rfl rfl rfl rfl rfl rfl (fun b1 => ?_)
  refine pu ?_
  refine pu ?_
  refine ops_nt ?_
  refine wpD_seq ?_
  refine wpD_draws 6 [] [[],[0],[0,1],[0,1,2],[],[4]] [0,1,2,3,4] [[],[0],[0,1],[0,1,2],[],[4],[0,1,2,3,4,5],[0,1,2,3,4,5,6]] (by kernel_rfl) (by kernel_rfl) (by kernel_rfl) (by rfl) (by rfl) (by kernel_rfl) ?_
  iterate 5 apply Exists.intro
  intro bs
  iterate 3 refine zep ?_
  refine z_eM rfl rfl (xm_load (d := .agg [.lst 4 (m0.gP.gGlobals.map eTApiGlobal) c0_0, .lst 5 (m0.gP.gFuncs.map eTApiFunc) c0_1]) 0 htab rfl rfl rfl rfl rfl) rfl rfl rfl rfl rfl rfl ?_
  refine zep ?_
  refine z_qM rfl rfl (xm_load 2 htab rfl rfl rfl rfl rfl) rfl rfl rfl rfl rfl rfl ?_
  refine z_nil rfl rfl (fun e he => by simp [isAl] at he) ?_
  obtain ⟨x2, q2, hm⟩ := yes_bind hm
  refine p_call0 (r19_size_ok m0.gP a1.gName x2 q2) rfl rfl rfl rfl rfl (WkL.cons (Wk.agg (rO (rO WkR.nil))) (WkL.cons (Wk.refl _) Wl)) ?_
  rintro _ rfl
  refine pu ?_
  refine ops_nt ?_
  refine wpD_seq ?_
  refine wpD_sr ?_
  refine pu ?_
  refine pu ?_
  refine ops_nt ?_
  refine wpD_cond rfl (fun hc4 => ?_) (fun hc4 => ?_)
  ·replace hm := yes_t hc4 hm
   refine wpD_sr ?_
   refine pu ?_
   refine pu ?_
   refine ops_nt ?_
   refine wpD_ret ?_
   refine then_ret ?_
   have er5 := yes_eq hm; subst er5
   refine rP (t' := [(4, .v (.int .i64 (0 : Int))), (5, .v (.int .i64 (7 : Int)))]) [0,0] [] 2 (wC (wC wN)) (lT (lT lN)) ?_
   exact ⟨rfl, rfl, rfl⟩
  ·replace hm := yes_f hc4 hm
   refine wpD_skip ?_
   refine then_normal ?_
   refine wpD_seq ?_
   refine wpD_seq ?_
   obtain ⟨y7, q7, ho7⟩ := yes_bind hm
   refine wpD_mid (Y := Unit) (fun z7 => (⟨[(0, .ptr o0 0), (3, .ptr b1 0), (25, .v (.bool y7))], [(o0, Blk.cells [.lst 4 (m0.gP.gGlobals.map eTApiGlobal) c0_0, .lst 5 (m0.gP.gFuncs.map eTApiFunc) c0_1, .lst 2 (m0.gCells.map eTApiCell) c0_2, .v (SL z0_3)] T0), (0, Blk.row 4 (m0.gWords.map eTApiWord) (SL z0_3)), (b1, Blk.cells [.v (.string a1.gName), .v (.int .i64 a1.gAt)] 35)], []⟩ : S)) ?_ ?_
   ·clear hm; have hm := yes_of q7
    refine wpD_region ?_
    refine pu ?_
    refine pL 2 ?_
    refine pu ?_
    refine pu ?_
    refine p_split (i := 20) rfl (fun hg8 => ?_) (fun hg8 => ?_)
    ·replace hm := yes_t hg8 hm
     iterate 4 refine pK ?_
     refine p_pickT rfl rfl rfl rfl rfl rfl ?_
     refine ops_nil ?_
     have e7 := yes_eq hm; subst e7
     refine ⟨rfl, ?_⟩
     exact WkX.of () (WkS.perm (WkS.cons rfl (Wk.refl _) (WkS.cons rfl (Wk.refl _) (WkS.cons rfl (Wk.refl _) (WkS.nil)))) Pf Pf)
    ·replace hm := yes_f hg8 hm
     refine pu ?_
     refine pL 2 ?_
     refine pu ?_
     refine pu ?_
     refine p_pickF rfl rfl rfl rfl rfl rfl ?_
     refine ops_nil ?_
     have e7 := yes_eq hm; subst e7
     refine ⟨rfl, ?_⟩
     exact WkX.of () (WkS.perm (WkS.cons rfl (Wk.refl _) (WkS.cons rfl (Wk.refl _) (WkS.cons rfl (Wk.refl _) (WkS.nil)))) Pf Pf)
   ·intro s7 hw7; clear hm; have hm := ho7; clear q7 ho7
    refine then_normal ?_
    refine wpD_wkX hw7 (fun z7 => ?_)
    refine wpD_cond rfl (fun hc10 => ?_) (fun hc10 => ?_)
    ·replace hm := yes_t hc10 hm
     refine wpD_sr ?_
     refine pu ?_
     refine pu ?_
     refine ops_nt ?_
     refine wpD_ret ?_
     refine then_ret ?_
     have er11 := yes_eq hm; subst er11
     refine rP (t' := [(4, .v (.int .i64 (0 : Int))), (5, .v (.int .i64 (11 : Int)))]) [0,0] [] 2 (wC (wC wN)) (lT (lT lN)) ?_
     exact ⟨rfl, rfl, rfl⟩
    ·replace hm := yes_f hc10 hm
     refine wpD_skip ?_
     refine then_normal ?_
     refine wpD_seq ?_
     refine wpD_sr ?_
     refine pu ?_
     refine ops_nt ?_
     obtain ⟨x29, q29, ho29⟩ := yes_bind hm
     refine wpD_midX (τ := Unit) (Y := Unit) (fun y29 z29 => (⟨[], [(o0, Blk.cells [.lst 4 (m0.gP.gGlobals.map eTApiGlobal) c0_0, .lst 5 (m0.gP.gFuncs.map eTApiFunc) c0_1, .lst 2 (m0.gCells.map eTApiCell) c0_2, .v (SL z0_3)] T0), (0, Blk.row 4 (m0.gWords.map eTApiWord) (SL z0_3))], []⟩ : S)) x29 ?_ ?_
     ·clear hm; have hm := yes_of q29
      refine wpD_block ?_
      obtain ⟨u30, hl30, hq30⟩ := yes_m hm
      refine loop_M (Y := Unit) hl30 (fun s30 z30 => (⟨[(0, .ptr o0 0), (3, .ptr b1 0), (7, .v (.int .i64 s30))], [(o0, Blk.cells [.lst 4 (m0.gP.gGlobals.map eTApiGlobal) c0_0, .lst 5 (m0.gP.gFuncs.map eTApiFunc) c0_1, .lst 2 (m0.gCells.map eTApiCell) c0_2, .v (SL z0_3)] T0), (0, Blk.row 4 (m0.gWords.map eTApiWord) (SL z0_3)), (b1, Blk.cells [.v (.string a1.gName), .v (.int .i64 a1.gAt)] 35)], []⟩ : S)) ?_ ?_
      ·skip
       exact WkX.of () (WkS.perm (WkS.cons rfl (Wk.refl _) (WkS.cons rfl (Wk.refl _) (WkS.cons rfl (Wk.refl _) (WkS.nil)))) Pf Pf)
      ·intro G30 s30 z30 hm
       refine wpD_seq ?_
       refine wpD_sr ?_
       iterate 4 refine pu ?_
       refine pL 0 ?_
       refine p_lenL htab rfl rfl rfl rfl rfl rfl rfl (by first | exact map_len | rfl) ?_
       refine pu ?_
       refine ops_nt ?_
       refine wpD_cond rfl (fun hc43 => ?_) (fun hc43 => ?_)
       ·replace hm := yes_t hc43 hm
        refine wpD_skip ?_
        refine then_normal ?_
        refine wpD_seq ?_
        refine wpD_block ?_
        refine wpD_seq ?_
        obtain ⟨x44, q44, hm⟩ := yes_bind hm
        refine wpD_draws 8 [] [[],[0],[0,1],[0,1,2],[],[0,1,2,3],[0,1,2,3,5],[]] [0,1,2,3,5,6,7] [[],[0],[0,1],[0,1,2],[],[0,1,2,3,4],[0,1,2,3,4,5],[],[0,1,2,3,4,5,6,7]] (by kernel_rfl) (by kernel_rfl) (by kernel_rfl) (by rfl) (by rfl) (by kernel_rfl) ?_
        iterate 7 apply Exists.intro
        intro bs
        iterate 3 refine zep ?_
        refine z_eM rfl rfl (xm_load 0 htab rfl rfl rfl rfl rfl) rfl rfl rfl rfl rfl rfl ?_
        refine zqp ?_
        refine z_e rfl rfl (x_elem htab rfl rfl rfl rfl rfl rfl rfl (idx_nonneg q44) (idx_map q44)) rfl rfl rfl rfl rfl rfl ?_
        refine z_eM rfl rfl (xm_loadEl (d := eTApiCell x44) htab rfl rfl rfl rfl rfl) rfl rfl rfl rfl rfl rfl ?_
        refine z_eM rfl rfl (xm_load (d := eTApiCell a1) 2 htab rfl rfl rfl rfl rfl) rfl rfl rfl rfl rfl rfl ?_
        refine z_nil rfl rfl (fun e he => by simp [isAl] at he) ?_
        refine p_eqS htab rfl rfl rfl rfl rfl eqt35 rfl rfl rfl rfl rfl ?_
        refine ops_nt ?_
        refine wpD_cond rfl (fun hc45 => ?_) (fun hc45 => ?_)
        ·replace hm := yes_t hc45 hm
         refine wpD_sr ?_
         iterate 3 refine pu ?_
         refine ops_nt ?_
         refine wpD_ret ?_
         refine block_ret ?_
         refine then_ret ?_
         have e30 := lp_done hm; subst e30; clear hm; have hm := hq30
         refine then_ret ?_
         refine block_ret ?_
         have e29 := yes_eq hm; subst e29; refine midX_inr ?_; clear hm; have hm := ho29; simp only [Sum.elim_inr] at hm
         refine then_ret ?_
         have er46 := yes_eq hm; subst er46
         refine rP (t' := [(4, .v (.int .i64 s30)), (5, .v (.int .i64 (0 : Int)))]) [0,0] [] 2 (wC (wC wN)) (lT (lT lN)) ?_
         exact ⟨rfl, rfl, rfl⟩
        ·replace hm := yes_f hc45 hm
         refine wpD_skip ?_
         refine block_normal ?_
         refine then_normal ?_
         refine wpD_region ?_
         iterate 3 refine pu ?_
         refine ops_nil ?_
         refine then_normal ⟨_, lp_next hm, ?_⟩
         exact WkX.of () (WkS.perm (WkS.cons rfl (Wk.refl _) (WkS.cons rfl (Wk.refl _) (WkS.cons rfl (Wk.refl _) (WkS.nil)))) Pf Pf)
       ·replace hm := yes_f hc43 hm
        refine wpD_exit ?_
        refine then_exit ?_
        have e30 := lp_done hm; subst e30; clear hm; have hm := hq30
        refine then_exit ?_
        refine block_hit ?_
        have e29 := yes_eq hm; subst e29
        refine midX_inl ?_
        exact WkX.of () (WkS.perm (WkS.nil) Pf Pf)
     ·intro y29 s29 hx29 hw29; subst hx29; clear hm; have hm := ho29; simp only [Sum.elim_inl] at hm; clear q29 ho29
      refine then_normal ?_
      refine wpD_wkX hw29 (fun z29 => ?_)
      refine wpD_sr ?_
      refine pu ?_
      refine pu ?_
      refine ops_nt ?_
      refine wpD_ret ?_
      have er47 := yes_eq hm; subst er47
      refine rP (t' := [(4, .v (.int .i64 (0 : Int))), (5, .v (.int .i64 (7 : Int)))]) [0,0] [] 2 (wC (wC wN)) (lT (lT lN)) ?_
      exact ⟨rfl, rfl, rfl⟩
noncomputable def r19_Mem_Set (m0 : TSondageref19Mem) (a1 : TApiCell) (a2 : TApiWord) : Option (Int × TSondageref19Mem) :=
  (bif (decide (a1.gName = (ByteArray.mk #[]))) then some ((12 : Int), m0) else ((r19_Mem_Find_w m0 a1).bind fun x6 => (bif (x6.2 != (0 : Int)) then some (x6.2, m0) else ((idx m0.gWords x6.1).bind fun x10 => (bif (!(x10.gPtr == a2.gPtr)) then some ((9 : Int), m0) else ((idx m0.gWords x6.1).bind fun x14 => some ((0 : Int), (⟨m0.gP, m0.gCells, (m0.gWords.set x6.1.toNat a2)⟩ : TSondageref19Mem))))))))
set_option maxRecDepth 100000 in
set_option maxHeartbeats 2000000 in
theorem r19_Mem_Set_ok (m0 : TSondageref19Mem) (a1 : TApiCell) (a2 : TApiWord) (o0 : Nat) (T0 : TypeId) (c0_0 : Cap) (c0_1 : Cap) (c0_2 : Cap) (z0_3 : Z3) (r : Int × TSondageref19Mem) (h0 : r19_Mem_Set m0 a1 a2 = some r) : CallsD Try.prog 11 [.ptr o0 0, eTApiCell a1, eTApiWord a2] [(o0, Blk.cells [.lst 4 (m0.gP.gGlobals.map eTApiGlobal) c0_0, .lst 5 (m0.gP.gFuncs.map eTApiFunc) c0_1, .lst 2 (m0.gCells.map eTApiCell) c0_2, .v (SL z0_3)] T0), (0, Blk.row 4 (m0.gWords.map eTApiWord) (SL z0_3))] [] (fun d h k => ∃ y0, d = .v (.int .i64 r.1) ∧ h = [(o0, Blk.cells [.lst 4 (r.2.gP.gGlobals.map eTApiGlobal) c0_0, .lst 5 (r.2.gP.gFuncs.map eTApiFunc) c0_1, .lst 2 (r.2.gCells.map eTApiCell) c0_2, .v (SL y0)] T0), (0, Blk.row 4 (r.2.gWords.map eTApiWord) (SL y0))] ∧ k = []) := by
  have hm := yes_of h0
  unfold r19_Mem_Set at hm
  clear h0
  refine enterX htab Try.func11 rfl rfl rfl rfl rfl (fun C => ?_)
  refine wpD_sr ?_
  refine p_box rfl rfl rfl rfl rfl rfl rfl (fun b1 => ?_)
  refine p_box rfl rfl rfl rfl rfl rfl rfl (fun b2 => ?_)
  refine pu ?_
  refine ops_nt ?_
  refine wpD_seq ?_
  refine wpD_sr ?_
  refine pu ?_
  refine pL 2 ?_
  refine pu ?_
  refine ops_nt ?_
  refine wpD_cond rfl (fun hc4 => ?_) (fun hc4 => ?_)
  ·replace hm := yes_t hc4 hm
   refine wpD_sr ?_
   refine pu ?_
   refine ops_nt ?_
   refine wpD_ret ?_
   refine then_ret ?_
   have er5 := yes_eq hm; subst er5
   refine rP (t' := [(6, .v (.int .i64 (12 : Int)))]) [0,0] [] 2 (wC wN) (lT lN) ?_
   exact ⟨z0_3, rfl, rfl, rfl⟩
  ·replace hm := yes_f hc4 hm
   refine wpD_skip ?_
   refine then_normal ?_
   refine wpD_sr ?_
   refine pu ?_
   refine p_load (d := eTApiCell a1) 2 htab rfl rfl rfl rfl rfl rfl rfl rfl ?_
   obtain ⟨x6, q6, hm⟩ := yes_bind hm
   refine pG (r19_Mem_Find_w_ok m0 a1 o0 T0 c0_0 c0_1 c0_2 z0_3 x6 q6) Wl Pf Pf ?_
   rintro _ _ _ ⟨rfl, rfl, rfl⟩
   iterate 5 refine pu ?_
   refine ops_nt ?_
   refine wpD_seq ?_
   refine wpD_sr ?_
   refine pu ?_
   refine pu ?_
   refine ops_nt ?_
   refine wpD_cond rfl (fun hc8 => ?_) (fun hc8 => ?_)
   ·replace hm := yes_t hc8 hm
    refine wpD_sr ?_
    refine pu ?_
    refine pu ?_
    refine ops_nt ?_
    refine wpD_ret ?_
    refine then_ret ?_
    have er9 := yes_eq hm; subst er9
    refine rP (t' := [(6, .v (.int .i64 x6.2))]) [0,0] [] 2 (wC wN) (lT lN) ?_
    exact ⟨z0_3, rfl, rfl, rfl⟩
   ·replace hm := yes_f hc8 hm
    refine wpD_skip ?_
    refine then_normal ?_
    refine wpD_seq ?_
    refine wpD_seq ?_
    obtain ⟨x10, q10, hm⟩ := yes_bind hm
    refine wpD_draws 10 [] [[],[0],[0,1],[0,1,2],[],[0,1,2,3],[0,1,2,3,5],[0,1,2,3,5,6],[],[8]] [0,1,2,3,5,6,8] [[],[0],[0,1],[0,1,2],[],[0,1,2,3,4],[0,1,2,3,4,5],[0,1,2,3,4,5,6],[],[8],[0,1,2,3,4,5,6,7,8,9]] (by kernel_rfl) (by kernel_rfl) (by kernel_rfl) (by rfl) (by rfl) (by kernel_rfl) ?_
    iterate 7 apply Exists.intro
    intro bs
    iterate 3 refine zep ?_
    refine z_eM rfl rfl (xm_load 0 htab rfl rfl rfl rfl rfl) rfl rfl rfl rfl rfl rfl ?_
    refine zqp ?_
    refine z_eM rfl rfl ((xm_elemR 1 htab rfl rfl rfl rfl rfl rfl rfl rfl (idx_nonneg q10) (idx_map q10))) rfl rfl rfl rfl rfl rfl ?_
    refine z_eM rfl rfl ((xm_fieldR 1 htab rfl rfl rfl (idx_map q10) rfl rfl rfl rfl)) rfl rfl rfl rfl rfl rfl ?_
    refine z_qM rfl rfl ((xm_loadF (d := .v (.bool x10.gPtr)) (d0 := eTApiWord x10) 1 htab rfl rfl rfl rfl (idx_map q10) rfl (by simp [dcells, eTApiWord]))) rfl rfl rfl rfl rfl rfl ?_
    refine zep ?_
    refine z_qM rfl rfl (xm_load 3 htab rfl rfl rfl rfl rfl) rfl rfl rfl rfl rfl rfl ?_
    refine z_nil rfl rfl (fun e he => by simp [isAl] at he) ?_
    refine pu ?_
    refine ops_nt ?_
    refine wpD_cond rfl (fun hc12 => ?_) (fun hc12 => ?_)
    ·replace hm := yes_t hc12 hm
     refine wpD_sr ?_
     refine pu ?_
     refine ops_nt ?_
     refine wpD_ret ?_
     refine then_ret ?_
     have er13 := yes_eq hm; subst er13
     refine rP (t' := [(6, .v (.int .i64 (9 : Int)))]) [0,0] [] 2 (wC wN) (lT lN) ?_
     exact ⟨z0_3, rfl, rfl, rfl⟩
    ·replace hm := yes_f hc12 hm
     refine wpD_skip ?_
     refine then_normal ?_
     refine wpD_seq ?_
     refine wpD_draws 6 [] [[],[0],[0,1],[0,1,2],[],[]] [0,1,2,3,5] [[],[0],[0,1],[0,1,2],[],[],[0,1,2,3,4,5],[0,1,2,3,4,5,6]] (by kernel_rfl) (by kernel_rfl) (by kernel_rfl) (by rfl) (by rfl) (by kernel_rfl) ?_
     iterate 5 apply Exists.intro
     intro bs
     iterate 3 refine zep ?_
     refine z_eM rfl rfl (xm_load 0 htab rfl rfl rfl rfl rfl) rfl rfl rfl rfl rfl rfl ?_
     refine zqp ?_
     refine z_eM rfl rfl (xm_load (d := eTApiWord a2) 3 htab rfl rfl rfl rfl rfl) rfl rfl rfl rfl rfl rfl ?_
     refine z_nil rfl rfl (fun e he => by simp [isAl] at he) ?_
     obtain ⟨x14, q14, hm⟩ := yes_bind hm
     refine p_elemR 1 htab rfl rfl rfl rfl rfl rfl rfl rfl rfl rfl rfl (idx_nonneg q14) (idx_map q14) ?_
     refine p_storeR (d := eTApiWord a2) 1 htab rfl rfl rfl rfl rfl rfl rfl rfl rfl rfl (idx_mlt q14) (set_map (e := eTApiWord)) ?_
     refine ops_n2 ?_
     refine pu ?_
     refine ops_nt ?_
     refine wpD_ret ?_
     have er15 := yes_eq hm; subst er15
     refine rP (t' := [(6, .v (.int .i64 (0 : Int)))]) [0,0] [] 2 (wC wN) (lT lN) ?_
     exact ⟨z0_3, rfl, rfl, rfl⟩
noncomputable def mem_New_r (a0 : TApiProgram) : Option (TMemMem) :=
  (Option.bind (α := List TApiCell × List (ByteArray × Int) × List (TApiCell × TApiWord)) (loopM (fun (s190 : Int × List TApiCell × List (ByteArray × Int) × List (TApiCell × TApiWord)) => (bif (decide (s190.1 < (a0.gGlobals.length : Int))) then ((idx a0.gGlobals s190.1).bind fun x329 => (bif (decide ((0 : Int) < (mgetD s190.2.2.1 x329.gName (0 : Int)))) then some (.next ((IntKind.i64.wrap (s190.1 + (1 : Int))), s190.2.1, s190.2.2.1, s190.2.2.2)) else (Option.bind (α := Bool) (bif (!x329.gPtr) then some (decide ((0 : Int) < x329.gSize)) else some false) fun y333 => (Option.bind (α := Int) (bif y333 then some x329.gSize else some (1 : Int)) fun y336 => (Option.bind (α := List TApiCell × List (TApiCell × TApiWord)) (loopM (fun (s355 : Int × List TApiCell × List (TApiCell × TApiWord)) => (bif (decide (s355.1 < y336)) then ((app 24 s355.2.1 ([(⟨x329.gName, s355.1⟩ : TApiCell)] : List TApiCell)).bind fun x370 => some (.next ((IntKind.i64.wrap (s355.1 + (1 : Int))), x370, (mput s355.2.2 (⟨x329.gName, s355.1⟩ : TApiCell) (⟨x329.gPtr, (0 : Int), (⟨ByteArray.empty, (0 : Int)⟩ : TApiCell)⟩ : TApiWord))))) else some (.done (s355.2.1, s355.2.2)))) ((0 : Int), s190.2.1, s190.2.2.2)) fun y354 => some (.next ((IntKind.i64.wrap (s190.1 + (1 : Int))), y354.1, (mput s190.2.2.1 x329.gName y336), y354.2))))))) else some (.done (s190.2.1, s190.2.2.1, s190.2.2.2)))) ((0 : Int), ([] : List TApiCell), ([] : List (ByteArray × Int)), ([] : List (TApiCell × TApiWord)))) fun y189 => some (⟨y189.2.1, y189.2.2, y189.1⟩ : TMemMem))
set_option maxRecDepth 100000 in
set_option maxHeartbeats 2000000 in
theorem mem_New_r_ok (a0 : TApiProgram) (r : TMemMem) (h0 : mem_New_r a0 = some r) : CallsD Try.prog 6 [eTApiProgram a0] [] [] (fun d h k => ∃ y0 y1 y2 y3, d = .ptr y0 0 ∧ h = [(y0, Blk.cells [.v (.map (some y1)), .v (.map (some y2)), .lst 2 (r.gCells.map eTApiCell) (.cur y3)] 64), (y1, Blk.mp (r.gSizes.map fun p => ((fun s : ByteArray => Value.string s) p.1, eI64 p.2))), (y2, Blk.mp (r.gWords.map fun p => ((fun a => Value.agg (kcTApiCell a).toArray) p.1, eTApiWord p.2)))] ∧ k = [(2, y3)]) := by
  have hm := yes_of h0
  unfold mem_New_r at hm
  clear h0
  refine enterX htab Try.func6 rfl rfl rfl rfl rfl (fun C => ?_)
  refine wpD_sr ?_
  refine p_box rfl rfl rfl rfl rfl rfl rfl (fun b1 => ?_)
  refine pu ?_
  refine ops_n2 ?_
  refine p_makeMap rfl rfl rfl rfl (fun b2 => ?_)
  refine p_makeMap rfl rfl rfl rfl (fun b3 => ?_)
  refine p_build (r := [.v (.map (some b2)), .v (.map (some b3)), .lst 1 [] .full]) htab rfl rfl rfl rfl rfl rfl rfl rfl rfl ?_
  refine p_box rfl rfl rfl rfl rfl rfl rfl (fun b4 => ?_)
  refine pu ?_
  refine ops_nt ?_
  refine wpD_seq ?_
  refine wpD_sr ?_
  refine pu ?_
  refine pL 2 ?_
  refine p_lenL htab rfl rfl rfl rfl rfl rfl rfl (by first | exact map_len | rfl) ?_
  refine pu ?_
  refine ops_nt ?_
  obtain ⟨y189, q189, ho189⟩ := yes_bind hm
  refine wpD_mid (Y := Value) (fun z189 => (⟨[(3, .ptr b4 0)], [(b3, Blk.mp (y189.2.2.map fun p => ((fun a => Value.agg (kcTApiCell a).toArray) p.1, eTApiWord p.2))), (b2, Blk.mp (y189.2.1.map fun p => ((fun s : ByteArray => Value.string s) p.1, eI64 p.2))), (b4, Blk.cells [.v (.map (some b2)), .v (.map (some b3)), .lst 2 (y189.1.map eTApiCell) (.cur z189)] 64)], [(2, z189)]⟩ : S)) ?_ ?_
  ·clear hm; have hm := yes_of q189
   refine wpD_block ?_
   obtain ⟨u190, hl190, hq190⟩ := yes_m hm
   refine loop_M (Y := Value) hl190 (fun s190 z190 => (⟨[(3, .ptr b4 0), (14, .lst 4 (a0.gGlobals.map eTApiGlobal) .no), (15, .v (.int .i64 (a0.gGlobals.length : Int))), (16, .v (.int .i64 s190.1))], [(b3, Blk.mp (s190.2.2.2.map fun p => ((fun a => Value.agg (kcTApiCell a).toArray) p.1, eTApiWord p.2))), (b2, Blk.mp (s190.2.2.1.map fun p => ((fun s : ByteArray => Value.string s) p.1, eI64 p.2))), (b4, Blk.cells [.v (.map (some b2)), .v (.map (some b3)), .lst 2 (s190.2.1.map eTApiCell) (.cur z190)] 64)], [(2, z190)]⟩ : S)) ?_ ?_
   ·skip
    refine WkX.cellF (off := 2) 2 3 rfl rfl (by first | exact Or.inl rfl | exact Or.inr rfl) (fun w327 => ?_)
    exact WkX.of w327 (WkS.perm (WkS.cons rfl (Wk.refl _) (WkS.cons rfl (Wk.refl _) (WkS.cons rfl (Wk.refl _) (WkS.cons rfl (Wk.refl _) (WkS.nil))))) ((perm_at (j := 0) rfl).trans (List.Perm.cons _ ((perm_at (j := 0) rfl).trans (List.Perm.cons _ ((perm_at (j := 1) rfl).trans (List.Perm.cons _ Pf)))))) Pf)
   ·intro G190 s190 z190 hm
    refine wpD_sr ?_
    refine pu ?_
    refine ops_nt ?_
    refine wpD_seq ?_
    refine wpD_cond rfl (fun hc328 => ?_) (fun hc328 => ?_)
    ·replace hm := yes_t hc328 hm
     refine wpD_skip ?_
     refine then_normal ?_
     refine wpD_seq ?_
     refine wpD_block ?_
     refine wpD_sr ?_
     obtain ⟨x329, q329, hm⟩ := yes_bind hm
     refine p_elem htab rfl rfl rfl rfl rfl rfl rfl rfl rfl rfl (idx_nonneg q329) (idx_map q329) ?_
     refine p_loadEl (d := eTApiGlobal x329) htab rfl rfl rfl rfl rfl rfl rfl rfl ?_
     refine p_alloc htab rfl rfl rfl rfl rfl rfl rfl (fun b330 => ?_)
     refine pS3 (ds' := [.v (.string x329.gName), .v (.bool x329.gPtr), .v (.int .i64 x329.gSize), .v (.int .i64 x329.gAt)]) ?_
     refine ops_nt ?_
     refine wpD_seq ?_
     refine wpD_seq ?_
     refine wpD_draws 6 [] [[],[0],[0,1],[0,1,2],[],[4]] [0,1,2,3,4] [[],[0],[0,1],[0,1,2],[],[4],[0,1,2,3,4,5],[0,1,2,3,4,5,6]] (by kernel_rfl) (by kernel_rfl) (by kernel_rfl) (by rfl) (by rfl) (by kernel_rfl) ?_
     iterate 5 apply Exists.intro
     intro bs
     iterate 3 refine zep ?_
     refine z_eM rfl rfl (xm_load 2 htab rfl rfl rfl rfl rfl) rfl rfl rfl rfl rfl rfl ?_
     refine zep ?_
     refine z_qM rfl rfl (xm_load 3 htab rfl rfl rfl rfl rfl) rfl rfl rfl rfl rfl rfl ?_
     refine z_nil rfl rfl (fun e he => by simp [isAl] at he) ?_
     refine p_lookup (l := s190.2.2.1) (f := (fun s : ByteArray => Value.string s)) (e := eI64) (kk := x329.gName) (z := (0 : Int)) (dr := .v (.int .i64 (mgetD s190.2.2.1 x329.gName (0 : Int)))) 1 htab rfl rfl rfl rfl rfl rfl rfl rfl rfl rfl mk61 (fun H v h => rep_v_inv h) mz61 mr61 rfl ?_
     refine pu ?_
     refine ops_nt ?_
     refine wpD_cond rfl (fun hc331 => ?_) (fun hc331 => ?_)
     ·replace hm := yes_t hc331 hm
      refine wpD_exit ?_
      refine then_exit ?_
      refine block_hit ?_
      refine then_normal ?_
      refine wpD_region ?_
      refine pu ?_
      refine pu ?_
      refine ops_nil ?_
      refine then_normal ⟨_, lp_next hm, ?_⟩
      exact WkX.of z190 (WkS.perm (WkS.cons rfl (Wk.refl _) (WkS.cons rfl (Wk.refl _) (WkS.cons rfl (Wk.refl _) (WkS.cons rfl (Wk.refl _) (WkS.nil))))) Pf Pf)
     ·replace hm := yes_f hc331 hm
      refine wpD_skip ?_
      refine then_normal ?_
      refine wpD_sr ?_
      refine pu ?_
      refine ops_nt ?_
      refine wpD_seq ?_
      refine wpD_seq ?_
      obtain ⟨y333, q333, ho333⟩ := yes_bind hm
      refine wpD_mid (Y := Unit) (fun z333 => (⟨[(3, .ptr b4 0), (5, .ptr b330 0), (6, .v (.int .i64 (1 : Int))), (14, .lst 4 (a0.gGlobals.map eTApiGlobal) .no), (15, .v (.int .i64 (a0.gGlobals.length : Int))), (16, .v (.int .i64 s190.1)), (35, .v (.bool y333))], [(b3, Blk.mp (s190.2.2.2.map fun p => ((fun a => Value.agg (kcTApiCell a).toArray) p.1, eTApiWord p.2))), (b2, Blk.mp (s190.2.2.1.map fun p => ((fun s : ByteArray => Value.string s) p.1, eI64 p.2))), (b4, Blk.cells [.v (.map (some b2)), .v (.map (some b3)), .lst 2 (s190.2.1.map eTApiCell) (.cur z190)] 64), (b330, Blk.cells [.v (.string x329.gName), .v (.bool x329.gPtr), .v (.int .i64 x329.gSize), .v (.int .i64 x329.gAt)] 29)], [(2, z190)]⟩ : S)) ?_ ?_
      ·clear hm; have hm := yes_of q333
       refine wpD_region ?_
       refine pu ?_
       refine pL 3 ?_
       refine pu ?_
       refine pu ?_
       refine p_split (i := 31) rfl (fun hg334 => ?_) (fun hg334 => ?_)
       ·replace hm := yes_t hg334 hm
        refine pu ?_
        refine pL 3 ?_
        refine pu ?_
        refine p_pickT rfl rfl rfl rfl rfl rfl ?_
        refine ops_nil ?_
        have e333 := yes_eq hm; subst e333
        refine ⟨rfl, ?_⟩
        exact WkX.of () (WkS.perm (WkS.cons rfl (Wk.refl _) (WkS.cons rfl (Wk.refl _) (WkS.cons rfl (Wk.refl _) (WkS.cons rfl (Wk.refl _) (WkS.cons rfl (Wk.refl _) (WkS.cons rfl (Wk.refl _) (WkS.cons rfl (Wk.refl _) (WkS.nil)))))))) Pf Pf)
       ·replace hm := yes_f hg334 hm
        iterate 3 refine pK ?_
        refine p_pickF rfl rfl rfl rfl rfl rfl ?_
        refine ops_nil ?_
        have e333 := yes_eq hm; subst e333
        refine ⟨rfl, ?_⟩
        exact WkX.of () (WkS.perm (WkS.cons rfl (Wk.refl _) (WkS.cons rfl (Wk.refl _) (WkS.cons rfl (Wk.refl _) (WkS.cons rfl (Wk.refl _) (WkS.cons rfl (Wk.refl _) (WkS.cons rfl (Wk.refl _) (WkS.cons rfl (Wk.refl _) (WkS.nil)))))))) Pf Pf)
      ·intro s333 hw333; clear hm; have hm := ho333; clear q333 ho333
       refine then_normal ?_
       refine wpD_wkX hw333 (fun z333 => ?_)
       obtain ⟨y336, q336, ho336⟩ := yes_bind hm
       refine wpD_mid (Y := Unit) (fun z336 => (⟨[(3, .ptr b4 0), (5, .ptr b330 0), (6, .v (.int .i64 y336)), (14, .lst 4 (a0.gGlobals.map eTApiGlobal) .no), (15, .v (.int .i64 (a0.gGlobals.length : Int))), (16, .v (.int .i64 s190.1))], [(b3, Blk.mp (s190.2.2.2.map fun p => ((fun a => Value.agg (kcTApiCell a).toArray) p.1, eTApiWord p.2))), (b2, Blk.mp (s190.2.2.1.map fun p => ((fun s : ByteArray => Value.string s) p.1, eI64 p.2))), (b4, Blk.cells [.v (.map (some b2)), .v (.map (some b3)), .lst 2 (s190.2.1.map eTApiCell) (.cur z190)] 64), (b330, Blk.cells [.v (.string x329.gName), .v (.bool x329.gPtr), .v (.int .i64 x329.gSize), .v (.int .i64 x329.gAt)] 29)], [(2, z190)]⟩ : S)) ?_ ?_
       ·clear hm; have hm := yes_of q336
        refine wpD_cond rfl (fun hc337 => ?_) (fun hc337 => ?_)
        ·replace hm := yes_t hc337 hm
         refine wpD_region ?_
         refine pu ?_
         refine pL 3 ?_
         refine pu ?_
         refine ops_nil ?_
         have e336 := yes_eq hm; subst e336
         refine ⟨rfl, ?_⟩
         exact WkX.of () (WkS.perm (WkS.cons rfl (Wk.refl _) (WkS.cons rfl (Wk.refl _) (WkS.cons rfl (Wk.refl _) (WkS.cons rfl (Wk.refl _) (WkS.cons rfl (Wk.refl _) (WkS.cons rfl (Wk.refl _) (WkS.nil))))))) Pf Pf)
        ·replace hm := yes_f hc337 hm
         refine wpD_skip ?_
         have e336 := yes_eq hm; subst e336
         refine ⟨rfl, ?_⟩
         exact WkX.of () (WkS.perm (WkS.cons rfl (Wk.refl _) (WkS.cons rfl (Wk.refl _) (WkS.cons rfl (Wk.refl _) (WkS.cons rfl (Wk.refl _) (WkS.cons rfl (Wk.refl _) (WkS.cons rfl (Wk.refl _) (WkS.nil))))))) Pf Pf)
       ·intro s336 hw336; clear hm; have hm := ho336; clear q336 ho336
        refine then_normal ?_
        refine wpD_wkX hw336 (fun z336 => ?_)
        refine wpD_seq ?_
        refine wpD_draws 7 [] [[],[0],[0,1],[0,1,2],[],[4],[]] [0,1,2,3,4] [[],[0],[0,1],[0,1,2],[],[4],[],[0,1,2,3,4,5,6]] (by kernel_rfl) (by kernel_rfl) (by kernel_rfl) (by rfl) (by rfl) (by kernel_rfl) ?_
        iterate 5 apply Exists.intro
        intro bs
        iterate 3 refine zep ?_
        refine z_eM rfl rfl (xm_load 2 htab rfl rfl rfl rfl rfl) rfl rfl rfl rfl rfl rfl ?_
        refine zep ?_
        refine z_qM rfl rfl (xm_load 3 htab rfl rfl rfl rfl rfl) rfl rfl rfl rfl rfl rfl ?_
        refine zqp ?_
        refine z_nil rfl rfl (fun e he => by simp [isAl] at he) ?_
        refine p_mapUpdate (l := s190.2.2.1) (f := (fun s : ByteArray => Value.string s)) (e := eI64) (kk := x329.gName) (vv := y336) (h' := [(b3, Blk.mp (s190.2.2.2.map fun p => ((fun a => Value.agg (kcTApiCell a).toArray) p.1, eTApiWord p.2))), (b2, Blk.mp ((mput s190.2.2.1 x329.gName y336).map fun p => ((fun s : ByteArray => Value.string s) p.1, eI64 p.2))), (b4, Blk.cells [.v (.map (some b2)), .v (.map (some b3)), .lst 2 (s190.2.1.map eTApiCell) (.cur z190)] 64), (b330, Blk.cells [.v (.string x329.gName), .v (.bool x329.gPtr), .v (.int .i64 x329.gSize), .v (.int .i64 x329.gAt)] 29)]) 1 htab rfl rfl rfl rfl rfl rfl rfl rfl rfl rfl mk61 (fun H v h => rep_v_inv h) (Wk.refl _) rfl ?_
        refine ops_n2 ?_
        refine pu ?_
        refine pu ?_
        refine ops_nt ?_
        obtain ⟨y354, q354, ho354⟩ := yes_bind hm
        refine wpD_mid (Y := Value) (fun z354 => (⟨[(3, .ptr b4 0), (14, .lst 4 (a0.gGlobals.map eTApiGlobal) .no), (15, .v (.int .i64 (a0.gGlobals.length : Int))), (16, .v (.int .i64 s190.1))], [(b3, Blk.mp (y354.2.map fun p => ((fun a => Value.agg (kcTApiCell a).toArray) p.1, eTApiWord p.2))), (b2, Blk.mp ((mput s190.2.2.1 x329.gName y336).map fun p => ((fun s : ByteArray => Value.string s) p.1, eI64 p.2))), (b4, Blk.cells [.v (.map (some b2)), .v (.map (some b3)), .lst 2 (y354.1.map eTApiCell) (.cur z354)] 64)], [(2, z354)]⟩ : S)) ?_ ?_
        ·clear hm; have hm := yes_of q354
         refine wpD_block ?_
         obtain ⟨u355, hl355, hq355⟩ := yes_m hm
         refine loop_M (Y := Value) hl355 (fun s355 z355 => (⟨[(3, .ptr b4 0), (5, .ptr b330 0), (14, .lst 4 (a0.gGlobals.map eTApiGlobal) .no), (15, .v (.int .i64 (a0.gGlobals.length : Int))), (16, .v (.int .i64 s190.1)), (45, .v (.int .i64 y336)), (46, .v (.int .i64 s355.1))], [(b3, Blk.mp (s355.2.2.map fun p => ((fun a => Value.agg (kcTApiCell a).toArray) p.1, eTApiWord p.2))), (b2, Blk.mp ((mput s190.2.2.1 x329.gName y336).map fun p => ((fun s : ByteArray => Value.string s) p.1, eI64 p.2))), (b4, Blk.cells [.v (.map (some b2)), .v (.map (some b3)), .lst 2 (s355.2.1.map eTApiCell) (.cur z355)] 64), (b330, Blk.cells [.v (.string x329.gName), .v (.bool x329.gPtr), .v (.int .i64 x329.gSize), .v (.int .i64 x329.gAt)] 29)], [(2, z355)]⟩ : S)) ?_ ?_
         ·skip
          exact WkX.of z190 (WkS.perm (WkS.cons rfl (Wk.refl _) (WkS.cons rfl (Wk.refl _) (WkS.cons rfl (Wk.refl _) (WkS.cons rfl (Wk.refl _) (WkS.cons rfl (Wk.refl _) (WkS.cons rfl (Wk.refl _) (WkS.cons rfl (Wk.refl _) (WkS.nil)))))))) Pf Pf)
         ·intro G355 s355 z355 hm
          refine wpD_sr ?_
          refine pu ?_
          refine ops_nt ?_
          refine wpD_seq ?_
          refine wpD_cond rfl (fun hc368 => ?_) (fun hc368 => ?_)
          ·replace hm := yes_t hc368 hm
           refine wpD_skip ?_
           refine then_normal ?_
           refine wpD_seq ?_
           refine wpD_block ?_
           refine wpD_sr ?_
           refine pu ?_
           refine pu ?_
           refine ops_n2 ?_
           refine pu ?_
           refine pL 3 ?_
           refine pu ?_
           refine p_build (r := [.v (.string x329.gName), .v (.int .i64 s355.1)]) htab rfl rfl rfl rfl rfl rfl rfl rfl rfl ?_
           refine p_alloc htab rfl rfl rfl rfl rfl rfl rfl (fun b369 => ?_)
           refine pS4 (ds' := [.v (.string x329.gName), .v (.int .i64 s355.1)]) ?_
           refine ops_nt ?_
           refine wpD_seq ?_
           refine wpD_draws 8 [] [[],[0],[0,1],[0,1,2],[],[],[5],[5]] [0,1,2,3,4,5,7] [[],[0],[0,1],[0,1,2],[],[],[5],[5,6],[0,1,2,3,4,5,6,7]] (by kernel_rfl) (by kernel_rfl) (by kernel_rfl) (by rfl) (by rfl) (by kernel_rfl) ?_
           iterate 7 apply Exists.intro
           intro bs
           iterate 3 refine zep ?_
           refine z_eM rfl rfl (xm_load 2 htab rfl rfl rfl rfl rfl) rfl rfl rfl rfl rfl rfl ?_
           refine z_eM rfl rfl (xm_load (d := eTApiCell (⟨x329.gName, s355.1⟩ : TApiCell)) 4 htab rfl rfl rfl rfl rfl) rfl rfl rfl rfl rfl rfl ?_
           refine zep ?_
           refine z_qM rfl rfl (xm_load 3 htab rfl rfl rfl rfl rfl) rfl rfl rfl rfl rfl rfl ?_
           refine z_e rfl rfl (x_build (r := [.v (.bool x329.gPtr), .v (.int .i64 (0 : Int)), .v (.string ByteArray.empty), .v (.int .i64 (0 : Int))]) htab rfl rfl rfl rfl rfl rfl) rfl rfl rfl rfl rfl rfl ?_
           refine z_nil rfl rfl (fun e he => by simp [isAl] at he) ?_
           refine p_mapUpdate (l := s355.2.2) (f := (fun a => Value.agg (kcTApiCell a).toArray)) (e := eTApiWord) (kk := (⟨x329.gName, s355.1⟩ : TApiCell)) (vv := (⟨x329.gPtr, (0 : Int), (⟨ByteArray.empty, (0 : Int)⟩ : TApiCell)⟩ : TApiWord)) (h' := [(b3, Blk.mp ((mput s355.2.2 (⟨x329.gName, s355.1⟩ : TApiCell) (⟨x329.gPtr, (0 : Int), (⟨ByteArray.empty, (0 : Int)⟩ : TApiCell)⟩ : TApiWord)).map fun p => ((fun a => Value.agg (kcTApiCell a).toArray) p.1, eTApiWord p.2))), (b2, Blk.mp ((mput s190.2.2.1 x329.gName y336).map fun p => ((fun s : ByteArray => Value.string s) p.1, eI64 p.2))), (b4, Blk.cells [.v (.map (some b2)), .v (.map (some b3)), .lst 2 (s355.2.1.map eTApiCell) (.cur z355)] 64), (b330, Blk.cells [.v (.string x329.gName), .v (.bool x329.gPtr), .v (.int .i64 x329.gSize), .v (.int .i64 x329.gAt)] 29), (b369, Blk.cells [.v (.string x329.gName), .v (.int .i64 s355.1)] 35)]) 0 htab rfl rfl rfl rfl rfl rfl rfl rfl rfl rfl mk62 (fun H v h => rep_va_inv (us := kcTApiCell (⟨x329.gName, s355.1⟩ : TApiCell)) h) (Wk.refl _) rfl ?_
           refine ops_nt ?_
           obtain ⟨x370, q370, hm⟩ := yes_bind hm
           refine wpD_app 8 [] [[],[],[1],[1,2],[1,2,3],[],[5],[1,2,3,4,5,6]] [0,1,2,3,4,5,6,7] [[],[],[1],[1,2],[1,2,3],[],[5],[1,2,3,4,5,6],[0,1,2,3,4,5,6,7],[0,1,2,3,4,5,6,7,8],[0,1,2,3,4,5,6,7,8,9]] 7 2 0 (by kernel_rfl) (by kernel_rfl) (by kernel_rfl) (by rfl) (by rfl) (by kernel_rfl) rfl ?_
           iterate 8 apply Exists.intro
           refine ⟨.any, ?_⟩
           intro bs v370
           iterate 4 refine zh_e rfl rfl (ex_pure htab rfl) rfl rfl rfl rfl rfl rfl rfl rfl ?_
           refine zh_M rfl rfl (fun _ => xm_load 2 htab rfl rfl rfl rfl rfl) (offB rfl) rfl rfl rfl rfl rfl rfl rfl rfl ?_
           refine zh_M rfl rfl (fun _ => xm_load (d := eTApiCell (⟨x329.gName, s355.1⟩ : TApiCell)) 4 htab rfl rfl rfl rfl rfl) (offB rfl) rfl rfl rfl rfl rfl rfl rfl rfl ?_
           refine zh_E rfl rfl (ExE.wk (x_lit htab rfl rfl rfl rfl rfl rfl rfl rfl rfl rfl rfl) (show Wk _ (.lst 2 (([(⟨x329.gName, s355.1⟩ : TApiCell)] : List TApiCell).map eTApiCell) .full) from Wk.lst0 (.cons (WkC.refl _) (.nil)))) rfl rfl rfl rfl rfl rfl rfl rfl ?_
           refine zh_app htab rfl rfl rfl rfl rfl rfl rfl rfl (rep_of rfl) rfl (app_kC rfl) (perm_at (j := 0) rfl) rfl rfl rfl rfl rfl rfl rfl rfl rfl (app_bound q370) (app_map q370) ?_
           refine zh_nil rfl rfl rfl rfl (fun e he => by simp [isAl] at he) ?_
           refine pu ?_
           refine pu ?_
           refine pS2 (ds' := [.v (.map (some b2)), .v (.map (some b3)), .lst 2 (x370.map eTApiCell) (.cur v370)]) ?_
           refine ops_nil ?_
           refine block_normal ?_
           refine then_normal ?_
           refine wpD_region ?_
           refine pu ?_
           refine pu ?_
           refine ops_nil ?_
           refine then_normal ⟨_, lp_next hm, ?_⟩
           exact WkX.of v370 (WkS.perm (WkS.cons rfl (Wk.refl _) (WkS.cons rfl (Wk.refl _) (WkS.cons rfl (Wk.refl _) (WkS.cons rfl (Wk.refl _) (WkS.cons rfl (Wk.refl _) (WkS.cons rfl (Wk.refl _) (WkS.cons rfl (Wk.refl _) (WkS.nil)))))))) Pf Pf)
          ·replace hm := yes_f hc368 hm
           refine wpD_exit ?_
           refine then_exit ?_
           have e355 := lp_done hm; subst e355; clear hm; have hm := hq355
           refine then_exit ?_
           refine block_hit ?_
           have e354 := yes_eq hm; subst e354
           refine ⟨rfl, ?_⟩
           exact WkX.of z355 (WkS.perm (WkS.cons rfl (Wk.refl _) (WkS.cons rfl (Wk.refl _) (WkS.cons rfl (Wk.refl _) (WkS.cons rfl (Wk.refl _) (WkS.nil))))) Pf Pf)
        ·intro s354 hw354; clear hm; have hm := ho354; clear q354 ho354
         refine block_normal ?_
         refine then_normal ?_
         refine wpD_wkX hw354 (fun z354 => ?_)
         refine wpD_region ?_
         refine pu ?_
         refine pu ?_
         refine ops_nil ?_
         refine then_normal ⟨_, lp_next hm, ?_⟩
         exact WkX.of z354 (WkS.perm (WkS.cons rfl (Wk.refl _) (WkS.cons rfl (Wk.refl _) (WkS.cons rfl (Wk.refl _) (WkS.cons rfl (Wk.refl _) (WkS.nil))))) Pf Pf)
    ·replace hm := yes_f hc328 hm
     refine wpD_exit ?_
     refine then_exit ?_
     have e190 := lp_done hm; subst e190; clear hm; have hm := hq190
     refine then_exit ?_
     refine block_hit ?_
     have e189 := yes_eq hm; subst e189
     refine ⟨rfl, ?_⟩
     exact WkX.of z190 (WkS.perm (WkS.cons rfl (Wk.refl _) (WkS.nil)) Pf Pf)
  ·intro s189 hw189; clear hm; have hm := ho189; clear q189 ho189
   refine then_normal ?_
   refine wpD_wkX hw189 (fun z189 => ?_)
   refine wpD_sr ?_
   refine pu ?_
   refine pu ?_
   refine ops_nt ?_
   refine wpD_ret ?_
   have er371 := yes_eq hm; subst er371
   refine rP (t' := [(2, .ptr b4 0)]) [2,1,0] [0] 3 (wC wN) (lT lN) ?_
   exact ⟨b4, b2, b3, z189, rfl, rfl, rfl⟩
noncomputable def r07_Put_r (a0 : List ByteArray) (a1 : ByteArray) : Option (List ByteArray) :=
  (Option.bind (α := List ByteArray × Bool) (loopM (fun (s64 : List ByteArray × Bool × Int) => (bif (decide (s64.2.2 < (a0.length : Int))) then (bif (!s64.2.1) then ((idx a0 s64.2.2).bind fun x107 => (Option.bind (α := Bool × List ByteArray) (bif (ltB a1 x107 || a1.toList == x107.toList) then ((idx a0 s64.2.2).bind fun x114 => (Option.bind (α := List ByteArray) (bif (ltB a1 x114) then ((app 16 s64.1 ([a1] : List ByteArray)).bind fun x119 => some x119) else some s64.1) fun y117 => some (true, y117))) else some (s64.2.1, s64.1)) fun y112 => ((idx a0 s64.2.2).bind fun x120 => ((app 16 y112.2 ([x120] : List ByteArray)).bind fun x121 => some (.next (x121, y112.1, (IntKind.i64.wrap (s64.2.2 + (1 : Int))))))))) else ((idx a0 s64.2.2).bind fun x122 => ((app 16 s64.1 ([x122] : List ByteArray)).bind fun x123 => some (.next (x123, s64.2.1, (IntKind.i64.wrap (s64.2.2 + (1 : Int)))))))) else some (.done (s64.1, s64.2.1)))) (([] : List ByteArray), false, (0 : Int))) fun y63 => (bif (!y63.2) then ((app 16 y63.1 ([a1] : List ByteArray)).bind fun x125 => some x125) else some y63.1))
set_option maxRecDepth 100000 in
set_option maxHeartbeats 2000000 in
theorem r07_Put_r_ok (a0 : List ByteArray) (a1 : ByteArray) (r : List ByteArray) (h0 : r07_Put_r a0 a1 = some r) : CallsD Try.prog 15 [.lst 1 (a0.map eStr) .no, .v (.string a1)] [] [] (fun d h k => ∃ y0, d = .v (SL y0) ∧ h = [(0, Blk.row 1 (r.map eStr) (SL y0))] ∧ k = []) := by
  have hm := yes_of h0
  unfold r07_Put_r at hm
  clear h0
  refine enterX htab Try.func15 rfl rfl rfl rfl rfl (fun C => ?_)
  refine wpD_sr ?_
  refine pu ?_
  refine ops_n2 ?_
  refine pu ?_
  refine ops_n2 ?_
  refine pu ?_
  refine ops_nt ?_
  refine wpD_seq ?_
  refine wpD_sr ?_
  refine pu ?_
  refine ops_nt ?_
  obtain ⟨y63, q63, ho63⟩ := yes_bind hm
  refine wpD_mid (Y := Z3) (fun z63 => (⟨[(1, .v (.string a1)), (5, .v (SL z63)), (6, .v (.bool y63.2))], [(0, Blk.row 1 (y63.1.map eStr) (SL z63))], []⟩ : S)) ?_ ?_
  ·clear hm; have hm := yes_of q63
   refine wpD_block ?_
   obtain ⟨u64, hl64, hq64⟩ := yes_m hm
   refine loop_M (Y := Z3) hl64 (fun s64 z64 => (⟨[(0, .lst 1 (a0.map eStr) .no), (1, .v (.string a1)), (5, .v (SL z64)), (6, .v (.bool s64.2.1)), (7, .v (.int .i64 s64.2.2))], [(0, Blk.row 1 (s64.1.map eStr) (SL z64))], []⟩ : S)) ?_ ?_
   ·skip
    refine WkX.rowN (i := 5) 1 rfl (fun w104 => ?_)
    exact WkX.of w104 (WkS.perm (WkS.cons rfl (Wk.refl _) (WkS.cons rfl (Wk.refl _) (WkS.cons rfl (Wk.refl _) (WkS.cons rfl (Wk.refl _) (WkS.cons rfl (Wk.refl _) (WkS.nil)))))) Pf Pf)
   ·intro G64 s64 z64 hm
    refine wpD_seq ?_
    refine wpD_sr ?_
    refine pu ?_
    refine pu ?_
    refine p_lenL htab rfl rfl rfl rfl rfl rfl rfl (by first | exact map_len | rfl) ?_
    refine pu ?_
    refine ops_nt ?_
    refine wpD_cond rfl (fun hc105 => ?_) (fun hc105 => ?_)
    ·replace hm := yes_t hc105 hm
     refine wpD_skip ?_
     refine then_normal ?_
     refine wpD_seq ?_
     refine wpD_block ?_
     refine wpD_seq ?_
     refine wpD_sr ?_
     iterate 3 refine pu ?_
     refine p_split (i := 16) rfl (fun hg106 => ?_) (fun hg106 => ?_)
     ·replace hm := yes_t hg106 hm
      iterate 3 refine pu ?_
      obtain ⟨x107, q107, hm⟩ := yes_bind hm
      refine p_elem htab rfl rfl rfl rfl rfl rfl rfl rfl rfl rfl (idx_nonneg q107) (idx_map q107) ?_
      refine p_loadEl htab rfl rfl rfl rfl rfl rfl rfl rfl ?_
      refine p_ltS rfl rfl rfl rfl rfl rfl rfl ?_
      refine p_pickT rfl rfl rfl rfl rfl rfl ?_
      refine ops_nt ?_
      obtain ⟨y112, q112, ho112⟩ := yes_bind hm
      refine wpD_mid (Y := Z3) (fun z112 => (⟨[(0, .lst 1 (a0.map eStr) .no), (1, .v (.string a1)), (5, .v (SL z112)), (6, .v (.bool y112.1)), (7, .v (.int .i64 s64.2.2))], [(0, Blk.row 1 (y112.2.map eStr) (SL z112))], []⟩ : S)) ?_ ?_
      ·clear hm; have hm := yes_of q112
       refine wpD_cond rfl (fun hc113 => ?_) (fun hc113 => ?_)
       ·replace hm := yes_t hc113 hm
        refine wpD_seq ?_
        refine wpD_sr ?_
        iterate 3 refine pu ?_
        obtain ⟨x114, q114, hm⟩ := yes_bind hm
        refine p_elem htab rfl rfl rfl rfl rfl rfl rfl rfl rfl rfl (idx_nonneg q114) (idx_map q114) ?_
        refine p_loadEl htab rfl rfl rfl rfl rfl rfl rfl rfl ?_
        refine p_ltS rfl rfl rfl rfl rfl rfl rfl ?_
        refine ops_nt ?_
        obtain ⟨y117, q117, ho117⟩ := yes_bind hm
        refine wpD_mid (Y := Z3) (fun z117 => (⟨[(0, .lst 1 (a0.map eStr) .no), (1, .v (.string a1)), (5, .v (SL z117)), (7, .v (.int .i64 s64.2.2))], [(0, Blk.row 1 (y117.map eStr) (SL z117))], []⟩ : S)) ?_ ?_
        ·clear hm; have hm := yes_of q117
         refine wpD_cond rfl (fun hc118 => ?_) (fun hc118 => ?_)
         ·replace hm := yes_t hc118 hm
          refine wpD_region ?_
          refine pu ?_
          refine pu ?_
          refine p_lit htab rfl rfl rfl rfl rfl rfl rfl rfl rfl rfl rfl rfl rfl rfl ?_
          refine p_eq (i := 32) (d' := .lst 1 (([a1] : List ByteArray).map eStr) .full) rfl (Wk.lst0 (.cons (WkC.refl _) (.nil))) ?_
          obtain ⟨x119, q119, hm⟩ := yes_bind hm
          refine p_appR2 0 htab rfl rfl rfl rfl rfl rfl rfl rfl rfl rfl rfl rfl rfl rfl rfl rfl (app_bound q119) (app_map q119) (fun v119 => ?_)
          refine pu ?_
          refine ops_nil ?_
          have e117 := yes_eq hm; subst e117
          refine ⟨rfl, ?_⟩
          exact WkX.of v119 (WkS.perm (WkS.cons rfl (Wk.refl _) (WkS.cons rfl (Wk.refl _) (WkS.cons rfl (Wk.refl _) (WkS.cons rfl (Wk.refl _) (WkS.nil))))) Pf Pf)
         ·replace hm := yes_f hc118 hm
          refine wpD_skip ?_
          have e117 := yes_eq hm; subst e117
          refine ⟨rfl, ?_⟩
          exact WkX.of z64 (WkS.perm (WkS.cons rfl (Wk.refl _) (WkS.cons rfl (Wk.refl _) (WkS.cons rfl (Wk.refl _) (WkS.cons rfl (Wk.refl _) (WkS.nil))))) Pf Pf)
        ·intro s117 hw117; clear hm; have hm := ho117; clear q117 ho117
         refine then_normal ?_
         refine wpD_wkX hw117 (fun z117 => ?_)
         refine wpD_region ?_
         refine pu ?_
         refine ops_nil ?_
         have e112 := yes_eq hm; subst e112
         refine ⟨rfl, ?_⟩
         exact WkX.of z117 (WkS.perm (WkS.cons rfl (Wk.refl _) (WkS.cons rfl (Wk.refl _) (WkS.cons rfl (Wk.refl _) (WkS.cons rfl (Wk.refl _) (WkS.cons rfl (Wk.refl _) (WkS.nil)))))) Pf Pf)
       ·replace hm := yes_f hc113 hm
        refine wpD_skip ?_
        have e112 := yes_eq hm; subst e112
        refine ⟨rfl, ?_⟩
        exact WkX.of z64 (WkS.perm (WkS.cons rfl (Wk.refl _) (WkS.cons rfl (Wk.refl _) (WkS.cons rfl (Wk.refl _) (WkS.cons rfl (Wk.refl _) (WkS.cons rfl (Wk.refl _) (WkS.nil)))))) Pf Pf)
      ·intro s112 hw112; clear hm; have hm := ho112; clear q112 ho112
       refine then_normal ?_
       refine wpD_wkX hw112 (fun z112 => ?_)
       refine wpD_region ?_
       iterate 3 refine pu ?_
       obtain ⟨x120, q120, hm⟩ := yes_bind hm
       refine p_elem htab rfl rfl rfl rfl rfl rfl rfl rfl rfl rfl (idx_nonneg q120) (idx_map q120) ?_
       refine p_loadEl htab rfl rfl rfl rfl rfl rfl rfl rfl ?_
       refine p_lit htab rfl rfl rfl rfl rfl rfl rfl rfl rfl rfl rfl rfl rfl rfl ?_
       refine p_eq (i := 39) (d' := .lst 1 (([x120] : List ByteArray).map eStr) .full) rfl (Wk.lst0 (.cons (WkC.refl _) (.nil))) ?_
       obtain ⟨x121, q121, hm⟩ := yes_bind hm
       refine p_appR2 0 htab rfl rfl rfl rfl rfl rfl rfl rfl rfl rfl rfl rfl rfl rfl rfl rfl (app_bound q121) (app_map q121) (fun v121 => ?_)
       refine pu ?_
       refine ops_nil ?_
       refine block_normal ?_
       refine then_normal ?_
       refine wpD_region ?_
       iterate 3 refine pu ?_
       refine ops_nil ?_
       refine then_normal ⟨_, lp_next hm, ?_⟩
       exact WkX.of v121 (WkS.perm (WkS.cons rfl (Wk.refl _) (WkS.cons rfl (Wk.refl _) (WkS.cons rfl (Wk.refl _) (WkS.cons rfl (Wk.refl _) (WkS.cons rfl (Wk.refl _) (WkS.nil)))))) Pf Pf)
     ·replace hm := yes_f hg106 hm
      iterate 6 refine pK ?_
      refine p_pickF rfl rfl rfl rfl rfl rfl ?_
      refine ops_nt ?_
      refine wpD_false rfl ?_
      refine wpD_skip ?_
      refine then_normal ?_
      refine wpD_region ?_
      iterate 3 refine pu ?_
      obtain ⟨x122, q122, hm⟩ := yes_bind hm
      refine p_elem htab rfl rfl rfl rfl rfl rfl rfl rfl rfl rfl (idx_nonneg q122) (idx_map q122) ?_
      refine p_loadEl htab rfl rfl rfl rfl rfl rfl rfl rfl ?_
      refine p_lit htab rfl rfl rfl rfl rfl rfl rfl rfl rfl rfl rfl rfl rfl rfl ?_
      refine p_eq (i := 39) (d' := .lst 1 (([x122] : List ByteArray).map eStr) .full) rfl (Wk.lst0 (.cons (WkC.refl _) (.nil))) ?_
      obtain ⟨x123, q123, hm⟩ := yes_bind hm
      refine p_appR2 0 htab rfl rfl rfl rfl rfl rfl rfl rfl rfl rfl rfl rfl rfl rfl rfl rfl (app_bound q123) (app_map q123) (fun v123 => ?_)
      refine pu ?_
      refine ops_nil ?_
      refine block_normal ?_
      refine then_normal ?_
      refine wpD_region ?_
      iterate 3 refine pu ?_
      refine ops_nil ?_
      refine then_normal ⟨_, lp_next hm, ?_⟩
      exact WkX.of v123 (WkS.perm (WkS.cons rfl (Wk.refl _) (WkS.cons rfl (Wk.refl _) (WkS.cons rfl (Wk.refl _) (WkS.cons rfl (Wk.refl _) (WkS.cons rfl (Wk.refl _) (WkS.nil)))))) Pf Pf)
    ·replace hm := yes_f hc105 hm
     refine wpD_exit ?_
     refine then_exit ?_
     have e64 := lp_done hm; subst e64; clear hm; have hm := hq64
     refine then_exit ?_
     refine block_hit ?_
     have e63 := yes_eq hm; subst e63
     refine ⟨rfl, ?_⟩
     exact WkX.of z64 (WkS.perm (WkS.cons rfl (Wk.refl _) (WkS.cons rfl (Wk.refl _) (WkS.cons rfl (Wk.refl _) (WkS.nil)))) Pf Pf)
  ·intro s63 hw63; clear hm; have hm := ho63; clear q63 ho63
   refine then_normal ?_
   refine wpD_wkX hw63 (fun z63 => ?_)
   refine wpD_seq ?_
   refine wpD_sr ?_
   refine pu ?_
   refine pu ?_
   refine ops_nt ?_
   refine wpD_cond rfl (fun hc124 => ?_) (fun hc124 => ?_)
   ·replace hm := yes_t hc124 hm
    refine wpD_region ?_
    refine pu ?_
    refine pu ?_
    refine p_lit htab rfl rfl rfl rfl rfl rfl rfl rfl rfl rfl rfl rfl rfl rfl ?_
    refine p_eq (i := 45) (d' := .lst 1 (([a1] : List ByteArray).map eStr) .full) rfl (Wk.lst0 (.cons (WkC.refl _) (.nil))) ?_
    obtain ⟨x125, q125, hm⟩ := yes_bind hm
    refine p_appR2 0 htab rfl rfl rfl rfl rfl rfl rfl rfl rfl rfl rfl rfl rfl rfl rfl rfl (app_bound q125) (app_map q125) (fun v125 => ?_)
    refine pu ?_
    refine ops_n2 ?_
    refine pu ?_
    refine pu ?_
    refine ops_nt ?_
    refine wpD_ret ?_
    have er126 := yes_eq hm; subst er126
    refine rP (t' := [(4, .v (SL v125))]) [0] [] 1 (wC wN) (lT lN) ?_
    exact ⟨v125, rfl, rfl, rfl⟩
   ·replace hm := yes_f hc124 hm
    refine wpD_skip ?_
    refine then_normal ?_
    refine wpD_sr ?_
    refine pu ?_
    refine pu ?_
    refine ops_nt ?_
    refine wpD_ret ?_
    have er127 := yes_eq hm; subst er127
    refine rP (t' := [(4, .v (SL z63))]) [0] [] 1 (wC wN) (lT lN) ?_
    exact ⟨z63, rfl, rfl, rfl⟩
abbrev nlMe2_1 : List (List Nat) := [[],[],[1],[1,2],[1,2,3],[],[],[5,6],[5,6,7],[],[5,6,7,8,9],[5,6,7,8,9,10],[1,2,3,4,5,6,7,8,9,10,11],[0,1,2,3,4,5,6,7,8,9,10,11,12],[0,1,2,3,4,5,6,7,8,9,10,11,12,13],[0,1,2,3,4,5,6,7,8,9,10,11,12,13,14]]
noncomputable def r19_New_r (a0 : TApiProgram) : Option (TSondageref19Mem) :=
  (Option.bind (α := List ByteArray) (loopM (fun (s21 : List ByteArray × Int) => (bif (decide (s21.2 < (a0.gGlobals.length : Int))) then ((idx a0.gGlobals s21.2).bind fun x34 => ((r07_Put_r s21.1 x34.gName).bind fun x36 => some (.next (x36, (IntKind.i64.wrap (s21.2 + (1 : Int))))))) else some (.done s21.1))) (([] : List ByteArray), (0 : Int))) fun y20 => (Option.bind (α := List TApiCell × List TApiWord) (loopM (fun (s298 : Int × List TApiCell × List TApiWord) => (bif (decide (s298.1 < (y20.length : Int))) then ((idx y20 s298.1).bind fun x496 => ((r18_Global a0 x496).bind fun x497 => ((idx a0.gGlobals x497).bind fun x498 => (Option.bind (α := List TApiCell × List TApiWord) (loopM (fun (s528 : Int × List TApiCell × List TApiWord) => ((idx y20 s298.1).bind fun x550 => ((r19_size a0 x550).bind fun x551 => (bif (decide (s528.1 < x551)) then ((idx y20 s298.1).bind fun x553 => ((app 24 s528.2.1 ([(⟨x553, s528.1⟩ : TApiCell)] : List TApiCell)).bind fun x554 => ((app 40 s528.2.2 ([(⟨x498.gPtr, (0 : Int), (⟨ByteArray.empty, (0 : Int)⟩ : TApiCell)⟩ : TApiWord)] : List TApiWord)).bind fun x555 => some (.next ((IntKind.i64.wrap (s528.1 + (1 : Int))), x554, x555))))) else some (.done (s528.2.1, s528.2.2)))))) ((0 : Int), s298.2.1, s298.2.2)) fun y527 => some (.next ((IntKind.i64.wrap (s298.1 + (1 : Int))), y527.1, y527.2)))))) else some (.done (s298.2.1, s298.2.2)))) ((0 : Int), ([] : List TApiCell), ([] : List TApiWord))) fun y297 => some (⟨a0, y297.1, y297.2⟩ : TSondageref19Mem)))
set_option maxRecDepth 100000 in
set_option maxHeartbeats 2000000 in
theorem r19_New_r_ok (a0 : TApiProgram) (r : TSondageref19Mem) (h0 : r19_New_r a0 = some r) : CallsD Try.prog 7 [eTApiProgram a0] [] [] (fun d h k => ∃ y0 y1 y2, d = .ptr y0 0 ∧ h = [(y0, Blk.cells [.lst 4 (r.gP.gGlobals.map eTApiGlobal) .no, .lst 5 (r.gP.gFuncs.map eTApiFunc) .no, .lst 2 (r.gCells.map eTApiCell) (.cur y1), .v (SL y2)] 56), (0, Blk.row 4 (r.gWords.map eTApiWord) (SL y2))] ∧ k = [(2, y1)]) := by
  have hm := yes_of h0
  unfold r19_New_r at hm
  clear h0
  refine enterX htab Try.func7 rfl rfl rfl rfl rfl (fun C => ?_)
  refine wpD_sr ?_
  refine p_box rfl rfl rfl rfl rfl rfl rfl (fun b1 => ?_)
  refine pu ?_
  refine ops_n2 ?_
  refine p_load (d := eTApiProgram a0) 0 htab rfl rfl rfl rfl rfl rfl rfl rfl ?_
  refine p_build (r := [.lst 4 (a0.gGlobals.map eTApiGlobal) .no, .lst 5 (a0.gFuncs.map eTApiFunc) .no, .lst 1 [] .full, .lst 1 [] .full]) htab rfl rfl rfl rfl rfl rfl rfl rfl rfl ?_
  refine p_box rfl rfl rfl rfl rfl rfl rfl (fun b2 => ?_)
  refine pu ?_
  refine ops_n2 ?_
  refine pu ?_
  refine ops_nt ?_
  refine wpD_seq ?_
  refine wpD_sr ?_
  refine pu ?_
  refine ops_nt ?_
  obtain ⟨y20, q20, ho20⟩ := yes_bind hm
  refine wpD_mid (Y := Z3) (fun z20 => (⟨[(1, .ptr b1 0), (3, .ptr b2 0), (4, .v (SL z20))], [(0, Blk.row 1 (y20.map eStr) (SL z20)), (b1, Blk.cells [.lst 4 (a0.gGlobals.map eTApiGlobal) .no, .lst 5 (a0.gFuncs.map eTApiFunc) .no] 25), (b2, Blk.cells [.lst 4 (a0.gGlobals.map eTApiGlobal) .no, .lst 5 (a0.gFuncs.map eTApiFunc) .no, .lst 1 [] .full, .lst 1 [] .full] 56)], []⟩ : S)) ?_ ?_
  ·clear hm; have hm := yes_of q20
   refine wpD_block ?_
   obtain ⟨u21, hl21, hq21⟩ := yes_m hm
   refine loop_M (Y := Z3) hl21 (fun s21 z21 => (⟨[(1, .ptr b1 0), (3, .ptr b2 0), (4, .v (SL z21)), (5, .v (.int .i64 s21.2))], [(0, Blk.row 1 (s21.1.map eStr) (SL z21)), (b1, Blk.cells [.lst 4 (a0.gGlobals.map eTApiGlobal) .no, .lst 5 (a0.gFuncs.map eTApiFunc) .no] 25), (b2, Blk.cells [.lst 4 (a0.gGlobals.map eTApiGlobal) .no, .lst 5 (a0.gFuncs.map eTApiFunc) .no, .lst 1 [] .full, .lst 1 [] .full] 56)], []⟩ : S)) ?_ ?_
   ·skip
    refine WkX.rowN (i := 4) 1 rfl (fun w32 => ?_)
    exact WkX.of w32 (WkS.perm (WkS.cons rfl (Wk.refl _) (WkS.cons rfl (Wk.refl _) (WkS.cons rfl (Wk.refl _) (WkS.cons rfl (Wk.refl _) (WkS.nil))))) Pf Pf)
   ·intro G21 s21 z21 hm
    refine wpD_seq ?_
    refine wpD_sr ?_
    refine pu ?_
    refine pu ?_
    refine pL 1 ?_
    refine p_lenL htab rfl rfl rfl rfl rfl rfl rfl (by first | exact map_len | rfl) ?_
    refine pu ?_
    refine ops_nt ?_
    refine wpD_cond rfl (fun hc33 => ?_) (fun hc33 => ?_)
    ·replace hm := yes_t hc33 hm
     refine wpD_skip ?_
     refine then_normal ?_
     refine wpD_seq ?_
     refine wpD_block ?_
     refine wpD_region ?_
     refine pu ?_
     refine pu ?_
     refine pL 1 ?_
     refine pu ?_
     obtain ⟨x34, q34, hm⟩ := yes_bind hm
     refine p_elem htab rfl rfl rfl rfl rfl rfl rfl rfl rfl rfl (idx_nonneg q34) (idx_map q34) ?_
     refine pu ?_
     refine p_loadEl htab rfl rfl rfl rfl rfl rfl rfl rfl ?_
     refine o_norm (WkS.frz 0 rfl rfl) ?_
     refine o_norm (WkS.tld 4 0 rfl rfl) ?_
     refine o_norm (WkS.tld 19 0 rfl rfl) ?_
     refine o_norm (WkS.drop 0 rfl) ?_
     obtain ⟨x36, q36, hm⟩ := yes_bind hm
     refine p_callG (r07_Put_r_ok s21.1 x34.gName x36 q36) rfl rfl rfl rfl rfl (WkL.cons (Wk.no) (WkL.cons (Wk.refl _) Wl)) Pf Pf ?_
     rintro _ _ _ ⟨w35, rfl, rfl, rfl⟩
     refine pu ?_
     refine ops_nil ?_
     refine block_normal ?_
     refine then_normal ?_
     refine wpD_region ?_
     iterate 3 refine pu ?_
     refine ops_nil ?_
     refine then_normal ⟨_, lp_next hm, ?_⟩
     exact WkX.of w35 (WkS.perm (WkS.cons rfl (Wk.refl _) (WkS.cons rfl (Wk.refl _) (WkS.cons rfl (Wk.refl _) (WkS.cons rfl (Wk.refl _) (WkS.nil))))) Pf Pf)
    ·replace hm := yes_f hc33 hm
     refine wpD_exit ?_
     refine then_exit ?_
     have e21 := lp_done hm; subst e21; clear hm; have hm := hq21
     refine then_exit ?_
     refine block_hit ?_
     have e20 := yes_eq hm; subst e20
     refine ⟨rfl, ?_⟩
     exact WkX.of z21 (WkS.perm (WkS.cons rfl (Wk.refl _) (WkS.cons rfl (Wk.refl _) (WkS.cons rfl (Wk.refl _) (WkS.nil)))) Pf Pf)
  ·intro s20 hw20; clear hm; have hm := ho20; clear q20 ho20
   refine then_normal ?_
   refine wpD_wkX hw20 (fun z20 => ?_)
   refine wpD_seq ?_
   refine wpD_sr ?_
   refine pu ?_
   refine ops_nt ?_
   obtain ⟨y297, q297, ho297⟩ := yes_bind hm
   refine wpD_mid (Y := Value × Z3) (fun z297 => (⟨[(3, .ptr b2 0)], [(0, Blk.row 4 (y297.2.map eTApiWord) (SL z297.2)), (b2, Blk.cells [.lst 4 (a0.gGlobals.map eTApiGlobal) .no, .lst 5 (a0.gFuncs.map eTApiFunc) .no, .lst 2 (y297.1.map eTApiCell) (.cur z297.1), .v (SL z297.2)] 56)], [(2, z297.1)]⟩ : S)) ?_ ?_
   ·clear hm; have hm := yes_of q297
    refine wpD_block ?_
    obtain ⟨u298, hl298, hq298⟩ := yes_m hm
    refine loop_M (Y := Value × Z3) hl298 (fun s298 z298 => (⟨[(1, .ptr b1 0), (3, .ptr b2 0), (4, .v (SL z20)), (6, .v (.int .i64 s298.1))], [(0, Blk.row 4 (s298.2.2.map eTApiWord) (SL z298.2)), (0, Blk.row 1 (y20.map eStr) (SL z20)), (b1, Blk.cells [.lst 4 (a0.gGlobals.map eTApiGlobal) .no, .lst 5 (a0.gFuncs.map eTApiFunc) .no] 25), (b2, Blk.cells [.lst 4 (a0.gGlobals.map eTApiGlobal) .no, .lst 5 (a0.gFuncs.map eTApiFunc) .no, .lst 2 (s298.2.1.map eTApiCell) (.cur z298.1), .v (SL z298.2)] 56)], [(2, z298.1)]⟩ : S)) ?_ ?_
    ·skip
     refine WkX.cellF (off := 2) 2 2 rfl rfl (by first | exact Or.inl rfl | exact Or.inr rfl) (fun w493 => ?_)
     refine WkX.rowC (off := 3) 4 2 rfl rfl (fun w494 => ?_)
     exact WkX.of (w493, w494) (WkS.perm (WkS.cons rfl (Wk.refl _) (WkS.cons rfl (Wk.refl _) (WkS.cons rfl (Wk.refl _) (WkS.cons rfl (Wk.refl _) (WkS.nil))))) Pf Pf)
    ·intro G298 s298 z298 hm
     refine wpD_seq ?_
     refine wpD_sr ?_
     refine pu ?_
     refine pu ?_
     refine p_lenR 1 htab rfl rfl rfl rfl rfl rfl rfl rfl (by first | exact map_len | rfl) ?_
     refine pu ?_
     refine ops_nt ?_
     refine wpD_cond rfl (fun hc495 => ?_) (fun hc495 => ?_)
     ·replace hm := yes_t hc495 hm
      refine wpD_skip ?_
      refine then_normal ?_
      refine wpD_seq ?_
      refine wpD_block ?_
      refine wpD_seq ?_
      obtain ⟨x496, q496, hm⟩ := yes_bind hm
      obtain ⟨x497, q497, hm⟩ := yes_bind hm
      refine wpD_draws 8 [] [[],[0],[],[],[],[3],[3,5],[2,3,5]] [0,1,2,3,5,7] [[],[0],[],[],[],[3,4],[3,4,5],[2,3,4,5,6],[0,1,2,3,4,5,6,7],[0,1,2,3,4,5,6,7,8],[0,1,2,3,4,5,6,7,8,9],[0,1,2,3,4,5,6,7,8,9,10]] (by kernel_rfl) (by kernel_rfl) (by kernel_rfl) (by rfl) (by rfl) (by kernel_rfl) ?_
      iterate 6 apply Exists.intro
      intro bs
      refine zep ?_
      refine z_eM rfl rfl (xm_load 2 htab rfl rfl rfl rfl rfl) rfl rfl rfl rfl rfl rfl ?_
      refine z_eM rfl rfl (xm_load (d := eTApiProgram a0) 2 htab rfl rfl rfl rfl rfl) rfl rfl rfl rfl rfl rfl ?_
      refine zep ?_
      refine zqp ?_
      refine z_eM rfl rfl ((xm_elemR 1 htab rfl rfl rfl rfl rfl rfl rfl rfl (idx_nonneg q496) (idx_map q496))) rfl rfl rfl rfl rfl rfl ?_
      refine z_qM rfl rfl ((xm_loadR (d := .v (.string x496)) (d0 := eStr x496) 1 htab rfl rfl rfl rfl (idx_map q496) rfl (by simp [dcells, eStr]))) rfl rfl rfl rfl rfl rfl ?_
      refine z_call rfl rfl (r18_Global_ok a0 x496 x497 q497) rfl rfl Wl rfl rfl rfl rfl rfl rfl ?_
      refine z_nil rfl rfl (fun e he => by simp [isAl] at he) ?_
      obtain ⟨x498, q498, hm⟩ := yes_bind hm
      refine p_elem htab rfl rfl rfl rfl rfl rfl rfl rfl rfl rfl (idx_nonneg q498) (idx_map q498) ?_
      refine pu ?_
      refine p_loadEl htab rfl rfl rfl rfl rfl rfl rfl rfl ?_
      refine pu ?_
      refine ops_n2 ?_
      refine pu ?_
      refine ops_nt ?_
      obtain ⟨y527, q527, ho527⟩ := yes_bind hm
      refine wpD_mid (Y := Value × Z3) (fun z527 => (⟨[(1, .ptr b1 0), (3, .ptr b2 0), (4, .v (SL z20)), (6, .v (.int .i64 s298.1))], [(0, Blk.row 4 (y527.2.map eTApiWord) (SL z527.2)), (0, Blk.row 1 (y20.map eStr) (SL z20)), (b1, Blk.cells [.lst 4 (a0.gGlobals.map eTApiGlobal) .no, .lst 5 (a0.gFuncs.map eTApiFunc) .no] 25), (b2, Blk.cells [.lst 4 (a0.gGlobals.map eTApiGlobal) .no, .lst 5 (a0.gFuncs.map eTApiFunc) .no, .lst 2 (y527.1.map eTApiCell) (.cur z527.1), .v (SL z527.2)] 56)], [(2, z527.1)]⟩ : S)) ?_ ?_
      ·clear hm; have hm := yes_of q527
       refine wpD_block ?_
       obtain ⟨u528, hl528, hq528⟩ := yes_m hm
       refine loop_M (Y := Value × Z3) hl528 (fun s528 z528 => (⟨[(1, .ptr b1 0), (3, .ptr b2 0), (4, .v (SL z20)), (6, .v (.int .i64 s298.1)), (7, .v (.bool x498.gPtr)), (8, .v (.int .i64 s528.1))], [(0, Blk.row 4 (s528.2.2.map eTApiWord) (SL z528.2)), (0, Blk.row 1 (y20.map eStr) (SL z20)), (b1, Blk.cells [.lst 4 (a0.gGlobals.map eTApiGlobal) .no, .lst 5 (a0.gFuncs.map eTApiFunc) .no] 25), (b2, Blk.cells [.lst 4 (a0.gGlobals.map eTApiGlobal) .no, .lst 5 (a0.gFuncs.map eTApiFunc) .no, .lst 2 (s528.2.1.map eTApiCell) (.cur z528.1), .v (SL z528.2)] 56)], [(2, z528.1)]⟩ : S)) ?_ ?_
       ·skip
        exact WkX.of (z298.1, z298.2) (WkS.perm (WkS.cons rfl (Wk.refl _) (WkS.cons rfl (Wk.refl _) (WkS.cons rfl (Wk.refl _) (WkS.cons rfl (Wk.refl _) (WkS.cons rfl (Wk.refl _) (WkS.cons rfl (Wk.refl _) (WkS.nil))))))) Pf Pf)
       ·intro G528 s528 z528 hm
        refine wpD_seq ?_
        refine wpD_seq ?_
        obtain ⟨x550, q550, hm⟩ := yes_bind hm
        obtain ⟨x551, q551, hm⟩ := yes_bind hm
        refine wpD_draws 7 [] [[],[],[],[],[2],[2,4],[1,2,4]] [1,2,4,6] [[],[],[],[],[2,3],[2,3,4],[1,2,3,4,5],[0,1,2,3,4,5,6]] (by kernel_rfl) (by kernel_rfl) (by kernel_rfl) (by rfl) (by rfl) (by kernel_rfl) ?_
        iterate 4 apply Exists.intro
        intro bs
        refine zqp ?_
        refine z_eM rfl rfl (xm_load (d := eTApiProgram a0) 2 htab rfl rfl rfl rfl rfl) rfl rfl rfl rfl rfl rfl ?_
        refine zep ?_
        refine zqp ?_
        refine z_eM rfl rfl ((xm_elemR 1 htab rfl rfl rfl rfl rfl rfl rfl rfl (idx_nonneg q550) (idx_map q550))) rfl rfl rfl rfl rfl rfl ?_
        refine z_qM rfl rfl ((xm_loadR (d := .v (.string x550)) (d0 := eStr x550) 1 htab rfl rfl rfl rfl (idx_map q550) rfl (by simp [dcells, eStr]))) rfl rfl rfl rfl rfl rfl ?_
        refine z_call rfl rfl (r19_size_ok a0 x550 x551 q551) rfl rfl Wl rfl rfl rfl rfl rfl rfl ?_
        refine z_nil rfl rfl (fun e he => by simp [isAl] at he) ?_
        refine pu ?_
        refine ops_nt ?_
        refine wpD_cond rfl (fun hc552 => ?_) (fun hc552 => ?_)
        ·replace hm := yes_t hc552 hm
         refine wpD_skip ?_
         refine then_normal ?_
         refine wpD_seq ?_
         refine wpD_block ?_
         refine wpD_seq ?_
         obtain ⟨x553, q553, hm⟩ := yes_bind hm
         obtain ⟨x554, q554, hm⟩ := yes_bind hm
         refine wpD_app 13 [] [[],[],[1],[1,2],[1,2,3],[],[],[5],[5,7],[],[5,7,8],[5,7,8,10],[1,2,3,4,5,7,8,10,11]] [0,1,2,3,4,5,7,8,10,11,12] nlMe2_1 12 2 0 (by kernel_rfl) (by kernel_rfl) (by kernel_rfl) (by rfl) (by rfl) (by kernel_rfl) rfl ?_
         iterate 11 apply Exists.intro
         refine ⟨.any, ?_⟩
         intro bs v554
         iterate 4 refine zh_e rfl rfl (ex_pure htab rfl) rfl rfl rfl rfl rfl rfl rfl rfl ?_
         refine zh_M rfl rfl (fun _ => xm_load 3 htab rfl rfl rfl rfl rfl) (offB rfl) rfl rfl rfl rfl rfl rfl rfl rfl ?_
         refine zh_e rfl rfl (ex_pure htab rfl) rfl rfl rfl rfl rfl rfl rfl rfl ?_
         refine zh_q rfl rfl (ex_pure htab rfl) rfl rfl rfl rfl rfl rfl ?_
         refine zh_M rfl rfl (fun _ => (xm_elemR 1 htab rfl rfl rfl rfl rfl rfl rfl rfl (idx_nonneg q553) (idx_map q553))) (offB rfl) rfl rfl rfl rfl rfl rfl rfl rfl ?_
         refine zh_M rfl rfl (fun _ => (xm_loadR (d := .v (.string x553)) (d0 := eStr x553) 1 htab rfl rfl rfl rfl (idx_map q553) rfl (by simp [dcells, eStr]))) (offB rfl) rfl rfl rfl rfl rfl rfl rfl rfl ?_
         refine zh_q rfl rfl (ex_pure htab rfl) rfl rfl rfl rfl rfl rfl ?_
         refine zh_e rfl rfl (x_build (r := [.v (.string x553), .v (.int .i64 s528.1)]) htab rfl rfl rfl rfl rfl rfl) rfl rfl rfl rfl rfl rfl rfl rfl ?_
         refine zh_E rfl rfl (ExE.wk (x_lit htab rfl rfl rfl rfl rfl rfl rfl rfl rfl rfl rfl) (show Wk _ (.lst 2 (([(⟨x553, s528.1⟩ : TApiCell)] : List TApiCell).map eTApiCell) .full) from Wk.lst0 (.cons (WkC.refl _) (.nil)))) rfl rfl rfl rfl rfl rfl rfl rfl ?_
         refine zh_app htab rfl rfl rfl rfl rfl rfl rfl rfl (rep_of rfl) rfl (app_kC rfl) (perm_at (j := 0) rfl) rfl rfl rfl rfl rfl rfl rfl rfl rfl (app_bound q554) (app_map q554) ?_
         refine zh_nil rfl rfl rfl rfl (fun e he => by simp [isAl] at he) ?_
         refine pu ?_
         refine pu ?_
         refine pS3 (ds' := [.lst 4 (a0.gGlobals.map eTApiGlobal) .no, .lst 5 (a0.gFuncs.map eTApiFunc) .no, .lst 2 (x554.map eTApiCell) (.cur v554), .v (SL z528.2)]) ?_
         refine ops_nt ?_
         refine wpD_region ?_
         iterate 4 refine pu ?_
         refine pL 3 ?_
         refine pu ?_
         refine p_build (r := [.v (.bool x498.gPtr), .v (.int .i64 (0 : Int)), .v (.string ByteArray.empty), .v (.int .i64 (0 : Int))]) htab rfl rfl rfl rfl rfl rfl rfl rfl rfl ?_
         refine p_lit htab rfl rfl rfl rfl rfl rfl rfl rfl rfl rfl rfl rfl rfl rfl ?_
         refine p_eq (i := 76) (d' := .lst 4 (([(⟨x498.gPtr, (0 : Int), (⟨ByteArray.empty, (0 : Int)⟩ : TApiCell)⟩ : TApiWord)] : List TApiWord).map eTApiWord) .full) rfl (Wk.lst0 (.cons (WkC.refl _) (.nil))) ?_
         obtain ⟨x555, q555, hm⟩ := yes_bind hm
         refine p_appR2 0 htab rfl rfl rfl rfl rfl rfl rfl rfl rfl rfl rfl rfl rfl rfl rfl rfl (app_bound q555) (app_map q555) (fun v555 => ?_)
         refine pu ?_
         refine pu ?_
         refine pS3 (ds' := [.lst 4 (a0.gGlobals.map eTApiGlobal) .no, .lst 5 (a0.gFuncs.map eTApiFunc) .no, .lst 2 (x554.map eTApiCell) (.cur v554), .v (SL v555)]) ?_
         refine ops_nil ?_
         refine block_normal ?_
         refine then_normal ?_
         refine wpD_region ?_
         iterate 3 refine pu ?_
         refine ops_nil ?_
         refine then_normal ⟨_, lp_next hm, ?_⟩
         exact WkX.of (v554, v555) (WkS.perm (WkS.cons rfl (Wk.refl _) (WkS.cons rfl (Wk.refl _) (WkS.cons rfl (Wk.refl _) (WkS.cons rfl (Wk.refl _) (WkS.cons rfl (Wk.refl _) (WkS.cons rfl (Wk.refl _) (WkS.nil))))))) Pf Pf)
        ·replace hm := yes_f hc552 hm
         refine wpD_exit ?_
         refine then_exit ?_
         have e528 := lp_done hm; subst e528; clear hm; have hm := hq528
         refine then_exit ?_
         refine block_hit ?_
         have e527 := yes_eq hm; subst e527
         refine ⟨rfl, ?_⟩
         exact WkX.of (z528.1, z528.2) (WkS.perm (WkS.cons rfl (Wk.refl _) (WkS.cons rfl (Wk.refl _) (WkS.cons rfl (Wk.refl _) (WkS.cons rfl (Wk.refl _) (WkS.nil))))) Pf Pf)
      ·intro s527 hw527; clear hm; have hm := ho527; clear q527 ho527
       refine block_normal ?_
       refine then_normal ?_
       refine wpD_wkX hw527 (fun z527 => ?_)
       refine wpD_region ?_
       iterate 3 refine pu ?_
       refine ops_nil ?_
       refine then_normal ⟨_, lp_next hm, ?_⟩
       exact WkX.of (z527.1, z527.2) (WkS.perm (WkS.cons rfl (Wk.refl _) (WkS.cons rfl (Wk.refl _) (WkS.cons rfl (Wk.refl _) (WkS.cons rfl (Wk.refl _) (WkS.nil))))) Pf Pf)
     ·replace hm := yes_f hc495 hm
      refine wpD_exit ?_
      refine then_exit ?_
      have e298 := lp_done hm; subst e298; clear hm; have hm := hq298
      refine then_exit ?_
      refine block_hit ?_
      have e297 := yes_eq hm; subst e297
      refine ⟨rfl, ?_⟩
      exact WkX.of (z298.1, z298.2) (WkS.perm (WkS.cons rfl (Wk.refl _) (WkS.nil)) ((perm_at (j := 0) rfl).trans (List.Perm.cons _ ((perm_at (j := 2) rfl).trans (List.Perm.cons _ Pf)))) Pf)
   ·intro s297 hw297; clear hm; have hm := ho297; clear q297 ho297
    refine then_normal ?_
    refine wpD_wkX hw297 (fun z297 => ?_)
    refine wpD_sr ?_
    refine pu ?_
    refine pu ?_
    refine ops_nt ?_
    refine wpD_ret ?_
    have er556 := yes_eq hm; subst er556
    refine rP (t' := [(2, .ptr b2 0)]) [1,0] [0] 2 (wC wN) (lT lN) ?_
    exact ⟨b2, z297.1, z297.2, rfl, rfl, rfl⟩
noncomputable def r19_Mem_Get_w (m0 : TSondageref19Mem) (a1 : TApiCell) : Option (TApiWord × Int) :=
  (bif (decide (a1.gName = (ByteArray.mk #[]))) then some ((⟨false, (0 : Int), (⟨ByteArray.empty, (0 : Int)⟩ : TApiCell)⟩ : TApiWord), (12 : Int)) else ((r19_Mem_Find_w m0 a1).bind fun x6 => (bif (x6.2 != (0 : Int)) then some ((⟨false, (0 : Int), (⟨ByteArray.empty, (0 : Int)⟩ : TApiCell)⟩ : TApiWord), x6.2) else ((idx m0.gWords x6.1).bind fun x10 => some (x10, (0 : Int))))))
set_option maxRecDepth 100000 in
set_option maxHeartbeats 2000000 in
theorem r19_Mem_Get_w_ok (m0 : TSondageref19Mem) (a1 : TApiCell) (o0 : Nat) (T0 : TypeId) (c0_0 : Cap) (c0_1 : Cap) (c0_2 : Cap) (z0_3 : Z3) (r : TApiWord × Int) (h0 : r19_Mem_Get_w m0 a1 = some r) : CallsD Try.prog 9 [.ptr o0 0, eTApiCell a1] [(o0, Blk.cells [.lst 4 (m0.gP.gGlobals.map eTApiGlobal) c0_0, .lst 5 (m0.gP.gFuncs.map eTApiFunc) c0_1, .lst 2 (m0.gCells.map eTApiCell) c0_2, .v (SL z0_3)] T0), (0, Blk.row 4 (m0.gWords.map eTApiWord) (SL z0_3))] [] (fun d h k => d = .tup [eTApiWord r.1, .v (.int .i64 r.2)] ∧ h = [(o0, Blk.cells [.lst 4 (m0.gP.gGlobals.map eTApiGlobal) c0_0, .lst 5 (m0.gP.gFuncs.map eTApiFunc) c0_1, .lst 2 (m0.gCells.map eTApiCell) c0_2, .v (SL z0_3)] T0), (0, Blk.row 4 (m0.gWords.map eTApiWord) (SL z0_3))] ∧ k = []) := by
  have hm := yes_of h0
  unfold r19_Mem_Get_w at hm
  clear h0
  refine enterX htab Try.func9 rfl rfl rfl rfl rfl (fun C => ?_)
  refine wpD_sr ?_
  refine p_box rfl rfl rfl rfl rfl rfl rfl (fun b1 => ?_)
  refine p_alloc htab rfl rfl rfl rfl rfl rfl rfl (fun b2 => ?_)
  refine pu ?_
  refine ops_nt ?_
  refine wpD_seq ?_
  refine wpD_sr ?_
  refine pu ?_
  refine pL 2 ?_
  refine pu ?_
  refine ops_nt ?_
  refine wpD_cond rfl (fun hc4 => ?_) (fun hc4 => ?_)
  ·replace hm := yes_t hc4 hm
   refine wpD_sr ?_
   refine p_build (r := [.v (.bool false), .v (.int .i64 (0 : Int)), .v (.string ByteArray.empty), .v (.int .i64 (0 : Int))]) htab rfl rfl rfl rfl rfl rfl rfl rfl rfl ?_
   refine pS3 (ds' := [.v (.bool false), .v (.int .i64 (0 : Int)), .v (.string ByteArray.empty), .v (.int .i64 (0 : Int))]) ?_
   refine pu ?_
   refine ops_nt ?_
   refine wpD_ret ?_
   refine then_ret ?_
   have er5 := yes_eq hm; subst er5
   refine rP (t' := [(4, .ptr b2 0), (5, .v (.int .i64 (12 : Int)))]) [0,0,1] [] 2 (wC (wC wN)) (lC 2 (lT lN)) ?_
   exact ⟨rfl, rfl, rfl⟩
  ·replace hm := yes_f hc4 hm
   refine wpD_skip ?_
   refine then_normal ?_
   refine wpD_sr ?_
   refine pu ?_
   refine p_load (d := eTApiCell a1) 2 htab rfl rfl rfl rfl rfl rfl rfl rfl ?_
   obtain ⟨x6, q6, hm⟩ := yes_bind hm
   refine pG (r19_Mem_Find_w_ok m0 a1 o0 T0 c0_0 c0_1 c0_2 z0_3 x6 q6) Wl Pf Pf ?_
   rintro _ _ _ ⟨rfl, rfl, rfl⟩
   iterate 5 refine pu ?_
   refine ops_nt ?_
   refine wpD_seq ?_
   refine wpD_sr ?_
   refine pu ?_
   refine pu ?_
   refine ops_nt ?_
   refine wpD_cond rfl (fun hc8 => ?_) (fun hc8 => ?_)
   ·replace hm := yes_t hc8 hm
    refine wpD_sr ?_
    refine p_build (r := [.v (.bool false), .v (.int .i64 (0 : Int)), .v (.string ByteArray.empty), .v (.int .i64 (0 : Int))]) htab rfl rfl rfl rfl rfl rfl rfl rfl rfl ?_
    refine pu ?_
    refine pS3 (ds' := [.v (.bool false), .v (.int .i64 (0 : Int)), .v (.string ByteArray.empty), .v (.int .i64 (0 : Int))]) ?_
    refine pu ?_
    refine ops_nt ?_
    refine wpD_ret ?_
    refine then_ret ?_
    have er9 := yes_eq hm; subst er9
    refine rP (t' := [(4, .ptr b2 0), (5, .v (.int .i64 x6.2))]) [0,0,1] [] 2 (wC (wC wN)) (lC 2 (lT lN)) ?_
    exact ⟨rfl, rfl, rfl⟩
   ·replace hm := yes_f hc8 hm
    refine wpD_skip ?_
    refine then_normal ?_
    refine wpD_sr ?_
    iterate 3 refine pu ?_
    refine pL 0 ?_
    refine pu ?_
    obtain ⟨x10, q10, hm⟩ := yes_bind hm
    refine p_elemR 1 htab rfl rfl rfl rfl rfl rfl rfl rfl rfl rfl rfl (idx_nonneg q10) (idx_map q10) ?_
    refine p_loadR (d := eTApiWord x10) (d0 := eTApiWord x10) 1 htab rfl rfl rfl rfl rfl rfl rfl (idx_map q10) rfl (by simp [dcells, eTApiWord]) ?_
    refine pS3 (ds' := [.v (.bool x10.gPtr), .v (.int .i64 x10.gN), .v (.string x10.gTo.gName), .v (.int .i64 x10.gTo.gAt)]) ?_
    refine pu ?_
    refine ops_nt ?_
    refine wpD_ret ?_
    have er11 := yes_eq hm; subst er11
    refine rP (t' := [(4, .ptr b2 0), (5, .v (.int .i64 (0 : Int)))]) [0,0,1] [] 2 (wC (wC wN)) (lC 2 (lT lN)) ?_
    exact ⟨rfl, rfl, rfl⟩
noncomputable def mem_Mem_All_r (m0 : TMemMem) : Option (List TMemHeld) :=
  (Option.bind (α := List TMemHeld) (loopM (fun (s24 : List TMemHeld × Int) => (bif (decide (s24.2 < (m0.gCells.length : Int))) then ((idx m0.gCells s24.2).bind fun x42 => ((app 64 s24.1 ([(⟨x42, (⟨(mgetD m0.gWords x42 (⟨false, (0 : Int), (⟨ByteArray.empty, (0 : Int)⟩ : TApiCell)⟩ : TApiWord)).gPtr, (mgetD m0.gWords x42 (⟨false, (0 : Int), (⟨ByteArray.empty, (0 : Int)⟩ : TApiCell)⟩ : TApiWord)).gN, ((mgetD m0.gWords x42 (⟨false, (0 : Int), (⟨ByteArray.empty, (0 : Int)⟩ : TApiCell)⟩ : TApiWord)).gTo)⟩ : TApiWord)⟩ : TMemHeld)] : List TMemHeld)).bind fun x44 => some (.next (x44, (IntKind.i64.wrap (s24.2 + (1 : Int))))))) else some (.done s24.1))) (([] : List TMemHeld), (0 : Int))) fun y23 => ((need (len62H y23)).bind fun x45 => some (sortH y23)))
set_option maxRecDepth 100000 in
set_option maxHeartbeats 2000000 in
theorem mem_Mem_All_r_ok (m0 : TMemMem) (o0 : Nat) (T0 : TypeId) (z0_0 : Nat) (z0_1 : Nat) (c0_2 : Cap) (r : List TMemHeld) (h0 : mem_Mem_All_r m0 = some r) : CallsD Try.prog 14 [.ptr o0 0] [(o0, Blk.cells [.v (.map (some z0_0)), .v (.map (some z0_1)), .lst 2 (m0.gCells.map eTApiCell) c0_2] T0), (z0_0, Blk.mp (m0.gSizes.map fun p => ((fun s : ByteArray => Value.string s) p.1, eI64 p.2))), (z0_1, Blk.mp (m0.gWords.map fun p => ((fun a => Value.agg (kcTApiCell a).toArray) p.1, eTApiWord p.2)))] [] (fun d h k => ∃ y0, d = .v (SL y0) ∧ h = [(o0, Blk.cells [.v (.map (some z0_0)), .v (.map (some z0_1)), .lst 2 (m0.gCells.map eTApiCell) c0_2] T0), (0, Blk.row 6 (r.map eTMemHeld) (SL y0)), (z0_0, Blk.mp (m0.gSizes.map fun p => ((fun s : ByteArray => Value.string s) p.1, eI64 p.2))), (z0_1, Blk.mp (m0.gWords.map fun p => ((fun a => Value.agg (kcTApiCell a).toArray) p.1, eTApiWord p.2)))] ∧ k = []) := by
  have hm := yes_of h0
  unfold mem_Mem_All_r at hm
  clear h0
  refine enterX htab Try.func14 rfl rfl rfl rfl rfl (fun C => ?_)
  refine wpD_sr ?_
  refine pu ?_
  refine ops_n2 ?_
  refine pu ?_
  refine ops_nt ?_
  refine wpD_seq ?_
  refine wpD_sr ?_
  refine pu ?_
  refine p_eqP htab rfl rfl rfl rfl rfl rfl rfl rfl rfl rfl ?_
  refine ops_nt ?_
  refine wpD_false rfl ?_
  refine wpD_skip ?_
  refine then_normal ?_
  refine wpD_seq ?_
  refine wpD_sr ?_
  iterate 3 refine pu ?_
  refine pL 0 ?_
  refine p_lenL htab rfl rfl rfl rfl rfl rfl rfl (by first | exact map_len | rfl) ?_
  refine pu ?_
  refine ops_nt ?_
  obtain ⟨y23, q23, ho23⟩ := yes_bind hm
  refine wpD_mid (Y := Z3) (fun z23 => (⟨[(3, .v (SL z23))], [(0, Blk.row 6 (y23.map eTMemHeld) (SL z23)), (o0, Blk.cells [.v (.map (some z0_0)), .v (.map (some z0_1)), .lst 2 (m0.gCells.map eTApiCell) c0_2] T0), (z0_0, Blk.mp (m0.gSizes.map fun p => ((fun s : ByteArray => Value.string s) p.1, eI64 p.2))), (z0_1, Blk.mp (m0.gWords.map fun p => ((fun a => Value.agg (kcTApiCell a).toArray) p.1, eTApiWord p.2)))], []⟩ : S)) ?_ ?_
  ·clear hm; have hm := yes_of q23
   refine wpD_block ?_
   obtain ⟨u24, hl24, hq24⟩ := yes_m hm
   refine loop_M (Y := Z3) hl24 (fun s24 z24 => (⟨[(0, .ptr o0 0), (3, .v (SL z24)), (12, .lst 2 (m0.gCells.map eTApiCell) c0_2), (13, .v (.int .i64 (m0.gCells.length : Int))), (14, .v (.int .i64 s24.2))], [(0, Blk.row 6 (s24.1.map eTMemHeld) (SL z24)), (o0, Blk.cells [.v (.map (some z0_0)), .v (.map (some z0_1)), .lst 2 (m0.gCells.map eTApiCell) c0_2] T0), (z0_0, Blk.mp (m0.gSizes.map fun p => ((fun s : ByteArray => Value.string s) p.1, eI64 p.2))), (z0_1, Blk.mp (m0.gWords.map fun p => ((fun a => Value.agg (kcTApiCell a).toArray) p.1, eTApiWord p.2)))], []⟩ : S)) ?_ ?_
   ·skip
    refine WkX.rowN (i := 3) 6 rfl (fun w40 => ?_)
    exact WkX.of w40 (WkS.perm (WkS.cons rfl (Wk.refl _) (WkS.cons rfl (Wk.refl _) (WkS.cons rfl (Wk.refl _) (WkS.cons rfl (Wk.refl _) (WkS.cons rfl (Wk.refl _) (WkS.nil)))))) Pf Pf)
   ·intro G24 s24 z24 hm
    refine wpD_sr ?_
    refine pu ?_
    refine ops_nt ?_
    refine wpD_seq ?_
    refine wpD_cond rfl (fun hc41 => ?_) (fun hc41 => ?_)
    ·replace hm := yes_t hc41 hm
     refine wpD_skip ?_
     refine then_normal ?_
     refine wpD_seq ?_
     refine wpD_block ?_
     refine wpD_sr ?_
     obtain ⟨x42, q42, hm⟩ := yes_bind hm
     refine p_elem htab rfl rfl rfl rfl rfl rfl rfl rfl rfl rfl (idx_nonneg q42) (idx_map q42) ?_
     refine p_loadEl (d := eTApiCell x42) htab rfl rfl rfl rfl rfl rfl rfl rfl ?_
     refine p_alloc htab rfl rfl rfl rfl rfl rfl rfl (fun b43 => ?_)
     refine pS4 (ds' := [.v (.string x42.gName), .v (.int .i64 x42.gAt)]) ?_
     refine ops_nt ?_
     refine wpD_draws 10 [] [[],[],[],[2],[2,3],[2,3,4],[],[2,3,4,5,6],[1,2,3,4,5,6,7],[1,2,3,4,5,6,7,8]] [0,1,2,3,4,5,6,7,8,9] [[],[],[],[2],[2,3],[2,3,4],[],[2,3,4,5,6],[1,2,3,4,5,6,7],[1,2,3,4,5,6,7,8],[0,1,2,3,4,5,6,7,8,9],[0,1,2,3,4,5,6,7,8,9,10]] (by kernel_rfl) (by kernel_rfl) (by kernel_rfl) (by rfl) (by rfl) (by kernel_rfl) ?_
     iterate 10 apply Exists.intro
     intro bs
     refine zep ?_
     refine z_eM rfl rfl (xm_load (d := eTApiCell x42) 4 htab rfl rfl rfl rfl rfl) rfl rfl rfl rfl rfl rfl ?_
     iterate 3 refine zep ?_
     refine z_eM rfl rfl (xm_load 1 htab rfl rfl rfl rfl rfl) rfl rfl rfl rfl rfl rfl ?_
     refine z_eM rfl rfl (xm_load (d := eTApiCell x42) 4 htab rfl rfl rfl rfl rfl) rfl rfl rfl rfl rfl rfl ?_
     refine z_eM rfl rfl ((xm_lookup (l := m0.gWords) (f := (fun a => Value.agg (kcTApiCell a).toArray)) (e := eTApiWord) (kk := x42) (z := (⟨false, (0 : Int), (⟨ByteArray.empty, (0 : Int)⟩ : TApiCell)⟩ : TApiWord)) (dr := eTApiWord (⟨(mgetD m0.gWords x42 (⟨false, (0 : Int), (⟨ByteArray.empty, (0 : Int)⟩ : TApiCell)⟩ : TApiWord)).gPtr, (mgetD m0.gWords x42 (⟨false, (0 : Int), (⟨ByteArray.empty, (0 : Int)⟩ : TApiCell)⟩ : TApiWord)).gN, ((mgetD m0.gWords x42 (⟨false, (0 : Int), (⟨ByteArray.empty, (0 : Int)⟩ : TApiCell)⟩ : TApiWord)).gTo)⟩ : TApiWord)) 3 htab rfl rfl rfl rfl rfl rfl rfl mk62 (fun H v h => rep_va_inv (us := kcTApiCell x42) h) mz62 mr62 rfl)) rfl rfl rfl rfl rfl rfl ?_
     refine z_e rfl rfl (x_build (r := [.v (.string x42.gName), .v (.int .i64 x42.gAt), .v (.bool ((mgetD m0.gWords x42 (⟨false, (0 : Int), (⟨ByteArray.empty, (0 : Int)⟩ : TApiCell)⟩ : TApiWord)).gPtr)), .v (.int .i64 ((mgetD m0.gWords x42 (⟨false, (0 : Int), (⟨ByteArray.empty, (0 : Int)⟩ : TApiCell)⟩ : TApiWord)).gN)), .v (.string (((mgetD m0.gWords x42 (⟨false, (0 : Int), (⟨ByteArray.empty, (0 : Int)⟩ : TApiCell)⟩ : TApiWord)).gTo).gName)), .v (.int .i64 (((mgetD m0.gWords x42 (⟨false, (0 : Int), (⟨ByteArray.empty, (0 : Int)⟩ : TApiCell)⟩ : TApiWord)).gTo).gAt))]) htab rfl rfl rfl rfl rfl rfl) rfl rfl rfl rfl rfl rfl ?_
     refine z_E rfl rfl (ExE.wk (x_lit htab rfl rfl rfl rfl rfl rfl rfl rfl rfl rfl rfl) (show Wk _ (.lst 6 (([(⟨x42, (⟨(mgetD m0.gWords x42 (⟨false, (0 : Int), (⟨ByteArray.empty, (0 : Int)⟩ : TApiCell)⟩ : TApiWord)).gPtr, (mgetD m0.gWords x42 (⟨false, (0 : Int), (⟨ByteArray.empty, (0 : Int)⟩ : TApiCell)⟩ : TApiWord)).gN, ((mgetD m0.gWords x42 (⟨false, (0 : Int), (⟨ByteArray.empty, (0 : Int)⟩ : TApiCell)⟩ : TApiWord)).gTo)⟩ : TApiWord)⟩ : TMemHeld)] : List TMemHeld).map eTMemHeld) .full) from Wk.lst0 (.cons (WkC.refl _) (.nil)))) rfl rfl rfl rfl rfl rfl ?_
     refine z_nil rfl rfl (fun e he => by simp [isAl] at he) ?_
     obtain ⟨x44, q44, hm⟩ := yes_bind hm
     refine p_appR2 0 htab rfl rfl rfl rfl rfl rfl rfl rfl rfl rfl rfl rfl rfl rfl rfl rfl (app_bound q44) (app_map q44) (fun v44 => ?_)
     refine pu ?_
     refine ops_nil ?_
     refine block_normal ?_
     refine then_normal ?_
     refine wpD_region ?_
     refine pu ?_
     refine pu ?_
     refine ops_nil ?_
     refine then_normal ⟨_, lp_next hm, ?_⟩
     exact WkX.of v44 (WkS.perm (WkS.cons rfl (Wk.refl _) (WkS.cons rfl (Wk.refl _) (WkS.cons rfl (Wk.refl _) (WkS.cons rfl (Wk.refl _) (WkS.cons rfl (Wk.refl _) (WkS.nil)))))) Pf Pf)
    ·replace hm := yes_f hc41 hm
     refine wpD_exit ?_
     refine then_exit ?_
     have e24 := lp_done hm; subst e24; clear hm; have hm := hq24
     refine then_exit ?_
     refine block_hit ?_
     have e23 := yes_eq hm; subst e23
     refine ⟨rfl, ?_⟩
     exact WkX.of z24 (WkS.perm (WkS.cons rfl (Wk.refl _) (WkS.nil)) Pf Pf)
  ·intro s23 hw23; clear hm; have hm := ho23; clear q23 ho23
   refine then_normal ?_
   refine wpD_wkX hw23 (fun z23 => ?_)
   refine wpD_sr ?_
   refine pu ?_
   obtain ⟨x45, q45, hm⟩ := yes_bind hm
   refine pG (sortH_ok y23 z23 (need_ok q45)) Wl Pf Pf ?_
   rintro _ _ _ ⟨rfl, rfl, rfl⟩
   refine ops_n2 ?_
   refine pu ?_
   refine pu ?_
   refine ops_nt ?_
   refine wpD_ret ?_
   have er46 := yes_eq hm; subst er46
   refine rP (t' := [(2, .v (SL z23))]) [1,0,0,0] [] 4 (wC wN) (lT lN) ?_
   exact ⟨z23, rfl, rfl, rfl⟩
structure TSondagelaw19Deed where
  gKind : Int
  gC : TApiCell
  gW : TApiWord
def eTSondagelaw19Deed (x : TSondagelaw19Deed) : D := .agg [.v (.int .i64 x.gKind), .v (.string x.gC.gName), .v (.int .i64 x.gC.gAt), .v (.bool x.gW.gPtr), .v (.int .i64 x.gW.gN), .v (.string x.gW.gTo.gName), .v (.int .i64 x.gW.gTo.gAt)]
end Go.Proofs.Ytfepijllmfedfaa.Ab
namespace Go.Proofs.Ytfepijllmfedfaa.Ab
open Go
set_option linter.all false
abbrev nlMe2_2 : List (List Nat) := [[],[],[0],[0,2],[0,2,3],[],[5],[5,6],[5,6,7],[],[5,6,7,8],[5,6,7,8,10],[0,2,3,4,5,6,7,8,10,11],[0,2,3,4,5,6,7,8,10,11],[0,2,3,4,5,6,7,8,10,11],[0,2,3,4,5,6,7,8,10,11],[0,2,3,4,5,6,7,8,10,11],[0,2,3,4,5,6,7,8,10,11],[0,2,3,4,5,6,7,8,10,11],[0,2,3,4,5,6,7,8,10,11],[0,2,3,4,5,6,7,8,10,11],[0,2,3,4,5,6,7,8,10,11],[0,2,3,4,5,6,7,8,10,11],[0,2,3,4,5,6,7,8,10,11],[0,2,3,4,5,6,7,8,10,11],[0,2,3,4,5,6,7,8,10,11]]
abbrev nlMe2_3 : List (List Nat) := [[],[],[0,1],[0,1,2],[0,1,2,3],[],[5],[5,6],[5,6,7],[],[5,6,7,8,9],[5,6,7,8,9,10],[0,1,2,3,4,5,6,7,8,9,10,11],[0,1,2,3,4,5,6,7,8,9,10,11,12],[0,1,2,3,4,5,6,7,8,9,10,11,12,13],[0,1,2,3,4,5,6,7,8,9,10,11,12,13],[0,1,2,3,4,5,6,7,8,9,10,11,12,13,14,15],[0,1,2,3,4,5,6,7,8,9,10,11,12,13,14,15,16],[0,1,2,3,4,5,6,7,8,9,10,11,12,13,14,15,16,17],[0,1,2,3,4,5,6,7,8,9,10,11,12,13],[0,1,2,3,4,5,6,7,8,9,10,11,12,13,19],[0,1,2,3,4,5,6,7,8,9,10,11,12,13,19,20],[0,1,2,3,4,5,6,7,8,9,10,11,12,13,19,20,21],[0,1,2,3,4,5,6,7,8,9,10,11,12,13],[0,1,2,3,4,5,6,7,8,9,10,11,12,13,19,20,21,22,23],[0,1,2,3,4,5,6,7,8,9,10,11,12,13,19,20,21,22,23,24],[0,1,2,3,4,5,6,7,8,9,10,11,12,13,14,15,16,17,18,19,20,21,22,23,24,25],[0,1,2,3,4,5,6,7,8,9,10,11,12,13,14,15,16,17,18,19,20,21,22,23,24,25,26]]
abbrev nlMe2_4 : List (List Nat) := [[],[],[0],[0,2],[0,2,3],[],[5],[5,6],[5,6,7],[],[5,6,7,8],[5,6,7,8,10],[0,2,3,4,5,6,7,8,10,11],[0,2,3,4,5,6,7,8,10,11],[0,2,3,4,5,6,7,8,10,11],[0,2,3,4,5,6,7,8,10,11],[0,2,3,4,5,6,7,8,10,11,14],[0,2,3,4,5,6,7,8,10,11,14,16],[0,2,3,4,5,6,7,8,10,11,14,16,17],[0,2,3,4,5,6,7,8,10,11],[0,2,3,4,5,6,7,8,10,11,19],[0,2,3,4,5,6,7,8,10,11,19,20],[0,2,3,4,5,6,7,8,10,11,19,20,21],[0,2,3,4,5,6,7,8,10,11],[0,2,3,4,5,6,7,8,10,11,19,20,21,22],[0,2,3,4,5,6,7,8,10,11,19,20,21,22,24]]
noncomputable def l19_MemDoes (a0 : TApiProgram) (a1 : List TSondagelaw19Deed) : Option (Bool) :=
  (Option.bind (α := Bool) (bif (decide ((30 : Int) < (a0.gGlobals.length : Int))) then some true else some (decide ((100 : Int) < (a1.length : Int)))) fun y3 => (bif y3 then (l19_lives.bind fun x8 => some x8) else (Option.bind (α := (Unit) ⊕ (Bool)) (loopM (fun (s27 : Int) => (bif (decide (s27 < (a0.gGlobals.length : Int))) then ((idx a0.gGlobals s27).bind fun x39 => (bif (decide ((2000 : Int) < x39.gSize)) then (l19_lives.bind fun x41 => some (.done (.inr x41))) else some (.next (IntKind.i64.wrap (s27 + (1 : Int)))))) else some (.done (.inl ())))) (0 : Int)) (Sum.elim (fun y26 => ((mem_New_r a0).bind fun x47 => ((r19_New_r a0).bind fun x63 => (Option.bind (α := (List TApiGlobal × List TApiFunc × List TApiCell × List TApiWord × List (ByteArray × Int) × List (TApiCell × TApiWord) × List TApiCell) ⊕ (Bool)) (loopM (fun (s230 : Int × List TApiGlobal × List TApiFunc × List TApiCell × List TApiWord × List (ByteArray × Int) × List (TApiCell × TApiWord) × List TApiCell) => (bif (decide (s230.1 < (a1.length : Int))) then ((idx a1 s230.1).bind fun x355 => (bif (x355.gKind == (0 : Int)) then ((mem_Mem_Get (⟨s230.2.2.2.2.2.1, s230.2.2.2.2.2.2.1, s230.2.2.2.2.2.2.2⟩ : TMemMem) x355.gC).bind fun x358 => ((r19_Mem_Get_w (⟨(⟨s230.2.1, s230.2.2.1⟩ : TApiProgram), s230.2.2.2.1, s230.2.2.2.2.1⟩ : TSondageref19Mem) x355.gC).bind fun x360 => (Option.bind (α := Bool) (bif (!(x358.1.gPtr == x360.1.gPtr && (x358.1.gN == x360.1.gN && ((decide (x358.1.gTo.gName = x360.1.gTo.gName) && (x358.1.gTo.gAt == x360.1.gTo.gAt && true)) && true)))) then some true else some (x358.2 != x360.2)) fun y363 => (bif y363 then some (.done (.inr false)) else some (.next ((IntKind.i64.wrap (s230.1 + (1 : Int))), s230.2.1, s230.2.2.1, s230.2.2.2.1, s230.2.2.2.2.1, s230.2.2.2.2.2.1, s230.2.2.2.2.2.2.1, s230.2.2.2.2.2.2.2)))))) else (bif (x355.gKind == (1 : Int)) then ((mem_Mem_Set (⟨s230.2.2.2.2.2.1, s230.2.2.2.2.2.2.1, s230.2.2.2.2.2.2.2⟩ : TMemMem) x355.gC x355.gW).bind fun x370 => ((r19_Mem_Set (⟨(⟨s230.2.1, s230.2.2.1⟩ : TApiProgram), s230.2.2.2.1, s230.2.2.2.2.1⟩ : TSondageref19Mem) x355.gC x355.gW).bind fun x378 => (bif (x370.1 != x378.1) then some (.done (.inr false)) else some (.next ((IntKind.i64.wrap (s230.1 + (1 : Int))), x378.2.gP.gGlobals, x378.2.gP.gFuncs, x378.2.gCells, x378.2.gWords, x370.2.gSizes, x370.2.gWords, x370.2.gCells))))) else ((mem_Mem_Place (⟨s230.2.2.2.2.2.1, s230.2.2.2.2.2.2.1, s230.2.2.2.2.2.2.2⟩ : TMemMem) x355.gC.gName x355.gC.gAt).bind fun x381 => ((r19_Mem_Find_w (⟨(⟨s230.2.1, s230.2.2.1⟩ : TApiProgram), s230.2.2.2.1, s230.2.2.2.2.1⟩ : TSondageref19Mem) x355.gC).bind fun x383 => (Option.bind (α := Bool) (bif (x381.2 != x383.2) then some true else (bif (x383.2 == (0 : Int)) then (bif (!(decide (x381.1.gName = x355.gC.gName) && (x381.1.gAt == x355.gC.gAt && true))) then some true else (bif (x383.2 != (0 : Int)) then some (!(decide (x381.1.gName = ByteArray.empty) && (x381.1.gAt == (0 : Int) && true))) else some false)) else (bif (x383.2 != (0 : Int)) then some (!(decide (x381.1.gName = ByteArray.empty) && (x381.1.gAt == (0 : Int) && true))) else some false))) fun y389 => (bif y389 then some (.done (.inr false)) else some (.next ((IntKind.i64.wrap (s230.1 + (1 : Int))), s230.2.1, s230.2.2.1, s230.2.2.2.1, s230.2.2.2.2.1, s230.2.2.2.2.2.1, s230.2.2.2.2.2.2.1, s230.2.2.2.2.2.2.2))))))))) else some (.done (.inl (s230.2.1, s230.2.2.1, s230.2.2.2.1, s230.2.2.2.2.1, s230.2.2.2.2.2.1, s230.2.2.2.2.2.2.1, s230.2.2.2.2.2.2.2))))) ((0 : Int), x63.gP.gGlobals, x63.gP.gFuncs, x63.gCells, x63.gWords, x47.gSizes, x47.gWords, x47.gCells)) (Sum.elim (fun y229 => ((mem_Mem_All_r (⟨y229.2.2.2.2.1, y229.2.2.2.2.2.1, y229.2.2.2.2.2.2⟩ : TMemMem)).bind fun x398 => (bif ((x398.length : Int) != (y229.2.2.1.length : Int)) then some false else (Option.bind (α := (Unit) ⊕ (Bool)) (loopM (fun (s460 : Int) => (bif (decide (s460 < (x398.length : Int))) then (Option.bind (α := Bool) ((idx x398 s460).bind fun x510 => ((idx y229.2.2.1 s460).bind fun x511 => (bif (!(decide (x510.gC.gName = x511.gName) && (x510.gC.gAt == x511.gAt && true))) then some true else ((idx x398 s460).bind fun x513 => ((idx y229.2.2.2.1 s460).bind fun x514 => some (!(x513.gW.gPtr == x514.gPtr && (x513.gW.gN == x514.gN && ((decide (x513.gW.gTo.gName = x514.gTo.gName) && (x513.gW.gTo.gAt == x514.gTo.gAt && true)) && true))))))))) fun y509 => (bif y509 then some (.done (.inr false)) else some (.next (IntKind.i64.wrap (s460 + (1 : Int)))))) else some (.done (.inl ())))) (0 : Int)) (Sum.elim (fun y459 => (l19_lives.bind fun x517 => some x517)) (fun r => some r)))))) (fun r => some r)))))) (fun r => some r)))))
set_option maxRecDepth 100000 in
set_option maxHeartbeats 2000000 in
theorem l19_MemDoes_ok (a0 : TApiProgram) (a1 : List TSondagelaw19Deed) (r : Bool) (h0 : l19_MemDoes a0 a1 = some r) : CallsD Try.prog 3 [eTApiProgram a0, .lst 7 (a1.map eTSondagelaw19Deed) .no] [] [] (fun d h k => d = .v (.bool r) ∧ h = [] ∧ k = []) := by
  have hm := yes_of h0
  unfold l19_MemDoes at hm
  clear h0
  refine enterX htab Try.func3 rfl rfl rfl rfl rfl (fun C => ?_)
  refine wpD_sr ?_
  refine p_box rfl rfl rfl rfl rfl rfl rfl (fun b1 => ?_)
  refine pu ?_
  refine ops_nt ?_
  refine wpD_seq ?_
  refine wpD_seq ?_
  obtain ⟨y3, q3, ho3⟩ := yes_bind hm
  refine wpD_mid (Y := Unit) (fun z3 => (⟨[(1, .lst 7 (a1.map eTSondagelaw19Deed) .no), (2, .ptr b1 0), (28, .v (.bool y3))], [(b1, Blk.cells [.lst 4 (a0.gGlobals.map eTApiGlobal) .no, .lst 5 (a0.gFuncs.map eTApiFunc) .no] 25)], []⟩ : S)) ?_ ?_
  ·clear hm; have hm := yes_of q3
   refine wpD_region ?_
   refine pu ?_
   refine pL 0 ?_
   refine p_lenL htab rfl rfl rfl rfl rfl rfl rfl (by first | exact map_len | rfl) ?_
   refine pu ?_
   refine pu ?_
   refine p_split (i := 24) rfl (fun hg4 => ?_) (fun hg4 => ?_)
   ·replace hm := yes_t hg4 hm
    iterate 3 refine pK ?_
    refine p_pickT rfl rfl rfl rfl rfl rfl ?_
    refine ops_nil ?_
    have e3 := yes_eq hm; subst e3
    refine ⟨rfl, ?_⟩
    exact WkX.of () (WkS.perm (WkS.cons rfl (Wk.refl _) (WkS.cons rfl (Wk.refl _) (WkS.cons rfl (Wk.refl _) (WkS.nil)))) Pf Pf)
   ·replace hm := yes_f hg4 hm
    refine pu ?_
    refine p_lenL htab rfl rfl rfl rfl rfl rfl rfl (by first | exact map_len | rfl) ?_
    refine pu ?_
    refine p_pickF rfl rfl rfl rfl rfl rfl ?_
    refine ops_nil ?_
    have e3 := yes_eq hm; subst e3
    refine ⟨rfl, ?_⟩
    exact WkX.of () (WkS.perm (WkS.cons rfl (Wk.refl _) (WkS.cons rfl (Wk.refl _) (WkS.cons rfl (Wk.refl _) (WkS.nil)))) Pf Pf)
  ·intro s3 hw3; clear hm; have hm := ho3; clear q3 ho3
   refine then_normal ?_
   refine wpD_wkX hw3 (fun z3 => ?_)
   refine wpD_cond rfl (fun hc7 => ?_) (fun hc7 => ?_)
   ·replace hm := yes_t hc7 hm
    refine wpD_sr ?_
    obtain ⟨x8, q8, hm⟩ := yes_bind hm
    refine p_call0 (l19_lives_ok x8 q8) rfl rfl rfl rfl rfl Wl ?_
    rintro _ rfl
    refine pu ?_
    refine ops_nt ?_
    refine wpD_ret ?_
    refine then_ret ?_
    have er9 := yes_eq hm; subst er9
    refine rP (t' := [(4, .v (.bool x8))]) [] [] 0 (wC wN) (lT lN) ?_
    exact ⟨rfl, rfl, rfl⟩
   ·replace hm := yes_f hc7 hm
    refine wpD_skip ?_
    refine then_normal ?_
    refine wpD_seq ?_
    refine wpD_sr ?_
    refine pu ?_
    refine ops_nt ?_
    obtain ⟨x26, q26, ho26⟩ := yes_bind hm
    refine wpD_midX (τ := Unit) (Y := Unit) (fun y26 z26 => (⟨[(1, .lst 7 (a1.map eTSondagelaw19Deed) .no), (2, .ptr b1 0)], [(b1, Blk.cells [.lst 4 (a0.gGlobals.map eTApiGlobal) .no, .lst 5 (a0.gFuncs.map eTApiFunc) .no] 25)], []⟩ : S)) x26 ?_ ?_
    ·clear hm; have hm := yes_of q26
     refine wpD_block ?_
     obtain ⟨u27, hl27, hq27⟩ := yes_m hm
     refine loop_M (Y := Unit) hl27 (fun s27 z27 => (⟨[(1, .lst 7 (a1.map eTSondagelaw19Deed) .no), (2, .ptr b1 0), (5, .v (.int .i64 s27))], [(b1, Blk.cells [.lst 4 (a0.gGlobals.map eTApiGlobal) .no, .lst 5 (a0.gFuncs.map eTApiFunc) .no] 25)], []⟩ : S)) ?_ ?_
     ·skip
      exact WkX.of () (WkS.perm (WkS.cons rfl (Wk.refl _) (WkS.cons rfl (Wk.refl _) (WkS.cons rfl (Wk.refl _) (WkS.nil)))) Pf Pf)
     ·intro G27 s27 z27 hm
      refine wpD_seq ?_
      refine wpD_sr ?_
      refine pu ?_
      refine pu ?_
      refine pL 0 ?_
      refine p_lenL htab rfl rfl rfl rfl rfl rfl rfl (by first | exact map_len | rfl) ?_
      refine pu ?_
      refine ops_nt ?_
      refine wpD_cond rfl (fun hc38 => ?_) (fun hc38 => ?_)
      ·replace hm := yes_t hc38 hm
       refine wpD_skip ?_
       refine then_normal ?_
       refine wpD_seq ?_
       refine wpD_block ?_
       refine wpD_sr ?_
       refine pu ?_
       refine pL 0 ?_
       refine pu ?_
       obtain ⟨x39, q39, hm⟩ := yes_bind hm
       refine p_elem htab rfl rfl rfl rfl rfl rfl rfl rfl rfl rfl (idx_nonneg q39) (idx_map q39) ?_
       refine pu ?_
       refine p_loadEl htab rfl rfl rfl rfl rfl rfl rfl rfl ?_
       refine pu ?_
       refine ops_nt ?_
       refine wpD_cond rfl (fun hc40 => ?_) (fun hc40 => ?_)
       ·replace hm := yes_t hc40 hm
        refine wpD_sr ?_
        obtain ⟨x41, q41, hm⟩ := yes_bind hm
        refine p_call0 (l19_lives_ok x41 q41) rfl rfl rfl rfl rfl Wl ?_
        rintro _ rfl
        refine pu ?_
        refine ops_nt ?_
        refine wpD_ret ?_
        refine block_ret ?_
        refine then_ret ?_
        have e27 := lp_done hm; subst e27; clear hm; have hm := hq27
        refine then_ret ?_
        refine block_ret ?_
        have e26 := yes_eq hm; subst e26; refine midX_inr ?_; clear hm; have hm := ho26; simp only [Sum.elim_inr] at hm
        refine then_ret ?_
        have er42 := yes_eq hm; subst er42
        refine rP (t' := [(4, .v (.bool x41))]) [] [] 0 (wC wN) (lT lN) ?_
        exact ⟨rfl, rfl, rfl⟩
       ·replace hm := yes_f hc40 hm
        refine wpD_skip ?_
        refine block_normal ?_
        refine then_normal ?_
        refine wpD_region ?_
        iterate 3 refine pu ?_
        refine ops_nil ?_
        refine then_normal ⟨_, lp_next hm, ?_⟩
        exact WkX.of () (WkS.perm (WkS.cons rfl (Wk.refl _) (WkS.cons rfl (Wk.refl _) (WkS.cons rfl (Wk.refl _) (WkS.nil)))) Pf Pf)
      ·replace hm := yes_f hc38 hm
       refine wpD_exit ?_
       refine then_exit ?_
       have e27 := lp_done hm; subst e27; clear hm; have hm := hq27
       refine then_exit ?_
       refine block_hit ?_
       have e26 := yes_eq hm; subst e26
       refine midX_inl ?_
       exact WkX.of () (WkS.perm (WkS.cons rfl (Wk.refl _) (WkS.cons rfl (Wk.refl _) (WkS.nil))) Pf Pf)
    ·intro y26 s26 hx26 hw26; subst hx26; clear hm; have hm := ho26; simp only [Sum.elim_inl] at hm; clear q26 ho26
     refine then_normal ?_
     refine wpD_wkX hw26 (fun z26 => ?_)
     refine wpD_seq ?_
     obtain ⟨x47, q47, hm⟩ := yes_bind hm
     refine wpD_drawsG 3 [] [1] [1] (fun e v hb kb => match e with | 1 => ∃ y0 y1 y2 y3, v = Value.pointer (some ⟨y0, 0, none⟩) ∧ hb = [(y0, Blk.cells [.v (.map (some y1)), .v (.map (some y2)), .lst 2 (x47.gCells.map eTApiCell) (.cur y3)] 64), (y1, Blk.mp (x47.gSizes.map fun p => ((fun s : ByteArray => Value.string s) p.1, eI64 p.2))), (y2, Blk.mp (x47.gWords.map fun p => ((fun a => Value.agg (kcTApiCell a).toArray) p.1, eTApiWord p.2)))] ∧ kb = [(2, y3)] | _ => False) (fun _ => []) (fun _ => []) [(b1, Blk.cells [.lst 4 (a0.gGlobals.map eTApiGlobal) .no, .lst 5 (a0.gFuncs.map eTApiFunc) .no] 25)] [] Pf Pf [[],[0],[]] [0,1,2] [[],[0],[],[0,1,2],[0,1,2,3],[0,1,2,3,4]] (by kernel_rfl) (by kernel_rfl) (by kernel_rfl) (by rfl) (by rfl) (by kernel_rfl) ?_
     apply Exists.intro
     refine ⟨.any, ?_⟩
     apply Exists.intro
     intro bs
     refine zg_eM rfl rfl (xm_load (d := eTApiProgram a0) 0 htab rfl rfl rfl rfl rfl) rfl rfl rfl rfl rfl rfl rfl ?_
     refine zg_callV rfl rfl (mem_New_r_ok a0 x47 q47) rfl rfl rfl rfl Wl rfl rfl rfl rfl rfl rfl (by decide) rfl (fun H d hb kb v ⟨y0, y1, y2, y3, e1, e2, e3⟩ hr => ⟨(show ∃ y0 y1 y2 y3, v = Value.pointer (some ⟨y0, 0, none⟩) ∧ hb = [(y0, Blk.cells [.v (.map (some y1)), .v (.map (some y2)), .lst 2 (x47.gCells.map eTApiCell) (.cur y3)] 64), (y1, Blk.mp (x47.gSizes.map fun p => ((fun s : ByteArray => Value.string s) p.1, eI64 p.2))), (y2, Blk.mp (x47.gWords.map fun p => ((fun a => Value.agg (kcTApiCell a).toArray) p.1, eTApiWord p.2)))] ∧ kb = [(2, y3)] from ⟨y0, y1, y2, y3, by subst e1; exact rep_ptr_inv hr, e2, e3⟩), by subst e1; rw [rep_ptr_inv hr]; rfl⟩) ?_
     refine zg_eM rfl rfl (xm_load (d := eTApiProgram a0) 0 htab rfl rfl rfl rfl rfl) rfl rfl rfl rfl rfl rfl rfl ?_
     refine zg_nil (fun e he => by simp [isG] at he; subst he; rfl) (fun e he => by simp [isAl] at he) (fun gs ks hz => ?_)
     obtain ⟨w56, w57, w58, w59, hv1, hb1, hk1⟩ : ∃ y0 y1 y2 y3, bs 1 = Value.pointer (some ⟨y0, 0, none⟩) ∧ gs 1 = [(y0, Blk.cells [.v (.map (some y1)), .v (.map (some y2)), .lst 2 (x47.gCells.map eTApiCell) (.cur y3)] 64), (y1, Blk.mp (x47.gSizes.map fun p => ((fun s : ByteArray => Value.string s) p.1, eI64 p.2))), (y2, Blk.mp (x47.gWords.map fun p => ((fun a => Value.agg (kcTApiCell a).toArray) p.1, eTApiWord p.2)))] ∧ ks 1 = [(2, y3)] := hz 1 rfl
     simp only [List.map_cons, List.map_nil, List.flatMap_cons, List.flatMap_nil, List.nil_append, List.append_nil, List.cons_append, hv1, hb1, hk1]
     clear hz hv1 hb1 hk1
     refine p_eq (i := 46) rfl wk_ptr ?_
     obtain ⟨x63, q63, hm⟩ := yes_bind hm
     refine pG (r19_New_r_ok a0 x63 q63) Wl Pf Pf ?_
     rintro _ _ _ ⟨w60, w61, w62, rfl, rfl, rfl⟩
     refine pu ?_
     refine pu ?_
     refine ops_nt ?_
     refine wpD_seq ?_
     refine wpD_sr ?_
     refine pu ?_
     refine p_eqP htab rfl rfl rfl rfl rfl rfl rfl rfl rfl rfl ?_
     refine ops_nt ?_
     refine wpD_false rfl ?_
     refine wpD_skip ?_
     refine then_normal ?_
     refine wpD_seq ?_
     refine wpD_sr ?_
     refine pu ?_
     refine ops_nt ?_
     obtain ⟨x229, q229, ho229⟩ := yes_bind hm
     refine wpD_midX (τ := List TApiGlobal × List TApiFunc × List TApiCell × List TApiWord × List (ByteArray × Int) × List (TApiCell × TApiWord) × List TApiCell) (Y := Value × Z3 × Nat × Nat × Value) (fun y229 z229 => (⟨[(6, .ptr w56 0), (7, .ptr w60 0)], [(0, Blk.row 4 (y229.2.2.2.1.map eTApiWord) (SL z229.2.1)), (z229.2.2.1, Blk.mp (y229.2.2.2.2.1.map fun p => ((fun s : ByteArray => Value.string s) p.1, eI64 p.2))), (z229.2.2.2.1, Blk.mp (y229.2.2.2.2.2.1.map fun p => ((fun a => Value.agg (kcTApiCell a).toArray) p.1, eTApiWord p.2))), (w60, Blk.cells [.lst 4 (y229.1.map eTApiGlobal) .no, .lst 5 (y229.2.1.map eTApiFunc) .no, .lst 2 (y229.2.2.1.map eTApiCell) (.cur z229.1), .v (SL z229.2.1)] 56), (w56, Blk.cells [.v (.map (some z229.2.2.1)), .v (.map (some z229.2.2.2.1)), .lst 2 (y229.2.2.2.2.2.2.map eTApiCell) (.cur z229.2.2.2.2)] 64)], [(2, z229.1), (2, z229.2.2.2.2)]⟩ : S)) x229 ?_ ?_
     ·clear hm; have hm := yes_of q229
      refine wpD_block ?_
      obtain ⟨u230, hl230, hq230⟩ := yes_m hm
      refine loop_M (Y := Value × Z3 × Nat × Nat × Value) hl230 (fun s230 z230 => (⟨[(1, .lst 7 (a1.map eTSondagelaw19Deed) .no), (6, .ptr w56 0), (7, .ptr w60 0), (8, .v (.int .i64 s230.1))], [(0, Blk.row 4 (s230.2.2.2.2.1.map eTApiWord) (SL z230.2.1)), (z230.2.2.1, Blk.mp (s230.2.2.2.2.2.1.map fun p => ((fun s : ByteArray => Value.string s) p.1, eI64 p.2))), (z230.2.2.2.1, Blk.mp (s230.2.2.2.2.2.2.1.map fun p => ((fun a => Value.agg (kcTApiCell a).toArray) p.1, eTApiWord p.2))), (w60, Blk.cells [.lst 4 (s230.2.1.map eTApiGlobal) .no, .lst 5 (s230.2.2.1.map eTApiFunc) .no, .lst 2 (s230.2.2.2.1.map eTApiCell) (.cur z230.1), .v (SL z230.2.1)] 56), (w56, Blk.cells [.v (.map (some z230.2.2.1)), .v (.map (some z230.2.2.2.1)), .lst 2 (s230.2.2.2.2.2.2.2.map eTApiCell) (.cur z230.2.2.2.2)] 64)], [(2, z230.1), (2, z230.2.2.2.2)]⟩ : S)) ?_ ?_
      ·skip
       exact WkX.of (w61, w62, w57, w58, w59) (WkS.perm (WkS.cons rfl (Wk.refl _) (WkS.cons rfl (Wk.refl _) (WkS.cons rfl (Wk.refl _) (WkS.cons rfl (Wk.refl _) (WkS.nil))))) ((perm_at (j := 1) rfl).trans (List.Perm.cons _ ((perm_at (j := 3) rfl).trans (List.Perm.cons _ ((perm_at (j := 3) rfl).trans (List.Perm.cons _ ((perm_at (j := 0) rfl).trans (List.Perm.cons _ ((perm_at (j := 1) rfl).trans (List.Perm.cons _ Pf)))))))))) Pf)
      ·intro G230 s230 z230 hm
       refine wpD_seq ?_
       refine wpD_sr ?_
       refine pu ?_
       refine pu ?_
       refine p_lenL htab rfl rfl rfl rfl rfl rfl rfl (by first | exact map_len | rfl) ?_
       refine pu ?_
       refine ops_nt ?_
       refine wpD_cond rfl (fun hc354 => ?_) (fun hc354 => ?_)
       ·replace hm := yes_t hc354 hm
        refine wpD_skip ?_
        refine then_normal ?_
        refine wpD_seq ?_
        refine wpD_block ?_
        refine wpD_sr ?_
        refine pu ?_
        refine pu ?_
        obtain ⟨x355, q355, hm⟩ := yes_bind hm
        refine p_elem htab rfl rfl rfl rfl rfl rfl rfl rfl rfl rfl (idx_nonneg q355) (idx_map q355) ?_
        refine p_loadEl (d := eTSondagelaw19Deed x355) htab rfl rfl rfl rfl rfl rfl rfl rfl ?_
        refine p_alloc htab rfl rfl rfl rfl rfl rfl rfl (fun b356 => ?_)
        refine pS5 (ds' := [.v (.int .i64 x355.gKind), .v (.string x355.gC.gName), .v (.int .i64 x355.gC.gAt), .v (.bool x355.gW.gPtr), .v (.int .i64 x355.gW.gN), .v (.string x355.gW.gTo.gName), .v (.int .i64 x355.gW.gTo.gAt)]) ?_
        refine ops_n2 ?_
        refine pu ?_
        refine pL 5 ?_
        refine ops_nt ?_
        refine wpD_block ?_
        refine wpD_sr ?_
        refine pu ?_
        refine pu ?_
        refine ops_nt ?_
        refine wpD_cond rfl (fun hc357 => ?_) (fun hc357 => ?_)
        ·replace hm := yes_t hc357 hm
         refine wpD_sr ?_
         refine pu ?_
         refine pu ?_
         refine p_load (d := eTApiCell x355.gC) 5 htab rfl rfl rfl rfl rfl rfl rfl rfl ?_
         obtain ⟨x358, q358, hm⟩ := yes_bind hm
         refine pG (mem_Mem_Get_ok (⟨s230.2.2.2.2.2.1, s230.2.2.2.2.2.2.1, s230.2.2.2.2.2.2.2⟩ : TMemMem) x355.gC w56 64 z230.2.2.1 z230.2.2.2.1 (.cur z230.2.2.2.2) x358 q358) Wl ((perm_at (j := 4) rfl).trans (List.Perm.cons _ ((perm_at (j := 1) rfl).trans (List.Perm.cons _ ((perm_at (j := 1) rfl).trans (List.Perm.cons _ Pf)))))) Pf ?_
         rintro _ _ _ ⟨rfl, rfl, rfl⟩
         iterate 3 refine pu ?_
         refine p_alloc htab rfl rfl rfl rfl rfl rfl rfl (fun b359 => ?_)
         refine pS6 (ds' := [.v (.bool x358.1.gPtr), .v (.int .i64 x358.1.gN), .v (.string x358.1.gTo.gName), .v (.int .i64 x358.1.gTo.gAt)]) ?_
         refine pu ?_
         refine ops_n2 ?_
         refine pu ?_
         refine pu ?_
         refine p_load (d := eTApiCell x355.gC) 5 htab rfl rfl rfl rfl rfl rfl rfl rfl ?_
         obtain ⟨x360, q360, hm⟩ := yes_bind hm
         refine pG (r19_Mem_Get_w_ok (⟨(⟨s230.2.1, s230.2.2.1⟩ : TApiProgram), s230.2.2.2.1, s230.2.2.2.2.1⟩ : TSondageref19Mem) x355.gC w60 56 .no .no (.cur z230.1) z230.2.1 x360 q360) Wl ((perm_at (j := 4) rfl).trans (List.Perm.cons _ ((perm_at (j := 3) rfl).trans (List.Perm.cons _ Pf)))) Pf ?_
         rintro _ _ _ ⟨rfl, rfl, rfl⟩
         iterate 3 refine pu ?_
         refine p_alloc htab rfl rfl rfl rfl rfl rfl rfl (fun b361 => ?_)
         refine pS7 (ds' := [.v (.bool x360.1.gPtr), .v (.int .i64 x360.1.gN), .v (.string x360.1.gTo.gName), .v (.int .i64 x360.1.gTo.gAt)]) ?_
         refine pu ?_
         refine ops_nt ?_
         refine wpD_seq ?_
         obtain ⟨y363, q363, ho363⟩ := yes_bind hm
         refine wpD_mid (Y := Unit) (fun z363 => (⟨[(1, .lst 7 (a1.map eTSondagelaw19Deed) .no), (6, .ptr w56 0), (7, .ptr w60 0), (8, .v (.int .i64 s230.1)), (126, .v (.bool y363))], [(w60, Blk.cells [.lst 4 (s230.2.1.map eTApiGlobal) .no, .lst 5 (s230.2.2.1.map eTApiFunc) .no, .lst 2 (s230.2.2.2.1.map eTApiCell) (.cur z230.1), .v (SL z230.2.1)] 56), (0, Blk.row 4 (s230.2.2.2.2.1.map eTApiWord) (SL z230.2.1)), (w56, Blk.cells [.v (.map (some z230.2.2.1)), .v (.map (some z230.2.2.2.1)), .lst 2 (s230.2.2.2.2.2.2.2.map eTApiCell) (.cur z230.2.2.2.2)] 64), (z230.2.2.1, Blk.mp (s230.2.2.2.2.2.1.map fun p => ((fun s : ByteArray => Value.string s) p.1, eI64 p.2))), (z230.2.2.2.1, Blk.mp (s230.2.2.2.2.2.2.1.map fun p => ((fun a => Value.agg (kcTApiCell a).toArray) p.1, eTApiWord p.2)))], [(2, z230.1), (2, z230.2.2.2.2)]⟩ : S)) ?_ ?_
         ·clear hm; have hm := yes_of q363
          refine wpD_region ?_
          refine p_load (d := eTApiWord x358.1) 6 htab rfl rfl rfl rfl rfl rfl rfl rfl ?_
          refine p_load (d := eTApiWord x360.1) 7 htab rfl rfl rfl rfl rfl rfl rfl rfl ?_
          refine p_eqC eqn37 htab rfl rfl rfl rfl rfl eqs37 eqg37 rfl rfl rfl rfl ?_
          refine pu ?_
          refine p_split (i := 122) rfl (fun hg364 => ?_) (fun hg364 => ?_)
          ·replace hm := yes_t hg364 hm
           iterate 3 refine pK ?_
           refine p_pickT rfl rfl rfl rfl rfl rfl ?_
           refine ops_nil ?_
           have e363 := yes_eq hm; subst e363
           refine ⟨rfl, ?_⟩
           exact WkX.of () (WkS.perm (WkS.cons rfl (Wk.refl _) (WkS.cons rfl (Wk.refl _) (WkS.cons rfl (Wk.refl _) (WkS.cons rfl (Wk.refl _) (WkS.cons rfl (Wk.refl _) (WkS.nil)))))) Pf Pf)
          ·replace hm := yes_f hg364 hm
           iterate 3 refine pu ?_
           refine p_pickF rfl rfl rfl rfl rfl rfl ?_
           refine ops_nil ?_
           have e363 := yes_eq hm; subst e363
           refine ⟨rfl, ?_⟩
           exact WkX.of () (WkS.perm (WkS.cons rfl (Wk.refl _) (WkS.cons rfl (Wk.refl _) (WkS.cons rfl (Wk.refl _) (WkS.cons rfl (Wk.refl _) (WkS.cons rfl (Wk.refl _) (WkS.nil)))))) Pf Pf)
         ·intro s363 hw363; clear hm; have hm := ho363; clear q363 ho363
          refine then_normal ?_
          refine wpD_wkX hw363 (fun z363 => ?_)
          refine wpD_cond rfl (fun hc365 => ?_) (fun hc365 => ?_)
          ·replace hm := yes_t hc365 hm
           refine wpD_sr ?_
           refine pu ?_
           refine ops_nt ?_
           refine wpD_ret ?_
           refine block_ret ?_
           refine block_ret ?_
           refine then_ret ?_
           have e230 := lp_done hm; subst e230; clear hm; have hm := hq230
           refine then_ret ?_
           refine block_ret ?_
           have e229 := yes_eq hm; subst e229; refine midX_inr ?_; clear hm; have hm := ho229; simp only [Sum.elim_inr] at hm
           refine then_ret ?_
           have er366 := yes_eq hm; subst er366
           refine rP (t' := [(4, .v (.bool false))]) [] [] 0 (wC wN) (lT lN) ?_
           exact ⟨rfl, rfl, rfl⟩
          ·replace hm := yes_f hc365 hm
           refine wpD_skip ?_
           refine block_normal ?_
           refine block_normal ?_
           refine then_normal ?_
           refine wpD_region ?_
           iterate 3 refine pu ?_
           refine ops_nil ?_
           refine then_normal ⟨_, lp_next hm, ?_⟩
           exact WkX.of (z230.1, z230.2.1, z230.2.2.1, z230.2.2.2.1, z230.2.2.2.2) (WkS.perm (WkS.cons rfl (Wk.refl _) (WkS.cons rfl (Wk.refl _) (WkS.cons rfl (Wk.refl _) (WkS.cons rfl (Wk.refl _) (WkS.nil))))) ((perm_at (j := 1) rfl).trans (List.Perm.cons _ ((perm_at (j := 2) rfl).trans (List.Perm.cons _ ((perm_at (j := 2) rfl).trans (List.Perm.cons _ ((perm_at (j := 0) rfl).trans (List.Perm.cons _ ((perm_at (j := 0) rfl).trans (List.Perm.cons _ Pf)))))))))) Pf)
        ·replace hm := yes_f hc357 hm
         refine wpD_sr ?_
         refine pu ?_
         refine pu ?_
         refine ops_nt ?_
         refine wpD_cond rfl (fun hc367 => ?_) (fun hc367 => ?_)
         ·replace hm := yes_t hc367 hm
          refine wpD_seq ?_
          obtain ⟨x370, q370, hm⟩ := yes_bind hm
          refine wpD_drawsG 11 [] [5] [] (fun e v hb kb => match e with | 5 => ∃ y0 y1, hb = [(w56, Blk.cells [.v (.map (some y0)), .v (.map (some y1)), .lst 2 (x370.2.gCells.map eTApiCell) (.cur z230.2.2.2.2)] 64), (y0, Blk.mp (x370.2.gSizes.map fun p => ((fun s : ByteArray => Value.string s) p.1, eI64 p.2))), (y1, Blk.mp (x370.2.gWords.map fun p => ((fun a => Value.agg (kcTApiCell a).toArray) p.1, eTApiWord p.2)))] ∧ kb = [] | _ => False) (fun e => match e with | 5 => [(w56, Blk.cells [.v (.map (some z230.2.2.1)), .v (.map (some z230.2.2.2.1)), .lst 2 (s230.2.2.2.2.2.2.2.map eTApiCell) (.cur z230.2.2.2.2)] 64), (z230.2.2.1, Blk.mp (s230.2.2.2.2.2.1.map fun p => ((fun s : ByteArray => Value.string s) p.1, eI64 p.2))), (z230.2.2.2.1, Blk.mp (s230.2.2.2.2.2.2.1.map fun p => ((fun a => Value.agg (kcTApiCell a).toArray) p.1, eTApiWord p.2)))] | _ => []) (fun e => match e with | 5 => [] | _ => []) [(0, Blk.row 4 (s230.2.2.2.2.1.map eTApiWord) (SL z230.2.1)), (w60, Blk.cells [.lst 4 (s230.2.1.map eTApiGlobal) .no, .lst 5 (s230.2.2.1.map eTApiFunc) .no, .lst 2 (s230.2.2.2.1.map eTApiCell) (.cur z230.1), .v (SL z230.2.1)] 56), (b356, Blk.cells [.v (.int .i64 x355.gKind), .v (.string x355.gC.gName), .v (.int .i64 x355.gC.gAt), .v (.bool x355.gW.gPtr), .v (.int .i64 x355.gW.gN), .v (.string x355.gW.gTo.gName), .v (.int .i64 x355.gW.gTo.gAt)] 39)] [(2, z230.1), (2, z230.2.2.2.2)] ((perm_at (j := 0) rfl).trans (List.Perm.cons _ ((perm_at (j := 2) rfl).trans (List.Perm.cons _ ((perm_at (j := 3) rfl).trans (List.Perm.cons _ ((perm_at (j := 2) rfl).trans (List.Perm.cons _ ((perm_at (j := 0) rfl).trans (List.Perm.cons _ ((perm_at (j := 0) rfl).trans (List.Perm.cons _ Pf)))))))))))) Pf [[],[],[1],[],[3],[0,1,2,3,4],[],[],[7],[],[9]] [0,1,2,3,4,5,6,7,8,9,10] [[],[],[1],[],[3],[0,1,2,3,4],[],[],[7],[],[9],[0,1,2,3,4,5,6,7,8,9,10],[0,1,2,3,4,5,6,7,8,9,10,11]] (by kernel_rfl) (by kernel_rfl) (by kernel_rfl) (by rfl) (by rfl) (by kernel_rfl) ?_
          iterate 11 apply Exists.intro
          intro bs
          refine zg_e rfl rfl (ex_pure htab rfl) rfl rfl rfl rfl rfl rfl rfl ?_
          refine zg_e rfl rfl (ex_pure htab rfl) rfl rfl rfl rfl rfl rfl rfl ?_
          refine zg_eM rfl rfl (xm_load (d := eTApiCell x355.gC) 2 htab rfl rfl rfl rfl rfl) rfl rfl rfl rfl rfl rfl rfl ?_
          refine zg_e rfl rfl (ex_pure htab rfl) rfl rfl rfl rfl rfl rfl rfl ?_
          refine zg_eM rfl rfl (xm_load (d := eTApiWord x355.gW) 2 htab rfl rfl rfl rfl rfl) rfl rfl rfl rfl rfl rfl rfl ?_
          refine zg_callT (d := .v (.int .i64 x370.1)) rfl rfl (mem_Mem_Set_ok (⟨s230.2.2.2.2.2.1, s230.2.2.2.2.2.2.1, s230.2.2.2.2.2.2.2⟩ : TMemMem) x355.gC x355.gW w56 64 z230.2.2.1 z230.2.2.2.1 (.cur z230.2.2.2.2) x370 q370) rfl rfl rfl rfl Wl rfl rfl rfl rfl rfl rfl (by decide) rfl rfl (fun d hb kb v ⟨y0, y1, e1, e2, e3⟩ => ⟨by subst e1; exact Wk.refl _, (show ∃ y0 y1, hb = [(w56, Blk.cells [.v (.map (some y0)), .v (.map (some y1)), .lst 2 (x370.2.gCells.map eTApiCell) (.cur z230.2.2.2.2)] 64), (y0, Blk.mp (x370.2.gSizes.map fun p => ((fun s : ByteArray => Value.string s) p.1, eI64 p.2))), (y1, Blk.mp (x370.2.gWords.map fun p => ((fun a => Value.agg (kcTApiCell a).toArray) p.1, eTApiWord p.2)))] ∧ kb = [] from ⟨y0, y1, e2, e3⟩)⟩) ?_
          refine zg_e rfl rfl (ex_pure htab rfl) rfl rfl rfl rfl rfl rfl rfl ?_
          refine zg_e rfl rfl (ex_pure htab rfl) rfl rfl rfl rfl rfl rfl rfl ?_
          refine zg_eM rfl rfl (xm_load (d := eTApiCell x355.gC) 2 htab rfl rfl rfl rfl rfl) rfl rfl rfl rfl rfl rfl rfl ?_
          refine zg_e rfl rfl (ex_pure htab rfl) rfl rfl rfl rfl rfl rfl rfl ?_
          refine zg_eM rfl rfl (xm_load (d := eTApiWord x355.gW) 2 htab rfl rfl rfl rfl rfl) rfl rfl rfl rfl rfl rfl rfl ?_
          refine zg_nil (fun e he => by simp [isG] at he; subst he; rfl) (fun e he => by simp [isAl] at he) (fun gs ks hz => ?_)
          obtain ⟨w375, w376, hb5, hk5⟩ : ∃ y0 y1, gs 5 = [(w56, Blk.cells [.v (.map (some y0)), .v (.map (some y1)), .lst 2 (x370.2.gCells.map eTApiCell) (.cur z230.2.2.2.2)] 64), (y0, Blk.mp (x370.2.gSizes.map fun p => ((fun s : ByteArray => Value.string s) p.1, eI64 p.2))), (y1, Blk.mp (x370.2.gWords.map fun p => ((fun a => Value.agg (kcTApiCell a).toArray) p.1, eTApiWord p.2)))] ∧ ks 5 = [] := hz 5 rfl
          simp only [List.map_cons, List.map_nil, List.flatMap_cons, List.flatMap_nil, List.nil_append, List.append_nil, List.cons_append, hb5, hk5]
          clear hz hb5 hk5
          obtain ⟨x378, q378, hm⟩ := yes_bind hm
          refine pG (r19_Mem_Set_ok (⟨(⟨s230.2.1, s230.2.2.1⟩ : TApiProgram), s230.2.2.2.1, s230.2.2.2.2.1⟩ : TSondageref19Mem) x355.gC x355.gW w60 56 .no .no (.cur z230.1) z230.2.1 x378 q378) Wl ((perm_at (j := 1) rfl).trans (List.Perm.cons _ ((perm_at (j := 0) rfl).trans (List.Perm.cons _ Pf)))) Pf ?_
          rintro _ _ _ ⟨w377, rfl, rfl, rfl⟩
          refine pu ?_
          refine ops_nt ?_
          refine wpD_cond rfl (fun hc379 => ?_) (fun hc379 => ?_)
          ·replace hm := yes_t hc379 hm
           refine wpD_sr ?_
           refine pu ?_
           refine ops_nt ?_
           refine wpD_ret ?_
           refine block_ret ?_
           refine block_ret ?_
           refine then_ret ?_
           have e230 := lp_done hm; subst e230; clear hm; have hm := hq230
           refine then_ret ?_
           refine block_ret ?_
           have e229 := yes_eq hm; subst e229; refine midX_inr ?_; clear hm; have hm := ho229; simp only [Sum.elim_inr] at hm
           refine then_ret ?_
           have er380 := yes_eq hm; subst er380
           refine rP (t' := [(4, .v (.bool false))]) [] [] 0 (wC wN) (lT lN) ?_
           exact ⟨rfl, rfl, rfl⟩
          ·replace hm := yes_f hc379 hm
           refine wpD_skip ?_
           refine block_normal ?_
           refine block_normal ?_
           refine then_normal ?_
           refine wpD_region ?_
           iterate 3 refine pu ?_
           refine ops_nil ?_
           refine then_normal ⟨_, lp_next hm, ?_⟩
           exact WkX.of (z230.1, w377, w375, w376, z230.2.2.2.2) (WkS.perm (WkS.cons rfl (Wk.refl _) (WkS.cons rfl (Wk.refl _) (WkS.cons rfl (Wk.refl _) (WkS.cons rfl (Wk.refl _) (WkS.nil))))) ((perm_at (j := 1) rfl).trans (List.Perm.cons _ ((perm_at (j := 3) rfl).trans (List.Perm.cons _ ((perm_at (j := 3) rfl).trans (List.Perm.cons _ ((perm_at (j := 0) rfl).trans (List.Perm.cons _ ((perm_at (j := 1) rfl).trans (List.Perm.cons _ Pf)))))))))) Pf)
         ·replace hm := yes_f hc367 hm
          refine wpD_sr ?_
          iterate 3 refine pu ?_
          refine pL 5 ?_
          refine pu ?_
          refine pu ?_
          refine pL 5 ?_
          obtain ⟨x381, q381, hm⟩ := yes_bind hm
          refine pG (mem_Mem_Place_ok (⟨s230.2.2.2.2.2.1, s230.2.2.2.2.2.2.1, s230.2.2.2.2.2.2.2⟩ : TMemMem) x355.gC.gName x355.gC.gAt w56 64 z230.2.2.1 z230.2.2.2.1 (.cur z230.2.2.2.2) x381 q381) Wl ((perm_at (j := 4) rfl).trans (List.Perm.cons _ ((perm_at (j := 1) rfl).trans (List.Perm.cons _ ((perm_at (j := 1) rfl).trans (List.Perm.cons _ Pf)))))) Pf ?_
          rintro _ _ _ ⟨rfl, rfl, rfl⟩
          iterate 3 refine pu ?_
          refine p_alloc htab rfl rfl rfl rfl rfl rfl rfl (fun b382 => ?_)
          refine pS6 (ds' := [.v (.string x381.1.gName), .v (.int .i64 x381.1.gAt)]) ?_
          refine pu ?_
          refine ops_n2 ?_
          refine pu ?_
          refine pu ?_
          refine p_load (d := eTApiCell x355.gC) 5 htab rfl rfl rfl rfl rfl rfl rfl rfl ?_
          obtain ⟨x383, q383, hm⟩ := yes_bind hm
          refine pG (r19_Mem_Find_w_ok (⟨(⟨s230.2.1, s230.2.2.1⟩ : TApiProgram), s230.2.2.2.1, s230.2.2.2.2.1⟩ : TSondageref19Mem) x355.gC w60 56 .no .no (.cur z230.1) z230.2.1 x383 q383) Wl ((perm_at (j := 4) rfl).trans (List.Perm.cons _ ((perm_at (j := 3) rfl).trans (List.Perm.cons _ Pf)))) Pf ?_
          rintro _ _ _ ⟨rfl, rfl, rfl⟩
          iterate 5 refine pu ?_
          refine ops_nt ?_
          refine wpD_seq ?_
          obtain ⟨y389, q389, ho389⟩ := yes_bind hm
          refine wpD_mid (Y := Unit) (fun z389 => (⟨[(1, .lst 7 (a1.map eTSondagelaw19Deed) .no), (6, .ptr w56 0), (7, .ptr w60 0), (8, .v (.int .i64 s230.1)), (102, .v (.bool y389))], [(w60, Blk.cells [.lst 4 (s230.2.1.map eTApiGlobal) .no, .lst 5 (s230.2.2.1.map eTApiFunc) .no, .lst 2 (s230.2.2.2.1.map eTApiCell) (.cur z230.1), .v (SL z230.2.1)] 56), (0, Blk.row 4 (s230.2.2.2.2.1.map eTApiWord) (SL z230.2.1)), (w56, Blk.cells [.v (.map (some z230.2.2.1)), .v (.map (some z230.2.2.2.1)), .lst 2 (s230.2.2.2.2.2.2.2.map eTApiCell) (.cur z230.2.2.2.2)] 64), (z230.2.2.1, Blk.mp (s230.2.2.2.2.2.1.map fun p => ((fun s : ByteArray => Value.string s) p.1, eI64 p.2))), (z230.2.2.2.1, Blk.mp (s230.2.2.2.2.2.2.1.map fun p => ((fun a => Value.agg (kcTApiCell a).toArray) p.1, eTApiWord p.2)))], [(2, z230.1), (2, z230.2.2.2.2)]⟩ : S)) ?_ ?_
          ·clear hm; have hm := yes_of q389
           refine wpD_region ?_
           iterate 4 refine pu ?_
           refine p_split (i := 84) rfl (fun hg390 => ?_) (fun hg390 => ?_)
           ·replace hm := yes_t hg390 hm
            iterate 8 refine pK ?_
            refine p_pickT rfl rfl rfl rfl rfl rfl ?_
            refine pu ?_
            iterate 7 refine pK ?_
            refine p_pickT rfl rfl rfl rfl rfl rfl ?_
            refine ops_nil ?_
            have e389 := yes_eq hm; subst e389
            refine ⟨rfl, ?_⟩
            exact WkX.of () (WkS.perm (WkS.cons rfl (Wk.refl _) (WkS.cons rfl (Wk.refl _) (WkS.cons rfl (Wk.refl _) (WkS.cons rfl (Wk.refl _) (WkS.cons rfl (Wk.refl _) (WkS.nil)))))) Pf Pf)
           ·replace hm := yes_f hg390 hm
            iterate 3 refine pu ?_
            refine p_split (i := 87) rfl (fun hg391 => ?_) (fun hg391 => ?_)
            ·replace hm := yes_t hg391 hm
             refine p_load (d := eTApiCell x381.1) 6 htab rfl rfl rfl rfl rfl rfl rfl rfl ?_
             refine pu ?_
             refine p_load (d := eTApiCell x355.gC) 5 htab rfl rfl rfl rfl rfl rfl rfl rfl ?_
             refine p_eqS htab rfl rfl rfl rfl rfl eqt35 rfl rfl rfl rfl rfl ?_
             refine p_pickT rfl rfl rfl rfl rfl rfl ?_
             refine p_pickF rfl rfl rfl rfl rfl rfl ?_
             refine pu ?_
             refine p_split (i := 94) rfl (fun hg392 => ?_) (fun hg392 => ?_)
             ·replace hm := yes_t hg392 hm
              iterate 7 refine pK ?_
              refine p_pickT rfl rfl rfl rfl rfl rfl ?_
              refine ops_nil ?_
              have e389 := yes_eq hm; subst e389
              refine ⟨rfl, ?_⟩
              exact WkX.of () (WkS.perm (WkS.cons rfl (Wk.refl _) (WkS.cons rfl (Wk.refl _) (WkS.cons rfl (Wk.refl _) (WkS.cons rfl (Wk.refl _) (WkS.cons rfl (Wk.refl _) (WkS.nil)))))) Pf Pf)
             ·replace hm := yes_f hg392 hm
              iterate 3 refine pu ?_
              refine p_split (i := 97) rfl (fun hg393 => ?_) (fun hg393 => ?_)
              ·replace hm := yes_t hg393 hm
               refine p_load (d := eTApiCell x381.1) 6 htab rfl rfl rfl rfl rfl rfl rfl rfl ?_
               refine p_build (r := [.v (.string ByteArray.empty), .v (.int .i64 (0 : Int))]) htab rfl rfl rfl rfl rfl rfl rfl rfl rfl ?_
               refine p_eqS htab rfl rfl rfl rfl rfl eqt35 rfl rfl rfl rfl rfl ?_
               refine p_pickT rfl rfl rfl rfl rfl rfl ?_
               refine p_pickF rfl rfl rfl rfl rfl rfl ?_
               refine ops_nil ?_
               have e389 := yes_eq hm; subst e389
               refine ⟨rfl, ?_⟩
               exact WkX.of () (WkS.perm (WkS.cons rfl (Wk.refl _) (WkS.cons rfl (Wk.refl _) (WkS.cons rfl (Wk.refl _) (WkS.cons rfl (Wk.refl _) (WkS.cons rfl (Wk.refl _) (WkS.nil)))))) Pf Pf)
              ·replace hm := yes_f hg393 hm
               iterate 3 refine pK ?_
               refine p_pickF rfl rfl rfl rfl rfl rfl ?_
               refine p_pickF rfl rfl rfl rfl rfl rfl ?_
               refine ops_nil ?_
               have e389 := yes_eq hm; subst e389
               refine ⟨rfl, ?_⟩
               exact WkX.of () (WkS.perm (WkS.cons rfl (Wk.refl _) (WkS.cons rfl (Wk.refl _) (WkS.cons rfl (Wk.refl _) (WkS.cons rfl (Wk.refl _) (WkS.cons rfl (Wk.refl _) (WkS.nil)))))) Pf Pf)
            ·replace hm := yes_f hg391 hm
             iterate 4 refine pK ?_
             refine p_pickF rfl rfl rfl rfl rfl rfl ?_
             refine p_pickF rfl rfl rfl rfl rfl rfl ?_
             iterate 4 refine pu ?_
             refine p_split (i := 97) rfl (fun hg394 => ?_) (fun hg394 => ?_)
             ·replace hm := yes_t hg394 hm
              refine p_load (d := eTApiCell x381.1) 6 htab rfl rfl rfl rfl rfl rfl rfl rfl ?_
              refine p_build (r := [.v (.string ByteArray.empty), .v (.int .i64 (0 : Int))]) htab rfl rfl rfl rfl rfl rfl rfl rfl rfl ?_
              refine p_eqS htab rfl rfl rfl rfl rfl eqt35 rfl rfl rfl rfl rfl ?_
              refine p_pickT rfl rfl rfl rfl rfl rfl ?_
              refine p_pickF rfl rfl rfl rfl rfl rfl ?_
              refine ops_nil ?_
              have e389 := yes_eq hm; subst e389
              refine ⟨rfl, ?_⟩
              exact WkX.of () (WkS.perm (WkS.cons rfl (Wk.refl _) (WkS.cons rfl (Wk.refl _) (WkS.cons rfl (Wk.refl _) (WkS.cons rfl (Wk.refl _) (WkS.cons rfl (Wk.refl _) (WkS.nil)))))) Pf Pf)
             ·replace hm := yes_f hg394 hm
              iterate 3 refine pK ?_
              refine p_pickF rfl rfl rfl rfl rfl rfl ?_
              refine p_pickF rfl rfl rfl rfl rfl rfl ?_
              refine ops_nil ?_
              have e389 := yes_eq hm; subst e389
              refine ⟨rfl, ?_⟩
              exact WkX.of () (WkS.perm (WkS.cons rfl (Wk.refl _) (WkS.cons rfl (Wk.refl _) (WkS.cons rfl (Wk.refl _) (WkS.cons rfl (Wk.refl _) (WkS.cons rfl (Wk.refl _) (WkS.nil)))))) Pf Pf)
          ·intro s389 hw389; clear hm; have hm := ho389; clear q389 ho389
           refine then_normal ?_
           refine wpD_wkX hw389 (fun z389 => ?_)
           refine wpD_cond rfl (fun hc395 => ?_) (fun hc395 => ?_)
           ·replace hm := yes_t hc395 hm
            refine wpD_sr ?_
            refine pu ?_
            refine ops_nt ?_
            refine wpD_ret ?_
            refine block_ret ?_
            refine block_ret ?_
            refine then_ret ?_
            have e230 := lp_done hm; subst e230; clear hm; have hm := hq230
            refine then_ret ?_
            refine block_ret ?_
            have e229 := yes_eq hm; subst e229; refine midX_inr ?_; clear hm; have hm := ho229; simp only [Sum.elim_inr] at hm
            refine then_ret ?_
            have er396 := yes_eq hm; subst er396
            refine rP (t' := [(4, .v (.bool false))]) [] [] 0 (wC wN) (lT lN) ?_
            exact ⟨rfl, rfl, rfl⟩
           ·replace hm := yes_f hc395 hm
            refine wpD_skip ?_
            refine block_normal ?_
            refine block_normal ?_
            refine then_normal ?_
            refine wpD_region ?_
            iterate 3 refine pu ?_
            refine ops_nil ?_
            refine then_normal ⟨_, lp_next hm, ?_⟩
            exact WkX.of (z230.1, z230.2.1, z230.2.2.1, z230.2.2.2.1, z230.2.2.2.2) (WkS.perm (WkS.cons rfl (Wk.refl _) (WkS.cons rfl (Wk.refl _) (WkS.cons rfl (Wk.refl _) (WkS.cons rfl (Wk.refl _) (WkS.nil))))) ((perm_at (j := 1) rfl).trans (List.Perm.cons _ ((perm_at (j := 2) rfl).trans (List.Perm.cons _ ((perm_at (j := 2) rfl).trans (List.Perm.cons _ ((perm_at (j := 0) rfl).trans (List.Perm.cons _ ((perm_at (j := 0) rfl).trans (List.Perm.cons _ Pf)))))))))) Pf)
       ·replace hm := yes_f hc354 hm
        refine wpD_exit ?_
        refine then_exit ?_
        have e230 := lp_done hm; subst e230; clear hm; have hm := hq230
        refine then_exit ?_
        refine block_hit ?_
        have e229 := yes_eq hm; subst e229
        refine midX_inl ?_
        exact WkX.of (z230.1, z230.2.1, z230.2.2.1, z230.2.2.2.1, z230.2.2.2.2) (WkS.perm (WkS.cons rfl (Wk.refl _) (WkS.cons rfl (Wk.refl _) (WkS.nil))) Pf Pf)
     ·intro y229 s229 hx229 hw229; subst hx229; clear hm; have hm := ho229; simp only [Sum.elim_inl] at hm; clear q229 ho229
      refine then_normal ?_
      refine wpD_wkX hw229 (fun z229 => ?_)
      refine wpD_sr ?_
      refine pu ?_
      obtain ⟨x398, q398, hm⟩ := yes_bind hm
      refine pG (mem_Mem_All_r_ok (⟨y229.2.2.2.2.1, y229.2.2.2.2.2.1, y229.2.2.2.2.2.2⟩ : TMemMem) w56 64 z229.2.2.1 z229.2.2.2.1 (.cur z229.2.2.2.2) x398 q398) Wl ((perm_at (j := 4) rfl).trans (List.Perm.cons _ ((perm_at (j := 1) rfl).trans (List.Perm.cons _ ((perm_at (j := 1) rfl).trans (List.Perm.cons _ Pf)))))) Pf ?_
      rintro _ _ _ ⟨w397, rfl, rfl, rfl⟩
      refine pu ?_
      refine ops_nt ?_
      refine wpD_seq ?_
      refine wpD_sr ?_
      refine pu ?_
      refine p_lenR 1 htab rfl rfl rfl rfl rfl rfl rfl rfl (by first | exact map_len | rfl) ?_
      iterate 3 refine pu ?_
      refine pL 5 ?_
      refine p_lenL htab rfl rfl rfl rfl rfl rfl rfl (by first | exact map_len | rfl) ?_
      refine pu ?_
      refine ops_nt ?_
      refine wpD_cond rfl (fun hc400 => ?_) (fun hc400 => ?_)
      ·replace hm := yes_t hc400 hm
       refine wpD_sr ?_
       refine pu ?_
       refine ops_nt ?_
       refine wpD_ret ?_
       refine then_ret ?_
       have er401 := yes_eq hm; subst er401
       refine rP (t' := [(4, .v (.bool false))]) [] [] 0 (wC wN) (lT lN) ?_
       exact ⟨rfl, rfl, rfl⟩
      ·replace hm := yes_f hc400 hm
       refine wpD_skip ?_
       refine then_normal ?_
       refine wpD_seq ?_
       refine wpD_sr ?_
       refine pu ?_
       refine ops_nt ?_
       obtain ⟨x459, q459, ho459⟩ := yes_bind hm
       refine wpD_midX (τ := Unit) (Y := Unit) (fun y459 z459 => (⟨[], [], []⟩ : S)) x459 ?_ ?_
       ·clear hm; have hm := yes_of q459
        refine wpD_block ?_
        obtain ⟨u460, hl460, hq460⟩ := yes_m hm
        refine loop_M (Y := Unit) hl460 (fun s460 z460 => (⟨[(7, .ptr w60 0), (18, .v (SL w397)), (19, .v (.int .i64 s460))], [(0, Blk.row 6 (x398.map eTMemHeld) (SL w397)), (0, Blk.row 4 (y229.2.2.2.1.map eTApiWord) (SL z229.2.1)), (w60, Blk.cells [.lst 4 (y229.1.map eTApiGlobal) .no, .lst 5 (y229.2.1.map eTApiFunc) .no, .lst 2 (y229.2.2.1.map eTApiCell) (.cur z229.1), .v (SL z229.2.1)] 56)], [(2, z229.1)]⟩ : S)) ?_ ?_
        ·skip
         exact WkX.of () (WkS.perm (WkS.cons rfl (Wk.refl _) (WkS.cons rfl (Wk.refl _) (WkS.cons rfl (Wk.refl _) (WkS.nil)))) ((perm_at (j := 1) rfl).trans (List.Perm.cons _ ((perm_at (j := 3) rfl).trans (List.Perm.cons _ ((perm_at (j := 3) rfl).trans (List.Perm.cons _ Pf)))))) Pf)
        ·intro G460 s460 z460 hm
         refine wpD_seq ?_
         refine wpD_sr ?_
         refine pu ?_
         refine pu ?_
         refine p_lenR 0 htab rfl rfl rfl rfl rfl rfl rfl rfl (by first | exact map_len | rfl) ?_
         refine pu ?_
         refine ops_nt ?_
         refine wpD_cond rfl (fun hc503 => ?_) (fun hc503 => ?_)
         ·replace hm := yes_t hc503 hm
          refine wpD_skip ?_
          refine then_normal ?_
          refine wpD_seq ?_
          refine wpD_block ?_
          refine wpD_seq ?_
          obtain ⟨y509, q509, ho509⟩ := yes_bind hm
          refine wpD_mid (Y := Unit) (fun z509 => (⟨[(7, .ptr w60 0), (18, .v (SL w397)), (19, .v (.int .i64 s460)), (185, .v (.bool y509))], [(0, Blk.row 6 (x398.map eTMemHeld) (SL w397)), (0, Blk.row 4 (y229.2.2.2.1.map eTApiWord) (SL z229.2.1)), (w60, Blk.cells [.lst 4 (y229.1.map eTApiGlobal) .no, .lst 5 (y229.2.1.map eTApiFunc) .no, .lst 2 (y229.2.2.1.map eTApiCell) (.cur z229.1), .v (SL z229.2.1)] 56)], [(2, z229.1)]⟩ : S)) ?_ ?_
          ·clear hm; have hm := yes_of q509
           obtain ⟨x510, q510, hm⟩ := yes_bind hm
           obtain ⟨x511, q511, hm⟩ := yes_bind hm
           refine bycB (!(decide (x510.gC.gName = x511.gName) && (x510.gC.gAt == x511.gAt && true))) (fun hs512 => ?_) (fun hs512 => ?_)
           ·replace hm := yes_t hs512 hm
            refine wpD_draws 26 [] nlMe2_2 [0,2,3,4,5,6,7,8,10,11] nlMe2_3 (by kernel_rfl) (by kernel_rfl) (by kernel_rfl) (by rfl) (by rfl) (by kernel_rfl) ?_
            iterate 10 apply Exists.intro
            intro bs
            refine zep ?_
            refine zqp ?_
            refine z_eM rfl rfl ((xm_elemR 0 htab rfl rfl rfl rfl rfl rfl rfl rfl (idx_nonneg q510) (idx_map q510))) rfl rfl rfl rfl rfl rfl ?_
            refine z_eM rfl rfl ((xm_fieldR 0 htab rfl rfl rfl (idx_map q510) rfl rfl rfl rfl)) rfl rfl rfl rfl rfl rfl ?_
            refine z_eM rfl rfl ((xm_loadF (d := eTApiCell x510.gC) (d0 := eTMemHeld x510) 0 htab rfl rfl rfl rfl (idx_map q510) rfl (by simp [dcells, eTMemHeld]))) rfl rfl rfl rfl rfl rfl ?_
            iterate 3 refine zep ?_
            refine z_eM rfl rfl (xm_load 2 htab rfl rfl rfl rfl rfl) rfl rfl rfl rfl rfl rfl ?_
            refine zqp ?_
            refine z_e rfl rfl (x_elem htab rfl rfl rfl rfl rfl rfl rfl (idx_nonneg q511) (idx_map q511)) rfl rfl rfl rfl rfl rfl ?_
            refine z_eM rfl rfl (xm_loadEl (d := eTApiCell x511) htab rfl rfl rfl rfl rfl) rfl rfl rfl rfl rfl rfl ?_
            refine z_q rfl rfl (x_eqS htab rfl rfl eqt35 rfl rfl rfl rfl rfl) rfl rfl rfl rfl rfl rfl ?_
            refine zqp ?_
            refine z_known (j := 171) (b' := true) rfl hs512 ?_
            iterate 12 refine zK ?_
            refine z_nil rfl rfl (fun e he => by simp [isAl] at he) ?_
            refine pK ?_
            refine p_pickT rfl rfl rfl rfl rfl rfl ?_
            refine ops_nil ?_
            have e509 := yes_eq hm; subst e509
            refine ⟨rfl, ?_⟩
            exact WkX.of () (WkS.perm (WkS.cons rfl (Wk.refl _) (WkS.cons rfl (Wk.refl _) (WkS.cons rfl (Wk.refl _) (WkS.cons rfl (Wk.refl _) (WkS.nil))))) Pf Pf)
           ·replace hm := yes_f hs512 hm
            obtain ⟨x513, q513, hm⟩ := yes_bind hm
            obtain ⟨x514, q514, hm⟩ := yes_bind hm
            refine wpD_draws 26 [] nlMe2_4 [0,2,3,4,5,6,7,8,10,11,14,16,17,18,19,20,21,22,24,25] nlMe2_3 (by kernel_rfl) (by kernel_rfl) (by kernel_rfl) (by rfl) (by rfl) (by kernel_rfl) ?_
            iterate 20 apply Exists.intro
            intro bs
            refine zep ?_
            refine zqp ?_
            refine z_eM rfl rfl ((xm_elemR 0 htab rfl rfl rfl rfl rfl rfl rfl rfl (idx_nonneg q510) (idx_map q510))) rfl rfl rfl rfl rfl rfl ?_
            refine z_eM rfl rfl ((xm_fieldR 0 htab rfl rfl rfl (idx_map q510) rfl rfl rfl rfl)) rfl rfl rfl rfl rfl rfl ?_
            refine z_eM rfl rfl ((xm_loadF (d := eTApiCell x510.gC) (d0 := eTMemHeld x510) 0 htab rfl rfl rfl rfl (idx_map q510) rfl (by simp [dcells, eTMemHeld]))) rfl rfl rfl rfl rfl rfl ?_
            iterate 3 refine zep ?_
            refine z_eM rfl rfl (xm_load 2 htab rfl rfl rfl rfl rfl) rfl rfl rfl rfl rfl rfl ?_
            refine zqp ?_
            refine z_e rfl rfl (x_elem htab rfl rfl rfl rfl rfl rfl rfl (idx_nonneg q511) (idx_map q511)) rfl rfl rfl rfl rfl rfl ?_
            refine z_eM rfl rfl (xm_loadEl (d := eTApiCell x511) htab rfl rfl rfl rfl rfl) rfl rfl rfl rfl rfl rfl ?_
            refine z_q rfl rfl (x_eqS htab rfl rfl eqt35 rfl rfl rfl rfl rfl) rfl rfl rfl rfl rfl rfl ?_
            refine zqp ?_
            refine z_known (j := 171) (b' := false) rfl hs512 ?_
            refine zep ?_
            refine zqp ?_
            refine z_eM rfl rfl ((xm_elemR 0 htab rfl rfl rfl rfl rfl rfl rfl rfl (idx_nonneg q513) (idx_map q513))) rfl rfl rfl rfl rfl rfl ?_
            refine z_eM rfl rfl ((xm_fieldR 0 htab rfl rfl rfl (idx_map q513) rfl rfl rfl rfl)) rfl rfl rfl rfl rfl rfl ?_
            refine z_eM rfl rfl ((xm_loadF (d := eTApiWord x513.gW) (d0 := eTMemHeld x513) 0 htab rfl rfl rfl rfl (idx_map q513) rfl (by simp [dcells, eTMemHeld]))) rfl rfl rfl rfl rfl rfl ?_
            iterate 3 refine zep ?_
            refine z_eM rfl rfl (xm_load 2 htab rfl rfl rfl rfl rfl) rfl rfl rfl rfl rfl rfl ?_
            refine zqp ?_
            refine z_eM rfl rfl ((xm_elemR 1 htab rfl rfl rfl rfl rfl rfl rfl rfl (idx_nonneg q514) (idx_map q514))) rfl rfl rfl rfl rfl rfl ?_
            refine z_eM rfl rfl ((xm_loadR (d := eTApiWord x514) (d0 := eTApiWord x514) 1 htab rfl rfl rfl rfl (idx_map q514) rfl (by simp [dcells, eTApiWord]))) rfl rfl rfl rfl rfl rfl ?_
            refine z_nil rfl rfl (fun e he => by simp [isAl] at he) ?_
            refine p_eqC eqn37 htab rfl rfl rfl rfl rfl eqs37 eqg37 rfl rfl rfl rfl ?_
            refine p_pickF rfl rfl rfl rfl rfl rfl ?_
            refine ops_nil ?_
            have e509 := yes_eq hm; subst e509
            refine ⟨rfl, ?_⟩
            exact WkX.of () (WkS.perm (WkS.cons rfl (Wk.refl _) (WkS.cons rfl (Wk.refl _) (WkS.cons rfl (Wk.refl _) (WkS.cons rfl (Wk.refl _) (WkS.nil))))) Pf Pf)
          ·intro s509 hw509; clear hm; have hm := ho509; clear q509 ho509
           refine then_normal ?_
           refine wpD_wkX hw509 (fun z509 => ?_)
           refine wpD_cond rfl (fun hc515 => ?_) (fun hc515 => ?_)
           ·replace hm := yes_t hc515 hm
            refine wpD_sr ?_
            refine pu ?_
            refine ops_nt ?_
            refine wpD_ret ?_
            refine block_ret ?_
            refine then_ret ?_
            have e460 := lp_done hm; subst e460; clear hm; have hm := hq460
            refine then_ret ?_
            refine block_ret ?_
            have e459 := yes_eq hm; subst e459; refine midX_inr ?_; clear hm; have hm := ho459; simp only [Sum.elim_inr] at hm
            refine then_ret ?_
            have er516 := yes_eq hm; subst er516
            refine rP (t' := [(4, .v (.bool false))]) [] [] 0 (wC wN) (lT lN) ?_
            exact ⟨rfl, rfl, rfl⟩
           ·replace hm := yes_f hc515 hm
            refine wpD_skip ?_
            refine block_normal ?_
            refine then_normal ?_
            refine wpD_region ?_
            iterate 3 refine pu ?_
            refine ops_nil ?_
            refine then_normal ⟨_, lp_next hm, ?_⟩
            exact WkX.of () (WkS.perm (WkS.cons rfl (Wk.refl _) (WkS.cons rfl (Wk.refl _) (WkS.cons rfl (Wk.refl _) (WkS.nil)))) Pf Pf)
         ·replace hm := yes_f hc503 hm
          refine wpD_exit ?_
          refine then_exit ?_
          have e460 := lp_done hm; subst e460; clear hm; have hm := hq460
          refine then_exit ?_
          refine block_hit ?_
          have e459 := yes_eq hm; subst e459
          refine midX_inl ?_
          exact WkX.of () (WkS.perm (WkS.nil) Pf Pf)
       ·intro y459 s459 hx459 hw459; subst hx459; clear hm; have hm := ho459; simp only [Sum.elim_inl] at hm; clear q459 ho459
        refine then_normal ?_
        refine wpD_wkX hw459 (fun z459 => ?_)
        refine wpD_sr ?_
        obtain ⟨x517, q517, hm⟩ := yes_bind hm
        refine p_call0 (l19_lives_ok x517 q517) rfl rfl rfl rfl rfl Wl ?_
        rintro _ rfl
        refine pu ?_
        refine ops_nt ?_
        refine wpD_ret ?_
        have er518 := yes_eq hm; subst er518
        refine rP (t' := [(4, .v (.bool x517))]) [] [] 0 (wC wN) (lT lN) ?_
        exact ⟨rfl, rfl, rfl⟩
end Go.Proofs.Ytfepijllmfedfaa.Ab
namespace Go.Proofs.Ytfepijllmfedfaa.Ab
open Go
set_option linter.all false
theorem loop_any {β τ : Type} {l : List β} {f : Int → Option (Step Int (Unit ⊕ τ))} (t : β → Bool) (r : Nat → τ)
    (h1 : ∀ p x q, l = p ++ x :: q → f (p.length : Int) = some (bif t x then .done (.inr (r p.length)) else .next ((p.length + 1 : Nat) : Int)))
    (h2 : f (l.length : Int) = some (.done (.inl ()))) : (l.any t = false ∧ loopM f (0 : Int) = some (.inl ())) ∨ (l.any t = true ∧ ∃ j, j < l.length ∧ loopM f (0 : Int) = some (.inr (r j))) := by
  have key : ∀ (q p : List β), l = p ++ q → (q.any t = false ∧ loopM f (p.length : Int) = some (.inl ())) ∨ (q.any t = true ∧ ∃ j, j < l.length ∧ loopM f (p.length : Int) = some (.inr (r j))) := by
    intro q
    induction q with
    | nil =>
      intro p e
      rw [List.append_nil] at e; subst e
      exact .inl ⟨rfl, loopM_done h2⟩
    | cons x q ih =>
      intro p e
      have h := h1 p x q e
      cases ht : t x
      · rw [ht, cond_false] at h
        have := ih (p ++ [x]) (by simp [e])
        rw [loopM_next h]
        simp only [List.length_append, List.length_cons, List.length_nil, Nat.zero_add, List.any_cons, ht, Bool.false_or] at this ⊢
        exact this
      · rw [ht, cond_true] at h
        refine .inr ⟨by simp [ht], p.length, by subst e; simp, loopM_done h⟩
  exact key l [] rfl
theorem any_list {β τ ρ : Type} {f : Int → Option (Step Int (Unit ⊕ τ))} {k : Unit ⊕ τ → Option ρ} {R : Option ρ} (l : List β) (t : β → Bool) (r : Nat → τ)
    (h1 : ∀ p x q, l = p ++ x :: q → f (p.length : Int) = some (bif t x then .done (.inr (r p.length)) else .next ((p.length + 1 : Nat) : Int)))
    (h2 : f (l.length : Int) = some (.done (.inl ()))) (k0 : l.any t = false → k (.inl ()) = R) (k1 : ∀ j, j < l.length → l.any t = true → k (.inr (r j)) = R) : Option.bind (loopM f (0 : Int)) k = R := by
  rcases loop_any t r h1 h2 with ⟨a, b⟩ | ⟨a, j, hj, b⟩
  · rw [b]; exact k0 a
  · rw [b]; exact k1 j hj a
end Go.Proofs.Ytfepijllmfedfaa.Ab
namespace Go.Proofs.Ytfepijllmfedfaa.Ab.Pq
open Go
set_option linter.all false
theorem mget_put {α β : Type} [DecidableEq α] (k : α) (v : β) (k' : α) : ∀ l : List (α × β), mget (mput l k v) k' = if k = k' then some v else mget l k'
  | [] => by simp [mput, mget]
  | (a, b) :: l => by
    unfold mput
    by_cases h : a = k
    · subst h
      rw [if_pos rfl]
      by_cases h2 : a = k'
      · simp [mget, h2]
      · simp [mget, h2]
    · rw [if_neg h]
      simp only [mget]
      by_cases h2 : a = k'
      · subst h2
        rw [if_pos rfl, if_neg (fun e => h e.symm), if_pos rfl]
      · rw [if_neg h2, if_neg h2, mget_put k v k' l]
theorem mgetD_put {α β : Type} [DecidableEq α] (k : α) (v z : β) (k' : α) (l : List (α × β)) : mgetD (mput l k v) k' z = if k = k' then v else mgetD l k' z := by
  unfold mgetD
  rw [mget_put]
  by_cases h : k = k'
  · rw [if_pos h, if_pos h]; rfl
  · rw [if_neg h, if_neg h]
theorem pre_len {α : Type} {l p : List α} {x : α} {q : List α} (h : l = p ++ x :: q) : p.length < l.length := by subst h; simp
def zW (b : Bool) : TApiWord := ⟨b, 0, ⟨ByteArray.empty, 0⟩⟩
abbrev Gl := List TApiGlobal
def fnG (l : Gl) (s : ByteArray) : Option TApiGlobal := l.find? fun x => decide (x.gName = s)
def szg (g : TApiGlobal) : Nat := if g.gPtr = true ∨ g.gSize < 1 then 1 else g.gSize.toNat
def szG (l : Gl) (s : ByteArray) : Nat := match fnG l s with
  | some g => szg g
  | none => 0
theorem szg_pos (g : TApiGlobal) : 1 ≤ szg g := by
  unfold szg
  split
  · omega
  · rename_i h; omega
theorem fnG_snoc (pre : Gl) (x : TApiGlobal) (s : ByteArray) : fnG (pre ++ [x]) s = match fnG pre s with
    | some g => some g
    | none => if x.gName = s then some x else none := by
  unfold fnG
  rw [List.find?_append]
  cases h : pre.find? fun x => decide (x.gName = s) with
  | some g => rfl
  | none =>
    by_cases h2 : x.gName = s
    · simp [h2]
    · simp [h2]
theorem szG_zero {l : Gl} {s : ByteArray} : szG l s = 0 ↔ fnG l s = none := by
  unfold szG
  cases h : fnG l s with
  | none => simp
  | some g => have := szg_pos g; simp; omega
theorem szG_snoc (pre : Gl) (x : TApiGlobal) (s : ByteArray) : szG (pre ++ [x]) s = if szG pre s = 0 ∧ x.gName = s then szg x else szG pre s := by
  have h0 := @szG_zero pre s
  unfold szG at h0 ⊢
  rw [fnG_snoc]
  cases h : fnG pre s with
  | some g => rw [h] at h0; simp only at h0 ⊢; have := szg_pos g; rw [if_neg (by omega)]
  | none =>
    by_cases h2 : x.gName = s
    · simp [h2]
    · simp [h2]
def cellsOf (s : ByteArray) (n : Nat) : List TApiCell := (List.range n).map fun i : Nat => (⟨s, (i : Int)⟩ : TApiCell)
theorem cells_mem (s : ByteArray) (n : Nat) (c : TApiCell) : c ∈ cellsOf s n ↔ c.gName = s ∧ 0 ≤ c.gAt ∧ c.gAt < n := by
  obtain ⟨m, a⟩ := c
  unfold cellsOf
  simp only [List.mem_map, List.mem_range, TApiCell.mk.injEq]
  constructor
  · rintro ⟨i, hi, rfl, rfl⟩; exact ⟨rfl, by omega, by omega⟩
  · rintro ⟨rfl, h1, h2⟩; exact ⟨a.toNat, by omega, rfl, by omega⟩
theorem cells_snoc (s : ByteArray) (n : Nat) : cellsOf s (n + 1) = cellsOf s n ++ [⟨s, (n : Int)⟩] := by
  unfold cellsOf; rw [List.range_succ, List.map_append]; rfl
theorem cells_len (s : ByteArray) (n : Nat) : (cellsOf s n).length = n := by unfold cellsOf; simp
theorem cells_rise (s : ByteArray) : ∀ n, (cellsOf s n).Pairwise ltC
  | 0 => by simp [cellsOf]
  | n + 1 => by
    rw [cells_snoc, List.pairwise_append]
    refine ⟨cells_rise s n, by simp, fun c hc d hd => ?_⟩
    rw [List.mem_singleton] at hd; subst hd
    obtain ⟨h1, h2, h3⟩ := (cells_mem _ _ _).1 hc
    exact .inr ⟨h1, h3⟩
abbrev St3 := List TApiCell × List (ByteArray × Int) × List (TApiCell × TApiWord)
def putAll (w : List (TApiCell × TApiWord)) (cs : List TApiCell) (b : Bool) : List (TApiCell × TApiWord) := cs.foldl (fun w c => mput w c (zW b)) w
def nstep (a : St3) (x : TApiGlobal) : St3 := if (0 : Int) < mgetD a.2.1 x.gName 0 then a else (a.1 ++ cellsOf x.gName (szg x), mput a.2.1 x.gName (szg x : Int), putAll a.2.2 (cellsOf x.gName (szg x)) x.gPtr)
theorem putAll_get (b : Bool) (c : TApiCell) (z : TApiWord) : ∀ (cs : List TApiCell) (w : List (TApiCell × TApiWord)), mgetD (putAll w cs b) c z = if c ∈ cs then zW b else mgetD w c z
  | [], w => by simp [putAll]
  | d :: cs, w => by
    have := putAll_get b c z cs (mput w d (zW b))
    show mgetD (putAll (mput w d (zW b)) cs b) c z = _
    rw [this, mgetD_put]
    by_cases h : c ∈ cs
    · rw [if_pos h, if_pos (List.mem_cons_of_mem _ h)]
    · rw [if_neg h]
      by_cases h2 : d = c
      · rw [if_pos h2, if_pos (by subst h2; simp)]
      · rw [if_neg h2, if_neg (by rw [List.mem_cons, not_or]; exact ⟨fun e => h2 e.symm, h⟩)]
def InG (l : Gl) (c : TApiCell) : Prop := 0 ≤ c.gAt ∧ c.gAt < szG l c.gName
structure NI (pre : Gl) (a : St3) : Prop where
  sz : ∀ s, mgetD a.2.1 s 0 = (szG pre s : Int)
  mem : ∀ c, c ∈ a.1 ↔ InG pre c
  nd : a.1.Nodup
  wd : ∀ c, InG pre c → mgetD a.2.2 c (zW false) = zW ((fnG pre c.gName).map (·.gPtr) |>.getD false)
  len : (∀ g ∈ pre, szg g ≤ 2000) → a.1.length ≤ 2000 * pre.length
theorem ltC_nodup {l : List TApiCell} (h : l.Pairwise ltC) : l.Nodup := h.imp fun {a b} k e => by subst e; exact ltC_irr _ k
theorem nstep_NI {pre : Gl} {a : St3} (x : TApiGlobal) (h : NI pre a) : NI (pre ++ [x]) (nstep a x) := by
  unfold nstep
  rw [h.sz]
  by_cases h0 : szG pre x.gName = 0
  · rw [if_neg (by omega)]
    have hf := szG_zero.1 h0
    have hin : ∀ c, InG (pre ++ [x]) c ↔ (InG pre c ∨ c ∈ cellsOf x.gName (szg x)) := fun c => by
      unfold InG
      rw [szG_snoc, cells_mem]
      by_cases e : x.gName = c.gName
      · rw [← e, if_pos ⟨h0, rfl⟩, h0]
        constructor
        · rintro ⟨a, b⟩; exact .inr ⟨rfl, a, b⟩
        · rintro (⟨a, b⟩ | ⟨_, a, b⟩)
          · omega
          · exact ⟨a, b⟩
      · rw [if_neg (fun q => e q.2)]
        constructor
        · exact fun k => .inl k
        · rintro (k | ⟨k, _⟩)
          · exact k
          · exact absurd k.symm e
    have hdis : ∀ c ∈ a.1, c ∉ cellsOf x.gName (szg x) := fun c hc hc2 => by
      have h1 := (h.mem c).1 hc
      have h2 := (cells_mem _ _ _).1 hc2
      unfold InG at h1
      rw [h2.1, h0] at h1; omega
    refine ⟨fun s => ?_, fun c => ?_, ?_, fun c hc => ?_, fun hb => ?_⟩
    · show mgetD (mput a.2.1 x.gName (szg x : Int)) s 0 = _
      rw [mgetD_put, szG_snoc, h.sz]
      by_cases e : x.gName = s
      · rw [if_pos e, if_pos ⟨e ▸ h0, e⟩]
      · rw [if_neg e, if_neg (fun q => e q.2)]
    · show c ∈ a.1 ++ _ ↔ _
      rw [List.mem_append, h.mem, hin]
    · show (a.1 ++ _).Nodup
      rw [List.nodup_append]
      exact ⟨h.nd, ltC_nodup (cells_rise _ _), fun c hc d hd e => by subst e; exact hdis c hc hd⟩
    · show mgetD (putAll a.2.2 _ _) c _ = _
      rw [putAll_get, fnG_snoc]
      by_cases e : c ∈ cellsOf x.gName (szg x)
      · rw [if_pos e]
        have e1 := ((cells_mem _ _ _).1 e).1
        rw [e1, hf]; simp
      · rw [if_neg e]
        have hp : InG pre c := by
          rcases (hin c).1 hc with k | k
          · exact k
          · exact absurd k e
        rw [h.wd c hp]
        cases hq : fnG pre c.gName with
        | some g => rfl
        | none =>
          have := szG_zero.2 hq
          unfold InG at hp
          omega
    · show (a.1 ++ _).length ≤ _
      have h1 := h.len fun g hg => hb g (List.mem_append_left _ hg)
      have h2 := hb x (by simp)
      rw [List.length_append, cells_len, List.length_append]
      simp only [List.length_cons, List.length_nil]
      omega
  · rw [if_pos (by omega)]
    have hs : ∀ s, szG (pre ++ [x]) s = szG pre s := fun s => by
      rw [szG_snoc]
      by_cases e : szG pre s = 0 ∧ x.gName = s
      · rw [← e.2] at e; exact absurd e.1 h0
      · rw [if_neg e]
    refine ⟨fun s => by rw [hs]; exact h.sz s, fun c => by unfold InG; rw [hs]; exact h.mem c, h.nd, fun c hc => ?_, fun hb => ?_⟩
    · unfold InG at hc
      rw [hs] at hc
      rw [h.wd c hc, fnG_snoc]
      cases hq : fnG pre c.gName with
      | some g => rfl
      | none =>
        have := szG_zero.2 hq
        omega
    · have h1 := h.len fun g hg => hb g (List.mem_append_left _ hg)
      rw [List.length_append]
      simp only [List.length_cons, List.length_nil]
      omega
theorem newAll (l : Gl) : NI l (l.foldl nstep ([], [], [])) := by
  have key : ∀ (post pre : Gl) (a : St3), NI pre a → NI (pre ++ post) (post.foldl nstep a) := by
    intro post
    induction post with
    | nil => intro pre a h; simpa using h
    | cons x post ih =>
      intro pre a h
      have := ih (pre ++ [x]) _ (nstep_NI x h)
      simpa using this
  have := key l [] ([], [], []) ⟨fun s => by simp [mgetD, mget, szG, fnG], fun c => by simp [InG, szG, fnG] <;> omega, by simp, fun c h => by (simp [InG, szG, fnG] at h) <;> omega, fun _ => by simp⟩
  simpa using this
def memN (p : TApiProgram) : TMemMem := ⟨(p.gGlobals.foldl nstep ([], [], [])).2.1, (p.gGlobals.foldl nstep ([], [], [])).2.2, (p.gGlobals.foldl nstep ([], [], [])).1⟩
theorem new_eq {p : TApiProgram} (hn : p.gGlobals.length ≤ 30) (hs : ∀ g ∈ p.gGlobals, g.gSize ≤ 2000) : mem_New p = some (memN p) := by
  have hz : ∀ g ∈ p.gGlobals, szg g ≤ 2000 := fun g hg => by
    have := hs g hg
    unfold szg; split <;> omega
  unfold mem_New
  refine loop_list p.gGlobals (fun pre => pre.foldl nstep ([], [], [])) (fun a n => ((n : Int), a)) (fun a => a) (by simp) (fun pre x post hpp => ?_) ?_ ?_
  · have hl := pre_len hpp
    have hx := pre_mem hpp
    have hI := newAll pre
    have hlen := hI.len fun g hg => hz g (by rw [hpp]; exact List.mem_append_left _ hg)
    rw [List.foldl_append, List.foldl_cons, List.foldl_nil]
    generalize pre.foldl nstep ([], [], []) = a at hI hlen ⊢
    obtain ⟨c0, s0, w0⟩ := a
    simp only at hlen
    simp only [lt_pre hpp, cond_true]
    rw [idx_pre2 hpp rfl, Option.bind_some, inc_pre hpp (by omega)]
    unfold nstep
    by_cases h : (0 : Int) < mgetD s0 x.gName 0
    · rw [decide_eq_true h, cond_true, if_pos h]
    · rw [decide_eq_false h, cond_false, if_neg h]
      have hy : (bif (!x.gPtr) then some (decide ((0 : Int) < x.gSize)) else some false) = some (!x.gPtr && decide ((0 : Int) < x.gSize)) := by cases x.gPtr <;> rfl
      have hw : (bif (!x.gPtr && decide ((0 : Int) < x.gSize)) then some x.gSize else some (1 : Int)) = some (szg x : Int) := by
        unfold szg
        cases x.gPtr
        · by_cases q : 0 < x.gSize
          · simp only [Bool.not_false, Bool.true_and, decide_eq_true q, cond_true]
            rw [if_neg (by simp; omega)]
            congr 1; omega
          · simp only [Bool.not_false, Bool.true_and, decide_eq_false q, cond_false]
            rw [if_pos (by right; omega)] <;> rfl
        · rfl
      simp only []
      rw [hy, Option.bind_some, hw, Option.bind_some]
      have hzx := hz x hx
      refine loop_list (List.range (szg x)) (fun q => (c0 ++ cellsOf x.gName q.length, putAll w0 (cellsOf x.gName q.length) x.gPtr)) (fun a n => ((n : Int), a)) (fun a => a) (by simp [cellsOf, putAll]) (fun q y r hq => ?_) ?_ ?_
      · have hql := pre_len hq
        rw [List.length_range] at hql
        simp only
        rw [decide_eq_true (by omega), cond_true, app_len (by omega) (by simp [cells_len]; omega), Option.bind_some, wrap_id (by omega) (by omega)]
        simp only [List.length_append, List.length_cons, List.length_nil, Nat.zero_add]
        rw [cells_snoc]
        unfold putAll
        rw [List.foldl_append, List.append_assoc]
        rfl
      · simp only [List.length_range]
        rw [decide_eq_false (by omega), cond_false]
      · simp only [List.length_range]
  · simp only [lt_end, cond_false]
  · rfl
theorem new_r : mem_New_r = mem_New := rfl
end Go.Proofs.Ytfepijllmfedfaa.Ab.Pq
namespace Go.Proofs.Ytfepijllmfedfaa.Ab.Pq
open Go
set_option linter.all false
theorem put_eq {l : List ByteArray} {w : ByteArray} (hb : l.length ≤ 4000000) : r07_Put_r l w = some (insT ltB w l) := by
  unfold r07_Put_r
  refine loop_list l (fun pre => pre.foldl (insS ltB w) ([], false)) (fun a n => (a.1, a.2, (n : Int))) (fun a => a) (by simp) (fun pre x post hp => ?_) ?_ ?_
  · have hlp := congrArg List.length hp
    simp only [List.length_append, List.length_cons] at hlp
    have hz := insS_len ltB w pre ([], false)
    rw [List.foldl_append, List.foldl_cons, List.foldl_nil]
    generalize pre.foldl (insS ltB w) ([], false) = s at hz ⊢
    obtain ⟨acc, put⟩ := s
    simp only [List.length_nil] at hz
    simp only [lt_pre hp, cond_true, idx_pre2 hp rfl, Option.bind_some]
    rw [inc_pre hp (by omega)]
    have hq : (w.toList == x.toList) = decide (w = x) := by
      rw [ByteArray.toList_eq, ByteArray.toList_eq, Bool.eq_iff_iff, beq_iff_eq, decide_eq_true_iff]
      exact ⟨fun h => lsOf_inj h, fun h => by rw [h]⟩
    rw [hq]
    cases put
    · simp only [Bool.not_false, cond_true]
      cases h1 : ltB w x
      · by_cases h2 : w = x
        · subst h2
          simp only [decide_true, Bool.or_true, cond_true, cond_false, Option.bind_some]
          rw [app_len (by omega) (by simp; omega), Option.bind_some]
          simp [insS, ltB_irr]
        · simp only [decide_eq_false h2, Bool.or_false, cond_false, Option.bind_some]
          rw [app_len (by omega) (by simp; omega), Option.bind_some]
          simp [insS, h1, h2]
      · simp only [Bool.true_or, cond_true]
        rw [app_len (by omega) (by simp; omega), Option.bind_some, Option.bind_some, Option.bind_some]
        simp only []
        rw [app_len (by omega) (by simp; omega), Option.bind_some]
        simp [insS, h1]
    · simp only [Bool.not_true, cond_false]
      rw [app_len (by omega) (by simp; omega), Option.bind_some]
      simp [insS]
  · simp only [lt_end, cond_false]
  · have hz := insS_len ltB w l ([], false)
    have h := insS_no ltB ltB_irr w l []
    generalize l.foldl (insS ltB w) ([], false) = s at hz h ⊢
    obtain ⟨acc, put⟩ := s
    simp only [List.length_nil] at hz
    cases put
    · simp only [Bool.not_false, cond_true]
      rw [app_len (by omega) (by simp; omega), Option.bind_some]
      simpa using h
    · simp only [Bool.not_true, cond_false]
      simpa using h
theorem find_loop {α : Type} (t : α → Bool) {l : List α} {f : Int → Option (Step Int (Unit ⊕ Int))}
    (h1 : ∀ p x q, l = p ++ x :: q → f (p.length : Int) = some (bif t x then .done (.inr ((p.length : Nat) : Int)) else .next ((p.length + 1 : Nat) : Int)))
    (h2 : f (l.length : Int) = some (.done (.inl ()))) : ∃ i : Int, Option.bind (α := Unit ⊕ Int) (loopM f (0 : Int)) (Sum.elim (fun _ => some (-1)) (fun r => some r)) = some i ∧ ((i = -1 ∧ l.find? t = none) ∨ ∃ (n : Nat) (x : α), i = n ∧ n < l.length ∧ l[n]? = some x ∧ l.find? t = some x) := by
  have key : ∀ (q p : List α), l = p ++ q → (∀ y ∈ p, t y = false) → ∃ i : Int, Option.bind (α := Unit ⊕ Int) (loopM f (p.length : Int)) (Sum.elim (fun _ => some (-1)) (fun r => some r)) = some i ∧ ((i = -1 ∧ l.find? t = none) ∨ ∃ (n : Nat) (x : α), i = n ∧ n < l.length ∧ l[n]? = some x ∧ l.find? t = some x) := by
    intro q
    induction q with
    | nil =>
      intro p e hp
      rw [List.append_nil] at e; subst e
      refine ⟨-1, by rw [loopM_done h2]; rfl, .inl ⟨rfl, List.find?_eq_none.2 fun y hy => by rw [hp y hy]; simp⟩⟩
    | cons x q ih =>
      intro p e hp
      have h := h1 p x q e
      cases ht : t x
      · rw [ht, cond_false] at h
        rw [loopM_next h]
        have := ih (p ++ [x]) (by simp [e]) (fun y hy => by
          rcases List.mem_append.1 hy with hy | hy
          · exact hp y hy
          · rw [List.mem_singleton] at hy; subst hy; exact ht)
        simpa using this
      · rw [ht, cond_true] at h
        refine ⟨(p.length : Int), by rw [loopM_done h]; rfl, .inr ⟨p.length, x, rfl, by subst e; simp, by subst e; simp, ?_⟩⟩
        subst e
        rw [List.find?_append, List.find?_eq_none.2 fun y hy => by rw [hp y hy]; simp]
        simp [ht]
  have := key l [] rfl (by simp)
  simpa using this
theorem rGlobal_eq {p : TApiProgram} (s : ByteArray) (hb : p.gGlobals.length ≤ 1048576) : ∃ i : Int, r18_Global p s = some i ∧ ((i = -1 ∧ fnG p.gGlobals s = none) ∨ ∃ (n : Nat) (x : TApiGlobal), i = n ∧ n < p.gGlobals.length ∧ p.gGlobals[n]? = some x ∧ fnG p.gGlobals s = some x) := by
  unfold r18_Global
  refine find_loop (fun x : TApiGlobal => decide (x.gName = s)) (fun p x q h => ?_) ?_
  · rw [lt_pre h, cond_true, idx_pre2 h rfl, Option.bind_some, inc_pre h (by omega)]
    cases decide (x.gName = s) <;> rfl
  · rw [lt_end, cond_false]
theorem idx_some {α : Type} {l : List α} {n : Nat} {x : α} (h : l[n]? = some x) : idx l (n : Int) = some x := by rw [idx_nat]; exact h
def ptG (l : Gl) (s : ByteArray) : Bool := (fnG l s).map (·.gPtr) |>.getD false
theorem rsize_eq {p : TApiProgram} (s : ByteArray) (hn : p.gGlobals.length ≤ 30) : r19_size p s = some (szG p.gGlobals s : Int) := by
  unfold r19_size
  obtain ⟨i, e1, e2⟩ := rGlobal_eq (p := p) s (by omega)
  rw [e1, Option.bind_some]
  unfold szG
  rcases e2 with ⟨rfl, h⟩ | ⟨n, x, rfl, _, h, h'⟩
  · rw [h]; rfl
  · rw [h', decide_eq_false (by omega), cond_false]
    simp only [idx_some h, Option.bind_some]
    unfold szg
    cases x.gPtr
    · by_cases q : x.gSize < 1
      · simp only [cond_false, Option.bind_some, decide_eq_true q, cond_true]
        rw [if_pos (.inr q)]; rfl
      · simp only [cond_false, Option.bind_some, decide_eq_false q]
        rw [if_neg (by simp; omega)]
        congr 1; omega
    · rfl
def nmsG (l : Gl) : List ByteArray := insA ltB (l.map (·.gName))
def CC (p : TApiProgram) : List TApiCell := (nmsG p.gGlobals).flatMap fun s => cellsOf s (szG p.gGlobals s)
theorem fn_name {l : Gl} {s : ByteArray} {g : TApiGlobal} (h : fnG l s = some g) : g ∈ l ∧ g.gName = s := ⟨List.mem_of_find?_eq_some h, by have := List.find?_some h; simpa using this⟩
theorem fn_some {l : Gl} {s : ByteArray} (h : s ∈ nmsG l) : ∃ g, fnG l s = some g := by
  rw [nmsG, (insB_all _).2.1] at h
  obtain ⟨g, hg, rfl⟩ := List.mem_map.1 h
  have : (fnG l g.gName).isSome = true := by unfold fnG; rw [List.find?_isSome]; exact ⟨g, hg, by simp⟩
  exact Option.isSome_iff_exists.1 this
theorem nms_mem {l : Gl} {s : ByteArray} (h : szG l s ≠ 0) : s ∈ nmsG l := by
  rw [nmsG, (insB_all _).2.1]
  cases e : fnG l s with
  | none => exact absurd (szG_zero.2 e) h
  | some g => obtain ⟨h1, h2⟩ := fn_name e; exact List.mem_map.2 ⟨g, h1, h2⟩
theorem CC_mem (p : TApiProgram) (c : TApiCell) : c ∈ CC p ↔ InG p.gGlobals c := by
  unfold CC InG
  rw [List.mem_flatMap]
  constructor
  · rintro ⟨s, _, h⟩
    obtain ⟨rfl, h1, h2⟩ := (cells_mem _ _ _).1 h
    exact ⟨h1, h2⟩
  · rintro ⟨h1, h2⟩
    exact ⟨c.gName, nms_mem (by omega), (cells_mem _ _ _).2 ⟨rfl, h1, h2⟩⟩
theorem CC_rise (p : TApiProgram) : (CC p).Pairwise ltC := by
  unfold CC
  rw [List.pairwise_flatMap]
  refine ⟨fun s _ => cells_rise _ _, ?_⟩
  have := (insB_all (p.gGlobals.map (·.gName))).1
  refine List.Pairwise.imp ?_ this
  intro a b h c hc d hd
  have e1 := ((cells_mem _ _ _).1 hc).1
  have e2 := ((cells_mem _ _ _).1 hd).1
  exact .inl (by rw [e1, e2]; exact (ltB_iff _ _).2 h)
theorem fl_len (p : TApiProgram) (hs : ∀ g ∈ p.gGlobals, g.gSize ≤ 2000) : ∀ l : List ByteArray, (l.flatMap fun s => cellsOf s (szG p.gGlobals s)).length ≤ 2000 * l.length
  | [] => by simp
  | s :: l => by
    have h1 := fl_len p hs l
    have h2 : szG p.gGlobals s ≤ 2000 := by
      unfold szG
      cases e : fnG p.gGlobals s with
      | none => exact Nat.zero_le _
      | some g =>
        have := hs g (fn_name e).1
        show szg g ≤ 2000
        unfold szg; split <;> omega
    rw [List.flatMap_cons, List.length_append, cells_len, List.length_cons]
    omega
theorem nms_len (l : Gl) : (nmsG l).length ≤ l.length := by
  have := (insB_all (l.map (·.gName))).2.2
  rw [List.length_map] at this; exact this
theorem CC_len {p : TApiProgram} (hn : p.gGlobals.length ≤ 30) (hs : ∀ g ∈ p.gGlobals, g.gSize ≤ 2000) : (CC p).length ≤ 60000 := by
  have h1 := fl_len p hs (nmsG p.gGlobals)
  have h2 := nms_len p.gGlobals
  unfold CC; omega
def fw (p : TApiProgram) (c : TApiCell) : TApiWord := zW (ptG p.gGlobals c.gName)
theorem rnew_eq {p : TApiProgram} (hn : p.gGlobals.length ≤ 30) (hs : ∀ g ∈ p.gGlobals, g.gSize ≤ 2000) : r19_New_r p = some ⟨p, CC p, (CC p).map (fw p)⟩ := by
  unfold r19_New_r
  refine loop_list p.gGlobals (fun pre => insA ltB (pre.map (·.gName))) (fun a n => (a, (n : Int))) (fun a => a) (by simp [insA]) (fun pre x post hpp => ?_) ?_ ?_
  · have hl := pre_len hpp
    have hi := (insB_all (pre.map (·.gName))).2.2
    rw [List.length_map] at hi
    simp only [lt_pre hpp, cond_true]
    rw [idx_pre2 hpp rfl, Option.bind_some, put_eq (by omega), Option.bind_some, inc_pre hpp (by omega), List.map_append, List.map_cons, List.map_nil, insA_snoc]
  · simp only [lt_end, cond_false]
  · show Option.bind (α := List TApiCell × List TApiWord) (loopM (fun (s298 : Int × List TApiCell × List TApiWord) => (bif (decide (s298.1 < ((nmsG p.gGlobals).length : Int))) then ((idx (nmsG p.gGlobals) s298.1).bind fun x496 => _) else _)) _) _ = _
    have hnl := nms_len p.gGlobals
    refine loop_list (nmsG p.gGlobals) (fun pre => (pre.flatMap (fun s => cellsOf s (szG p.gGlobals s)), (pre.flatMap (fun s => cellsOf s (szG p.gGlobals s))).map (fw p))) (fun a n => ((n : Int), a)) (fun a => a) (by simp) (fun pre x post hpp => ?_) ?_ ?_
    · have hl := pre_len hpp
      have hlen := fl_len p hs pre
      obtain ⟨g, hg⟩ := fn_some (pre_mem hpp)
      obtain ⟨i, e1, e2⟩ := rGlobal_eq (p := p) x (by omega)
      have hix : idx p.gGlobals i = some g := by
        rcases e2 with ⟨rfl, h⟩ | ⟨n, y, rfl, _, h, h'⟩
        · rw [hg] at h; cases h
        · rw [hg] at h'; cases h'; exact idx_some h
      have hzx : szG p.gGlobals x ≤ 2000 := by
        have := hs g (fn_name hg).1
        unfold szG; rw [hg]
        show szg g ≤ 2000
        unfold szg; split <;> omega
      have hfw : ∀ k : Int, fw p ⟨x, k⟩ = zW g.gPtr := fun k => by unfold fw ptG; rw [hg]; rfl
      rw [List.flatMap_append]
      generalize pre.flatMap (fun s => cellsOf s (szG p.gGlobals s)) = c0 at hlen ⊢
      simp only [lt_pre hpp, cond_true]
      rw [idx_pre2 hpp rfl, Option.bind_some, e1, Option.bind_some, hix, Option.bind_some, inc_pre hpp (by omega)]
      simp only [List.flatMap_cons, List.flatMap_nil, List.append_nil]
      refine loop_list (List.range (szG p.gGlobals x)) (fun q => (c0 ++ cellsOf x q.length, (c0 ++ cellsOf x q.length).map (fw p))) (fun a n => ((n : Int), a)) (fun a => a) (by simp [cellsOf]) (fun q y r hq => ?_) ?_ ?_
      · have hql := pre_len hq
        rw [List.length_range] at hql
        simp only
        rw [show idx (insA ltB (List.map (fun x => x.gName) p.gGlobals)) (pre.length : Int) = some x from idx_pre2 hpp rfl, Option.bind_some, rsize_eq x hn, Option.bind_some]
        rw [decide_eq_true (by omega), cond_true, Option.bind_some, app_len (by omega) (by simp [cells_len]; omega), Option.bind_some, app_len (by omega) (by simp [cells_len]; omega), Option.bind_some, wrap_id (by omega) (by omega)]
        simp only [List.length_append, List.length_cons, List.length_nil, Nat.zero_add]
        rw [cells_snoc, ← List.append_assoc, List.map_append (l₁ := c0 ++ cellsOf x q.length), List.map_cons, List.map_nil, hfw]
        rfl
      · simp only [List.length_range]
        rw [show idx (insA ltB (List.map (fun x => x.gName) p.gGlobals)) (pre.length : Int) = some x from idx_pre2 hpp rfl, Option.bind_some, rsize_eq x hn, Option.bind_some]
        rw [decide_eq_false (by omega), cond_false]
      · simp only [List.length_range]
    · simp only [lt_end, cond_false]
    · rfl
end Go.Proofs.Ytfepijllmfedfaa.Ab.Pq
namespace Go.Proofs.Ytfepijllmfedfaa.Ab.Pq
open Go
set_option linter.all false
structure MI (p : TApiProgram) (m : TMemMem) : Prop where
  sz : ∀ s, mgetD m.gSizes s 0 = (szG p.gGlobals s : Int)
  mem : ∀ c, c ∈ m.gCells ↔ InG p.gGlobals c
  nd : m.gCells.Nodup
  len : m.gCells.length ≤ 60000
theorem memN_MI {p : TApiProgram} (hn : p.gGlobals.length ≤ 30) (hs : ∀ g ∈ p.gGlobals, g.gSize ≤ 2000) : MI p (memN p) := by
  have h := newAll p.gGlobals
  refine ⟨h.sz, h.mem, h.nd, ?_⟩
  have := h.len fun g hg => by
    have := hs g hg
    unfold szg; split <;> omega
  show (p.gGlobals.foldl nstep ([], [], [])).1.length ≤ _
  omega
theorem memN_wd (p : TApiProgram) : (CC p).map (fw p) = (CC p).map fun c => mgetD (memN p).gWords c (zW false) := by
  refine List.map_congr_left fun c hc => ?_
  have h := (newAll p.gGlobals).wd c ((CC_mem p c).1 hc)
  exact h.symm
theorem MI_put {p : TApiProgram} {m : TMemMem} (h : MI p m) (w : List (TApiCell × TApiWord)) : MI p ⟨m.gSizes, w, m.gCells⟩ := ⟨h.sz, h.mem, h.nd, h.len⟩
def pc (p : TApiProgram) (c : TApiCell) : Int := if szG p.gGlobals c.gName = 0 then 7 else if c.gAt < 0 ∨ (szG p.gGlobals c.gName : Int) ≤ c.gAt then 11 else 0
def kc (p : TApiProgram) (c : TApiCell) : Int := if c.gName = ByteArray.mk #[] then 12 else pc p c
theorem pc_zero {p : TApiProgram} {c : TApiCell} : pc p c = 0 ↔ InG p.gGlobals c := by
  unfold pc InG
  split
  · omega
  · split <;> omega
theorem place_eq {p : TApiProgram} {m : TMemMem} (h : MI p m) (s : ByteArray) (a : Int) : mem_Mem_Place m s a = some (if pc p ⟨s, a⟩ = 0 then ⟨s, a⟩ else ⟨ByteArray.empty, 0⟩, pc p ⟨s, a⟩) := by
  unfold mem_Mem_Place pc
  rw [h.sz]
  by_cases h0 : szG p.gGlobals s = 0
  · simp [h0]
  · have : ((szG p.gGlobals s : Int) == 0) = false := by simpa using h0
    rw [this, cond_false, if_neg h0]
    by_cases h1 : a < 0
    · simp [h1]
    · rw [decide_eq_false h1, cond_false, Option.bind_some]
      by_cases h2 : (szG p.gGlobals s : Int) ≤ a
      · simp [h1, h2]
      · simp [h1, h2]
theorem known_eq {p : TApiProgram} {m : TMemMem} (h : MI p m) (c : TApiCell) : mem_Mem_known m c = some (kc p c) := by
  unfold mem_Mem_known kc
  by_cases h0 : c.gName = ByteArray.mk #[]
  · rw [decide_eq_true h0, cond_true, if_pos h0]
  · rw [decide_eq_false h0, cond_false, if_neg h0, place_eq h, Option.bind_some]
theorem get_eq {p : TApiProgram} {m : TMemMem} (h : MI p m) (c : TApiCell) : mem_Mem_Get m c = some (if kc p c = 0 then mgetD m.gWords c (zW false) else zW false, kc p c) := by
  show (mem_Mem_known m c).bind (fun x3 => bif (x3 != (0 : Int)) then some (zW false, x3) else some (mgetD m.gWords c (zW false), 0)) = _
  rw [known_eq h, Option.bind_some]
  by_cases h0 : kc p c = 0
  · simp [h0]
  · have : (kc p c != 0) = true := by simpa using h0
    rw [this, cond_true, if_neg h0]
theorem set_eq {p : TApiProgram} {m : TMemMem} (h : MI p m) (c : TApiCell) (w : TApiWord) : mem_Mem_Set m c w = some (if kc p c = 0 then (if (mgetD m.gWords c (zW false)).gPtr = w.gPtr then (0, ⟨m.gSizes, mput m.gWords c w, m.gCells⟩) else (9, m)) else (kc p c, m)) := by
  show (mem_Mem_known m c).bind (fun x3 => bif (x3 != (0 : Int)) then some (x3, m) else (bif (!((mgetD m.gWords c (zW false)).gPtr == w.gPtr)) then some ((9 : Int), m) else some ((0 : Int), (⟨m.gSizes, mput m.gWords c w, m.gCells⟩ : TMemMem)))) = _
  rw [known_eq h, Option.bind_some]
  by_cases h0 : kc p c = 0
  · have : (kc p c != 0) = false := by simpa using h0
    rw [this, cond_false, if_pos h0]
    by_cases h1 : (mgetD m.gWords c (zW false)).gPtr = w.gPtr
    · rw [if_pos h1, show (!((mgetD m.gWords c (zW false)).gPtr == w.gPtr)) = false by simp [h1], cond_false]
    · rw [if_neg h1, show (!((mgetD m.gWords c (zW false)).gPtr == w.gPtr)) = true by simpa using h1, cond_true]
  · have : (kc p c != 0) = true := by simpa using h0
    rw [this, cond_true, if_neg h0]
theorem find_at {α τ : Type} [DecidableEq α] {l : List α} {c : α} (hc : c ∈ l) {f : Int → Option (Step Int (Unit ⊕ τ))} (r : Nat → τ)
    (h1 : ∀ p x q, l = p ++ x :: q → f (p.length : Int) = some (bif decide (x = c) then .done (.inr (r p.length)) else .next ((p.length + 1 : Nat) : Int))) : ∃ n : Nat, l[n]? = some c ∧ loopM f (0 : Int) = some (.inr (r n)) := by
  have key : ∀ (q p : List α), l = p ++ q → c ∈ q → ∃ n : Nat, l[n]? = some c ∧ loopM f (p.length : Int) = some (.inr (r n)) := by
    intro q
    induction q with
    | nil => intro p e h; simp at h
    | cons x q ih =>
      intro p e hm
      have h := h1 p x q e
      by_cases ht : x = c
      · rw [decide_eq_true ht, cond_true] at h
        exact ⟨p.length, by subst e ht; simp, loopM_done h⟩
      · rw [decide_eq_false ht, cond_false] at h
        rw [loopM_next h]
        have := ih (p ++ [x]) (by simp [e]) (by
          rcases List.mem_cons.1 hm with k | k
          · exact absurd k.symm ht
          · exact k)
        simpa using this
  exact key l [] rfl hc
theorem cell_dec (x y : TApiCell) : (decide (x.gName = y.gName) && (x.gAt == y.gAt && true)) = decide (x = y) := by
  obtain ⟨a, b⟩ := x
  obtain ⟨c, d⟩ := y
  rw [Bool.and_true, Bool.eq_iff_iff]
  simp
theorem rfind_eq {p : TApiProgram} (hn : p.gGlobals.length ≤ 30) (hs : ∀ g ∈ p.gGlobals, g.gSize ≤ 2000) (ws : List TApiWord) (c : TApiCell) : ∃ i : Int, r19_Mem_Find_w ⟨p, CC p, ws⟩ c = some (i, pc p c) ∧ (pc p c = 0 → ∃ n : Nat, i = n ∧ (CC p)[n]? = some c) := by
  unfold r19_Mem_Find_w
  simp only
  rw [rsize_eq _ hn, Option.bind_some]
  have hpz := @pc_zero p c
  unfold pc at hpz ⊢
  by_cases h0 : szG p.gGlobals c.gName = 0
  · rw [if_pos h0]
    exact ⟨0, by simp [h0], fun h => by cases h⟩
  · have : ((szG p.gGlobals c.gName : Int) == 0) = false := by simpa using h0
    rw [if_neg h0] at hpz ⊢
    rw [this, cond_false]
    by_cases h1 : c.gAt < 0 ∨ (szG p.gGlobals c.gName : Int) ≤ c.gAt
    · rw [if_pos h1]
      refine ⟨0, ?_, fun h => by cases h⟩
      by_cases h2 : c.gAt < 0
      · rw [decide_eq_true h2, cond_true, Option.bind_some, cond_true]
      · rw [decide_eq_false h2, cond_false, Option.bind_some, decide_eq_true (by omega), cond_true]
    · rw [if_neg h1] at hpz ⊢
      rw [decide_eq_false (by omega), cond_false, Option.bind_some, decide_eq_false (by omega), cond_false]
      have hlen := CC_len hn hs
      have := find_at (l := CC p) (c := c) ((CC_mem p c).2 (hpz.1 rfl)) (τ := Int × Int) (fun n => ((n : Int), 0)) (f := fun (s30 : Int) => (bif (decide (s30 < ((CC p).length : Int))) then ((idx (CC p) s30).bind fun x44 => (bif (decide (x44.gName = c.gName) && (x44.gAt == c.gAt && true)) then some (.done (.inr (s30, (0 : Int)))) else some (.next (IntKind.i64.wrap (s30 + (1 : Int)))))) else some (.done (.inl ())))) (fun q x r h => by
        simp only [lt_pre h, cond_true]
        rw [idx_pre2 h rfl, Option.bind_some, cell_dec, inc_pre h (by omega)]
        cases decide (x = c) <;> rfl)
      obtain ⟨n, e1, e2⟩ := this
      exact ⟨n, by rw [e2]; rfl, fun _ => ⟨n, rfl, e1⟩⟩
theorem map_idx {α β : Type} {l : List α} {n : Nat} {c : α} (F : α → β) (h : l[n]? = some c) : idx (l.map F) (n : Int) = some (F c) := idx_some (by rw [List.getElem?_map, h]; rfl)
theorem rget_eq {p : TApiProgram} (hn : p.gGlobals.length ≤ 30) (hs : ∀ g ∈ p.gGlobals, g.gSize ≤ 2000) (F : TApiCell → TApiWord) (c : TApiCell) : r19_Mem_Get_w ⟨p, CC p, (CC p).map F⟩ c = some (if kc p c = 0 then F c else zW false, kc p c) := by
  unfold r19_Mem_Get_w kc
  by_cases h0 : c.gName = ByteArray.mk #[]
  · rw [decide_eq_true h0, cond_true, if_pos h0]; rfl
  · rw [decide_eq_false h0, cond_false, if_neg h0]
    obtain ⟨i, e1, e2⟩ := rfind_eq hn hs ((CC p).map F) c
    rw [e1, Option.bind_some]
    by_cases h1 : pc p c = 0
    · obtain ⟨n, rfl, e3⟩ := e2 h1
      simp only [h1]
      rw [map_idx F e3]; rfl
    · have : (pc p c != 0) = true := by simpa using h1
      simp only [this, cond_true]
      rw [if_neg h1]; rfl
theorem set_map {α β : Type} [DecidableEq α] {l : List α} (hd : l.Nodup) {n : Nat} {c : α} (h : l[n]? = some c) (F : α → β) (v : β) : (l.map F).set n v = l.map fun d => if c = d then v else F d := by
  refine List.ext_getElem? fun i => ?_
  rw [List.getElem?_set, List.getElem?_map, List.getElem?_map]
  have hl := (List.getElem?_eq_some_iff.1 h).1
  by_cases hi : n = i
  · subst hi
    rw [if_pos rfl, h, if_pos (by simpa using hl)]; simp
  · rw [if_neg hi]
    cases e : l[i]? with
    | none => rfl
    | some d =>
      have : c ≠ d := fun hcd => by
        subst hcd
        have hl2 := (List.getElem?_eq_some_iff.1 e).1
        exact hi ((List.getElem?_inj hl hd).1 (h.trans e.symm))
      simp [this]
theorem rset_eq {p : TApiProgram} (hn : p.gGlobals.length ≤ 30) (hs : ∀ g ∈ p.gGlobals, g.gSize ≤ 2000) (F : TApiCell → TApiWord) (c : TApiCell) (w : TApiWord) : r19_Mem_Set ⟨p, CC p, (CC p).map F⟩ c w = some (if kc p c = 0 then (if (F c).gPtr = w.gPtr then (0, ⟨p, CC p, (CC p).map fun d => if c = d then w else F d⟩) else (9, ⟨p, CC p, (CC p).map F⟩)) else (kc p c, ⟨p, CC p, (CC p).map F⟩)) := by
  unfold r19_Mem_Set kc
  by_cases h0 : c.gName = ByteArray.mk #[]
  · rw [decide_eq_true h0, cond_true, if_pos h0]; rfl
  · rw [decide_eq_false h0, cond_false, if_neg h0]
    obtain ⟨i, e1, e2⟩ := rfind_eq hn hs ((CC p).map F) c
    rw [e1, Option.bind_some]
    by_cases h1 : pc p c = 0
    · obtain ⟨n, rfl, e3⟩ := e2 h1
      simp only [h1]
      rw [map_idx F e3]
      have hst := set_map (ltC_nodup (CC_rise p)) e3 F w
      by_cases h2 : (F c).gPtr = w.gPtr
      · simp only [Option.bind_some]
        rw [show (!((F c).gPtr == w.gPtr)) = false by simp [h2], if_pos h2, ← hst]; rfl
      · simp only [Option.bind_some]
        rw [show (!((F c).gPtr == w.gPtr)) = true by simpa using h2, if_neg h2]; rfl
    · have : (pc p c != 0) = true := by simpa using h1
      simp only [this, cond_true]
      rw [if_neg h1]
theorem rise_uniq {l1 l2 : List TApiCell} (h1 : l1.Pairwise ltC) (h2 : l2.Pairwise ltC) (hp : l1.Perm l2) : l1 = l2 :=
  List.Perm.eq_of_pairwise (fun a b _ _ h k => absurd (ltC_tr h k) (ltC_irr _)) h1 h2 hp
theorem all_eq {p : TApiProgram} {m : TMemMem} (h : MI p m) : mem_Mem_All m = some ((CC p).map fun c => ⟨c, mgetD m.gWords c (zW false)⟩) := by
  unfold mem_Mem_All
  have hlen := h.len
  refine loop_list m.gCells (fun pre => pre.map fun c => (⟨c, mgetD m.gWords c (zW false)⟩ : TMemHeld)) (fun a n => (a, (n : Int))) (fun a => a) (by simp) (fun pre x post hpp => ?_) ?_ ?_
  · have hl := pre_len hpp
    simp only [lt_pre hpp, cond_true]
    rw [idx_pre2 hpp rfl, Option.bind_some, app_len (by omega) (by simp; omega), Option.bind_some, inc_pre hpp (by omega), List.map_append]
    rfl
  · simp only [lt_end, cond_false]
  · have hL : (m.gCells.map fun c => (⟨c, mgetD m.gWords c (zW false)⟩ : TMemHeld)).length ≤ 60000 := by rw [List.length_map]; exact hlen
    rw [show len62H (m.gCells.map fun c => (⟨c, mgetD m.gWords c (zW false)⟩ : TMemHeld)) = true from decide_eq_true (by omega), need, cond_true, Option.bind_some]
    congr 1
    obtain ⟨_, k2, k3⟩ := pdqL_all swo_H (m.gCells.map fun c => (⟨c, mgetD m.gWords c (zW false)⟩ : TMemHeld))
    change (sortH _).Perm _ at k2
    change (sortH _).Pairwise _ at k3
    generalize sortH (m.gCells.map fun c => (⟨c, mgetD m.gWords c (zW false)⟩ : TMemHeld)) = S at k2 k3
    have hx : ∀ x ∈ S, x = ⟨x.gC, mgetD m.gWords x.gC (zW false)⟩ := fun x hx => by
      obtain ⟨c, _, rfl⟩ := List.mem_map.1 (k2.mem_iff.1 hx)
      rfl
    have hC : (S.map (·.gC)).Perm m.gCells := by
      have := k2.map (·.gC)
      rw [List.map_map] at this
      simpa [Function.comp_def] using this
    have hP : (S.map (·.gC)).Perm (CC p) := by
      refine hC.trans ?_
      rw [List.perm_ext_iff_of_nodup h.nd (ltC_nodup (CC_rise p))]
      intro c; rw [h.mem, CC_mem]
    have hS : S.map (·.gC) = CC p := by
      refine rise_uniq ?_ (CC_rise p) hP
      have hnd : (S.map (·.gC)).Pairwise (· ≠ ·) := hC.nodup_iff.2 h.nd
      rw [List.pairwise_map] at hnd ⊢
      refine (hnd.and k3).imp fun {a b} hab => ?_
      obtain ⟨h1, h2⟩ := hab
      unfold ltOf at h2
      rw [decide_eq_false_iff_not, cfH_lt] at h2
      rcases ltC_tot a.gC b.gC with k | k | k
      · exact k
      · exact absurd k h1
      · exact absurd k h2
    rw [← hS, List.map_map]
    conv => lhs; rw [← List.map_id S]
    exact List.map_congr_left fun x h => hx x h
theorem all_r : mem_Mem_All_r = mem_Mem_All := rfl
theorem weq_refl (w : TApiWord) : (w.gPtr == w.gPtr && (w.gN == w.gN && ((decide (w.gTo.gName = w.gTo.gName) && (w.gTo.gAt == w.gTo.gAt && true)) && true))) = true := by simp
theorem ceq_refl (w : TApiCell) : (decide (w.gName = w.gName) && (w.gAt == w.gAt && true)) = true := by simp
def p1 : TApiProgram := ⟨[⟨ByteArray.mk #[97], false, 2, 0⟩], []⟩
theorem CC1 : CC p1 = [⟨ByteArray.mk #[97], 0⟩, ⟨ByteArray.mk #[97], 1⟩] := by
  have h1 : nmsG p1.gGlobals = [ByteArray.mk #[97]] := rfl
  have h2 : szG p1.gGlobals (ByteArray.mk #[97]) = 2 := by simp [szG, fnG, p1, szg]
  unfold CC
  rw [h1, List.flatMap_cons, h2]; rfl
theorem lives19 : l19_lives = some true := by
  have hn : p1.gGlobals.length ≤ 30 := by decide
  have hs : ∀ g ∈ p1.gGlobals, g.gSize ≤ 2000 := fun g hg => by
    simp only [p1, List.mem_singleton] at hg; subst hg; decide
  have hM := memN_MI hn hs
  unfold l19_lives
  rw [show mem_New (⟨([(⟨(ByteArray.mk #[97]), false, (2 : Int), (0 : Int)⟩ : TApiGlobal)] : List TApiGlobal), []⟩ : TApiProgram) = some (memN p1) from new_eq hn hs, Option.bind_some, all_eq hM, Option.bind_some, CC1]
  have hin : InG p1.gGlobals ⟨ByteArray.mk #[97], 1⟩ := (CC_mem p1 _).1 (by rw [CC1]; simp)
  have hk : kc p1 ⟨ByteArray.mk #[97], 1⟩ = 0 := by
    unfold kc
    rw [if_neg (fun h => by cases h)]
    exact pc_zero.2 hin
  have hw : (mgetD (memN p1).gWords ⟨ByteArray.mk #[97], 1⟩ (zW false)).gPtr = false := by
    have := (newAll p1.gGlobals).wd _ hin
    show (mgetD (p1.gGlobals.foldl nstep ([], [], [])).2.2 _ _).gPtr = _
    rw [this]; simp [zW, fnG, p1]
  rw [show (((List.map (fun c => (⟨c, mgetD (memN p1).gWords c (zW false)⟩ : TMemHeld)) [⟨ByteArray.mk #[97], 0⟩, ⟨ByteArray.mk #[97], 1⟩]).length : Int) == 2) = true from rfl, cond_true, set_eq hM, if_pos hk, if_pos hw, Option.bind_some]
  simp only [beq_self_eq_true, cond_true]
  rw [all_eq (MI_put hM _), Option.bind_some, CC1]
  simp only [List.map_cons, List.map_nil]
  rw [show (1 : Int) = ((1 : Nat) : Int) from rfl, idx_nat]
  simp [mgetD_put]
abbrev Wds := List (TApiCell × TApiWord)
def stw (p : TApiProgram) (w : Wds) (d : TSondagelaw19Deed) : Wds := if d.gKind = 1 ∧ kc p d.gC = 0 ∧ (mgetD w d.gC (zW false)).gPtr = d.gW.gPtr then mput w d.gC d.gW else w
theorem memDoes_law (p : TApiProgram) (l : List TSondagelaw19Deed) : l19_MemDoes p l = some true := by
  unfold l19_MemDoes
  simp only [lives19]
  by_cases h30 : (30 : Int) < (p.gGlobals.length : Int)
  · rw [decide_eq_true h30, cond_true, Option.bind_some, cond_true]; rfl
  rw [decide_eq_false h30, cond_false, Option.bind_some]
  by_cases h100 : (100 : Int) < (l.length : Int)
  · rw [decide_eq_true h100, cond_true]; rfl
  rw [decide_eq_false h100, cond_false]
  refine any_list p.gGlobals (fun g => decide ((2000 : Int) < g.gSize)) (fun _ => true) (fun q x r h => ?_) ?_ (fun hall => ?_) fun j _ _ => rfl
  · rw [lt_pre h, cond_true, idx_pre2 h rfl, Option.bind_some, inc_pre h (by omega)]
    cases decide ((2000 : Int) < x.gSize) <;> rfl
  · rw [lt_end, cond_false]
  rw [List.any_eq_false] at hall
  have hn : p.gGlobals.length ≤ 30 := by omega
  have hs : ∀ g ∈ p.gGlobals, g.gSize ≤ 2000 := fun g hg => by
    have := hall g hg
    rw [decide_eq_true_iff] at this; omega
  have hM := memN_MI hn hs
  show Option.bind _ _ = _
  rw [new_r, new_eq hn hs, Option.bind_some, rnew_eq hn hs, Option.bind_some]
  simp only []
  refine loop_list l (fun pre => pre.foldl (stw p) (memN p).gWords) (fun w n => ((n : Int), p.gGlobals, p.gFuncs, CC p, (CC p).map (fun c => mgetD w c (zW false)), (memN p).gSizes, w, (memN p).gCells)) (fun w => .inl (p.gGlobals, p.gFuncs, CC p, (CC p).map (fun c => mgetD w c (zW false)), (memN p).gSizes, w, (memN p).gCells)) (by rw [memN_wd]; rfl) (fun pre x post hpp => ?_) ?_ ?_
  · rw [List.foldl_append, List.foldl_cons, List.foldl_nil]
    generalize pre.foldl (stw p) (memN p).gWords = w
    have hI : MI p ⟨(memN p).gSizes, w, (memN p).gCells⟩ := MI_put hM w
    simp only [lt_pre hpp, cond_true]
    rw [idx_pre2 hpp rfl, Option.bind_some, inc_pre hpp (by omega)]
    have hno : ¬ (x.gKind = 1 ∧ kc p x.gC = 0 ∧ (mgetD w x.gC (zW false)).gPtr = x.gW.gPtr) → stw p w x = w := fun h => if_neg h
    by_cases k0 : x.gKind = 0
    · rw [hno (fun h => by omega), show (x.gKind == 0) = true by simpa using k0, cond_true, get_eq hI, Option.bind_some, rget_eq hn hs, Option.bind_some]
      dsimp only
      generalize (if kc p x.gC = 0 then mgetD w x.gC (zW false) else zW false) = v
      rw [weq_refl]
      simp only [Bool.not_true, cond_false, Option.bind_some, bne_self_eq_false]
    · rw [show (x.gKind == 0) = false by simpa using k0, cond_false]
      by_cases k1 : x.gKind = 1
      · rw [show (x.gKind == 1) = true by simpa using k1, cond_true, set_eq hI, Option.bind_some, rset_eq hn hs, Option.bind_some]
        by_cases k2 : kc p x.gC = 0
        · rw [if_pos k2, if_pos k2]
          by_cases k3 : (mgetD w x.gC (zW false)).gPtr = x.gW.gPtr
          · rw [show stw p w x = mput w x.gC x.gW from if_pos ⟨k1, k2, k3⟩]
            simp only [if_pos k3, bne_self_eq_false, cond_false]
            simp only [mgetD_put]
          · rw [hno (fun h => k3 h.2.2)]
            simp only [if_neg k3, bne_self_eq_false, cond_false]
        · rw [hno (fun h => k2 h.2.1)]
          simp only [if_neg k2, bne_self_eq_false, cond_false]
      · rw [hno (fun h => k1 h.1), show (x.gKind == 1) = false by simpa using k1, cond_false, place_eq hI, Option.bind_some]
        obtain ⟨i, e1, _⟩ := rfind_eq hn hs ((CC p).map (fun c => mgetD w c (zW false))) x.gC
        rw [show r19_Mem_Find_w (⟨(⟨p.gGlobals, p.gFuncs⟩ : TApiProgram), CC p, (CC p).map (fun c => mgetD w c (zW false))⟩ : TSondageref19Mem) x.gC = _ from e1, Option.bind_some]
        rw [show (⟨x.gC.gName, x.gC.gAt⟩ : TApiCell) = x.gC from rfl]
        dsimp only
        by_cases k2 : pc p x.gC = 0
        · rw [if_pos k2, k2, ceq_refl]; rfl
        · rw [if_neg k2, show (pc p x.gC == 0) = false by simpa using k2, show (pc p x.gC != 0) = true by simpa using k2, cond_false, cond_true, show (pc p x.gC != pc p x.gC) = false by simp, cond_false]
          rw [show (decide ((⟨ByteArray.empty, 0⟩ : TApiCell).gName = ByteArray.empty) && ((⟨ByteArray.empty, 0⟩ : TApiCell).gAt == 0 && true)) = true by simp]; rfl
  · simp only [lt_end, cond_false]
  · show Option.bind _ _ = _
    generalize l.foldl (stw p) (memN p).gWords = w
    have hI : MI p ⟨(memN p).gSizes, w, (memN p).gCells⟩ := MI_put hM w
    rw [all_r, all_eq hI, Option.bind_some]
    simp only [List.length_map, bne_self_eq_false, cond_false]
    have hlen := CC_len hn hs
    refine any_list (CC p) (fun _ => false) (fun _ => false) (fun q x r h => ?_) ?_ (fun _ => rfl) fun j _ h => ?_
    · rw [lt_pre h, cond_true]
      have e1 : idx ((CC p).map fun c => (⟨c, mgetD w c (zW false)⟩ : TMemHeld)) (q.length : Int) = some ⟨x, mgetD w x (zW false)⟩ := map_idx _ (by rw [h]; simp)
      have e2 : idx ((CC p).map fun c => mgetD w c (zW false)) (q.length : Int) = some (mgetD w x (zW false)) := map_idx _ (by rw [h]; simp)
      rw [e1, idx_pre2 h rfl, e2, inc_pre h (by omega)]
      rw [Option.bind_some, Option.bind_some]
      dsimp only
      rw [ceq_refl, Bool.not_true, cond_false, Option.bind_some, Option.bind_some, weq_refl]
      rfl
    · rw [lt_end, cond_false]
    · simp at h
end Go.Proofs.Ytfepijllmfedfaa.Ab.Pq
