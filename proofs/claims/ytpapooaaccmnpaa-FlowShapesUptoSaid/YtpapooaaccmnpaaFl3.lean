/- Layer 17: what the functions compute. -/
import Derived.Test.YtpapooaaccmnpaaSo4
import Derived.Test.YtpapooaaccmnpaaTr6
import Derived.Test.YtpapooaaccmnpaaRw4
namespace Go.Proofs.Ytpapooaaccmnpaa.Ab
open Go
set_option linter.all false
structure TApiExpr where
  gOp : Int
  gN : Int
  gName : ByteArray
  gKids : List TApiExpr
  gAt : Int
mutual
def eTApiExpr : TApiExpr → D
  | ⟨f0, f1, f2, f3, f4⟩ => .agg [.v (.int .i64 f0), .v (.int .i64 f1), .v (.string f2), .lst 5 (eTApiExpr_l f3) .no, .v (.int .i64 f4)]
def eTApiExpr_l : List TApiExpr → List D
  | [] => []
  | x :: l => eTApiExpr x :: eTApiExpr_l l
end
theorem eTApiExpr_map : ∀ l, eTApiExpr_l l = l.map eTApiExpr
  | [] => by simp [eTApiExpr_l]
  | x :: l => by simp only [eTApiExpr_l, List.map_cons, eTApiExpr_map l]
theorem eTApiExpr_eq (x : TApiExpr) : eTApiExpr x = .agg [.v (.int .i64 x.gOp), .v (.int .i64 x.gN), .v (.string x.gName), .lst 5 (x.gKids.map eTApiExpr) .no, .v (.int .i64 x.gAt)] := by
  cases x
  simp only [eTApiExpr, eTApiExpr_map]
def slices_Clone_api_Expr_api_Expr (a0 : List TApiExpr) : Option (List TApiExpr) := app 64 a0 []
theorem slices_Clone_api_Expr_api_Expr_ok (a0 : List TApiExpr) (r : List TApiExpr) (h0 : slices_Clone_api_Expr_api_Expr a0 = some r) : CallsD Try.prog 24 [.lst 5 (a0.map eTApiExpr) .no] [] [] (fun d h k => ∃ y0, d = .lst 5 (r.map eTApiExpr) (.cur y0) ∧ h = [] ∧ k = [(5, y0)]) := by
  obtain ⟨hr, hb⟩ := app_ok h0
  simp only [List.append_nil] at hr
  subst hr
  have q : app 64 ([] : List TApiExpr) r = some r := app_of (by simp only [List.length_nil, Nat.zero_add]; simpa using hb)
  refine enterX htab Try.func24 rfl rfl rfl rfl rfl (fun C => ?_)
  refine wpD_seq ?_
  refine wpD_region ?_
  refine p_pure htab rfl rfl rfl rfl ?_
  refine ops_nil ?_
  refine then_normal ?_
  refine wpD_seq ?_
  refine wpD_seq ?_
  refine wpD_region ?_
  refine p_pure htab rfl rfl rfl rfl ?_
  refine p_isnil htab rfl rfl rfl rfl rfl rfl rfl (fun b hn => ?_)
  refine ops_nil ?_
  refine then_normal ?_
  refine wpD_cond rfl (fun hc => ?_) (fun hc => ?_)
  · have hnil := hn hc
    simp only [List.map_eq_nil_iff] at hnil
    subst hnil
    refine wpD_seq ?_
    refine wpD_region ?_
    refine p_pure htab rfl rfl rfl rfl ?_
    refine ops_nil ?_
    refine then_normal ?_
    refine wpD_ret ?_
    refine then_ret ?_
    refine retX.tokN (i := 2) 5 rfl (fun y => ?_)
    refine retX.of (s' := ⟨[(2, .lst 5 (([] : List TApiExpr).map eTApiExpr) (.cur y))], [], [(5, y)]⟩) (WkS.perm (WkS.cons rfl (Wk.refl _) (WkS.nil)) (List.Perm.refl _) (List.Perm.refl _)) (retD_mk (hh := []) (.inl rfl) (resL_cons (resOne_tmp rfl) (resL_nil)) (List.nil_sublist _) (List.Sublist.refl _) ?_)
    exact ⟨y, rfl, rfl, rfl⟩
  · refine wpD_skip ?_
    refine then_normal ?_
    refine wpD_seq ?_
    refine wpD_region ?_
    refine p_lit0 htab rfl rfl rfl rfl rfl rfl rfl rfl ?_
    refine p_pure htab rfl rfl rfl rfl ?_
    refine p_appF htab rfl rfl rfl rfl rfl rfl rfl rfl rfl rfl rfl rfl rfl rfl rfl (by simpa using hb) (fun v => ?_)
    refine p_pure htab rfl rfl rfl rfl ?_
    refine ops_nil ?_
    refine then_normal ?_
    refine wpD_ret ?_
    refine retX.of (s' := ⟨[(2, .lst 5 (r.map eTApiExpr) (.cur v))], [], [(5, v)]⟩) (WkS.perm (WkS.cons rfl (Wk.refl _) (WkS.nil)) (List.Perm.refl _) (List.Perm.refl _)) (retD_mk (hh := []) (.inl rfl) (resL_cons (resOne_tmp rfl) (resL_nil)) (List.nil_sublist _) (List.Sublist.refl _) ?_)
    exact ⟨v, rfl, rfl, rfl⟩
theorem slices_Clone_api_Expr_api_Expr_ok0 (a0 : List TApiExpr) (r : List TApiExpr) (h0 : slices_Clone_api_Expr_api_Expr a0 = some r) : CallsD Try.prog 24 [.lst 5 (a0.map eTApiExpr) .no] [] [] (fun d h k => d = .lst 5 (r.map eTApiExpr) .no ∧ h = [] ∧ k = []) :=
  (slices_Clone_api_Expr_api_Expr_ok a0 r h0).drop fun d h k ⟨y0, e, _, _⟩ => by subst e; exact Wk.no
theorem slices_Clone_api_Expr_api_Expr_row_ok (a0 : List TApiExpr) (r : List TApiExpr) (h0 : slices_Clone_api_Expr_api_Expr a0 = some r) : CallsD Try.prog 24 [.lst 5 (a0.map eTApiExpr) .no] [] [] (fun d h k => ∃ y0, d = .v (SL y0) ∧ h = [(0, Blk.row 5 (r.map eTApiExpr) (SL y0))] ∧ k = []) := by
  obtain ⟨hr, hb⟩ := app_ok h0
  simp only [List.append_nil] at hr
  subst hr
  have q : app 64 ([] : List TApiExpr) r = some r := app_of (by simp only [List.length_nil, Nat.zero_add]; simpa using hb)
  refine enterX htab Try.func24 rfl rfl rfl rfl rfl (fun C => ?_)
  refine wpD_seq ?_
  refine wpD_region ?_
  refine p_pure htab rfl rfl rfl rfl ?_
  refine ops_nil ?_
  refine then_normal ?_
  refine wpD_seq ?_
  refine wpD_seq ?_
  refine wpD_region ?_
  refine p_pure htab rfl rfl rfl rfl ?_
  refine p_isnil htab rfl rfl rfl rfl rfl rfl rfl (fun b hn => ?_)
  refine ops_nil ?_
  refine then_normal ?_
  refine wpD_cond rfl (fun hc => ?_) (fun hc => ?_)
  · have hnil := hn hc
    simp only [List.map_eq_nil_iff] at hnil
    subst hnil
    refine wpD_seq ?_
    refine wpD_region ?_
    refine p_pure htab rfl rfl rfl rfl ?_
    refine ops_nil ?_
    refine then_normal ?_
    refine wpD_ret ?_
    refine then_ret ?_
    refine retX.rowN (i := 2) 5 rfl (fun y => ?_)
    refine retX.of (s' := ⟨[(2, .v (SL y))], [(0, Blk.row 5 (([] : List TApiExpr).map eTApiExpr) (SL y))], []⟩) (WkS.perm (WkS.cons rfl (Wk.refl _) (WkS.nil)) (List.Perm.refl _) (List.Perm.refl _)) (retD_mk (hh := [_]) (.inl rfl) (resL_cons (resOne_tmp rfl) (resL_nil)) (List.Sublist.refl _) (List.Sublist.refl _) ?_)
    exact ⟨y, rfl, rfl, rfl⟩
  · refine wpD_skip ?_
    refine then_normal ?_
    refine wpD_seq ?_
    refine wpD_region ?_
    refine p_lit0 htab rfl rfl rfl rfl rfl rfl rfl rfl ?_
    refine p_pure htab rfl rfl rfl rfl ?_
    refine p_app0R htab rfl rfl rfl rfl rfl rfl rfl rfl rfl rfl rfl rfl rfl rfl rfl (by simpa using hb) rfl (fun v => ?_)
    refine p_pure htab rfl rfl rfl rfl ?_
    refine ops_nil ?_
    refine then_normal ?_
    refine wpD_ret ?_
    refine retX.of (s' := ⟨[(2, .v (SL v))], [(0, Blk.row 5 (r.map eTApiExpr) (SL v))], []⟩) (WkS.perm (WkS.cons rfl (Wk.refl _) (WkS.nil)) (List.Perm.refl _) (List.Perm.refl _)) (retD_mk (hh := [_]) (.inl rfl) (resL_cons (resOne_tmp rfl) (resL_nil)) (List.Sublist.refl _) (List.Sublist.refl _) ?_)
    exact ⟨v, rfl, rfl, rfl⟩

noncomputable def r17_kind (a0 : Int) : Option (Int) :=
  (bif (a0 == (1 : Int)) then some (1 : Int) else (bif (a0 == (2 : Int)) then some (2 : Int) else (bif (a0 == (3 : Int)) then some (3 : Int) else (bif (a0 == (4 : Int)) then some (4 : Int) else (bif (a0 == (5 : Int)) then some (5 : Int) else (bif (a0 == (9 : Int)) then some (9 : Int) else some (0 : Int)))))))
set_option maxRecDepth 100000 in
set_option maxHeartbeats 2000000 in
theorem r17_kind_ok (a0 : Int) (r : Int) (h0 : r17_kind a0 = some r) : CallsD Try.prog 21 [.v (.int .i64 a0)] [] [] (fun d h k => d = .v (.int .i64 r) ∧ h = [] ∧ k = []) := by
  have hm := yes_of h0
  unfold r17_kind at hm
  clear h0
  refine enterX htab Try.func21 rfl rfl rfl rfl rfl (fun C => ?_)
  refine wpD_seq ?_
  refine wpD_region ?_
  refine p_pure htab rfl rfl rfl rfl ?_
  refine ops_nil ?_
  refine then_normal ?_
  refine wpD_seq ?_
  refine wpD_seq ?_
  refine wpD_region ?_
  refine p_pure htab rfl rfl rfl rfl ?_
  refine ops_nil ?_
  refine then_normal ?_
  refine wpD_block ?_
  refine wpD_seq ?_
  refine wpD_region ?_
  refine p_pure htab rfl rfl rfl rfl ?_
  refine p_pure htab rfl rfl rfl rfl ?_
  refine ops_nil ?_
  refine then_normal ?_
  refine wpD_cond rfl (fun hc1 => ?_) (fun hc1 => ?_)
  · replace hm := yes_t hc1 hm
    refine wpD_seq ?_
    refine wpD_region ?_
    refine p_pure htab rfl rfl rfl rfl ?_
    refine ops_nil ?_
    refine then_normal ?_
    refine wpD_ret ?_
    refine block_ret ?_
    refine then_ret ?_
    have er2 := yes_eq hm; subst er2
    refine retX.of (s' := ⟨[(2, .v (.int .i64 (1 : Int)))], [], []⟩) (WkS.perm (WkS.cons rfl (Wk.refl _) (WkS.nil)) (List.Perm.refl _) (List.Perm.refl _)) (retD_mk (hh := []) (.inl rfl) (resL_cons (resOne_tmp rfl) (resL_nil)) (List.nil_sublist _) (List.Sublist.refl _) ?_)
    exact ⟨rfl, rfl, rfl⟩
  · replace hm := yes_f hc1 hm
    refine wpD_seq ?_
    refine wpD_region ?_
    refine p_pure htab rfl rfl rfl rfl ?_
    refine p_pure htab rfl rfl rfl rfl ?_
    refine ops_nil ?_
    refine then_normal ?_
    refine wpD_cond rfl (fun hc3 => ?_) (fun hc3 => ?_)
    · replace hm := yes_t hc3 hm
      refine wpD_seq ?_
      refine wpD_region ?_
      refine p_pure htab rfl rfl rfl rfl ?_
      refine ops_nil ?_
      refine then_normal ?_
      refine wpD_ret ?_
      refine block_ret ?_
      refine then_ret ?_
      have er4 := yes_eq hm; subst er4
      refine retX.of (s' := ⟨[(2, .v (.int .i64 (2 : Int)))], [], []⟩) (WkS.perm (WkS.cons rfl (Wk.refl _) (WkS.nil)) (List.Perm.refl _) (List.Perm.refl _)) (retD_mk (hh := []) (.inl rfl) (resL_cons (resOne_tmp rfl) (resL_nil)) (List.nil_sublist _) (List.Sublist.refl _) ?_)
      exact ⟨rfl, rfl, rfl⟩
    · replace hm := yes_f hc3 hm
      refine wpD_seq ?_
      refine wpD_region ?_
      refine p_pure htab rfl rfl rfl rfl ?_
      refine p_pure htab rfl rfl rfl rfl ?_
      refine ops_nil ?_
      refine then_normal ?_
      refine wpD_cond rfl (fun hc5 => ?_) (fun hc5 => ?_)
      · replace hm := yes_t hc5 hm
        refine wpD_seq ?_
        refine wpD_region ?_
        refine p_pure htab rfl rfl rfl rfl ?_
        refine ops_nil ?_
        refine then_normal ?_
        refine wpD_ret ?_
        refine block_ret ?_
        refine then_ret ?_
        have er6 := yes_eq hm; subst er6
        refine retX.of (s' := ⟨[(2, .v (.int .i64 (3 : Int)))], [], []⟩) (WkS.perm (WkS.cons rfl (Wk.refl _) (WkS.nil)) (List.Perm.refl _) (List.Perm.refl _)) (retD_mk (hh := []) (.inl rfl) (resL_cons (resOne_tmp rfl) (resL_nil)) (List.nil_sublist _) (List.Sublist.refl _) ?_)
        exact ⟨rfl, rfl, rfl⟩
      · replace hm := yes_f hc5 hm
        refine wpD_seq ?_
        refine wpD_region ?_
        refine p_pure htab rfl rfl rfl rfl ?_
        refine p_pure htab rfl rfl rfl rfl ?_
        refine ops_nil ?_
        refine then_normal ?_
        refine wpD_cond rfl (fun hc7 => ?_) (fun hc7 => ?_)
        · replace hm := yes_t hc7 hm
          refine wpD_seq ?_
          refine wpD_region ?_
          refine p_pure htab rfl rfl rfl rfl ?_
          refine ops_nil ?_
          refine then_normal ?_
          refine wpD_ret ?_
          refine block_ret ?_
          refine then_ret ?_
          have er8 := yes_eq hm; subst er8
          refine retX.of (s' := ⟨[(2, .v (.int .i64 (4 : Int)))], [], []⟩) (WkS.perm (WkS.cons rfl (Wk.refl _) (WkS.nil)) (List.Perm.refl _) (List.Perm.refl _)) (retD_mk (hh := []) (.inl rfl) (resL_cons (resOne_tmp rfl) (resL_nil)) (List.nil_sublist _) (List.Sublist.refl _) ?_)
          exact ⟨rfl, rfl, rfl⟩
        · replace hm := yes_f hc7 hm
          refine wpD_seq ?_
          refine wpD_region ?_
          refine p_pure htab rfl rfl rfl rfl ?_
          refine p_pure htab rfl rfl rfl rfl ?_
          refine ops_nil ?_
          refine then_normal ?_
          refine wpD_cond rfl (fun hc9 => ?_) (fun hc9 => ?_)
          · replace hm := yes_t hc9 hm
            refine wpD_seq ?_
            refine wpD_region ?_
            refine p_pure htab rfl rfl rfl rfl ?_
            refine ops_nil ?_
            refine then_normal ?_
            refine wpD_ret ?_
            refine block_ret ?_
            refine then_ret ?_
            have er10 := yes_eq hm; subst er10
            refine retX.of (s' := ⟨[(2, .v (.int .i64 (5 : Int)))], [], []⟩) (WkS.perm (WkS.cons rfl (Wk.refl _) (WkS.nil)) (List.Perm.refl _) (List.Perm.refl _)) (retD_mk (hh := []) (.inl rfl) (resL_cons (resOne_tmp rfl) (resL_nil)) (List.nil_sublist _) (List.Sublist.refl _) ?_)
            exact ⟨rfl, rfl, rfl⟩
          · replace hm := yes_f hc9 hm
            refine wpD_seq ?_
            refine wpD_region ?_
            refine p_pure htab rfl rfl rfl rfl ?_
            refine p_pure htab rfl rfl rfl rfl ?_
            refine ops_nil ?_
            refine then_normal ?_
            refine wpD_cond rfl (fun hc11 => ?_) (fun hc11 => ?_)
            · replace hm := yes_t hc11 hm
              refine wpD_seq ?_
              refine wpD_region ?_
              refine p_pure htab rfl rfl rfl rfl ?_
              refine ops_nil ?_
              refine then_normal ?_
              refine wpD_ret ?_
              refine block_ret ?_
              refine then_ret ?_
              have er12 := yes_eq hm; subst er12
              refine retX.of (s' := ⟨[(2, .v (.int .i64 (9 : Int)))], [], []⟩) (WkS.perm (WkS.cons rfl (Wk.refl _) (WkS.nil)) (List.Perm.refl _) (List.Perm.refl _)) (retD_mk (hh := []) (.inl rfl) (resL_cons (resOne_tmp rfl) (resL_nil)) (List.nil_sublist _) (List.Sublist.refl _) ?_)
              exact ⟨rfl, rfl, rfl⟩
            · replace hm := yes_f hc11 hm
              refine wpD_skip ?_
              refine block_normal ?_
              refine then_normal ?_
              refine wpD_seq ?_
              refine wpD_region ?_
              refine p_pure htab rfl rfl rfl rfl ?_
              refine ops_nil ?_
              refine then_normal ?_
              refine wpD_ret ?_
              have er13 := yes_eq hm; subst er13
              refine retX.of (s' := ⟨[(2, .v (.int .i64 (0 : Int)))], [], []⟩) (WkS.perm (WkS.cons rfl (Wk.refl _) (WkS.nil)) (List.Perm.refl _) (List.Perm.refl _)) (retD_mk (hh := []) (.inl rfl) (resL_cons (resOne_tmp rfl) (resL_nil)) (List.nil_sublist _) (List.Sublist.refl _) ?_)
              exact ⟨rfl, rfl, rfl⟩
structure TApiEdge where
  gFrom : Int
  gTo : Int
  gKind : Int
  gName : ByteArray
  gFunc : ByteArray
  gExps : List TApiExpr
def eTApiEdge (x : TApiEdge) : D := .agg [.v (.int .i64 x.gFrom), .v (.int .i64 x.gTo), .v (.int .i64 x.gKind), .v (.string x.gName), .v (.string x.gFunc), .lst 5 (x.gExps.map eTApiExpr) .no]
structure TApiStmt where
  gOp : Int
  gName : ByteArray
  gFunc : ByteArray
  gExps : List TApiExpr
  gKids : List TApiStmt
  gElse : List TApiStmt
  gAt : Int
mutual
def eTApiStmt : TApiStmt → D
  | ⟨f0, f1, f2, f3, f4, f5, f6⟩ => .agg [.v (.int .i64 f0), .v (.string f1), .v (.string f2), .lst 5 (f3.map eTApiExpr) .no, .lst 7 (eTApiStmt_l f4) .no, .lst 7 (eTApiStmt_l f5) .no, .v (.int .i64 f6)]
def eTApiStmt_l : List TApiStmt → List D
  | [] => []
  | x :: l => eTApiStmt x :: eTApiStmt_l l
end
theorem eTApiStmt_map : ∀ l, eTApiStmt_l l = l.map eTApiStmt
  | [] => by simp [eTApiStmt_l]
  | x :: l => by simp only [eTApiStmt_l, List.map_cons, eTApiStmt_map l]
theorem eTApiStmt_eq (x : TApiStmt) : eTApiStmt x = .agg [.v (.int .i64 x.gOp), .v (.string x.gName), .v (.string x.gFunc), .lst 5 (x.gExps.map eTApiExpr) .no, .lst 7 (x.gKids.map eTApiStmt) .no, .lst 7 (x.gElse.map eTApiStmt) .no, .v (.int .i64 x.gAt)] := by
  cases x
  simp only [eTApiStmt, eTApiStmt_map]
structure TSondageref17Made where
  gNodes : Int
  gAt : Int
  gEdges : List TApiEdge
  gPlaces : List Int
def eTSondageref17Made (x : TSondageref17Made) : D := .agg [.v (.int .i64 x.gNodes), .v (.int .i64 x.gAt), .lst 6 (x.gEdges.map eTApiEdge) .no, .lst 1 (x.gPlaces.map eI64) .no]
noncomputable def r17_with (a0 : TSondageref17Made) (a1 : Int) (a2 : Int) (a3 : Int) (a4 : TApiStmt) : Option (TSondageref17Made) :=
  ((app 80 ([] : List TApiEdge) a0.gEdges).bind fun x5 => ((app 80 x5 ([(⟨a1, a2, a3, a4.gName, a4.gFunc, a4.gExps⟩ : TApiEdge)] : List TApiEdge)).bind fun x6 => some (⟨a0.gNodes, a0.gAt, x6, a0.gPlaces⟩ : TSondageref17Made)))
set_option maxRecDepth 100000 in
set_option maxHeartbeats 2000000 in
theorem r17_with_ok (a0 : TSondageref17Made) (a1 : Int) (a2 : Int) (a3 : Int) (a4 : TApiStmt) (r : TSondageref17Made) (h0 : r17_with a0 a1 a2 a3 a4 = some r) : CallsD Try.prog 13 [eTSondageref17Made a0, .v (.int .i64 a1), .v (.int .i64 a2), .v (.int .i64 a3), eTApiStmt a4] [] [] (fun d h k => ∃ y0, d = .agg [.v (.int .i64 r.gNodes), .v (.int .i64 r.gAt), .lst 6 (r.gEdges.map eTApiEdge) (.cur y0), .lst 1 (r.gPlaces.map eI64) .no] ∧ h = [] ∧ k = [(6, y0)]) := by
  have hm := yes_of h0
  unfold r17_with at hm
  clear h0
  refine enterX htab Try.func13 rfl rfl rfl rfl rfl (fun C => ?_)
  refine w_eq (i := 4) rfl (Wk.of_eq (eTApiStmt_eq a4)) ?_
  refine wpD_seq ?_
  refine wpD_region ?_
  refine p_box rfl rfl rfl rfl rfl rfl rfl (fun b1 => ?_)
  refine p_box rfl rfl rfl rfl rfl rfl rfl (fun b2 => ?_)
  refine p_alloc htab rfl rfl rfl rfl rfl rfl rfl (fun b3 => ?_)
  refine ops_nil ?_
  refine then_normal ?_
  refine wpD_seq ?_
  refine wpD_region ?_
  refine p_pure htab rfl rfl rfl rfl ?_
  refine p_pure htab rfl rfl rfl rfl ?_
  refine p_pure htab rfl rfl rfl rfl ?_
  refine p_pure htab rfl rfl rfl rfl ?_
  refine p_load 1 htab rfl rfl rfl rfl rfl rfl rfl rfl ?_
  refine p_pure htab rfl rfl rfl rfl ?_
  refine p_load 1 htab rfl rfl rfl rfl rfl rfl rfl rfl ?_
  refine p_pure htab rfl rfl rfl rfl ?_
  refine p_load 1 htab rfl rfl rfl rfl rfl rfl rfl rfl ?_
  refine p_build (r := [.v (.int .i64 a1), .v (.int .i64 a2), .v (.int .i64 a3), .v (.string a4.gName), .v (.string a4.gFunc), .lst 5 (a4.gExps.map eTApiExpr) .no]) htab rfl rfl rfl rfl rfl rfl rfl rfl rfl ?_
  refine p_alloc htab rfl rfl rfl rfl rfl rfl rfl (fun b4 => ?_)
  refine p_store (ds' := [.v (.int .i64 a1), .v (.int .i64 a2), .v (.int .i64 a3), .v (.string a4.gName), .v (.string a4.gFunc), .lst 5 (a4.gExps.map eTApiExpr) .no]) (h' := [(b1, Blk.cells [.v (.int .i64 a0.gNodes), .v (.int .i64 a0.gAt), .lst 6 (a0.gEdges.map eTApiEdge) .no, .lst 1 (a0.gPlaces.map eI64) .no] 43), (b2, Blk.cells [.v (.int .i64 a4.gOp), .v (.string a4.gName), .v (.string a4.gFunc), .lst 5 (a4.gExps.map eTApiExpr) .no, .lst 7 (a4.gKids.map eTApiStmt) .no, .lst 7 (a4.gElse.map eTApiStmt) .no, .v (.int .i64 a4.gAt)] 49), (b3, Blk.cells [.v (.int .i64 (0 : Int)), .v (.int .i64 (0 : Int)), .lst 1 [] .full, .lst 1 [] .full] 43), (b4, Blk.cells [.v (.int .i64 a1), .v (.int .i64 a2), .v (.int .i64 a3), .v (.string a4.gName), .v (.string a4.gFunc), .lst 5 (a4.gExps.map eTApiExpr) .no] 41)]) 3 htab rfl rfl rfl rfl rfl rfl rfl rfl rfl rfl rfl rfl ?_
  refine ops_nil ?_
  refine then_normal ?_
  refine wpD_seq ?_
  obtain ⟨x5, q5, hm⟩ := yes_bind hm
  refine wpD_appF 5 [] [[],[0],[0,1],[],[3]] [0,1,2,3,4] [[],[0],[0,1],[],[3],[0,1,2,3,4],[0,1,2,3,4,5],[0,1,2,3,4,5,6]] 2 6 (by kernel_rfl) (by kernel_rfl) (by kernel_rfl) (by rfl) (by rfl) (by kernel_rfl) ?_
  apply Exists.intro
  apply Exists.intro
  apply Exists.intro
  refine ⟨.any, ?_⟩
  apply Exists.intro
  apply Exists.intro
  intro bs v5
  refine zh_e rfl rfl (ex_pure htab rfl) rfl rfl rfl rfl rfl rfl rfl rfl ?_
  refine zh_M rfl rfl (fun _ => xm_load 0 htab rfl rfl rfl rfl rfl) (offB rfl) rfl rfl rfl rfl rfl rfl rfl rfl ?_
  refine zh_app htab rfl rfl rfl rfl rfl rfl rfl rfl (rep_of0 rfl) rfl (app_kF rfl) (List.Perm.refl _) rfl rfl rfl rfl rfl rfl rfl rfl rfl (by simpa using app_bound (e := eTApiEdge) q5) (by simpa using app_map (e := eTApiEdge) q5) ?_
  refine zh_M rfl rfl (fun _ => xm_load (d := eTApiEdge (⟨a1, a2, a3, a4.gName, a4.gFunc, a4.gExps⟩ : TApiEdge)) 3 htab rfl rfl rfl rfl rfl) (fun _ => xm_load (d := eTApiEdge (⟨a1, a2, a3, a4.gName, a4.gFunc, a4.gExps⟩ : TApiEdge)) 3 htab rfl rfl rfl rfl rfl) rfl rfl rfl rfl rfl rfl rfl rfl ?_
  refine zh_E rfl rfl (ExE.wk (x_lit htab rfl rfl rfl rfl rfl rfl rfl rfl rfl rfl rfl) (show Wk _ (.lst 6 (([(⟨a1, a2, a3, a4.gName, a4.gFunc, a4.gExps⟩ : TApiEdge)] : List TApiEdge).map eTApiEdge) .full) from Wk.lst0 (.cons (WkC.refl _) (.nil)))) rfl rfl rfl rfl rfl rfl rfl rfl ?_
  refine zh_nil rfl rfl rfl rfl (fun e he => by simp [isAl] at he) ?_
  obtain ⟨x6, q6, hm⟩ := yes_bind hm
  refine p_appC 0 htab rfl rfl rfl rfl rfl rfl rfl rfl rfl rfl rfl rfl rfl rfl rfl rfl rfl (app_bound q6) (fun v6 => ?_)
  refine p_mapD (i := 27) q6 rfl ?_
  refine p_pure htab rfl rfl rfl rfl ?_
  refine p_store (ds' := [.v (.int .i64 a0.gNodes), .v (.int .i64 a0.gAt), .lst 6 (x6.map eTApiEdge) (.cur v6), .lst 1 (a0.gPlaces.map eI64) .no]) (h' := [(b1, Blk.cells [.v (.int .i64 a0.gNodes), .v (.int .i64 a0.gAt), .lst 6 (x6.map eTApiEdge) (.cur v6), .lst 1 (a0.gPlaces.map eI64) .no] 43), (b2, Blk.cells [.v (.int .i64 a4.gOp), .v (.string a4.gName), .v (.string a4.gFunc), .lst 5 (a4.gExps.map eTApiExpr) .no, .lst 7 (a4.gKids.map eTApiStmt) .no, .lst 7 (a4.gElse.map eTApiStmt) .no, .v (.int .i64 a4.gAt)] 49), (b3, Blk.cells [.v (.int .i64 (0 : Int)), .v (.int .i64 (0 : Int)), .lst 1 [] .full, .lst 1 [] .full] 43), (b4, Blk.cells [.v (.int .i64 a1), .v (.int .i64 a2), .v (.int .i64 a3), .v (.string a4.gName), .v (.string a4.gFunc), .lst 5 (a4.gExps.map eTApiExpr) .no] 41)]) 0 htab rfl rfl rfl rfl rfl rfl rfl rfl rfl rfl rfl rfl ?_
  refine ops_nil ?_
  refine then_normal ?_
  refine wpD_seq ?_
  refine wpD_region ?_
  refine p_load (d := .agg [.v (.int .i64 a0.gNodes), .v (.int .i64 a0.gAt), .lst 6 (x6.map eTApiEdge) (.cur v6), .lst 1 (a0.gPlaces.map eI64) .no]) 0 htab rfl rfl rfl rfl rfl rfl rfl rfl ?_
  refine p_store (ds' := [.v (.int .i64 a0.gNodes), .v (.int .i64 a0.gAt), .lst 6 (x6.map eTApiEdge) (.cur v6), .lst 1 (a0.gPlaces.map eI64) .no]) (h' := [(b1, Blk.cells [.v (.int .i64 a0.gNodes), .v (.int .i64 a0.gAt), .lst 6 (x6.map eTApiEdge) (.cur v6), .lst 1 (a0.gPlaces.map eI64) .no] 43), (b2, Blk.cells [.v (.int .i64 a4.gOp), .v (.string a4.gName), .v (.string a4.gFunc), .lst 5 (a4.gExps.map eTApiExpr) .no, .lst 7 (a4.gKids.map eTApiStmt) .no, .lst 7 (a4.gElse.map eTApiStmt) .no, .v (.int .i64 a4.gAt)] 49), (b3, Blk.cells [.v (.int .i64 a0.gNodes), .v (.int .i64 a0.gAt), .lst 6 (x6.map eTApiEdge) (.cur v6), .lst 1 (a0.gPlaces.map eI64) .no] 43), (b4, Blk.cells [.v (.int .i64 a1), .v (.int .i64 a2), .v (.int .i64 a3), .v (.string a4.gName), .v (.string a4.gFunc), .lst 5 (a4.gExps.map eTApiExpr) .no] 41)]) 2 htab rfl rfl rfl rfl rfl rfl rfl rfl rfl rfl rfl rfl ?_
  refine ops_nil ?_
  refine then_normal ?_
  refine wpD_ret ?_
  have er7 := yes_eq hm; subst er7
  refine retX.of (s' := ⟨[(10, .ptr b3 0)], [(b3, Blk.cells [.v (.int .i64 a0.gNodes), .v (.int .i64 a0.gAt), .lst 6 (x6.map eTApiEdge) (.cur v6), .lst 1 (a0.gPlaces.map eI64) .no] 43)], [(6, v6)]⟩) (WkS.perm (WkS.cons rfl (Wk.refl _) (WkS.nil)) ((perm_at (j := 2) rfl).trans (List.Perm.cons _ (List.Perm.refl _))) (List.Perm.refl _)) (retD_mk (hh := []) (.inl rfl) (resL_cons (resOne_cell 0 rfl rfl rfl rfl) (resL_nil)) (List.nil_sublist _) (List.Sublist.refl _) ?_)
  exact ⟨v6, rfl, rfl, rfl⟩
theorem r17_with_ok0 (a0 : TSondageref17Made) (a1 : Int) (a2 : Int) (a3 : Int) (a4 : TApiStmt) (r : TSondageref17Made) (h0 : r17_with a0 a1 a2 a3 a4 = some r) : CallsD Try.prog 13 [eTSondageref17Made a0, .v (.int .i64 a1), .v (.int .i64 a2), .v (.int .i64 a3), eTApiStmt a4] [] [] (fun d h k => d = eTSondageref17Made r ∧ h = [] ∧ k = []) :=
  (r17_with_ok a0 a1 a2 a3 a4 r h0).drop fun d h k ⟨y0, e, _, _⟩ => by subst e; exact Wk.agg (WkR.cons (WkC.refl _) rfl (WkR.cons (WkC.refl _) rfl (WkR.cons (WkC.no) rfl (WkR.cons (WkC.refl _) rfl (WkR.nil)))))
noncomputable def r17_All_b (g0 : (TSondageref17Made) → (List TApiStmt) → Option (TSondageref17Made)) (g1 : (TSondageref17Made) → (TApiStmt) → Option (TSondageref17Made)) (a0 : TSondageref17Made) (a1 : List TApiStmt) : Option (TSondageref17Made) :=
  (Option.bind (α := Int × Int × List TApiEdge × List Int) (loopM (fun (s17 : Int × Int × Int × List TApiEdge × List Int) => (bif (decide (s17.1 < (a1.length : Int))) then ((idx a1 s17.1).bind fun x27 => ((g1 (⟨s17.2.1, s17.2.2.1, s17.2.2.2.1, s17.2.2.2.2⟩ : TSondageref17Made) x27).bind fun x28 => some (.next ((IntKind.i64.wrap (s17.1 + (1 : Int))), x28.gNodes, x28.gAt, x28.gEdges, x28.gPlaces)))) else some (.done (s17.2.1, s17.2.2.1, s17.2.2.2.1, s17.2.2.2.2)))) ((0 : Int), a0.gNodes, a0.gAt, a0.gEdges, a0.gPlaces)) fun y16 => some (⟨y16.1, y16.2.1, y16.2.2.1, y16.2.2.2⟩ : TSondageref17Made))
set_option maxRecDepth 100000 in
set_option maxHeartbeats 2000000 in
theorem r17_All_b_ok (g0 : (TSondageref17Made) → (List TApiStmt) → Option (TSondageref17Made)) (g1 : (TSondageref17Made) → (TApiStmt) → Option (TSondageref17Made)) (hg0 : ∀ (a0 : TSondageref17Made) (a1 : List TApiStmt) (r : TSondageref17Made) (h0 : g0 a0 a1 = some r), CallsD Try.prog 12 [eTSondageref17Made a0, .lst 7 (a1.map eTApiStmt) .no] [] [] (fun d h k => d = eTSondageref17Made r ∧ h = [] ∧ k = [])) (hg1 : ∀ (a0 : TSondageref17Made) (a1 : TApiStmt) (r : TSondageref17Made) (h0 : g1 a0 a1 = some r), CallsD Try.prog 16 [eTSondageref17Made a0, eTApiStmt a1] [] [] (fun d h k => d = eTSondageref17Made r ∧ h = [] ∧ k = [])) (a0 : TSondageref17Made) (a1 : List TApiStmt) (r : TSondageref17Made) (h0 : r17_All_b g0 g1 a0 a1 = some r) : CallsD Try.prog 12 [eTSondageref17Made a0, .lst 7 (a1.map eTApiStmt) .no] [] [] (fun d h k => d = eTSondageref17Made r ∧ h = [] ∧ k = []) := by
  have hm := yes_of h0
  unfold r17_All_b at hm
  clear h0
  refine enterX htab Try.func12 rfl rfl rfl rfl rfl (fun C => ?_)
  refine wpD_seq ?_
  refine wpD_region ?_
  refine p_box rfl rfl rfl rfl rfl rfl rfl (fun b1 => ?_)
  refine p_alloc htab rfl rfl rfl rfl rfl rfl rfl (fun b2 => ?_)
  refine ops_nil ?_
  refine then_normal ?_
  refine wpD_seq ?_
  refine wpD_seq ?_
  refine wpD_region ?_
  refine p_pure htab rfl rfl rfl rfl ?_
  refine ops_nil ?_
  refine then_normal ?_
  obtain ⟨y16, q16, ho16⟩ := yes_bind hm
  refine wpD_mid (Y := Unit) (fun z16 => (⟨[(2, .ptr b1 0), (4, .ptr b2 0)], [(b1, Blk.cells [.v (.int .i64 y16.1), .v (.int .i64 y16.2.1), .lst 6 (y16.2.2.1.map eTApiEdge) .no, .lst 1 (y16.2.2.2.map eI64) .no] 43), (b2, Blk.cells [.v (.int .i64 (0 : Int)), .v (.int .i64 (0 : Int)), .lst 1 [] .full, .lst 1 [] .full] 43)], []⟩ : S)) ?_ ?_
  · clear hm; have hm := yes_of q16
    refine wpD_block ?_
    obtain ⟨u17, hl17, hq17⟩ := yes_m hm
    refine loop_M (Y := Unit) hl17 (fun s17 z17 => (⟨[(1, .lst 7 (a1.map eTApiStmt) .no), (2, .ptr b1 0), (4, .ptr b2 0), (5, .v (.int .i64 s17.1))], [(b1, Blk.cells [.v (.int .i64 s17.2.1), .v (.int .i64 s17.2.2.1), .lst 6 (s17.2.2.2.1.map eTApiEdge) .no, .lst 1 (s17.2.2.2.2.map eI64) .no] 43), (b2, Blk.cells [.v (.int .i64 (0 : Int)), .v (.int .i64 (0 : Int)), .lst 1 [] .full, .lst 1 [] .full] 43)], []⟩ : S)) ?_ ?_
    · skip
      exact WkX.of () (WkS.perm (WkS.cons rfl (Wk.refl _) (WkS.cons rfl (Wk.refl _) (WkS.cons rfl (Wk.refl _) (WkS.cons rfl (Wk.refl _) (WkS.nil))))) (List.Perm.refl _) (List.Perm.refl _))
    · intro G17 s17 z17 hm
      refine wpD_seq ?_
      refine wpD_seq ?_
      refine wpD_region ?_
      refine p_pure htab rfl rfl rfl rfl ?_
      refine p_pure htab rfl rfl rfl rfl ?_
      refine p_lenL htab rfl rfl rfl rfl rfl rfl rfl (by first | exact map_len | rfl) ?_
      refine p_pure htab rfl rfl rfl rfl ?_
      refine ops_nil ?_
      refine then_normal ?_
      refine wpD_cond rfl (fun hc26 => ?_) (fun hc26 => ?_)
      · replace hm := yes_t hc26 hm
        refine wpD_skip ?_
        refine then_normal ?_
        refine wpD_seq ?_
        refine wpD_block ?_
        obtain ⟨x27, q27, hm⟩ := yes_bind hm
        refine wpD_draws 5 [] [[],[],[],[1],[1,3]] [0,1,3,4] [[],[],[],[1,2],[1,2,3],[0,1,2,3,4],[0,1,2,3,4,5]] (by kernel_rfl) (by kernel_rfl) (by kernel_rfl) (by rfl) (by rfl) (by kernel_rfl) ?_
        apply Exists.intro
        apply Exists.intro
        apply Exists.intro
        apply Exists.intro
        intro bs
        refine z_eM rfl rfl (xm_load (d := eTSondageref17Made (⟨s17.2.1, s17.2.2.1, s17.2.2.2.1, s17.2.2.2.2⟩ : TSondageref17Made)) 0 htab rfl rfl rfl rfl rfl) rfl rfl rfl rfl rfl rfl ?_
        refine z_e rfl rfl (ex_pure htab rfl) rfl rfl rfl rfl rfl rfl ?_
        refine z_q rfl rfl (ex_pure htab rfl) rfl rfl rfl rfl rfl rfl ?_
        refine z_e rfl rfl (Ex.wk (x_elem htab rfl rfl rfl rfl rfl rfl rfl (idx_nonneg q27) (idx_map q27)) (Wk.of_eq (congrArg D.el (eTApiStmt_eq x27)))) rfl rfl rfl rfl rfl rfl ?_
        refine z_eM rfl rfl (xm_loadEl (d := .agg [.v (.int .i64 x27.gOp), .v (.string x27.gName), .v (.string x27.gFunc), .lst 5 (x27.gExps.map eTApiExpr) .no, .lst 7 (x27.gKids.map eTApiStmt) .no, .lst 7 (x27.gElse.map eTApiStmt) .no, .v (.int .i64 x27.gAt)]) htab rfl rfl rfl rfl rfl) rfl rfl rfl rfl rfl rfl ?_
        refine z_nil rfl rfl (fun e he => by simp [isAl] at he) ?_
        obtain ⟨x28, q28, hm⟩ := yes_bind hm
        refine p_call0 (hg1 (⟨s17.2.1, s17.2.2.1, s17.2.2.2.1, s17.2.2.2.2⟩ : TSondageref17Made) x27 x28 q28) rfl rfl rfl rfl rfl (WkL.cons (Wk.refl _) (WkL.cons (Wk.trans (Wk.agg (WkR.refl _)) (Wk.of_eq (eTApiStmt_eq x27).symm)) (WkL.refl _))) ?_
        rintro _ rfl
        refine p_store (ds' := [.v (.int .i64 x28.gNodes), .v (.int .i64 x28.gAt), .lst 6 (x28.gEdges.map eTApiEdge) .no, .lst 1 (x28.gPlaces.map eI64) .no]) (h' := [(b1, Blk.cells [.v (.int .i64 x28.gNodes), .v (.int .i64 x28.gAt), .lst 6 (x28.gEdges.map eTApiEdge) .no, .lst 1 (x28.gPlaces.map eI64) .no] 43), (b2, Blk.cells [.v (.int .i64 (0 : Int)), .v (.int .i64 (0 : Int)), .lst 1 [] .full, .lst 1 [] .full] 43)]) 0 htab rfl rfl rfl rfl rfl rfl rfl rfl rfl rfl rfl rfl ?_
        refine ops_nil ?_
        refine block_normal ?_
        refine then_normal ?_
        refine wpD_region ?_
        refine p_pure htab rfl rfl rfl rfl ?_
        refine p_pure htab rfl rfl rfl rfl ?_
        refine p_pure htab rfl rfl rfl rfl ?_
        refine ops_nil ?_
        refine then_normal ⟨_, lp_next hm, ?_⟩
        exact WkX.of () (WkS.perm (WkS.cons rfl (Wk.refl _) (WkS.cons rfl (Wk.refl _) (WkS.cons rfl (Wk.refl _) (WkS.cons rfl (Wk.refl _) (WkS.nil))))) (List.Perm.refl _) (List.Perm.refl _))
      · replace hm := yes_f hc26 hm
        refine wpD_exit ?_
        refine then_exit ?_
        have e17 := lp_done hm; subst e17; clear hm; have hm := hq17
        refine then_exit ?_
        refine block_hit ?_
        have e16 := yes_eq hm; subst e16
        refine ⟨rfl, ?_⟩
        exact WkX.of () (WkS.perm (WkS.cons rfl (Wk.refl _) (WkS.cons rfl (Wk.refl _) (WkS.nil))) (List.Perm.refl _) (List.Perm.refl _))
  · intro s16 hw16; clear hm; have hm := ho16; clear q16 ho16
    refine then_normal ?_
    refine wpD_wkX hw16 (fun z16 => ?_)
    refine wpD_seq ?_
    refine wpD_region ?_
    refine p_load (d := eTSondageref17Made (⟨y16.1, y16.2.1, y16.2.2.1, y16.2.2.2⟩ : TSondageref17Made)) 0 htab rfl rfl rfl rfl rfl rfl rfl rfl ?_
    refine p_store (ds' := [.v (.int .i64 y16.1), .v (.int .i64 y16.2.1), .lst 6 (y16.2.2.1.map eTApiEdge) .no, .lst 1 (y16.2.2.2.map eI64) .no]) (h' := [(b1, Blk.cells [.v (.int .i64 y16.1), .v (.int .i64 y16.2.1), .lst 6 (y16.2.2.1.map eTApiEdge) .no, .lst 1 (y16.2.2.2.map eI64) .no] 43), (b2, Blk.cells [.v (.int .i64 y16.1), .v (.int .i64 y16.2.1), .lst 6 (y16.2.2.1.map eTApiEdge) .no, .lst 1 (y16.2.2.2.map eI64) .no] 43)]) 1 htab rfl rfl rfl rfl rfl rfl rfl rfl rfl rfl rfl rfl ?_
    refine ops_nil ?_
    refine then_normal ?_
    refine wpD_ret ?_
    have er29 := yes_eq hm; subst er29
    refine retX.of (s' := ⟨[(4, .ptr b2 0)], [(b2, Blk.cells [.v (.int .i64 y16.1), .v (.int .i64 y16.2.1), .lst 6 (y16.2.2.1.map eTApiEdge) .no, .lst 1 (y16.2.2.2.map eI64) .no] 43)], []⟩) (WkS.perm (WkS.cons rfl (Wk.refl _) (WkS.nil)) ((perm_at (j := 1) rfl).trans (List.Perm.cons _ (List.Perm.refl _))) (List.Perm.refl _)) (retD_mk (hh := []) (.inl rfl) (resL_cons (resOne_cell 0 rfl rfl rfl rfl) (resL_nil)) (List.nil_sublist _) (List.Sublist.refl _) ?_)
    exact ⟨rfl, rfl, rfl⟩
noncomputable def r17_one_b (g0 : (TSondageref17Made) → (List TApiStmt) → Option (TSondageref17Made)) (g1 : (TSondageref17Made) → (TApiStmt) → Option (TSondageref17Made)) (a0 : TSondageref17Made) (a1 : TApiStmt) : Option (TSondageref17Made) :=
  ((app 8 ([] : List Int) a0.gPlaces).bind fun x4 => ((app 8 x4 ([a0.gAt] : List Int)).bind fun x5 => ((r17_kind a1.gOp).bind fun x7 => (bif (x7 != (0 : Int)) then ((r17_kind a1.gOp).bind fun x13 => ((r17_with (⟨(IntKind.i64.wrap (a0.gNodes + (1 : Int))), a0.gNodes, a0.gEdges, x5⟩ : TSondageref17Made) a0.gAt a0.gNodes x13 a1).bind fun x15 => some x15)) else (bif (a1.gOp == (8 : Int)) then ((r17_with (⟨(IntKind.i64.wrap (a0.gNodes + (1 : Int))), a0.gNodes, a0.gEdges, x5⟩ : TSondageref17Made) a0.gAt (1 : Int) (8 : Int) (⟨(0 : Int), ByteArray.empty, ByteArray.empty, a1.gExps, [], [], (0 : Int)⟩ : TApiStmt)).bind fun x19 => some x19) else (bif (a1.gOp == (6 : Int)) then ((r17_with (⟨(IntKind.i64.wrap (a0.gNodes + (2 : Int))), a0.gAt, a0.gEdges, x5⟩ : TSondageref17Made) a0.gAt a0.gNodes (6 : Int) (⟨(0 : Int), ByteArray.empty, ByteArray.empty, a1.gExps, [], [], (0 : Int)⟩ : TApiStmt)).bind fun x23 => ((r17_with x23 a0.gAt (IntKind.i64.wrap (a0.gNodes + (1 : Int))) (7 : Int) (⟨(0 : Int), ByteArray.empty, ByteArray.empty, a1.gExps, [], [], (0 : Int)⟩ : TApiStmt)).bind fun x26 => ((g0 (⟨x26.gNodes, a0.gNodes, x26.gEdges, x26.gPlaces⟩ : TSondageref17Made) a1.gKids).bind fun x27 => ((r17_with (⟨(IntKind.i64.wrap (x27.gNodes + (1 : Int))), x27.gAt, x27.gEdges, x27.gPlaces⟩ : TSondageref17Made) x27.gAt x27.gNodes (0 : Int) (⟨(0 : Int), ByteArray.empty, ByteArray.empty, [], [], [], (0 : Int)⟩ : TApiStmt)).bind fun x29 => ((g0 (⟨x29.gNodes, (IntKind.i64.wrap (a0.gNodes + (1 : Int))), x29.gEdges, x29.gPlaces⟩ : TSondageref17Made) a1.gElse).bind fun x30 => ((r17_with x30 x30.gAt x27.gNodes (0 : Int) (⟨(0 : Int), ByteArray.empty, ByteArray.empty, [], [], [], (0 : Int)⟩ : TApiStmt)).bind fun x32 => some (⟨x32.gNodes, x27.gNodes, x32.gEdges, x32.gPlaces⟩ : TSondageref17Made))))))) else (bif (a1.gOp == (7 : Int)) then ((r17_with (⟨(IntKind.i64.wrap (a0.gNodes + (3 : Int))), a0.gAt, a0.gEdges, x5⟩ : TSondageref17Made) a0.gAt a0.gNodes (0 : Int) (⟨(0 : Int), ByteArray.empty, ByteArray.empty, [], [], [], (0 : Int)⟩ : TApiStmt)).bind fun x36 => ((r17_with x36 a0.gNodes (IntKind.i64.wrap (a0.gNodes + (1 : Int))) (6 : Int) (⟨(0 : Int), ByteArray.empty, ByteArray.empty, a1.gExps, [], [], (0 : Int)⟩ : TApiStmt)).bind fun x38 => ((r17_with x38 a0.gNodes (IntKind.i64.wrap (a0.gNodes + (2 : Int))) (7 : Int) (⟨(0 : Int), ByteArray.empty, ByteArray.empty, a1.gExps, [], [], (0 : Int)⟩ : TApiStmt)).bind fun x41 => ((g0 (⟨x41.gNodes, (IntKind.i64.wrap (a0.gNodes + (1 : Int))), x41.gEdges, x41.gPlaces⟩ : TSondageref17Made) a1.gKids).bind fun x42 => ((r17_with x42 x42.gAt a0.gNodes (0 : Int) (⟨(0 : Int), ByteArray.empty, ByteArray.empty, [], [], [], (0 : Int)⟩ : TApiStmt)).bind fun x44 => some (⟨x44.gNodes, (IntKind.i64.wrap (a0.gNodes + (2 : Int))), x44.gEdges, x44.gPlaces⟩ : TSondageref17Made)))))) else some (⟨a0.gNodes, a0.gAt, a0.gEdges, x5⟩ : TSondageref17Made))))))))
set_option maxRecDepth 100000 in
set_option maxHeartbeats 2000000 in
theorem r17_one_b_ok (g0 : (TSondageref17Made) → (List TApiStmt) → Option (TSondageref17Made)) (g1 : (TSondageref17Made) → (TApiStmt) → Option (TSondageref17Made)) (hg0 : ∀ (a0 : TSondageref17Made) (a1 : List TApiStmt) (r : TSondageref17Made) (h0 : g0 a0 a1 = some r), CallsD Try.prog 12 [eTSondageref17Made a0, .lst 7 (a1.map eTApiStmt) .no] [] [] (fun d h k => d = eTSondageref17Made r ∧ h = [] ∧ k = [])) (hg1 : ∀ (a0 : TSondageref17Made) (a1 : TApiStmt) (r : TSondageref17Made) (h0 : g1 a0 a1 = some r), CallsD Try.prog 16 [eTSondageref17Made a0, eTApiStmt a1] [] [] (fun d h k => d = eTSondageref17Made r ∧ h = [] ∧ k = [])) (a0 : TSondageref17Made) (a1 : TApiStmt) (r : TSondageref17Made) (h0 : r17_one_b g0 g1 a0 a1 = some r) : CallsD Try.prog 16 [eTSondageref17Made a0, eTApiStmt a1] [] [] (fun d h k => d = eTSondageref17Made r ∧ h = [] ∧ k = []) := by
  have hm := yes_of h0
  unfold r17_one_b at hm
  clear h0
  refine enterX htab Try.func16 rfl rfl rfl rfl rfl (fun C => ?_)
  refine w_eq (i := 1) rfl (Wk.of_eq (eTApiStmt_eq a1)) ?_
  refine wpD_seq ?_
  refine wpD_region ?_
  refine p_box rfl rfl rfl rfl rfl rfl rfl (fun b1 => ?_)
  refine p_box rfl rfl rfl rfl rfl rfl rfl (fun b2 => ?_)
  refine p_alloc htab rfl rfl rfl rfl rfl rfl rfl (fun b3 => ?_)
  refine ops_nil ?_
  refine then_normal ?_
  refine wpD_seq ?_
  obtain ⟨x4, q4, hm⟩ := yes_bind hm
  refine wpD_appF 6 [] [[],[0],[0,1],[],[3],[3,4]] [0,1,2,3,4,5] [[],[0],[0,1],[],[3],[3,4],[0,1,2,3,4,5],[0,1,2,3,4,5,6],[0,1,2,3,4,5,6,7]] 2 1 (by kernel_rfl) (by kernel_rfl) (by kernel_rfl) (by rfl) (by rfl) (by kernel_rfl) ?_
  apply Exists.intro
  apply Exists.intro
  apply Exists.intro
  refine ⟨.any, ?_⟩
  apply Exists.intro
  apply Exists.intro
  apply Exists.intro
  intro bs v4
  refine zh_e rfl rfl (ex_pure htab rfl) rfl rfl rfl rfl rfl rfl rfl rfl ?_
  refine zh_M rfl rfl (fun _ => xm_load 0 htab rfl rfl rfl rfl rfl) (offB rfl) rfl rfl rfl rfl rfl rfl rfl rfl ?_
  refine zh_app htab rfl rfl rfl rfl rfl rfl rfl rfl (rep_of0 rfl) rfl (app_kF rfl) (List.Perm.refl _) rfl rfl rfl rfl rfl rfl rfl rfl rfl (by simpa using app_bound (e := eI64) q4) (by simpa using app_map (e := eI64) q4) ?_
  refine zh_e rfl rfl (ex_pure htab rfl) rfl rfl rfl rfl rfl rfl rfl rfl ?_
  refine zh_M rfl rfl (fun _ => xm_load 0 htab rfl rfl rfl rfl rfl) (fun _ => xm_load 0 htab rfl rfl rfl rfl rfl) rfl rfl rfl rfl rfl rfl rfl rfl ?_
  refine zh_E rfl rfl (ExE.wk (x_lit htab rfl rfl rfl rfl rfl rfl rfl rfl rfl rfl rfl) (show Wk _ (.lst 1 (([a0.gAt] : List Int).map eI64) .full) from Wk.lst0 (.cons (WkC.refl _) (.nil)))) rfl rfl rfl rfl rfl rfl rfl rfl ?_
  refine zh_nil rfl rfl rfl rfl (fun e he => by simp [isAl] at he) ?_
  obtain ⟨x5, q5, hm⟩ := yes_bind hm
  refine p_appC 0 htab rfl rfl rfl rfl rfl rfl rfl rfl rfl rfl rfl rfl rfl rfl rfl rfl rfl (app_bound q5) (fun v5 => ?_)
  refine p_mapD (i := 15) q5 rfl ?_
  refine p_pure htab rfl rfl rfl rfl ?_
  refine p_store (ds' := [.v (.int .i64 a0.gNodes), .v (.int .i64 a0.gAt), .lst 6 (a0.gEdges.map eTApiEdge) .no, .lst 1 (x5.map eI64) (.cur v5)]) (h' := [(b1, Blk.cells [.v (.int .i64 a0.gNodes), .v (.int .i64 a0.gAt), .lst 6 (a0.gEdges.map eTApiEdge) .no, .lst 1 (x5.map eI64) (.cur v5)] 43), (b2, Blk.cells [.v (.int .i64 a1.gOp), .v (.string a1.gName), .v (.string a1.gFunc), .lst 5 (a1.gExps.map eTApiExpr) .no, .lst 7 (a1.gKids.map eTApiStmt) .no, .lst 7 (a1.gElse.map eTApiStmt) .no, .v (.int .i64 a1.gAt)] 49), (b3, Blk.cells [.v (.int .i64 (0 : Int)), .v (.int .i64 (0 : Int)), .lst 1 [] .full, .lst 1 [] .full] 43)]) 0 htab rfl rfl rfl rfl rfl rfl rfl rfl rfl rfl rfl rfl ?_
  refine ops_nil ?_
  refine then_normal ?_
  refine wpD_seq ?_
  refine wpD_draws 5 [] [[],[0],[],[2],[0]] [0,2] [[],[0],[],[2],[0,1],[0,1,2,3,4]] (by kernel_rfl) (by kernel_rfl) (by kernel_rfl) (by rfl) (by rfl) (by kernel_rfl) ?_
  apply Exists.intro
  apply Exists.intro
  intro bs
  refine z_e rfl rfl (ex_pure htab rfl) rfl rfl rfl rfl rfl rfl ?_
  refine z_qM rfl rfl (xm_load 0 htab rfl rfl rfl rfl rfl) rfl rfl rfl rfl rfl rfl ?_
  refine z_e rfl rfl (ex_pure htab rfl) rfl rfl rfl rfl rfl rfl ?_
  refine z_qM rfl rfl (xm_load 0 htab rfl rfl rfl rfl rfl) rfl rfl rfl rfl rfl rfl ?_
  refine z_q rfl rfl (ex_pure htab rfl) rfl rfl rfl rfl rfl rfl ?_
  refine z_nil rfl rfl (fun e he => by simp [isAl] at he) ?_
  refine p_pure htab rfl rfl rfl rfl ?_
  refine ops_nil ?_
  refine then_normal ?_
  refine wpD_seq ?_
  refine wpD_region ?_
  refine p_pure htab rfl rfl rfl rfl ?_
  refine p_load 1 htab rfl rfl rfl rfl rfl rfl rfl rfl ?_
  refine p_build (r := [.v (.int .i64 (0 : Int)), .v (.string ByteArray.empty), .v (.string ByteArray.empty), .lst 5 (a1.gExps.map eTApiExpr) .no, .lst 1 [] .full, .lst 1 [] .full, .v (.int .i64 (0 : Int))]) htab rfl rfl rfl rfl rfl rfl rfl rfl rfl ?_
  refine p_alloc htab rfl rfl rfl rfl rfl rfl rfl (fun b6 => ?_)
  refine p_store (ds' := [.v (.int .i64 (0 : Int)), .v (.string ByteArray.empty), .v (.string ByteArray.empty), .lst 5 (a1.gExps.map eTApiExpr) .no, .lst 1 [] .full, .lst 1 [] .full, .v (.int .i64 (0 : Int))]) (h' := [(b1, Blk.cells [.v (.int .i64 a0.gNodes), .v (.int .i64 a0.gAt), .lst 6 (a0.gEdges.map eTApiEdge) .no, .lst 1 (x5.map eI64) (.cur v5)] 43), (b2, Blk.cells [.v (.int .i64 a1.gOp), .v (.string a1.gName), .v (.string a1.gFunc), .lst 5 (a1.gExps.map eTApiExpr) .no, .lst 7 (a1.gKids.map eTApiStmt) .no, .lst 7 (a1.gElse.map eTApiStmt) .no, .v (.int .i64 a1.gAt)] 49), (b3, Blk.cells [.v (.int .i64 (0 : Int)), .v (.int .i64 (0 : Int)), .lst 1 [] .full, .lst 1 [] .full] 43), (b6, Blk.cells [.v (.int .i64 (0 : Int)), .v (.string ByteArray.empty), .v (.string ByteArray.empty), .lst 5 (a1.gExps.map eTApiExpr) .no, .lst 1 [] .full, .lst 1 [] .full, .v (.int .i64 (0 : Int))] 49)]) 3 htab rfl rfl rfl rfl rfl rfl rfl rfl rfl rfl rfl rfl ?_
  refine ops_nil ?_
  refine then_normal ?_
  refine wpD_seq ?_
  refine wpD_seq ?_
  refine wpD_region ?_
  refine p_pure htab rfl rfl rfl rfl ?_
  refine p_load 1 htab rfl rfl rfl rfl rfl rfl rfl rfl ?_
  obtain ⟨x7, q7, hm⟩ := yes_bind hm
  refine p_call0 (r17_kind_ok a1.gOp x7 q7) rfl rfl rfl rfl rfl (WkL.refl _) ?_
  rintro _ rfl
  refine p_pure htab rfl rfl rfl rfl ?_
  refine ops_nil ?_
  refine then_normal ?_
  refine wpD_cond rfl (fun hc12 => ?_) (fun hc12 => ?_)
  · replace hm := yes_t hc12 hm
    refine wpD_seq ?_
    refine wpD_region ?_
    refine p_pure htab rfl rfl rfl rfl ?_
    refine p_pure htab rfl rfl rfl rfl ?_
    refine p_pure htab rfl rfl rfl rfl ?_
    refine p_store (ds' := [.v (.int .i64 (IntKind.i64.wrap (a0.gNodes + (1 : Int)))), .v (.int .i64 a0.gAt), .lst 6 (a0.gEdges.map eTApiEdge) .no, .lst 1 (x5.map eI64) (.cur v5)]) (h' := [(b1, Blk.cells [.v (.int .i64 (IntKind.i64.wrap (a0.gNodes + (1 : Int)))), .v (.int .i64 a0.gAt), .lst 6 (a0.gEdges.map eTApiEdge) .no, .lst 1 (x5.map eI64) (.cur v5)] 43), (b2, Blk.cells [.v (.int .i64 a1.gOp), .v (.string a1.gName), .v (.string a1.gFunc), .lst 5 (a1.gExps.map eTApiExpr) .no, .lst 7 (a1.gKids.map eTApiStmt) .no, .lst 7 (a1.gElse.map eTApiStmt) .no, .v (.int .i64 a1.gAt)] 49), (b3, Blk.cells [.v (.int .i64 (0 : Int)), .v (.int .i64 (0 : Int)), .lst 1 [] .full, .lst 1 [] .full] 43), (b6, Blk.cells [.v (.int .i64 (0 : Int)), .v (.string ByteArray.empty), .v (.string ByteArray.empty), .lst 5 (a1.gExps.map eTApiExpr) .no, .lst 1 [] .full, .lst 1 [] .full, .v (.int .i64 (0 : Int))] 49)]) 0 htab rfl rfl rfl rfl rfl rfl rfl rfl rfl rfl rfl rfl ?_
    refine ops_nil ?_
    refine then_normal ?_
    refine wpD_seq ?_
    refine wpD_region ?_
    refine p_pure htab rfl rfl rfl rfl ?_
    refine p_pure htab rfl rfl rfl rfl ?_
    refine p_store (ds' := [.v (.int .i64 (IntKind.i64.wrap (a0.gNodes + (1 : Int)))), .v (.int .i64 a0.gNodes), .lst 6 (a0.gEdges.map eTApiEdge) .no, .lst 1 (x5.map eI64) (.cur v5)]) (h' := [(b1, Blk.cells [.v (.int .i64 (IntKind.i64.wrap (a0.gNodes + (1 : Int)))), .v (.int .i64 a0.gNodes), .lst 6 (a0.gEdges.map eTApiEdge) .no, .lst 1 (x5.map eI64) (.cur v5)] 43), (b2, Blk.cells [.v (.int .i64 a1.gOp), .v (.string a1.gName), .v (.string a1.gFunc), .lst 5 (a1.gExps.map eTApiExpr) .no, .lst 7 (a1.gKids.map eTApiStmt) .no, .lst 7 (a1.gElse.map eTApiStmt) .no, .v (.int .i64 a1.gAt)] 49), (b3, Blk.cells [.v (.int .i64 (0 : Int)), .v (.int .i64 (0 : Int)), .lst 1 [] .full, .lst 1 [] .full] 43), (b6, Blk.cells [.v (.int .i64 (0 : Int)), .v (.string ByteArray.empty), .v (.string ByteArray.empty), .lst 5 (a1.gExps.map eTApiExpr) .no, .lst 1 [] .full, .lst 1 [] .full, .v (.int .i64 (0 : Int))] 49)]) 0 htab rfl rfl rfl rfl rfl rfl rfl rfl rfl rfl rfl rfl ?_
    refine ops_nil ?_
    refine then_normal ?_
    refine wpD_seq ?_
    obtain ⟨x13, q13, hm⟩ := yes_bind hm
    refine wpD_draws 7 [] [[],[],[],[],[3],[3],[]] [0,3,5,6] [[],[],[],[],[3],[3,4],[],[0,1,2,3,4,5,6],[0,1,2,3,4,5,6,7]] (by kernel_rfl) (by kernel_rfl) (by kernel_rfl) (by rfl) (by rfl) (by kernel_rfl) ?_
    apply Exists.intro
    apply Exists.intro
    apply Exists.intro
    apply Exists.intro
    intro bs
    refine z_eM rfl rfl (xm_load (d := .agg [.v (.int .i64 (IntKind.i64.wrap (a0.gNodes + (1 : Int)))), .v (.int .i64 a0.gNodes), .lst 6 (a0.gEdges.map eTApiEdge) .no, .lst 1 (x5.map eI64) (.cur v5)]) 0 htab rfl rfl rfl rfl rfl) rfl rfl rfl rfl rfl rfl ?_
    refine z_q rfl rfl (ex_pure htab rfl) rfl rfl rfl rfl rfl rfl ?_
    refine z_q rfl rfl (ex_pure htab rfl) rfl rfl rfl rfl rfl rfl ?_
    refine z_e rfl rfl (ex_pure htab rfl) rfl rfl rfl rfl rfl rfl ?_
    refine z_qM rfl rfl (xm_load 1 htab rfl rfl rfl rfl rfl) rfl rfl rfl rfl rfl rfl ?_
    refine z_call rfl rfl (r17_kind_ok a1.gOp x13 q13) rfl rfl (WkL.refl _) rfl rfl rfl rfl rfl rfl ?_
    refine z_eM rfl rfl (xm_load (d := .agg [.v (.int .i64 a1.gOp), .v (.string a1.gName), .v (.string a1.gFunc), .lst 5 (a1.gExps.map eTApiExpr) .no, .lst 7 (a1.gKids.map eTApiStmt) .no, .lst 7 (a1.gElse.map eTApiStmt) .no, .v (.int .i64 a1.gAt)]) 1 htab rfl rfl rfl rfl rfl) rfl rfl rfl rfl rfl rfl ?_
    refine z_nil rfl rfl (fun e he => by simp [isAl] at he) ?_
    obtain ⟨x15, q15, hm⟩ := yes_bind hm
    refine p_callG (r17_with_ok (⟨(IntKind.i64.wrap (a0.gNodes + (1 : Int))), a0.gNodes, a0.gEdges, x5⟩ : TSondageref17Made) a0.gAt a0.gNodes x13 a1 x15 q15) rfl rfl rfl rfl rfl (WkL.cons (Wk.agg (WkR.cons (WkC.refl _) rfl (WkR.cons (WkC.refl _) rfl (WkR.cons (WkC.refl _) rfl (WkR.cons (WkC.no) rfl (WkR.nil)))))) (WkL.cons (Wk.refl _) (WkL.cons (Wk.refl _) (WkL.cons (Wk.refl _) (WkL.cons (Wk.trans (Wk.agg (WkR.refl _)) (Wk.of_eq (eTApiStmt_eq a1).symm)) (WkL.refl _)))))) (List.Perm.refl _) (List.Perm.refl _) ?_
    rintro _ _ _ ⟨w14, rfl, rfl, rfl⟩
    refine p_store (ds' := [.v (.int .i64 x15.gNodes), .v (.int .i64 x15.gAt), .lst 6 (x15.gEdges.map eTApiEdge) (.cur w14), .lst 1 (x15.gPlaces.map eI64) .no]) (h' := [(b1, Blk.cells [.v (.int .i64 (IntKind.i64.wrap (a0.gNodes + (1 : Int)))), .v (.int .i64 a0.gNodes), .lst 6 (a0.gEdges.map eTApiEdge) .no, .lst 1 (x5.map eI64) (.cur v5)] 43), (b2, Blk.cells [.v (.int .i64 a1.gOp), .v (.string a1.gName), .v (.string a1.gFunc), .lst 5 (a1.gExps.map eTApiExpr) .no, .lst 7 (a1.gKids.map eTApiStmt) .no, .lst 7 (a1.gElse.map eTApiStmt) .no, .v (.int .i64 a1.gAt)] 49), (b3, Blk.cells [.v (.int .i64 x15.gNodes), .v (.int .i64 x15.gAt), .lst 6 (x15.gEdges.map eTApiEdge) (.cur w14), .lst 1 (x15.gPlaces.map eI64) .no] 43), (b6, Blk.cells [.v (.int .i64 (0 : Int)), .v (.string ByteArray.empty), .v (.string ByteArray.empty), .lst 5 (a1.gExps.map eTApiExpr) .no, .lst 1 [] .full, .lst 1 [] .full, .v (.int .i64 (0 : Int))] 49)]) 2 htab rfl rfl rfl rfl rfl rfl rfl rfl rfl rfl rfl rfl ?_
    refine ops_nil ?_
    refine then_normal ?_
    refine wpD_ret ?_
    refine then_ret ?_
    have er16 := yes_eq hm; subst er16
    refine retX.wk (WkS.blk (ds' := [.v (.int .i64 x15.gNodes), .v (.int .i64 x15.gAt), .lst 6 (x15.gEdges.map eTApiEdge) .no, .lst 1 (x15.gPlaces.map eI64) .no]) (h' := [(b1, Blk.cells [.v (.int .i64 (IntKind.i64.wrap (a0.gNodes + (1 : Int)))), .v (.int .i64 a0.gNodes), .lst 6 (a0.gEdges.map eTApiEdge) .no, .lst 1 (x5.map eI64) (.cur v5)] 43), (b2, Blk.cells [.v (.int .i64 a1.gOp), .v (.string a1.gName), .v (.string a1.gFunc), .lst 5 (a1.gExps.map eTApiExpr) .no, .lst 7 (a1.gKids.map eTApiStmt) .no, .lst 7 (a1.gElse.map eTApiStmt) .no, .v (.int .i64 a1.gAt)] 49), (b3, Blk.cells [.v (.int .i64 x15.gNodes), .v (.int .i64 x15.gAt), .lst 6 (x15.gEdges.map eTApiEdge) .no, .lst 1 (x15.gPlaces.map eI64) .no] 43), (b6, Blk.cells [.v (.int .i64 (0 : Int)), .v (.string ByteArray.empty), .v (.string ByteArray.empty), .lst 5 (a1.gExps.map eTApiExpr) .no, .lst 1 [] .full, .lst 1 [] .full, .v (.int .i64 (0 : Int))] 49)]) 2 rfl (WkR.cons (WkC.refl _) rfl (WkR.cons (WkC.refl _) rfl (WkR.cons (WkC.no) rfl (WkR.cons (WkC.refl _) rfl (WkR.nil))))) rfl) ?_
    refine retX.of (s' := ⟨[(4, .ptr b3 0)], [(b3, Blk.cells [.v (.int .i64 x15.gNodes), .v (.int .i64 x15.gAt), .lst 6 (x15.gEdges.map eTApiEdge) .no, .lst 1 (x15.gPlaces.map eI64) .no] 43)], []⟩) (WkS.perm (WkS.cons rfl (Wk.refl _) (WkS.nil)) ((perm_at (j := 2) rfl).trans (List.Perm.cons _ (List.Perm.refl _))) (List.Perm.refl _)) (retD_mk (hh := []) (.inl rfl) (resL_cons (resOne_cell 0 rfl rfl rfl rfl) (resL_nil)) (List.nil_sublist _) (List.Sublist.refl _) ?_)
    exact ⟨rfl, rfl, rfl⟩
  · replace hm := yes_f hc12 hm
    refine wpD_skip ?_
    refine then_normal ?_
    refine wpD_seq ?_
    refine wpD_seq ?_
    refine wpD_region ?_
    refine p_pure htab rfl rfl rfl rfl ?_
    refine p_load 1 htab rfl rfl rfl rfl rfl rfl rfl rfl ?_
    refine ops_nil ?_
    refine then_normal ?_
    refine wpD_block ?_
    refine wpD_seq ?_
    refine wpD_region ?_
    refine p_pure htab rfl rfl rfl rfl ?_
    refine p_pure htab rfl rfl rfl rfl ?_
    refine ops_nil ?_
    refine then_normal ?_
    refine wpD_cond rfl (fun hc17 => ?_) (fun hc17 => ?_)
    · replace hm := yes_t hc17 hm
      refine wpD_seq ?_
      refine wpD_region ?_
      refine p_pure htab rfl rfl rfl rfl ?_
      refine p_pure htab rfl rfl rfl rfl ?_
      refine p_pure htab rfl rfl rfl rfl ?_
      refine p_store (ds' := [.v (.int .i64 (IntKind.i64.wrap (a0.gNodes + (1 : Int)))), .v (.int .i64 a0.gAt), .lst 6 (a0.gEdges.map eTApiEdge) .no, .lst 1 (x5.map eI64) (.cur v5)]) (h' := [(b1, Blk.cells [.v (.int .i64 (IntKind.i64.wrap (a0.gNodes + (1 : Int)))), .v (.int .i64 a0.gAt), .lst 6 (a0.gEdges.map eTApiEdge) .no, .lst 1 (x5.map eI64) (.cur v5)] 43), (b2, Blk.cells [.v (.int .i64 a1.gOp), .v (.string a1.gName), .v (.string a1.gFunc), .lst 5 (a1.gExps.map eTApiExpr) .no, .lst 7 (a1.gKids.map eTApiStmt) .no, .lst 7 (a1.gElse.map eTApiStmt) .no, .v (.int .i64 a1.gAt)] 49), (b3, Blk.cells [.v (.int .i64 (0 : Int)), .v (.int .i64 (0 : Int)), .lst 1 [] .full, .lst 1 [] .full] 43), (b6, Blk.cells [.v (.int .i64 (0 : Int)), .v (.string ByteArray.empty), .v (.string ByteArray.empty), .lst 5 (a1.gExps.map eTApiExpr) .no, .lst 1 [] .full, .lst 1 [] .full, .v (.int .i64 (0 : Int))] 49)]) 0 htab rfl rfl rfl rfl rfl rfl rfl rfl rfl rfl rfl rfl ?_
      refine ops_nil ?_
      refine then_normal ?_
      refine wpD_seq ?_
      refine wpD_region ?_
      refine p_pure htab rfl rfl rfl rfl ?_
      refine p_pure htab rfl rfl rfl rfl ?_
      refine p_store (ds' := [.v (.int .i64 (IntKind.i64.wrap (a0.gNodes + (1 : Int)))), .v (.int .i64 a0.gNodes), .lst 6 (a0.gEdges.map eTApiEdge) .no, .lst 1 (x5.map eI64) (.cur v5)]) (h' := [(b1, Blk.cells [.v (.int .i64 (IntKind.i64.wrap (a0.gNodes + (1 : Int)))), .v (.int .i64 a0.gNodes), .lst 6 (a0.gEdges.map eTApiEdge) .no, .lst 1 (x5.map eI64) (.cur v5)] 43), (b2, Blk.cells [.v (.int .i64 a1.gOp), .v (.string a1.gName), .v (.string a1.gFunc), .lst 5 (a1.gExps.map eTApiExpr) .no, .lst 7 (a1.gKids.map eTApiStmt) .no, .lst 7 (a1.gElse.map eTApiStmt) .no, .v (.int .i64 a1.gAt)] 49), (b3, Blk.cells [.v (.int .i64 (0 : Int)), .v (.int .i64 (0 : Int)), .lst 1 [] .full, .lst 1 [] .full] 43), (b6, Blk.cells [.v (.int .i64 (0 : Int)), .v (.string ByteArray.empty), .v (.string ByteArray.empty), .lst 5 (a1.gExps.map eTApiExpr) .no, .lst 1 [] .full, .lst 1 [] .full, .v (.int .i64 (0 : Int))] 49)]) 0 htab rfl rfl rfl rfl rfl rfl rfl rfl rfl rfl rfl rfl ?_
      refine ops_nil ?_
      refine then_normal ?_
      refine wpD_seq ?_
      refine wpD_region ?_
      refine p_load (d := .agg [.v (.int .i64 (IntKind.i64.wrap (a0.gNodes + (1 : Int)))), .v (.int .i64 a0.gNodes), .lst 6 (a0.gEdges.map eTApiEdge) .no, .lst 1 (x5.map eI64) (.cur v5)]) 0 htab rfl rfl rfl rfl rfl rfl rfl rfl ?_
      refine p_pure htab rfl rfl rfl rfl ?_
      refine p_load (d := .agg [.v (.int .i64 (0 : Int)), .v (.string ByteArray.empty), .v (.string ByteArray.empty), .lst 5 (a1.gExps.map eTApiExpr) .no, .lst 1 [] .full, .lst 1 [] .full, .v (.int .i64 (0 : Int))]) 3 htab rfl rfl rfl rfl rfl rfl rfl rfl ?_
      obtain ⟨x19, q19, hm⟩ := yes_bind hm
      refine p_callG (r17_with_ok (⟨(IntKind.i64.wrap (a0.gNodes + (1 : Int))), a0.gNodes, a0.gEdges, x5⟩ : TSondageref17Made) a0.gAt (1 : Int) (8 : Int) (⟨(0 : Int), ByteArray.empty, ByteArray.empty, a1.gExps, [], [], (0 : Int)⟩ : TApiStmt) x19 q19) rfl rfl rfl rfl rfl (WkL.cons (Wk.agg (WkR.cons (WkC.refl _) rfl (WkR.cons (WkC.refl _) rfl (WkR.cons (WkC.refl _) rfl (WkR.cons (WkC.no) rfl (WkR.nil)))))) (WkL.cons (Wk.refl _) (WkL.cons (Wk.refl _) (WkL.cons (Wk.refl _) (WkL.cons (Wk.trans (Wk.agg (WkR.cons (WkC.refl _) rfl (WkR.cons (WkC.refl _) rfl (WkR.cons (WkC.refl _) rfl (WkR.cons (WkC.refl _) rfl (WkR.cons (WkC.nil) rfl (WkR.cons (WkC.nil) rfl (WkR.cons (WkC.refl _) rfl (WkR.nil))))))))) (Wk.of_eq (eTApiStmt_eq (⟨(0 : Int), ByteArray.empty, ByteArray.empty, a1.gExps, [], [], (0 : Int)⟩ : TApiStmt)).symm)) (WkL.refl _)))))) (List.Perm.refl _) (List.Perm.refl _) ?_
      rintro _ _ _ ⟨w18, rfl, rfl, rfl⟩
      refine p_store (ds' := [.v (.int .i64 x19.gNodes), .v (.int .i64 x19.gAt), .lst 6 (x19.gEdges.map eTApiEdge) (.cur w18), .lst 1 (x19.gPlaces.map eI64) .no]) (h' := [(b1, Blk.cells [.v (.int .i64 (IntKind.i64.wrap (a0.gNodes + (1 : Int)))), .v (.int .i64 a0.gNodes), .lst 6 (a0.gEdges.map eTApiEdge) .no, .lst 1 (x5.map eI64) (.cur v5)] 43), (b2, Blk.cells [.v (.int .i64 a1.gOp), .v (.string a1.gName), .v (.string a1.gFunc), .lst 5 (a1.gExps.map eTApiExpr) .no, .lst 7 (a1.gKids.map eTApiStmt) .no, .lst 7 (a1.gElse.map eTApiStmt) .no, .v (.int .i64 a1.gAt)] 49), (b3, Blk.cells [.v (.int .i64 x19.gNodes), .v (.int .i64 x19.gAt), .lst 6 (x19.gEdges.map eTApiEdge) (.cur w18), .lst 1 (x19.gPlaces.map eI64) .no] 43), (b6, Blk.cells [.v (.int .i64 (0 : Int)), .v (.string ByteArray.empty), .v (.string ByteArray.empty), .lst 5 (a1.gExps.map eTApiExpr) .no, .lst 1 [] .full, .lst 1 [] .full, .v (.int .i64 (0 : Int))] 49)]) 2 htab rfl rfl rfl rfl rfl rfl rfl rfl rfl rfl rfl rfl ?_
      refine ops_nil ?_
      refine then_normal ?_
      refine wpD_ret ?_
      refine block_ret ?_
      refine then_ret ?_
      have er20 := yes_eq hm; subst er20
      refine retX.wk (WkS.blk (ds' := [.v (.int .i64 x19.gNodes), .v (.int .i64 x19.gAt), .lst 6 (x19.gEdges.map eTApiEdge) .no, .lst 1 (x19.gPlaces.map eI64) .no]) (h' := [(b1, Blk.cells [.v (.int .i64 (IntKind.i64.wrap (a0.gNodes + (1 : Int)))), .v (.int .i64 a0.gNodes), .lst 6 (a0.gEdges.map eTApiEdge) .no, .lst 1 (x5.map eI64) (.cur v5)] 43), (b2, Blk.cells [.v (.int .i64 a1.gOp), .v (.string a1.gName), .v (.string a1.gFunc), .lst 5 (a1.gExps.map eTApiExpr) .no, .lst 7 (a1.gKids.map eTApiStmt) .no, .lst 7 (a1.gElse.map eTApiStmt) .no, .v (.int .i64 a1.gAt)] 49), (b3, Blk.cells [.v (.int .i64 x19.gNodes), .v (.int .i64 x19.gAt), .lst 6 (x19.gEdges.map eTApiEdge) .no, .lst 1 (x19.gPlaces.map eI64) .no] 43), (b6, Blk.cells [.v (.int .i64 (0 : Int)), .v (.string ByteArray.empty), .v (.string ByteArray.empty), .lst 5 (a1.gExps.map eTApiExpr) .no, .lst 1 [] .full, .lst 1 [] .full, .v (.int .i64 (0 : Int))] 49)]) 2 rfl (WkR.cons (WkC.refl _) rfl (WkR.cons (WkC.refl _) rfl (WkR.cons (WkC.no) rfl (WkR.cons (WkC.refl _) rfl (WkR.nil))))) rfl) ?_
      refine retX.of (s' := ⟨[(4, .ptr b3 0)], [(b3, Blk.cells [.v (.int .i64 x19.gNodes), .v (.int .i64 x19.gAt), .lst 6 (x19.gEdges.map eTApiEdge) .no, .lst 1 (x19.gPlaces.map eI64) .no] 43)], []⟩) (WkS.perm (WkS.cons rfl (Wk.refl _) (WkS.nil)) ((perm_at (j := 2) rfl).trans (List.Perm.cons _ (List.Perm.refl _))) (List.Perm.refl _)) (retD_mk (hh := []) (.inl rfl) (resL_cons (resOne_cell 0 rfl rfl rfl rfl) (resL_nil)) (List.nil_sublist _) (List.Sublist.refl _) ?_)
      exact ⟨rfl, rfl, rfl⟩
    · replace hm := yes_f hc17 hm
      refine wpD_seq ?_
      refine wpD_region ?_
      refine p_pure htab rfl rfl rfl rfl ?_
      refine p_pure htab rfl rfl rfl rfl ?_
      refine ops_nil ?_
      refine then_normal ?_
      refine wpD_cond rfl (fun hc21 => ?_) (fun hc21 => ?_)
      · replace hm := yes_t hc21 hm
        refine wpD_seq ?_
        refine wpD_region ?_
        refine p_pure htab rfl rfl rfl rfl ?_
        refine p_pure htab rfl rfl rfl rfl ?_
        refine p_pure htab rfl rfl rfl rfl ?_
        refine p_store (ds' := [.v (.int .i64 (IntKind.i64.wrap (a0.gNodes + (2 : Int)))), .v (.int .i64 a0.gAt), .lst 6 (a0.gEdges.map eTApiEdge) .no, .lst 1 (x5.map eI64) (.cur v5)]) (h' := [(b1, Blk.cells [.v (.int .i64 (IntKind.i64.wrap (a0.gNodes + (2 : Int)))), .v (.int .i64 a0.gAt), .lst 6 (a0.gEdges.map eTApiEdge) .no, .lst 1 (x5.map eI64) (.cur v5)] 43), (b2, Blk.cells [.v (.int .i64 a1.gOp), .v (.string a1.gName), .v (.string a1.gFunc), .lst 5 (a1.gExps.map eTApiExpr) .no, .lst 7 (a1.gKids.map eTApiStmt) .no, .lst 7 (a1.gElse.map eTApiStmt) .no, .v (.int .i64 a1.gAt)] 49), (b3, Blk.cells [.v (.int .i64 (0 : Int)), .v (.int .i64 (0 : Int)), .lst 1 [] .full, .lst 1 [] .full] 43), (b6, Blk.cells [.v (.int .i64 (0 : Int)), .v (.string ByteArray.empty), .v (.string ByteArray.empty), .lst 5 (a1.gExps.map eTApiExpr) .no, .lst 1 [] .full, .lst 1 [] .full, .v (.int .i64 (0 : Int))] 49)]) 0 htab rfl rfl rfl rfl rfl rfl rfl rfl rfl rfl rfl rfl ?_
        refine ops_nil ?_
        refine then_normal ?_
        refine wpD_seq ?_
        obtain ⟨x23, q23, hm⟩ := yes_bind hm
        refine wpD_draws 9 [] [[],[],[],[],[0,3],[],[],[],[]] [0,3,4,8] [[],[],[],[],[0,1,2,3],[],[],[6],[],[0,1,2,3,4,5,6,7,8],[0,1,2,3,4,5,6,7,8,9]] (by kernel_rfl) (by kernel_rfl) (by kernel_rfl) (by rfl) (by rfl) (by kernel_rfl) ?_
        apply Exists.intro
        apply Exists.intro
        apply Exists.intro
        apply Exists.intro
        intro bs
        refine z_eM rfl rfl (xm_load (d := .agg [.v (.int .i64 (IntKind.i64.wrap (a0.gNodes + (2 : Int)))), .v (.int .i64 a0.gAt), .lst 6 (a0.gEdges.map eTApiEdge) .no, .lst 1 (x5.map eI64) (.cur v5)]) 0 htab rfl rfl rfl rfl rfl) rfl rfl rfl rfl rfl rfl ?_
        refine z_q rfl rfl (ex_pure htab rfl) rfl rfl rfl rfl rfl rfl ?_
        refine z_q rfl rfl (ex_pure htab rfl) rfl rfl rfl rfl rfl rfl ?_
        refine z_eM rfl rfl (xm_load (d := .agg [.v (.int .i64 (0 : Int)), .v (.string ByteArray.empty), .v (.string ByteArray.empty), .lst 5 (a1.gExps.map eTApiExpr) .no, .lst 1 [] .full, .lst 1 [] .full, .v (.int .i64 (0 : Int))]) 3 htab rfl rfl rfl rfl rfl) rfl rfl rfl rfl rfl rfl ?_
        refine z_call rfl rfl (r17_with_ok0 (⟨(IntKind.i64.wrap (a0.gNodes + (2 : Int))), a0.gAt, a0.gEdges, x5⟩ : TSondageref17Made) a0.gAt a0.gNodes (6 : Int) (⟨(0 : Int), ByteArray.empty, ByteArray.empty, a1.gExps, [], [], (0 : Int)⟩ : TApiStmt) x23 q23) rfl rfl (WkL.cons (Wk.agg (WkR.cons (WkC.refl _) rfl (WkR.cons (WkC.refl _) rfl (WkR.cons (WkC.refl _) rfl (WkR.cons (WkC.no) rfl (WkR.nil)))))) (WkL.cons (Wk.refl _) (WkL.cons (Wk.refl _) (WkL.cons (Wk.refl _) (WkL.cons (Wk.trans (Wk.agg (WkR.cons (WkC.refl _) rfl (WkR.cons (WkC.refl _) rfl (WkR.cons (WkC.refl _) rfl (WkR.cons (WkC.refl _) rfl (WkR.cons (WkC.nil) rfl (WkR.cons (WkC.nil) rfl (WkR.cons (WkC.refl _) rfl (WkR.nil))))))))) (Wk.of_eq (eTApiStmt_eq (⟨(0 : Int), ByteArray.empty, ByteArray.empty, a1.gExps, [], [], (0 : Int)⟩ : TApiStmt)).symm)) (WkL.refl _)))))) rfl rfl rfl rfl rfl rfl ?_
        refine z_q rfl rfl (ex_pure htab rfl) rfl rfl rfl rfl rfl rfl ?_
        refine z_q rfl rfl (ex_pure htab rfl) rfl rfl rfl rfl rfl rfl ?_
        refine z_q rfl rfl (ex_pure htab rfl) rfl rfl rfl rfl rfl rfl ?_
        refine z_eM rfl rfl (xm_load (d := .agg [.v (.int .i64 (0 : Int)), .v (.string ByteArray.empty), .v (.string ByteArray.empty), .lst 5 (a1.gExps.map eTApiExpr) .no, .lst 1 [] .full, .lst 1 [] .full, .v (.int .i64 (0 : Int))]) 3 htab rfl rfl rfl rfl rfl) rfl rfl rfl rfl rfl rfl ?_
        refine z_nil rfl rfl (fun e he => by simp [isAl] at he) ?_
        obtain ⟨x26, q26, hm⟩ := yes_bind hm
        refine p_callG (r17_with_ok x23 a0.gAt (IntKind.i64.wrap (a0.gNodes + (1 : Int))) (7 : Int) (⟨(0 : Int), ByteArray.empty, ByteArray.empty, a1.gExps, [], [], (0 : Int)⟩ : TApiStmt) x26 q26) rfl rfl rfl rfl rfl (WkL.cons (Wk.refl _) (WkL.cons (Wk.refl _) (WkL.cons (Wk.refl _) (WkL.cons (Wk.refl _) (WkL.cons (Wk.trans (Wk.agg (WkR.cons (WkC.refl _) rfl (WkR.cons (WkC.refl _) rfl (WkR.cons (WkC.refl _) rfl (WkR.cons (WkC.refl _) rfl (WkR.cons (WkC.nil) rfl (WkR.cons (WkC.nil) rfl (WkR.cons (WkC.refl _) rfl (WkR.nil))))))))) (Wk.of_eq (eTApiStmt_eq (⟨(0 : Int), ByteArray.empty, ByteArray.empty, a1.gExps, [], [], (0 : Int)⟩ : TApiStmt)).symm)) (WkL.refl _)))))) (List.Perm.refl _) (List.Perm.refl _) ?_
        rintro _ _ _ ⟨w25, rfl, rfl, rfl⟩
        refine p_store (ds' := [.v (.int .i64 x26.gNodes), .v (.int .i64 x26.gAt), .lst 6 (x26.gEdges.map eTApiEdge) (.cur w25), .lst 1 (x26.gPlaces.map eI64) .no]) (h' := [(b1, Blk.cells [.v (.int .i64 x26.gNodes), .v (.int .i64 x26.gAt), .lst 6 (x26.gEdges.map eTApiEdge) (.cur w25), .lst 1 (x26.gPlaces.map eI64) .no] 43), (b2, Blk.cells [.v (.int .i64 a1.gOp), .v (.string a1.gName), .v (.string a1.gFunc), .lst 5 (a1.gExps.map eTApiExpr) .no, .lst 7 (a1.gKids.map eTApiStmt) .no, .lst 7 (a1.gElse.map eTApiStmt) .no, .v (.int .i64 a1.gAt)] 49), (b3, Blk.cells [.v (.int .i64 (0 : Int)), .v (.int .i64 (0 : Int)), .lst 1 [] .full, .lst 1 [] .full] 43), (b6, Blk.cells [.v (.int .i64 (0 : Int)), .v (.string ByteArray.empty), .v (.string ByteArray.empty), .lst 5 (a1.gExps.map eTApiExpr) .no, .lst 1 [] .full, .lst 1 [] .full, .v (.int .i64 (0 : Int))] 49)]) 0 htab rfl rfl rfl rfl rfl rfl rfl rfl rfl rfl rfl rfl ?_
        refine ops_nil ?_
        refine then_normal ?_
        refine wpD_seq ?_
        refine wpD_region ?_
        refine p_pure htab rfl rfl rfl rfl ?_
        refine p_pure htab rfl rfl rfl rfl ?_
        refine p_store (ds' := [.v (.int .i64 x26.gNodes), .v (.int .i64 a0.gNodes), .lst 6 (x26.gEdges.map eTApiEdge) (.cur w25), .lst 1 (x26.gPlaces.map eI64) .no]) (h' := [(b1, Blk.cells [.v (.int .i64 x26.gNodes), .v (.int .i64 a0.gNodes), .lst 6 (x26.gEdges.map eTApiEdge) (.cur w25), .lst 1 (x26.gPlaces.map eI64) .no] 43), (b2, Blk.cells [.v (.int .i64 a1.gOp), .v (.string a1.gName), .v (.string a1.gFunc), .lst 5 (a1.gExps.map eTApiExpr) .no, .lst 7 (a1.gKids.map eTApiStmt) .no, .lst 7 (a1.gElse.map eTApiStmt) .no, .v (.int .i64 a1.gAt)] 49), (b3, Blk.cells [.v (.int .i64 (0 : Int)), .v (.int .i64 (0 : Int)), .lst 1 [] .full, .lst 1 [] .full] 43), (b6, Blk.cells [.v (.int .i64 (0 : Int)), .v (.string ByteArray.empty), .v (.string ByteArray.empty), .lst 5 (a1.gExps.map eTApiExpr) .no, .lst 1 [] .full, .lst 1 [] .full, .v (.int .i64 (0 : Int))] 49)]) 0 htab rfl rfl rfl rfl rfl rfl rfl rfl rfl rfl rfl rfl ?_
        refine ops_nil ?_
        refine then_normal ?_
        refine wpD_seq ?_
        refine wpD_region ?_
        refine p_load (d := .agg [.v (.int .i64 x26.gNodes), .v (.int .i64 a0.gNodes), .lst 6 (x26.gEdges.map eTApiEdge) (.cur w25), .lst 1 (x26.gPlaces.map eI64) .no]) 0 htab rfl rfl rfl rfl rfl rfl rfl rfl ?_
        refine p_pure htab rfl rfl rfl rfl ?_
        refine p_load 1 htab rfl rfl rfl rfl rfl rfl rfl rfl ?_
        obtain ⟨x27, q27, hm⟩ := yes_bind hm
        refine p_call0 (hg0 (⟨x26.gNodes, a0.gNodes, x26.gEdges, x26.gPlaces⟩ : TSondageref17Made) a1.gKids x27 q27) rfl rfl rfl rfl rfl (WkL.cons (Wk.agg (WkR.cons (WkC.refl _) rfl (WkR.cons (WkC.refl _) rfl (WkR.cons (WkC.no) rfl (WkR.cons (WkC.refl _) rfl (WkR.nil)))))) (WkL.cons (Wk.refl _) (WkL.refl _))) ?_
        rintro _ rfl
        refine p_store (ds' := [.v (.int .i64 x27.gNodes), .v (.int .i64 x27.gAt), .lst 6 (x27.gEdges.map eTApiEdge) .no, .lst 1 (x27.gPlaces.map eI64) .no]) (h' := [(b1, Blk.cells [.v (.int .i64 x27.gNodes), .v (.int .i64 x27.gAt), .lst 6 (x27.gEdges.map eTApiEdge) .no, .lst 1 (x27.gPlaces.map eI64) .no] 43), (b2, Blk.cells [.v (.int .i64 a1.gOp), .v (.string a1.gName), .v (.string a1.gFunc), .lst 5 (a1.gExps.map eTApiExpr) .no, .lst 7 (a1.gKids.map eTApiStmt) .no, .lst 7 (a1.gElse.map eTApiStmt) .no, .v (.int .i64 a1.gAt)] 49), (b3, Blk.cells [.v (.int .i64 (0 : Int)), .v (.int .i64 (0 : Int)), .lst 1 [] .full, .lst 1 [] .full] 43), (b6, Blk.cells [.v (.int .i64 (0 : Int)), .v (.string ByteArray.empty), .v (.string ByteArray.empty), .lst 5 (a1.gExps.map eTApiExpr) .no, .lst 1 [] .full, .lst 1 [] .full, .v (.int .i64 (0 : Int))] 49)]) 0 htab rfl rfl rfl rfl rfl rfl rfl rfl rfl rfl rfl rfl ?_
        refine ops_nil ?_
        refine then_normal ?_
        refine wpD_seq ?_
        refine wpD_region ?_
        refine p_pure htab rfl rfl rfl rfl ?_
        refine p_load 0 htab rfl rfl rfl rfl rfl rfl rfl rfl ?_
        refine p_pure htab rfl rfl rfl rfl ?_
        refine ops_nil ?_
        refine then_normal ?_
        refine wpD_seq ?_
        refine wpD_region ?_
        refine p_pure htab rfl rfl rfl rfl ?_
        refine p_pure htab rfl rfl rfl rfl ?_
        refine p_pure htab rfl rfl rfl rfl ?_
        refine p_store (ds' := [.v (.int .i64 (IntKind.i64.wrap (x27.gNodes + (1 : Int)))), .v (.int .i64 x27.gAt), .lst 6 (x27.gEdges.map eTApiEdge) .no, .lst 1 (x27.gPlaces.map eI64) .no]) (h' := [(b1, Blk.cells [.v (.int .i64 (IntKind.i64.wrap (x27.gNodes + (1 : Int)))), .v (.int .i64 x27.gAt), .lst 6 (x27.gEdges.map eTApiEdge) .no, .lst 1 (x27.gPlaces.map eI64) .no] 43), (b2, Blk.cells [.v (.int .i64 a1.gOp), .v (.string a1.gName), .v (.string a1.gFunc), .lst 5 (a1.gExps.map eTApiExpr) .no, .lst 7 (a1.gKids.map eTApiStmt) .no, .lst 7 (a1.gElse.map eTApiStmt) .no, .v (.int .i64 a1.gAt)] 49), (b3, Blk.cells [.v (.int .i64 (0 : Int)), .v (.int .i64 (0 : Int)), .lst 1 [] .full, .lst 1 [] .full] 43), (b6, Blk.cells [.v (.int .i64 (0 : Int)), .v (.string ByteArray.empty), .v (.string ByteArray.empty), .lst 5 (a1.gExps.map eTApiExpr) .no, .lst 1 [] .full, .lst 1 [] .full, .v (.int .i64 (0 : Int))] 49)]) 0 htab rfl rfl rfl rfl rfl rfl rfl rfl rfl rfl rfl rfl ?_
        refine ops_nil ?_
        refine then_normal ?_
        refine wpD_seq ?_
        refine wpD_region ?_
        refine p_load (d := eTSondageref17Made (⟨(IntKind.i64.wrap (x27.gNodes + (1 : Int))), x27.gAt, x27.gEdges, x27.gPlaces⟩ : TSondageref17Made)) 0 htab rfl rfl rfl rfl rfl rfl rfl rfl ?_
        refine p_pure htab rfl rfl rfl rfl ?_
        refine p_load 0 htab rfl rfl rfl rfl rfl rfl rfl rfl ?_
        refine p_pure htab rfl rfl rfl rfl ?_
        refine p_build (r := [.v (.int .i64 (0 : Int)), .v (.string ByteArray.empty), .v (.string ByteArray.empty), .lst 1 [] .full, .lst 1 [] .full, .lst 1 [] .full, .v (.int .i64 (0 : Int))]) htab rfl rfl rfl rfl rfl rfl rfl rfl rfl ?_
        obtain ⟨x29, q29, hm⟩ := yes_bind hm
        refine p_callG (r17_with_ok (⟨(IntKind.i64.wrap (x27.gNodes + (1 : Int))), x27.gAt, x27.gEdges, x27.gPlaces⟩ : TSondageref17Made) x27.gAt x27.gNodes (0 : Int) (⟨(0 : Int), ByteArray.empty, ByteArray.empty, [], [], [], (0 : Int)⟩ : TApiStmt) x29 q29) rfl rfl rfl rfl rfl (WkL.cons (Wk.refl _) (WkL.cons (Wk.refl _) (WkL.cons (Wk.refl _) (WkL.cons (Wk.refl _) (WkL.cons (Wk.trans (Wk.agg (WkR.cons (WkC.refl _) rfl (WkR.cons (WkC.refl _) rfl (WkR.cons (WkC.refl _) rfl (WkR.cons (WkC.nil) rfl (WkR.cons (WkC.nil) rfl (WkR.cons (WkC.nil) rfl (WkR.cons (WkC.refl _) rfl (WkR.nil))))))))) (Wk.of_eq (eTApiStmt_eq (⟨(0 : Int), ByteArray.empty, ByteArray.empty, [], [], [], (0 : Int)⟩ : TApiStmt)).symm)) (WkL.refl _)))))) (List.Perm.refl _) (List.Perm.refl _) ?_
        rintro _ _ _ ⟨w28, rfl, rfl, rfl⟩
        refine p_store (ds' := [.v (.int .i64 x29.gNodes), .v (.int .i64 x29.gAt), .lst 6 (x29.gEdges.map eTApiEdge) (.cur w28), .lst 1 (x29.gPlaces.map eI64) .no]) (h' := [(b1, Blk.cells [.v (.int .i64 x29.gNodes), .v (.int .i64 x29.gAt), .lst 6 (x29.gEdges.map eTApiEdge) (.cur w28), .lst 1 (x29.gPlaces.map eI64) .no] 43), (b2, Blk.cells [.v (.int .i64 a1.gOp), .v (.string a1.gName), .v (.string a1.gFunc), .lst 5 (a1.gExps.map eTApiExpr) .no, .lst 7 (a1.gKids.map eTApiStmt) .no, .lst 7 (a1.gElse.map eTApiStmt) .no, .v (.int .i64 a1.gAt)] 49), (b3, Blk.cells [.v (.int .i64 (0 : Int)), .v (.int .i64 (0 : Int)), .lst 1 [] .full, .lst 1 [] .full] 43), (b6, Blk.cells [.v (.int .i64 (0 : Int)), .v (.string ByteArray.empty), .v (.string ByteArray.empty), .lst 5 (a1.gExps.map eTApiExpr) .no, .lst 1 [] .full, .lst 1 [] .full, .v (.int .i64 (0 : Int))] 49)]) 0 htab rfl rfl rfl rfl rfl rfl rfl rfl rfl rfl rfl rfl ?_
        refine ops_nil ?_
        refine then_normal ?_
        refine wpD_seq ?_
        refine wpD_region ?_
        refine p_pure htab rfl rfl rfl rfl ?_
        refine p_pure htab rfl rfl rfl rfl ?_
        refine p_pure htab rfl rfl rfl rfl ?_
        refine p_store (ds' := [.v (.int .i64 x29.gNodes), .v (.int .i64 (IntKind.i64.wrap (a0.gNodes + (1 : Int)))), .lst 6 (x29.gEdges.map eTApiEdge) (.cur w28), .lst 1 (x29.gPlaces.map eI64) .no]) (h' := [(b1, Blk.cells [.v (.int .i64 x29.gNodes), .v (.int .i64 (IntKind.i64.wrap (a0.gNodes + (1 : Int)))), .lst 6 (x29.gEdges.map eTApiEdge) (.cur w28), .lst 1 (x29.gPlaces.map eI64) .no] 43), (b2, Blk.cells [.v (.int .i64 a1.gOp), .v (.string a1.gName), .v (.string a1.gFunc), .lst 5 (a1.gExps.map eTApiExpr) .no, .lst 7 (a1.gKids.map eTApiStmt) .no, .lst 7 (a1.gElse.map eTApiStmt) .no, .v (.int .i64 a1.gAt)] 49), (b3, Blk.cells [.v (.int .i64 (0 : Int)), .v (.int .i64 (0 : Int)), .lst 1 [] .full, .lst 1 [] .full] 43), (b6, Blk.cells [.v (.int .i64 (0 : Int)), .v (.string ByteArray.empty), .v (.string ByteArray.empty), .lst 5 (a1.gExps.map eTApiExpr) .no, .lst 1 [] .full, .lst 1 [] .full, .v (.int .i64 (0 : Int))] 49)]) 0 htab rfl rfl rfl rfl rfl rfl rfl rfl rfl rfl rfl rfl ?_
        refine ops_nil ?_
        refine then_normal ?_
        refine wpD_seq ?_
        refine wpD_region ?_
        refine p_load (d := .agg [.v (.int .i64 x29.gNodes), .v (.int .i64 (IntKind.i64.wrap (a0.gNodes + (1 : Int)))), .lst 6 (x29.gEdges.map eTApiEdge) (.cur w28), .lst 1 (x29.gPlaces.map eI64) .no]) 0 htab rfl rfl rfl rfl rfl rfl rfl rfl ?_
        refine p_pure htab rfl rfl rfl rfl ?_
        refine p_load 1 htab rfl rfl rfl rfl rfl rfl rfl rfl ?_
        obtain ⟨x30, q30, hm⟩ := yes_bind hm
        refine p_call0 (hg0 (⟨x29.gNodes, (IntKind.i64.wrap (a0.gNodes + (1 : Int))), x29.gEdges, x29.gPlaces⟩ : TSondageref17Made) a1.gElse x30 q30) rfl rfl rfl rfl rfl (WkL.cons (Wk.agg (WkR.cons (WkC.refl _) rfl (WkR.cons (WkC.refl _) rfl (WkR.cons (WkC.no) rfl (WkR.cons (WkC.refl _) rfl (WkR.nil)))))) (WkL.cons (Wk.refl _) (WkL.refl _))) ?_
        rintro _ rfl
        refine p_store (ds' := [.v (.int .i64 x30.gNodes), .v (.int .i64 x30.gAt), .lst 6 (x30.gEdges.map eTApiEdge) .no, .lst 1 (x30.gPlaces.map eI64) .no]) (h' := [(b1, Blk.cells [.v (.int .i64 x30.gNodes), .v (.int .i64 x30.gAt), .lst 6 (x30.gEdges.map eTApiEdge) .no, .lst 1 (x30.gPlaces.map eI64) .no] 43), (b2, Blk.cells [.v (.int .i64 a1.gOp), .v (.string a1.gName), .v (.string a1.gFunc), .lst 5 (a1.gExps.map eTApiExpr) .no, .lst 7 (a1.gKids.map eTApiStmt) .no, .lst 7 (a1.gElse.map eTApiStmt) .no, .v (.int .i64 a1.gAt)] 49), (b3, Blk.cells [.v (.int .i64 (0 : Int)), .v (.int .i64 (0 : Int)), .lst 1 [] .full, .lst 1 [] .full] 43), (b6, Blk.cells [.v (.int .i64 (0 : Int)), .v (.string ByteArray.empty), .v (.string ByteArray.empty), .lst 5 (a1.gExps.map eTApiExpr) .no, .lst 1 [] .full, .lst 1 [] .full, .v (.int .i64 (0 : Int))] 49)]) 0 htab rfl rfl rfl rfl rfl rfl rfl rfl rfl rfl rfl rfl ?_
        refine ops_nil ?_
        refine then_normal ?_
        refine wpD_seq ?_
        refine wpD_region ?_
        refine p_load (d := eTSondageref17Made x30) 0 htab rfl rfl rfl rfl rfl rfl rfl rfl ?_
        refine p_pure htab rfl rfl rfl rfl ?_
        refine p_load 0 htab rfl rfl rfl rfl rfl rfl rfl rfl ?_
        refine p_pure htab rfl rfl rfl rfl ?_
        refine p_build (r := [.v (.int .i64 (0 : Int)), .v (.string ByteArray.empty), .v (.string ByteArray.empty), .lst 1 [] .full, .lst 1 [] .full, .lst 1 [] .full, .v (.int .i64 (0 : Int))]) htab rfl rfl rfl rfl rfl rfl rfl rfl rfl ?_
        obtain ⟨x32, q32, hm⟩ := yes_bind hm
        refine p_callG (r17_with_ok x30 x30.gAt x27.gNodes (0 : Int) (⟨(0 : Int), ByteArray.empty, ByteArray.empty, [], [], [], (0 : Int)⟩ : TApiStmt) x32 q32) rfl rfl rfl rfl rfl (WkL.cons (Wk.refl _) (WkL.cons (Wk.refl _) (WkL.cons (Wk.refl _) (WkL.cons (Wk.refl _) (WkL.cons (Wk.trans (Wk.agg (WkR.cons (WkC.refl _) rfl (WkR.cons (WkC.refl _) rfl (WkR.cons (WkC.refl _) rfl (WkR.cons (WkC.nil) rfl (WkR.cons (WkC.nil) rfl (WkR.cons (WkC.nil) rfl (WkR.cons (WkC.refl _) rfl (WkR.nil))))))))) (Wk.of_eq (eTApiStmt_eq (⟨(0 : Int), ByteArray.empty, ByteArray.empty, [], [], [], (0 : Int)⟩ : TApiStmt)).symm)) (WkL.refl _)))))) (List.Perm.refl _) (List.Perm.refl _) ?_
        rintro _ _ _ ⟨w31, rfl, rfl, rfl⟩
        refine p_store (ds' := [.v (.int .i64 x32.gNodes), .v (.int .i64 x32.gAt), .lst 6 (x32.gEdges.map eTApiEdge) (.cur w31), .lst 1 (x32.gPlaces.map eI64) .no]) (h' := [(b1, Blk.cells [.v (.int .i64 x32.gNodes), .v (.int .i64 x32.gAt), .lst 6 (x32.gEdges.map eTApiEdge) (.cur w31), .lst 1 (x32.gPlaces.map eI64) .no] 43), (b2, Blk.cells [.v (.int .i64 a1.gOp), .v (.string a1.gName), .v (.string a1.gFunc), .lst 5 (a1.gExps.map eTApiExpr) .no, .lst 7 (a1.gKids.map eTApiStmt) .no, .lst 7 (a1.gElse.map eTApiStmt) .no, .v (.int .i64 a1.gAt)] 49), (b3, Blk.cells [.v (.int .i64 (0 : Int)), .v (.int .i64 (0 : Int)), .lst 1 [] .full, .lst 1 [] .full] 43), (b6, Blk.cells [.v (.int .i64 (0 : Int)), .v (.string ByteArray.empty), .v (.string ByteArray.empty), .lst 5 (a1.gExps.map eTApiExpr) .no, .lst 1 [] .full, .lst 1 [] .full, .v (.int .i64 (0 : Int))] 49)]) 0 htab rfl rfl rfl rfl rfl rfl rfl rfl rfl rfl rfl rfl ?_
        refine ops_nil ?_
        refine then_normal ?_
        refine wpD_region ?_
        refine p_pure htab rfl rfl rfl rfl ?_
        refine p_pure htab rfl rfl rfl rfl ?_
        refine p_store (ds' := [.v (.int .i64 x32.gNodes), .v (.int .i64 x27.gNodes), .lst 6 (x32.gEdges.map eTApiEdge) (.cur w31), .lst 1 (x32.gPlaces.map eI64) .no]) (h' := [(b1, Blk.cells [.v (.int .i64 x32.gNodes), .v (.int .i64 x27.gNodes), .lst 6 (x32.gEdges.map eTApiEdge) (.cur w31), .lst 1 (x32.gPlaces.map eI64) .no] 43), (b2, Blk.cells [.v (.int .i64 a1.gOp), .v (.string a1.gName), .v (.string a1.gFunc), .lst 5 (a1.gExps.map eTApiExpr) .no, .lst 7 (a1.gKids.map eTApiStmt) .no, .lst 7 (a1.gElse.map eTApiStmt) .no, .v (.int .i64 a1.gAt)] 49), (b3, Blk.cells [.v (.int .i64 (0 : Int)), .v (.int .i64 (0 : Int)), .lst 1 [] .full, .lst 1 [] .full] 43), (b6, Blk.cells [.v (.int .i64 (0 : Int)), .v (.string ByteArray.empty), .v (.string ByteArray.empty), .lst 5 (a1.gExps.map eTApiExpr) .no, .lst 1 [] .full, .lst 1 [] .full, .v (.int .i64 (0 : Int))] 49)]) 0 htab rfl rfl rfl rfl rfl rfl rfl rfl rfl rfl rfl rfl ?_
        refine ops_nil ?_
        refine block_normal ?_
        refine then_normal ?_
        refine wpD_seq ?_
        refine wpD_region ?_
        refine p_load (d := .agg [.v (.int .i64 x32.gNodes), .v (.int .i64 x27.gNodes), .lst 6 (x32.gEdges.map eTApiEdge) (.cur w31), .lst 1 (x32.gPlaces.map eI64) .no]) 0 htab rfl rfl rfl rfl rfl rfl rfl rfl ?_
        refine p_store (ds' := [.v (.int .i64 x32.gNodes), .v (.int .i64 x27.gNodes), .lst 6 (x32.gEdges.map eTApiEdge) (.cur w31), .lst 1 (x32.gPlaces.map eI64) .no]) (h' := [(b1, Blk.cells [.v (.int .i64 x32.gNodes), .v (.int .i64 x27.gNodes), .lst 6 (x32.gEdges.map eTApiEdge) (.cur w31), .lst 1 (x32.gPlaces.map eI64) .no] 43), (b2, Blk.cells [.v (.int .i64 a1.gOp), .v (.string a1.gName), .v (.string a1.gFunc), .lst 5 (a1.gExps.map eTApiExpr) .no, .lst 7 (a1.gKids.map eTApiStmt) .no, .lst 7 (a1.gElse.map eTApiStmt) .no, .v (.int .i64 a1.gAt)] 49), (b3, Blk.cells [.v (.int .i64 x32.gNodes), .v (.int .i64 x27.gNodes), .lst 6 (x32.gEdges.map eTApiEdge) (.cur w31), .lst 1 (x32.gPlaces.map eI64) .no] 43), (b6, Blk.cells [.v (.int .i64 (0 : Int)), .v (.string ByteArray.empty), .v (.string ByteArray.empty), .lst 5 (a1.gExps.map eTApiExpr) .no, .lst 1 [] .full, .lst 1 [] .full, .v (.int .i64 (0 : Int))] 49)]) 2 htab rfl rfl rfl rfl rfl rfl rfl rfl rfl rfl rfl rfl ?_
        refine ops_nil ?_
        refine then_normal ?_
        refine wpD_ret ?_
        have er33 := yes_eq hm; subst er33
        refine retX.wk (WkS.blk (ds' := [.v (.int .i64 x32.gNodes), .v (.int .i64 x27.gNodes), .lst 6 (x32.gEdges.map eTApiEdge) .no, .lst 1 (x32.gPlaces.map eI64) .no]) (h' := [(b1, Blk.cells [.v (.int .i64 x32.gNodes), .v (.int .i64 x27.gNodes), .lst 6 (x32.gEdges.map eTApiEdge) (.cur w31), .lst 1 (x32.gPlaces.map eI64) .no] 43), (b2, Blk.cells [.v (.int .i64 a1.gOp), .v (.string a1.gName), .v (.string a1.gFunc), .lst 5 (a1.gExps.map eTApiExpr) .no, .lst 7 (a1.gKids.map eTApiStmt) .no, .lst 7 (a1.gElse.map eTApiStmt) .no, .v (.int .i64 a1.gAt)] 49), (b3, Blk.cells [.v (.int .i64 x32.gNodes), .v (.int .i64 x27.gNodes), .lst 6 (x32.gEdges.map eTApiEdge) .no, .lst 1 (x32.gPlaces.map eI64) .no] 43), (b6, Blk.cells [.v (.int .i64 (0 : Int)), .v (.string ByteArray.empty), .v (.string ByteArray.empty), .lst 5 (a1.gExps.map eTApiExpr) .no, .lst 1 [] .full, .lst 1 [] .full, .v (.int .i64 (0 : Int))] 49)]) 2 rfl (WkR.cons (WkC.refl _) rfl (WkR.cons (WkC.refl _) rfl (WkR.cons (WkC.no) rfl (WkR.cons (WkC.refl _) rfl (WkR.nil))))) rfl) ?_
        refine retX.of (s' := ⟨[(4, .ptr b3 0)], [(b3, Blk.cells [.v (.int .i64 x32.gNodes), .v (.int .i64 x27.gNodes), .lst 6 (x32.gEdges.map eTApiEdge) .no, .lst 1 (x32.gPlaces.map eI64) .no] 43)], []⟩) (WkS.perm (WkS.cons rfl (Wk.refl _) (WkS.nil)) ((perm_at (j := 2) rfl).trans (List.Perm.cons _ (List.Perm.refl _))) (List.Perm.refl _)) (retD_mk (hh := []) (.inl rfl) (resL_cons (resOne_cell 0 rfl rfl rfl rfl) (resL_nil)) (List.nil_sublist _) (List.Sublist.refl _) ?_)
        exact ⟨rfl, rfl, rfl⟩
      · replace hm := yes_f hc21 hm
        refine wpD_seq ?_
        refine wpD_region ?_
        refine p_pure htab rfl rfl rfl rfl ?_
        refine p_pure htab rfl rfl rfl rfl ?_
        refine ops_nil ?_
        refine then_normal ?_
        refine wpD_cond rfl (fun hc34 => ?_) (fun hc34 => ?_)
        · replace hm := yes_t hc34 hm
          refine wpD_seq ?_
          refine wpD_region ?_
          refine p_pure htab rfl rfl rfl rfl ?_
          refine p_pure htab rfl rfl rfl rfl ?_
          refine p_pure htab rfl rfl rfl rfl ?_
          refine p_store (ds' := [.v (.int .i64 (IntKind.i64.wrap (a0.gNodes + (3 : Int)))), .v (.int .i64 a0.gAt), .lst 6 (a0.gEdges.map eTApiEdge) .no, .lst 1 (x5.map eI64) (.cur v5)]) (h' := [(b1, Blk.cells [.v (.int .i64 (IntKind.i64.wrap (a0.gNodes + (3 : Int)))), .v (.int .i64 a0.gAt), .lst 6 (a0.gEdges.map eTApiEdge) .no, .lst 1 (x5.map eI64) (.cur v5)] 43), (b2, Blk.cells [.v (.int .i64 a1.gOp), .v (.string a1.gName), .v (.string a1.gFunc), .lst 5 (a1.gExps.map eTApiExpr) .no, .lst 7 (a1.gKids.map eTApiStmt) .no, .lst 7 (a1.gElse.map eTApiStmt) .no, .v (.int .i64 a1.gAt)] 49), (b3, Blk.cells [.v (.int .i64 (0 : Int)), .v (.int .i64 (0 : Int)), .lst 1 [] .full, .lst 1 [] .full] 43), (b6, Blk.cells [.v (.int .i64 (0 : Int)), .v (.string ByteArray.empty), .v (.string ByteArray.empty), .lst 5 (a1.gExps.map eTApiExpr) .no, .lst 1 [] .full, .lst 1 [] .full, .v (.int .i64 (0 : Int))] 49)]) 0 htab rfl rfl rfl rfl rfl rfl rfl rfl rfl rfl rfl rfl ?_
          refine ops_nil ?_
          refine then_normal ?_
          refine wpD_seq ?_
          refine wpD_region ?_
          refine p_load (d := .agg [.v (.int .i64 (IntKind.i64.wrap (a0.gNodes + (3 : Int)))), .v (.int .i64 a0.gAt), .lst 6 (a0.gEdges.map eTApiEdge) .no, .lst 1 (x5.map eI64) (.cur v5)]) 0 htab rfl rfl rfl rfl rfl rfl rfl rfl ?_
          refine p_pure htab rfl rfl rfl rfl ?_
          refine p_pure htab rfl rfl rfl rfl ?_
          refine p_build (r := [.v (.int .i64 (0 : Int)), .v (.string ByteArray.empty), .v (.string ByteArray.empty), .lst 1 [] .full, .lst 1 [] .full, .lst 1 [] .full, .v (.int .i64 (0 : Int))]) htab rfl rfl rfl rfl rfl rfl rfl rfl rfl ?_
          obtain ⟨x36, q36, hm⟩ := yes_bind hm
          refine p_callG (r17_with_ok (⟨(IntKind.i64.wrap (a0.gNodes + (3 : Int))), a0.gAt, a0.gEdges, x5⟩ : TSondageref17Made) a0.gAt a0.gNodes (0 : Int) (⟨(0 : Int), ByteArray.empty, ByteArray.empty, [], [], [], (0 : Int)⟩ : TApiStmt) x36 q36) rfl rfl rfl rfl rfl (WkL.cons (Wk.agg (WkR.cons (WkC.refl _) rfl (WkR.cons (WkC.refl _) rfl (WkR.cons (WkC.refl _) rfl (WkR.cons (WkC.no) rfl (WkR.nil)))))) (WkL.cons (Wk.refl _) (WkL.cons (Wk.refl _) (WkL.cons (Wk.refl _) (WkL.cons (Wk.trans (Wk.agg (WkR.cons (WkC.refl _) rfl (WkR.cons (WkC.refl _) rfl (WkR.cons (WkC.refl _) rfl (WkR.cons (WkC.nil) rfl (WkR.cons (WkC.nil) rfl (WkR.cons (WkC.nil) rfl (WkR.cons (WkC.refl _) rfl (WkR.nil))))))))) (Wk.of_eq (eTApiStmt_eq (⟨(0 : Int), ByteArray.empty, ByteArray.empty, [], [], [], (0 : Int)⟩ : TApiStmt)).symm)) (WkL.refl _)))))) (List.Perm.refl _) (List.Perm.refl _) ?_
          rintro _ _ _ ⟨w35, rfl, rfl, rfl⟩
          refine p_store (ds' := [.v (.int .i64 x36.gNodes), .v (.int .i64 x36.gAt), .lst 6 (x36.gEdges.map eTApiEdge) (.cur w35), .lst 1 (x36.gPlaces.map eI64) .no]) (h' := [(b1, Blk.cells [.v (.int .i64 x36.gNodes), .v (.int .i64 x36.gAt), .lst 6 (x36.gEdges.map eTApiEdge) (.cur w35), .lst 1 (x36.gPlaces.map eI64) .no] 43), (b2, Blk.cells [.v (.int .i64 a1.gOp), .v (.string a1.gName), .v (.string a1.gFunc), .lst 5 (a1.gExps.map eTApiExpr) .no, .lst 7 (a1.gKids.map eTApiStmt) .no, .lst 7 (a1.gElse.map eTApiStmt) .no, .v (.int .i64 a1.gAt)] 49), (b3, Blk.cells [.v (.int .i64 (0 : Int)), .v (.int .i64 (0 : Int)), .lst 1 [] .full, .lst 1 [] .full] 43), (b6, Blk.cells [.v (.int .i64 (0 : Int)), .v (.string ByteArray.empty), .v (.string ByteArray.empty), .lst 5 (a1.gExps.map eTApiExpr) .no, .lst 1 [] .full, .lst 1 [] .full, .v (.int .i64 (0 : Int))] 49)]) 0 htab rfl rfl rfl rfl rfl rfl rfl rfl rfl rfl rfl rfl ?_
          refine ops_nil ?_
          refine then_normal ?_
          refine wpD_seq ?_
          obtain ⟨x38, q38, hm⟩ := yes_bind hm
          refine wpD_draws 10 [] [[],[],[],[],[],[0,4],[],[],[],[]] [0,4,5,9] [[],[],[],[2],[],[0,1,2,3,4],[],[],[7],[],[0,1,2,3,4,5,6,7,8,9],[0,1,2,3,4,5,6,7,8,9,10]] (by kernel_rfl) (by kernel_rfl) (by kernel_rfl) (by rfl) (by rfl) (by kernel_rfl) ?_
          apply Exists.intro
          apply Exists.intro
          apply Exists.intro
          apply Exists.intro
          intro bs
          refine z_eM rfl rfl (xm_load (d := .agg [.v (.int .i64 x36.gNodes), .v (.int .i64 x36.gAt), .lst 6 (x36.gEdges.map eTApiEdge) (.cur w35), .lst 1 (x36.gPlaces.map eI64) .no]) 0 htab rfl rfl rfl rfl rfl) rfl rfl rfl rfl rfl rfl ?_
          refine z_q rfl rfl (ex_pure htab rfl) rfl rfl rfl rfl rfl rfl ?_
          refine z_q rfl rfl (ex_pure htab rfl) rfl rfl rfl rfl rfl rfl ?_
          refine z_q rfl rfl (ex_pure htab rfl) rfl rfl rfl rfl rfl rfl ?_
          refine z_eM rfl rfl (xm_load (d := .agg [.v (.int .i64 (0 : Int)), .v (.string ByteArray.empty), .v (.string ByteArray.empty), .lst 5 (a1.gExps.map eTApiExpr) .no, .lst 1 [] .full, .lst 1 [] .full, .v (.int .i64 (0 : Int))]) 3 htab rfl rfl rfl rfl rfl) rfl rfl rfl rfl rfl rfl ?_
          refine z_call rfl rfl (r17_with_ok0 x36 a0.gNodes (IntKind.i64.wrap (a0.gNodes + (1 : Int))) (6 : Int) (⟨(0 : Int), ByteArray.empty, ByteArray.empty, a1.gExps, [], [], (0 : Int)⟩ : TApiStmt) x38 q38) rfl rfl (WkL.cons (Wk.agg (WkR.cons (WkC.refl _) rfl (WkR.cons (WkC.refl _) rfl (WkR.cons (WkC.no) rfl (WkR.cons (WkC.refl _) rfl (WkR.nil)))))) (WkL.cons (Wk.refl _) (WkL.cons (Wk.refl _) (WkL.cons (Wk.refl _) (WkL.cons (Wk.trans (Wk.agg (WkR.cons (WkC.refl _) rfl (WkR.cons (WkC.refl _) rfl (WkR.cons (WkC.refl _) rfl (WkR.cons (WkC.refl _) rfl (WkR.cons (WkC.nil) rfl (WkR.cons (WkC.nil) rfl (WkR.cons (WkC.refl _) rfl (WkR.nil))))))))) (Wk.of_eq (eTApiStmt_eq (⟨(0 : Int), ByteArray.empty, ByteArray.empty, a1.gExps, [], [], (0 : Int)⟩ : TApiStmt)).symm)) (WkL.refl _)))))) rfl rfl rfl rfl rfl rfl ?_
          refine z_q rfl rfl (ex_pure htab rfl) rfl rfl rfl rfl rfl rfl ?_
          refine z_q rfl rfl (ex_pure htab rfl) rfl rfl rfl rfl rfl rfl ?_
          refine z_q rfl rfl (ex_pure htab rfl) rfl rfl rfl rfl rfl rfl ?_
          refine z_eM rfl rfl (xm_load (d := .agg [.v (.int .i64 (0 : Int)), .v (.string ByteArray.empty), .v (.string ByteArray.empty), .lst 5 (a1.gExps.map eTApiExpr) .no, .lst 1 [] .full, .lst 1 [] .full, .v (.int .i64 (0 : Int))]) 3 htab rfl rfl rfl rfl rfl) rfl rfl rfl rfl rfl rfl ?_
          refine z_nil rfl rfl (fun e he => by simp [isAl] at he) ?_
          obtain ⟨x41, q41, hm⟩ := yes_bind hm
          refine p_callG (r17_with_ok x38 a0.gNodes (IntKind.i64.wrap (a0.gNodes + (2 : Int))) (7 : Int) (⟨(0 : Int), ByteArray.empty, ByteArray.empty, a1.gExps, [], [], (0 : Int)⟩ : TApiStmt) x41 q41) rfl rfl rfl rfl rfl (WkL.cons (Wk.refl _) (WkL.cons (Wk.refl _) (WkL.cons (Wk.refl _) (WkL.cons (Wk.refl _) (WkL.cons (Wk.trans (Wk.agg (WkR.cons (WkC.refl _) rfl (WkR.cons (WkC.refl _) rfl (WkR.cons (WkC.refl _) rfl (WkR.cons (WkC.refl _) rfl (WkR.cons (WkC.nil) rfl (WkR.cons (WkC.nil) rfl (WkR.cons (WkC.refl _) rfl (WkR.nil))))))))) (Wk.of_eq (eTApiStmt_eq (⟨(0 : Int), ByteArray.empty, ByteArray.empty, a1.gExps, [], [], (0 : Int)⟩ : TApiStmt)).symm)) (WkL.refl _)))))) (List.Perm.refl _) (List.Perm.refl _) ?_
          rintro _ _ _ ⟨w40, rfl, rfl, rfl⟩
          refine p_store (ds' := [.v (.int .i64 x41.gNodes), .v (.int .i64 x41.gAt), .lst 6 (x41.gEdges.map eTApiEdge) (.cur w40), .lst 1 (x41.gPlaces.map eI64) .no]) (h' := [(b1, Blk.cells [.v (.int .i64 x41.gNodes), .v (.int .i64 x41.gAt), .lst 6 (x41.gEdges.map eTApiEdge) (.cur w40), .lst 1 (x41.gPlaces.map eI64) .no] 43), (b2, Blk.cells [.v (.int .i64 a1.gOp), .v (.string a1.gName), .v (.string a1.gFunc), .lst 5 (a1.gExps.map eTApiExpr) .no, .lst 7 (a1.gKids.map eTApiStmt) .no, .lst 7 (a1.gElse.map eTApiStmt) .no, .v (.int .i64 a1.gAt)] 49), (b3, Blk.cells [.v (.int .i64 (0 : Int)), .v (.int .i64 (0 : Int)), .lst 1 [] .full, .lst 1 [] .full] 43), (b6, Blk.cells [.v (.int .i64 (0 : Int)), .v (.string ByteArray.empty), .v (.string ByteArray.empty), .lst 5 (a1.gExps.map eTApiExpr) .no, .lst 1 [] .full, .lst 1 [] .full, .v (.int .i64 (0 : Int))] 49)]) 0 htab rfl rfl rfl rfl rfl rfl rfl rfl rfl rfl rfl rfl ?_
          refine ops_nil ?_
          refine then_normal ?_
          refine wpD_seq ?_
          refine wpD_region ?_
          refine p_pure htab rfl rfl rfl rfl ?_
          refine p_pure htab rfl rfl rfl rfl ?_
          refine p_pure htab rfl rfl rfl rfl ?_
          refine p_store (ds' := [.v (.int .i64 x41.gNodes), .v (.int .i64 (IntKind.i64.wrap (a0.gNodes + (1 : Int)))), .lst 6 (x41.gEdges.map eTApiEdge) (.cur w40), .lst 1 (x41.gPlaces.map eI64) .no]) (h' := [(b1, Blk.cells [.v (.int .i64 x41.gNodes), .v (.int .i64 (IntKind.i64.wrap (a0.gNodes + (1 : Int)))), .lst 6 (x41.gEdges.map eTApiEdge) (.cur w40), .lst 1 (x41.gPlaces.map eI64) .no] 43), (b2, Blk.cells [.v (.int .i64 a1.gOp), .v (.string a1.gName), .v (.string a1.gFunc), .lst 5 (a1.gExps.map eTApiExpr) .no, .lst 7 (a1.gKids.map eTApiStmt) .no, .lst 7 (a1.gElse.map eTApiStmt) .no, .v (.int .i64 a1.gAt)] 49), (b3, Blk.cells [.v (.int .i64 (0 : Int)), .v (.int .i64 (0 : Int)), .lst 1 [] .full, .lst 1 [] .full] 43), (b6, Blk.cells [.v (.int .i64 (0 : Int)), .v (.string ByteArray.empty), .v (.string ByteArray.empty), .lst 5 (a1.gExps.map eTApiExpr) .no, .lst 1 [] .full, .lst 1 [] .full, .v (.int .i64 (0 : Int))] 49)]) 0 htab rfl rfl rfl rfl rfl rfl rfl rfl rfl rfl rfl rfl ?_
          refine ops_nil ?_
          refine then_normal ?_
          refine wpD_seq ?_
          refine wpD_region ?_
          refine p_load (d := .agg [.v (.int .i64 x41.gNodes), .v (.int .i64 (IntKind.i64.wrap (a0.gNodes + (1 : Int)))), .lst 6 (x41.gEdges.map eTApiEdge) (.cur w40), .lst 1 (x41.gPlaces.map eI64) .no]) 0 htab rfl rfl rfl rfl rfl rfl rfl rfl ?_
          refine p_pure htab rfl rfl rfl rfl ?_
          refine p_load 1 htab rfl rfl rfl rfl rfl rfl rfl rfl ?_
          obtain ⟨x42, q42, hm⟩ := yes_bind hm
          refine p_call0 (hg0 (⟨x41.gNodes, (IntKind.i64.wrap (a0.gNodes + (1 : Int))), x41.gEdges, x41.gPlaces⟩ : TSondageref17Made) a1.gKids x42 q42) rfl rfl rfl rfl rfl (WkL.cons (Wk.agg (WkR.cons (WkC.refl _) rfl (WkR.cons (WkC.refl _) rfl (WkR.cons (WkC.no) rfl (WkR.cons (WkC.refl _) rfl (WkR.nil)))))) (WkL.cons (Wk.refl _) (WkL.refl _))) ?_
          rintro _ rfl
          refine p_store (ds' := [.v (.int .i64 x42.gNodes), .v (.int .i64 x42.gAt), .lst 6 (x42.gEdges.map eTApiEdge) .no, .lst 1 (x42.gPlaces.map eI64) .no]) (h' := [(b1, Blk.cells [.v (.int .i64 x42.gNodes), .v (.int .i64 x42.gAt), .lst 6 (x42.gEdges.map eTApiEdge) .no, .lst 1 (x42.gPlaces.map eI64) .no] 43), (b2, Blk.cells [.v (.int .i64 a1.gOp), .v (.string a1.gName), .v (.string a1.gFunc), .lst 5 (a1.gExps.map eTApiExpr) .no, .lst 7 (a1.gKids.map eTApiStmt) .no, .lst 7 (a1.gElse.map eTApiStmt) .no, .v (.int .i64 a1.gAt)] 49), (b3, Blk.cells [.v (.int .i64 (0 : Int)), .v (.int .i64 (0 : Int)), .lst 1 [] .full, .lst 1 [] .full] 43), (b6, Blk.cells [.v (.int .i64 (0 : Int)), .v (.string ByteArray.empty), .v (.string ByteArray.empty), .lst 5 (a1.gExps.map eTApiExpr) .no, .lst 1 [] .full, .lst 1 [] .full, .v (.int .i64 (0 : Int))] 49)]) 0 htab rfl rfl rfl rfl rfl rfl rfl rfl rfl rfl rfl rfl ?_
          refine ops_nil ?_
          refine then_normal ?_
          refine wpD_seq ?_
          refine wpD_region ?_
          refine p_load (d := eTSondageref17Made x42) 0 htab rfl rfl rfl rfl rfl rfl rfl rfl ?_
          refine p_pure htab rfl rfl rfl rfl ?_
          refine p_load 0 htab rfl rfl rfl rfl rfl rfl rfl rfl ?_
          refine p_pure htab rfl rfl rfl rfl ?_
          refine p_build (r := [.v (.int .i64 (0 : Int)), .v (.string ByteArray.empty), .v (.string ByteArray.empty), .lst 1 [] .full, .lst 1 [] .full, .lst 1 [] .full, .v (.int .i64 (0 : Int))]) htab rfl rfl rfl rfl rfl rfl rfl rfl rfl ?_
          obtain ⟨x44, q44, hm⟩ := yes_bind hm
          refine p_callG (r17_with_ok x42 x42.gAt a0.gNodes (0 : Int) (⟨(0 : Int), ByteArray.empty, ByteArray.empty, [], [], [], (0 : Int)⟩ : TApiStmt) x44 q44) rfl rfl rfl rfl rfl (WkL.cons (Wk.refl _) (WkL.cons (Wk.refl _) (WkL.cons (Wk.refl _) (WkL.cons (Wk.refl _) (WkL.cons (Wk.trans (Wk.agg (WkR.cons (WkC.refl _) rfl (WkR.cons (WkC.refl _) rfl (WkR.cons (WkC.refl _) rfl (WkR.cons (WkC.nil) rfl (WkR.cons (WkC.nil) rfl (WkR.cons (WkC.nil) rfl (WkR.cons (WkC.refl _) rfl (WkR.nil))))))))) (Wk.of_eq (eTApiStmt_eq (⟨(0 : Int), ByteArray.empty, ByteArray.empty, [], [], [], (0 : Int)⟩ : TApiStmt)).symm)) (WkL.refl _)))))) (List.Perm.refl _) (List.Perm.refl _) ?_
          rintro _ _ _ ⟨w43, rfl, rfl, rfl⟩
          refine p_store (ds' := [.v (.int .i64 x44.gNodes), .v (.int .i64 x44.gAt), .lst 6 (x44.gEdges.map eTApiEdge) (.cur w43), .lst 1 (x44.gPlaces.map eI64) .no]) (h' := [(b1, Blk.cells [.v (.int .i64 x44.gNodes), .v (.int .i64 x44.gAt), .lst 6 (x44.gEdges.map eTApiEdge) (.cur w43), .lst 1 (x44.gPlaces.map eI64) .no] 43), (b2, Blk.cells [.v (.int .i64 a1.gOp), .v (.string a1.gName), .v (.string a1.gFunc), .lst 5 (a1.gExps.map eTApiExpr) .no, .lst 7 (a1.gKids.map eTApiStmt) .no, .lst 7 (a1.gElse.map eTApiStmt) .no, .v (.int .i64 a1.gAt)] 49), (b3, Blk.cells [.v (.int .i64 (0 : Int)), .v (.int .i64 (0 : Int)), .lst 1 [] .full, .lst 1 [] .full] 43), (b6, Blk.cells [.v (.int .i64 (0 : Int)), .v (.string ByteArray.empty), .v (.string ByteArray.empty), .lst 5 (a1.gExps.map eTApiExpr) .no, .lst 1 [] .full, .lst 1 [] .full, .v (.int .i64 (0 : Int))] 49)]) 0 htab rfl rfl rfl rfl rfl rfl rfl rfl rfl rfl rfl rfl ?_
          refine ops_nil ?_
          refine then_normal ?_
          refine wpD_region ?_
          refine p_pure htab rfl rfl rfl rfl ?_
          refine p_pure htab rfl rfl rfl rfl ?_
          refine p_pure htab rfl rfl rfl rfl ?_
          refine p_store (ds' := [.v (.int .i64 x44.gNodes), .v (.int .i64 (IntKind.i64.wrap (a0.gNodes + (2 : Int)))), .lst 6 (x44.gEdges.map eTApiEdge) (.cur w43), .lst 1 (x44.gPlaces.map eI64) .no]) (h' := [(b1, Blk.cells [.v (.int .i64 x44.gNodes), .v (.int .i64 (IntKind.i64.wrap (a0.gNodes + (2 : Int)))), .lst 6 (x44.gEdges.map eTApiEdge) (.cur w43), .lst 1 (x44.gPlaces.map eI64) .no] 43), (b2, Blk.cells [.v (.int .i64 a1.gOp), .v (.string a1.gName), .v (.string a1.gFunc), .lst 5 (a1.gExps.map eTApiExpr) .no, .lst 7 (a1.gKids.map eTApiStmt) .no, .lst 7 (a1.gElse.map eTApiStmt) .no, .v (.int .i64 a1.gAt)] 49), (b3, Blk.cells [.v (.int .i64 (0 : Int)), .v (.int .i64 (0 : Int)), .lst 1 [] .full, .lst 1 [] .full] 43), (b6, Blk.cells [.v (.int .i64 (0 : Int)), .v (.string ByteArray.empty), .v (.string ByteArray.empty), .lst 5 (a1.gExps.map eTApiExpr) .no, .lst 1 [] .full, .lst 1 [] .full, .v (.int .i64 (0 : Int))] 49)]) 0 htab rfl rfl rfl rfl rfl rfl rfl rfl rfl rfl rfl rfl ?_
          refine ops_nil ?_
          refine block_normal ?_
          refine then_normal ?_
          refine wpD_seq ?_
          refine wpD_region ?_
          refine p_load (d := .agg [.v (.int .i64 x44.gNodes), .v (.int .i64 (IntKind.i64.wrap (a0.gNodes + (2 : Int)))), .lst 6 (x44.gEdges.map eTApiEdge) (.cur w43), .lst 1 (x44.gPlaces.map eI64) .no]) 0 htab rfl rfl rfl rfl rfl rfl rfl rfl ?_
          refine p_store (ds' := [.v (.int .i64 x44.gNodes), .v (.int .i64 (IntKind.i64.wrap (a0.gNodes + (2 : Int)))), .lst 6 (x44.gEdges.map eTApiEdge) (.cur w43), .lst 1 (x44.gPlaces.map eI64) .no]) (h' := [(b1, Blk.cells [.v (.int .i64 x44.gNodes), .v (.int .i64 (IntKind.i64.wrap (a0.gNodes + (2 : Int)))), .lst 6 (x44.gEdges.map eTApiEdge) (.cur w43), .lst 1 (x44.gPlaces.map eI64) .no] 43), (b2, Blk.cells [.v (.int .i64 a1.gOp), .v (.string a1.gName), .v (.string a1.gFunc), .lst 5 (a1.gExps.map eTApiExpr) .no, .lst 7 (a1.gKids.map eTApiStmt) .no, .lst 7 (a1.gElse.map eTApiStmt) .no, .v (.int .i64 a1.gAt)] 49), (b3, Blk.cells [.v (.int .i64 x44.gNodes), .v (.int .i64 (IntKind.i64.wrap (a0.gNodes + (2 : Int)))), .lst 6 (x44.gEdges.map eTApiEdge) (.cur w43), .lst 1 (x44.gPlaces.map eI64) .no] 43), (b6, Blk.cells [.v (.int .i64 (0 : Int)), .v (.string ByteArray.empty), .v (.string ByteArray.empty), .lst 5 (a1.gExps.map eTApiExpr) .no, .lst 1 [] .full, .lst 1 [] .full, .v (.int .i64 (0 : Int))] 49)]) 2 htab rfl rfl rfl rfl rfl rfl rfl rfl rfl rfl rfl rfl ?_
          refine ops_nil ?_
          refine then_normal ?_
          refine wpD_ret ?_
          have er45 := yes_eq hm; subst er45
          refine retX.wk (WkS.blk (ds' := [.v (.int .i64 x44.gNodes), .v (.int .i64 (IntKind.i64.wrap (a0.gNodes + (2 : Int)))), .lst 6 (x44.gEdges.map eTApiEdge) .no, .lst 1 (x44.gPlaces.map eI64) .no]) (h' := [(b1, Blk.cells [.v (.int .i64 x44.gNodes), .v (.int .i64 (IntKind.i64.wrap (a0.gNodes + (2 : Int)))), .lst 6 (x44.gEdges.map eTApiEdge) (.cur w43), .lst 1 (x44.gPlaces.map eI64) .no] 43), (b2, Blk.cells [.v (.int .i64 a1.gOp), .v (.string a1.gName), .v (.string a1.gFunc), .lst 5 (a1.gExps.map eTApiExpr) .no, .lst 7 (a1.gKids.map eTApiStmt) .no, .lst 7 (a1.gElse.map eTApiStmt) .no, .v (.int .i64 a1.gAt)] 49), (b3, Blk.cells [.v (.int .i64 x44.gNodes), .v (.int .i64 (IntKind.i64.wrap (a0.gNodes + (2 : Int)))), .lst 6 (x44.gEdges.map eTApiEdge) .no, .lst 1 (x44.gPlaces.map eI64) .no] 43), (b6, Blk.cells [.v (.int .i64 (0 : Int)), .v (.string ByteArray.empty), .v (.string ByteArray.empty), .lst 5 (a1.gExps.map eTApiExpr) .no, .lst 1 [] .full, .lst 1 [] .full, .v (.int .i64 (0 : Int))] 49)]) 2 rfl (WkR.cons (WkC.refl _) rfl (WkR.cons (WkC.refl _) rfl (WkR.cons (WkC.no) rfl (WkR.cons (WkC.refl _) rfl (WkR.nil))))) rfl) ?_
          refine retX.of (s' := ⟨[(4, .ptr b3 0)], [(b3, Blk.cells [.v (.int .i64 x44.gNodes), .v (.int .i64 (IntKind.i64.wrap (a0.gNodes + (2 : Int)))), .lst 6 (x44.gEdges.map eTApiEdge) .no, .lst 1 (x44.gPlaces.map eI64) .no] 43)], []⟩) (WkS.perm (WkS.cons rfl (Wk.refl _) (WkS.nil)) ((perm_at (j := 2) rfl).trans (List.Perm.cons _ (List.Perm.refl _))) (List.Perm.refl _)) (retD_mk (hh := []) (.inl rfl) (resL_cons (resOne_cell 0 rfl rfl rfl rfl) (resL_nil)) (List.nil_sublist _) (List.Sublist.refl _) ?_)
          exact ⟨rfl, rfl, rfl⟩
        · replace hm := yes_f hc34 hm
          refine wpD_skip ?_
          refine block_normal ?_
          refine then_normal ?_
          refine wpD_seq ?_
          refine wpD_region ?_
          refine p_load (d := .agg [.v (.int .i64 a0.gNodes), .v (.int .i64 a0.gAt), .lst 6 (a0.gEdges.map eTApiEdge) .no, .lst 1 (x5.map eI64) (.cur v5)]) 0 htab rfl rfl rfl rfl rfl rfl rfl rfl ?_
          refine p_store (ds' := [.v (.int .i64 a0.gNodes), .v (.int .i64 a0.gAt), .lst 6 (a0.gEdges.map eTApiEdge) .no, .lst 1 (x5.map eI64) (.cur v5)]) (h' := [(b1, Blk.cells [.v (.int .i64 a0.gNodes), .v (.int .i64 a0.gAt), .lst 6 (a0.gEdges.map eTApiEdge) .no, .lst 1 (x5.map eI64) (.cur v5)] 43), (b2, Blk.cells [.v (.int .i64 a1.gOp), .v (.string a1.gName), .v (.string a1.gFunc), .lst 5 (a1.gExps.map eTApiExpr) .no, .lst 7 (a1.gKids.map eTApiStmt) .no, .lst 7 (a1.gElse.map eTApiStmt) .no, .v (.int .i64 a1.gAt)] 49), (b3, Blk.cells [.v (.int .i64 a0.gNodes), .v (.int .i64 a0.gAt), .lst 6 (a0.gEdges.map eTApiEdge) .no, .lst 1 (x5.map eI64) (.cur v5)] 43), (b6, Blk.cells [.v (.int .i64 (0 : Int)), .v (.string ByteArray.empty), .v (.string ByteArray.empty), .lst 5 (a1.gExps.map eTApiExpr) .no, .lst 1 [] .full, .lst 1 [] .full, .v (.int .i64 (0 : Int))] 49)]) 2 htab rfl rfl rfl rfl rfl rfl rfl rfl rfl rfl rfl rfl ?_
          refine ops_nil ?_
          refine then_normal ?_
          refine wpD_ret ?_
          have er46 := yes_eq hm; subst er46
          refine retX.wk (WkS.blk (ds' := [.v (.int .i64 a0.gNodes), .v (.int .i64 a0.gAt), .lst 6 (a0.gEdges.map eTApiEdge) .no, .lst 1 (x5.map eI64) .no]) (h' := [(b1, Blk.cells [.v (.int .i64 a0.gNodes), .v (.int .i64 a0.gAt), .lst 6 (a0.gEdges.map eTApiEdge) .no, .lst 1 (x5.map eI64) (.cur v5)] 43), (b2, Blk.cells [.v (.int .i64 a1.gOp), .v (.string a1.gName), .v (.string a1.gFunc), .lst 5 (a1.gExps.map eTApiExpr) .no, .lst 7 (a1.gKids.map eTApiStmt) .no, .lst 7 (a1.gElse.map eTApiStmt) .no, .v (.int .i64 a1.gAt)] 49), (b3, Blk.cells [.v (.int .i64 a0.gNodes), .v (.int .i64 a0.gAt), .lst 6 (a0.gEdges.map eTApiEdge) .no, .lst 1 (x5.map eI64) .no] 43), (b6, Blk.cells [.v (.int .i64 (0 : Int)), .v (.string ByteArray.empty), .v (.string ByteArray.empty), .lst 5 (a1.gExps.map eTApiExpr) .no, .lst 1 [] .full, .lst 1 [] .full, .v (.int .i64 (0 : Int))] 49)]) 2 rfl (WkR.cons (WkC.refl _) rfl (WkR.cons (WkC.refl _) rfl (WkR.cons (WkC.refl _) rfl (WkR.cons (WkC.no) rfl (WkR.nil))))) rfl) ?_
          refine retX.of (s' := ⟨[(4, .ptr b3 0)], [(b3, Blk.cells [.v (.int .i64 a0.gNodes), .v (.int .i64 a0.gAt), .lst 6 (a0.gEdges.map eTApiEdge) .no, .lst 1 (x5.map eI64) .no] 43)], []⟩) (WkS.perm (WkS.cons rfl (Wk.refl _) (WkS.nil)) ((perm_at (j := 2) rfl).trans (List.Perm.cons _ (List.Perm.refl _))) (List.Perm.refl _)) (retD_mk (hh := []) (.inl rfl) (resL_cons (resOne_cell 0 rfl rfl rfl rfl) (resL_nil)) (List.nil_sublist _) (List.Sublist.refl _) ?_)
          exact ⟨rfl, rfl, rfl⟩
noncomputable def r17_All_g : Nat → ((TSondageref17Made) → (List TApiStmt) → Option (TSondageref17Made)) × ((TSondageref17Made) → (TApiStmt) → Option (TSondageref17Made))
  | 0 => (fun _ _ => none, fun _ _ => none)
  | n + 1 => (r17_All_b ((r17_All_g n).1) ((r17_All_g n).2), r17_one_b ((r17_All_g n).1) ((r17_All_g n).2))
theorem r17_All_g_ok : ∀ n, (∀ (a0 : TSondageref17Made) (a1 : List TApiStmt) (r : TSondageref17Made) (h0 : (r17_All_g n).1 a0 a1 = some r), CallsD Try.prog 12 [eTSondageref17Made a0, .lst 7 (a1.map eTApiStmt) .no] [] [] (fun d h k => d = eTSondageref17Made r ∧ h = [] ∧ k = [])) ∧ (∀ (a0 : TSondageref17Made) (a1 : TApiStmt) (r : TSondageref17Made) (h0 : (r17_All_g n).2 a0 a1 = some r), CallsD Try.prog 16 [eTSondageref17Made a0, eTApiStmt a1] [] [] (fun d h k => d = eTSondageref17Made r ∧ h = [] ∧ k = []))
  | 0 => ⟨(fun _ _ _ h0 => by cases h0), (fun _ _ _ h0 => by cases h0)⟩
  | n + 1 => by
    have ih := r17_All_g_ok n
    exact ⟨r17_All_b_ok ((r17_All_g n).1) ((r17_All_g n).2) (ih.1) (ih.2), r17_one_b_ok ((r17_All_g n).1) ((r17_All_g n).2) (ih.1) (ih.2)⟩
theorem r17_All_g_le : ∀ n, (∀ (a0 : TSondageref17Made) (a1 : List TApiStmt), Le ((r17_All_g n).1 a0 a1) ((r17_All_g (n + 1)).1 a0 a1)) ∧ (∀ (a0 : TSondageref17Made) (a1 : TApiStmt), Le ((r17_All_g n).2 a0 a1) ((r17_All_g (n + 1)).2 a0 a1))
  | 0 => ⟨fun _ _ => Le.none _, fun _ _ => Le.none _⟩
  | n + 1 => by
    have ih := r17_All_g_le n
    exact ⟨fun a0 a1 => by show Le (r17_All_b ((r17_All_g n).1) ((r17_All_g n).2) a0 a1) (r17_All_b ((r17_All_g (n + 1)).1) ((r17_All_g (n + 1)).2) a0 a1); unfold r17_All_b; repeat (first | exact Le.refl _ | exact ih.1 _ _ | exact ih.2 _ _ | assumption | (refine Le.bind ?_ (fun _ => ?_)) | (refine Le.cond ?_ ?_) | (refine Le.loop (fun _ => ?_)) | (refine Le.elim (fun _ => ?_) (fun _ => ?_))), fun a0 a1 => by show Le (r17_one_b ((r17_All_g n).1) ((r17_All_g n).2) a0 a1) (r17_one_b ((r17_All_g (n + 1)).1) ((r17_All_g (n + 1)).2) a0 a1); unfold r17_one_b; repeat (first | exact Le.refl _ | exact ih.1 _ _ | exact ih.2 _ _ | assumption | (refine Le.bind ?_ (fun _ => ?_)) | (refine Le.cond ?_ ?_) | (refine Le.loop (fun _ => ?_)) | (refine Le.elim (fun _ => ?_) (fun _ => ?_)))⟩
noncomputable def r17_All (a0 : TSondageref17Made) (a1 : List TApiStmt) : Option (TSondageref17Made) := anyN fun n => (r17_All_g n).1 a0 a1
theorem r17_All_of (a0 : TSondageref17Made) (a1 : List TApiStmt) {r : TSondageref17Made} (n : Nat) (h : (r17_All_g n).1 a0 a1 = some r) : r17_All a0 a1 = some r := anyN_of (fun m => (r17_All_g_le m).1 a0 a1) h
theorem r17_All_ok (a0 : TSondageref17Made) (a1 : List TApiStmt) (r : TSondageref17Made) (h0 : r17_All a0 a1 = some r) : CallsD Try.prog 12 [eTSondageref17Made a0, .lst 7 (a1.map eTApiStmt) .no] [] [] (fun d h k => d = eTSondageref17Made r ∧ h = [] ∧ k = []) :=
  let ⟨n, hn⟩ := anyN_inv h0; (r17_All_g_ok n).1 a0 a1  r hn
noncomputable def r17_one (a0 : TSondageref17Made) (a1 : TApiStmt) : Option (TSondageref17Made) := anyN fun n => (r17_All_g n).2 a0 a1
theorem r17_one_of (a0 : TSondageref17Made) (a1 : TApiStmt) {r : TSondageref17Made} (n : Nat) (h : (r17_All_g n).2 a0 a1 = some r) : r17_one a0 a1 = some r := anyN_of (fun m => (r17_All_g_le m).2 a0 a1) h
theorem r17_one_ok (a0 : TSondageref17Made) (a1 : TApiStmt) (r : TSondageref17Made) (h0 : r17_one a0 a1 = some r) : CallsD Try.prog 16 [eTSondageref17Made a0, eTApiStmt a1] [] [] (fun d h k => d = eTSondageref17Made r ∧ h = [] ∧ k = []) :=
  let ⟨n, hn⟩ := anyN_inv h0; (r17_All_g_ok n).2 a0 a1  r hn
structure TApiFunc where
  gName : ByteArray
  gParams : List TApiVar
  gLocals : List TApiVar
  gBody : List TApiStmt
  gAt : Int
def eTApiFunc (x : TApiFunc) : D := .agg [.v (.string x.gName), .lst 2 (x.gParams.map eTApiVar) .no, .lst 2 (x.gLocals.map eTApiVar) .no, .lst 7 (x.gBody.map eTApiStmt) .no, .v (.int .i64 x.gAt)]
structure TApiGraph where
  gFunc : ByteArray
  gNodes : Int
  gEdges : List TApiEdge
  gVars : List TApiVar
  gMany : Int
def eTApiGraph (x : TApiGraph) : D := .agg [.v (.string x.gFunc), .v (.int .i64 x.gNodes), .lst 6 (x.gEdges.map eTApiEdge) .no, .lst 2 (x.gVars.map eTApiVar) .no, .v (.int .i64 x.gMany)]
noncomputable def r17_Graph (a0 : TApiFunc) : Option (TApiGraph × List Int) :=
  ((r17_All (⟨(2 : Int), (0 : Int), [], []⟩ : TSondageref17Made) a0.gBody).bind fun x3 => ((r17_with x3 x3.gAt (1 : Int) (8 : Int) (⟨(0 : Int), ByteArray.empty, ByteArray.empty, ([(⟨(1 : Int), (0 : Int), ByteArray.empty, [], (0 : Int)⟩ : TApiExpr)] : List TApiExpr), [], [], (0 : Int)⟩ : TApiStmt)).bind fun x6 => ((app 24 ([] : List TApiVar) a0.gParams).bind fun x7 => ((app 24 x7 a0.gLocals).bind fun x8 => some ((⟨a0.gName, x6.gNodes, x6.gEdges, x8, (a0.gParams.length : Int)⟩ : TApiGraph), x6.gPlaces)))))
set_option maxRecDepth 100000 in
set_option maxHeartbeats 2000000 in
theorem r17_Graph_ok (a0 : TApiFunc) (r : TApiGraph × List Int) (h0 : r17_Graph a0 = some r) : CallsD Try.prog 5 [eTApiFunc a0] [] [] (fun d h k => ∃ y0 y1, d = .tup [.agg [.v (.string r.1.gFunc), .v (.int .i64 r.1.gNodes), .lst 6 (r.1.gEdges.map eTApiEdge) (.cur y0), .lst 2 (r.1.gVars.map eTApiVar) (.cur y1), .v (.int .i64 r.1.gMany)], .lst 1 (r.2.map eI64) .no] ∧ h = [] ∧ k = [(6, y0), (2, y1)]) := by
  have hm := yes_of h0
  unfold r17_Graph at hm
  clear h0
  refine enterX htab Try.func5 rfl rfl rfl rfl rfl (fun C => ?_)
  refine wpD_seq ?_
  refine wpD_region ?_
  refine p_box rfl rfl rfl rfl rfl rfl rfl (fun b1 => ?_)
  refine p_alloc htab rfl rfl rfl rfl rfl rfl rfl (fun b2 => ?_)
  refine p_pure htab rfl rfl rfl rfl ?_
  refine ops_nil ?_
  refine then_normal ?_
  refine wpD_seq ?_
  refine wpD_region ?_
  refine p_build (r := [.v (.int .i64 (2 : Int)), .v (.int .i64 (0 : Int)), .lst 1 [] .full, .lst 1 [] .full]) htab rfl rfl rfl rfl rfl rfl rfl rfl rfl ?_
  refine p_pure htab rfl rfl rfl rfl ?_
  refine p_load 0 htab rfl rfl rfl rfl rfl rfl rfl rfl ?_
  obtain ⟨x3, q3, hm⟩ := yes_bind hm
  refine p_call0 (r17_All_ok (⟨(2 : Int), (0 : Int), [], []⟩ : TSondageref17Made) a0.gBody x3 q3) rfl rfl rfl rfl rfl (WkL.cons (Wk.agg (WkR.cons (WkC.refl _) rfl (WkR.cons (WkC.refl _) rfl (WkR.cons (WkC.nil) rfl (WkR.cons (WkC.nil) rfl (WkR.nil)))))) (WkL.cons (Wk.refl _) (WkL.refl _))) ?_
  rintro _ rfl
  refine p_alloc htab rfl rfl rfl rfl rfl rfl rfl (fun b4 => ?_)
  refine p_store (ds' := [.v (.int .i64 x3.gNodes), .v (.int .i64 x3.gAt), .lst 6 (x3.gEdges.map eTApiEdge) .no, .lst 1 (x3.gPlaces.map eI64) .no]) (h' := [(b1, Blk.cells [.v (.string a0.gName), .lst 2 (a0.gParams.map eTApiVar) .no, .lst 2 (a0.gLocals.map eTApiVar) .no, .lst 7 (a0.gBody.map eTApiStmt) .no, .v (.int .i64 a0.gAt)] 25), (b2, Blk.cells [.v (.string ByteArray.empty), .v (.int .i64 (0 : Int)), .lst 1 [] .full, .lst 1 [] .full, .v (.int .i64 (0 : Int))] 28), (b4, Blk.cells [.v (.int .i64 x3.gNodes), .v (.int .i64 x3.gAt), .lst 6 (x3.gEdges.map eTApiEdge) .no, .lst 1 (x3.gPlaces.map eI64) .no] 43)]) 2 htab rfl rfl rfl rfl rfl rfl rfl rfl rfl rfl rfl rfl ?_
  refine ops_nil ?_
  refine then_normal ?_
  refine wpD_seq ?_
  refine wpD_region ?_
  refine p_load (d := eTSondageref17Made x3) 2 htab rfl rfl rfl rfl rfl rfl rfl rfl ?_
  refine p_pure htab rfl rfl rfl rfl ?_
  refine p_load 2 htab rfl rfl rfl rfl rfl rfl rfl rfl ?_
  refine p_build (r := [.v (.int .i64 (1 : Int)), .v (.int .i64 (0 : Int)), .v (.string ByteArray.empty), .lst 1 [] .full, .v (.int .i64 (0 : Int))]) htab rfl rfl rfl rfl rfl rfl rfl rfl rfl ?_
  refine p_lit htab rfl rfl rfl rfl rfl rfl rfl rfl rfl rfl rfl rfl rfl rfl ?_
  refine p_eq (i := 14) (d' := .lst 5 (([(⟨(1 : Int), (0 : Int), ByteArray.empty, [], (0 : Int)⟩ : TApiExpr)] : List TApiExpr).map eTApiExpr) .full) rfl (Wk.lst0 (.cons (WkC.trans (WkC.agg (WkR.cons (WkC.refl _) rfl (WkR.cons (WkC.refl _) rfl (WkR.cons (WkC.refl _) rfl (WkR.cons (WkC.nil) rfl (WkR.cons (WkC.refl _) rfl (WkR.nil))))))) (WkC.of_eq (eTApiExpr_eq (⟨(1 : Int), (0 : Int), ByteArray.empty, [], (0 : Int)⟩ : TApiExpr)).symm)) (.nil))) ?_
  refine p_build (r := [.v (.int .i64 (0 : Int)), .v (.string ByteArray.empty), .v (.string ByteArray.empty), .lst 5 (([(⟨(1 : Int), (0 : Int), ByteArray.empty, [], (0 : Int)⟩ : TApiExpr)] : List TApiExpr).map eTApiExpr) .full, .lst 1 [] .full, .lst 1 [] .full, .v (.int .i64 (0 : Int))]) htab rfl rfl rfl rfl rfl rfl rfl rfl rfl ?_
  obtain ⟨x6, q6, hm⟩ := yes_bind hm
  refine p_callG (r17_with_ok x3 x3.gAt (1 : Int) (8 : Int) (⟨(0 : Int), ByteArray.empty, ByteArray.empty, ([(⟨(1 : Int), (0 : Int), ByteArray.empty, [], (0 : Int)⟩ : TApiExpr)] : List TApiExpr), [], [], (0 : Int)⟩ : TApiStmt) x6 q6) rfl rfl rfl rfl rfl (WkL.cons (Wk.refl _) (WkL.cons (Wk.refl _) (WkL.cons (Wk.refl _) (WkL.cons (Wk.refl _) (WkL.cons (Wk.trans (Wk.agg (WkR.cons (WkC.refl _) rfl (WkR.cons (WkC.refl _) rfl (WkR.cons (WkC.refl _) rfl (WkR.cons (WkC.no) rfl (WkR.cons (WkC.nil) rfl (WkR.cons (WkC.nil) rfl (WkR.cons (WkC.refl _) rfl (WkR.nil))))))))) (Wk.of_eq (eTApiStmt_eq (⟨(0 : Int), ByteArray.empty, ByteArray.empty, ([(⟨(1 : Int), (0 : Int), ByteArray.empty, [], (0 : Int)⟩ : TApiExpr)] : List TApiExpr), [], [], (0 : Int)⟩ : TApiStmt)).symm)) (WkL.refl _)))))) (List.Perm.refl _) (List.Perm.refl _) ?_
  rintro _ _ _ ⟨w5, rfl, rfl, rfl⟩
  refine p_store (ds' := [.v (.int .i64 x6.gNodes), .v (.int .i64 x6.gAt), .lst 6 (x6.gEdges.map eTApiEdge) (.cur w5), .lst 1 (x6.gPlaces.map eI64) .no]) (h' := [(b1, Blk.cells [.v (.string a0.gName), .lst 2 (a0.gParams.map eTApiVar) .no, .lst 2 (a0.gLocals.map eTApiVar) .no, .lst 7 (a0.gBody.map eTApiStmt) .no, .v (.int .i64 a0.gAt)] 25), (b2, Blk.cells [.v (.string ByteArray.empty), .v (.int .i64 (0 : Int)), .lst 1 [] .full, .lst 1 [] .full, .v (.int .i64 (0 : Int))] 28), (b4, Blk.cells [.v (.int .i64 x6.gNodes), .v (.int .i64 x6.gAt), .lst 6 (x6.gEdges.map eTApiEdge) (.cur w5), .lst 1 (x6.gPlaces.map eI64) .no] 43)]) 2 htab rfl rfl rfl rfl rfl rfl rfl rfl rfl rfl rfl rfl ?_
  refine ops_nil ?_
  refine then_normal ?_
  refine wpD_seq ?_
  refine wpD_region ?_
  refine p_pure htab rfl rfl rfl rfl ?_
  refine ops_nil ?_
  refine then_normal ?_
  refine wpD_seq ?_
  refine wpD_region ?_
  refine p_pure htab rfl rfl rfl rfl ?_
  refine p_pure htab rfl rfl rfl rfl ?_
  refine p_load 0 htab rfl rfl rfl rfl rfl rfl rfl rfl ?_
  obtain ⟨x7, q7, hm⟩ := yes_bind hm
  refine p_app0 htab rfl rfl rfl rfl rfl rfl rfl rfl rfl rfl rfl rfl rfl rfl rfl (by simpa using app_bound (e := eTApiVar) q7) (fun v7 => ?_)
  refine p_mapD0 (i := 20) q7 rfl ?_
  refine p_pure htab rfl rfl rfl rfl ?_
  refine ops_nil ?_
  refine then_normal ?_
  refine wpD_seq ?_
  refine wpD_region ?_
  refine p_pure htab rfl rfl rfl rfl ?_
  refine p_pure htab rfl rfl rfl rfl ?_
  refine p_load 0 htab rfl rfl rfl rfl rfl rfl rfl rfl ?_
  obtain ⟨x8, q8, hm⟩ := yes_bind hm
  refine p_appC 0 htab rfl rfl rfl rfl rfl rfl rfl rfl rfl rfl rfl rfl rfl rfl rfl rfl rfl (app_bound q8) (fun v8 => ?_)
  refine p_mapD (i := 24) q8 rfl ?_
  refine p_pure htab rfl rfl rfl rfl ?_
  refine ops_nil ?_
  refine then_normal ?_
  refine wpD_seq ?_
  refine wpD_store 14 [] [[],[0],[],[2],[],[4],[],[],[7],[7,8],[0,1,2,3,4,5,6,7,8],[],[11],[0,1,2,3,4,5,6,7,8,10]] [0,1,2,3,4,5,6,7,8,10,11,12,13] [[],[0],[],[2],[],[4],[],[],[7],[7,8],[0,1,2,3,4,5,6,7,8,9],[],[11],[0,1,2,3,4,5,6,7,8,9,10],[0,1,2,3,4,5,6,7,8,9,10,11,12,13]] 13 (by kernel_rfl) (by kernel_rfl) (by kernel_rfl) (by rfl) (by rfl) (by kernel_rfl) ?_
  refine ⟨[(b1, Blk.cells [.v (.string a0.gName), .lst 2 (a0.gParams.map eTApiVar) .no, .lst 2 (a0.gLocals.map eTApiVar) .no, .lst 7 (a0.gBody.map eTApiStmt) .no, .v (.int .i64 a0.gAt)] 25), (b2, Blk.cells [.v (.string a0.gName), .v (.int .i64 x6.gNodes), .lst 6 (x6.gEdges.map eTApiEdge) (.cur w5), .lst 2 (x8.map eTApiVar) (.cur v8), .v (.int .i64 (a0.gParams.length : Int))] 28), (b4, Blk.cells [.v (.int .i64 x6.gNodes), .v (.int .i64 x6.gAt), .lst 6 (x6.gEdges.map eTApiEdge) (.cur w5), .lst 1 (x6.gPlaces.map eI64) .no] 43)], ?_⟩
  apply Exists.intro
  apply Exists.intro
  apply Exists.intro
  apply Exists.intro
  apply Exists.intro
  apply Exists.intro
  apply Exists.intro
  apply Exists.intro
  apply Exists.intro
  apply Exists.intro
  apply Exists.intro
  apply Exists.intro
  refine ⟨.any, ?_⟩
  intro bs v9
  refine zh_e rfl rfl (ex_pure htab rfl) rfl rfl rfl rfl rfl rfl rfl rfl ?_
  refine zh_M rfl rfl (fun _ => xm_load 0 htab rfl rfl rfl rfl rfl) (offB rfl) rfl rfl rfl rfl rfl rfl rfl rfl ?_
  refine zh_e rfl rfl (ex_pure htab rfl) rfl rfl rfl rfl rfl rfl rfl rfl ?_
  refine zh_M rfl rfl (fun _ => xm_load 2 htab rfl rfl rfl rfl rfl) (offB rfl) rfl rfl rfl rfl rfl rfl rfl rfl ?_
  refine zh_e rfl rfl (ex_pure htab rfl) rfl rfl rfl rfl rfl rfl rfl rfl ?_
  refine zh_M rfl rfl (fun _ => xm_load 2 htab rfl rfl rfl rfl rfl) (offB rfl) rfl rfl rfl rfl rfl rfl rfl rfl ?_
  refine zh_e rfl rfl (ex_pure htab rfl) rfl rfl rfl rfl rfl rfl rfl rfl ?_
  refine zh_e rfl rfl (ex_pure htab rfl) rfl rfl rfl rfl rfl rfl rfl rfl ?_
  refine zh_M rfl rfl (fun _ => xm_load 0 htab rfl rfl rfl rfl rfl) (offB rfl) rfl rfl rfl rfl rfl rfl rfl rfl ?_
  refine zh_q rfl rfl (x_lenL htab rfl rfl rfl rfl (by first | exact map_len | rfl)) rfl rfl rfl rfl rfl rfl ?_
  refine zh_e rfl rfl (x_build (r := [.v (.string a0.gName), .v (.int .i64 x6.gNodes), .lst 6 (x6.gEdges.map eTApiEdge) (.cur w5), .lst 2 (x8.map eTApiVar) (.cur v8), .v (.int .i64 (a0.gParams.length : Int))]) htab rfl rfl rfl rfl rfl rfl) rfl rfl rfl rfl rfl rfl rfl rfl ?_
  refine zh_e rfl rfl (ex_pure htab rfl) rfl rfl rfl rfl rfl rfl rfl rfl ?_
  refine zh_M rfl rfl (fun _ => xm_load 2 htab rfl rfl rfl rfl rfl) (fun _ => xm_load 2 htab rfl rfl rfl rfl rfl) rfl rfl rfl rfl rfl rfl rfl rfl ?_
  refine zh_store 1 htab rfl rfl rfl rfl rfl rfl rfl rfl rfl rfl rfl rfl rfl rfl rfl rfl ?_
  refine zh_nil rfl rfl rfl rfl (fun e he => by simp [isAl] at he) ?_
  refine p_pure htab rfl rfl rfl rfl ?_
  refine ops_nil ?_
  refine then_normal ?_
  refine wpD_ret ?_
  have er10 := yes_eq hm; subst er10
  refine retX.of (s' := ⟨[(2, .ptr b2 0), (3, .lst 1 (x6.gPlaces.map eI64) .no)], [(b2, Blk.cells [.v (.string a0.gName), .v (.int .i64 x6.gNodes), .lst 6 (x6.gEdges.map eTApiEdge) (.cur w5), .lst 2 (x8.map eTApiVar) (.cur v8), .v (.int .i64 (a0.gParams.length : Int))] 28)], [(6, w5), (2, v8)]⟩) (WkS.perm (WkS.cons rfl (Wk.refl _) (WkS.cons rfl (Wk.refl _) (WkS.nil))) ((perm_at (j := 1) rfl).trans (List.Perm.cons _ (List.Perm.refl _))) ((perm_at (j := 1) rfl).trans (List.Perm.cons _ ((perm_at (j := 0) rfl).trans (List.Perm.cons _ (List.Perm.refl _)))))) (retD_mk (hh := []) (.inl rfl) (resL_cons (resOne_cell 0 rfl rfl rfl rfl) (resL_cons (resOne_tmp rfl) (resL_nil))) (List.nil_sublist _) (List.Sublist.refl _) ?_)
  exact ⟨w5, v8, rfl, rfl, rfl⟩
noncomputable def slices_Concat_api_Var_api_Var (a0 : List (List TApiVar)) : Option (List TApiVar) :=
  (Option.bind (α := Int) (loopM (fun (s15 : Int × Int) => (bif (decide (s15.2 < (a0.length : Int))) then ((idx a0 s15.2).bind fun x25 => (bif (decide ((IntKind.i64.wrap (s15.1 + (x25.length : Int))) < (0 : Int))) then none else some (.next ((IntKind.i64.wrap (s15.1 + (x25.length : Int))), (IntKind.i64.wrap (s15.2 + (1 : Int))))))) else some (.done s15.1))) ((0 : Int), (0 : Int))) fun y14 => ((need (growPre y14)).bind fun x28 => (Option.bind (α := List TApiVar) (loopM (fun (s43 : Int × List TApiVar) => (bif (decide (s43.1 < (a0.length : Int))) then ((idx a0 s43.1).bind fun x53 => ((app 24 s43.2 x53).bind fun x54 => some (.next ((IntKind.i64.wrap (s43.1 + (1 : Int))), x54)))) else some (.done s43.2))) ((0 : Int), (growF y14))) fun y42 => some y42)))
set_option maxRecDepth 100000 in
set_option maxHeartbeats 2000000 in
theorem slices_Concat_api_Var_api_Var_ok (a0 : List (List TApiVar)) (r : List TApiVar) (h0 : slices_Concat_api_Var_api_Var a0 = some r) : CallsD Try.prog 18 [.lst 1 (a0.map (eList 2 eTApiVar)) .no] [] [] (fun d h k => ∃ y0, d = .lst 2 (r.map eTApiVar) (.cur y0) ∧ h = [] ∧ k = [(2, y0)]) := by
  have hm := yes_of h0
  unfold slices_Concat_api_Var_api_Var at hm
  clear h0
  refine enterX htab Try.func18 rfl rfl rfl rfl rfl (fun C => ?_)
  refine wpD_seq ?_
  refine wpD_region ?_
  refine p_pure htab rfl rfl rfl rfl ?_
  refine ops_nil ?_
  refine then_normal ?_
  refine wpD_seq ?_
  refine wpD_region ?_
  refine p_pure htab rfl rfl rfl rfl ?_
  refine ops_nil ?_
  refine then_normal ?_
  refine wpD_seq ?_
  refine wpD_seq ?_
  refine wpD_region ?_
  refine p_pure htab rfl rfl rfl rfl ?_
  refine p_lenL htab rfl rfl rfl rfl rfl rfl rfl (by first | exact map_len | rfl) ?_
  refine p_pure htab rfl rfl rfl rfl ?_
  refine ops_nil ?_
  refine then_normal ?_
  obtain ⟨y14, q14, ho14⟩ := yes_bind hm
  refine wpD_mid (Y := Unit) (fun z14 => (⟨[(0, .lst 1 (a0.map (eList 2 eTApiVar)) .no), (3, .v (.int .i64 y14))], [], []⟩ : S)) ?_ ?_
  · clear hm; have hm := yes_of q14
    refine wpD_block ?_
    obtain ⟨u15, hl15, hq15⟩ := yes_m hm
    refine loop_M (Y := Unit) hl15 (fun s15 z15 => (⟨[(0, .lst 1 (a0.map (eList 2 eTApiVar)) .no), (3, .v (.int .i64 s15.1)), (9, .lst 1 (a0.map (eList 2 eTApiVar)) .no), (10, .v (.int .i64 (a0.length : Int))), (11, .v (.int .i64 s15.2))], [], []⟩ : S)) ?_ ?_
    · skip
      exact WkX.of () (WkS.perm (WkS.cons rfl (Wk.refl _) (WkS.cons rfl (Wk.refl _) (WkS.cons rfl (Wk.refl _) (WkS.cons rfl (Wk.refl _) (WkS.cons rfl (Wk.refl _) (WkS.nil)))))) (List.Perm.refl _) (List.Perm.refl _))
    · intro G15 s15 z15 hm
      refine wpD_seq ?_
      refine wpD_region ?_
      refine p_pure htab rfl rfl rfl rfl ?_
      refine ops_nil ?_
      refine then_normal ?_
      refine wpD_seq ?_
      refine wpD_cond rfl (fun hc24 => ?_) (fun hc24 => ?_)
      · replace hm := yes_t hc24 hm
        refine wpD_skip ?_
        refine then_normal ?_
        refine wpD_seq ?_
        refine wpD_block ?_
        refine wpD_seq ?_
        refine wpD_region ?_
        obtain ⟨x25, q25, hm⟩ := yes_bind hm
        refine p_elem htab rfl rfl rfl rfl rfl rfl rfl rfl rfl rfl (idx_nonneg q25) (idx_map q25) ?_
        refine p_loadEl htab rfl rfl rfl rfl rfl rfl rfl rfl ?_
        refine p_pure htab rfl rfl rfl rfl ?_
        refine ops_nil ?_
        refine then_normal ?_
        refine wpD_seq ?_
        refine wpD_region ?_
        refine p_pure htab rfl rfl rfl rfl ?_
        refine p_pure htab rfl rfl rfl rfl ?_
        refine p_lenL htab rfl rfl rfl rfl rfl rfl rfl (by first | exact map_len | rfl) ?_
        refine p_pure htab rfl rfl rfl rfl ?_
        refine p_pure htab rfl rfl rfl rfl ?_
        refine ops_nil ?_
        refine then_normal ?_
        refine wpD_seq ?_
        refine wpD_region ?_
        refine p_pure htab rfl rfl rfl rfl ?_
        refine p_pure htab rfl rfl rfl rfl ?_
        refine ops_nil ?_
        refine then_normal ?_
        refine wpD_cond rfl (fun hc26 => ?_) (fun hc26 => ?_)
        · replace hm := yes_t hc26 hm
          exact (yes_none hm).elim
        · replace hm := yes_f hc26 hm
          refine wpD_skip ?_
          refine block_normal ?_
          refine then_normal ?_
          refine wpD_region ?_
          refine p_pure htab rfl rfl rfl rfl ?_
          refine p_pure htab rfl rfl rfl rfl ?_
          refine ops_nil ?_
          refine then_normal ⟨_, lp_next hm, ?_⟩
          exact WkX.of () (WkS.perm (WkS.cons rfl (Wk.refl _) (WkS.cons rfl (Wk.refl _) (WkS.cons rfl (Wk.refl _) (WkS.cons rfl (Wk.refl _) (WkS.cons rfl (Wk.refl _) (WkS.nil)))))) (List.Perm.refl _) (List.Perm.refl _))
      · replace hm := yes_f hc24 hm
        refine wpD_exit ?_
        refine then_exit ?_
        have e15 := lp_done hm; subst e15; clear hm; have hm := hq15
        refine then_exit ?_
        refine block_hit ?_
        have e14 := yes_eq hm; subst e14
        refine ⟨rfl, ?_⟩
        exact WkX.of () (WkS.perm (WkS.cons rfl (Wk.refl _) (WkS.cons rfl (Wk.refl _) (WkS.nil))) (List.Perm.refl _) (List.Perm.refl _))
  · intro s14 hw14; clear hm; have hm := ho14; clear q14 ho14
    refine then_normal ?_
    refine wpD_wkX hw14 (fun z14 => ?_)
    refine wpD_seq ?_
    refine wpD_region ?_
    refine p_pure htab rfl rfl rfl rfl ?_
    obtain ⟨x28, q28, hm⟩ := yes_bind hm
    refine p_callG (growV_ok y14 (need_ok q28)) rfl rfl rfl rfl rfl (WkL.refl _) (List.Perm.refl _) (List.Perm.refl _) ?_
    rintro _ _ _ ⟨w27, rfl, rfl, rfl⟩
    refine p_pure htab rfl rfl rfl rfl ?_
    refine ops_nil ?_
    refine then_normal ?_
    refine wpD_seq ?_
    refine wpD_seq ?_
    refine wpD_region ?_
    refine p_pure htab rfl rfl rfl rfl ?_
    refine p_lenL htab rfl rfl rfl rfl rfl rfl rfl (by first | exact map_len | rfl) ?_
    refine p_pure htab rfl rfl rfl rfl ?_
    refine ops_nil ?_
    refine then_normal ?_
    obtain ⟨y42, q42, ho42⟩ := yes_bind hm
    refine wpD_mid (Y := Z3) (fun z42 => (⟨[(6, .v (SL z42))], [(0, Blk.row 2 (y42.map eTApiVar) (SL z42))], []⟩ : S)) ?_ ?_
    · clear hm; have hm := yes_of q42
      refine wpD_block ?_
      obtain ⟨u43, hl43, hq43⟩ := yes_m hm
      refine loop_M (Y := Z3) hl43 (fun s43 z43 => (⟨[(6, .v (SL z43)), (25, .lst 1 (a0.map (eList 2 eTApiVar)) .no), (26, .v (.int .i64 (a0.length : Int))), (27, .v (.int .i64 s43.1))], [(0, Blk.row 2 (s43.2.map eTApiVar) (SL z43))], []⟩ : S)) ?_ ?_
      · skip
        exact WkX.of w27 (WkS.perm (WkS.cons rfl (Wk.refl _) (WkS.cons rfl (Wk.refl _) (WkS.cons rfl (Wk.refl _) (WkS.cons rfl (Wk.refl _) (WkS.nil))))) (List.Perm.refl _) (List.Perm.refl _))
      · intro G43 s43 z43 hm
        refine wpD_seq ?_
        refine wpD_region ?_
        refine p_pure htab rfl rfl rfl rfl ?_
        refine ops_nil ?_
        refine then_normal ?_
        refine wpD_seq ?_
        refine wpD_cond rfl (fun hc52 => ?_) (fun hc52 => ?_)
        · replace hm := yes_t hc52 hm
          refine wpD_skip ?_
          refine then_normal ?_
          refine wpD_seq ?_
          refine wpD_block ?_
          refine wpD_seq ?_
          refine wpD_region ?_
          obtain ⟨x53, q53, hm⟩ := yes_bind hm
          refine p_elem htab rfl rfl rfl rfl rfl rfl rfl rfl rfl rfl (idx_nonneg q53) (idx_map q53) ?_
          refine p_loadEl htab rfl rfl rfl rfl rfl rfl rfl rfl ?_
          refine p_pure htab rfl rfl rfl rfl ?_
          refine ops_nil ?_
          refine then_normal ?_
          refine wpD_region ?_
          refine p_pure htab rfl rfl rfl rfl ?_
          refine p_pure htab rfl rfl rfl rfl ?_
          obtain ⟨x54, q54, hm⟩ := yes_bind hm
          refine p_appR2 0 htab rfl rfl rfl rfl rfl rfl rfl rfl rfl rfl rfl rfl rfl rfl rfl rfl (app_bound q54) (app_map q54) (fun v54 => ?_)
          refine p_pure htab rfl rfl rfl rfl ?_
          refine ops_nil ?_
          refine block_normal ?_
          refine then_normal ?_
          refine wpD_region ?_
          refine p_pure htab rfl rfl rfl rfl ?_
          refine p_pure htab rfl rfl rfl rfl ?_
          refine ops_nil ?_
          refine then_normal ⟨_, lp_next hm, ?_⟩
          exact WkX.of v54 (WkS.perm (WkS.cons rfl (Wk.refl _) (WkS.cons rfl (Wk.refl _) (WkS.cons rfl (Wk.refl _) (WkS.cons rfl (Wk.refl _) (WkS.nil))))) (List.Perm.refl _) (List.Perm.refl _))
        · replace hm := yes_f hc52 hm
          refine wpD_exit ?_
          refine then_exit ?_
          have e43 := lp_done hm; subst e43; clear hm; have hm := hq43
          refine then_exit ?_
          refine block_hit ?_
          have e42 := yes_eq hm; subst e42
          refine ⟨rfl, ?_⟩
          exact WkX.of z43 (WkS.perm (WkS.cons rfl (Wk.refl _) (WkS.nil)) (List.Perm.refl _) (List.Perm.refl _))
    · intro s42 hw42; clear hm; have hm := ho42; clear q42 ho42
      refine then_normal ?_
      refine wpD_wkX hw42 (fun z42 => ?_)
      refine wpD_seq ?_
      refine wpD_region ?_
      refine p_pure htab rfl rfl rfl rfl ?_
      refine p_pure htab rfl rfl rfl rfl ?_
      refine ops_nil ?_
      refine then_normal ?_
      refine wpD_ret ?_
      have er55 := yes_eq hm; subst er55
      refine retX.wk (WkS.frz 0 rfl rfl) ?_
      refine retX.wk (WkS.tld 2 0 rfl rfl) ?_
      refine retX.wk (WkS.tld 6 0 rfl rfl) ?_
      refine retX.wk (WkS.tld 35 0 rfl rfl) ?_
      refine retX.wk (WkS.drop 0 rfl) ?_
      refine retX.of (s' := ⟨[(2, .lst 2 (y42.map eTApiVar) (.cur (SL z42)))], [], [(2, (SL z42))]⟩) (WkS.perm (WkS.cons rfl (Wk.refl _) (WkS.nil)) (List.Perm.refl _) (List.Perm.refl _)) (retD_mk (hh := []) (.inl rfl) (resL_cons (resOne_tmp rfl) (resL_nil)) (List.nil_sublist _) (List.Sublist.refl _) ?_)
      exact ⟨(SL z42), rfl, rfl, rfl⟩
theorem slices_Concat_api_Var_api_Var_ok0 (a0 : List (List TApiVar)) (r : List TApiVar) (h0 : slices_Concat_api_Var_api_Var a0 = some r) : CallsD Try.prog 18 [.lst 1 (a0.map (eList 2 eTApiVar)) .no] [] [] (fun d h k => d = .lst 2 (r.map eTApiVar) .no ∧ h = [] ∧ k = []) :=
  (slices_Concat_api_Var_api_Var_ok a0 r h0).drop fun d h k ⟨y0, e, _, _⟩ => by subst e; exact Wk.no
structure TFlowMaker where
  gG : TApiGraph
  gAt : Int
  gPlaces : List Int
def eTFlowMaker (x : TFlowMaker) : D := .agg [.v (.string x.gG.gFunc), .v (.int .i64 x.gG.gNodes), .lst 6 (x.gG.gEdges.map eTApiEdge) .no, .lst 2 (x.gG.gVars.map eTApiVar) .no, .v (.int .i64 x.gG.gMany), .v (.int .i64 x.gAt), .lst 1 (x.gPlaces.map eI64) .no]
noncomputable def flow_maker_node (m0 : TFlowMaker) : Option (Int × TFlowMaker) :=
  some ((IntKind.i64.wrap ((IntKind.i64.wrap (m0.gG.gNodes + (1 : Int))) - (1 : Int))), (⟨(⟨m0.gG.gFunc, (IntKind.i64.wrap (m0.gG.gNodes + (1 : Int))), m0.gG.gEdges, m0.gG.gVars, m0.gG.gMany⟩ : TApiGraph), m0.gAt, m0.gPlaces⟩ : TFlowMaker))
set_option maxRecDepth 100000 in
set_option maxHeartbeats 2000000 in
theorem flow_maker_node_ok (m0 : TFlowMaker) (o0 : Nat) (T0 : TypeId) (c0_2 : Cap) (c0_3 : Cap) (c0_6 : Cap) (r : Int × TFlowMaker) (h0 : flow_maker_node m0 = some r) : CallsD Try.prog 29 [.ptr o0 0] [(o0, Blk.cells [.v (.string m0.gG.gFunc), .v (.int .i64 m0.gG.gNodes), .lst 6 (m0.gG.gEdges.map eTApiEdge) c0_2, .lst 2 (m0.gG.gVars.map eTApiVar) c0_3, .v (.int .i64 m0.gG.gMany), .v (.int .i64 m0.gAt), .lst 1 (m0.gPlaces.map eI64) c0_6] T0)] [] (fun d h k => d = .v (.int .i64 r.1) ∧ h = [(o0, Blk.cells [.v (.string r.2.gG.gFunc), .v (.int .i64 r.2.gG.gNodes), .lst 6 (r.2.gG.gEdges.map eTApiEdge) c0_2, .lst 2 (r.2.gG.gVars.map eTApiVar) c0_3, .v (.int .i64 r.2.gG.gMany), .v (.int .i64 r.2.gAt), .lst 1 (r.2.gPlaces.map eI64) c0_6] T0)] ∧ k = []) := by
  have hm := yes_of h0
  unfold flow_maker_node at hm
  clear h0
  refine enterX htab Try.func29 rfl rfl rfl rfl rfl (fun C => ?_)
  refine wpD_seq ?_
  refine wpD_region ?_
  refine p_pure htab rfl rfl rfl rfl ?_
  refine ops_nil ?_
  refine then_normal ?_
  refine wpD_seq ?_
  refine wpD_region ?_
  refine p_pure htab rfl rfl rfl rfl ?_
  refine p_pure htab rfl rfl rfl rfl ?_
  refine p_pure htab rfl rfl rfl rfl ?_
  refine p_pure htab rfl rfl rfl rfl ?_
  refine p_load 0 htab rfl rfl rfl rfl rfl rfl rfl rfl ?_
  refine p_pure htab rfl rfl rfl rfl ?_
  refine p_pure htab rfl rfl rfl rfl ?_
  refine p_pure htab rfl rfl rfl rfl ?_
  refine p_pure htab rfl rfl rfl rfl ?_
  refine p_store (ds' := [.v (.string m0.gG.gFunc), .v (.int .i64 (IntKind.i64.wrap (m0.gG.gNodes + (1 : Int)))), .lst 6 (m0.gG.gEdges.map eTApiEdge) c0_2, .lst 2 (m0.gG.gVars.map eTApiVar) c0_3, .v (.int .i64 m0.gG.gMany), .v (.int .i64 m0.gAt), .lst 1 (m0.gPlaces.map eI64) c0_6]) (h' := [(o0, Blk.cells [.v (.string m0.gG.gFunc), .v (.int .i64 (IntKind.i64.wrap (m0.gG.gNodes + (1 : Int)))), .lst 6 (m0.gG.gEdges.map eTApiEdge) c0_2, .lst 2 (m0.gG.gVars.map eTApiVar) c0_3, .v (.int .i64 m0.gG.gMany), .v (.int .i64 m0.gAt), .lst 1 (m0.gPlaces.map eI64) c0_6] T0)]) 0 htab rfl rfl rfl rfl rfl rfl rfl rfl rfl rfl rfl rfl ?_
  refine ops_nil ?_
  refine then_normal ?_
  refine wpD_seq ?_
  refine wpD_region ?_
  refine p_pure htab rfl rfl rfl rfl ?_
  refine p_pure htab rfl rfl rfl rfl ?_
  refine p_pure htab rfl rfl rfl rfl ?_
  refine p_pure htab rfl rfl rfl rfl ?_
  refine p_load 0 htab rfl rfl rfl rfl rfl rfl rfl rfl ?_
  refine p_pure htab rfl rfl rfl rfl ?_
  refine p_pure htab rfl rfl rfl rfl ?_
  refine ops_nil ?_
  refine then_normal ?_
  refine wpD_ret ?_
  have er1 := yes_eq hm; subst er1
  refine retX.of (s' := ⟨[(2, .v (.int .i64 (IntKind.i64.wrap ((IntKind.i64.wrap (m0.gG.gNodes + (1 : Int))) - (1 : Int)))))], [(o0, Blk.cells [.v (.string m0.gG.gFunc), .v (.int .i64 (IntKind.i64.wrap (m0.gG.gNodes + (1 : Int)))), .lst 6 (m0.gG.gEdges.map eTApiEdge) c0_2, .lst 2 (m0.gG.gVars.map eTApiVar) c0_3, .v (.int .i64 m0.gG.gMany), .v (.int .i64 m0.gAt), .lst 1 (m0.gPlaces.map eI64) c0_6] T0)], []⟩) (WkS.perm (WkS.cons rfl (Wk.refl _) (WkS.nil)) (List.Perm.refl _) (List.Perm.refl _)) (retD_mk (hh := [(o0, Blk.cells [.v (.string m0.gG.gFunc), .v (.int .i64 (IntKind.i64.wrap (m0.gG.gNodes + (1 : Int)))), .lst 6 (m0.gG.gEdges.map eTApiEdge) c0_2, .lst 2 (m0.gG.gVars.map eTApiVar) c0_3, .v (.int .i64 m0.gG.gMany), .v (.int .i64 m0.gAt), .lst 1 (m0.gPlaces.map eI64) c0_6] T0)]) (.inl rfl) (resL_cons (resOne_tmp rfl) (resL_nil)) (List.Sublist.refl _) (List.Sublist.refl _) ?_)
  exact ⟨rfl, rfl, rfl⟩
noncomputable def flow_maker_edge (m0 : TFlowMaker) (a1 : Int) (a2 : Int) (a3 : Int) (a4 : TApiStmt) : Option (TFlowMaker) :=
  (Option.bind (α := ByteArray × ByteArray × List TApiExpr) (bif (a3 != (0 : Int)) then ((slices_Clone_api_Expr_api_Expr a4.gExps).bind fun x12 => some (a4.gName, a4.gFunc, x12)) else some (ByteArray.empty, ByteArray.empty, ([] : List TApiExpr))) fun y9 => ((app 80 m0.gG.gEdges ([(⟨a1, a2, a3, y9.1, y9.2.1, y9.2.2⟩ : TApiEdge)] : List TApiEdge)).bind fun x16 => some (⟨(⟨m0.gG.gFunc, m0.gG.gNodes, x16, m0.gG.gVars, m0.gG.gMany⟩ : TApiGraph), m0.gAt, m0.gPlaces⟩ : TFlowMaker)))
set_option maxRecDepth 100000 in
set_option maxHeartbeats 2000000 in
theorem flow_maker_edge_ok (m0 : TFlowMaker) (a1 : Int) (a2 : Int) (a3 : Int) (a4 : TApiStmt) (o0 : Nat) (T0 : TypeId) (k0_2 : Value) (c0_3 : Cap) (c0_6 : Cap) (r : TFlowMaker) (h0 : flow_maker_edge m0 a1 a2 a3 a4 = some r) : CallsD Try.prog 20 [.ptr o0 0, .v (.int .i64 a1), .v (.int .i64 a2), .v (.int .i64 a3), eTApiStmt a4] [(o0, Blk.cells [.v (.string m0.gG.gFunc), .v (.int .i64 m0.gG.gNodes), .lst 6 (m0.gG.gEdges.map eTApiEdge) (.cur k0_2), .lst 2 (m0.gG.gVars.map eTApiVar) c0_3, .v (.int .i64 m0.gG.gMany), .v (.int .i64 m0.gAt), .lst 1 (m0.gPlaces.map eI64) c0_6] T0)] [(6, k0_2)] (fun d h k => ∃ y0, d = .tup [] ∧ h = [(o0, Blk.cells [.v (.string r.gG.gFunc), .v (.int .i64 r.gG.gNodes), .lst 6 (r.gG.gEdges.map eTApiEdge) (.cur y0), .lst 2 (r.gG.gVars.map eTApiVar) c0_3, .v (.int .i64 r.gG.gMany), .v (.int .i64 r.gAt), .lst 1 (r.gPlaces.map eI64) c0_6] T0)] ∧ k = [(6, y0)]) := by
  have hm := yes_of h0
  unfold flow_maker_edge at hm
  clear h0
  refine enterX htab Try.func20 rfl rfl rfl rfl rfl (fun C => ?_)
  refine w_eq (i := 4) rfl (Wk.of_eq (eTApiStmt_eq a4)) ?_
  refine wpD_seq ?_
  refine wpD_region ?_
  refine p_box rfl rfl rfl rfl rfl rfl rfl (fun b1 => ?_)
  refine ops_nil ?_
  refine then_normal ?_
  refine wpD_seq ?_
  refine wpD_region ?_
  refine p_pure htab rfl rfl rfl rfl ?_
  refine p_pure htab rfl rfl rfl rfl ?_
  refine p_pure htab rfl rfl rfl rfl ?_
  refine p_build (r := [.v (.int .i64 a1), .v (.int .i64 a2), .v (.int .i64 a3), .v (.string ByteArray.empty), .v (.string ByteArray.empty), .lst 1 [] .full]) htab rfl rfl rfl rfl rfl rfl rfl rfl rfl ?_
  refine p_alloc htab rfl rfl rfl rfl rfl rfl rfl (fun b2 => ?_)
  refine p_store (ds' := [.v (.int .i64 a1), .v (.int .i64 a2), .v (.int .i64 a3), .v (.string ByteArray.empty), .v (.string ByteArray.empty), .lst 1 [] .full]) (h' := [(o0, Blk.cells [.v (.string m0.gG.gFunc), .v (.int .i64 m0.gG.gNodes), .lst 6 (m0.gG.gEdges.map eTApiEdge) (.cur k0_2), .lst 2 (m0.gG.gVars.map eTApiVar) c0_3, .v (.int .i64 m0.gG.gMany), .v (.int .i64 m0.gAt), .lst 1 (m0.gPlaces.map eI64) c0_6] T0), (b1, Blk.cells [.v (.int .i64 a4.gOp), .v (.string a4.gName), .v (.string a4.gFunc), .lst 5 (a4.gExps.map eTApiExpr) .no, .lst 7 (a4.gKids.map eTApiStmt) .no, .lst 7 (a4.gElse.map eTApiStmt) .no, .v (.int .i64 a4.gAt)] 49), (b2, Blk.cells [.v (.int .i64 a1), .v (.int .i64 a2), .v (.int .i64 a3), .v (.string ByteArray.empty), .v (.string ByteArray.empty), .lst 1 [] .full] 41)]) 2 htab rfl rfl rfl rfl rfl rfl rfl rfl rfl rfl rfl rfl ?_
  refine ops_nil ?_
  refine then_normal ?_
  refine wpD_seq ?_
  refine wpD_seq ?_
  refine wpD_region ?_
  refine p_pure htab rfl rfl rfl rfl ?_
  refine p_pure htab rfl rfl rfl rfl ?_
  refine ops_nil ?_
  refine then_normal ?_
  obtain ⟨y9, q9, ho9⟩ := yes_bind hm
  refine wpD_mid (Y := Unit) (fun z9 => (⟨[(0, .ptr o0 0), (10, .ptr b2 0)], [(o0, Blk.cells [.v (.string m0.gG.gFunc), .v (.int .i64 m0.gG.gNodes), .lst 6 (m0.gG.gEdges.map eTApiEdge) (.cur k0_2), .lst 2 (m0.gG.gVars.map eTApiVar) c0_3, .v (.int .i64 m0.gG.gMany), .v (.int .i64 m0.gAt), .lst 1 (m0.gPlaces.map eI64) c0_6] T0), (b1, Blk.cells [.v (.int .i64 a4.gOp), .v (.string a4.gName), .v (.string a4.gFunc), .lst 5 (a4.gExps.map eTApiExpr) .no, .lst 7 (a4.gKids.map eTApiStmt) .no, .lst 7 (a4.gElse.map eTApiStmt) .no, .v (.int .i64 a4.gAt)] 49), (b2, Blk.cells [.v (.int .i64 a1), .v (.int .i64 a2), .v (.int .i64 a3), .v (.string y9.1), .v (.string y9.2.1), .lst 5 (y9.2.2.map eTApiExpr) .no] 41)], [(6, k0_2)]⟩ : S)) ?_ ?_
  · clear hm; have hm := yes_of q9
    refine wpD_cond rfl (fun hc10 => ?_) (fun hc10 => ?_)
    · replace hm := yes_t hc10 hm
      obtain ⟨x12, q12, hm⟩ := yes_bind hm
      refine wpD_store 9 [] [[],[0],[],[2],[],[4],[4,5],[0,1],[0,1,4,5,6,7]] [0,1,2,3,4,5,6,7,8] [[],[0],[],[2],[],[4],[4,5],[0,1],[0,1,4,5,6,7],[0,1,2,3,4,5,6,7,8],[0,1,2,3,4,5,6,7,8,9],[0,1,2,3,4,5,6,7,8,9,10],[0,1,2,3,4,5,6,7,8,9,10,11]] 8 (by kernel_rfl) (by kernel_rfl) (by kernel_rfl) (by rfl) (by rfl) (by kernel_rfl) ?_
      refine ⟨[(o0, Blk.cells [.v (.string m0.gG.gFunc), .v (.int .i64 m0.gG.gNodes), .lst 6 (m0.gG.gEdges.map eTApiEdge) (.cur k0_2), .lst 2 (m0.gG.gVars.map eTApiVar) c0_3, .v (.int .i64 m0.gG.gMany), .v (.int .i64 m0.gAt), .lst 1 (m0.gPlaces.map eI64) c0_6] T0), (b1, Blk.cells [.v (.int .i64 a4.gOp), .v (.string a4.gName), .v (.string a4.gFunc), .lst 5 (a4.gExps.map eTApiExpr) .no, .lst 7 (a4.gKids.map eTApiStmt) .no, .lst 7 (a4.gElse.map eTApiStmt) .no, .v (.int .i64 a4.gAt)] 49), (b2, Blk.cells [.v (.int .i64 a1), .v (.int .i64 a2), .v (.int .i64 a3), .v (.string a4.gName), .v (.string ByteArray.empty), .lst 1 [] .full] 41)], ?_⟩
      apply Exists.intro
      apply Exists.intro
      apply Exists.intro
      apply Exists.intro
      apply Exists.intro
      apply Exists.intro
      apply Exists.intro
      apply Exists.intro
      refine ⟨.any, ?_⟩
      intro bs v14
      refine zh_e rfl rfl (ex_pure htab rfl) rfl rfl rfl rfl rfl rfl rfl rfl ?_
      refine zh_M rfl rfl (fun _ => xm_load 1 htab rfl rfl rfl rfl rfl) (offB rfl) rfl rfl rfl rfl rfl rfl rfl rfl ?_
      refine zh_e rfl rfl (ex_pure htab rfl) rfl rfl rfl rfl rfl rfl rfl rfl ?_
      refine zh_M rfl rfl (fun _ => xm_load 1 htab rfl rfl rfl rfl rfl) (fun _ => xm_load 1 htab rfl rfl rfl rfl rfl) rfl rfl rfl rfl rfl rfl rfl rfl ?_
      refine zh_e rfl rfl (ex_pure htab rfl) rfl rfl rfl rfl rfl rfl rfl rfl ?_
      refine zh_M rfl rfl (fun _ => xm_load 1 htab rfl rfl rfl rfl rfl) (offB rfl) rfl rfl rfl rfl rfl rfl rfl rfl ?_
      refine zh_call rfl rfl (slices_Clone_api_Expr_api_Expr_ok0 a4.gExps x12 q12) rfl rfl (WkL.refl _) rfl rfl rfl rfl rfl rfl rfl rfl ?_
      refine zh_e rfl rfl (ex_pure htab rfl) rfl rfl rfl rfl rfl rfl rfl rfl ?_
      refine zh_store 2 htab rfl rfl rfl rfl rfl rfl rfl rfl rfl rfl rfl rfl rfl rfl rfl rfl ?_
      refine zh_nil rfl rfl rfl rfl (fun e he => by simp [isAl] at he) ?_
      refine p_pure htab rfl rfl rfl rfl ?_
      refine p_store (ds' := [.v (.int .i64 a1), .v (.int .i64 a2), .v (.int .i64 a3), .v (.string a4.gName), .v (.string a4.gFunc), .lst 1 [] .full]) (h' := [(o0, Blk.cells [.v (.string m0.gG.gFunc), .v (.int .i64 m0.gG.gNodes), .lst 6 (m0.gG.gEdges.map eTApiEdge) (.cur k0_2), .lst 2 (m0.gG.gVars.map eTApiVar) c0_3, .v (.int .i64 m0.gG.gMany), .v (.int .i64 m0.gAt), .lst 1 (m0.gPlaces.map eI64) c0_6] T0), (b1, Blk.cells [.v (.int .i64 a4.gOp), .v (.string a4.gName), .v (.string a4.gFunc), .lst 5 (a4.gExps.map eTApiExpr) .no, .lst 7 (a4.gKids.map eTApiStmt) .no, .lst 7 (a4.gElse.map eTApiStmt) .no, .v (.int .i64 a4.gAt)] 49), (b2, Blk.cells [.v (.int .i64 a1), .v (.int .i64 a2), .v (.int .i64 a3), .v (.string a4.gName), .v (.string a4.gFunc), .lst 1 [] .full] 41)]) 2 htab rfl rfl rfl rfl rfl rfl rfl rfl rfl rfl rfl rfl ?_
      refine p_pure htab rfl rfl rfl rfl ?_
      refine p_store (ds' := [.v (.int .i64 a1), .v (.int .i64 a2), .v (.int .i64 a3), .v (.string a4.gName), .v (.string a4.gFunc), .lst 5 (x12.map eTApiExpr) .no]) (h' := [(o0, Blk.cells [.v (.string m0.gG.gFunc), .v (.int .i64 m0.gG.gNodes), .lst 6 (m0.gG.gEdges.map eTApiEdge) (.cur k0_2), .lst 2 (m0.gG.gVars.map eTApiVar) c0_3, .v (.int .i64 m0.gG.gMany), .v (.int .i64 m0.gAt), .lst 1 (m0.gPlaces.map eI64) c0_6] T0), (b1, Blk.cells [.v (.int .i64 a4.gOp), .v (.string a4.gName), .v (.string a4.gFunc), .lst 5 (a4.gExps.map eTApiExpr) .no, .lst 7 (a4.gKids.map eTApiStmt) .no, .lst 7 (a4.gElse.map eTApiStmt) .no, .v (.int .i64 a4.gAt)] 49), (b2, Blk.cells [.v (.int .i64 a1), .v (.int .i64 a2), .v (.int .i64 a3), .v (.string a4.gName), .v (.string a4.gFunc), .lst 5 (x12.map eTApiExpr) .no] 41)]) 2 htab rfl rfl rfl rfl rfl rfl rfl rfl rfl rfl rfl rfl ?_
      refine ops_nil ?_
      have e9 := yes_eq hm; subst e9
      refine ⟨rfl, ?_⟩
      exact WkX.of () (WkS.perm (WkS.cons rfl (Wk.refl _) (WkS.cons rfl (Wk.refl _) (WkS.nil))) (List.Perm.refl _) (List.Perm.refl _))
    · replace hm := yes_f hc10 hm
      refine wpD_skip ?_
      have e9 := yes_eq hm; subst e9
      refine ⟨rfl, ?_⟩
      refine WkX.wk (WkS.blk (ds' := [.v (.int .i64 a1), .v (.int .i64 a2), .v (.int .i64 a3), .v (.string ByteArray.empty), .v (.string ByteArray.empty), .lst 5 (([] : List TApiExpr).map eTApiExpr) .no]) (h' := [(o0, Blk.cells [.v (.string m0.gG.gFunc), .v (.int .i64 m0.gG.gNodes), .lst 6 (m0.gG.gEdges.map eTApiEdge) (.cur k0_2), .lst 2 (m0.gG.gVars.map eTApiVar) c0_3, .v (.int .i64 m0.gG.gMany), .v (.int .i64 m0.gAt), .lst 1 (m0.gPlaces.map eI64) c0_6] T0), (b1, Blk.cells [.v (.int .i64 a4.gOp), .v (.string a4.gName), .v (.string a4.gFunc), .lst 5 (a4.gExps.map eTApiExpr) .no, .lst 7 (a4.gKids.map eTApiStmt) .no, .lst 7 (a4.gElse.map eTApiStmt) .no, .v (.int .i64 a4.gAt)] 49), (b2, Blk.cells [.v (.int .i64 a1), .v (.int .i64 a2), .v (.int .i64 a3), .v (.string ByteArray.empty), .v (.string ByteArray.empty), .lst 5 (([] : List TApiExpr).map eTApiExpr) .no] 41)]) 2 rfl (WkR.cons (WkC.refl _) rfl (WkR.cons (WkC.refl _) rfl (WkR.cons (WkC.refl _) rfl (WkR.cons (WkC.refl _) rfl (WkR.cons (WkC.refl _) rfl (WkR.cons (WkC.nil) rfl (WkR.nil))))))) rfl) ?_
      exact WkX.of () (WkS.perm (WkS.cons rfl (Wk.refl _) (WkS.cons rfl (Wk.refl _) (WkS.nil))) (List.Perm.refl _) (List.Perm.refl _))
  · intro s9 hw9; clear hm; have hm := ho9; clear q9 ho9
    refine then_normal ?_
    refine wpD_wkX hw9 (fun z9 => ?_)
    obtain ⟨x16, q16, hm⟩ := yes_bind hm
    refine wpD_app 9 [] [[],[],[1],[1,2],[1,2,3],[1,2,3,4],[],[6],[1,2,3,4,5,6,7]] [0,1,2,3,4,5,6,7,8] [[],[],[1],[1,2],[1,2,3],[1,2,3,4],[],[6],[1,2,3,4,5,6,7],[0,1,2,3,4,5,6,7,8],[0,1,2,3,4,5,6,7,8,9],[0,1,2,3,4,5,6,7,8,9,10],[0,1,2,3,4,5,6,7,8,9,10,11]] 8 6 0 (by kernel_rfl) (by kernel_rfl) (by kernel_rfl) (by rfl) (by rfl) (by kernel_rfl) rfl ?_
    apply Exists.intro
    apply Exists.intro
    apply Exists.intro
    apply Exists.intro
    apply Exists.intro
    apply Exists.intro
    apply Exists.intro
    apply Exists.intro
    apply Exists.intro
    refine ⟨.any, ?_⟩
    intro bs v16
    refine zh_e rfl rfl (ex_pure htab rfl) rfl rfl rfl rfl rfl rfl rfl rfl ?_
    refine zh_e rfl rfl (ex_pure htab rfl) rfl rfl rfl rfl rfl rfl rfl rfl ?_
    refine zh_e rfl rfl (ex_pure htab rfl) rfl rfl rfl rfl rfl rfl rfl rfl ?_
    refine zh_e rfl rfl (ex_pure htab rfl) rfl rfl rfl rfl rfl rfl rfl rfl ?_
    refine zh_e rfl rfl (ex_pure htab rfl) rfl rfl rfl rfl rfl rfl rfl rfl ?_
    refine zh_M rfl rfl (fun _ => xm_load 0 htab rfl rfl rfl rfl rfl) (offB rfl) rfl rfl rfl rfl rfl rfl rfl rfl ?_
    refine zh_M rfl rfl (fun _ => xm_load (d := eTApiEdge (⟨a1, a2, a3, y9.1, y9.2.1, y9.2.2⟩ : TApiEdge)) 2 htab rfl rfl rfl rfl rfl) (offB rfl) rfl rfl rfl rfl rfl rfl rfl rfl ?_
    refine zh_E rfl rfl (ExE.wk (x_lit htab rfl rfl rfl rfl rfl rfl rfl rfl rfl rfl rfl) (show Wk _ (.lst 6 (([(⟨a1, a2, a3, y9.1, y9.2.1, y9.2.2⟩ : TApiEdge)] : List TApiEdge).map eTApiEdge) .full) from Wk.lst0 (.cons (WkC.refl _) (.nil)))) rfl rfl rfl rfl rfl rfl rfl rfl ?_
    refine zh_app htab rfl rfl rfl rfl rfl rfl rfl rfl (rep_of rfl) rfl (app_kC rfl) (perm_at (j := 0) rfl) rfl rfl rfl rfl rfl rfl rfl rfl rfl (app_bound q16) (app_map q16) ?_
    refine zh_nil rfl rfl rfl rfl (fun e he => by simp [isAl] at he) ?_
    refine p_pure htab rfl rfl rfl rfl ?_
    refine p_pure htab rfl rfl rfl rfl ?_
    refine p_pure htab rfl rfl rfl rfl ?_
    refine p_store (ds' := [.v (.string m0.gG.gFunc), .v (.int .i64 m0.gG.gNodes), .lst 6 (x16.map eTApiEdge) (.cur v16), .lst 2 (m0.gG.gVars.map eTApiVar) c0_3, .v (.int .i64 m0.gG.gMany), .v (.int .i64 m0.gAt), .lst 1 (m0.gPlaces.map eI64) c0_6]) (h' := [(o0, Blk.cells [.v (.string m0.gG.gFunc), .v (.int .i64 m0.gG.gNodes), .lst 6 (x16.map eTApiEdge) (.cur v16), .lst 2 (m0.gG.gVars.map eTApiVar) c0_3, .v (.int .i64 m0.gG.gMany), .v (.int .i64 m0.gAt), .lst 1 (m0.gPlaces.map eI64) c0_6] T0), (b1, Blk.cells [.v (.int .i64 a4.gOp), .v (.string a4.gName), .v (.string a4.gFunc), .lst 5 (a4.gExps.map eTApiExpr) .no, .lst 7 (a4.gKids.map eTApiStmt) .no, .lst 7 (a4.gElse.map eTApiStmt) .no, .v (.int .i64 a4.gAt)] 49), (b2, Blk.cells [.v (.int .i64 a1), .v (.int .i64 a2), .v (.int .i64 a3), .v (.string y9.1), .v (.string y9.2.1), .lst 5 (y9.2.2.map eTApiExpr) .no] 41)]) 0 htab rfl rfl rfl rfl rfl rfl rfl rfl rfl rfl rfl rfl ?_
    refine ops_nil ?_
    have er17 := yes_eq hm; subst er17
    refine retX.of (s' := ⟨[], [(o0, Blk.cells [.v (.string m0.gG.gFunc), .v (.int .i64 m0.gG.gNodes), .lst 6 (x16.map eTApiEdge) (.cur v16), .lst 2 (m0.gG.gVars.map eTApiVar) c0_3, .v (.int .i64 m0.gG.gMany), .v (.int .i64 m0.gAt), .lst 1 (m0.gPlaces.map eI64) c0_6] T0)], [(6, v16)]⟩) (WkS.perm (WkS.nil) (List.Perm.refl _) (List.Perm.refl _)) (retD_mk (hh := [(o0, Blk.cells [.v (.string m0.gG.gFunc), .v (.int .i64 m0.gG.gNodes), .lst 6 (x16.map eTApiEdge) (.cur v16), .lst 2 (m0.gG.gVars.map eTApiVar) c0_3, .v (.int .i64 m0.gG.gMany), .v (.int .i64 m0.gAt), .lst 1 (m0.gPlaces.map eI64) c0_6] T0)]) (.inr rfl) (resL_nil) (List.Sublist.refl _) (List.Sublist.refl _) ?_)
    exact ⟨v16, rfl, rfl, rfl⟩
noncomputable def flow_maker_step (m0 : TFlowMaker) (a1 : Int) (a2 : TApiStmt) : Option (TFlowMaker) :=
  ((flow_maker_node m0).bind fun x2 => ((flow_maker_edge (⟨x2.2.gG, x2.1, x2.2.gPlaces⟩ : TFlowMaker) m0.gAt x2.1 a1 a2).bind fun x4 => some x4))
set_option maxRecDepth 100000 in
set_option maxHeartbeats 2000000 in
theorem flow_maker_step_ok (m0 : TFlowMaker) (a1 : Int) (a2 : TApiStmt) (o0 : Nat) (T0 : TypeId) (k0_2 : Value) (c0_3 : Cap) (c0_6 : Cap) (r : TFlowMaker) (h0 : flow_maker_step m0 a1 a2 = some r) : CallsD Try.prog 25 [.ptr o0 0, .v (.int .i64 a1), eTApiStmt a2] [(o0, Blk.cells [.v (.string m0.gG.gFunc), .v (.int .i64 m0.gG.gNodes), .lst 6 (m0.gG.gEdges.map eTApiEdge) (.cur k0_2), .lst 2 (m0.gG.gVars.map eTApiVar) c0_3, .v (.int .i64 m0.gG.gMany), .v (.int .i64 m0.gAt), .lst 1 (m0.gPlaces.map eI64) c0_6] T0)] [(6, k0_2)] (fun d h k => ∃ y0, d = .tup [] ∧ h = [(o0, Blk.cells [.v (.string r.gG.gFunc), .v (.int .i64 r.gG.gNodes), .lst 6 (r.gG.gEdges.map eTApiEdge) (.cur y0), .lst 2 (r.gG.gVars.map eTApiVar) c0_3, .v (.int .i64 r.gG.gMany), .v (.int .i64 r.gAt), .lst 1 (r.gPlaces.map eI64) c0_6] T0)] ∧ k = [(6, y0)]) := by
  have hm := yes_of h0
  unfold flow_maker_step at hm
  clear h0
  refine enterX htab Try.func25 rfl rfl rfl rfl rfl (fun C => ?_)
  refine w_eq (i := 2) rfl (Wk.of_eq (eTApiStmt_eq a2)) ?_
  refine wpD_seq ?_
  refine wpD_region ?_
  refine p_box rfl rfl rfl rfl rfl rfl rfl (fun b1 => ?_)
  refine ops_nil ?_
  refine then_normal ?_
  refine wpD_seq ?_
  refine wpD_region ?_
  refine p_pure htab rfl rfl rfl rfl ?_
  refine p_pure htab rfl rfl rfl rfl ?_
  refine p_pure htab rfl rfl rfl rfl ?_
  refine p_load 0 htab rfl rfl rfl rfl rfl rfl rfl rfl ?_
  refine p_pure htab rfl rfl rfl rfl ?_
  refine ops_nil ?_
  refine then_normal ?_
  refine wpD_seq ?_
  refine wpD_region ?_
  refine p_pure htab rfl rfl rfl rfl ?_
  refine p_pure htab rfl rfl rfl rfl ?_
  obtain ⟨x2, q2, hm⟩ := yes_bind hm
  refine p_callG (flow_maker_node_ok m0 o0 T0 (.cur k0_2) c0_3 c0_6 x2 q2) rfl rfl rfl rfl rfl (WkL.refl _) (List.Perm.refl _) (List.Perm.refl _) ?_
  rintro _ _ _ ⟨rfl, rfl, rfl⟩
  refine p_pure htab rfl rfl rfl rfl ?_
  refine p_pure htab rfl rfl rfl rfl ?_
  refine p_store (ds' := [.v (.string x2.2.gG.gFunc), .v (.int .i64 x2.2.gG.gNodes), .lst 6 (x2.2.gG.gEdges.map eTApiEdge) (.cur k0_2), .lst 2 (x2.2.gG.gVars.map eTApiVar) c0_3, .v (.int .i64 x2.2.gG.gMany), .v (.int .i64 x2.1), .lst 1 (x2.2.gPlaces.map eI64) c0_6]) (h' := [(o0, Blk.cells [.v (.string x2.2.gG.gFunc), .v (.int .i64 x2.2.gG.gNodes), .lst 6 (x2.2.gG.gEdges.map eTApiEdge) (.cur k0_2), .lst 2 (x2.2.gG.gVars.map eTApiVar) c0_3, .v (.int .i64 x2.2.gG.gMany), .v (.int .i64 x2.1), .lst 1 (x2.2.gPlaces.map eI64) c0_6] T0), (b1, Blk.cells [.v (.int .i64 a2.gOp), .v (.string a2.gName), .v (.string a2.gFunc), .lst 5 (a2.gExps.map eTApiExpr) .no, .lst 7 (a2.gKids.map eTApiStmt) .no, .lst 7 (a2.gElse.map eTApiStmt) .no, .v (.int .i64 a2.gAt)] 49)]) 0 htab rfl rfl rfl rfl rfl rfl rfl rfl rfl rfl rfl rfl ?_
  refine ops_nil ?_
  refine then_normal ?_
  refine wpD_draws 8 [] [[],[],[],[2],[2,3],[2,3,4],[],[]] [0,2,3,4,7] [[],[],[],[2],[2,3],[2,3,4],[],[],[0,1,2,3,4,5,6,7]] (by kernel_rfl) (by kernel_rfl) (by kernel_rfl) (by rfl) (by rfl) (by kernel_rfl) ?_
  apply Exists.intro
  apply Exists.intro
  apply Exists.intro
  apply Exists.intro
  apply Exists.intro
  intro bs
  refine z_e rfl rfl (ex_pure htab rfl) rfl rfl rfl rfl rfl rfl ?_
  refine z_q rfl rfl (ex_pure htab rfl) rfl rfl rfl rfl rfl rfl ?_
  refine z_e rfl rfl (ex_pure htab rfl) rfl rfl rfl rfl rfl rfl ?_
  refine z_e rfl rfl (ex_pure htab rfl) rfl rfl rfl rfl rfl rfl ?_
  refine z_e rfl rfl (ex_pure htab rfl) rfl rfl rfl rfl rfl rfl ?_
  refine z_qM rfl rfl (xm_load 0 htab rfl rfl rfl rfl rfl) rfl rfl rfl rfl rfl rfl ?_
  refine z_q rfl rfl (ex_pure htab rfl) rfl rfl rfl rfl rfl rfl ?_
  refine z_eM rfl rfl (xm_load (d := .agg [.v (.int .i64 a2.gOp), .v (.string a2.gName), .v (.string a2.gFunc), .lst 5 (a2.gExps.map eTApiExpr) .no, .lst 7 (a2.gKids.map eTApiStmt) .no, .lst 7 (a2.gElse.map eTApiStmt) .no, .v (.int .i64 a2.gAt)]) 1 htab rfl rfl rfl rfl rfl) rfl rfl rfl rfl rfl rfl ?_
  refine z_nil rfl rfl (fun e he => by simp [isAl] at he) ?_
  obtain ⟨x4, q4, hm⟩ := yes_bind hm
  refine p_callG (flow_maker_edge_ok (⟨x2.2.gG, x2.1, x2.2.gPlaces⟩ : TFlowMaker) m0.gAt x2.1 a1 a2 o0 T0 k0_2 c0_3 c0_6 x4 q4) rfl rfl rfl rfl rfl (WkL.cons (Wk.refl _) (WkL.cons (Wk.refl _) (WkL.cons (Wk.refl _) (WkL.cons (Wk.refl _) (WkL.cons (Wk.trans (Wk.agg (WkR.refl _)) (Wk.of_eq (eTApiStmt_eq a2).symm)) (WkL.refl _)))))) (List.Perm.refl _) (List.Perm.refl _) ?_
  rintro _ _ _ ⟨w3, rfl, rfl, rfl⟩
  refine ops_nil ?_
  have er5 := yes_eq hm; subst er5
  refine retX.of (s' := ⟨[], [(o0, Blk.cells [.v (.string x4.gG.gFunc), .v (.int .i64 x4.gG.gNodes), .lst 6 (x4.gG.gEdges.map eTApiEdge) (.cur w3), .lst 2 (x4.gG.gVars.map eTApiVar) c0_3, .v (.int .i64 x4.gG.gMany), .v (.int .i64 x4.gAt), .lst 1 (x4.gPlaces.map eI64) c0_6] T0)], [(6, w3)]⟩) (WkS.perm (WkS.nil) (List.Perm.refl _) (List.Perm.refl _)) (retD_mk (hh := [(o0, Blk.cells [.v (.string x4.gG.gFunc), .v (.int .i64 x4.gG.gNodes), .lst 6 (x4.gG.gEdges.map eTApiEdge) (.cur w3), .lst 2 (x4.gG.gVars.map eTApiVar) c0_3, .v (.int .i64 x4.gG.gMany), .v (.int .i64 x4.gAt), .lst 1 (x4.gPlaces.map eI64) c0_6] T0)]) (.inr rfl) (resL_nil) (List.Sublist.refl _) (List.Sublist.refl _) ?_)
  exact ⟨w3, rfl, rfl, rfl⟩
end Go.Proofs.Ytpapooaaccmnpaa.Ab
