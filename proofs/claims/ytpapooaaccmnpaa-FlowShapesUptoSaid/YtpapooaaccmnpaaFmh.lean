/- Layer 17: what is read. -/
import Derived.Test.YtpapooaaccmnpaaFq4
import Derived.Test.YtpapooaaccmnpaaFr
namespace Go.Proofs.Ytpapooaaccmnpaa.Ab
open Go
set_option linter.all false
def wfTApiVar (x : TApiVar) : Prop := x.gName.size ≤ maxLen
theorem goodTApiVar {n : Nat} {d : D} (g : GoodT tab n 52 d) : ∃ x : TApiVar, d = eTApiVar x ∧ wfTApiVar x := by
  obtain ⟨n', ds, _, rfl, hl, h⟩ := good_struct ti52 rfl g
  match ds, hl with
  | [d0, d1], _ =>
    obtain ⟨x1, rfl, w1⟩ := good_str ti9 rfl (h 0 _ _ rfl rfl)
    obtain ⟨x2, rfl⟩ := good_bool ti4 rfl (h 1 _ _ rfl rfl)
    exact ⟨⟨x1, x2⟩, rfl, w1⟩
def wfTApiExpr (_ : TApiExpr) : Prop := True
theorem goodTApiExpr_n : ∀ (n : Nat) {d : D} (g : GoodT tab n 47 d), ∃ x : TApiExpr, d = eTApiExpr x ∧ wfTApiExpr x
  | 0, d, g => by simp [GoodT] at g
  | n + 1, d, g => by
    obtain ⟨n', ds, hn, rfl, hl, h⟩ := good_struct ti47 rfl g
    obtain rfl : n' = n := by omega
    match ds, hl with
    | [d0, d1, d2, d3, d4], _ =>
      obtain ⟨x1, rfl, w1⟩ := good_int ti3 rfl (h 0 _ _ rfl rfl)
      obtain ⟨x2, rfl, w2⟩ := good_int ti3 rfl (h 1 _ _ rfl rfl)
      obtain ⟨x3, rfl, w3⟩ := good_str ti9 rfl (h 2 _ _ rfl rfl)
      obtain ⟨n4, zs4, hn4, rfl, hl4, hz4⟩ := good_slice ti39 rfl ti47 (h 3 _ _ rfl rfl)
      obtain ⟨x4, rfl, w4⟩ := good_list (f := eTApiExpr) (K := (fun y => wfTApiExpr y)) (p := fun x => GoodT tab n4 47 x) (fun x hx => by obtain ⟨x5, rfl, w5⟩ := goodTApiExpr_n _ (hx); exact ⟨x5, rfl, w5⟩) zs4 hz4
      obtain ⟨x6, rfl, w6⟩ := good_int ti3 rfl (h 4 _ _ rfl rfl)
      exact ⟨⟨x1, x2, x3, x4, x6⟩, by rw [eTApiExpr_eq]; rfl, trivial⟩
theorem goodTApiExpr {n : Nat} {d : D} (g : GoodT tab n 47 d) : ∃ x : TApiExpr, d = eTApiExpr x ∧ wfTApiExpr x := goodTApiExpr_n n g
def wfTApiStmt (_ : TApiStmt) : Prop := True
theorem goodTApiStmt_n : ∀ (n : Nat) {d : D} (g : GoodT tab n 49 d), ∃ x : TApiStmt, d = eTApiStmt x ∧ wfTApiStmt x
  | 0, d, g => by simp [GoodT] at g
  | n + 1, d, g => by
    obtain ⟨n', ds, hn, rfl, hl, h⟩ := good_struct ti49 rfl g
    obtain rfl : n' = n := by omega
    match ds, hl with
    | [d0, d1, d2, d3, d4, d5, d6], _ =>
      obtain ⟨x1, rfl, w1⟩ := good_int ti3 rfl (h 0 _ _ rfl rfl)
      obtain ⟨x2, rfl, w2⟩ := good_str ti9 rfl (h 1 _ _ rfl rfl)
      obtain ⟨x3, rfl, w3⟩ := good_str ti9 rfl (h 2 _ _ rfl rfl)
      obtain ⟨n4, zs4, hn4, rfl, hl4, hz4⟩ := good_slice ti39 rfl ti47 (h 3 _ _ rfl rfl)
      obtain ⟨x4, rfl, w4⟩ := good_list (f := eTApiExpr) (K := (fun y => wfTApiExpr y)) (p := fun x => GoodT tab n4 47 x) (fun x hx => by obtain ⟨x5, rfl, w5⟩ := goodTApiExpr (hx); exact ⟨x5, rfl, w5⟩) zs4 hz4
      obtain ⟨n6, zs6, hn6, rfl, hl6, hz6⟩ := good_slice ti23 rfl ti49 (h 4 _ _ rfl rfl)
      obtain ⟨x6, rfl, w6⟩ := good_list (f := eTApiStmt) (K := (fun y => wfTApiStmt y)) (p := fun x => GoodT tab n6 49 x) (fun x hx => by obtain ⟨x7, rfl, w7⟩ := goodTApiStmt_n _ (hx); exact ⟨x7, rfl, w7⟩) zs6 hz6
      obtain ⟨n8, zs8, hn8, rfl, hl8, hz8⟩ := good_slice ti23 rfl ti49 (h 5 _ _ rfl rfl)
      obtain ⟨x8, rfl, w8⟩ := good_list (f := eTApiStmt) (K := (fun y => wfTApiStmt y)) (p := fun x => GoodT tab n8 49 x) (fun x hx => by obtain ⟨x9, rfl, w9⟩ := goodTApiStmt_n _ (hx); exact ⟨x9, rfl, w9⟩) zs8 hz8
      obtain ⟨x10, rfl, w10⟩ := good_int ti3 rfl (h 6 _ _ rfl rfl)
      exact ⟨⟨x1, x2, x3, x4, x6, x8, x10⟩, by rw [eTApiStmt_eq]; rfl, trivial⟩
theorem goodTApiStmt {n : Nat} {d : D} (g : GoodT tab n 49 d) : ∃ x : TApiStmt, d = eTApiStmt x ∧ wfTApiStmt x := goodTApiStmt_n n g
def wfTApiFunc (x : TApiFunc) : Prop := x.gName.size ≤ maxLen ∧ (x.gParams.length ≤ maxLen ∧ ∀ y ∈ x.gParams, wfTApiVar y) ∧ (x.gLocals.length ≤ maxLen ∧ ∀ y ∈ x.gLocals, wfTApiVar y) ∧ (x.gBody.length ≤ maxLen ∧ ∀ y ∈ x.gBody, wfTApiStmt y) ∧ (Lit.int .i64 x.gAt).wf = true
theorem goodTApiFunc {n : Nat} {d : D} (g : GoodT tab n 25 d) : ∃ x : TApiFunc, d = eTApiFunc x ∧ wfTApiFunc x := by
  obtain ⟨n', ds, _, rfl, hl, h⟩ := good_struct ti25 rfl g
  match ds, hl with
  | [d0, d1, d2, d3, d4], _ =>
    obtain ⟨x1, rfl, w1⟩ := good_str ti9 rfl (h 0 _ _ rfl rfl)
    obtain ⟨n2, zs2, _, rfl, hl2, hz2⟩ := good_slice ti22 rfl ti52 (h 1 _ _ rfl rfl)
    obtain ⟨x2, rfl, w2⟩ := good_list (f := eTApiVar) (K := (fun y => wfTApiVar y)) (p := fun x => GoodT tab n2 52 x) (fun x hx => by obtain ⟨x3, rfl, w3⟩ := goodTApiVar (hx); exact ⟨x3, rfl, w3⟩) zs2 hz2
    obtain ⟨n4, zs4, _, rfl, hl4, hz4⟩ := good_slice ti22 rfl ti52 (h 2 _ _ rfl rfl)
    obtain ⟨x4, rfl, w4⟩ := good_list (f := eTApiVar) (K := (fun y => wfTApiVar y)) (p := fun x => GoodT tab n4 52 x) (fun x hx => by obtain ⟨x5, rfl, w5⟩ := goodTApiVar (hx); exact ⟨x5, rfl, w5⟩) zs4 hz4
    obtain ⟨n6, zs6, _, rfl, hl6, hz6⟩ := good_slice ti23 rfl ti49 (h 3 _ _ rfl rfl)
    obtain ⟨x6, rfl, w6⟩ := good_list (f := eTApiStmt) (K := (fun y => wfTApiStmt y)) (p := fun x => GoodT tab n6 49 x) (fun x hx => by obtain ⟨x7, rfl, w7⟩ := goodTApiStmt (hx); exact ⟨x7, rfl, w7⟩) zs6 hz6
    obtain ⟨x8, rfl, w8⟩ := good_int ti3 rfl (h 4 _ _ rfl rfl)
    exact ⟨⟨x1, x2, x4, x6, x8⟩, rfl, w1, ⟨by simpa using hl2, w2⟩, ⟨by simpa using hl4, w4⟩, ⟨by simpa using hl6, w6⟩, w8⟩
theorem wts_varlen : ∀ l : List TApiVar, l.length ≤ wts (l.map eTApiVar)
  | [] => by simp
  | v :: l => by
    have := wts_varlen l
    simp only [List.length_cons, List.map_cons, wts]
    have h : 1 ≤ wt (eTApiVar v) := by
      unfold eTApiVar; simp only [wt, wts, wtv]; omega
    omega
theorem wt_func (a : TApiFunc) (h : wt (eTApiFunc a) ≤ 1048576) : FnB a := by
  have h1 := wts_varlen a.gParams
  have h2 := wts_varlen a.gLocals
  unfold eTApiFunc at h
  simp only [wt, wts, wtv] at h
  unfold FnB wSs
  omega
theorem FlowShapes_true (a0 : TApiFunc) (h : wt (eTApiFunc a0) ≤ 1048576) (k0 : wfTApiFunc a0) : l17_FlowShapes a0 = some true := shapes_law (wt_func a0 h)
end Go.Proofs.Ytpapooaaccmnpaa.Ab
