/- Layer 11: what is read. -/
import Derived.Test.YtphpnbdfngdinaaTm4
import Derived.Test.YtphpnbdfngdinaaRb
import Derived.Test.YtphpnbdfngdinaaFr
namespace Go.Proofs.Ytphpnbdfngdinaa.Ab
open Go
set_option linter.all false
def wfTApiExpr (_ : TApiExpr) : Prop := True
theorem goodTApiExpr_n : ∀ (n : Nat) {d : D} (g : GoodT tab n 34 d), ∃ x : TApiExpr, d = eTApiExpr x ∧ wfTApiExpr x
  | 0, d, g => by simp [GoodT] at g
  | n + 1, d, g => by
    obtain ⟨n', ds, hn, rfl, hl, h⟩ := good_struct ti34 rfl g
    obtain rfl : n' = n := by omega
    match ds, hl with
    | [d0, d1, d2, d3, d4], _ =>
      obtain ⟨x1, rfl, w1⟩ := good_int ti3 rfl (h 0 _ _ rfl rfl)
      obtain ⟨x2, rfl, w2⟩ := good_int ti3 rfl (h 1 _ _ rfl rfl)
      obtain ⟨x3, rfl, w3⟩ := good_str ti9 rfl (h 2 _ _ rfl rfl)
      obtain ⟨n4, zs4, hn4, rfl, hl4, hz4⟩ := good_slice ti32 rfl ti34 (h 3 _ _ rfl rfl)
      obtain ⟨x4, rfl, w4⟩ := good_list (f := eTApiExpr) (K := (fun y => wfTApiExpr y)) (p := fun x => GoodT tab n4 34 x) (fun x hx => by obtain ⟨x5, rfl, w5⟩ := goodTApiExpr_n _ (hx); exact ⟨x5, rfl, w5⟩) zs4 hz4
      obtain ⟨x6, rfl, w6⟩ := good_int ti3 rfl (h 4 _ _ rfl rfl)
      exact ⟨⟨x1, x2, x3, x4, x6⟩, by rw [eTApiExpr_eq]; rfl, trivial⟩
theorem goodTApiExpr {n : Nat} {d : D} (g : GoodT tab n 34 d) : ∃ x : TApiExpr, d = eTApiExpr x ∧ wfTApiExpr x := goodTApiExpr_n n g
def wfTApiStmt (_ : TApiStmt) : Prop := True
theorem goodTApiStmt_n : ∀ (n : Nat) {d : D} (g : GoodT tab n 56 d), ∃ x : TApiStmt, d = eTApiStmt x ∧ wfTApiStmt x
  | 0, d, g => by simp [GoodT] at g
  | n + 1, d, g => by
    obtain ⟨n', ds, hn, rfl, hl, h⟩ := good_struct ti56 rfl g
    obtain rfl : n' = n := by omega
    match ds, hl with
    | [d0, d1, d2, d3, d4, d5, d6], _ =>
      obtain ⟨x1, rfl, w1⟩ := good_int ti3 rfl (h 0 _ _ rfl rfl)
      obtain ⟨x2, rfl, w2⟩ := good_str ti9 rfl (h 1 _ _ rfl rfl)
      obtain ⟨x3, rfl, w3⟩ := good_str ti9 rfl (h 2 _ _ rfl rfl)
      obtain ⟨n4, zs4, hn4, rfl, hl4, hz4⟩ := good_slice ti32 rfl ti34 (h 3 _ _ rfl rfl)
      obtain ⟨x4, rfl, w4⟩ := good_list (f := eTApiExpr) (K := (fun y => wfTApiExpr y)) (p := fun x => GoodT tab n4 34 x) (fun x hx => by obtain ⟨x5, rfl, w5⟩ := goodTApiExpr (hx); exact ⟨x5, rfl, w5⟩) zs4 hz4
      obtain ⟨n6, zs6, hn6, rfl, hl6, hz6⟩ := good_slice ti22 rfl ti56 (h 4 _ _ rfl rfl)
      obtain ⟨x6, rfl, w6⟩ := good_list (f := eTApiStmt) (K := (fun y => wfTApiStmt y)) (p := fun x => GoodT tab n6 56 x) (fun x hx => by obtain ⟨x7, rfl, w7⟩ := goodTApiStmt_n _ (hx); exact ⟨x7, rfl, w7⟩) zs6 hz6
      obtain ⟨n8, zs8, hn8, rfl, hl8, hz8⟩ := good_slice ti22 rfl ti56 (h 5 _ _ rfl rfl)
      obtain ⟨x8, rfl, w8⟩ := good_list (f := eTApiStmt) (K := (fun y => wfTApiStmt y)) (p := fun x => GoodT tab n8 56 x) (fun x hx => by obtain ⟨x9, rfl, w9⟩ := goodTApiStmt_n _ (hx); exact ⟨x9, rfl, w9⟩) zs8 hz8
      obtain ⟨x10, rfl, w10⟩ := good_int ti3 rfl (h 6 _ _ rfl rfl)
      exact ⟨⟨x1, x2, x3, x4, x6, x8, x10⟩, by rw [eTApiStmt_eq]; rfl, trivial⟩
theorem goodTApiStmt {n : Nat} {d : D} (g : GoodT tab n 56 d) : ∃ x : TApiStmt, d = eTApiStmt x ∧ wfTApiStmt x := goodTApiStmt_n n g
def wfL22 : List TApiStmt → Prop := (fun y => (y.length ≤ maxLen ∧ ∀ z ∈ y, wfTApiStmt z))
theorem goodL22 {n : Nat} {d : D} (g : GoodT tab n 22 d) : ∃ x : List TApiStmt, d = .lst 7 (x.map eTApiStmt) .no ∧ wfL22 x := by
  obtain ⟨n1, zs1, _, rfl, hl1, hz1⟩ := good_slice ti22 rfl ti56 (g)
  obtain ⟨x1, rfl, w1⟩ := good_list (f := eTApiStmt) (K := (fun y => wfTApiStmt y)) (p := fun x => GoodT tab n1 56 x) (fun x hx => by obtain ⟨x2, rfl, w2⟩ := goodTApiStmt (hx); exact ⟨x2, rfl, w2⟩) zs1 hz1
  exact ⟨x1, rfl, ⟨by simpa using hl1, w1⟩⟩
def wfTApiVar (x : TApiVar) : Prop := x.gName.size ≤ maxLen
theorem goodTApiVar {n : Nat} {d : D} (g : GoodT tab n 71 d) : ∃ x : TApiVar, d = eTApiVar x ∧ wfTApiVar x := by
  obtain ⟨n', ds, _, rfl, hl, h⟩ := good_struct ti71 rfl g
  match ds, hl with
  | [d0, d1], _ =>
    obtain ⟨x1, rfl, w1⟩ := good_str ti9 rfl (h 0 _ _ rfl rfl)
    obtain ⟨x2, rfl⟩ := good_bool ti4 rfl (h 1 _ _ rfl rfl)
    exact ⟨⟨x1, x2⟩, rfl, w1⟩
def wfTApiFunc (x : TApiFunc) : Prop := x.gName.size ≤ maxLen ∧ (x.gParams.length ≤ maxLen ∧ ∀ y ∈ x.gParams, wfTApiVar y) ∧ (x.gLocals.length ≤ maxLen ∧ ∀ y ∈ x.gLocals, wfTApiVar y) ∧ (x.gBody.length ≤ maxLen ∧ ∀ y ∈ x.gBody, wfTApiStmt y) ∧ (Lit.int .i64 x.gAt).wf = true
theorem goodTApiFunc {n : Nat} {d : D} (g : GoodT tab n 43 d) : ∃ x : TApiFunc, d = eTApiFunc x ∧ wfTApiFunc x := by
  obtain ⟨n', ds, _, rfl, hl, h⟩ := good_struct ti43 rfl g
  match ds, hl with
  | [d0, d1, d2, d3, d4], _ =>
    obtain ⟨x1, rfl, w1⟩ := good_str ti9 rfl (h 0 _ _ rfl rfl)
    obtain ⟨n2, zs2, _, rfl, hl2, hz2⟩ := good_slice ti41 rfl ti71 (h 1 _ _ rfl rfl)
    obtain ⟨x2, rfl, w2⟩ := good_list (f := eTApiVar) (K := (fun y => wfTApiVar y)) (p := fun x => GoodT tab n2 71 x) (fun x hx => by obtain ⟨x3, rfl, w3⟩ := goodTApiVar (hx); exact ⟨x3, rfl, w3⟩) zs2 hz2
    obtain ⟨n4, zs4, _, rfl, hl4, hz4⟩ := good_slice ti41 rfl ti71 (h 2 _ _ rfl rfl)
    obtain ⟨x4, rfl, w4⟩ := good_list (f := eTApiVar) (K := (fun y => wfTApiVar y)) (p := fun x => GoodT tab n4 71 x) (fun x hx => by obtain ⟨x5, rfl, w5⟩ := goodTApiVar (hx); exact ⟨x5, rfl, w5⟩) zs4 hz4
    obtain ⟨n6, zs6, _, rfl, hl6, hz6⟩ := good_slice ti22 rfl ti56 (h 3 _ _ rfl rfl)
    obtain ⟨x6, rfl, w6⟩ := good_list (f := eTApiStmt) (K := (fun y => wfTApiStmt y)) (p := fun x => GoodT tab n6 56 x) (fun x hx => by obtain ⟨x7, rfl, w7⟩ := goodTApiStmt (hx); exact ⟨x7, rfl, w7⟩) zs6 hz6
    obtain ⟨x8, rfl, w8⟩ := good_int ti3 rfl (h 4 _ _ rfl rfl)
    exact ⟨⟨x1, x2, x4, x6, x8⟩, rfl, w1, ⟨by simpa using hl2, w2⟩, ⟨by simpa using hl4, w4⟩, ⟨by simpa using hl6, w6⟩, w8⟩
def wfT2ApiExpr (x : T2ApiExpr) : Prop := wfTApiExpr x.g0 ∧ wfTApiExpr x.g1
theorem goodT2ApiExpr {n : Nat} {d : D} (g : GoodT tab n 44 d) : ∃ x : T2ApiExpr, d = eT2ApiExpr x ∧ wfT2ApiExpr x := by
  obtain ⟨n', ds, _, rfl, hl, h⟩ := good_array ti44 rfl g
  match ds, hl with
  | [d0, d1], _ =>
    obtain ⟨x1, rfl, w1⟩ := goodTApiExpr (h d0 (by simp))
    obtain ⟨x2, rfl, w2⟩ := goodTApiExpr (h d1 (by simp))
    exact ⟨⟨x1, x2⟩, by simp only [List.flatMap_cons, List.flatMap_nil, eTApiExpr_eq, dcells]; rfl, w1, w2⟩
theorem wt_lst (k : Nat) (l : List TApiStmt) : wt (.lst k (l.map eTApiStmt) .no) = wSs l + 1 := by simp only [wt, wSs]
theorem TreeMeasures_true (a0 : TApiExpr) (a1 : List TApiStmt) (h : wt (eTApiExpr a0) + wt (.lst 7 (a1.map eTApiStmt) .no) ≤ 1048576) (k0 : wfTApiExpr a0) (k1 : wfL22 a1) : l11_TreeMeasures a0 a1 = some true := by
  rw [wt_lst] at h
  exact measures (by unfold wE; omega)
end Go.Proofs.Ytphpnbdfngdinaa.Ab
