/- The laws of sameness and of bare trees, of what is read. -/
import Derived.Test.YtphpnbdfngdinaaTm5
import Derived.Test.YtphpnbdfngdinaaTmg
namespace Go.Proofs.Ytphpnbdfngdinaa.Ab
open Go
set_option linter.all false
theorem wts_varlen : ∀ l : List TApiVar, l.length ≤ wts (l.map eTApiVar)
  | [] => by simp
  | v :: l => by
    have := wts_varlen l
    simp only [List.length_cons, List.map_cons, wts]
    have h : 1 ≤ wt (eTApiVar v) := by
      unfold eTApiVar; simp only [wt, wts, wtv]; omega
    omega
theorem wt_func (a : TApiFunc) : a.gParams.length ≤ wt (eTApiFunc a) ∧ a.gLocals.length ≤ wt (eTApiFunc a) ∧ szSs a.gBody ≤ wt (eTApiFunc a) := by
  have h1 := wts_varlen a.gParams
  have h2 := wts_varlen a.gLocals
  have h3 := szSs_le a.gBody
  unfold wSs at h3
  unfold eTApiFunc
  simp only [wt, wts, wtv]
  omega
theorem wt_two (a : T2ApiExpr) : szE a.g0 ≤ wt (eT2ApiExpr a) := by
  have h1 := szEs_le a.g0.gKids
  have h2 := szE_eq a.g0
  unfold wEs at h1
  unfold eT2ApiExpr
  simp only [wt, wts, wtv]
  omega
theorem TreeSame_true (a0 : TApiFunc) (a1 : TApiFunc) (a2 : T2ApiExpr) (h : wt (eTApiFunc a0) + wt (eTApiFunc a1) + wt (eT2ApiExpr a2) ≤ 1048576) (k0 : wfTApiFunc a0) (k1 : wfTApiFunc a1) (k2 : wfT2ApiExpr a2) : l11_TreeSame a0 a1 a2 = some true := by
  have h1 := wt_func a0
  have h2 := wt_two a2
  exact same_law (by omega) (by omega) (by omega) (by omega)
theorem TreeBare_true (a0 : List TApiStmt) (h : wt (.lst 7 (a0.map eTApiStmt) .no) ≤ 1048576) (k0 : wfL22 a0) : l11_TreeBare a0 = some true := by
  rw [wt_lst] at h
  have := szSs_le a0
  exact bare_law (by omega)
end Go.Proofs.Ytphpnbdfngdinaa.Ab
