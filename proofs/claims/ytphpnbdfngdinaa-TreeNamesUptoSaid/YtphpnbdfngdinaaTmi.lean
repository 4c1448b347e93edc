/- The law of names, of what is read. -/
import Derived.Test.YtphpnbdfngdinaaTm6
import Derived.Test.YtphpnbdfngdinaaTmg
namespace Go.Proofs.Ytphpnbdfngdinaa.Ab
open Go
set_option linter.all false
theorem TreeNames_true (a0 : List TApiStmt) (h : wt (.lst 7 (a0.map eTApiStmt) .no) ≤ 1048576) (k0 : wfL22 a0) : l11_TreeNames a0 = some true := by
  rw [wt_lst] at h
  have := szSs_le a0
  exact names_law (by omega)
end Go.Proofs.Ytphpnbdfngdinaa.Ab
