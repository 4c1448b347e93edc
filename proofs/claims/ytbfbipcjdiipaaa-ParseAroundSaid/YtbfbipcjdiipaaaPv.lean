/- Layer 12: it lives. -/
import Derived.Test.YtbfbipcjdiipaaaCt
import Derived.KernelRfl
namespace Go.Proofs.Ytbfbipcjdiipaaa.Ab
open Go
set_option linter.all false
theorem lives12 : l12_lives = some true := (l12_lives_cle 70).of (by kernel_rfl)
end Go.Proofs.Ytbfbipcjdiipaaa.Ab
