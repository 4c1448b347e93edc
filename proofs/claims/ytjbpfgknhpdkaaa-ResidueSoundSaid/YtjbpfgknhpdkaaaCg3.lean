/- Layer 5, the laws. -/
import Derived.Test.YtjbpfgknhpdkaaaCg2
namespace Go.Proofs.Ytjbpfgknhpdkaaa.Ab
open Go
set_option linter.all false
end Go.Proofs.Ytjbpfgknhpdkaaa.Ab
