/- Layer 12: what the functions compute. -/
import Derived.Test.YtbfbipcjdiipaaaPa1c
namespace Go.Proofs.Ytbfbipcjdiipaaa.Ab
end Go.Proofs.Ytbfbipcjdiipaaa.Ab
