/- Layer 18: what the functions compute. -/
import Derived.Test.YtpeimfcmhedjmaaCh1d
namespace Go.Proofs.Ytpeimfcmhedjmaa.Ab
end Go.Proofs.Ytpeimfcmhedjmaa.Ab
