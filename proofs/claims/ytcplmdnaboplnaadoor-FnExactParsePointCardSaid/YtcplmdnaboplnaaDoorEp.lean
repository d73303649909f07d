/- Ep: contract: spec.ecPart: a fraction in lowest terms. No conditions. -/
import Derived.Test.YtcplmdnaboplnaaDoorMf
namespace Go.Proofs.YtcplmdnaboplnaaDoor
open Go.RowKit

end Go.Proofs.YtcplmdnaboplnaaDoor
