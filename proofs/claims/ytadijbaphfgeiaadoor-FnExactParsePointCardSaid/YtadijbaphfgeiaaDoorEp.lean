/- Ep: contract: spec.ecPart: a fraction in lowest terms. No conditions. -/
import Derived.Test.YtadijbaphfgeiaaDoorMf
namespace Go.Proofs.YtadijbaphfgeiaaDoor
open Go.RowKit

end Go.Proofs.YtadijbaphfgeiaaDoor
