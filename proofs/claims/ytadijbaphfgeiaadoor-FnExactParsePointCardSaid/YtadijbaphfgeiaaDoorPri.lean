/- Pri: contracts of primality tests and residues. No conditions. -/
import Derived.Test.YtadijbaphfgeiaaDoorCur
namespace Go.Proofs.YtadijbaphfgeiaaDoor
open Go.RowKit

end Go.Proofs.YtadijbaphfgeiaaDoor
