/- Pri: contracts of primality tests and residues. No conditions. -/
import Derived.Test.YtgcoodfjdcfnpaaDoorCur
namespace Go.Proofs.YtgcoodfjdcfnpaaDoor
open Go.RowKit

end Go.Proofs.YtgcoodfjdcfnpaaDoor
