/- Pri: contracts of primality tests and residues. No conditions. -/
import Derived.Test.YtagfnahgibccfaaCur
namespace Go.Proofs.Ytagfnahgibccfaa
open Go.RowKit

end Go.Proofs.Ytagfnahgibccfaa
