/- Pri: contracts of primality tests and residues. No conditions. -/
import Derived.Test.YtmkolbbbkbedpaaDoorCur
namespace Go.Proofs.YtmkolbbbkbedpaaDoor
open Go.RowKit

end Go.Proofs.YtmkolbbbkbedpaaDoor
