/- Pri: contracts of primality tests and residues. No conditions. -/
import Derived.Test.YtnhlcgbknkdbiaaCur
namespace Go.Proofs.Ytnhlcgbknkdbiaa
open Go.RowKit

end Go.Proofs.Ytnhlcgbknkdbiaa
