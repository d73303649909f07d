/- Syl: contracts: both ReductionSymbols. No conditions. -/
import Derived.Test.YtpjcfnjagknocaaDoorSyi
namespace Go.Proofs.YtpjcfnjagknocaaDoor
open Go.RowKit

noncomputable def rsV (a b p : Int) : Value := bif curveB a b && p5B p then .tuple #[.string (symS (minA a b p) b p (kindN (minA a b p) b p) (valP (discI (minA a b p) b) p).toNat), .bool true] else .tuple #[.string ⟨#[]⟩, .bool false]
end Go.Proofs.YtpjcfnjagknocaaDoor
