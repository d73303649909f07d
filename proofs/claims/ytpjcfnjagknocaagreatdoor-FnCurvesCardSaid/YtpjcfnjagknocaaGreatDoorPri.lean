/- Pri: contracts of primality tests and residues. No conditions. -/
import Derived.Test.YtpjcfnjagknocaaGreatDoorCur
namespace Go.Proofs.YtpjcfnjagknocaaGreatDoor
open Go.RowKit

end Go.Proofs.YtpjcfnjagknocaaGreatDoor
