import Derived.Test.YtpilkgcghlfdmaaGreatDoorM0
namespace Go.Proofs.YtpilkgcghlfdmaaGreatDoor
open Go.RowKit

/-- what is left of a bound -/
def leftOf (l : Int) (n : Nat) : Int := if l - n < 0 then -1 else l - n

end Go.Proofs.YtpilkgcghlfdmaaGreatDoor
