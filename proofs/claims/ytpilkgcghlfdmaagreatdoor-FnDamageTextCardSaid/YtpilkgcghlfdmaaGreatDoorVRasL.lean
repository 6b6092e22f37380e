import Derived.Test.YtpilkgcghlfdmaaGreatDoorVFr
import Derived.Test.YtpilkgcghlfdmaaGreatDoorM0
import Derived.Test.YtpilkgcghlfdmaaGreatDoorM1
import Derived.Test.YtpilkgcghlfdmaaGreatDoorVMarkI
import Derived.Test.YtpilkgcghlfdmaaGreatDoorVSzI
import Derived.Test.YtpilkgcghlfdmaaGreatDoorVEqI
namespace Go.Proofs.YtpilkgcghlfdmaaGreatDoor
open Go.RowKit

/-- a raster of the call's own is handed back -/
def RetRasL (w : World) (x1 x2 : Int) (xs : List Int) (e : Ending) (w' : World) : Prop :=
  ∃ a c, e = .returned (.agg #[.int .i64 x1, .int .i64 x2, .slice a xs.length c]) ∧ OwnI w' w.heap.size (.slice a xs.length c) xs ∧ Below w.heap.size w w'

/-- two rasters -/
def eqRasB (x1 x2 : Int) (xs : List Int) (y1 y2 : Int) (ys : List Int) : Bool := x1 == y1 && x2 == y2 && decide (xs = ys)
/-! The calls of a law on rasters, said in facts. -/
/-! Damages by value. -/
end Go.Proofs.YtpilkgcghlfdmaaGreatDoor
