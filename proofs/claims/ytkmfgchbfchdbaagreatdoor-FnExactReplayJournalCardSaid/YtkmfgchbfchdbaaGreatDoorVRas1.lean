import Derived.Test.YtkmfgchbfchdbaaGreatDoorVAllS
import Derived.Test.YtkmfgchbfchdbaaGreatDoorVDmgL
namespace Go.Proofs.YtkmfgchbfchdbaaGreatDoor
open Go.RowKit

set_option maxHeartbeats 400000 in
theorem l20Grey_val {n : Int} {b : Bool} {w : World} (h : inB n 0 255 = b) : Calls Tryz.prog 86 #[.int .i64 n] w fun e w' => e = .returned (.bool b) ∧ w = w' := by
  go_enter Tryz.func86, Tryz.ntmps86
  go_wp2_with fail
  refine (l01In_val h).mono ?_
  rintro e w' ⟨rfl, rfl⟩
  go_wp2_with fail
  go_ret
  exact ⟨rfl, rfl⟩

end Go.Proofs.YtkmfgchbfchdbaaGreatDoor
