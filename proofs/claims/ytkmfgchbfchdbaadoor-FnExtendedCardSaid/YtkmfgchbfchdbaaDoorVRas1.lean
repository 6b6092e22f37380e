import Derived.Test.YtkmfgchbfchdbaaDoorM0
import Derived.Test.YtkmfgchbfchdbaaDoorVDmgL
namespace Go.Proofs.YtkmfgchbfchdbaaDoor
open Go.RowKit

set_option maxHeartbeats 400000 in
theorem l20Grey_val {n : Int} {b : Bool} {w : World} (h : inB n 0 255 = b) : Calls Tryd.prog 74 #[.int .i64 n] w fun e w' => e = .returned (.bool b) ∧ w = w' := by
  go_enter Tryd.func74, Tryd.ntmps74
  go_wp2_with fail
  refine (l01In_val h).mono ?_
  rintro e w' ⟨rfl, rfl⟩
  go_wp2_with fail
  go_ret
  exact ⟨rfl, rfl⟩

end Go.Proofs.YtkmfgchbfchdbaaDoor
