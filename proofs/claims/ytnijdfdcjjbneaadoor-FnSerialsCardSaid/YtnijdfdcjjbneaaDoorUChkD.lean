import Derived.Test.YtnijdfdcjjbneaaDoorUSer1
namespace Go.Proofs.YtnijdfdcjjbneaaDoor
open Go.RowKit

theorem isMessage_any (s : ByteArray) (w : World) (hs : s.size ≤ 400) :
    Calls Tryd.prog 42 #[.string s] w fun e w' => e = .returned (.bool true) ∧ w = w' := by
  have h : decide ((s.size : Int) ≤ 400) = true := by simp; omega
  go_enter Tryd.func42, Tryd.ntmps42
  go_wp2
  go_ret
  exact ⟨by simp, rfl⟩

set_option maxHeartbeats 400000 in
theorem checkDigit_any (s : ByteArray) (w : World) (hs : s.size ≤ 400) :
    Calls Tryd.prog 15 #[.string s] w fun e w' => e = .returned (.tuple #[.int .i64 (chkB s), .int .i64 0]) ∧ Below w.heap.size w w' := by
  go_enter Tryd.func15, Tryd.ntmps15
  go_wp2_with fail
  refine (isMessage_any s _ hs).mono ?_
  rintro e w1 ⟨rfl, rfl⟩
  go_wp2_with fail
  refine (check_val (c := chkB s) rfl (by omega)).mono ?_
  rintro e w2 ⟨rfl, rfl⟩
  go_wp2_with fail
  go_ret2
  exact ⟨rfl, Below.refl _ _⟩

end Go.Proofs.YtnijdfdcjjbneaaDoor
