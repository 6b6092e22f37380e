import Derived.Test.YtpilkgcghlfdmaaGreatDoorVFine
import Derived.Laws.EntriesVeiled
namespace Go.Proofs.YtpilkgcghlfdmaaGreatDoor
open Go.RowKit

set_option maxHeartbeats 400000 in
theorem harm1 (r c t w g : Int) (W : World) : Calls Tryz.prog 22 #[.agg #[.int .i64 1, .int .i64 r, .int .i64 c, .int .i64 t, .int .i64 w, .int .i64 g]] W fun e W' => e = .returned (.tuple #[.iface 109 (.agg #[.int .i64 1, .int .i64 r, .int .i64 c, .int .i64 t, .int .i64 w, .int .i64 g]), .bool true]) ∧ Below W.heap.size W W' := by
  go_enter Tryz.func22, Tryz.ntmps22
  go_wp2_with fail
  go_ret2
  exact ⟨rfl, ba1 _ _⟩

set_option maxHeartbeats 400000 in
theorem harm2 (r c t w g : Int) (W : World) : Calls Tryz.prog 22 #[.agg #[.int .i64 2, .int .i64 r, .int .i64 c, .int .i64 t, .int .i64 w, .int .i64 g]] W fun e W' => e = .returned (.tuple #[.iface 110 (.agg #[.int .i64 2, .int .i64 r, .int .i64 c, .int .i64 t, .int .i64 w, .int .i64 g]), .bool true]) ∧ Below W.heap.size W W' := by
  go_enter Tryz.func22, Tryz.ntmps22
  go_wp2_with fail
  go_ret2
  exact ⟨rfl, ba1 _ _⟩

set_option maxHeartbeats 400000 in
theorem harm3 (r c t w g : Int) (W : World) : Calls Tryz.prog 22 #[.agg #[.int .i64 3, .int .i64 r, .int .i64 c, .int .i64 t, .int .i64 w, .int .i64 g]] W fun e W' => e = .returned (.tuple #[.iface 111 (.agg #[.int .i64 3, .int .i64 r, .int .i64 c, .int .i64 t, .int .i64 w, .int .i64 g]), .bool true]) ∧ Below W.heap.size W W' := by
  go_enter Tryz.func22, Tryz.ntmps22
  go_wp2_with fail
  go_ret2
  exact ⟨rfl, ba1 _ _⟩

set_option maxHeartbeats 400000 in
theorem harm4 (r c t w g : Int) (W : World) : Calls Tryz.prog 22 #[.agg #[.int .i64 4, .int .i64 r, .int .i64 c, .int .i64 t, .int .i64 w, .int .i64 g]] W fun e W' => e = .returned (.tuple #[.iface 112 (.agg #[.int .i64 4, .int .i64 r, .int .i64 c, .int .i64 t, .int .i64 w, .int .i64 g]), .bool true]) ∧ Below W.heap.size W W' := by
  go_enter Tryz.func22, Tryz.ntmps22
  go_wp2_with fail
  go_ret2
  exact ⟨rfl, ba1 _ _⟩

set_option maxHeartbeats 400000 in
theorem harm5 (r c t w g : Int) (W : World) : Calls Tryz.prog 22 #[.agg #[.int .i64 5, .int .i64 r, .int .i64 c, .int .i64 t, .int .i64 w, .int .i64 g]] W fun e W' => e = .returned (.tuple #[.iface 113 (.agg #[.int .i64 5, .int .i64 r, .int .i64 c, .int .i64 t, .int .i64 w, .int .i64 g]), .bool true]) ∧ Below W.heap.size W W' := by
  go_enter Tryz.func22, Tryz.ntmps22
  go_wp2_with fail
  go_ret2
  exact ⟨rfl, ba1 _ _⟩

set_option maxHeartbeats 400000 in
theorem harm0 (k r c t w g : Int) (W : World) (h : k < 1 ∨ 5 < k) : Calls Tryz.prog 22 #[.agg #[.int .i64 k, .int .i64 r, .int .i64 c, .int .i64 t, .int .i64 w, .int .i64 g]] W fun e W' => e = .returned (.tuple #[.iface 113 (.agg #[.int .i64 k, .int .i64 r, .int .i64 c, .int .i64 t, .int .i64 w, .int .i64 g]), .bool false]) ∧ Below W.heap.size W W' := by
  have h1 : (k == 1) = false := by simp; omega
  have h2 : (k == 2) = false := by simp; omega
  have h3 : (k == 3) = false := by simp; omega
  have h4 : (k == 4) = false := by simp; omega
  have h5 : (k == 5) = false := by simp; omega
  clear h
  go_enter Tryz.func22, Tryz.ntmps22
  go_wp2_with fail
  go_ret2
  exact ⟨rfl, ba1 _ _⟩

end Go.Proofs.YtpilkgcghlfdmaaGreatDoor
