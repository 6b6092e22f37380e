import Derived.Test.YtpilkgcghlfdmaaGreatDoorM1
import Derived.Deep.DeepCutAuto
import Derived.Deep.WholeRow
namespace Go.Proofs.YtpilkgcghlfdmaaGreatDoor
open Go.RowKit

theorem table_any {k s : Nat} (k1 : 1 ≤ k) (k4 : k ≤ 4) (s4 : s ≤ 4) : ([.int .i64 0, .int .i64 0, .int .i64 0, .int .i64 0, .int .i64 0, .int .i64 1, .int .i64 0, .int .i64 0, .int .i64 0, .int .i64 0, .int .i64 0, .int .i64 2, .int .i64 0, .int .i64 0, .int .i64 0, .int .i64 0, .int .i64 0, .int .i64 3, .int .i64 3, .int .i64 0, .int .i64 0, .int .i64 4, .int .i64 4, .int .i64 0, .int .i64 0] : List Value)[k * 5 + s]? = some (.int .i64 (nextS k s)) := by
  rcases (show k = 1 ∨ k = 2 ∨ k = 3 ∨ k = 4 by omega) with rfl | rfl | rfl | rfl <;> rcases (show s = 0 ∨ s = 1 ∨ s = 2 ∨ s = 3 ∨ s = 4 by omega) with rfl | rfl | rfl | rfl | rfl <;> rfl

theorem nextS_bd (k s : Int) : 0 ≤ nextS k s ∧ nextS k s ≤ 4 := by
  unfold nextS
  (repeat' split) <;> omega

def tabA : Array Value := #[.int .i64 0, .int .i64 0, .int .i64 0, .int .i64 0, .int .i64 0, .int .i64 1, .int .i64 0, .int .i64 0, .int .i64 0, .int .i64 0, .int .i64 0, .int .i64 2, .int .i64 0, .int .i64 0, .int .i64 0, .int .i64 0, .int .i64 0, .int .i64 3, .int .i64 3, .int .i64 0, .int .i64 0, .int .i64 4, .int .i64 4, .int .i64 0, .int .i64 0]
theorem tab_cell (w : World) {k s : Nat} (k1 : 1 ≤ k) (k4 : k ≤ 4) (s4 : s ≤ 4) : (w.alloc (.cells tabA 154 (0, 0))).cell? ⟨w.heap.size, k * 5 + s, none⟩ = some (.int .i64 (nextS k s)) := by
  have h := table_any k1 k4 s4
  simpa [tabA] using h

set_option maxHeartbeats 400000 in
theorem transition_any (k s : Nat) (w : World) (k1 : 1 ≤ k) (k4 : k ≤ 4) (s4 : s ≤ 4) :
    Calls Tryz.prog 68 #[.int .i64 k, .int .i64 s] w fun e w' => e = .returned (.tuple #[.int .i64 (nextS k s), .bool (nextS k s != 0)]) ∧ Below w.heap.size w w' := by
  have ht := tab_cell w k1 k4 s4
  generalize nextS k s = t at *
  go_enter Tryz.func68, Tryz.ntmps68
  go_upto_region 1 with fail
  go_cut [6] (fun v wx => v = .pointer (some ⟨w.heap.size, 0, none⟩) ∧ wx = w.alloc (.cells tabA 154 (0, 0)))
  case first =>
    refine wp_region_lit ?_
    refine wpList_plain rfl fun K hK => ?_
    unfold Oper.wp
    rw [show Sem.run _ (execOp _ _) w = .ok (.value (.agg #[.int .i64 1, .int .i64 0, .int .i64 0, .int .i64 0, .int .i64 0])) w from by kernel_rfl]
    refine hK _ _ ?_
    clear hK K
    refine wpList_plain rfl fun K hK => ?_
    unfold Oper.wp
    rw [show Sem.run _ (execOp _ _) w = .ok (.value (.agg #[.int .i64 0, .int .i64 2, .int .i64 0, .int .i64 0, .int .i64 0])) w from by kernel_rfl]
    refine hK _ _ ?_
    clear hK K
    refine wpList_plain rfl fun K hK => ?_
    unfold Oper.wp
    rw [show Sem.run _ (execOp _ _) w = .ok (.value (.agg #[.int .i64 0, .int .i64 0, .int .i64 3, .int .i64 3, .int .i64 0])) w from by kernel_rfl]
    refine hK _ _ ?_
    clear hK K
    refine wpList_plain rfl fun K hK => ?_
    unfold Oper.wp
    rw [show Sem.run _ (execOp _ _) w = .ok (.value (.agg #[.int .i64 0, .int .i64 4, .int .i64 4, .int .i64 0, .int .i64 0])) w from by kernel_rfl]
    refine hK _ _ ?_
    clear hK K
    refine wpList_plain rfl fun K hK => ?_
    unfold Oper.wp
    rw [show Sem.run _ (execOp _ _) w = .ok (.value (.agg tabA)) w from by kernel_rfl]
    refine hK _ _ ?_
    clear hK K
    refine wpList_plain rfl fun K hK => ?_
    unfold Oper.wp
    rw [show Sem.run _ (execOp _ _) w = .ok (.value (.pointer (some ⟨w.heap.size, 0, none⟩))) (w.alloc (.cells #[.int .i64 0, .int .i64 0, .int .i64 0, .int .i64 0, .int .i64 0, .int .i64 0, .int .i64 0, .int .i64 0, .int .i64 0, .int .i64 0, .int .i64 0, .int .i64 0, .int .i64 0, .int .i64 0, .int .i64 0, .int .i64 0, .int .i64 0, .int .i64 0, .int .i64 0, .int .i64 0, .int .i64 0, .int .i64 0, .int .i64 0, .int .i64 0, .int .i64 0] 154 (0, 0))) from by kernel_rfl]
    refine hK _ _ ?_
    refine wpList_store_row rfl 154 _ _ rfl w.heap.size tabA rfl (by kernel_rfl) _ _ Array.getElem?_push_size (by kernel_rfl) rfl (by kernel_rfl) ?_
    refine wpList_nil ?_
    rw [World.setRow_alloc_new]
    go_wp2_with fail
    go_meet
    exact ⟨rfl, rfl⟩
  case rest =>
    obtain ⟨rfl, rfl⟩ := hcut
    go_wp2_with fail
    go_ret2
    exact ⟨rfl, ba1 _ _⟩
theorem transition_val {k s : Int} {t : Int} {b : Bool} {w : World} (h : nextS k s = t) (hb : (t != 0) = b) (k1 : 1 ≤ k) (k4 : k ≤ 4) (s0 : 0 ≤ s) (s4 : s ≤ 4) :
    Calls Tryz.prog 68 #[.int .i64 k, .int .i64 s] w fun e w' => e = .returned (.tuple #[.int .i64 t, .bool b]) ∧ Below w.heap.size w w' := by
  obtain ⟨k, rfl⟩ := Int.eq_ofNat_of_zero_le (show 0 ≤ k by omega)
  obtain ⟨s, rfl⟩ := Int.eq_ofNat_of_zero_le s0
  subst h hb
  exact transition_any k s w (by omega) (by omega) (by omega)

set_option maxHeartbeats 1000000 in
theorem l33Next_1 (s : Int) (w : World) (s0 : 0 ≤ s) (s4 : s ≤ 4) :
    Calls Tryz.prog 91 #[.int .i64 s, .int .i64 1] w fun e w' => e = .returned (.int .i64 (if nextS 1 s = 0 then -1 else nextS 1 s)) ∧ w = w' := by
  rcases fiveS s0 s4 with rfl | rfl | rfl | rfl | rfl
  all_goals
    clear s0 s4
    go_enter Tryz.func91, Tryz.ntmps91
    go_wp2_with fail
    go_ret
    exact ⟨rfl, rfl⟩
set_option maxHeartbeats 1000000 in
theorem l33Next_2 (s : Int) (w : World) (s0 : 0 ≤ s) (s4 : s ≤ 4) :
    Calls Tryz.prog 91 #[.int .i64 s, .int .i64 2] w fun e w' => e = .returned (.int .i64 (if nextS 2 s = 0 then -1 else nextS 2 s)) ∧ w = w' := by
  rcases fiveS s0 s4 with rfl | rfl | rfl | rfl | rfl
  all_goals
    clear s0 s4
    go_enter Tryz.func91, Tryz.ntmps91
    go_wp2_with fail
    go_ret
    exact ⟨rfl, rfl⟩
set_option maxHeartbeats 1000000 in
theorem l33Next_3 (s : Int) (w : World) (s0 : 0 ≤ s) (s4 : s ≤ 4) :
    Calls Tryz.prog 91 #[.int .i64 s, .int .i64 3] w fun e w' => e = .returned (.int .i64 (if nextS 3 s = 0 then -1 else nextS 3 s)) ∧ w = w' := by
  rcases fiveS s0 s4 with rfl | rfl | rfl | rfl | rfl
  all_goals
    clear s0 s4
    go_enter Tryz.func91, Tryz.ntmps91
    go_wp2_with fail
    go_ret
    exact ⟨rfl, rfl⟩
set_option maxHeartbeats 1000000 in
theorem l33Next_4 (s : Int) (w : World) (s0 : 0 ≤ s) (s4 : s ≤ 4) :
    Calls Tryz.prog 91 #[.int .i64 s, .int .i64 4] w fun e w' => e = .returned (.int .i64 (if nextS 4 s = 0 then -1 else nextS 4 s)) ∧ w = w' := by
  rcases fiveS s0 s4 with rfl | rfl | rfl | rfl | rfl
  all_goals
    clear s0 s4
    go_enter Tryz.func91, Tryz.ntmps91
    go_wp2_with fail
    go_ret
    exact ⟨rfl, rfl⟩
theorem l33Next_val {k s : Int} {t : Int} {w : World} (h : nextS k s = t) (k1 : 1 ≤ k) (k4 : k ≤ 4) (s0 : 0 ≤ s) (s4 : s ≤ 4) :
    Calls Tryz.prog 91 #[.int .i64 s, .int .i64 k] w fun e w' => e = .returned (.int .i64 (if t = 0 then -1 else t)) ∧ w = w' := by
  subst h
  rcases kind4 k1 k4 with rfl | rfl | rfl | rfl
  · exact l33Next_1 s w s0 s4
  · exact l33Next_2 s w s0 s4
  · exact l33Next_3 s w s0 s4
  · exact l33Next_4 s w s0 s4

end Go.Proofs.YtpilkgcghlfdmaaGreatDoor
