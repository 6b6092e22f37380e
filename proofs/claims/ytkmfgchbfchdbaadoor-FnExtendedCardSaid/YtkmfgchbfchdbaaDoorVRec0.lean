import Derived.Test.YtkmfgchbfchdbaaDoorM0
namespace Go.Proofs.YtkmfgchbfchdbaaDoor
open Go.RowKit

def isRecB (k n : Int) : Bool := inB k 1 4 && inB n 0 199

theorem isRecord_any (k n : Int) (w : World) :
    Calls Tryd.prog 15 #[.agg #[.int .i64 k, .int .i64 n]] w fun e w' => e = .returned (.bool (isRecB k n)) ∧ Below w.heap.size w w' := by
  rcases Bool.eq_false_or_eq_true (inB k 1 4) with h1 | h1
  · rcases Bool.eq_false_or_eq_true (inB n 0 199) with h2 | h2
    all_goals
      have E := Lib.hid (show isRecB k n = _ by unfold isRecB; rw [h1, h2])
      go_enter Tryd.func15, Tryd.ntmps15
      go_wp2_with (go_at_call 33; go_must (refine (inRange_val (by assumption)).mono ?_; rintro e w' ⟨rfl, rfl⟩))
      go_ret
      exact ⟨ret_bool (by rw [E.out]; rfl), ba1 _ _⟩
  · have E := Lib.hid (show isRecB k n = false by unfold isRecB; rw [h1]; rfl)
    go_enter Tryd.func15, Tryd.ntmps15
    go_wp2_with (go_at_call 33; go_must (refine (inRange_val (by assumption)).mono ?_; rintro e w' ⟨rfl, rfl⟩))
    go_ret
    exact ⟨ret_bool (by rw [E.out]), ba1 _ _⟩
theorem specIsRecord_any (k n : Int) (w : World) :
    Calls Tryd.prog 37 #[.agg #[.int .i64 k, .int .i64 n]] w fun e w' => e = .returned (.bool (isRecB k n)) ∧ Below w.heap.size w w' := by
  rcases Bool.eq_false_or_eq_true (inB k 1 4) with h1 | h1
  · rcases Bool.eq_false_or_eq_true (inB n 0 199) with h2 | h2
    all_goals
      have E := Lib.hid (show isRecB k n = _ by unfold isRecB; rw [h1, h2])
      go_enter Tryd.func37, Tryd.ntmps37
      go_wp2_with (go_at_call 57; go_must (refine (l01In_val (by assumption)).mono ?_; rintro e w' ⟨rfl, rfl⟩))
      go_ret
      exact ⟨ret_bool (by rw [E.out]; rfl), ba1 _ _⟩
  · have E := Lib.hid (show isRecB k n = false by unfold isRecB; rw [h1]; rfl)
    go_enter Tryd.func37, Tryd.ntmps37
    go_wp2_with (go_at_call 57; go_must (refine (l01In_val (by assumption)).mono ?_; rintro e w' ⟨rfl, rfl⟩))
    go_ret
    exact ⟨ret_bool (by rw [E.out]), ba1 _ _⟩
theorem isRecord_val {k n : Int} {w : World} {b : Bool} (h : isRecB k n = b) :
    Calls Tryd.prog 15 #[.agg #[.int .i64 k, .int .i64 n]] w fun e w' => e = .returned (.bool b) ∧ Below w.heap.size w w' := h ▸ isRecord_any k n w
theorem specIsRecord_val {k n : Int} {w : World} {b : Bool} (h : isRecB k n = b) :
    Calls Tryd.prog 37 #[.agg #[.int .i64 k, .int .i64 n]] w fun e w' => e = .returned (.bool b) ∧ Below w.heap.size w w' := h ▸ specIsRecord_any k n w

/-- the state behind a record of kind k, 0 where there is none -/
def nextS (k s : Int) : Int := if k = 1 ∧ s = 0 then 1 else if k = 2 ∧ s = 1 then 2 else if k = 3 ∧ (s = 2 ∨ s = 3) then 3 else if k = 4 ∧ (s = 1 ∨ s = 2) then 4 else 0

theorem kind4 {k : Int} (h : 1 ≤ k) (h' : k ≤ 4) : k = 1 ∨ k = 2 ∨ k = 3 ∨ k = 4 := by omega
theorem fiveS {k : Int} (h : 0 ≤ k) (h' : k ≤ 4) : k = 0 ∨ k = 1 ∨ k = 2 ∨ k = 3 ∨ k = 4 := by omega

end Go.Proofs.YtkmfgchbfchdbaaDoor
