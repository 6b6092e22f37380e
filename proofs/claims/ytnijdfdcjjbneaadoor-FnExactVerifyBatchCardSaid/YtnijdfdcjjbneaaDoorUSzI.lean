import Derived.Test.YtnijdfdcjjbneaaDoorUBase
namespace Go.Proofs.YtnijdfdcjjbneaaDoor
open Go.RowKit

/-- what is left of a bound -/
def leftOf (l : Int) (n : Nat) : Int := if l - n < 0 then -1 else l - n

set_option maxHeartbeats 400000 in
theorem szBatch_any (p : ByteArray) (x1 x2 x3 x4 l : Int) (w : World) (hn : p.size ≤ maxLen) (h0 : -1 ≤ l) (hl : l ≤ 1099511627776) :
    Calls Tryd.prog 16 #[.agg #[.string p, .int .i64 x1, .int .i64 x2, .int .i64 x3, .int .i64 x4], .int .i64 l] w fun e w' => e = .returned (.int .i64 (leftOf l p.size)) ∧ Below w.heap.size w w' := by
  unfold maxLen at hn
  by_cases h : l - p.size < 0
  · have e : leftOf l p.size = -1 := by rw [leftOf, if_pos h]
    have E := Lib.hid e
    clear e
    go_enter Tryd.func16, Tryd.ntmps16
    go_wp2
    go_ret
    exact ⟨ret_int E.out.symm, (Below.refl _ _).alloc (Nat.le_refl _) _⟩
  · have e : leftOf l p.size = l - p.size := by rw [leftOf, if_neg h]
    have E := Lib.hid e
    clear e
    go_enter Tryd.func16, Tryd.ntmps16
    go_wp2
    go_ret
    exact ⟨ret_int E.out.symm, (Below.refl _ _).alloc (Nat.le_refl _) _⟩

end Go.Proofs.YtnijdfdcjjbneaaDoor
