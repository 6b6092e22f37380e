import Derived.Test.YthnjfdhijpfekaaUBase
namespace Go.Proofs.Ythnjfdhijpfekaa
open Go.RowKit

/-- what is left of a bound -/
def leftOf (l : Int) (n : Nat) : Int := if l - n < 0 then -1 else l - n

set_option maxHeartbeats 400000 in
theorem szInt64S_any (a : Option Addr) (n c : Nat) (l : Int) (w : World) (hn : n ≤ maxLen) (h0 : -1 ≤ l) (hl : l ≤ 1099511627776) :
    Calls Try.prog 35 #[.slice a n c, .int .i64 l] w fun e w' => e = .returned (.int .i64 (leftOf l n)) ∧ w = w' := by
  unfold maxLen at hn
  by_cases h : l - n < 0
  · have e : leftOf l n = -1 := by rw [leftOf, if_pos h]
    have E := Lib.hid e
    clear e
    go_enter Try.func35, Try.ntmps35
    go_wp2
    go_ret
    exact ⟨ret_int E.out.symm, rfl⟩
  · have e : leftOf l n = l - n := by rw [leftOf, if_neg h]
    have E := Lib.hid e
    clear e
    go_enter Try.func35, Try.ntmps35
    go_wp2
    go_ret
    exact ⟨ret_int E.out.symm, rfl⟩

end Go.Proofs.Ythnjfdhijpfekaa
