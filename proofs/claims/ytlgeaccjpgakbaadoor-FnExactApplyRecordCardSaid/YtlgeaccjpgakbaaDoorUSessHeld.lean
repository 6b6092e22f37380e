import Derived.Test.YtlgeaccjpgakbaaDoorUSessMark
import Derived.Test.YtlgeaccjpgakbaaDoorUOwn2
namespace Go.Proofs.YtlgeaccjpgakbaaDoor
open Go.RowKit

theorem heldSession_marks {p : ByteArray} {x1 x2 x3 x4 : Int} {a : Option Addr} {n c : Nat} {m : Int} {w : World} (hx : IntsAt w a (marks m n)) (ln : n ≤ 1099511627776) (hm0 : 0 ≤ m) (hm : m ≤ 1099511627776) :
    Calls Tryd.prog 28 #[.agg #[.string p, .int .i64 x1, .int .i64 x2, .int .i64 x3, .int .i64 x4, .slice a n c], .int .i64 m] w fun e w' => e = .returned (.int .i64 (m + n)) ∧ Below w.heap.size w w' := by
  have := heldSession_any p x1 x2 x3 x4 a (marks m n) c m w hx (by rw [marks_len]; exact ln) hm0 hm
  rw [marks_len, heldOf_marks] at this
  exact this

end Go.Proofs.YtlgeaccjpgakbaaDoor
