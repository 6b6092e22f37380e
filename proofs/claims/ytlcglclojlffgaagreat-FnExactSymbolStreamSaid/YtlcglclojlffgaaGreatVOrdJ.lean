import Derived.Test.YtlcglclojlffgaaGreatVOrdI
namespace Go.Proofs.YtlcglclojlffgaaGreat
open Go.RowKit Go.Shelf

/-- an iterator over the places of a layout is handed back: its layout lies in a box of its own -/
def RetOrd (p k g d c n : Int) (w : World) (e : Ending) (w' : World) : Prop :=
  e = .returned (.func (.func 84) #[] #[.pointer (some ⟨w.heap.size, 0, none⟩)]) ∧ w' = w.alloc (.cells #[.int .i64 p, .int .i64 k, .int .i64 g, .int .i64 d, .int .i64 c, .int .i64 n] 40 (0, 0))
theorem order_any (p k g d c n : Int) (w : World) :
    Calls Tryz.prog 47 #[.agg #[.int .i64 p, .int .i64 k, .int .i64 g, .int .i64 d, .int .i64 c, .int .i64 n]] w (RetOrd p k g d c n w) := by
  go_enter Tryz.func47, Tryz.ntmps47
  go_wp2_with fail
  go_ret
  exact ⟨rfl, rfl⟩
theorem order_at {p k g d c n : Int} {w : World} : LayAt (w.alloc (.cells #[.int .i64 p, .int .i64 k, .int .i64 g, .int .i64 d, .int .i64 c, .int .i64 n] 40 (0, 0))) w.heap.size p k g d c n := World.alloc_heap_new _ _

end Go.Proofs.YtlcglclojlffgaaGreat
