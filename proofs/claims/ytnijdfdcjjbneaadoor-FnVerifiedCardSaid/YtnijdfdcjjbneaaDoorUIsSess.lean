import Derived.Test.YtnijdfdcjjbneaaDoorUBatchI
import Derived.Test.YtnijdfdcjjbneaaDoorUBatchS
namespace Go.Proofs.YtnijdfdcjjbneaaDoor
open Go.RowKit

def stOk (s : Int) : Bool := inB s 0 4
def isSessB (p : ByteArray) (x1 x2 x3 x4 : Int) (xs : List Int) : Bool := isBatchB p x1 x2 x3 x4 && !((xs.length : Int) != x3) && xs.all stOk

theorem all_step {α : Type} {f : α → Bool} {zs : List α} {k : Nat} {z : α} (hz : zs[k]? = some z) (h : (zs.take k).all f = true) (hc : f z = true) : (zs.take (k + 1)).all f = true := by
  rw [take_snoc' hz, List.all_append, h]; simp [hc]
theorem all_end {α : Type} {f : α → Bool} {zs : List α} {k : Nat} (hk : zs.length ≤ k) (h : (zs.take k).all f = true) : zs.all f = true := by
  rwa [List.take_of_length_le hk] at h
theorem all_no {α : Type} {f : α → Bool} {zs : List α} {k : Nat} {z : α} (hz : zs[k]? = some z) (hc : f z = false) : zs.all f = false := by
  rw [List.all_eq_false]
  exact ⟨z, List.mem_of_getElem? hz, by simp [hc]⟩

theorem isBatch_val {p : ByteArray} {x1 x2 x3 x4 : Int} {w : World} {b : Bool} (h : isBatchB p x1 x2 x3 x4 = b) (hp : p.size ≤ maxLen) (ht : Tab w) :
    Calls Tryd.prog 10 #[.agg #[.string p, .int .i64 x1, .int .i64 x2, .int .i64 x3, .int .i64 x4]] w fun e w' => e = .returned (.bool b) ∧ Below w.heap.size w w' := h ▸ isBatch_any _ _ _ _ _ _ hp ht
theorem specIsBatch_val {p : ByteArray} {x1 x2 x3 x4 : Int} {w : World} {b : Bool} (h : isBatchB p x1 x2 x3 x4 = b) (hp : p.size ≤ maxLen) :
    Calls Tryd.prog 11 #[.agg #[.string p, .int .i64 x1, .int .i64 x2, .int .i64 x3, .int .i64 x4]] w fun e w' => e = .returned (.bool b) ∧ Below w.heap.size w w' := h ▸ specIsBatch_any _ _ _ _ _ _ hp

end Go.Proofs.YtnijdfdcjjbneaaDoor
