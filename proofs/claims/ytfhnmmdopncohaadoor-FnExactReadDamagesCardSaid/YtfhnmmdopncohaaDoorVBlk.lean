import Derived.Test.YtfhnmmdopncohaaDoorVKB
namespace Go.Proofs.YtfhnmmdopncohaaDoor
open Go.RowKit

theorem push_at (w : World) (A : Obj) : (w.alloc A).heap[w.heap.size]? = some A := Array.getElem?_push_size
theorem push_old {w : World} {i : Nat} {A B : Obj} (h : w.heap[i]? = some B) : (w.alloc A).heap[i]? = some B := ((ba1 w A).block i (Array.getElem?_eq_some_iff.1 h).1).trans h
theorem heap2 (w : World) (A B : Obj) : ((w.alloc A).alloc B).heap[w.heap.size]? = some A ∧ ((w.alloc A).alloc B).heap[w.heap.size + 1]? = some B := by
  refine ⟨push_old (push_at w A), ?_⟩
  have h := push_at (w.alloc A) B
  rw [World.size_alloc] at h
  exact h
theorem heap3 (w : World) (A B C : Obj) : (((w.alloc A).alloc B).alloc C).heap[w.heap.size]? = some A ∧ (((w.alloc A).alloc B).alloc C).heap[w.heap.size + 1]? = some B ∧ (((w.alloc A).alloc B).alloc C).heap[w.heap.size + 1 + 1]? = some C := by
  refine ⟨push_old (heap2 w A B).1, push_old (heap2 w A B).2, ?_⟩
  have h := push_at ((w.alloc A).alloc B) C
  rw [World.size_alloc, World.size_alloc] at h
  exact h
theorem heap4 (w : World) (A B C D : Obj) : ((((w.alloc A).alloc B).alloc C).alloc D).heap[w.heap.size]? = some A ∧ ((((w.alloc A).alloc B).alloc C).alloc D).heap[w.heap.size + 1]? = some B ∧ ((((w.alloc A).alloc B).alloc C).alloc D).heap[w.heap.size + 1 + 1]? = some C ∧ ((((w.alloc A).alloc B).alloc C).alloc D).heap[w.heap.size + 1 + 1 + 1]? = some D := by
  refine ⟨push_old (heap3 w A B C).1, push_old (heap3 w A B C).2.1, push_old (heap3 w A B C).2.2, ?_⟩
  have h := push_at (((w.alloc A).alloc B).alloc C) D
  rw [World.size_alloc, World.size_alloc, World.size_alloc] at h
  exact h
theorem blk {w w' : World} {B i : Nat} {A : Obj} (hb : Below B w w') (h : w.heap[i]? = some A) (hB : i < B) : w'.heap[i]? = some A := (hb.block i hB).trans h
theorem blkK {w w' : World} {i : Nat} {A : Obj} (hb : Below w.heap.size w w') (h : w.heap[i]? = some A) : w'.heap[i]? = some A := (hb.block i (Array.getElem?_eq_some_iff.1 h).1).trans h
theorem blkLt {w : World} {i : Nat} {A : Obj} (h : w.heap[i]? = some A) : i < w.heap.size := (Array.getElem?_eq_some_iff.1 h).1

end Go.Proofs.YtfhnmmdopncohaaDoor
