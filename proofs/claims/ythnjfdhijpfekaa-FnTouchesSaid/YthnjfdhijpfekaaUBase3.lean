import Derived.Test.YthnjfdhijpfekaaUBase
namespace Go.Proofs.Ythnjfdhijpfekaa
open Go.RowKit

theorem boxF0 (w : World) (A : Array Value) (t : TypeId) (i : Nat) : (w.alloc (.cells A t (0, 0))).cell? ⟨w.heap.size, i, none⟩ = A[i]? := by simp
theorem boxF1 (w : World) (A : Array Value) (t : TypeId) (i : Nat) : (w.alloc (.cells A t (0, 0))).frozen? ⟨w.heap.size, i, none⟩ = false := by simp
/-- two new blocks' cells, behind a call -/
theorem box2s {w w1 : World} {A B : Array Value} {t u : TypeId} (hb : Below ((w.alloc (.cells A t (0, 0))).alloc (.cells B u (0, 0))).heap.size ((w.alloc (.cells A t (0, 0))).alloc (.cells B u (0, 0))) w1) :
    (∀ i, w1.cell? ⟨w.heap.size, i, none⟩ = A[i]?) ∧ (∀ i, w1.cell? ⟨w.heap.size + 1, i, none⟩ = B[i]?) ∧ (∀ i, w1.frozen? ⟨w.heap.size + 1, i, none⟩ = false) := by
  refine ⟨fun i => ?_, fun i => ?_, fun i => ?_⟩
  · rw [hb.cell (p := ⟨w.heap.size, i, none⟩) (by simp only [World.size_alloc]; omega)]; simp
  · rw [hb.cell (p := ⟨w.heap.size + 1, i, none⟩) (by simp only [World.size_alloc]; omega)]; simp
  · rw [hb.frozen (p := ⟨w.heap.size + 1, i, none⟩) (by simp only [World.size_alloc]; omega)]; simp
/-- three new blocks' cells, behind a call -/
theorem box3s {w w1 : World} {A B C : Array Value} {t u v : TypeId} (hb : Below (((w.alloc (.cells A t (0, 0))).alloc (.cells B u (0, 0))).alloc (.cells C v (0, 0))).heap.size (((w.alloc (.cells A t (0, 0))).alloc (.cells B u (0, 0))).alloc (.cells C v (0, 0))) w1) :
    (∀ i, w1.cell? ⟨w.heap.size, i, none⟩ = A[i]?) ∧ (∀ i, w1.cell? ⟨w.heap.size + 1, i, none⟩ = B[i]?) ∧ (∀ i, w1.cell? ⟨w.heap.size + 1 + 1, i, none⟩ = C[i]?) ∧ (∀ i, w1.frozen? ⟨w.heap.size + 1 + 1, i, none⟩ = false) ∧ w.heap.size + 1 + 1 < w1.heap.size := by
  refine ⟨fun i => ?_, fun i => ?_, fun i => ?_, fun i => ?_, ?_⟩
  · rw [hb.cell (p := ⟨w.heap.size, i, none⟩) (by simp only [World.size_alloc]; omega), (ba2 (w.alloc (.cells A t (0, 0))) _ _).cell (p := ⟨w.heap.size, i, none⟩) (by simp)]; simp
  · have h := (ba1 ((w.alloc (.cells A t (0, 0))).alloc (.cells B u (0, 0))) (.cells C v (0, 0))).cell (p := ⟨w.heap.size + 1, i, none⟩) (by simp)
    rw [hb.cell (p := ⟨w.heap.size + 1, i, none⟩) (by simp only [World.size_alloc]; omega), h]
    simp
  · rw [hb.cell (p := ⟨w.heap.size + 1 + 1, i, none⟩) (by simp only [World.size_alloc]; omega)]
    have := boxF0 ((w.alloc (.cells A t (0, 0))).alloc (.cells B u (0, 0))) C v i
    simpa using this
  · rw [hb.frozen (p := ⟨w.heap.size + 1 + 1, i, none⟩) (by simp only [World.size_alloc]; omega)]
    have := boxF1 ((w.alloc (.cells A t (0, 0))).alloc (.cells B u (0, 0))) C v i
    simpa using this
  · have := hb.size; simp at this; omega
/-- a block's marks, behind a call -/
theorem freeK {w w1 : World} {b : Nat} (hb : Below w.heap.size w w1) (h : ∀ i, w.frozen? ⟨b, i, none⟩ = false) (h0 : b < w.heap.size) : ∀ i, w1.frozen? ⟨b, i, none⟩ = false := fun i => by
  rw [hb.frozen (p := ⟨b, i, none⟩) h0]; exact h i

/-- a block's cells, where less is kept -/
theorem boxB {w w1 : World} {B b : Nat} {cs : Array Value} (hb : Below B w w1) (h : ∀ i, w.cell? ⟨b, i, none⟩ = cs[i]?) (h0 : b < B) : ∀ i, w1.cell? ⟨b, i, none⟩ = cs[i]? := fun i => by
  rw [hb.cell (p := ⟨b, i, none⟩) h0]; exact h i
theorem freeB {w w1 : World} {B b : Nat} (hb : Below B w w1) (h : ∀ i, w.frozen? ⟨b, i, none⟩ = false) (h0 : b < B) : ∀ i, w1.frozen? ⟨b, i, none⟩ = false := fun i => by
  rw [hb.frozen (p := ⟨b, i, none⟩) h0]; exact h i

end Go.Proofs.Ythnjfdhijpfekaa
