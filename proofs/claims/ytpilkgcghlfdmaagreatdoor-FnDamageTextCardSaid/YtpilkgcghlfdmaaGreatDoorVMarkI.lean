import Derived.Test.YtpilkgcghlfdmaaGreatDoorM0
namespace Go.Proofs.YtpilkgcghlfdmaaGreatDoor
open Go.RowKit

theorem marks_of {k : Int} {zs : List Int} (h : ∀ i, i < zs.length → zs[i]? = some (k + i)) : zs = marks k zs.length := by
  apply List.ext_getElem?
  intro i
  by_cases hi : i < zs.length
  · rw [h i hi, marks_at hi]
  · rw [List.getElem?_eq_none (by omega), List.getElem?_eq_none (by rw [marks_len]; omega)]

/-- after j rounds -/
def Marked (w0 w : World) (base : Nat) (v : Value) (n j : Nat) (m : Int) : Prop :=
  ∃ zs : List Int, zs.length = n ∧ OwnI w base v zs ∧ (∀ i, i < j → zs[i]? = some (m + i)) ∧ w0.grownBy w v.ownBlock ∧ w.heap.size = w0.heap.size

theorem Marked.step {w0 w : World} {base g n c j : Nat} {m : Int} (h : Marked w0 w base (.slice (some ⟨g, 0, none⟩) n c) n j m) (hj : j < n) :
    Marked w0 (w.setCell ⟨g, j, none⟩ (.int .i64 (m + j))) base (.slice (some ⟨g, 0, none⟩) n c) n (j + 1) m := by
  obtain ⟨zs, hl, ho, hz, hg, hs⟩ := h
  subst hl
  have hst := World.ownsRow.stored (h := ho) j (.int .i64 (m + j))
  refine ⟨zs.set j (m + j), by simp, ?_, ?_, grownBy_trans hg hst.2, by simpa using hs⟩
  · have h1 := hst.1
    unfold OwnI
    rw [List.map_set, List.length_set]
    exact h1
  · intro i hi
    rw [List.getElem?_set]
    by_cases e : j = i
    · subst e; simp [hj]
    · rw [if_neg e]; exact hz i (by omega)

theorem Marked.fin {w0 w : World} {base : Nat} {v : Value} {n : Nat} {m : Int} (h : Marked w0 w base v n n m) :
    OwnI w base v (marks m n) ∧ w0.grownBy w v.ownBlock := by
  obtain ⟨zs, hl, ho, hz, hg, _⟩ := h
  subst hl
  rw [← marks_of hz]
  exact ⟨ho, hg⟩

theorem Marked.cell {w0 w : World} {base : Nat} {a : Option Addr} {c n j : Nat} {m : Int} (h : Marked w0 w base (.slice a n c) n j m) (hj : j < n) :
    ∃ g z, a = some ⟨g, 0, none⟩ ∧ base ≤ g ∧ w.cell? ⟨g, j, none⟩ = some (.int .i64 z) ∧ w.frozen? ⟨g, j, none⟩ = false := by
  obtain ⟨zs, hl, ho, hz, hg, _⟩ := h
  subst hl
  obtain ⟨g, rfl, hb, _, _⟩ := ho.block (by omega)
  obtain ⟨z, _, h1, h2⟩ := ho.cellAt rfl hj
  exact ⟨g, z, rfl, hb, h1, h2⟩

end Go.Proofs.YtpilkgcghlfdmaaGreatDoor
