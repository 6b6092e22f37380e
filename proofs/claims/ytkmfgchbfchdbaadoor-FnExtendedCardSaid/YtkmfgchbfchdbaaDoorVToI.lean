import Derived.Test.YtkmfgchbfchdbaaDoorM0
namespace Go.Proofs.YtkmfgchbfchdbaaDoor
open Go.RowKit

/-- after j rounds of a copy -/
def Copied (w : World) (base g : Nat) (xs : List Int) (j : Nat) : Prop :=
  ∃ zs : List Int, zs.length = xs.length ∧ OwnI w base (.slice (some ⟨g, 0, none⟩) xs.length xs.length) zs ∧ zs.take j = xs.take j

theorem Copied.step {w : World} {base g : Nat} {xs : List Int} {j : Nat} {x : Int} (h : Copied w base g xs j) (hx : xs[j]? = some x) : Copied (w.setCell ⟨g, j, none⟩ (.int .i64 x)) base g xs (j + 1) := by
  obtain ⟨zs, hl, ho, ht⟩ := h
  have hj : j < xs.length := (List.getElem?_eq_some_iff.1 hx).1
  refine ⟨zs.set j x, by simpa using hl, (ho.stored hl.symm j x).1, ?_⟩
  rw [take_snoc' hx, take_snoc' (zs := zs.set j x) (k := j) (z := x) (by simp [hl, hj]), List.take_set_of_le (Nat.le_refl _), ht]

theorem Copied.fin {w : World} {base g : Nat} {xs : List Int} (h : Copied w base g xs xs.length) : OwnI w base (.slice (some ⟨g, 0, none⟩) xs.length xs.length) xs := by
  obtain ⟨zs, hl, ho, ht⟩ := h
  rw [List.take_of_length_le (by omega), List.take_of_length_le (by omega)] at ht
  rwa [ht] at ho

end Go.Proofs.YtkmfgchbfchdbaaDoor
