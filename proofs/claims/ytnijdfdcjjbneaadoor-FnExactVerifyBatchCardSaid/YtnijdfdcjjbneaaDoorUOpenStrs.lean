import Derived.Test.YtnijdfdcjjbneaaDoorUOpenB
import Derived.Test.YtnijdfdcjjbneaaDoorUStrS
import Derived.SliceStrings
namespace Go.Proofs.YtnijdfdcjjbneaaDoor
open Go.ChangeShapes Go.WideShapes Go.ChangeAt Go.RowKit

theorem strsAt_of {w : World} {a : Addr} {zs : List ByteArray} (h : ∀ i, i < zs.length → w.cell? (a.add i) = some (.string (zs.getD i ByteArray.empty))) (n : Nat) : StrsAt w (some a) (zs.take n) := by
  intro i hi
  have hi' : i < zs.length := by rw [List.length_take] at hi; omega
  have h0 := h 0 (by omega)
  have hs : a.spot = none := by
    obtain ⟨b, o, s⟩ := a
    cases s with
    | none => rfl
    | some s =>
      simp only [Addr.add, if_true] at h0
      unfold World.cell? at h0
      split at h0 <;> simp at h0
  obtain ⟨b, o, s⟩ := a
  obtain rfl : s = none := hs
  have h1 := h i hi'
  rw [Addr.add_lit] at h1
  refine ⟨b, o, rfl, ?_⟩
  rw [h1, List.getD_eq_getElem?_getD, List.getElem?_eq_getElem hi', List.getElem_take]
  rfl

set_option maxRecDepth 100000 in
/-- texts as an argument -/
theorem open_strs {H : Type} {enc : TypeId × Value → H} {W : World} {base b0 : Nat} {r : Reach} {spare : Nat → Bool} {held : Bool} {v : Value} {d : DataW H} {ps : List MemPlace} (hv : Value.okWide Tryd.prog W r b0 39 v) (h : DataW.Trod enc Tryd.prog W base spare held 39 v d ps) :
    ∃ (a : Option Addr) (ss : List ByteArray) (c : Nat), v = .slice a ss.length c ∧ StrsAt W a ss ∧ ss.length ≤ maxLen ∧ ∀ s ∈ ss, s.size ≤ maxLen := by
  obtain ⟨a, len, cap, rfl⟩ := okWide_slice Tryd.underlying39 hv
  obtain ⟨fuel, hf⟩ := h
  rcases open_strings Tryd.underlying39 Tryd.underlying9 cellsStr hf with ⟨h1, _⟩ | ⟨a', len', cap', zs, h1, _, hl, hm, hz, _, hc, hw⟩
  · simp [Value.cells] at h1
    obtain ⟨rfl, rfl, rfl⟩ := h1
    exact ⟨Option.none, [], 0, rfl, StrsAt.nil, Nat.zero_le _, fun s hs => by cases hs⟩
  · simp [Value.cells] at h1
    obtain ⟨rfl, rfl, rfl⟩ := h1
    have hlen : (zs.take len).length = len := by rw [List.length_take]; split at hz <;> omega
    exact ⟨some a', zs.take len, cap, by rw [hlen], strsAt_of hc len, by omega, fun s hs => hw s (List.mem_of_mem_take hs)⟩

end Go.Proofs.YtnijdfdcjjbneaaDoor
