import Derived.Test.YtkmfgchbfchdbaaGreatDoorM0
namespace Go.Proofs.YtkmfgchbfchdbaaGreatDoor
open Go.RowKit

theorem all_step {α : Type} {f : α → Bool} {zs : List α} {k : Nat} {z : α} (hz : zs[k]? = some z) (h : (zs.take k).all f = true) (hc : f z = true) : (zs.take (k + 1)).all f = true := by
  rw [take_snoc' hz, List.all_append, h]; simp [hc]
theorem all_end {α : Type} {f : α → Bool} {zs : List α} {k : Nat} (hk : zs.length ≤ k) (h : (zs.take k).all f = true) : zs.all f = true := by
  rwa [List.take_of_length_le hk] at h
theorem all_no {α : Type} {f : α → Bool} {zs : List α} {k : Nat} {z : α} (hz : zs[k]? = some z) (hc : f z = false) : zs.all f = false := by
  rw [List.all_eq_false]
  exact ⟨z, List.mem_of_getElem? hz, by simp [hc]⟩

end Go.Proofs.YtkmfgchbfchdbaaGreatDoor
