import Derived.Test.YtpilkgcghlfdmaaGreatDoorVDrawJ
import Derived.Test.YtpilkgcghlfdmaaGreatDoorVLikeI
namespace Go.Proofs.YtpilkgcghlfdmaaGreatDoor
open Go.RowKit

/-- a drawn text -/
def RetDT (w : World) (e : Ending) (w' : World) : Prop := ∃ s : ByteArray, e = .returned (.string s) ∧ s.size ≤ 20001 ∧ Below w.heap.size w w'
theorem codeJ_rec (s : ByteArray) : codeJ (recS s) = 0 := by
  obtain ⟨h1, h2, _⟩ := recS_prop s
  unfold codeJ
  rw [if_neg (by omega), if_pos (List.all_eq_true.2 h1)]
theorem textB_small {l : List Rc} (h : l.length ≤ 300) (hok : ∀ r ∈ l, r.ok = true) : (textB l).size ≤ 6000 := by
  have := textJ_len l 0 0 (by omega) (by omega) hok
  rw [textB_size]; omega
theorem recS_text {l : List Rc} (h : l.length ≤ 300) (hok : ∀ r ∈ l, r.ok = true) : recS (textB l) = l := by
  unfold recS
  rw [if_neg (by have := textB_small h hok; omega)]
  exact recJ_text l 300 0 0 hok h
theorem overS_text {l : List Rc} (h : l.length ≤ 300) (hok : ∀ r ∈ l, r.ok = true) : overS (textB l) = false := by
  have := textB_small h hok
  simp only [overS, decide_eq_false_iff_not]; omega
theorem rec_head (s : ByteArray) : s.extract 0 (textB (recS s)).size = textB (recS s) := by
  obtain ⟨_, _, t, ht⟩ := recS_prop s
  apply ByteArray.ext
  apply Array.toList_inj.1
  have e : (textB (recS s)).data.toList = textJ 0 0 (recS s) := rfl
  have e2 : (textB (recS s)).size = (textJ 0 0 (recS s)).length := rfl
  rw [e, e2]
  simp only [ByteArray.data_extract, Array.toList_extract, List.extract_eq_take_drop, List.drop_zero, Nat.sub_zero]
  rw [ht, List.take_left']
  rfl

end Go.Proofs.YtpilkgcghlfdmaaGreatDoor
