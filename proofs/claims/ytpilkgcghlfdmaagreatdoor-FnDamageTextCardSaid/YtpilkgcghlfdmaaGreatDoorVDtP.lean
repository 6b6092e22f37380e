import Derived.Test.YtpilkgcghlfdmaaGreatDoorVSpT2
import Derived.Test.YtpilkgcghlfdmaaGreatDoorVRdD
namespace Go.Proofs.YtpilkgcghlfdmaaGreatDoor
open Go.RowKit

theorem rdText_nil : rdText [] = none := by
  cases h : rdText [] with
  | none => rfl
  | some ds =>
    have h2 := (rdText_iff [] ds).1 h
    have h3 : cut 59 (textD ds) = ds.map lineD := cut_text ds h2.1
    have hc : cut 59 [] = [[]] := by rfl
    rw [← h2.2.2.2, hc] at h3
    have h4 : ds.length = 1 := by have := congrArg List.length h3; simpa using this.symm
    obtain ⟨d, rfl⟩ := List.length_eq_one_iff.1 h4
    have h5 : lineD d = [] := by simpa using h3.symm
    have h6 := cut_line d
    rw [h5] at h6
    have h7 : txtD d = [[]] := h6.symm
    exfalso
    unfold txtD at h7
    repeat' split at h7
    all_goals simp at h7
/-- the damages read from the text of damages -/
theorem rdS_text {ds : List Dm} (h : (dtB ds).data.toList ≠ []) : rdS (dtB ds) = some ds ∧ ds.length ≤ 20 := by
  have hd : (dtB ds).data.toList = dtext ds := by simp [dtB]
  rw [rdS_some h]
  rw [hd] at h ⊢
  by_cases hc : codeL ds = 0
  · rw [dtext_yes hc] at h ⊢
    obtain ⟨h1, h2⟩ := codeL_ok hc
    refine ⟨(rdText_iff _ ds).2 ⟨?_, h1, h2, rfl⟩, h1⟩
    intro e
    subst e
    exact h rfl
  · exact absurd (dtext_no hc) h
theorem dtB_size (ds : List Dm) : (dtB ds).size ≤ 1048576 := by
  by_cases hc : codeL ds = 0
  · obtain ⟨h1, h2⟩ := codeL_ok hc
    have h3 := textD_len ds h2
    have h4 : (dtB ds).size = (textD ds).length := bsize_of (by simp [dtB, dtext_yes hc])
    omega
  · have h4 : (dtB ds).size = 0 := bsize_of (l := []) (by simp [dtB, dtext_no hc])
    omega

end Go.Proofs.YtpilkgcghlfdmaaGreatDoor
