import Derived.Test.YtlcglclojlffgaaGreatDoorVSpT
namespace Go.Proofs.YtlcglclojlffgaaGreatDoor
open Go.RowKit

/-- the text of damages, as a string; empty if they are not valid -/
def dtB (ds : List Dm) : ByteArray := ⟨(dtext ds).toArray⟩
theorem bsize_of {b : ByteArray} {l : List UInt8} (h : b.data.toList = l) : b.size = l.length := by rw [← h]; rfl
theorem codeL_ok {ds : List Dm} (h : codeL ds = 0) : ds.length ≤ 20 ∧ ∀ d ∈ ds, d.ok = true := by
  unfold codeL at h
  split at h
  · cases h
  · split at h
    · rename_i h1 h2
      exact ⟨by omega, fun d hd => List.all_eq_true.1 h2 d hd⟩
    · cases h
theorem dtext_no {ds : List Dm} (h : codeL ds ≠ 0) : dtext ds = [] := by
  rw [dtext, if_neg]
  rintro ⟨h1, h2⟩
  exact h (by rw [codeL, if_neg (by omega), if_pos (List.all_eq_true.2 h2)])
theorem dtext_yes {ds : List Dm} (h : codeL ds = 0) : dtext ds = textD ds := by rw [dtext, if_pos (codeL_ok h)]
/-- what precedes a damage's text -/
def preD (ds : List Dm) : List UInt8 := if ds = [] then [] else textD ds ++ [59]
theorem preD_line (ds : List Dm) (d : Dm) : preD ds ++ lineD d = textD (ds ++ [d]) := by
  rw [textD_snoc, preD]
  split <;> simp
theorem preD_len {ds : List Dm} (h : ∀ d ∈ ds, d.ok = true) (hl : ds.length ≤ 20) : (preD ds).length ≤ 2361 := by
  have := textD_len ds h
  unfold preD
  split
  · simp
  · simp; omega

end Go.Proofs.YtlcglclojlffgaaGreatDoor
