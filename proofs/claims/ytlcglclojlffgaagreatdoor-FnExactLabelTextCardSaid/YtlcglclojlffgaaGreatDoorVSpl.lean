import Derived.Test.YtlcglclojlffgaaGreatDoorVEnv
import Derived.Test.YtlcglclojlffgaaGreatDoorM3
import Derived.Test.YtlcglclojlffgaaGreatDoorM4
namespace Go.Proofs.YtlcglclojlffgaaGreatDoor
open Go.RowKit

/-- the words' bytes -/
def bytesL (ws : List ByteArray) : List (List UInt8) := ws.map (fun b => b.data.toList)

theorem cut_len (c : UInt8) : ∀ (l : List UInt8), (cut c l).length ≤ l.length + 1 ∧ ∀ p ∈ cut c l, p.length ≤ l.length
  | [] => by simp [cut]
  | x :: r => by
    obtain ⟨h1, h2⟩ := cut_len c r
    rw [cut]
    split
    · refine ⟨by simpa using h1, ?_⟩
      intro p hp
      rcases List.mem_cons.1 hp with rfl | hp
      · simp
      · have := h2 p hp; simp; omega
    · split
      · simp
      · rename_i h t he
        rw [he] at h1 h2
        refine ⟨by simp at h1 ⊢; omega, ?_⟩
        intro p hp
        rcases List.mem_cons.1 hp with rfl | hp
        · have := h2 h (by simp); simp; omega
        · have := h2 p (by simp [hp]); simp; omega

theorem strs_new (w : World) (ss : List ByteArray) (t : TypeId) : StrsAt (w.alloc (.cells (ss.map Value.string).toArray t (0, 0))) (some ⟨w.heap.size, 0, none⟩) ss := by
  intro i hi
  refine ⟨w.heap.size, 0, rfl, ?_⟩
  rw [Nat.zero_add]
  simp [hi]

/-- strings.Split at a byte -/
theorem split_any (s : ByteArray) (c : UInt8) (w : World) (hs : s.size ≤ 1048576) (hE : Env w) :
    Calls Tryz.prog 31 #[.string s, .string ⟨#[c]⟩] w fun e w' => ∃ ss : List ByteArray, bytesL ss = cut c s.data.toList ∧ ss.length ≤ 1048577 ∧ (∀ b ∈ ss, b.size ≤ s.size) ∧ e = .returned (.slice (some ⟨w.heap.size, 0, none⟩) ss.length ss.length) ∧ w' = w.alloc (.cells (ss.map Value.string).toArray 9) := by
  obtain ⟨m, hm⟩ := hE.mx
  refine (Tryz.strings_Split s ⟨#[c]⟩ m w (by omega) hm (Nat.le_refl 1)).mono fun e w' ⟨he, hw⟩ => ?_
  have hl := Lib.splitB_all ⟨#[c]⟩ (Nat.le_refl 1) 0 (Lib.countB s ⟨#[c]⟩) s rfl
  have hc := splitB_cut s c
  refine ⟨Lib.splitB ⟨#[c]⟩ 0 (Lib.countB s ⟨#[c]⟩) s, hc, ?_, ?_, ?_, hw⟩
  · have h2 := congrArg List.length hc
    rw [List.length_map] at h2
    have h3 := (cut_len c s.data.toList).1
    have h4 : s.data.toList.length = s.size := rfl
    omega
  · intro b hb
    have h2 : b.data.toList ∈ cut c s.data.toList := by rw [← hc]; exact List.mem_map.2 ⟨b, hb, rfl⟩
    exact (cut_len c s.data.toList).2 _ h2
  · rw [hl]; exact he

end Go.Proofs.YtlcglclojlffgaaGreatDoor
