import Derived.Test.YthnjfdhijpfekaaUBase
import Derived.Test.YthnjfdhijpfekaaUHeldI
namespace Go.Proofs.Ythnjfdhijpfekaa
open Go.RowKit

theorem marks_of {k : Int} {zs : List Int} (h : ∀ i, i < zs.length → zs[i]? = some (k + i)) : zs = marks k zs.length := by
  apply List.ext_getElem?
  intro i
  by_cases hi : i < zs.length
  · rw [h i hi, marks_at hi]
  · rw [List.getElem?_eq_none (by omega), List.getElem?_eq_none (by rw [marks_len]; omega)]

/-- after j rounds -/
def Marked (w0 w : World) (base : Nat) (v : Value) (n j : Nat) (m : Int) : Prop :=
  ∃ zs : List Int, zs.length = n ∧ OwnI w base v zs ∧ (∀ i, i < j → zs[i]? = some (m + i)) ∧ w0.grownBy w v.ownBlock ∧ w.heap.size = w0.heap.size

theorem Marked.step {w0 w : World} {base g n c j : Nat} {m : Int} (h : Marked w0 w base (.slice (some ⟨g, 0, none⟩) n c) n j m) (hj : j < n) :
    Marked w0 (w.setCell ⟨g, j, none⟩ (.int .i64 (m + j))) base (.slice (some ⟨g, 0, none⟩) n c) n (j + 1) m := by
  obtain ⟨zs, hl, ho, hz, hg, hs⟩ := h
  subst hl
  have hst := World.ownsRow.stored (h := ho) j (.int .i64 (m + j))
  refine ⟨zs.set j (m + j), by simp, ?_, ?_, grownBy_trans hg hst.2, by simpa using hs⟩
  · have h1 := hst.1
    unfold OwnI
    rw [List.map_set, List.length_set]
    exact h1
  · intro i hi
    rw [List.getElem?_set]
    by_cases e : j = i
    · subst e; simp [hj]
    · rw [if_neg e]; exact hz i (by omega)

theorem Marked.fin {w0 w : World} {base : Nat} {v : Value} {n : Nat} {m : Int} (h : Marked w0 w base v n n m) :
    OwnI w base v (marks m n) ∧ w0.grownBy w v.ownBlock := by
  obtain ⟨zs, hl, ho, hz, hg, _⟩ := h
  subst hl
  rw [← marks_of hz]
  exact ⟨ho, hg⟩

theorem Marked.cell {w0 w : World} {base : Nat} {a : Option Addr} {c n j : Nat} {m : Int} (h : Marked w0 w base (.slice a n c) n j m) (hj : j < n) :
    ∃ g z, a = some ⟨g, 0, none⟩ ∧ base ≤ g ∧ w.cell? ⟨g, j, none⟩ = some (.int .i64 z) ∧ w.frozen? ⟨g, j, none⟩ = false := by
  obtain ⟨zs, hl, ho, hz, hg, _⟩ := h
  subst hl
  obtain ⟨g, rfl, hb, _, _⟩ := ho.block (by omega)
  obtain ⟨z, _, h1, h2⟩ := ho.cellAt rfl hj
  exact ⟨g, z, rfl, hb, h1, h2⟩

set_option maxHeartbeats 400000 in
theorem markInt64S_any (a : Option Addr) (xs : List Int) (c base : Nat) (m : Int) (w : World) (ho : OwnI w base (.slice a xs.length c) xs)
    (lx : xs.length ≤ 1099511627776) (hm0 : 0 ≤ m) (hm : m ≤ 1099511627776) :
    Calls Try.prog 41 #[.slice a xs.length c, .int .i64 m] w fun e w' => e = .returned (.int .i64 (m + xs.length)) ∧ OwnI w' base (.slice a xs.length c) (marks m xs.length) ∧ w.grownBy w' (Value.ownBlock (.slice a xs.length c)) := by
  have h0 : Marked w w base (.slice a xs.length c) xs.length 0 m := ⟨xs, rfl, ho, fun i hi => absurd hi (by omega), World.grownBy.refl _ _, rfl⟩
  clear ho
  have H0 := Lib.hid h0
  clear h0
  go_enter Try.func41, Try.ntmps41
  go_wp2
  go_loopw [1, 5] (fun q i wr => ∃ k : Nat, k ≤ xs.length ∧ i = .int .i64 k ∧ q = .int .i64 (m + k) ∧ Marked w wr base (.slice a xs.length c) xs.length k m) (fun _ i _ => xs.length - (intOf i).toNat)
  case atStart => exact ⟨0, Nat.zero_le _, rfl, by simp, H0.out⟩
  case round =>
    obtain ⟨k, hk, rfl, rfl, ht⟩ := hrel
    have HT := Lib.hid ht
    clear ht
    by_cases hlt : k < xs.length
    · obtain ⟨g, z, rfl, hb1, hc1, hf1⟩ := HT.out.cell hlt
      go_wp2
      go_roundw
      case rel => exact ⟨k + 1, by omega, by go_num, by go_num, HT.out.step hlt⟩
      case measure => simp [intOf]; omega
    · go_wp2
      go_ret
      obtain rfl : k = xs.length := by omega
      exact ⟨rfl, HT.out.fin⟩

end Go.Proofs.Ythnjfdhijpfekaa
