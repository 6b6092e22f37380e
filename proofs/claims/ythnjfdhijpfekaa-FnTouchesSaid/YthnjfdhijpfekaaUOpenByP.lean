import Derived.Test.YthnjfdhijpfekaaUOpenP
import Derived.Test.YthnjfdhijpfekaaUSrc
import Derived.ChangeSlices
namespace Go.Proofs.Ythnjfdhijpfekaa
open Go.ChangeShapes Go.WideShapes Go.ChangeAt Go.RowKit

theorem cellsU8 : Try.prog.cellsOf 5 = 1 := by kernel_rfl

theorem bytesAt_of {w : World} {a : Addr} {zs : List Int} (h : ∀ i, i < zs.length → w.cell? (a.add i) = some (.int .u8 (zs.getD i 0))) (hw : ∀ n ∈ zs, (Lit.int .u8 n).wf = true) {n : Nat} (hn : n ≤ zs.length) : BytesAt w w.heap.size (some a) n := by
  intro i hi
  have h0 := h 0 (by omega)
  have hs : a.spot = none := by
    obtain ⟨b, o, s⟩ := a
    cases s with
    | none => rfl
    | some s =>
      simp only [Addr.add, if_true] at h0
      unfold World.cell? at h0
      split at h0 <;> simp at h0
  obtain ⟨b, o, s⟩ := a
  obtain rfl : s = none := hs
  have h1 := h i (by omega)
  rw [Addr.add_lit] at h1
  have hm : zs.getD i 0 ∈ zs := by
    rw [List.getD_eq_getElem?_getD, List.getElem?_eq_getElem (by omega)]
    exact List.getElem_mem _
  have hb := hw _ hm
  refine ⟨b, o, _, rfl, lt_of_cell h1, h1, ?_⟩
  have e1 : IntKind.u8.min = 0 := by decide
  have e2 : IntKind.u8.max = 255 := by decide
  generalize zs.getD i 0 = z at *
  simp [Lit.wf] at hb
  rw [e1, e2] at hb
  exact hb

set_option maxRecDepth 100000 in
/-- bytes as an argument -/
theorem open_bytes {H : Type} {enc : TypeId × Value → H} {W : World} {b0 : Nat} {r : Reach} {spare : Nat → Bool} {held : Bool} {v : Value} {d : DataW H} {ps : List MemPlace} (hv : Value.okWide Try.prog W r b0 37 v) (h : DataW.Trod enc Try.prog W 0 spare held 37 v d ps) :
    ∃ (a : Option Addr) (n c : Nat), v = .slice a n c ∧ BytesAt W W.heap.size a n := by
  obtain ⟨a, len, cap, rfl⟩ := okWide_slice Try.underlying37 hv
  obtain ⟨fuel, hf⟩ := h
  rcases open_ints Try.underlying37 Try.underlying5 cellsU8 hf with ⟨h1, _⟩ | ⟨a', len', cap', zs, h1, _, hl, hm, hz, _, hc, hw⟩
  · simp [Value.cells] at h1
    obtain ⟨rfl, rfl, rfl⟩ := h1
    exact ⟨Option.none, 0, 0, rfl, fun i hi => absurd hi (Nat.not_lt_zero i)⟩
  · simp [Value.cells] at h1
    obtain ⟨rfl, rfl, rfl⟩ := h1
    exact ⟨some a', len, cap, rfl, bytesAt_of hc hw (by split at hz <;> omega)⟩

end Go.Proofs.Ythnjfdhijpfekaa
