import Derived.Test.YtlgeaccjpgakbaaDoorUOpenB
namespace Go.Proofs.YtlgeaccjpgakbaaDoor
open Go.ChangeShapes Go.WideShapes Go.ChangeAt Go.RowKit

section
variable {H : Type} {enc : TypeId × Value → H} {w : World} {base : Nat} {spare : Nat → Bool} {held : Bool} {fuel : Nat} {cs : List Value} {x : DataW H × List MemPlace}

theorem cellsLR : Tryd.prog.cellsOf 48 = 2 := by kernel_rfl

set_option maxRecDepth 100000 in
/-- a record among the arguments -/
theorem record_cells (h : DataW.trod enc Tryd.prog w base spare held fuel 48 cs = some x) :
    ∃ (k n : Int), cs = [.int .i64 k, .int .i64 n] ∧ (Lit.int .i64 k).wf = true ∧ (Lit.int .i64 n).wf = true := by
  obtain ⟨xs, n, _, hx, hl, hlen, hf⟩ := DataW.trod_struct Tryd.underlying48 h
  rw [cellsLR] at hl
  obtain ⟨y0, e0⟩ : ∃ y, xs[0]? = some y := by rw [List.getElem?_eq_getElem (by rw [hlen]; decide)]; exact ⟨_, rfl⟩
  obtain ⟨y1, e1⟩ : ∃ y, xs[1]? = some y := by rw [List.getElem?_eq_getElem (by rw [hlen]; decide)]; exact ⟨_, rfl⟩
  obtain ⟨x0, h0, w0⟩ := int_cell Tryd.underlying2 cellsI64 (o := 0) (by omega) ((hf 0 _ rfl).trans e0)
  obtain ⟨x1, h1, w1⟩ := int_cell Tryd.underlying2 cellsI64 (o := 1) (by omega) ((hf 1 _ rfl).trans e1)
  refine ⟨x0, x1, ?_, w0, w1⟩
  match cs, hl with
  | [c0, c1], _ => simp_all
end

set_option maxRecDepth 100000 in
/-- a record as an argument -/
theorem open_record {H : Type} {enc : TypeId × Value → H} {W : World} {base b0 : Nat} {r : Reach} {spare : Nat → Bool} {held : Bool} {v : Value} {d : DataW H} {ps : List MemPlace} (hv : Value.okWide Tryd.prog W r b0 48 v) (h : DataW.Trod enc Tryd.prog W base spare held 48 v d ps) :
    ∃ (k n : Int), v = .agg #[.int .i64 k, .int .i64 n] ∧ (Lit.int .i64 k).wf = true ∧ (Lit.int .i64 n).wf = true := by
  obtain ⟨cs, rfl, hsz⟩ := okWide_struct Tryd.underlying48 hv
  obtain ⟨fuel, hf⟩ := h
  obtain ⟨k, n, hcs, r⟩ := record_cells hf
  exact ⟨k, n, congrArg Value.agg (Array.toList_inj.1 hcs), r⟩

end Go.Proofs.YtlgeaccjpgakbaaDoor
