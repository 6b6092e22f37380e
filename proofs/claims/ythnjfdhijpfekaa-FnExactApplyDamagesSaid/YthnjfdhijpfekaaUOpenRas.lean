import Derived.Test.YthnjfdhijpfekaaUOpenP
namespace Go.Proofs.Ythnjfdhijpfekaa
open Go.ChangeShapes Go.WideShapes Go.ChangeAt Go.RowKit

theorem cellsLRas : Try.prog.cellsOf 24 = 3 := by kernel_rfl
theorem cellsLDmg : Try.prog.cellsOf 26 = 6 := by kernel_rfl

set_option maxRecDepth 100000 in
/-- a raster as an argument -/
theorem open_raster {H : Type} {enc : TypeId × Value → H} {W : World} {base b0 : Nat} {r : Reach} {spare : Nat → Bool} {held : Bool} {v : Value} {d : DataW H} {ps : List MemPlace} (hv : Value.okWide Try.prog W r b0 24 v) (h : DataW.Trod enc Try.prog W base spare held 24 v d ps) :
    ∃ (x1 x2 : Int) (a : Option Addr) (xs : List Int) (c : Nat), v = .agg #[.int .i64 x1, .int .i64 x2, .slice a xs.length c] ∧
      (Lit.int .i64 x1).wf = true ∧ (Lit.int .i64 x2).wf = true ∧ IntsAt W a xs ∧ xs.length ≤ maxLen ∧ (∀ n ∈ xs, (Lit.int .i64 n).wf = true) := by
  obtain ⟨cs, rfl, hsz⟩ := okWide_struct Try.underlying24 hv
  obtain ⟨fuel, hf⟩ := h
  obtain ⟨ys, n, _, hx, hl, hlen, hg⟩ := DataW.trod_struct Try.underlying24 hf
  rw [cellsLRas] at hl
  obtain ⟨y0, e0⟩ : ∃ y, ys[0]? = some y := by rw [List.getElem?_eq_getElem (by rw [hlen]; decide)]; exact ⟨_, rfl⟩
  obtain ⟨y1, e1⟩ : ∃ y, ys[1]? = some y := by rw [List.getElem?_eq_getElem (by rw [hlen]; decide)]; exact ⟨_, rfl⟩
  obtain ⟨y2, e2⟩ : ∃ y, ys[2]? = some y := by rw [List.getElem?_eq_getElem (by rw [hlen]; decide)]; exact ⟨_, rfl⟩
  have hl' : cs.toList.length = 3 := by simpa [Value.cells] using hl
  obtain ⟨x1, h0, w1⟩ := int_cell Try.underlying2 cellsI64 (o := 0) (by simp [Value.cells]; simp at hl'; omega) ((hg 0 _ rfl).trans e0)
  obtain ⟨x2, h1, w2⟩ := int_cell Try.underlying2 cellsI64 (o := 1) (by simp [Value.cells]; simp at hl'; omega) ((hg 1 _ rfl).trans e1)
  obtain ⟨a, zs, c, h2, hi, hzl, hzw⟩ := ints_cell ((hg 2 _ rfl).trans e2)
  refine ⟨x1, x2, a, zs, c, ?_, w1, w2, hi, hzl, hzw⟩
  obtain ⟨l⟩ := cs
  simp only [Value.cells] at hl h0 h1 h2
  match l, hl with
  | [c0, c1, c2], _ => simp_all [cellsIs]

section
variable {H : Type} {enc : TypeId × Value → H} {w : World} {base : Nat} {spare : Nat → Bool} {held : Bool} {fuel : Nat} {cs : List Value} {x : DataW H × List MemPlace}
set_option maxRecDepth 100000 in
theorem damage_cells (h : DataW.trod enc Try.prog w base spare held fuel 26 cs = some x) :
    ∃ (x0 x1 x2 x3 x4 x5 : Int), cs = [.int .i64 x0, .int .i64 x1, .int .i64 x2, .int .i64 x3, .int .i64 x4, .int .i64 x5] ∧ (Lit.int .i64 x0).wf = true ∧ (Lit.int .i64 x1).wf = true ∧ (Lit.int .i64 x2).wf = true ∧ (Lit.int .i64 x3).wf = true ∧ (Lit.int .i64 x4).wf = true ∧ (Lit.int .i64 x5).wf = true := by
  obtain ⟨xs, n, _, hx, hl, hlen, hf⟩ := DataW.trod_struct Try.underlying26 h
  rw [cellsLDmg] at hl
  obtain ⟨y0, e0⟩ : ∃ y, xs[0]? = some y := by rw [List.getElem?_eq_getElem (by rw [hlen]; decide)]; exact ⟨_, rfl⟩
  obtain ⟨y1, e1⟩ : ∃ y, xs[1]? = some y := by rw [List.getElem?_eq_getElem (by rw [hlen]; decide)]; exact ⟨_, rfl⟩
  obtain ⟨y2, e2⟩ : ∃ y, xs[2]? = some y := by rw [List.getElem?_eq_getElem (by rw [hlen]; decide)]; exact ⟨_, rfl⟩
  obtain ⟨y3, e3⟩ : ∃ y, xs[3]? = some y := by rw [List.getElem?_eq_getElem (by rw [hlen]; decide)]; exact ⟨_, rfl⟩
  obtain ⟨y4, e4⟩ : ∃ y, xs[4]? = some y := by rw [List.getElem?_eq_getElem (by rw [hlen]; decide)]; exact ⟨_, rfl⟩
  obtain ⟨y5, e5⟩ : ∃ y, xs[5]? = some y := by rw [List.getElem?_eq_getElem (by rw [hlen]; decide)]; exact ⟨_, rfl⟩
  obtain ⟨x0, h0, w0⟩ := int_cell Try.underlying2 cellsI64 (o := 0) (by omega) ((hf 0 _ rfl).trans e0)
  obtain ⟨x1, h1, w1⟩ := int_cell Try.underlying2 cellsI64 (o := 1) (by omega) ((hf 1 _ rfl).trans e1)
  obtain ⟨x2, h2, w2⟩ := int_cell Try.underlying2 cellsI64 (o := 2) (by omega) ((hf 2 _ rfl).trans e2)
  obtain ⟨x3, h3, w3⟩ := int_cell Try.underlying2 cellsI64 (o := 3) (by omega) ((hf 3 _ rfl).trans e3)
  obtain ⟨x4, h4, w4⟩ := int_cell Try.underlying2 cellsI64 (o := 4) (by omega) ((hf 4 _ rfl).trans e4)
  obtain ⟨x5, h5, w5⟩ := int_cell Try.underlying2 cellsI64 (o := 5) (by omega) ((hf 5 _ rfl).trans e5)
  refine ⟨x0, x1, x2, x3, x4, x5, ?_, w0, w1, w2, w3, w4, w5⟩
  match cs, hl with
  | [c0, c1, c2, c3, c4, c5], _ => simp_all
end

set_option maxRecDepth 100000 in
/-- a damage as an argument -/
theorem open_damage {H : Type} {enc : TypeId × Value → H} {W : World} {base b0 : Nat} {r : Reach} {spare : Nat → Bool} {held : Bool} {v : Value} {d : DataW H} {ps : List MemPlace} (hv : Value.okWide Try.prog W r b0 26 v) (h : DataW.Trod enc Try.prog W base spare held 26 v d ps) :
    ∃ (x0 x1 x2 x3 x4 x5 : Int), v = .agg #[.int .i64 x0, .int .i64 x1, .int .i64 x2, .int .i64 x3, .int .i64 x4, .int .i64 x5] ∧ (Lit.int .i64 x0).wf = true ∧ (Lit.int .i64 x1).wf = true ∧ (Lit.int .i64 x2).wf = true ∧ (Lit.int .i64 x3).wf = true ∧ (Lit.int .i64 x4).wf = true ∧ (Lit.int .i64 x5).wf = true := by
  obtain ⟨cs, rfl, hsz⟩ := okWide_struct Try.underlying26 hv
  obtain ⟨fuel, hf⟩ := h
  obtain ⟨x0, x1, x2, x3, x4, x5, hcs, r⟩ := damage_cells hf
  exact ⟨x0, x1, x2, x3, x4, x5, congrArg Value.agg (Array.toList_inj.1 hcs), r⟩

end Go.Proofs.Ythnjfdhijpfekaa
