import Derived.Test.YtnijdfdcjjbneaaDoorULaw0
namespace Go.Proofs.YtnijdfdcjjbneaaDoor
open Go.ChangeShapes Go.WideShapes Go.ChangeAt Go.RowKit

section
variable {H : Type} {enc : TypeId × Value → H} {w : World} {base : Nat} {spare : Nat → Bool} {held : Bool} {fuel : Nat} {cs : List Value} {x : DataW H × List MemPlace}

theorem int_cell {k : IntKind} {t : TypeId} (ht : Tryd.prog.underlying t = some (.int k)) (hc : Tryd.prog.cellsOf t = 1) {o : Nat} (_hl : o < cs.length)
    (h : DataW.trod enc Tryd.prog w base spare held fuel t ((cs.drop o).take (Tryd.prog.cellsOf t)) = some x) : ∃ n, cs[o]? = some (.int k n) ∧ (Lit.int k n).wf = true := by
  obtain ⟨n, h1, _, h2⟩ := DataW.trod_int ht h
  refine ⟨n, ?_, h2⟩
  rw [hc] at h1
  have h3 := congrArg (fun l => l[0]?) h1
  simpa [List.getElem?_take, List.getElem?_drop] using h3
theorem string_cell {t : TypeId} (ht : Tryd.prog.underlying t = some .string) (hc : Tryd.prog.cellsOf t = 1) {o : Nat} (_hl : o < cs.length)
    (h : DataW.trod enc Tryd.prog w base spare held fuel t ((cs.drop o).take (Tryd.prog.cellsOf t)) = some x) : ∃ s : ByteArray, cs[o]? = some (.string s) ∧ s.size ≤ maxLen := by
  obtain ⟨s, h1, _, h2⟩ := DataW.trod_string ht h
  refine ⟨s, ?_, h2⟩
  rw [hc] at h1
  have h3 := congrArg (fun l => l[0]?) h1
  simpa [List.getElem?_take, List.getElem?_drop] using h3

theorem cellsI64 : Tryd.prog.cellsOf 2 = 1 := by kernel_rfl
theorem cellsStr : Tryd.prog.cellsOf 9 = 1 := by kernel_rfl
theorem cellsLB : Tryd.prog.cellsOf 38 = 5 := by kernel_rfl

set_option maxRecDepth 100000 in
/-- a batch among the arguments -/
theorem batch_cells (h : DataW.trod enc Tryd.prog w base spare held fuel 38 cs = some x) :
    ∃ (p : ByteArray) (x1 x2 x3 x4 : Int), cs = [.string p, .int .i64 x1, .int .i64 x2, .int .i64 x3, .int .i64 x4] ∧ p.size ≤ maxLen ∧ (Lit.int .i64 x1).wf = true ∧ (Lit.int .i64 x2).wf = true ∧ (Lit.int .i64 x3).wf = true ∧ (Lit.int .i64 x4).wf = true := by
  obtain ⟨xs, n, _, hx, hl, hlen, hf⟩ := DataW.trod_struct Tryd.underlying38 h
  rw [cellsLB] at hl
  obtain ⟨y0, e0⟩ : ∃ y, xs[0]? = some y := by rw [List.getElem?_eq_getElem (by rw [hlen]; decide)]; exact ⟨_, rfl⟩
  obtain ⟨y1, e1⟩ : ∃ y, xs[1]? = some y := by rw [List.getElem?_eq_getElem (by rw [hlen]; decide)]; exact ⟨_, rfl⟩
  obtain ⟨y2, e2⟩ : ∃ y, xs[2]? = some y := by rw [List.getElem?_eq_getElem (by rw [hlen]; decide)]; exact ⟨_, rfl⟩
  obtain ⟨y3, e3⟩ : ∃ y, xs[3]? = some y := by rw [List.getElem?_eq_getElem (by rw [hlen]; decide)]; exact ⟨_, rfl⟩
  obtain ⟨y4, e4⟩ : ∃ y, xs[4]? = some y := by rw [List.getElem?_eq_getElem (by rw [hlen]; decide)]; exact ⟨_, rfl⟩
  obtain ⟨p, h0, hp⟩ := string_cell Tryd.underlying9 cellsStr (o := 0) (by omega) ((hf 0 _ rfl).trans e0)
  obtain ⟨x1, h1, w1⟩ := int_cell Tryd.underlying2 cellsI64 (o := 1) (by omega) ((hf 1 _ rfl).trans e1)
  obtain ⟨x2, h2, w2⟩ := int_cell Tryd.underlying2 cellsI64 (o := 2) (by omega) ((hf 2 _ rfl).trans e2)
  obtain ⟨x3, h3, w3⟩ := int_cell Tryd.underlying2 cellsI64 (o := 3) (by omega) ((hf 3 _ rfl).trans e3)
  obtain ⟨x4, h4, w4⟩ := int_cell Tryd.underlying2 cellsI64 (o := 4) (by omega) ((hf 4 _ rfl).trans e4)
  refine ⟨p, x1, x2, x3, x4, ?_, hp, w1, w2, w3, w4⟩
  match cs, hl with
  | [c0, c1, c2, c3, c4], _ => simp_all
end

set_option maxRecDepth 100000 in
/-- a batch as an argument -/
theorem open_batch {H : Type} {enc : TypeId × Value → H} {W : World} {base b0 : Nat} {r : Reach} {spare : Nat → Bool} {held : Bool} {v : Value} {d : DataW H} {ps : List MemPlace} (hv : Value.okWide Tryd.prog W r b0 38 v) (h : DataW.Trod enc Tryd.prog W base spare held 38 v d ps) :
    ∃ (p : ByteArray) (x1 x2 x3 x4 : Int), v = .agg #[.string p, .int .i64 x1, .int .i64 x2, .int .i64 x3, .int .i64 x4] ∧ p.size ≤ maxLen ∧ (Lit.int .i64 x1).wf = true ∧ (Lit.int .i64 x2).wf = true ∧ (Lit.int .i64 x3).wf = true ∧ (Lit.int .i64 x4).wf = true := by
  obtain ⟨cs, rfl, hsz⟩ := okWide_struct Tryd.underlying38 hv
  obtain ⟨fuel, hf⟩ := h
  obtain ⟨p, x1, x2, x3, x4, hcs, r⟩ := batch_cells hf
  exact ⟨p, x1, x2, x3, x4, congrArg Value.agg (Array.toList_inj.1 hcs), r⟩

end Go.Proofs.YtnijdfdcjjbneaaDoor
