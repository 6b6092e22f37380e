import Derived.Test.YtlcglclojlffgaaGreatDoorVOpenB
import Derived.Test.YtlcglclojlffgaaGreatDoorVLblI
import Derived.DataReads
namespace Go.Proofs.YtlcglclojlffgaaGreatDoor
open Go.ChangeShapes Go.WideShapes Go.ChangeAt Go.RowKit

theorem cellsLIt : Tryz.prog.cellsOf 76 = 9 := by kernel_rfl
theorem cellsLLb : Tryz.prog.cellsOf 24 = 3 := by kernel_rfl
theorem cellsLIts : Tryz.prog.cellsOf 22 = 1 := by kernel_rfl
theorem spot_of_cell' {w : World} {a : Addr} {t : IntKind} {z : Int} (h : w.cell? a = some (.int t z)) : a.spot = none := by
  obtain ⟨b, o, s⟩ := a
  cases s with
  | none => rfl
  | some s =>
    exfalso
    unfold World.cell? at h
    split at h <;> simp at h
theorem add_zero'' (a : Addr) : a.add 0 = a := by simp [Addr.add]
section
variable {H : Type} {enc : TypeId × Value → H} {w : World} {base : Nat} {spare : Nat → Bool} {held : Bool} {fuel : Nat} {cs : List Value} {x : DataW H × List MemPlace}
set_option maxRecDepth 100000 in
/-- an item among the arguments -/
theorem item_cells (h : DataW.trod enc Tryz.prog w base spare held fuel 76 cs = some x) :
    ∃ y : It, cs = itE.enc y ∧ y.name.size ≤ maxLen ∧ y.text.size ≤ maxLen := by
  obtain ⟨xs, n, _, hx, hl, hlen, hf⟩ := DataW.trod_struct Tryz.underlying76 h
  rw [cellsLIt] at hl
  obtain ⟨y0, e0⟩ : ∃ y, xs[0]? = some y := by rw [List.getElem?_eq_getElem (by rw [hlen]; decide)]; exact ⟨_, rfl⟩
  obtain ⟨y1, e1⟩ : ∃ y, xs[1]? = some y := by rw [List.getElem?_eq_getElem (by rw [hlen]; decide)]; exact ⟨_, rfl⟩
  obtain ⟨y2, e2⟩ : ∃ y, xs[2]? = some y := by rw [List.getElem?_eq_getElem (by rw [hlen]; decide)]; exact ⟨_, rfl⟩
  obtain ⟨y3, e3⟩ : ∃ y, xs[3]? = some y := by rw [List.getElem?_eq_getElem (by rw [hlen]; decide)]; exact ⟨_, rfl⟩
  obtain ⟨y4, e4⟩ : ∃ y, xs[4]? = some y := by rw [List.getElem?_eq_getElem (by rw [hlen]; decide)]; exact ⟨_, rfl⟩
  obtain ⟨y5, e5⟩ : ∃ y, xs[5]? = some y := by rw [List.getElem?_eq_getElem (by rw [hlen]; decide)]; exact ⟨_, rfl⟩
  obtain ⟨y6, e6⟩ : ∃ y, xs[6]? = some y := by rw [List.getElem?_eq_getElem (by rw [hlen]; decide)]; exact ⟨_, rfl⟩
  obtain ⟨y7, e7⟩ : ∃ y, xs[7]? = some y := by rw [List.getElem?_eq_getElem (by rw [hlen]; decide)]; exact ⟨_, rfl⟩
  obtain ⟨y8, e8⟩ : ∃ y, xs[8]? = some y := by rw [List.getElem?_eq_getElem (by rw [hlen]; decide)]; exact ⟨_, rfl⟩
  obtain ⟨x0, h0, -⟩ := int_cell Tryz.underlying2 cellsI64 (o := 0) (by omega) ((hf 0 _ rfl).trans e0)
  obtain ⟨x1, h1, -⟩ := int_cell Tryz.underlying2 cellsI64 (o := 1) (by omega) ((hf 1 _ rfl).trans e1)
  obtain ⟨x2, h2, -⟩ := int_cell Tryz.underlying2 cellsI64 (o := 2) (by omega) ((hf 2 _ rfl).trans e2)
  obtain ⟨x3, h3, -⟩ := int_cell Tryz.underlying2 cellsI64 (o := 3) (by omega) ((hf 3 _ rfl).trans e3)
  obtain ⟨x4, h4, -⟩ := int_cell Tryz.underlying2 cellsI64 (o := 4) (by omega) ((hf 4 _ rfl).trans e4)
  obtain ⟨x5, h5, -⟩ := int_cell Tryz.underlying2 cellsI64 (o := 5) (by omega) ((hf 5 _ rfl).trans e5)
  obtain ⟨x6, h6, z6⟩ := string_cell Tryz.underlying9 cellsStr (o := 6) (by omega) ((hf 6 _ rfl).trans e6)
  obtain ⟨x7, h7, -⟩ := int_cell Tryz.underlying2 cellsI64 (o := 7) (by omega) ((hf 7 _ rfl).trans e7)
  obtain ⟨x8, h8, z8⟩ := string_cell Tryz.underlying9 cellsStr (o := 8) (by omega) ((hf 8 _ rfl).trans e8)
  refine ⟨⟨x0, x1, x2, x3, x4, x5, x6, x7, x8⟩, ?_, z6, z8⟩
  match cs, hl with
  | [c0, c1, c2, c3, c4, c5, c6, c7, c8], _ => simp_all [itE]
/-- a slice of items among the arguments -/
theorem items_cell (h : DataW.trod enc Tryz.prog w base spare held fuel 22 cs = some x) : ∃ (a : Option Addr) (xs : List It) (c : Nat), cs = [.slice a xs.length c] ∧ itE.At w a xs ∧ xs.length ≤ maxLen ∧ (∀ y ∈ xs, y.name.size ≤ maxLen ∧ y.text.size ≤ maxLen) := by
  rcases DataW.trod_slice Tryz.underlying22 h with ⟨h1, _⟩ | ⟨a', len, cap, elems, rest, n, _, h1, _, hb, hl, hm, hlen, hel, _, _⟩
  · exact ⟨Option.none, [], 0, h1, fun i y hy => by simp at hy, Nat.zero_le _, fun y hy => absurd hy (by simp)⟩
  · rw [cellsLIt] at hel
    have each0 : ∀ i, i < len → ∃ y : It, (∀ j u, (itE.enc y)[j]? = some u → w.cell? ((a'.add (i * 9)).add j) = some u) ∧ y.name.size ≤ maxLen ∧ y.text.size ≤ maxLen := by
      intro i hi
      obtain ⟨y, hy⟩ : ∃ y, elems[i]? = some y := ⟨elems[i]'(by omega), List.getElem?_eq_getElem _⟩
      have hb' := (hel i hi).trans hy
      rw [Option.bind_eq_some_iff] at hb'
      obtain ⟨cs', hcs, hy'⟩ := hb'
      obtain ⟨z, rfl, z1, z2⟩ := item_cells hy'
      have hc := (World.cells?_some hcs).2.2
      refine ⟨z, fun j u hu => ?_, z1, z2⟩
      have hj : j < 9 := by
        have h1 := (List.getElem?_eq_some_iff.1 hu).1
        rwa [itE.len] at h1
      have := hc j hj
      rw [this]
      have hu2 := hu
      rw [List.getElem?_eq_some_iff] at hu2
      obtain ⟨hj2, rfl⟩ := hu2
      simp [List.getElem?_eq_getElem hj2]
    have hsp : 0 < len → a'.spot = Option.none := by
      intro h0
      obtain ⟨y, hy, -⟩ := each0 0 h0
      have h1 := hy 0 (.int .i64 y.kind) rfl
      rw [add_zero'', Nat.zero_mul, add_zero''] at h1
      exact spot_of_cell' h1
    obtain ⟨ys, hyl, hys⟩ : ∃ ys : List It, ys.length = len ∧ ∀ i (h : i < ys.length), (∀ j u, (itE.enc ys[i])[j]? = some u → w.cell? ((a'.add (i * 9)).add j) = some u) ∧ ys[i].name.size ≤ maxLen ∧ ys[i].text.size ≤ maxLen := by
      refine ⟨(List.range len).attach.map (fun i => (each0 i.1 (List.mem_range.1 i.2)).choose), by simp, ?_⟩
      intro i h
      simp only [List.getElem_map, List.getElem_attach, List.getElem_range]
      exact (each0 i (by simpa using h)).choose_spec
    subst hyl
    refine ⟨some a', ys, cap, h1, ?_, by omega, ?_⟩
    · intro i y hy
      obtain ⟨b, o, s⟩ := a'
      have hi := (List.getElem?_eq_some_iff.1 hy).1
      obtain rfl : s = Option.none := hsp (by omega)
      refine ⟨b, o, rfl, fun j u hu => ?_⟩
      have he : ys[i] = y := (List.getElem?_eq_some_iff.1 hy).2
      have h2 := (hys i hi).1 j u (by rw [he]; exact hu)
      rw [Addr.add_lit, Addr.add_lit, Nat.add_assoc] at h2
      exact h2
    · intro y hy
      obtain ⟨i, hi, rfl⟩ := List.mem_iff_getElem.1 hy
      exact (hys i hi).2
end

set_option maxRecDepth 100000 in
/-- a label as an argument -/
theorem open_label {H : Type} {enc : TypeId × Value → H} {W : World} {base b0 : Nat} {r : Reach} {spare : Nat → Bool} {held : Bool} {v : Value} {d : DataW H} {ps : List MemPlace} (hv : Value.okWide Tryz.prog W r b0 24 v) (h : DataW.Trod enc Tryz.prog W base spare held 24 v d ps) :
    ∃ (l : Lb) (a : Option Addr) (c : Nat), v = lbV l a c ∧ itE.At W a l.items ∧ l.items.length ≤ maxLen ∧ (∀ y ∈ l.items, y.name.size ≤ maxLen ∧ y.text.size ≤ maxLen) := by
  obtain ⟨cs, rfl, hsz⟩ := okWide_struct Tryz.underlying24 hv
  obtain ⟨fuel, hf⟩ := h
  obtain ⟨ys, n, _, hx, hl, hlen, hg⟩ := DataW.trod_struct Tryz.underlying24 hf
  rw [cellsLLb] at hl
  obtain ⟨y0, e0⟩ : ∃ y, ys[0]? = some y := by rw [List.getElem?_eq_getElem (by rw [hlen]; decide)]; exact ⟨_, rfl⟩
  obtain ⟨y1, e1⟩ : ∃ y, ys[1]? = some y := by rw [List.getElem?_eq_getElem (by rw [hlen]; decide)]; exact ⟨_, rfl⟩
  obtain ⟨y2, e2⟩ : ∃ y, ys[2]? = some y := by rw [List.getElem?_eq_getElem (by rw [hlen]; decide)]; exact ⟨_, rfl⟩
  have hl' : cs.toList.length = 3 := by simpa [Value.cells] using hl
  obtain ⟨rows, h0, -⟩ := int_cell Tryz.underlying2 cellsI64 (o := 0) (by simp [Value.cells]; simp at hl'; omega) ((hg 0 _ rfl).trans e0)
  obtain ⟨cols, h1, -⟩ := int_cell Tryz.underlying2 cellsI64 (o := 1) (by simp [Value.cells]; simp at hl'; omega) ((hg 1 _ rfl).trans e1)
  obtain ⟨a, xs, c, h2, hat, hxl, hxs⟩ := items_cell ((hg 2 _ rfl).trans e2)
  refine ⟨⟨rows, cols, xs⟩, a, c, ?_, hat, hxl, hxs⟩
  obtain ⟨l⟩ := cs
  simp only [Value.cells] at hl h0 h1 h2
  match l, hl with
  | [q0, q1, q2], _ => simp_all [cellsLIts]

end Go.Proofs.YtlcglclojlffgaaGreatDoor
