import Derived.Test.YthnjfdhijpfekaaUOpenRas
import Derived.Test.YthnjfdhijpfekaaUDmL
import Derived.DataReads
namespace Go.Proofs.Ythnjfdhijpfekaa
open Go.ChangeShapes Go.WideShapes Go.ChangeAt Go.RowKit

theorem spot_of_cell {w : World} {a : Addr} {t : IntKind} {z : Int} (h : w.cell? a = some (.int t z)) : a.spot = none := by
  obtain ⟨b, o, s⟩ := a
  cases s with
  | none => rfl
  | some s =>
    exfalso
    unfold World.cell? at h
    split at h <;> simp at h
theorem add_zero' (a : Addr) : a.add 0 = a := by simp [Addr.add]

set_option maxRecDepth 100000 in
/-- damages as an argument -/
theorem open_damages {H : Type} {enc : TypeId × Value → H} {W : World} {base b0 : Nat} {r : Reach} {spare : Nat → Bool} {held : Bool} {v : Value} {d : DataW H} {ps : List MemPlace} (hv : Value.okWide Try.prog W r b0 47 v) (h : DataW.Trod enc Try.prog W base spare held 47 v d ps) :
    ∃ (a : Option Addr) (ds : List Dm) (c : Nat), v = .slice a ds.length c ∧ DmsAt W a ds ∧ ds.length ≤ maxLen := by
  obtain ⟨a, len, cap, rfl⟩ := okWide_slice Try.underlying47 hv
  obtain ⟨fuel, hf⟩ := h
  rcases DataW.trod_slice Try.underlying47 hf with ⟨h1, _⟩ | ⟨a', len', cap', elems, rest, n, _, h1, _, hb, hl, hm, hlen, hel, _, _⟩
  · simp [Value.cells] at h1
    obtain ⟨rfl, rfl, rfl⟩ := h1
    exact ⟨Option.none, [], 0, rfl, fun i hi => absurd hi (by simp), Nat.zero_le _⟩
  · simp [Value.cells] at h1
    obtain ⟨rfl, rfl, rfl⟩ := h1
    rw [cellsLDmg] at hel
    have each0 : ∀ i, i < len → ∃ d : Dm, W.cell? ((a'.add (i * 6)).add 0) = some (.int .i64 d.k) ∧ W.cell? ((a'.add (i * 6)).add 1) = some (.int .i64 d.r) ∧ W.cell? ((a'.add (i * 6)).add 2) = some (.int .i64 d.c) ∧ W.cell? ((a'.add (i * 6)).add 3) = some (.int .i64 d.t) ∧ W.cell? ((a'.add (i * 6)).add 4) = some (.int .i64 d.w) ∧ W.cell? ((a'.add (i * 6)).add 5) = some (.int .i64 d.g) := by
      intro i hi
      obtain ⟨y, hy⟩ : ∃ y, elems[i]? = some y := ⟨elems[i]'(by omega), List.getElem?_eq_getElem _⟩
      have hb' := (hel i hi).trans hy
      rw [Option.bind_eq_some_iff] at hb'
      obtain ⟨cs', hcs, hy'⟩ := hb'
      obtain ⟨x0, x1, x2, x3, x4, x5, rfl, _⟩ := damage_cells hy'
      have hc := (World.cells?_some hcs).2.2
      exact ⟨⟨x0, x1, x2, x3, x4, x5⟩, hc 0 (by omega), hc 1 (by omega), hc 2 (by omega), hc 3 (by omega), hc 4 (by omega), hc 5 (by omega)⟩
    have hsp : 0 < len → a'.spot = Option.none := by
      intro h0
      obtain ⟨d, hd, _⟩ := each0 0 h0
      rw [add_zero', Nat.zero_mul, add_zero'] at hd
      exact spot_of_cell hd
    obtain ⟨ds, hdl, hds⟩ : ∃ ds : List Dm, ds.length = len ∧ ∀ i (h : i < ds.length), W.cell? ((a'.add (i * 6)).add 0) = some (.int .i64 ds[i].k) ∧ W.cell? ((a'.add (i * 6)).add 1) = some (.int .i64 ds[i].r) ∧ W.cell? ((a'.add (i * 6)).add 2) = some (.int .i64 ds[i].c) ∧ W.cell? ((a'.add (i * 6)).add 3) = some (.int .i64 ds[i].t) ∧ W.cell? ((a'.add (i * 6)).add 4) = some (.int .i64 ds[i].w) ∧ W.cell? ((a'.add (i * 6)).add 5) = some (.int .i64 ds[i].g) := by
      refine ⟨(List.range len).attach.map (fun i => (each0 i.1 (List.mem_range.1 i.2)).choose), by simp, ?_⟩
      intro i h
      simp only [List.getElem_map, List.getElem_attach, List.getElem_range]
      exact (each0 i (by simpa using h)).choose_spec
    subst hdl
    refine ⟨some a', ds, cap, rfl, ?_, by omega⟩
    intro i hi
    obtain ⟨b, o, s⟩ := a'
    obtain rfl : s = Option.none := hsp (by omega)
    obtain ⟨h0, h1, h2, h3, h4, h5⟩ := hds i hi
    rw [Addr.add_lit, Addr.add_lit] at h0 h1 h2 h3 h4 h5
    exact ⟨b, o, rfl, h0, h1, h2, h3, h4, h5⟩

end Go.Proofs.Ythnjfdhijpfekaa
