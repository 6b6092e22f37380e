import Derived.Test.YtlgeaccjpgakbaaDoorUOpenB
namespace Go.Proofs.YtlgeaccjpgakbaaDoor
open Go.ChangeShapes Go.WideShapes Go.ChangeAt Go.RowKit

theorem cellsIs : Tryd.prog.cellsOf 26 = 1 := by kernel_rfl
theorem cellsLS : Tryd.prog.cellsOf 47 = 6 := by kernel_rfl

theorem intsAt_of {w : World} {a : Addr} {zs : List Int} (h : ∀ i, i < zs.length → w.cell? (a.add i) = some (.int .i64 (zs.getD i 0))) {n : Nat} : IntsAt w (some a) (zs.take n) := by
  intro i hi
  have hi' : i < zs.length := by have := List.length_take_le' n zs; omega
  have h0 := h 0 (by omega)
  have hs : a.spot = none := by
    obtain ⟨b, o, s⟩ := a
    cases s with
    | none => rfl
    | some s =>
      simp only [Addr.add, if_true] at h0
      unfold World.cell? at h0
      split at h0 <;> simp at h0
  obtain ⟨b, o, s⟩ := a
  obtain rfl : s = none := hs
  refine ⟨b, o, rfl, ?_⟩
  have := h i hi'
  rw [Addr.add_lit] at this
  rw [this]
  simp [hi']

/-- a slice of numbers among the arguments -/
theorem ints_cell {H : Type} {enc : TypeId × Value → H} {w : World} {base : Nat} {spare : Nat → Bool} {held : Bool} {fuel : Nat} {cs : List Value} {x : DataW H × List MemPlace}
    (h : DataW.trod enc Tryd.prog w base spare held fuel 26 cs = some x) : ∃ (a : Option Addr) (zs : List Int) (c : Nat), cs = [.slice a zs.length c] ∧ IntsAt w a zs ∧ zs.length ≤ maxLen ∧ (∀ n ∈ zs, (Lit.int .i64 n).wf = true) := by
  rcases open_ints Tryd.underlying26 Tryd.underlying2 cellsI64 h with ⟨rfl, _⟩ | ⟨a, len, cap, zs, rfl, _, hl, hm, hz, _, hc, hw⟩
  · exact ⟨Option.none, [], 0, rfl, IntsAt.nil, Nat.zero_le _, fun n hn => absurd hn (by simp)⟩
  · have e : (zs.take len).length = len := by rw [List.length_take]; split at hz <;> omega
    exact ⟨some a, zs.take len, cap, by rw [e], intsAt_of hc, by rw [e]; omega, fun n hn => hw n (List.mem_of_mem_take hn)⟩

set_option maxRecDepth 100000 in
/-- a session as an argument -/
theorem open_session {H : Type} {enc : TypeId × Value → H} {W : World} {base b0 : Nat} {r : Reach} {spare : Nat → Bool} {held : Bool} {v : Value} {d : DataW H} {ps : List MemPlace} (hv : Value.okWide Tryd.prog W r b0 47 v) (h : DataW.Trod enc Tryd.prog W base spare held 47 v d ps) :
    ∃ (p : ByteArray) (x1 x2 x3 x4 : Int) (a : Option Addr) (xs : List Int) (c : Nat), v = .agg #[.string p, .int .i64 x1, .int .i64 x2, .int .i64 x3, .int .i64 x4, .slice a xs.length c] ∧ p.size ≤ maxLen ∧
      (Lit.int .i64 x1).wf = true ∧ (Lit.int .i64 x2).wf = true ∧ (Lit.int .i64 x3).wf = true ∧ (Lit.int .i64 x4).wf = true ∧ IntsAt W a xs ∧ xs.length ≤ maxLen ∧ (∀ n ∈ xs, (Lit.int .i64 n).wf = true) := by
  obtain ⟨cs, rfl, hsz⟩ := okWide_struct Tryd.underlying47 hv
  obtain ⟨fuel, hf⟩ := h
  obtain ⟨ys, n, _, hx, hl, hlen, hg⟩ := DataW.trod_struct Tryd.underlying47 hf
  rw [cellsLS] at hl
  obtain ⟨y0, e0⟩ : ∃ y, ys[0]? = some y := by rw [List.getElem?_eq_getElem (by rw [hlen]; decide)]; exact ⟨_, rfl⟩
  obtain ⟨y1, e1⟩ : ∃ y, ys[1]? = some y := by rw [List.getElem?_eq_getElem (by rw [hlen]; decide)]; exact ⟨_, rfl⟩
  have g0 := (hg 0 _ rfl).trans e0
  have g1 := (hg 1 _ rfl).trans e1
  obtain ⟨p, x1, x2, x3, x4, h0, hp, w1, w2, w3, w4⟩ := batch_cells g0
  obtain ⟨a, zs, c, h1, hi, hzl, hzw⟩ := ints_cell g1
  refine ⟨p, x1, x2, x3, x4, a, zs, c, ?_, hp, w1, w2, w3, w4, hi, hzl, hzw⟩
  obtain ⟨l⟩ := cs
  simp only [Value.cells] at hl h0 h1
  match l, hl with
  | [c0, c1, c2, c3, c4, c5], _ => simp_all [cellsLB, cellsIs]

end Go.Proofs.YtlgeaccjpgakbaaDoor
