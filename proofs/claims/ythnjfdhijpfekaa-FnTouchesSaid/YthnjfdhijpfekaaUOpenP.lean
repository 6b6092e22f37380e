import Derived.Test.YthnjfdhijpfekaaULawP
namespace Go.Proofs.Ythnjfdhijpfekaa
open Go.ChangeShapes Go.WideShapes Go.ChangeAt Go.RowKit

section
variable {H : Type} {enc : TypeId × Value → H} {w : World} {base : Nat} {spare : Nat → Bool} {held : Bool} {fuel : Nat} {cs : List Value} {x : DataW H × List MemPlace}

theorem int_cell {k : IntKind} {t : TypeId} (ht : Try.prog.underlying t = some (.int k)) (hc : Try.prog.cellsOf t = 1) {o : Nat} (_hl : o < cs.length)
    (h : DataW.trod enc Try.prog w base spare held fuel t ((cs.drop o).take (Try.prog.cellsOf t)) = some x) : ∃ n, cs[o]? = some (.int k n) ∧ (Lit.int k n).wf = true := by
  obtain ⟨n, h1, _, h2⟩ := DataW.trod_int ht h
  refine ⟨n, ?_, h2⟩
  rw [hc] at h1
  have h3 := congrArg (fun l => l[0]?) h1
  simpa [List.getElem?_take, List.getElem?_drop] using h3
theorem string_cell {t : TypeId} (ht : Try.prog.underlying t = some .string) (hc : Try.prog.cellsOf t = 1) {o : Nat} (_hl : o < cs.length)
    (h : DataW.trod enc Try.prog w base spare held fuel t ((cs.drop o).take (Try.prog.cellsOf t)) = some x) : ∃ s : ByteArray, cs[o]? = some (.string s) ∧ s.size ≤ maxLen := by
  obtain ⟨s, h1, _, h2⟩ := DataW.trod_string ht h
  refine ⟨s, ?_, h2⟩
  rw [hc] at h1
  have h3 := congrArg (fun l => l[0]?) h1
  simpa [List.getElem?_take, List.getElem?_drop] using h3

theorem cellsI64 : Try.prog.cellsOf 2 = 1 := by kernel_rfl
theorem cellsStr : Try.prog.cellsOf 9 = 1 := by kernel_rfl
end

theorem cellsIs : Try.prog.cellsOf 22 = 1 := by kernel_rfl
theorem intsAt_of {w : World} {a : Addr} {zs : List Int} (h : ∀ i, i < zs.length → w.cell? (a.add i) = some (.int .i64 (zs.getD i 0))) {n : Nat} : IntsAt w (some a) (zs.take n) := by
  intro i hi
  have hi' : i < zs.length := by have := List.length_take_le' n zs; omega
  have h0 := h 0 (by omega)
  have hs : a.spot = none := by
    obtain ⟨b, o, s⟩ := a
    cases s with
    | none => rfl
    | some s =>
      simp only [Addr.add, if_true] at h0
      unfold World.cell? at h0
      split at h0 <;> simp at h0
  obtain ⟨b, o, s⟩ := a
  obtain rfl : s = none := hs
  refine ⟨b, o, rfl, ?_⟩
  have := h i hi'
  rw [Addr.add_lit] at this
  rw [this]
  simp [hi']

/-- a slice of numbers among the arguments -/
theorem ints_cell {H : Type} {enc : TypeId × Value → H} {w : World} {base : Nat} {spare : Nat → Bool} {held : Bool} {fuel : Nat} {cs : List Value} {x : DataW H × List MemPlace}
    (h : DataW.trod enc Try.prog w base spare held fuel 22 cs = some x) : ∃ (a : Option Addr) (zs : List Int) (c : Nat), cs = [.slice a zs.length c] ∧ IntsAt w a zs ∧ zs.length ≤ maxLen ∧ (∀ n ∈ zs, (Lit.int .i64 n).wf = true) := by
  rcases open_ints Try.underlying22 Try.underlying2 cellsI64 h with ⟨rfl, _⟩ | ⟨a, len, cap, zs, rfl, _, hl, hm, hz, _, hc, hw⟩
  · exact ⟨Option.none, [], 0, rfl, IntsAt.nil, Nat.zero_le _, fun n hn => absurd hn (by simp)⟩
  · have e : (zs.take len).length = len := by rw [List.length_take]; split at hz <;> omega
    exact ⟨some a, zs.take len, cap, by rw [e], intsAt_of hc, by rw [e]; omega, fun n hn => hw n (List.mem_of_mem_take hn)⟩

end Go.Proofs.Ythnjfdhijpfekaa
