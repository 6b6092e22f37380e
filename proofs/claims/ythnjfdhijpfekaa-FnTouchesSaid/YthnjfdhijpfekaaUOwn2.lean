import Derived.Test.YthnjfdhijpfekaaUHeldI
namespace Go.Proofs.Ythnjfdhijpfekaa
open Go.RowKit

theorem OwnI.other {w w' : World} {base : Nat} {v : Value} {zs : List Int} {row : Option Nat} (h : OwnI w base v zs) (hg : w.grownBy w' row) (hne : ∀ k, v.ownBlock = some k → row ≠ some k) : OwnI w' base v zs :=
  h.kept hg (by
    cases hv : v.ownBlock with
    | none => exact Or.inl rfl
    | some k => exact Or.inr (fun e => hne k hv e.symm))
theorem OwnI.lo {w : World} {base : Nat} {v : Value} {zs : List Int} (h : OwnI w base v zs) : ∀ k, v.ownBlock = some k → base ≤ k := fun k hk => (World.ownsRow.lt h k hk).1
theorem OwnI.hi {w : World} {base : Nat} {v : Value} {zs : List Int} (h : OwnI w base v zs) : ∀ k, v.ownBlock = some k → k < w.heap.size := fun k hk => (World.ownsRow.lt h k hk).2
theorem OwnI.ints {w : World} {base : Nat} {a : Option Addr} {n c : Nat} {zs : List Int} (h : OwnI w base (.slice a n c) zs) : IntsAt w a zs := by
  obtain ⟨a', c', e, hx⟩ := h.read
  obtain ⟨rfl, _, _⟩ := Value.slice.inj e
  exact hx
/-- how a slice of numbers is written -/
def Slc (a : Option Addr) (xs : List Int) : Prop := (∀ ad, a = some ad → ad.spot = none) ∧ (a = none → xs = [])
theorem OwnI.slc {w : World} {base : Nat} {a : Option Addr} {n c : Nat} {xs : List Int} (h : OwnI w base (.slice a n c) xs) : Slc a xs := by
  rcases h.2 with ⟨h1, h0⟩ | ⟨g, cap, cur, h1, _⟩
  · obtain ⟨rfl, _, _⟩ := Value.slice.inj h1
    exact ⟨fun ad e => (by cases e), fun _ => List.eq_nil_of_length_eq_zero (by simpa using h0)⟩
  · obtain ⟨rfl, _, _⟩ := Value.slice.inj h1
    exact ⟨fun ad e => (by cases e; rfl), fun e => (by cases e)⟩

theorem boxG {w w1 : World} {b : Nat} {cs : Array Value} {row : Option Nat} (hg : w.grownBy w1 row) (h : ∀ i, w.cell? ⟨b, i, none⟩ = cs[i]?) (hne : row ≠ some b) (h0 : 0 < cs.size) : ∀ i, w1.cell? ⟨b, i, none⟩ = cs[i]? := fun i => by
  have h1 : b < w.heap.size := boxLt h h0
  rw [World.cell?_of_block (w := w) (a := ⟨b, i, none⟩) (hg.block b h1 (fun e => hne e.symm))]
  exact h i
/-- two rows whose blocks lie on two sides of a number are two -/
theorem apartB {v : Value} {u : Value} {T : Nat} (h1 : ∀ k, v.ownBlock = some k → k < T) (h2 : ∀ k, u.ownBlock = some k → T ≤ k) : ∀ k, v.ownBlock = some k → u.ownBlock ≠ some k := fun k hk e => by
  have a := h1 k hk
  have b := h2 k e
  omega
theorem apartB' {v : Value} {u : Value} {T : Nat} (h1 : ∀ k, v.ownBlock = some k → k < T) (h2 : ∀ k, u.ownBlock = some k → T ≤ k) : ∀ k, u.ownBlock = some k → v.ownBlock ≠ some k := fun k hk e => by
  have a := h1 k e
  have b := h2 k hk
  omega
theorem below_row {B : Nat} {w w' : World} {v : Value} (h : w.grownBy w' v.ownBlock) (hB : B ≤ w.heap.size) (hr : ∀ k, v.ownBlock = some k → B ≤ k) : Below B w w' := below_of_grownBy h hB hr

theorem heldOf_marks (m : Int) (n : Nat) : heldOf m (marks m n) = m + n := by rw [heldOf, if_pos (by rw [marks_len]), marks_len]

theorem heldInt64S_marks {a : Option Addr} {n c : Nat} {m : Int} {w : World} (hx : IntsAt w a (marks m n)) (ln : n ≤ 1099511627776) (hm0 : 0 ≤ m) (hm : m ≤ 1099511627776) :
    Calls Try.prog 42 #[.slice a n c, .int .i64 m] w fun e w' => e = .returned (.int .i64 (m + n)) ∧ w = w' := by
  have := heldInt64S_any a (marks m n) c m w hx (by rw [marks_len]; exact ln) hm0 hm
  rw [marks_len, heldOf_marks] at this
  exact this

end Go.Proofs.Ythnjfdhijpfekaa
