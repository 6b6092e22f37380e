import Derived.Test.YtpilkgcghlfdmaaGreatDoorM0
import Derived.Test.YtpilkgcghlfdmaaGreatDoorVEqI
import Derived.Test.YtpilkgcghlfdmaaGreatDoorVMarkI
import Derived.Test.YtpilkgcghlfdmaaGreatDoorVSzI
import Derived.Test.YtpilkgcghlfdmaaGreatDoorM1
namespace Go.Proofs.YtpilkgcghlfdmaaGreatDoor
open Go.RowKit

/-- all tests of two batches -/
def eqBatchB (p : ByteArray) (x1 x2 x3 x4 : Int) (q : ByteArray) (y1 y2 y3 y4 : Int) : Bool := p.toList == q.toList && x1 == y1 && x2 == y2 && x3 == y3 && x4 == y4

theorem five (a b c d e : Bool) : a = false ∨ (a = true ∧ b = false) ∨ (a = true ∧ b = true ∧ c = false) ∨ (a = true ∧ b = true ∧ c = true ∧ d = false) ∨ (a = true ∧ b = true ∧ c = true ∧ d = true ∧ e = false) ∨
    (a = true ∧ b = true ∧ c = true ∧ d = true ∧ e = true) := by
  cases a <;> cases b <;> cases c <;> cases d <;> cases e <;> simp

theorem byte_toList (p : ByteArray) : p.toList = p.data.toList := ByteArray.toList_eq p

theorem eqBatchB_iff {p q : ByteArray} {x1 x2 x3 x4 y1 y2 y3 y4 : Int} : eqBatchB p x1 x2 x3 x4 q y1 y2 y3 y4 = true ↔ p = q ∧ x1 = y1 ∧ x2 = y2 ∧ x3 = y3 ∧ x4 = y4 := by
  simp only [eqBatchB, Bool.and_eq_true, beq_iff_eq, and_assoc]
  constructor
  · rintro ⟨h, r⟩
    exact ⟨ByteArray.ext (Array.toList_inj.1 (by rw [← byte_toList, ← byte_toList, h])), r⟩
  · rintro ⟨rfl, r⟩; exact ⟨rfl, r⟩

/-- two sessions -/
def eqSessionB (p : ByteArray) (x1 x2 x3 x4 : Int) (xs : List Int) (q : ByteArray) (y1 y2 y3 y4 : Int) (ys : List Int) : Bool := eqBatchB p x1 x2 x3 x4 q y1 y2 y3 y4 && decide (xs = ys)

theorem eqSessionB_self (p : ByteArray) (x1 x2 x3 x4 : Int) (xs : List Int) : eqSessionB p x1 x2 x3 x4 xs p x1 x2 x3 x4 xs = true := by
  rw [eqSessionB, eqBatchB_iff.2 ⟨rfl, rfl, rfl, rfl, rfl⟩]; simp

/-- a session of the call's own is handed back -/
def RetSess (w : World) (p : ByteArray) (x1 x2 x3 x4 : Int) (xs : List Int) (e : Ending) (w' : World) : Prop :=
  ∃ a c, e = .returned (.agg #[.string p, .int .i64 x1, .int .i64 x2, .int .i64 x3, .int .i64 x4, .slice a xs.length c]) ∧ OwnI w' w.heap.size (.slice a xs.length c) xs ∧ Below w.heap.size w w'

end Go.Proofs.YtpilkgcghlfdmaaGreatDoor
