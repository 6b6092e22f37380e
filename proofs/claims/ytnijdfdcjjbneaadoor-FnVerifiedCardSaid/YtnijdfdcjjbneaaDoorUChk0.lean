import Derived.Test.YtnijdfdcjjbneaaDoorURange
namespace Go.Proofs.YtnijdfdcjjbneaaDoor
open Go.RowKit

/-- the value of a byte modulo 10 -/
def valC (c : UInt8) : Int := if 48 ≤ (c.toNat : Int) ∧ (c.toNat : Int) ≤ 57 then (c.toNat : Int) - 48 else (c.toNat : Int) % 10
theorem valC_bd (c : UInt8) : 0 ≤ valC c ∧ valC c ≤ 9 := by unfold valC; split <;> omega
def wgt (k : Nat) : Int := if k % 2 = 0 then 3 else 1
theorem wgt_bd (k : Nat) : 1 ≤ wgt k ∧ wgt k ≤ 3 := by unfold wgt; split <;> omega
theorem wgt_succ (k : Nat) : wgt (k + 1) = 4 - wgt k := by unfold wgt; split <;> split <;> omega
/-- the weighted sum of the last k bytes -/
def ws (p : ByteArray) : Nat → Int
  | 0 => 0
  | k + 1 => ws p k + wgt k * valC (p.data.toList.getD (p.size - 1 - k) 0)
theorem ws_bd (p : ByteArray) : ∀ k, 0 ≤ ws p k ∧ ws p k ≤ 27 * k
  | 0 => by simp [ws]
  | k + 1 => by
    have h1 := ws_bd p k
    have h2 := valC_bd (p.data.toList.getD (p.size - 1 - k) 0)
    unfold ws wgt
    generalize valC _ = v at *
    split <;> omega
/-- the check digit -/
def chkB (p : ByteArray) : Int := (10 - ws p p.size % 10) % 10
theorem chkB_bd (p : ByteArray) : 0 ≤ chkB p ∧ chkB p ≤ 9 := by unfold chkB; omega

end Go.Proofs.YtnijdfdcjjbneaaDoor
