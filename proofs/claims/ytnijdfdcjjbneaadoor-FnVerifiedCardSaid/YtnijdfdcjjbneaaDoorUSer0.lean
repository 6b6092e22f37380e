import Derived.Test.YtnijdfdcjjbneaaDoorUBatch0
import Derived.Test.YtnijdfdcjjbneaaDoorUChk0
import Derived.Lib.Repeat
namespace Go.Proofs.YtnijdfdcjjbneaaDoor
open Go.RowKit

def zerosB (n : Nat) : ByteArray := ⟨(List.replicate n (48 : UInt8)).toArray⟩
theorem zerosB_size (n : Nat) : (zerosB n).size = n := by simp [zerosB, ByteArray.size]
theorem zerosB_zero : zerosB 0 = ByteArray.empty := rfl
theorem zerosB_succ (n : Nat) : zerosB (n + 1) = zerosB 1 ++ zerosB n := by
  apply ByteArray.ext
  simp [zerosB, List.replicate_succ]
theorem repeat_zeros (c : Nat) : (⟨(Lib.repeatL [48] c).toArray⟩ : ByteArray) = zerosB c := by
  have := Lib.repeatL_replicate 48 1 c
  simp only [List.replicate_succ, List.replicate_zero, Nat.mul_one] at this
  rw [this]; rfl

/-- a serial's string without its check digit -/
def bodyB (p : ByteArray) (x1 x2 x4 i : Int) : ByteArray := p ++ zerosB (x4.toNat - (decB (x1 + i * x2)).size) ++ decB (x1 + i * x2)
def serB (p : ByteArray) (x1 x2 x4 i : Int) : ByteArray := bodyB p x1 x2 x4 i ++ decB (chkB (bodyB p x1 x2 x4 i))

theorem batch_parts {p : ByteArray} {x1 x2 x3 x4 : Int} (h : isBatchB p x1 x2 x3 x4 = true) :
    p.size ≤ 12 ∧ 1 ≤ x2 ∧ x2 ≤ 1000 ∧ 1 ≤ x3 ∧ x3 ≤ 200 ∧ 1 ≤ x4 ∧ x4 ≤ 9 ∧ 0 ≤ x1 ∧ x1 ≤ 999999999 ∧ lastI x1 x2 x3 ≤ 999999999 ∧ ((decB (lastI x1 x2 x3)).size : Int) ≤ x4 := by
  simp only [isBatchB, Bool.and_eq_true, decide_eq_true_eq, inB_iff] at h
  omega

theorem decDigits_small {a : Nat} (h : a < 10) : Lib.decDigits a = [UInt8.ofNat (48 + a)] := by rw [Lib.decDigits, dif_pos h]
theorem decDigits_big {a : Nat} (h : ¬ a < 10) : Lib.decDigits a = Lib.decDigits (a / 10) ++ [UInt8.ofNat (48 + a % 10)] := by rw [Lib.decDigits, dif_neg h]
theorem decDigits_len_mono : ∀ (b a : Nat), a ≤ b → (Lib.decDigits a).length ≤ (Lib.decDigits b).length := by
  intro b
  induction b using Nat.strongRecOn with
  | ind b ih =>
    intro a hab
    by_cases ha : a < 10
    · rw [decDigits_small ha]
      by_cases hb : b < 10
      · rw [decDigits_small hb]; simp
      · rw [decDigits_big hb]; simp
    · rw [decDigits_big ha, decDigits_big (by omega : ¬ b < 10)]
      have := ih (b / 10) (by omega) (a / 10) (by omega)
      simp only [List.length_append, List.length_cons, List.length_nil]
      omega
theorem decB_mono {a b : Int} (h0 : 0 ≤ a) (h : a ≤ b) : (decB a).size ≤ (decB b).size := by
  obtain ⟨m, rfl⟩ := Int.eq_ofNat_of_zero_le h0
  obtain ⟨n, rfl⟩ := Int.eq_ofNat_of_zero_le (Int.le_trans h0 h)
  rw [decB_size, decB_size, Lib.itoa_nonneg, Lib.itoa_nonneg]
  exact decDigits_len_mono n m (by omega)

theorem ser_bd {x1 x2 x3 i : Int} (h1 : 0 ≤ x1) (h2 : 1 ≤ x2) (h3 : x2 ≤ 1000) (h4 : x3 ≤ 200) (_hl : lastI x1 x2 x3 ≤ 999999999) (i0 : 0 ≤ i) (i1 : i < x3) :
    0 ≤ i * x2 ∧ i * x2 ≤ 199000 ∧ 0 ≤ x1 + i * x2 ∧ x1 + i * x2 ≤ lastI x1 x2 x3 := by
  have a : 0 ≤ i * x2 := Int.mul_nonneg i0 (by omega)
  have b : i * x2 ≤ 199 * 1000 := Int.mul_le_mul (by omega) h3 (by omega) (by omega)
  have c : i * x2 ≤ (x3 - 1) * x2 := Int.mul_le_mul_of_nonneg_right (by omega) (by omega)
  unfold lastI at *
  omega
theorem ser_width {x1 x2 x3 x4 i : Int} (h1 : 0 ≤ x1) (h2 : 1 ≤ x2) (h3 : x2 ≤ 1000) (h4 : x3 ≤ 200) (hl : lastI x1 x2 x3 ≤ 999999999) (hw : ((decB (lastI x1 x2 x3)).size : Int) ≤ x4) (i0 : 0 ≤ i) (i1 : i < x3) :
    ((decB (x1 + i * x2)).size : Int) ≤ x4 := by
  obtain ⟨_, _, a, b⟩ := ser_bd h1 h2 h3 h4 hl i0 i1
  have := decB_mono a b
  omega
theorem bodyB_size {p : ByteArray} {x1 x2 x4 i : Int} (hw : ((decB (x1 + i * x2)).size : Int) ≤ x4) : ((bodyB p x1 x2 x4 i).size : Int) = p.size + x4 := by
  unfold bodyB
  rw [ByteArray.size_append, ByteArray.size_append, zerosB_size]
  omega

/-- the first place below n at which f answers yes -/
def firstI (f : Nat → Bool) (n : Nat) : Option Nat := (List.range n).find? f
theorem firstI_some {f : Nat → Bool} {n k : Nat} (hk : k < n) (h : f k = true) (hno : ∀ j, j < k → f j = false) : firstI f n = some k := by
  unfold firstI
  rw [List.find?_range_eq_some]
  exact ⟨h, by simpa using hk, fun j hj => by simp [hno j hj]⟩
theorem firstI_none {f : Nat → Bool} {n : Nat} (hno : ∀ j, j < n → f j = false) : firstI f n = none := by
  unfold firstI
  rw [List.find?_eq_none]
  intro x hx
  simp [hno x (by simpa using hx)]

end Go.Proofs.YtnijdfdcjjbneaaDoor
