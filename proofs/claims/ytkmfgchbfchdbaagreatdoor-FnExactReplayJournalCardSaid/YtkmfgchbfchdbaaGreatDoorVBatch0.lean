import Derived.Test.YtkmfgchbfchdbaaGreatDoorM0
namespace Go.Proofs.YtkmfgchbfchdbaaGreatDoor
open Go.RowKit

/-- a letter of a prefix -/
def prefC (c : UInt8) : Bool := (c.toNat : Int) == 45 || (decide ((65 : Int) ≤ c.toNat) && decide ((c.toNat : Int) ≤ 90))
def prefB (p : ByteArray) : Bool := p.data.toList.all prefC

theorem prefB_step {p : ByteArray} {k : Nat} (hk : k < p.size) (h : (p.data.toList.take k).all prefC = true) (hc : prefC p[k] = true) : (p.data.toList.take (k + 1)).all prefC = true := by
  rw [List.take_succ_eq_append_getElem (by simpa using hk), List.all_append, h]
  simp only [List.all_cons, List.all_nil, Bool.and_true, Bool.true_and]
  exact hc
theorem prefB_end {p : ByteArray} {k : Nat} (hk : p.size ≤ k) (h : (p.data.toList.take k).all prefC = true) : prefB p = true := by
  rwa [List.take_of_length_le (by simpa using hk)] at h
theorem prefB_no {p : ByteArray} {k : Nat} (hk : k < p.size) (hc : prefC p[k] = false) : prefB p = false := by
  unfold prefB
  rw [List.all_eq_false]
  exact ⟨p.data.toList[k]'(by simpa using hk), List.getElem_mem _, by simpa using (show prefC (p.data[k]) = false from hc)⟩

/-- how the tests of a batch end: at the first that fails -/
theorem seven (a b c d e f g : Bool) : a = false ∨ (a = true ∧ b = false) ∨ (a = true ∧ b = true ∧ c = false) ∨ (a = true ∧ b = true ∧ c = true ∧ d = false) ∨ (a = true ∧ b = true ∧ c = true ∧ d = true ∧ e = false) ∨
    (a = true ∧ b = true ∧ c = true ∧ d = true ∧ e = true ∧ f = false) ∨ (a = true ∧ b = true ∧ c = true ∧ d = true ∧ e = true ∧ f = true ∧ g = false) ∨ (a = true ∧ b = true ∧ c = true ∧ d = true ∧ e = true ∧ f = true ∧ g = true) := by
  cases a <;> cases b <;> cases c <;> cases d <;> cases e <;> cases f <;> cases g <;> simp

/-- the last number -/
def lastI (x1 x2 x3 : Int) : Int := x1 + (x3 - 1) * x2

def isBatchB (p : ByteArray) (x1 x2 x3 x4 : Int) : Bool :=
  prefB p && decide ((p.size : Int) ≤ 12) && inB x2 1 1000 && inB x3 1 200 && inB x4 1 9 && inB x1 0 999999999 && decide (lastI x1 x2 x3 ≤ 999999999) && decide (((decB (lastI x1 x2 x3)).size : Int) ≤ x4)

theorem last_bd {x1 x2 x3 : Int} (h1 : inB x1 0 999999999 = true) (h2 : inB x2 1 1000 = true) (h3 : inB x3 1 200 = true) :
    0 ≤ (x3 - 1) * x2 ∧ (x3 - 1) * x2 ≤ 199000 ∧ 0 ≤ lastI x1 x2 x3 ∧ lastI x1 x2 x3 ≤ 1000198999 := by
  rw [inB_iff] at h1 h2 h3
  have a : 0 ≤ (x3 - 1) * x2 := Int.mul_nonneg (by omega) (by omega)
  have b : (x3 - 1) * x2 ≤ 199 * 1000 := Int.mul_le_mul (by omega) (by omega) (by omega) (by omega)
  unfold lastI
  omega

set_option maxHeartbeats 400000 in
theorem last_any (p : ByteArray) (x1 x2 x3 x4 : Int) (w : World) (h1 : inB x1 0 999999999 = true) (h2 : inB x2 1 1000 = true) (h3 : inB x3 1 200 = true) :
    Calls Tryz.prog 71 #[.agg #[.string p, .int .i64 x1, .int .i64 x2, .int .i64 x3, .int .i64 x4]] w fun e w' => e = .returned (.int .i64 (lastI x1 x2 x3)) ∧ Below w.heap.size w w' := by
  obtain ⟨b1, b2, b3, b4⟩ := last_bd h1 h2 h3
  rw [inB_iff] at h1 h2 h3
  unfold lastI at b3 b4 ⊢
  obtain ⟨h11, h12⟩ := h1
  obtain ⟨h21, h22⟩ := h2
  obtain ⟨h31, h32⟩ := h3
  go_enter Tryz.func71, Tryz.ntmps71
  go_wp2
  go_ret
  exact ⟨rfl, (Below.refl _ _).alloc (Nat.le_refl _) _⟩

set_option maxHeartbeats 400000 in
theorem l31Prefix_any (p : ByteArray) (w : World) (hp : p.size ≤ maxLen) :
    Calls Tryz.prog 94 #[.string p] w fun e w' => e = .returned (.bool (prefB p && decide (p.size ≤ 12))) ∧ w = w' := by
  unfold maxLen at hp
  go_enter Tryz.func94, Tryz.ntmps94
  go_wp2
  go_loop [3] (fun i => ∃ k : Nat, k ≤ p.size ∧ i = .int .i64 k ∧ (p.data.toList.take k).all prefC = true) (fun i => p.size - (intOf i).toNat)
  case atStart => exact ⟨0, Nat.zero_le _, rfl, rfl⟩
  case round =>
    obtain ⟨k, hk, rfl, ht⟩ := hrel
    have HT := Lib.hid ht
    clear ht
    by_cases hlt : k < p.size
    · have HC : Hid (prefC p[k] = ((p[k].toNat : Int) == 45 || (decide ((65 : Int) ≤ p[k].toNat) && decide ((p[k].toNat : Int) ≤ 90)))) := rfl
      rcases (show ((p[k].toNat : Int) != 45) = false ∨ (((p[k].toNat : Int) != 45) = true ∧ (p[k].toNat : Int) < 65) ∨ (((p[k].toNat : Int) != 45) = true ∧ (90 : Int) < p[k].toNat) ∨ (((p[k].toNat : Int) != 45) = true ∧ ¬ (p[k].toNat : Int) < 65 ∧ ¬ (90 : Int) < p[k].toNat) by
        simp only [bne_iff_ne, bne_eq_false_iff_eq]; omega) with h | ⟨h, h'⟩ | ⟨h, h'⟩ | ⟨h, h', h''⟩
      · go_wp2
        go_round
        case rel => exact ⟨k + 1, by omega, by go_num, prefB_step hlt HT.out (by rw [HC.out]; simp at h; simp [h])⟩
        case measure => simp [intOf]; omega
      · go_wp2
        go_ret
        exact ⟨ret_bool (by rw [prefB_no hlt (by rw [HC.out]; simp at h; simp [h]; omega)]; rfl), rfl⟩
      · have h3 : ¬ (p[k].toNat : Int) < 65 := by omega
        go_wp2
        go_ret
        exact ⟨ret_bool (by rw [prefB_no hlt (by rw [HC.out]; simp at h; simp [h]; omega)]; rfl), rfl⟩
      · go_wp2
        go_round
        case rel => exact ⟨k + 1, by omega, by go_num, prefB_step hlt HT.out (by rw [HC.out]; simp at h; simp; omega)⟩
        case measure => simp [intOf]; omega
    · go_wp2
      go_ret
      exact ⟨ret_bool (by rw [prefB_end (by omega) HT.out, Bool.true_and]; exact decide_eq_decide.2 (by omega)), rfl⟩

end Go.Proofs.YtkmfgchbfchdbaaGreatDoor
