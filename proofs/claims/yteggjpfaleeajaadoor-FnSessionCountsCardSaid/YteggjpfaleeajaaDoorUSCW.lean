import Derived.Test.YteggjpfaleeajaaDoorUDrawSC
import Derived.Test.YteggjpfaleeajaaDoorULikeI
import Derived.Test.YteggjpfaleeajaaDoorUCounts
import Derived.Test.YteggjpfaleeajaaDoorUIsComp
import Derived.Test.YteggjpfaleeajaaDoorUNextP
namespace Go.Proofs.YteggjpfaleeajaaDoor
open Go.RowKit

/-- the counts add up -/
theorem counts_sum (xs : List Int) (h : ∀ x ∈ xs, 0 ≤ x ∧ x ≤ 4) : (countsOf xs).sum = xs.length := by
  have key : ∀ (l zs : List Int), zs.length = 5 → (∀ x ∈ l, 0 ≤ x ∧ x ≤ 4) → (l.foldl bump zs).sum = zs.sum + l.length := by
    intro l
    induction l with
    | nil => intro zs _ _; simp
    | cons x r ih =>
      intro zs hz hl
      have hx := hl x (by simp)
      rw [List.foldl_cons, ih _ (by rw [bump_len]; exact hz) (fun y hy => hl y (by simp [hy]))]
      match zs, hz with
      | [a, b, c, d, e], _ =>
        rcases (show x = 0 ∨ x = 1 ∨ x = 2 ∨ x = 3 ∨ x = 4 by omega) with rfl | rfl | rfl | rfl | rfl <;> simp [bump] <;> omega
  have := key xs [0, 0, 0, 0, 0] rfl h
  simpa [countsOf] using this
/-- how often a state occurs -/
theorem counts_at (xs : List Int) (h : ∀ x ∈ xs, 0 ≤ x ∧ x ≤ 4) (j : Nat) (hj : j ≤ 4) : (countsOf xs).getD j 0 = xs.count (j : Int) := by
  have key : ∀ (l zs : List Int), zs.length = 5 → (∀ x ∈ l, 0 ≤ x ∧ x ≤ 4) → (l.foldl bump zs).getD j 0 = zs.getD j 0 + l.count (j : Int) := by
    intro l
    induction l with
    | nil => intro zs _ _; simp
    | cons x r ih =>
      intro zs hz hl
      have hx := hl x (by simp)
      rw [List.foldl_cons, ih _ (by rw [bump_len]; exact hz) (fun y hy => hl y (by simp [hy]))]
      unfold bump
      rw [getD_set', List.count_cons]
      by_cases e : x = j
      · subst e
        rw [if_pos ⟨by omega, by omega⟩]; simp; omega
      · have e' : ¬ (x.toNat = j ∧ x.toNat < zs.length) := by omega
        rw [if_neg e']
        simp [e]
  have := key xs [0, 0, 0, 0, 0] rfl h
  have e0 : ([0, 0, 0, 0, 0] : List Int).getD j 0 = 0 := by
    rcases (show j = 0 ∨ j = 1 ∨ j = 2 ∨ j = 3 ∨ j = 4 by omega) with rfl | rfl | rfl | rfl | rfl <;> rfl
  rw [e0] at this
  simpa [countsOf] using this

theorem nextFrom_code (ys : List Int) : ∀ (l : List Int) (k : Nat), (nextFrom ys k l).2 = if (1 : Int) ∈ l then 0 else 4
  | [], _ => rfl
  | x :: r, k => by
    unfold nextFrom
    by_cases h : x = 1
    · subst h; simp
    · have h1 : (x == 1) = false := by simpa using h
      rw [h1]
      simp only [Bool.false_eq_true, if_false]
      rw [nextFrom_code ys r (k + 1)]
      have : (1 : Int) ∈ x :: r ↔ (1 : Int) ∈ r := by simp; intro e; exact absurd e.symm h
      simp only [this]

/-- what the law says of a valid session -/
theorem sess_law {p : ByteArray} {x1 x2 x3 x4 : Int} {xs : List Int} (h : isSessB p x1 x2 x3 x4 xs = true) :
    ∃ c0 c1 c2 c3 c4 : Int, countsOf xs = [c0, c1, c2, c3, c4] ∧ c0 + c1 + c2 + c3 + c4 = x3 ∧ 0 ≤ c0 ∧ 0 ≤ c1 ∧ 0 ≤ c2 ∧ 0 ≤ c3 ∧ 0 ≤ c4 ∧
      isCompB p x1 x2 x3 x4 xs = (c0 == 0 && c1 == 0 && c2 == 0) ∧ ((nextOf p x1 x2 x3 x4 xs).2 == 0) = decide (0 < c1) := by
  have h' := h
  simp only [isSessB, Bool.and_eq_true, Bool.not_eq_true', bne_eq_false_iff_eq] at h'
  have hl : (xs.length : Int) = x3 := h'.1.2
  have hx : ∀ x ∈ xs, 0 ≤ x ∧ x ≤ 4 := fun x hx => inB_iff.1 (List.all_eq_true.1 h'.2 x hx)
  have hlen := counts_len xs
  have hs := counts_sum xs hx
  have a0 := counts_at xs hx 0 (by omega)
  have a1 := counts_at xs hx 1 (by omega)
  have a2 := counts_at xs hx 2 (by omega)
  have b3 := counts_bd xs 3
  have b4 := counts_bd xs 4
  generalize countsOf xs = cs at *
  match cs, hlen with
  | [c0, c1, c2, c3, c4], _ =>
    simp at hs a0 a1 a2 b3 b4
    refine ⟨c0, c1, c2, c3, c4, rfl, by omega, by omega, by omega, by omega, by omega, by omega, ?_, ?_⟩
    · unfold isCompB
      rw [h, Bool.true_and, Bool.eq_iff_iff]
      simp only [Bool.and_eq_true, beq_iff_eq, List.all_eq_true, doneOk, Bool.or_eq_true]
      constructor
      · intro hh
        have n0 : xs.count (0 : Int) = 0 := List.count_eq_zero.2 (fun hm => by have := hh _ hm; omega)
        have n1 : xs.count (1 : Int) = 0 := List.count_eq_zero.2 (fun hm => by have := hh _ hm; omega)
        have n2 : xs.count (2 : Int) = 0 := List.count_eq_zero.2 (fun hm => by have := hh _ hm; omega)
        omega
      · intro ⟨⟨e0, e1⟩, e2⟩ x hm
        have n0 : (0 : Int) ∉ xs := List.count_eq_zero.1 (by omega)
        have n1 : (1 : Int) ∉ xs := List.count_eq_zero.1 (by omega)
        have n2 : (2 : Int) ∉ xs := List.count_eq_zero.1 (by omega)
        have := hx x hm
        have q0 : x ≠ 0 := fun e => n0 (e ▸ hm)
        have q1 : x ≠ 1 := fun e => n1 (e ▸ hm)
        have q2 : x ≠ 2 := fun e => n2 (e ▸ hm)
        omega
    · unfold nextOf
      rw [if_pos h, nextFrom_code]
      by_cases hm : (1 : Int) ∈ xs
      · have := List.count_pos_iff.2 hm
        rw [if_pos hm]; simp; omega
      · have := List.count_eq_zero.2 hm
        rw [if_neg hm]; simp; omega

end Go.Proofs.YteggjpfaleeajaaDoor
