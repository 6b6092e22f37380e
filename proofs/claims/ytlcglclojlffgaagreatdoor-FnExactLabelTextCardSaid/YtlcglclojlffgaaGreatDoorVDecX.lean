import Derived.Test.YtlcglclojlffgaaGreatDoorVSpT2
import Derived.Lib.Join
namespace Go.Proofs.YtlcglclojlffgaaGreatDoor
open Go.RowKit

/-- the decimal texts of numbers, one space between -/
def decX (xs : List Int) : List UInt8 := glue 32 (xs.map Lib.itoa)
theorem glue_snoc (c : UInt8) (xs : List (List UInt8)) (x : List UInt8) : glue c (xs ++ [x]) = if xs = [] then x else glue c xs ++ c :: x := by
  induction xs with
  | nil => rfl
  | cons a t ih =>
    cases t with
    | nil => simp [glue]
    | cons b u =>
      rw [List.cons_append, glue_cons _ _ _ (by simp), ih, if_neg (by simp), if_neg (by simp), glue_cons _ _ (b :: u) (by simp)]
      simp
theorem decX_snoc (xs : List Int) (x : Int) : decX (xs ++ [x]) = (if xs = [] then [] else decX xs ++ [32]) ++ Lib.itoa x := by
  unfold decX
  rw [List.map_append, List.map_cons, List.map_nil, glue_snoc]
  by_cases h : xs = []
  · subst h; rfl
  · rw [if_neg (by simpa using h), if_neg h]; simp
theorem decX_len : ∀ xs : List Int, (∀ x ∈ xs, -9223372036854775808 ≤ x ∧ x ≤ 9223372036854775807) → (decX xs).length ≤ 22 * xs.length
  | [], _ => by simp [decX, glue]
  | [x], h => by
    have h1 := h x (by simp)
    have := Lib.itoa_length_le x h1.1 h1.2
    simp [decX, glue]; omega
  | x :: y :: xs, h => by
    have h1 := h x (by simp)
    have h2 := Lib.itoa_length_le x h1.1 h1.2
    have h3 := decX_len (y :: xs) (fun z hz => h z (by simp [hz]))
    unfold decX at h3 ⊢
    rw [List.map_cons, glue_cons _ _ _ (by simp), List.length_append, List.length_cons]
    simp only [List.length_cons] at h3 ⊢
    omega
theorem join_glue (c : UInt8) : ∀ xs : List (List UInt8), Lib.join xs [c] = glue c xs
  | [] => rfl
  | [x] => by rw [Lib.join_one]; rfl
  | x :: y :: r => by
    rw [glue_cons _ _ _ (by simp), ← join_glue c (y :: r), Lib.join_cons, Lib.join_cons]
    simp [Lib.joinTail]

/-- the numbers in the text of a damage -/
def numsD (d : Dm) : List Int :=
  if d.k = 1 then [d.r, d.c, d.t, d.g] else if d.k = 2 then [d.r, d.c, d.t, d.w, d.g] else if d.k = 3 then [d.t, d.w, d.g] else if d.k = 4 then [d.r, d.t, d.g] else [d.t, d.g]
theorem numsD_line {d : Dm} (h : d.ok = true) : lineD d = wordL (d.k - 1).toNat ++ 32 :: decX (numsD d) := by
  have hb := dm_bounds h
  obtain ⟨k, r, c, t, w, g⟩ := d
  dsimp only at hb ⊢
  have hk : k = 1 ∨ k = 2 ∨ k = 3 ∨ k = 4 ∨ k = 5 := by omega
  rcases hk with rfl | rfl | rfl | rfl | rfl <;> simp [numsD, wordL, lineD, txtD, glue, decX]
theorem numsD_bd {d : Dm} (h : d.ok = true) : (∀ x ∈ numsD d, -9223372036854775808 ≤ x ∧ x ≤ 9223372036854775807) ∧ (numsD d).length ≤ 5 := by
  have hb := dm_bounds h
  obtain ⟨k, r, c, t, w, g⟩ := d
  dsimp only at hb
  unfold numsD
  dsimp only
  constructor
  · repeat' split
    all_goals
      intro x hx
      simp only [List.mem_cons, List.not_mem_nil, or_false] at hx
      omega
  · repeat' split
    all_goals simp

end Go.Proofs.YtlcglclojlffgaaGreatDoor
