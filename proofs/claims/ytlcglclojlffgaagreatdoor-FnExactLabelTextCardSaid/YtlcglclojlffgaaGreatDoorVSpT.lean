import Derived.Test.YtlcglclojlffgaaGreatDoorVSpO2
import Derived.Test.YtlcglclojlffgaaGreatDoorM4
namespace Go.Proofs.YtlcglclojlffgaaGreatDoor
open Go.RowKit

theorem decB_neg {n : Int} (h : n < 0) : decB n = (⟨#[45]⟩ : ByteArray) ++ decB (-n) := by
  apply ByteArray.ext
  apply Array.toList_inj.1
  have e : Lib.itoa n = 45 :: Lib.itoa (-n) := by
    obtain ⟨u, hu⟩ := Int.eq_ofNat_of_zero_le (show 0 ≤ -n by omega)
    rw [hu, Lib.itoa_nonneg, Lib.itoa, if_pos h]
    congr 2; omega
  simp [decB, e]

/-- the fields' texts of a damage, the first k -/
def ftx (d : Dm) : Nat → List UInt8
  | 0 => []
  | k + 1 => if flB d.k k = true then ftx d k ++ 32 :: Lib.itoa (lsI d.r d.c d.t d.w d.g k) else ftx d k
theorem ftx_line {d : Dm} (h : d.ok = true) : wordL (d.k - 1).toNat ++ ftx d 5 = lineD d := by
  have hb := dm_bounds h
  obtain ⟨k, r, c, t, w, g⟩ := d
  dsimp only at hb ⊢
  have hk : k = 1 ∨ k = 2 ∨ k = 3 ∨ k = 4 ∨ k = 5 := by omega
  rcases hk with rfl | rfl | rfl | rfl | rfl <;> simp [ftx, flB, lsI, wordL, lineD, txtD, glue]
theorem itoa_len21 {n : Int} (h0 : -1000000 ≤ n) (h1 : n ≤ 1000000) : (Lib.itoa n).length ≤ 21 := Lib.itoa_length_le _ (by omega) (by omega)
theorem lsI_bd {d : Dm} (h : d.ok = true) (i : Nat) : -1000000 ≤ lsI d.r d.c d.t d.w d.g i ∧ lsI d.r d.c d.t d.w d.g i ≤ 1000000 := by
  have hb := dm_bounds h
  unfold lsI
  split <;> omega
theorem ftx_len {d : Dm} (h : d.ok = true) : ∀ k, (ftx d k).length ≤ 22 * k
  | 0 => by simp [ftx]
  | k + 1 => by
    have ih := ftx_len h k
    have hb := itoa_len21 (lsI_bd h k).1 (lsI_bd h k).2
    rw [ftx]
    split
    · rw [List.length_append, List.length_cons]; omega
    · omega
theorem wordL_len (i : Nat) : (wordL i).length ≤ 7 := by
  unfold wordL; split <;> decide
theorem lineD_len {d : Dm} (h : d.ok = true) : (lineD d).length ≤ 117 := by
  rw [← ftx_line h, List.length_append]
  have := ftx_len h 5
  have := wordL_len (d.k - 1).toNat
  omega
theorem textD_snoc (ds : List Dm) (d : Dm) : textD (ds ++ [d]) = if ds = [] then lineD d else textD ds ++ 59 :: lineD d := by
  unfold textD
  rw [List.map_append]
  have hg : ∀ (xs : List (List UInt8)) (x : List UInt8), glue 59 (xs ++ [x]) = if xs = [] then x else glue 59 xs ++ 59 :: x := by
    intro xs x
    induction xs with
    | nil => rfl
    | cons a t ih =>
      cases t with
      | nil => simp [glue]
      | cons b u =>
        rw [List.cons_append, glue_cons _ _ _ (by simp), ih, if_neg (by simp), if_neg (by simp), glue_cons _ _ (b :: u) (by simp)]
        simp
  rw [List.map_cons, List.map_nil, hg]
  simp
theorem textD_len : ∀ (ds : List Dm), (∀ d ∈ ds, d.ok = true) → (textD ds).length ≤ 118 * ds.length
  | [], _ => by simp [textD, glue]
  | [d], h => by
    have := lineD_len (h d (by simp))
    simp [textD, glue]; omega
  | d :: e :: ds, h => by
    have h1 := lineD_len (h d (by simp))
    have h2 := textD_len (e :: ds) (fun x hx => h x (by simp [hx]))
    unfold textD at h2 ⊢
    rw [List.map_cons, glue_cons _ _ _ (by simp), List.length_append, List.length_cons]
    simp only [List.length_cons] at h2 ⊢
    omega

end Go.Proofs.YtlcglclojlffgaaGreatDoor
