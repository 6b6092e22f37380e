import Derived.Test.YtpilkgcghlfdmaaGreatDoorM2
import Derived.Test.YtpilkgcghlfdmaaGreatDoorVDmA
namespace Go.Proofs.YtpilkgcghlfdmaaGreatDoor
open Go.RowKit

theorem decB_neg {n : Int} (h : n < 0) : decB n = (⟨#[45]⟩ : ByteArray) ++ decB (-n) := by
  apply ByteArray.ext
  apply Array.toList_inj.1
  have e : Lib.itoa n = 45 :: Lib.itoa (-n) := by
    obtain ⟨u, hu⟩ := Int.eq_ofNat_of_zero_le (show 0 ≤ -n by omega)
    rw [hu, Lib.itoa_nonneg, Lib.itoa, if_pos h]
    congr 2; omega
  simp [decB, e]

set_option maxHeartbeats 400000 in
theorem l25Signed_any (n : Int) (w : World) (h0 : -1000000 ≤ n) (h1 : n ≤ 1000000) :
    Calls Tryz.prog 29 #[.int .i64 n] w fun e w' => e = .returned (.string (decB n)) ∧ Below w.heap.size w w' := by
  by_cases hn : n < 0
  · have e1 : IntKind.i64.wrap (-n) = -n := IntWalk.i64_in _ (by omega)
    have hs : (decB (-n)).size ≤ 21 := by rw [decB_size]; exact Lib.itoa_length_le _ (by omega) (by omega)
    have hs2 : (⟨#[45]⟩ : ByteArray).size + (decB (-n)).size ≤ 9223372036854775807 := by
      have : (⟨#[45]⟩ : ByteArray).size = 1 := rfl
      omega
    have HD := Lib.hid (decB_neg hn)
    go_enter Tryz.func29, Tryz.ntmps29
    go_wp2_with fail
    refine (l01Dec_any (-n).toNat (-n) _ (by omega) (by omega) (by omega)).mono ?_
    rintro e w1 ⟨rfl, hb⟩
    have HB := Lib.hid hb
    clear hb
    go_wp2_with fail
    go_ret
    exact ⟨ret_str HD.out.symm, HB.out⟩
  · go_enter Tryz.func29, Tryz.ntmps29
    go_wp2_with fail
    refine (l01Dec_any n.toNat n _ (by omega) (by omega) (by omega)).mono ?_
    rintro e w1 ⟨rfl, hb⟩
    have HB := Lib.hid hb
    clear hb
    go_wp2_with fail
    go_ret
    exact ⟨rfl, HB.out⟩

/-- the fields' texts of a damage, the first k -/
def ftx (d : Dm) : Nat → List UInt8
  | 0 => []
  | k + 1 => if flB d.k k = true then ftx d k ++ 32 :: Lib.itoa (lsI d.r d.c d.t d.w d.g k) else ftx d k
theorem ftx_line {d : Dm} (h : d.ok = true) : wordL (d.k - 1).toNat ++ ftx d 5 = lineD d := by
  have hb := dm_bounds h
  obtain ⟨k, r, c, t, w, g⟩ := d
  dsimp only at hb ⊢
  have hk : k = 1 ∨ k = 2 ∨ k = 3 ∨ k = 4 ∨ k = 5 := by omega
  rcases hk with rfl | rfl | rfl | rfl | rfl <;> simp [ftx, flB, lsI, wordL, lineD, txtD, glue]
theorem itoa_len21 {n : Int} (h0 : -1000000 ≤ n) (h1 : n ≤ 1000000) : (Lib.itoa n).length ≤ 21 := Lib.itoa_length_le _ (by omega) (by omega)
theorem lsI_bd {d : Dm} (h : d.ok = true) (i : Nat) : -1000000 ≤ lsI d.r d.c d.t d.w d.g i ∧ lsI d.r d.c d.t d.w d.g i ≤ 1000000 := by
  have hb := dm_bounds h
  unfold lsI
  split <;> omega
theorem ftx_len {d : Dm} (h : d.ok = true) : ∀ k, (ftx d k).length ≤ 22 * k
  | 0 => by simp [ftx]
  | k + 1 => by
    have ih := ftx_len h k
    have hb := itoa_len21 (lsI_bd h k).1 (lsI_bd h k).2
    rw [ftx]
    split
    · rw [List.length_append, List.length_cons]; omega
    · omega
theorem wordL_len (i : Nat) : (wordL i).length ≤ 7 := by
  unfold wordL; split <;> decide
theorem lineD_len {d : Dm} (h : d.ok = true) : (lineD d).length ≤ 117 := by
  rw [← ftx_line h, List.length_append]
  have := ftx_len h 5
  have := wordL_len (d.k - 1).toNat
  omega
theorem textD_snoc (ds : List Dm) (d : Dm) : textD (ds ++ [d]) = if ds = [] then lineD d else textD ds ++ 59 :: lineD d := by
  unfold textD
  rw [List.map_append]
  have hg : ∀ (xs : List (List UInt8)) (x : List UInt8), glue 59 (xs ++ [x]) = if xs = [] then x else glue 59 xs ++ 59 :: x := by
    intro xs x
    induction xs with
    | nil => rfl
    | cons a t ih =>
      cases t with
      | nil => simp [glue]
      | cons b u =>
        rw [List.cons_append, glue_cons _ _ _ (by simp), ih, if_neg (by simp), if_neg (by simp), glue_cons _ _ (b :: u) (by simp)]
        simp
  rw [List.map_cons, List.map_nil, hg]
  simp
theorem textD_len : ∀ (ds : List Dm), (∀ d ∈ ds, d.ok = true) → (textD ds).length ≤ 118 * ds.length
  | [], _ => by simp [textD, glue]
  | [d], h => by
    have := lineD_len (h d (by simp))
    simp [textD, glue]; omega
  | d :: e :: ds, h => by
    have h1 := lineD_len (h d (by simp))
    have h2 := textD_len (e :: ds) (fun x hx => h x (by simp [hx]))
    unfold textD at h2 ⊢
    rw [List.map_cons, glue_cons _ _ _ (by simp), List.length_append, List.length_cons]
    simp only [List.length_cons] at h2 ⊢
    omega

end Go.Proofs.YtpilkgcghlfdmaaGreatDoor
