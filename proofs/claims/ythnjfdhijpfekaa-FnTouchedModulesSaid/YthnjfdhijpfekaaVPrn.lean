import Derived.Test.YthnjfdhijpfekaaM1
namespace Go.Proofs.Ythnjfdhijpfekaa
open Go.RowKit

/-- is a print as described -/
def prOk (p t q b d l : Int) : Bool := inB p 1 12 && inB t 1 12 && inB q 0 16 && inB b (1 - p) (p - 1) && decide (0 ≤ d) && decide (d < l) && decide (l ≤ 255)
theorem pr_bounds {p t q b d l : Int} (h : prOk p t q b d l = true) : (1 ≤ p ∧ p ≤ 12) ∧ (1 ≤ t ∧ t ≤ 12) ∧ (0 ≤ q ∧ q ≤ 16) ∧ (1 - p ≤ b ∧ b ≤ p - 1) ∧ 0 ≤ d ∧ d < l ∧ l ≤ 255 := by
  simp only [prOk, Bool.and_eq_true, inB_iff, decide_eq_true_eq] at h
  omega

set_option maxRecDepth 100000 in
set_option maxHeartbeats 1000000 in
theorem isPrint_any (p t q b d l : Int) (W : World) :
    Calls Try.prog 65 #[.agg #[.int .i64 p, .int .i64 t, .int .i64 q, .int .i64 b, .int .i64 d, .int .i64 l]] W fun e W' => e = .returned (.bool (prOk p t q b d l)) ∧ Below W.heap.size W W' := by
  rcases four (inB p 1 12) (inB t 1 12) (inB q 0 16) (inB b (1 - p) (p - 1)) with c1 | ⟨c1, c2⟩ | ⟨c1, c2, c3⟩ | ⟨c1, c2, c3, c4⟩ | ⟨c1, c2, c3, c4⟩
  · have HE : Hid (prOk p t q b d l = false) := Lib.hid (by simp [prOk, c1])
    rw [HE.out]
    have C1 := Lib.hid c1
    clear c1
    go_enter Try.func65, Try.ntmps65
    go_wp2_with fail
    refine (inRange_val C1.out).mono ?_
    rintro e w1 ⟨rfl, rfl⟩
    go_wp2_with fail
    go_ret
    exact ⟨rfl, ba1 _ _⟩
  · have HE : Hid (prOk p t q b d l = false) := Lib.hid (by simp [prOk, c2])
    rw [HE.out]
    have C1 := Lib.hid c1
    have C2 := Lib.hid c2
    clear c1 c2
    go_enter Try.func65, Try.ntmps65
    go_wp2_with fail
    refine (inRange_val C1.out).mono ?_
    rintro e w1 ⟨rfl, rfl⟩
    go_wp2_with fail
    refine (inRange_val C2.out).mono ?_
    rintro e w1 ⟨rfl, rfl⟩
    go_wp2_with fail
    go_ret
    exact ⟨rfl, ba1 _ _⟩
  · have HE : Hid (prOk p t q b d l = false) := Lib.hid (by simp [prOk, c3])
    rw [HE.out]
    have C1 := Lib.hid c1
    have C2 := Lib.hid c2
    have C3 := Lib.hid c3
    clear c1 c2 c3
    go_enter Try.func65, Try.ntmps65
    go_wp2_with fail
    refine (inRange_val C1.out).mono ?_
    rintro e w1 ⟨rfl, rfl⟩
    go_wp2_with fail
    refine (inRange_val C2.out).mono ?_
    rintro e w1 ⟨rfl, rfl⟩
    go_wp2_with fail
    refine (inRange_val C3.out).mono ?_
    rintro e w1 ⟨rfl, rfl⟩
    go_wp2_with fail
    go_ret
    exact ⟨rfl, ba1 _ _⟩
  · have HE : Hid (prOk p t q b d l = false) := Lib.hid (by simp [prOk, c4])
    rw [HE.out]
    have hp := inB_iff.1 c1
    have C1 := Lib.hid c1
    have C2 := Lib.hid c2
    have C3 := Lib.hid c3
    have C4 := Lib.hid c4
    clear c1 c2 c3 c4
    go_enter Try.func65, Try.ntmps65
    go_wp2_with fail
    refine (inRange_val C1.out).mono ?_
    rintro e w1 ⟨rfl, rfl⟩
    go_wp2_with fail
    refine (inRange_val C2.out).mono ?_
    rintro e w1 ⟨rfl, rfl⟩
    go_wp2_with fail
    refine (inRange_val C3.out).mono ?_
    rintro e w1 ⟨rfl, rfl⟩
    go_wp2_with fail
    refine (inRange_val C4.out).mono ?_
    rintro e w1 ⟨rfl, rfl⟩
    go_wp2_with fail
    go_ret
    exact ⟨rfl, ba1 _ _⟩
  · have HE : Hid (prOk p t q b d l = (decide (0 ≤ d) && decide (d < l) && decide (l ≤ 255))) := Lib.hid (by simp [prOk, c1, c2, c3, c4])
    rw [HE.out]
    have hp := inB_iff.1 c1
    have C1 := Lib.hid c1
    have C2 := Lib.hid c2
    have C3 := Lib.hid c3
    have C4 := Lib.hid c4
    clear c1 c2 c3 c4
    go_enter Try.func65, Try.ntmps65
    go_wp2_with fail
    refine (inRange_val C1.out).mono ?_
    rintro e w1 ⟨rfl, rfl⟩
    go_wp2_with fail
    refine (inRange_val C2.out).mono ?_
    rintro e w1 ⟨rfl, rfl⟩
    go_wp2_with fail
    refine (inRange_val C3.out).mono ?_
    rintro e w1 ⟨rfl, rfl⟩
    go_wp2_with fail
    refine (inRange_val C4.out).mono ?_
    rintro e w1 ⟨rfl, rfl⟩
    go_wp2_with fail
    all_goals go_ret
    all_goals exact ⟨ret_bool (by simp_all; try omega), ba1 _ _⟩
theorem isPrint_val {p t q b d l : Int} {r : Bool} {W : World} (h : prOk p t q b d l = r) :
    Calls Try.prog 65 #[.agg #[.int .i64 p, .int .i64 t, .int .i64 q, .int .i64 b, .int .i64 d, .int .i64 l]] W fun e W' => e = .returned (.bool r) ∧ Below W.heap.size W W' := h ▸ isPrint_any p t q b d l W

set_option maxRecDepth 100000 in
set_option maxHeartbeats 1000000 in
theorem specIsPrint_any (p t q b d l : Int) (W : World) :
    Calls Try.prog 82 #[.agg #[.int .i64 p, .int .i64 t, .int .i64 q, .int .i64 b, .int .i64 d, .int .i64 l]] W fun e W' => e = .returned (.bool (prOk p t q b d l)) ∧ Below W.heap.size W W' := by
  rcases four (inB p 1 12) (inB t 1 12) (inB q 0 16) (inB b (1 - p) (p - 1)) with c1 | ⟨c1, c2⟩ | ⟨c1, c2, c3⟩ | ⟨c1, c2, c3, c4⟩ | ⟨c1, c2, c3, c4⟩
  · have HE : Hid (prOk p t q b d l = false) := Lib.hid (by simp [prOk, c1])
    rw [HE.out]
    have C1 := Lib.hid c1
    clear c1
    go_enter Try.func82, Try.ntmps82
    go_wp2_with fail
    refine (l01In_val C1.out).mono ?_
    rintro e w1 ⟨rfl, rfl⟩
    go_wp2_with fail
    go_ret
    exact ⟨rfl, ba1 _ _⟩
  · have HE : Hid (prOk p t q b d l = false) := Lib.hid (by simp [prOk, c2])
    rw [HE.out]
    have C1 := Lib.hid c1
    have C2 := Lib.hid c2
    clear c1 c2
    go_enter Try.func82, Try.ntmps82
    go_wp2_with fail
    refine (l01In_val C1.out).mono ?_
    rintro e w1 ⟨rfl, rfl⟩
    go_wp2_with fail
    refine (l01In_val C2.out).mono ?_
    rintro e w1 ⟨rfl, rfl⟩
    go_wp2_with fail
    go_ret
    exact ⟨rfl, ba1 _ _⟩
  · have HE : Hid (prOk p t q b d l = false) := Lib.hid (by simp [prOk, c3])
    rw [HE.out]
    have C1 := Lib.hid c1
    have C2 := Lib.hid c2
    have C3 := Lib.hid c3
    clear c1 c2 c3
    go_enter Try.func82, Try.ntmps82
    go_wp2_with fail
    refine (l01In_val C1.out).mono ?_
    rintro e w1 ⟨rfl, rfl⟩
    go_wp2_with fail
    refine (l01In_val C2.out).mono ?_
    rintro e w1 ⟨rfl, rfl⟩
    go_wp2_with fail
    refine (l01In_val C3.out).mono ?_
    rintro e w1 ⟨rfl, rfl⟩
    go_wp2_with fail
    go_ret
    exact ⟨rfl, ba1 _ _⟩
  · have HE : Hid (prOk p t q b d l = false) := Lib.hid (by simp [prOk, c4])
    rw [HE.out]
    have hp := inB_iff.1 c1
    have C1 := Lib.hid c1
    have C2 := Lib.hid c2
    have C3 := Lib.hid c3
    have C4 := Lib.hid c4
    clear c1 c2 c3 c4
    go_enter Try.func82, Try.ntmps82
    go_wp2_with fail
    refine (l01In_val C1.out).mono ?_
    rintro e w1 ⟨rfl, rfl⟩
    go_wp2_with fail
    refine (l01In_val C2.out).mono ?_
    rintro e w1 ⟨rfl, rfl⟩
    go_wp2_with fail
    refine (l01In_val C3.out).mono ?_
    rintro e w1 ⟨rfl, rfl⟩
    go_wp2_with fail
    refine (l01In_val C4.out).mono ?_
    rintro e w1 ⟨rfl, rfl⟩
    go_wp2_with fail
    go_ret
    exact ⟨rfl, ba1 _ _⟩
  · rcases three (inB d 0 255) (inB l 0 255) (decide (d < l)) with c5 | ⟨c5, c6⟩ | ⟨c5, c6, c7⟩ | ⟨c5, c6, c7⟩
    · have HE : Hid (prOk p t q b d l = false) := Lib.hid (by have := inB_not.1 c5; simp only [prOk, c1, c2, c3, c4, Bool.true_and]; by_cases h0 : 0 ≤ d <;> by_cases h1 : d < l <;> by_cases h2 : l ≤ 255 <;> simp [h0, h1, h2] <;> omega)
      rw [HE.out]
      have hp := inB_iff.1 c1
      have C1 := Lib.hid c1
      have C2 := Lib.hid c2
      have C3 := Lib.hid c3
      have C4 := Lib.hid c4
      have C5 := Lib.hid c5
      clear c1 c2 c3 c4 c5
      go_enter Try.func82, Try.ntmps82
      go_wp2_with fail
      refine (l01In_val C1.out).mono ?_
      rintro e w1 ⟨rfl, rfl⟩
      go_wp2_with fail
      refine (l01In_val C2.out).mono ?_
      rintro e w1 ⟨rfl, rfl⟩
      go_wp2_with fail
      refine (l01In_val C3.out).mono ?_
      rintro e w1 ⟨rfl, rfl⟩
      go_wp2_with fail
      refine (l01In_val C4.out).mono ?_
      rintro e w1 ⟨rfl, rfl⟩
      go_wp2_with fail
      refine (l20Grey_val C5.out).mono ?_
      rintro e w1 ⟨rfl, rfl⟩
      go_wp2_with fail
      go_ret
      exact ⟨rfl, ba1 _ _⟩
    · have HE : Hid (prOk p t q b d l = false) := Lib.hid (by have h5 := inB_iff.1 c5; have h6 := inB_not.1 c6; simp only [prOk, c1, c2, c3, c4, Bool.true_and]; by_cases h0 : 0 ≤ d <;> by_cases h1 : d < l <;> by_cases h2 : l ≤ 255 <;> simp [h0, h1, h2] <;> omega)
      rw [HE.out]
      have hp := inB_iff.1 c1
      have C1 := Lib.hid c1
      have C2 := Lib.hid c2
      have C3 := Lib.hid c3
      have C4 := Lib.hid c4
      have C5 := Lib.hid c5
      have C6 := Lib.hid c6
      clear c1 c2 c3 c4 c5 c6
      go_enter Try.func82, Try.ntmps82
      go_wp2_with fail
      refine (l01In_val C1.out).mono ?_
      rintro e w1 ⟨rfl, rfl⟩
      go_wp2_with fail
      refine (l01In_val C2.out).mono ?_
      rintro e w1 ⟨rfl, rfl⟩
      go_wp2_with fail
      refine (l01In_val C3.out).mono ?_
      rintro e w1 ⟨rfl, rfl⟩
      go_wp2_with fail
      refine (l01In_val C4.out).mono ?_
      rintro e w1 ⟨rfl, rfl⟩
      go_wp2_with fail
      refine (l20Grey_val C5.out).mono ?_
      rintro e w1 ⟨rfl, rfl⟩
      go_wp2_with fail
      refine (l20Grey_val C6.out).mono ?_
      rintro e w1 ⟨rfl, rfl⟩
      go_wp2_with fail
      go_ret
      exact ⟨rfl, ba1 _ _⟩
    · have HE : Hid (prOk p t q b d l = false) := Lib.hid (by simp [prOk, c7])
      rw [HE.out]
      have hp := inB_iff.1 c1
      have C1 := Lib.hid c1
      have C2 := Lib.hid c2
      have C3 := Lib.hid c3
      have C4 := Lib.hid c4
      have C5 := Lib.hid c5
      have C6 := Lib.hid c6
      have hdl : ¬ d < l := by simpa using c7
      clear c1 c2 c3 c4 c5 c6 c7
      go_enter Try.func82, Try.ntmps82
      go_wp2_with fail
      refine (l01In_val C1.out).mono ?_
      rintro e w1 ⟨rfl, rfl⟩
      go_wp2_with fail
      refine (l01In_val C2.out).mono ?_
      rintro e w1 ⟨rfl, rfl⟩
      go_wp2_with fail
      refine (l01In_val C3.out).mono ?_
      rintro e w1 ⟨rfl, rfl⟩
      go_wp2_with fail
      refine (l01In_val C4.out).mono ?_
      rintro e w1 ⟨rfl, rfl⟩
      go_wp2_with fail
      refine (l20Grey_val C5.out).mono ?_
      rintro e w1 ⟨rfl, rfl⟩
      go_wp2_with fail
      refine (l20Grey_val C6.out).mono ?_
      rintro e w1 ⟨rfl, rfl⟩
      go_wp2_with fail
      go_ret
      exact ⟨ret_bool (by simp; omega), ba1 _ _⟩
    · have HE : Hid (prOk p t q b d l = true) := Lib.hid (by have h5 := inB_iff.1 c5; have h6 := inB_iff.1 c6; simp only [prOk, c1, c2, c3, c4, c7, Bool.true_and]; simp; omega)
      rw [HE.out]
      have hp := inB_iff.1 c1
      have C1 := Lib.hid c1
      have C2 := Lib.hid c2
      have C3 := Lib.hid c3
      have C4 := Lib.hid c4
      have C5 := Lib.hid c5
      have C6 := Lib.hid c6
      have hdl : d < l := by simpa using c7
      clear c1 c2 c3 c4 c5 c6 c7
      go_enter Try.func82, Try.ntmps82
      go_wp2_with fail
      refine (l01In_val C1.out).mono ?_
      rintro e w1 ⟨rfl, rfl⟩
      go_wp2_with fail
      refine (l01In_val C2.out).mono ?_
      rintro e w1 ⟨rfl, rfl⟩
      go_wp2_with fail
      refine (l01In_val C3.out).mono ?_
      rintro e w1 ⟨rfl, rfl⟩
      go_wp2_with fail
      refine (l01In_val C4.out).mono ?_
      rintro e w1 ⟨rfl, rfl⟩
      go_wp2_with fail
      refine (l20Grey_val C5.out).mono ?_
      rintro e w1 ⟨rfl, rfl⟩
      go_wp2_with fail
      refine (l20Grey_val C6.out).mono ?_
      rintro e w1 ⟨rfl, rfl⟩
      go_wp2_with fail
      go_ret
      exact ⟨rfl, ba1 _ _⟩
theorem specIsPrint_val {p t q b d l : Int} {r : Bool} {W : World} (h : prOk p t q b d l = r) :
    Calls Try.prog 82 #[.agg #[.int .i64 p, .int .i64 t, .int .i64 q, .int .i64 b, .int .i64 d, .int .i64 l]] W fun e W' => e = .returned (.bool r) ∧ Below W.heap.size W W' := h ▸ specIsPrint_any p t q b d l W

/-- the length of a printed side -/
def psz (n q t : Int) : Int := (n + 2 * q) * t
theorem psz_bd {n q t : Int} (hn : 1 ≤ n ∧ n ≤ 400) (hq : 0 ≤ q ∧ q ≤ 16) (ht : 1 ≤ t ∧ t ≤ 12) : 1 ≤ psz n q t ∧ psz n q t ≤ 5184 := by
  unfold psz
  have a : 1 * 1 ≤ (n + 2 * q) * t := Int.mul_le_mul (by omega) ht.1 (by omega) (by omega)
  have b : (n + 2 * q) * t ≤ 432 * 12 := Int.mul_le_mul (by omega) ht.2 (by omega) (by omega)
  omega
/-- what PrintSize comes to -/
inductive PsIs (n m p t q b d l : Int) : Int → Int → Int → Prop
  | bad : prOk p t q b d l = false → PsIs n m p t q b d l 0 0 1
  | far : prOk p t q b d l = true → (inB n 1 400 && inB m 1 400) = false → PsIs n m p t q b d l 0 0 2
  | big : prOk p t q b d l = true → inB n 1 400 = true → inB m 1 400 = true → sizeB (psz n q t) (psz m q p) = false → PsIs n m p t q b d l 0 0 3
  | fit : prOk p t q b d l = true → inB n 1 400 = true → inB m 1 400 = true → sizeB (psz n q t) (psz m q p) = true → PsIs n m p t q b d l (psz n q t) (psz m q p) 0
theorem psIs_any (n m p t q b d l : Int) : ∃ x y z, PsIs n m p t q b d l x y z := by
  rcases Bool.eq_false_or_eq_true (prOk p t q b d l) with h1 | h1
  · rcases Bool.eq_false_or_eq_true (inB n 1 400) with h2 | h2
    · rcases Bool.eq_false_or_eq_true (inB m 1 400) with h3 | h3
      · rcases Bool.eq_false_or_eq_true (sizeB (psz n q t) (psz m q p)) with h4 | h4
        · exact ⟨_, _, _, .fit h1 h2 h3 h4⟩
        · exact ⟨_, _, _, .big h1 h2 h3 h4⟩
      · exact ⟨_, _, _, .far h1 (by rw [h3]; simp)⟩
    · exact ⟨_, _, _, .far h1 (by rw [h2]; rfl)⟩
  · exact ⟨_, _, _, .bad h1⟩

set_option maxRecDepth 100000 in
set_option maxHeartbeats 1000000 in
theorem sizeOf_any (n m p t q b d l : Int) (W : World) (hn : 1 ≤ n ∧ n ≤ 400) (hm : 1 ≤ m ∧ m ≤ 400) (hp : prOk p t q b d l = true) :
    Calls Try.prog 67 #[.agg #[.int .i64 p, .int .i64 t, .int .i64 q, .int .i64 b, .int .i64 d, .int .i64 l], .int .i64 n, .int .i64 m] W fun e W' => e = .returned (.agg #[.int .i64 (psz n q t), .int .i64 (psz m q p)]) ∧ Below W.heap.size W W' := by
  obtain ⟨p1, p2, p3, _⟩ := pr_bounds hp
  have h1 := psz_bd hn p3 p2
  have h2 := psz_bd hm p3 p1
  clear hp
  obtain ⟨H, hH⟩ : ∃ H, psz n q t = H := ⟨_, rfl⟩
  obtain ⟨K, hK⟩ : ∃ K, psz m q p = K := ⟨_, rfl⟩
  rw [hH] at h1 ⊢
  rw [hK] at h2 ⊢
  have w1 : IntKind.i64.wrap ((n + 2 * q) * t) = H := by rw [← hH, psz]; exact IntWalk.i64_in _ (by have := hH; unfold psz at this; omega)
  have w2 : IntKind.i64.wrap ((m + 2 * q) * p) = K := by rw [← hK, psz]; exact IntWalk.i64_in _ (by have := hK; unfold psz at this; omega)
  clear hH hK
  go_enter Try.func67, Try.ntmps67
  go_wp2_with fail
  exact bodyPost_ret (v := .agg #[.int .i64 H, .int .i64 K]) (by simp [results, Try.results67, go_sem]) rfl ⟨rfl, ba2 _ _ _⟩

set_option maxRecDepth 100000 in
set_option maxHeartbeats 1000000 in
theorem fits_val {n m : Int} {r : Bool} {W : World} (h : sizeB n m = r) :
    Calls Try.prog 81 #[.agg #[.int .i64 n, .int .i64 m]] W fun e W' => e = .returned (.bool r) ∧ Below W.heap.size W W' := by
  have H := Lib.hid h
  clear h
  go_enter Try.func81, Try.ntmps81
  go_wp2_with fail
  refine (isRasterSize_val H.out).mono ?_
  rintro e w1 ⟨rfl, rfl⟩
  go_wp2_with fail
  go_ret
  exact ⟨rfl, ba1 _ _⟩

end Go.Proofs.Ythnjfdhijpfekaa
