import Derived.Test.YthnjfdhijpfekaaURas0
import Derived.Test.YthnjfdhijpfekaaURas1
namespace Go.Proofs.Ythnjfdhijpfekaa
open Go.RowKit

theorem bdN {B : Nat} {w w' : World} (h : Below B w w') (k : Nat) : Below B w (w'.drewN k) := ⟨h.os, h.tape, h.output, h.size, h.block⟩
theorem tdiv_down {a b : Int} (hb : 1 ≤ b) (h : a.tmod b < 0) : a.tdiv b - 1 = a / b := by
  have h1 := Int.mul_tdiv_add_tmod a b
  have h2 := Int.mul_ediv_add_emod a b
  have h3 := Int.emod_nonneg a (b := b) (by omega)
  have h4 := Int.emod_lt_of_pos a (b := b) (by omega)
  have h5 := Int.lt_tmod_of_pos a (b := b) (by omega)
  generalize a.tdiv b = q at *
  generalize a / b = d at *
  generalize a.tmod b = m at *
  generalize a % b = s at *
  have h6 : b * (d - (q - 1)) < b * 1 := by rw [Int.mul_sub, Int.mul_sub]; omega
  have h7 : b * (-1) < b * (d - (q - 1)) := by rw [Int.mul_sub, Int.mul_sub]; omega
  have h8 := Int.lt_of_mul_lt_mul_left h6 (by omega)
  have h9 := Int.lt_of_mul_lt_mul_left h7 (by omega)
  omega
theorem tdiv_same {a b : Int} (hb : 1 ≤ b) (h : 0 ≤ a.tmod b) : a.tdiv b = a / b := by
  have h1 := Int.mul_tdiv_add_tmod a b
  have h2 := Int.mul_ediv_add_emod a b
  have h3 := Int.emod_nonneg a (b := b) (by omega)
  have h4 := Int.emod_lt_of_pos a (b := b) (by omega)
  have h5 := Int.tmod_lt_of_pos a (b := b) (by omega)
  generalize a.tdiv b = q at *
  generalize a / b = d at *
  generalize a.tmod b = m at *
  generalize a % b = s at *
  have h6 : b * (d - q) < b * 1 := by rw [Int.mul_sub]; omega
  have h7 : b * (-1) < b * (d - q) := by rw [Int.mul_sub]; omega
  have h8 := Int.lt_of_mul_lt_mul_left h6 (by omega)
  have h9 := Int.lt_of_mul_lt_mul_left h7 (by omega)
  omega
theorem tdiv_bd {a b : Int} (_hb : 1 ≤ b) (h1 : -1000000 ≤ a) (h2 : a ≤ 1000000) : -1000000 ≤ a.tdiv b ∧ a.tdiv b ≤ 1000000 := by
  have h := Int.natAbs_tdiv_le_natAbs a b
  omega

set_option maxHeartbeats 400000 in
theorem floorDiv_val {a b z : Int} {w : World} (hz : a / b = z) (hb : 1 ≤ b) (hb2 : b ≤ 1000) (h1 : -1000000 ≤ a) (h2 : a ≤ 1000000) : Calls Try.prog 119 #[.int .i64 a, .int .i64 b] w fun e w' => e = .returned (.int .i64 z) ∧ w = w' := by
  obtain ⟨b1, b2⟩ := tdiv_bd hb h1 h2
  have HZ := Lib.hid hz
  clear hz
  by_cases ha : 0 ≤ a
  · have hm : ¬ a % b < 0 := by have := Int.emod_nonneg a (b := b) (by omega); omega
    go_enter Try.func119, Try.ntmps119
    go_wp2_with fail
    go_ret
    exact ⟨ret_int ((tdiv_same hb (Int.tmod_nonneg _ ha)).trans HZ.out), rfl⟩
  · by_cases hm : a.tmod b < 0
    · go_enter Try.func119, Try.ntmps119
      go_wp2_with fail
      go_ret
      exact ⟨ret_int ((tdiv_down hb hm).trans HZ.out), rfl⟩
    · go_enter Try.func119, Try.ntmps119
      go_wp2_with fail
      go_ret
      exact ⟨ret_int ((tdiv_same hb (by omega)).trans HZ.out), rfl⟩
set_option maxHeartbeats 400000 in
theorem l24Floor_val {a b z : Int} {w : World} (hz : a / b = z) (hb : 1 ≤ b) (hb2 : b ≤ 1000) (h1 : -1000000 ≤ a) (h2 : a ≤ 1000000) : Calls Try.prog 84 #[.int .i64 a, .int .i64 b] w fun e w' => e = .returned (.int .i64 z) ∧ w = w' := by
  obtain ⟨b1, b2⟩ := tdiv_bd hb h1 h2
  have HZ := Lib.hid hz
  clear hz
  by_cases ha : 0 ≤ a
  · have hm : ¬ a % b < 0 := by have := Int.emod_nonneg a (b := b) (by omega); omega
    go_enter Try.func84, Try.ntmps84
    go_wp2_with fail
    go_ret
    exact ⟨ret_int ((tdiv_same hb (Int.tmod_nonneg _ ha)).trans HZ.out), rfl⟩
  · by_cases hm : a.tmod b < 0
    · go_enter Try.func84, Try.ntmps84
      go_wp2_with fail
      go_ret
      exact ⟨ret_int ((tdiv_down hb hm).trans HZ.out), rfl⟩
    · go_enter Try.func84, Try.ntmps84
      go_wp2_with fail
      go_ret
      exact ⟨ret_int ((tdiv_same hb (by omega)).trans HZ.out), rfl⟩

theorem sq_bd {x : Int} (h1 : -400 ≤ x) (h2 : x ≤ 400) : 0 ≤ x * x ∧ x * x ≤ 160000 := by
  rcases Int.le_total 0 x with h | h
  · exact ⟨Int.mul_nonneg h h, Int.mul_le_mul h2 h2 h (by omega)⟩
  · have e : x * x = (-x) * (-x) := by rw [Int.neg_mul_neg]
    rw [e]
    have h3 : (-x) * (-x) ≤ 400 * 400 := Int.mul_le_mul (by omega) (by omega) (by omega) (by omega)
    exact ⟨Int.mul_nonneg (by omega) (by omega), h3⟩

set_option maxRecDepth 100000 in
set_option maxHeartbeats 400000 in
theorem blotTouches_val {k r c t w g y x : Int} {b : Bool} {W : World} (hb : touchB 1 r c t w y x = b) (hr : 0 ≤ r ∧ r ≤ 400) (hc : 0 ≤ c ∧ c ≤ 400) (ht : 0 ≤ t ∧ t ≤ 400) (hy : 0 ≤ y ∧ y ≤ 400) (hx : 0 ≤ x ∧ x ≤ 400) :
    Calls Try.prog 78 #[.agg #[.int .i64 k, .int .i64 r, .int .i64 c, .int .i64 t, .int .i64 w, .int .i64 g], .int .i64 y, .int .i64 x] W fun e W' => e = .returned (.bool b) ∧ Below W.heap.size W W' := by
  rw [touch1] at hb
  obtain ⟨s1, s2⟩ := sq_bd (x := y - r) (by omega) (by omega)
  obtain ⟨s3, s4⟩ := sq_bd (x := x - c) (by omega) (by omega)
  obtain ⟨s5, s6⟩ := sq_bd (x := t) (by omega) (by omega)
  have HB := Lib.hid hb
  clear hb
  go_enter Try.func78, Try.ntmps78
  go_wp2_with fail
  go_quiet (fail)
  go_wp2_with fail
  go_ret
  exact ⟨ret_bool HB.out, bdN (ba1 _ _) _⟩

set_option maxRecDepth 100000 in
set_option maxHeartbeats 400000 in
theorem scratchTouches_val {k r c t w g y x : Int} {b : Bool} {W : World} (hb : touchB 2 r c t w y x = b) (hr : 0 ≤ r ∧ r ≤ 400) (hc : 0 ≤ c ∧ c ≤ 400) (ht : 0 ≤ t ∧ t ≤ 400) (hw : -400 ≤ w ∧ w ≤ 400) :
    Calls Try.prog 79 #[.agg #[.int .i64 k, .int .i64 r, .int .i64 c, .int .i64 t, .int .i64 w, .int .i64 g], .int .i64 y, .int .i64 x] W fun e W' => e = .returned (.bool b) ∧ Below W.heap.size W W' := by
  rw [touch2] at hb
  rcases Bool.eq_false_or_eq_true (inB y r (r + t - 1)) with h1 | h1
  · rw [h1, Bool.true_and] at hb
    have HB := Lib.hid hb
    have H1 := Lib.hid h1
    clear hb h1
    go_enter Try.func79, Try.ntmps79
    go_wp2_with fail
    refine (inRange_val H1.out).mono ?_
    rintro e w1 ⟨rfl, rfl⟩
    go_wp2_with fail
    refine (inRange_val HB.out).mono ?_
    rintro e w1 ⟨rfl, rfl⟩
    go_wp2_with fail
    go_ret
    exact ⟨rfl, ba1 _ _⟩
  · rw [h1, Bool.false_and] at hb
    subst hb
    have H1 := Lib.hid h1
    clear h1
    go_enter Try.func79, Try.ntmps79
    go_wp2_with fail
    refine (inRange_val H1.out).mono ?_
    rintro e w1 ⟨rfl, rfl⟩
    go_wp2_with fail
    go_ret
    exact ⟨rfl, ba1 _ _⟩

set_option maxRecDepth 100000 in
set_option maxHeartbeats 600000 in
theorem l27Touches_val {k r c t w g y x : Int} {b : Bool} {W : World} (hb : touchB k r c t w y x = b) (hr : 0 ≤ r ∧ r ≤ 400) (hc : 0 ≤ c ∧ c ≤ 400) (ht : 0 ≤ t ∧ t ≤ 400) (hw : -400 ≤ w ∧ w ≤ 400) (hy : 0 ≤ y ∧ y ≤ 400) (hx : 0 ≤ x ∧ x ≤ 400) :
    Calls Try.prog 63 #[.agg #[.int .i64 k, .int .i64 r, .int .i64 c, .int .i64 t, .int .i64 w, .int .i64 g], .int .i64 y, .int .i64 x] W fun e W' => e = .returned (.bool b) ∧ Below W.heap.size W W' := by
  by_cases hk : k = 1
  · subst hk
    rw [touch1] at hb
    obtain ⟨s1, s2⟩ := sq_bd (x := y - r) (by omega) (by omega)
    obtain ⟨s3, s4⟩ := sq_bd (x := x - c) (by omega) (by omega)
    obtain ⟨s5, s6⟩ := sq_bd (x := t) (by omega) (by omega)
    have HB := Lib.hid hb
    clear hb
    go_enter Try.func63, Try.ntmps63
    go_wp2_with fail
    go_ret
    exact ⟨ret_bool HB.out, ba1 _ _⟩
  · have hk' : (k == 1) = false := by simpa using hk
    rw [touchB, if_neg hk] at hb
    clear hk
    rcases Bool.eq_false_or_eq_true (inB y r (r + t - 1)) with h1 | h1
    · rw [h1, Bool.true_and] at hb
      have HB := Lib.hid hb
      have H1 := Lib.hid h1
      clear hb h1
      go_enter Try.func63, Try.ntmps63
      go_wp2_with fail
      refine (l01In_val H1.out).mono ?_
      rintro e w1 ⟨rfl, rfl⟩
      go_wp2_with fail
      refine (l01In_val HB.out).mono ?_
      rintro e w1 ⟨rfl, rfl⟩
      go_wp2_with fail
      go_ret
      exact ⟨rfl, ba1 _ _⟩
    · rw [h1, Bool.false_and] at hb
      subst hb
      have H1 := Lib.hid h1
      clear h1
      go_enter Try.func63, Try.ntmps63
      go_wp2_with fail
      refine (l01In_val H1.out).mono ?_
      rintro e w1 ⟨rfl, rfl⟩
      go_wp2_with fail
      go_ret
      exact ⟨rfl, ba1 _ _⟩

set_option maxHeartbeats 400000 in
theorem l20At_val {a : Option Addr} {xs : List Int} {cp m r c i : Nat} {n z : Int} {w : World} (hi : r * m + c = i) (hz : xs[i]? = some z) (hx : IntsAt w a xs) (hl : xs.length ≤ 1099511627776) :
    Calls Try.prog 85 #[.agg #[.int .i64 n, .int .i64 (m : Int), .slice a xs.length cp], .int .i64 (r : Int), .int .i64 (c : Int)] w fun e w' => e = .returned (.int .i64 z) ∧ Below w.heap.size w w' := by
  have hlt : i < xs.length := (List.getElem?_eq_some_iff.1 hz).1
  obtain ⟨b, o, z', rfl, hz', hb, hcl⟩ := hx.at hlt
  obtain rfl : z = z' := Option.some.inj (hz.symm.trans hz')
  obtain ⟨q, hq⟩ : ∃ q, r * m = q := ⟨_, rfl⟩
  have hrm : (r : Int) * (m : Int) = (q : Int) := by rw [← hq]; simp
  have hqi : (q : Int) + (c : Int) = (i : Int) := by omega
  have hil : (i : Int) < (xs.length : Int) := by omega
  have w1 : wrap64 (q : Int) = q := IntWalk.wrap64_in _ (by omega)
  have w2 : wrap64 (i : Int) = i := IntWalk.wrap64_in _ (by omega)
  have hcw : (w.alloc (.cells #[.int .i64 n, .int .i64 (m : Int), .slice (some ⟨b, o, none⟩) xs.length cp] 28 (0, 0))).cell? ⟨b, o + i, none⟩ = some (.int .i64 z) := by
    rw [(ba1 w _).cell (p := ⟨b, o + i, none⟩) hb]; exact hcl
  clear hz hz' hx hcl hq hi
  go_enter Try.func85, Try.ntmps85
  go_wp2_with fail
  go_ret
  exact ⟨rfl, ba1 _ _⟩

end Go.Proofs.Ythnjfdhijpfekaa
