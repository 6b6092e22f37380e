import Derived.Test.YthnjfdhijpfekaaUAllS
import Derived.Test.YthnjfdhijpfekaaUDmgL
namespace Go.Proofs.Ythnjfdhijpfekaa
open Go.RowKit

set_option maxHeartbeats 400000 in
theorem l20Grey_val {n : Int} {b : Bool} {w : World} (h : inB n 0 255 = b) : Calls Try.prog 73 #[.int .i64 n] w fun e w' => e = .returned (.bool b) ∧ w = w' := by
  go_enter Try.func73, Try.ntmps73
  go_wp2_with fail
  refine (l01In_val h).mono ?_
  rintro e w' ⟨rfl, rfl⟩
  go_wp2_with fail
  go_ret
  exact ⟨rfl, rfl⟩

set_option maxHeartbeats 400000 in
theorem isRasterSize_any (n m : Int) (w : World) : Calls Try.prog 80 #[.int .i64 n, .int .i64 m] w fun e w' => e = .returned (.bool (sizeB n m)) ∧ w = w' := by
  rcases three (inB n 1 400) (inB m 1 400) (decide (n * m ≤ 40000)) with h1 | ⟨h1, h2⟩ | ⟨h1, h2, h3⟩ | ⟨h1, h2, h3⟩
  · have e : sizeB n m = false := by rw [sizeB, h1]; rfl
    rw [e]
    clear e
    go_enter Try.func80, Try.ntmps80
    go_wp2_with (go_at_call 48; refine (inRange_val h1).mono ?_; rintro e w' ⟨rfl, rfl⟩)
    go_ret
    exact ⟨rfl, rfl⟩
  · have e : sizeB n m = false := by rw [sizeB, h1, h2]; rfl
    rw [e]
    clear e
    go_enter Try.func80, Try.ntmps80
    go_wp2_with fail
    refine (inRange_val h1).mono ?_
    rintro e w' ⟨rfl, rfl⟩
    go_wp2_with fail
    refine (inRange_val h2).mono ?_
    rintro e w' ⟨rfl, rfl⟩
    go_wp2_with fail
    go_ret
    exact ⟨rfl, rfl⟩
  all_goals
    obtain ⟨b1, b2⟩ := size_bd h1 h2
    first | (have e : sizeB n m = false := by (rw [sizeB, h1, h2, h3]; rfl)
             rw [e]; clear e) | (have e : sizeB n m = true := by (rw [sizeB, h1, h2, h3]; rfl)
                                 rw [e]; clear e)
    go_enter Try.func80, Try.ntmps80
    go_wp2_with fail
    refine (inRange_val h1).mono ?_
    rintro e w' ⟨rfl, rfl⟩
    go_wp2_with fail
    refine (inRange_val h2).mono ?_
    rintro e w' ⟨rfl, rfl⟩
    go_wp2_with fail
    go_ret
    exact ⟨rfl, rfl⟩
theorem isRasterSize_val {n m : Int} {b : Bool} {w : World} (h : sizeB n m = b) : Calls Try.prog 80 #[.int .i64 n, .int .i64 m] w fun e w' => e = .returned (.bool b) ∧ w = w' := h ▸ isRasterSize_any n m w

set_option maxHeartbeats 400000 in
theorem l20Size_any (n m : Int) (w : World) : Calls Try.prog 72 #[.int .i64 n, .int .i64 m] w fun e w' => e = .returned (.bool (sizeB n m)) ∧ w = w' := by
  rcases three (inB n 1 400) (inB m 1 400) (decide (n * m ≤ 40000)) with h1 | ⟨h1, h2⟩ | ⟨h1, h2, h3⟩ | ⟨h1, h2, h3⟩
  · have e : sizeB n m = false := by rw [sizeB, h1]; rfl
    rw [e]
    clear e
    go_enter Try.func72, Try.ntmps72
    go_wp2_with (go_at_call 74; refine (l01In_val h1).mono ?_; rintro e w' ⟨rfl, rfl⟩)
    go_ret
    exact ⟨rfl, rfl⟩
  · have e : sizeB n m = false := by rw [sizeB, h1, h2]; rfl
    rw [e]
    clear e
    go_enter Try.func72, Try.ntmps72
    go_wp2_with fail
    refine (l01In_val h1).mono ?_
    rintro e w' ⟨rfl, rfl⟩
    go_wp2_with fail
    refine (l01In_val h2).mono ?_
    rintro e w' ⟨rfl, rfl⟩
    go_wp2_with fail
    go_ret
    exact ⟨rfl, rfl⟩
  all_goals
    obtain ⟨b1, b2⟩ := size_bd h1 h2
    first | (have e : sizeB n m = false := by (rw [sizeB, h1, h2, h3]; rfl)
             rw [e]; clear e) | (have e : sizeB n m = true := by (rw [sizeB, h1, h2, h3]; rfl)
                                 rw [e]; clear e)
    go_enter Try.func72, Try.ntmps72
    go_wp2_with fail
    refine (l01In_val h1).mono ?_
    rintro e w' ⟨rfl, rfl⟩
    go_wp2_with fail
    refine (l01In_val h2).mono ?_
    rintro e w' ⟨rfl, rfl⟩
    go_wp2_with fail
    go_ret
    exact ⟨rfl, rfl⟩
theorem l20Size_val {n m : Int} {b : Bool} {w : World} (h : sizeB n m = b) : Calls Try.prog 72 #[.int .i64 n, .int .i64 m] w fun e w' => e = .returned (.bool b) ∧ w = w' := h ▸ l20Size_any n m w

set_option maxHeartbeats 1000000 in
theorem isRaster_any (n m : Int) (a : Option Addr) (xs : List Int) (c : Nat) (w : World) (hx : IntsAt w a xs) (lx : xs.length ≤ maxLen) :
    Calls Try.prog 50 #[.agg #[.int .i64 n, .int .i64 m, .slice a xs.length c]] w fun e w' => e = .returned (.bool (rasOk n m xs)) ∧ Below w.heap.size w w' := by
  have HX := Lib.hid hx
  clear hx
  unfold maxLen at lx
  rcases Bool.eq_false_or_eq_true (sizeB n m) with h1 | h1
  · obtain ⟨b1, b2⟩ := size_bd (n := n) (m := m) (by simp only [sizeB, Bool.and_eq_true] at h1; exact h1.1.1) (by simp only [sizeB, Bool.and_eq_true] at h1; exact h1.1.2)
    have H1 := Lib.hid h1
    clear h1
    rcases Bool.eq_false_or_eq_true ((xs.length : Int) != n * m) with h2 | h2
    · have e : rasOk n m xs = false := by rw [rasOk, H1.out, h2]; rfl
      rw [e]
      clear e
      go_enter Try.func50, Try.ntmps50
      go_wp2_with fail
      refine (isRasterSize_val H1.out).mono ?_
      rintro e w1 ⟨rfl, rfl⟩
      go_wp2_with fail
      go_ret
      exact ⟨rfl, ba1 _ _⟩
    · have H2 := Lib.hid h2
      go_enter Try.func50, Try.ntmps50
      go_wp2_with fail
      refine (isRasterSize_val H1.out).mono ?_
      rintro e w1 ⟨rfl, rfl⟩
      go_wp2_with fail
      clear h2
      have HX1 := Lib.hid (HX.out.below (ba1 w (.cells #[.int .i64 n, .int .i64 m, .slice a xs.length c] 28 (0, 0))))
      go_loop [4, 25] (fun _ i => ∃ k : Nat, k ≤ xs.length ∧ i = .int .i64 k ∧ (xs.take k).all greyB = true) (fun _ i => xs.length - (intOf i).toNat)
      case atStart => exact ⟨0, Nat.zero_le _, rfl, rfl⟩
      case round =>
        obtain ⟨k, hk, rfl, hall⟩ := hrel
        have HA := Lib.hid hall
        clear hall
        by_cases hlt : k < xs.length
        · obtain ⟨b1, o1, x, rfl, hxk, hb1, hc1⟩ := HX1.out.at hlt
          have HK := Lib.hid hxk
          clear hxk
          rcases Bool.eq_false_or_eq_true (inB x 0 255) with h3 | h3
          · go_wp2_with (go_at_call 48; refine (inRange_val h3).mono ?_; rintro e w' ⟨rfl, rfl⟩)
            go_round
            case rel => exact ⟨k + 1, by omega, by go_num, all_step HK.out HA.out h3⟩
            case measure => simp [intOf]; omega
          · go_wp2_with (go_at_call 48; refine (inRange_val h3).mono ?_; rintro e w' ⟨rfl, rfl⟩)
            go_ret
            exact ⟨ret_bool (by rw [rasOk, H1.out, H2.out, all_no HK.out h3]; rfl), ba1 _ _⟩
        · go_wp2_with fail
          go_ret
          exact ⟨ret_bool (by rw [rasOk, H1.out, H2.out, all_end (by omega) HA.out]; rfl), ba1 _ _⟩
  · have H1 := Lib.hid h1
    clear h1
    have e : rasOk n m xs = false := by rw [rasOk, H1.out]; rfl
    rw [e]
    clear e
    go_enter Try.func50, Try.ntmps50
    go_wp2_with fail
    refine (isRasterSize_val H1.out).mono ?_
    rintro e w1 ⟨rfl, rfl⟩
    go_wp2_with fail
    go_ret
    exact ⟨rfl, ba1 _ _⟩
theorem isRaster_val {n m : Int} {a : Option Addr} {xs : List Int} {c : Nat} {w : World} {b : Bool} (h : rasOk n m xs = b) (hx : IntsAt w a xs) (lx : xs.length ≤ maxLen) :
    Calls Try.prog 50 #[.agg #[.int .i64 n, .int .i64 m, .slice a xs.length c]] w fun e w' => e = .returned (.bool b) ∧ Below w.heap.size w w' := h ▸ isRaster_any n m a xs c w hx lx

set_option maxHeartbeats 1000000 in
theorem specIsRaster_any (n m : Int) (a : Option Addr) (xs : List Int) (c : Nat) (w : World) (hx : IntsAt w a xs) (lx : xs.length ≤ maxLen) :
    Calls Try.prog 36 #[.agg #[.int .i64 n, .int .i64 m, .slice a xs.length c]] w fun e w' => e = .returned (.bool (rasOk n m xs)) ∧ Below w.heap.size w w' := by
  have HX := Lib.hid hx
  clear hx
  unfold maxLen at lx
  rcases Bool.eq_false_or_eq_true (sizeB n m) with h1 | h1
  · obtain ⟨b1, b2⟩ := size_bd (n := n) (m := m) (by simp only [sizeB, Bool.and_eq_true] at h1; exact h1.1.1) (by simp only [sizeB, Bool.and_eq_true] at h1; exact h1.1.2)
    have H1 := Lib.hid h1
    clear h1
    rcases Bool.eq_false_or_eq_true ((xs.length : Int) != n * m) with h2 | h2
    · have e : rasOk n m xs = false := by rw [rasOk, H1.out, h2]; rfl
      rw [e]
      clear e
      go_enter Try.func36, Try.ntmps36
      go_wp2_with fail
      refine (l20Size_val H1.out).mono ?_
      rintro e w1 ⟨rfl, rfl⟩
      go_wp2_with fail
      go_ret
      exact ⟨rfl, ba1 _ _⟩
    · have H2 := Lib.hid h2
      go_enter Try.func36, Try.ntmps36
      go_wp2_with fail
      refine (l20Size_val H1.out).mono ?_
      rintro e w1 ⟨rfl, rfl⟩
      go_wp2_with fail
      clear h2
      have HX1 := Lib.hid (HX.out.below (ba1 w (.cells #[.int .i64 n, .int .i64 m, .slice a xs.length c] 28 (0, 0))))
      go_loop [3] (fun i => ∃ k : Nat, k ≤ xs.length ∧ i = .int .i64 k ∧ (xs.take k).all greyB = true) (fun i => xs.length - (intOf i).toNat)
      case atStart => exact ⟨0, Nat.zero_le _, rfl, rfl⟩
      case round =>
        obtain ⟨k, hk, rfl, hall⟩ := hrel
        have HA := Lib.hid hall
        clear hall
        by_cases hlt : k < xs.length
        · obtain ⟨b1, o1, x, rfl, hxk, hb1, hc1⟩ := HX1.out.at hlt
          have HK := Lib.hid hxk
          clear hxk
          rcases Bool.eq_false_or_eq_true (inB x 0 255) with h3 | h3
          · go_wp2_with (go_at_call 73; refine (l20Grey_val h3).mono ?_; rintro e w' ⟨rfl, rfl⟩)
            go_round
            case rel => exact ⟨k + 1, by omega, by go_num, all_step HK.out HA.out h3⟩
            case measure => simp [intOf]; omega
          · go_wp2_with (go_at_call 73; refine (l20Grey_val h3).mono ?_; rintro e w' ⟨rfl, rfl⟩)
            go_ret
            exact ⟨ret_bool (by rw [rasOk, H1.out, H2.out, all_no HK.out h3]; rfl), ba1 _ _⟩
        · go_wp2_with fail
          go_ret
          exact ⟨ret_bool (by rw [rasOk, H1.out, H2.out, all_end (by omega) HA.out]; rfl), ba1 _ _⟩
  · have H1 := Lib.hid h1
    clear h1
    have e : rasOk n m xs = false := by rw [rasOk, H1.out]; rfl
    rw [e]
    clear e
    go_enter Try.func36, Try.ntmps36
    go_wp2_with fail
    refine (l20Size_val H1.out).mono ?_
    rintro e w1 ⟨rfl, rfl⟩
    go_wp2_with fail
    go_ret
    exact ⟨rfl, ba1 _ _⟩
theorem specIsRaster_val {n m : Int} {a : Option Addr} {xs : List Int} {c : Nat} {w : World} {b : Bool} (h : rasOk n m xs = b) (hx : IntsAt w a xs) (lx : xs.length ≤ maxLen) :
    Calls Try.prog 36 #[.agg #[.int .i64 n, .int .i64 m, .slice a xs.length c]] w fun e w' => e = .returned (.bool b) ∧ Below w.heap.size w w' := h ▸ specIsRaster_any n m a xs c w hx lx

end Go.Proofs.Ythnjfdhijpfekaa
