import Derived.Test.YtnijdfdcjjbneaaDoorUSer0
import Derived.Test.YtnijdfdcjjbneaaDoorUBase2
import Derived.Test.YtnijdfdcjjbneaaDoorUIsSess
import Derived.Test.YtnijdfdcjjbneaaDoorUChkI
import Derived.Test.YtnijdfdcjjbneaaDoorUChkS
namespace Go.Proofs.YtnijdfdcjjbneaaDoor
open Go.RowKit

theorem repeat0_val {z : Int} {r : ByteArray} {w : World} (h : zerosB z.toNat = r) (h0 : 0 ≤ z) (h1 : z ≤ 1000) :
    Calls Tryd.prog 47 #[.string ⟨#[48]⟩, .int .i64 z] w fun e w' => e = .returned (.string r) ∧ Below w.heap.size w w' := by
  obtain ⟨c, rfl⟩ := Int.eq_ofNat_of_zero_le h0
  have := Tryd.strings_Repeat ⟨#[48]⟩ c w (by omega) (by simp [ByteArray.size]; omega)
  rw [Int.toNat_natCast] at h
  subst h
  rw [← repeat_zeros]
  exact this
theorem formatInt_val {n : Int} {d : ByteArray} {w : World} (h : decB n = d) (h0 : -9223372036854775808 ≤ n) (h1 : n ≤ 9223372036854775807) (ht : Tab w) :
    Calls Tryd.prog 38 #[.int .i64 n, .int .i64 10] w fun e w' => e = .returned (.string d) ∧ Below w.heap.size w w' := h ▸ formatInt_any n w h0 h1 ht
theorem l01Dec_val {n : Int} {d : ByteArray} {w : World} (h : decB n = d) (h0 : 0 ≤ n) (h1 : n ≤ 9223372036854775807) :
    Calls Tryd.prog 40 #[.int .i64 n] w fun e w' => e = .returned (.string d) ∧ Below w.heap.size w w' := h ▸ l01Dec_any n.toNat n w (by omega) h0 h1
theorem check_val {s : ByteArray} {c : Int} {w : World} (h : chkB s = c) (hs : s.size ≤ 1099511627776) :
    Calls Tryd.prog 43 #[.string s] w fun e w' => e = .returned (.int .i64 c) ∧ w = w' := h ▸ check_any s w hs
theorem l31Check_val {s : ByteArray} {c : Int} {w : World} (h : chkB s = c) (hs : s.size ≤ 1099511627776) :
    Calls Tryd.prog 48 #[.string s] w fun e w' => e = .returned (.int .i64 c) ∧ w = w' := h ▸ l31Check_any s w hs

theorem digit_size {c : Int} (h0 : 0 ≤ c) (h1 : c ≤ 9) : (decB c).size = 1 := by
  rw [decB_small h0 (by omega)]; rfl

set_option maxHeartbeats 1000000 in
theorem serial_any (p : ByteArray) (x1 x2 x3 x4 i : Int) (w : World) (hp : p.size ≤ 12) (q1 : 0 ≤ x1) (q2 : x1 ≤ 999999999) (q3 : 0 ≤ i * x2) (q4 : i * x2 ≤ 199000) (hw : ((decB (x1 + i * x2)).size : Int) ≤ x4) (q5 : x4 ≤ 9) (ht : Tab w) :
    Calls Tryd.prog 34 #[.agg #[.string p, .int .i64 x1, .int .i64 x2, .int .i64 x3, .int .i64 x4], .int .i64 i] w fun e w' => e = .returned (.string (serB p x1 x2 x4 i)) ∧ Below w.heap.size w w' := by
  have HT := Lib.hid ht
  clear ht
  obtain ⟨d, hd⟩ : ∃ d, decB (x1 + i * x2) = d := ⟨_, rfl⟩
  obtain ⟨z, hz⟩ : ∃ z, zerosB (x4 - d.size).toNat = z := ⟨_, rfl⟩
  obtain ⟨c, hc0⟩ : ∃ c, chkB (p ++ z ++ d) = c := ⟨_, rfl⟩
  obtain ⟨u, hu⟩ : ∃ u, decB c = u := ⟨_, rfl⟩
  have hzs : z.size ≤ 9 := by rw [← hz, zerosB_size]; omega
  rw [hd] at hw
  have hcb : 0 ≤ c ∧ c ≤ 9 := by rw [← hc0]; exact chkB_bd _
  obtain ⟨hc1, hc2⟩ := hcb
  have hus : u.size ≤ 1 := by rw [← hu, digit_size hc1 hc2]; exact Nat.le_refl _
  have E : Hid (serB p x1 x2 x4 i = p ++ z ++ d ++ u) := Lib.hid (by
    unfold serB bodyB
    rw [hd, show x4.toNat - d.size = (x4 - d.size).toNat by omega, hz, hc0, hu])
  have HD := Lib.hid hd
  have HZ := Lib.hid hz
  have HC := Lib.hid hc0
  have HU := Lib.hid hu
  clear hd hz hc0 hu
  have s1 : p.size + z.size ≤ 9223372036854775807 := by omega
  have s2 : (p ++ z).size + d.size ≤ 9223372036854775807 := by rw [ByteArray.size_append]; omega
  have s3 : (p ++ z ++ d).size + u.size ≤ 9223372036854775807 := by rw [ByteArray.size_append, ByteArray.size_append]; omega
  go_enter Tryd.func34, Tryd.ntmps34
  go_wp2_with fail
  refine (formatInt_val HD.out (by omega) (by omega) (HT.out.alloc _)).mono ?_
  rintro e w1 ⟨rfl, hb1⟩
  obtain ⟨hc, _⟩ := bcell hb1
  have HB1 := Lib.hid (bt1 hb1)
  have hz1 : w.heap.size < w1.heap.size := by have := hb1.size; simp at this; omega
  clear hb1
  go_wp2_with fail
  refine wp_region_ext (by kernel_rfl) (by kernel_rfl) ?_
  repeat (go_big_quiet_step ((go_at_call 47; go_must (apply calls_ext; refine repeat0_val HZ.out ?_ ?_ <;> omega))))
  refine wpQuiet_nil ?_
  rintro _ ⟨s, rfl⟩
  go_wp2_with fail
  refine (check_val HC.out (by rw [ByteArray.size_append, ByteArray.size_append]; omega)).mono ?_
  rintro e w' ⟨rfl, rfl⟩
  go_wp2_with fail
  refine (formatInt_val HU.out (by omega) (by omega) ((HT.out.next HB1.out).ext s)).mono ?_
  rintro e w2 ⟨rfl, hb2⟩
  have HB2 := Lib.hid (bt0 (bt0 HB1.out s.below (Nat.le_refl _)) hb2 (Nat.le_refl _))
  clear hb2
  go_wp2_with fail
  go_ret
  exact ⟨ret_str E.out.symm, HB2.out⟩

set_option maxHeartbeats 1000000 in
theorem l31Serial_any (p : ByteArray) (x1 x2 x3 x4 i : Int) (w : World) (hp : p.size ≤ 12) (q1 : 0 ≤ x1) (q2 : x1 ≤ 999999999) (q3 : 0 ≤ i * x2) (q4 : i * x2 ≤ 199000) (hw : ((decB (x1 + i * x2)).size : Int) ≤ x4) (q5 : x4 ≤ 9) :
    Calls Tryd.prog 36 #[.agg #[.string p, .int .i64 x1, .int .i64 x2, .int .i64 x3, .int .i64 x4], .int .i64 i] w fun e w' => e = .returned (.string (serB p x1 x2 x4 i)) ∧ Below w.heap.size w w' := by
  obtain ⟨d, hd⟩ : ∃ d, decB (x1 + i * x2) = d := ⟨_, rfl⟩
  rw [hd] at hw
  have E : Hid (serB p x1 x2 x4 i = p ++ (zerosB (x4.toNat - d.size) ++ d) ++ decB (chkB (p ++ (zerosB (x4.toNat - d.size) ++ d)))) := Lib.hid (by
    unfold serB bodyB
    rw [hd, show p ++ zerosB (x4.toNat - d.size) ++ d = p ++ (zerosB (x4.toNat - d.size) ++ d) from ByteArray.append_assoc])
  have HD := Lib.hid hd
  clear hd
  go_enter Tryd.func36, Tryd.ntmps36
  go_wp2_with fail
  refine (l01Dec_val HD.out (by omega) (by omega)).mono ?_
  rintro e w1 ⟨rfl, hb1⟩
  obtain ⟨hc, _⟩ := bcell hb1
  have HB1 := Lib.hid (bt1 hb1)
  have hz1 : w.heap.size < w1.heap.size := by have := hb1.size; simp at this; omega
  clear hb1
  go_wp2_with fail
  go_loop [5] (fun v => ∃ j : Nat, (j : Int) + d.size ≤ x4 ∧ v = .string (zerosB j ++ d)) (fun v => match v with | .string s => x4.toNat - s.size | _ => 0)
  case atStart => exact ⟨0, by simpa using hw, by rw [zerosB_zero, ByteArray.empty_append]⟩
  case round =>
    obtain ⟨j, hj, rfl⟩ := hrel
    have hsz : (zerosB j ++ d).size = j + d.size := by rw [ByteArray.size_append, zerosB_size]
    by_cases hlt : (j : Int) + d.size < x4
    · have E1 : Hid (⟨#[48]⟩ ++ (zerosB j ++ d) = zerosB (j + 1) ++ d) := Lib.hid (by rw [← ByteArray.append_assoc, zerosB_succ]; rfl)
      have HS := Lib.hid hsz
      obtain ⟨n, hn⟩ : ∃ n, zerosB j ++ d = n := ⟨_, rfl⟩
      rw [hn] at hsz
      have hlt' : (n.size : Int) < x4 := by omega
      have h48 : (⟨#[48]⟩ : ByteArray).size = 1 := rfl
      have s1 : (⟨#[48]⟩ : ByteArray).size + n.size ≤ 9223372036854775807 := by rw [h48]; omega
      have HM : Hid (x4.toNat - ((⟨#[48]⟩ : ByteArray) ++ n).size < x4.toNat - n.size) := Lib.hid (by rw [ByteArray.size_append, h48]; omega)
      rw [hn] at E1 ⊢
      clear hn hsz h48
      go_wp2_with fail
      exact ⟨⟨j + 1, by omega, by rw [E1.out]⟩, HM.out⟩
    · obtain ⟨n, hn⟩ : ∃ n, zerosB j ++ d = n := ⟨_, rfl⟩
      obtain rfl : j = x4.toNat - d.size := by omega
      rw [hn] at E hsz ⊢
      obtain ⟨c, hc0⟩ : ∃ c, chkB (p ++ n) = c := ⟨_, rfl⟩
      obtain ⟨u, hu⟩ : ∃ u, decB c = u := ⟨_, rfl⟩
      have hcb : 0 ≤ c ∧ c ≤ 9 := by rw [← hc0]; exact chkB_bd _
      obtain ⟨hc1, hc2⟩ := hcb
      have hus : u.size ≤ 1 := by rw [← hu, digit_size hc1 hc2]; exact Nat.le_refl _
      rw [hc0, hu] at E
      have HC := Lib.hid hc0
      have HU := Lib.hid hu
      clear hn hc0 hu
      have hns : n.size ≤ 9 := by omega
      have hlt' : ¬ (n.size : Int) < x4 := by omega
      have s1 : p.size + n.size ≤ 9223372036854775807 := by omega
      have s2 : (p ++ n).size + u.size ≤ 9223372036854775807 := by rw [ByteArray.size_append]; omega
      have s3 : (p ++ n).size ≤ 1099511627776 := by rw [ByteArray.size_append]; omega
      clear hsz hlt
      go_wp2_with fail
      refine wp_region_ext (by kernel_rfl) (by kernel_rfl) ?_
      repeat (go_big_quiet_step ((first
        | ((go_at_call 48; go_must (apply calls_ext_same; exact l31Check_val HC.out s3)))
        | ((go_at_call 40; go_must (apply calls_ext; refine l01Dec_val HU.out ?_ ?_ <;> omega))))))
      refine wpQuiet_nil ?_
      rintro _ ⟨s, rfl⟩
      go_wp2_with fail
      go_ret
      exact ⟨ret_str E.out.symm, bt0 HB1.out s.below (Nat.le_refl _)⟩

/-- what the functions on serials give back -/
def soS (p : ByteArray) (x1 x2 x3 x4 i : Int) : ByteArray := if isBatchB p x1 x2 x3 x4 && inB i 0 (x3 - 1) then serB p x1 x2 x4 i else ⟨#[]⟩
def soC (p : ByteArray) (x1 x2 x3 x4 i : Int) : Int := if isBatchB p x1 x2 x3 x4 then if inB i 0 (x3 - 1) then 0 else 2 else 1

set_option maxHeartbeats 1000000 in
theorem serialOf_any (p : ByteArray) (x1 x2 x3 x4 i : Int) (w : World) (hp : p.size ≤ maxLen) (ht : Tab w) :
    Calls Tryd.prog 8 #[.agg #[.string p, .int .i64 x1, .int .i64 x2, .int .i64 x3, .int .i64 x4], .int .i64 i] w fun e w' => e = .returned (.tuple #[.string (soS p x1 x2 x3 x4 i), .int .i64 (soC p x1 x2 x3 x4 i)]) ∧ Below w.heap.size w w' := by
  have HT := Lib.hid ht
  have HP := Lib.hid hp
  clear ht hp
  rcases Bool.eq_false_or_eq_true (isBatchB p x1 x2 x3 x4) with h1 | h1
  · obtain ⟨p1, p2, p3, p4, p5, p6, p7, p8, p9, p10, p11⟩ := batch_parts h1
    have H1 := Lib.hid h1
    clear h1
    rcases Bool.eq_false_or_eq_true (inB i 0 (x3 - 1)) with h2 | h2
    · obtain ⟨i0, i1⟩ := inB_iff.1 h2
      obtain ⟨r1, r2, r3, r4⟩ := ser_bd p8 p2 p3 p5 p10 i0 (by omega : i < x3)
      have r5 := ser_width p8 p2 p3 p5 p10 p11 i0 (by omega : i < x3)
      have E1 : Hid (soS p x1 x2 x3 x4 i = serB p x1 x2 x4 i) := Lib.hid (by unfold soS; rw [H1.out, h2]; rfl)
      have E2 : Hid (soC p x1 x2 x3 x4 i = 0) := Lib.hid (by unfold soC; rw [H1.out, h2]; rfl)
      have H2 := Lib.hid h2
      have HW := Lib.hid r5
      clear h2 r5 p11
      rw [E1.out, E2.out]
      go_enter Tryd.func8, Tryd.ntmps8
      go_wp2_with fail
      refine (isBatch_val H1.out HP.out (HT.out.alloc _)).mono ?_
      rintro e w1 ⟨rfl, hb1⟩
      obtain ⟨hc, _⟩ := bcell hb1
      have HB1 := Lib.hid (bt1 hb1)
      clear hb1
      go_wp2_with (go_at_call 33; refine (inRange_val H2.out).mono ?_; rintro e w' ⟨rfl, rfl⟩)
      refine (serial_any p x1 x2 x3 x4 i _ p1 p8 p9 r1 r2 HW.out p7 (HT.out.next HB1.out)).mono ?_
      rintro e w2 ⟨rfl, hb2⟩
      have HB2 := Lib.hid (bt0 HB1.out hb2 (Nat.le_refl _))
      clear hb2
      go_wp2_with fail
      go_ret2
      exact ⟨rfl, HB2.out⟩
    · have E1 : Hid (soS p x1 x2 x3 x4 i = ⟨#[]⟩) := Lib.hid (by unfold soS; rw [H1.out, h2]; rfl)
      have E2 : Hid (soC p x1 x2 x3 x4 i = 2) := Lib.hid (by unfold soC; rw [H1.out, h2]; rfl)
      have H2 := Lib.hid h2
      clear h2 p11
      rw [E1.out, E2.out]
      go_enter Tryd.func8, Tryd.ntmps8
      go_wp2_with fail
      refine (isBatch_val H1.out HP.out (HT.out.alloc _)).mono ?_
      rintro e w1 ⟨rfl, hb1⟩
      obtain ⟨hc, _⟩ := bcell hb1
      have HB1 := Lib.hid (bt1 hb1)
      clear hb1
      go_wp2_with (go_at_call 33; refine (inRange_val H2.out).mono ?_; rintro e w' ⟨rfl, rfl⟩)
      go_ret2
      exact ⟨rfl, HB1.out⟩
  · have E1 : Hid (soS p x1 x2 x3 x4 i = ⟨#[]⟩) := Lib.hid (by unfold soS; rw [h1]; rfl)
    have E2 : Hid (soC p x1 x2 x3 x4 i = 1) := Lib.hid (by unfold soC; rw [h1]; rfl)
    have H1 := Lib.hid h1
    clear h1
    rw [E1.out, E2.out]
    go_enter Tryd.func8, Tryd.ntmps8
    go_wp2_with fail
    refine (isBatch_val H1.out HP.out (HT.out.alloc _)).mono ?_
    rintro e w1 ⟨rfl, hb1⟩
    obtain ⟨hc, _⟩ := bcell hb1
    have HB1 := Lib.hid (bt1 hb1)
    clear hb1
    go_wp2_with fail
    go_ret2
    exact ⟨rfl, HB1.out⟩

set_option maxHeartbeats 1000000 in
theorem specSerialOf_any (p : ByteArray) (x1 x2 x3 x4 i : Int) (w : World) (hp : p.size ≤ maxLen) :
    Calls Tryd.prog 9 #[.agg #[.string p, .int .i64 x1, .int .i64 x2, .int .i64 x3, .int .i64 x4], .int .i64 i] w fun e w' => e = .returned (.tuple #[.string (soS p x1 x2 x3 x4 i), .int .i64 (soC p x1 x2 x3 x4 i)]) ∧ Below w.heap.size w w' := by
  have HP := Lib.hid hp
  clear hp
  rcases Bool.eq_false_or_eq_true (isBatchB p x1 x2 x3 x4) with h1 | h1
  · obtain ⟨p1, p2, p3, p4, p5, p6, p7, p8, p9, p10, p11⟩ := batch_parts h1
    have H1 := Lib.hid h1
    clear h1
    rcases Bool.eq_false_or_eq_true (inB i 0 (x3 - 1)) with h2 | h2
    · obtain ⟨i0, i1⟩ := inB_iff.1 h2
      obtain ⟨r1, r2, r3, r4⟩ := ser_bd p8 p2 p3 p5 p10 i0 (by omega : i < x3)
      have r5 := ser_width p8 p2 p3 p5 p10 p11 i0 (by omega : i < x3)
      have E1 : Hid (soS p x1 x2 x3 x4 i = serB p x1 x2 x4 i) := Lib.hid (by unfold soS; rw [H1.out, h2]; rfl)
      have E2 : Hid (soC p x1 x2 x3 x4 i = 0) := Lib.hid (by unfold soC; rw [H1.out, h2]; rfl)
      have H2 := Lib.hid h2
      have HW := Lib.hid r5
      clear h2 r5 p11
      rw [E1.out, E2.out]
      go_enter Tryd.func9, Tryd.ntmps9
      go_wp2_with fail
      refine (specIsBatch_val H1.out HP.out).mono ?_
      rintro e w1 ⟨rfl, hb1⟩
      obtain ⟨hc, _⟩ := bcell hb1
      have HB1 := Lib.hid (bt1 hb1)
      clear hb1
      go_wp2_with (go_at_call 35; refine (l01In_val H2.out).mono ?_; rintro e w' ⟨rfl, rfl⟩)
      refine (l31Serial_any p x1 x2 x3 x4 i _ p1 p8 p9 r1 r2 HW.out p7).mono ?_
      rintro e w2 ⟨rfl, hb2⟩
      have HB2 := Lib.hid (bt0 HB1.out hb2 (Nat.le_refl _))
      clear hb2
      go_wp2_with fail
      go_ret2
      exact ⟨rfl, HB2.out⟩
    · have E1 : Hid (soS p x1 x2 x3 x4 i = ⟨#[]⟩) := Lib.hid (by unfold soS; rw [H1.out, h2]; rfl)
      have E2 : Hid (soC p x1 x2 x3 x4 i = 2) := Lib.hid (by unfold soC; rw [H1.out, h2]; rfl)
      have H2 := Lib.hid h2
      clear h2 p11
      rw [E1.out, E2.out]
      go_enter Tryd.func9, Tryd.ntmps9
      go_wp2_with fail
      refine (specIsBatch_val H1.out HP.out).mono ?_
      rintro e w1 ⟨rfl, hb1⟩
      obtain ⟨hc, _⟩ := bcell hb1
      have HB1 := Lib.hid (bt1 hb1)
      clear hb1
      go_wp2_with (go_at_call 35; refine (l01In_val H2.out).mono ?_; rintro e w' ⟨rfl, rfl⟩)
      go_ret2
      exact ⟨rfl, HB1.out⟩
  · have E1 : Hid (soS p x1 x2 x3 x4 i = ⟨#[]⟩) := Lib.hid (by unfold soS; rw [h1]; rfl)
    have E2 : Hid (soC p x1 x2 x3 x4 i = 1) := Lib.hid (by unfold soC; rw [h1]; rfl)
    have H1 := Lib.hid h1
    clear h1
    rw [E1.out, E2.out]
    go_enter Tryd.func9, Tryd.ntmps9
    go_wp2_with fail
    refine (specIsBatch_val H1.out HP.out).mono ?_
    rintro e w1 ⟨rfl, hb1⟩
    obtain ⟨hc, _⟩ := bcell hb1
    have HB1 := Lib.hid (bt1 hb1)
    clear hb1
    go_wp2_with fail
    go_ret2
    exact ⟨rfl, HB1.out⟩

end Go.Proofs.YtnijdfdcjjbneaaDoor
