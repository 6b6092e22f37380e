import Derived.Test.YtpilkgcghlfdmaaGreatDoorVHarm
namespace Go.Proofs.YtpilkgcghlfdmaaGreatDoor
open Go.RowKit

theorem methodFine1 (r c t w g : Int) (n : Nat) (W : World) : (method (n + 1) 109 (.agg #[.int .i64 1, .int .i64 r, .int .i64 c, .int .i64 t, .int .i64 w, .int .i64 g]) "loop.example/g00879/impl.fine").run Tryz.prog W = .ok (186, (.agg #[.int .i64 1, .int .i64 r, .int .i64 c, .int .i64 t, .int .i64 w, .int .i64 g])) W := by kernel_rfl
theorem blotFine_val {k r c t w g : Int} {b : Bool} {W : World} (hk : k = 1) (h : fineB k r c t w = b) : Calls Tryz.prog 186 #[(.agg #[.int .i64 k, .int .i64 r, .int .i64 c, .int .i64 t, .int .i64 w, .int .i64 g])] W fun e W' => e = .returned (.bool b) ∧ Below W.heap.size W W' := by
  subst hk
  rw [fine1] at h
  exact h ▸ blotFine_any 1 r c t w g W
set_option maxRecDepth 100000 in
set_option maxHeartbeats 1000000 in
theorem isDamage1 (r c t w g : Int) (W : World) : Calls Tryz.prog 49 #[(.agg #[.int .i64 1, .int .i64 r, .int .i64 c, .int .i64 t, .int .i64 w, .int .i64 g])] W fun e W' => e = .returned (.bool (dmOk 1 r c t w g)) ∧ Below W.heap.size W W' := by
  have hm := methodFine1 r c t w g
  rcases Bool.eq_false_or_eq_true (fineB 1 r c t w) with h1 | h1
  · rcases Bool.eq_false_or_eq_true (inB g 0 255) with h2 | h2
    all_goals
      have e : dmOk 1 r c t w g = inB g 0 255 := by rw [dmOk, h1]; rfl
      rw [h2] at e
      rw [e]
      clear e
      have H1 := Lib.hid h1
      have H2 := Lib.hid h2
      clear h1 h2
      go_enter Tryz.func49, Tryz.ntmps49
      go_wp2_with fail
      refine (harm1 _ _ _ _ _ _).mono ?_
      rintro e w1 ⟨rfl, hb1⟩
      have hA := box1 hb1
      have HB1 := Lib.hid (bt1 hb1)
      clear hb1
      go_wp2_with fail
      refine (blotFine_val rfl H1.out).mono ?_
      rintro e w2 ⟨rfl, hb2⟩
      replace hA := boxK hb2 hA (by simp)
      have HB2 := Lib.hid (bt0 HB1.out hb2 (Nat.le_refl _))
      clear hb2
      go_wp2_with fail
      refine (inRange_val H2.out).mono ?_
      rintro e w3 ⟨rfl, rfl⟩
      go_wp2_with fail
      go_ret
      exact ⟨rfl, HB2.out⟩
  · have e : dmOk 1 r c t w g = false := by rw [dmOk, h1]; rfl
    rw [e]
    clear e
    have H1 := Lib.hid h1
    clear h1
    go_enter Tryz.func49, Tryz.ntmps49
    go_wp2_with fail
    refine (harm1 _ _ _ _ _ _).mono ?_
    rintro e w1 ⟨rfl, hb1⟩
    have HB1 := Lib.hid (bt1 hb1)
    clear hb1
    go_wp2_with fail
    refine (blotFine_val rfl H1.out).mono ?_
    rintro e w2 ⟨rfl, hb2⟩
    have HB2 := Lib.hid (bt0 HB1.out hb2 (Nat.le_refl _))
    clear hb2
    go_wp2_with fail
    go_ret
    exact ⟨rfl, HB2.out⟩

theorem methodFine2 (r c t w g : Int) (n : Nat) (W : World) : (method (n + 1) 110 (.agg #[.int .i64 2, .int .i64 r, .int .i64 c, .int .i64 t, .int .i64 w, .int .i64 g]) "loop.example/g00879/impl.fine").run Tryz.prog W = .ok (190, (.agg #[.int .i64 2, .int .i64 r, .int .i64 c, .int .i64 t, .int .i64 w, .int .i64 g])) W := by kernel_rfl
theorem scratchFine_val {k r c t w g : Int} {b : Bool} {W : World} (hk : k = 2) (h : fineB k r c t w = b) : Calls Tryz.prog 190 #[(.agg #[.int .i64 k, .int .i64 r, .int .i64 c, .int .i64 t, .int .i64 w, .int .i64 g])] W fun e W' => e = .returned (.bool b) ∧ Below W.heap.size W W' := by
  subst hk
  rw [fine2] at h
  exact h ▸ scratchFine_any 2 r c t w g W
set_option maxRecDepth 100000 in
set_option maxHeartbeats 1000000 in
theorem isDamage2 (r c t w g : Int) (W : World) : Calls Tryz.prog 49 #[(.agg #[.int .i64 2, .int .i64 r, .int .i64 c, .int .i64 t, .int .i64 w, .int .i64 g])] W fun e W' => e = .returned (.bool (dmOk 2 r c t w g)) ∧ Below W.heap.size W W' := by
  have hm := methodFine2 r c t w g
  rcases Bool.eq_false_or_eq_true (fineB 2 r c t w) with h1 | h1
  · rcases Bool.eq_false_or_eq_true (inB g 0 255) with h2 | h2
    all_goals
      have e : dmOk 2 r c t w g = inB g 0 255 := by rw [dmOk, h1]; rfl
      rw [h2] at e
      rw [e]
      clear e
      have H1 := Lib.hid h1
      have H2 := Lib.hid h2
      clear h1 h2
      go_enter Tryz.func49, Tryz.ntmps49
      go_wp2_with fail
      refine (harm2 _ _ _ _ _ _).mono ?_
      rintro e w1 ⟨rfl, hb1⟩
      have hA := box1 hb1
      have HB1 := Lib.hid (bt1 hb1)
      clear hb1
      go_wp2_with fail
      refine (scratchFine_val rfl H1.out).mono ?_
      rintro e w2 ⟨rfl, hb2⟩
      replace hA := boxK hb2 hA (by simp)
      have HB2 := Lib.hid (bt0 HB1.out hb2 (Nat.le_refl _))
      clear hb2
      go_wp2_with fail
      refine (inRange_val H2.out).mono ?_
      rintro e w3 ⟨rfl, rfl⟩
      go_wp2_with fail
      go_ret
      exact ⟨rfl, HB2.out⟩
  · have e : dmOk 2 r c t w g = false := by rw [dmOk, h1]; rfl
    rw [e]
    clear e
    have H1 := Lib.hid h1
    clear h1
    go_enter Tryz.func49, Tryz.ntmps49
    go_wp2_with fail
    refine (harm2 _ _ _ _ _ _).mono ?_
    rintro e w1 ⟨rfl, hb1⟩
    have HB1 := Lib.hid (bt1 hb1)
    clear hb1
    go_wp2_with fail
    refine (scratchFine_val rfl H1.out).mono ?_
    rintro e w2 ⟨rfl, hb2⟩
    have HB2 := Lib.hid (bt0 HB1.out hb2 (Nat.le_refl _))
    clear hb2
    go_wp2_with fail
    go_ret
    exact ⟨rfl, HB2.out⟩

theorem methodFine3 (r c t w g : Int) (n : Nat) (W : World) : (method (n + 1) 111 (.agg #[.int .i64 3, .int .i64 r, .int .i64 c, .int .i64 t, .int .i64 w, .int .i64 g]) "loop.example/g00879/impl.fine").run Tryz.prog W = .ok (194, (.agg #[.int .i64 3, .int .i64 r, .int .i64 c, .int .i64 t, .int .i64 w, .int .i64 g])) W := by kernel_rfl
theorem skewFine_val {k r c t w g : Int} {b : Bool} {W : World} (hk : k = 3) (h : fineB k r c t w = b) : Calls Tryz.prog 194 #[(.agg #[.int .i64 k, .int .i64 r, .int .i64 c, .int .i64 t, .int .i64 w, .int .i64 g])] W fun e W' => e = .returned (.bool b) ∧ Below W.heap.size W W' := by
  subst hk
  rw [fine3] at h
  exact h ▸ skewFine_any 3 r c t w g W
set_option maxRecDepth 100000 in
set_option maxHeartbeats 1000000 in
theorem isDamage3 (r c t w g : Int) (W : World) : Calls Tryz.prog 49 #[(.agg #[.int .i64 3, .int .i64 r, .int .i64 c, .int .i64 t, .int .i64 w, .int .i64 g])] W fun e W' => e = .returned (.bool (dmOk 3 r c t w g)) ∧ Below W.heap.size W W' := by
  have hm := methodFine3 r c t w g
  rcases Bool.eq_false_or_eq_true (fineB 3 r c t w) with h1 | h1
  · rcases Bool.eq_false_or_eq_true (inB g 0 255) with h2 | h2
    all_goals
      have e : dmOk 3 r c t w g = inB g 0 255 := by rw [dmOk, h1]; rfl
      rw [h2] at e
      rw [e]
      clear e
      have H1 := Lib.hid h1
      have H2 := Lib.hid h2
      clear h1 h2
      go_enter Tryz.func49, Tryz.ntmps49
      go_wp2_with fail
      refine (harm3 _ _ _ _ _ _).mono ?_
      rintro e w1 ⟨rfl, hb1⟩
      have hA := box1 hb1
      have HB1 := Lib.hid (bt1 hb1)
      clear hb1
      go_wp2_with fail
      refine (skewFine_val rfl H1.out).mono ?_
      rintro e w2 ⟨rfl, hb2⟩
      replace hA := boxK hb2 hA (by simp)
      have HB2 := Lib.hid (bt0 HB1.out hb2 (Nat.le_refl _))
      clear hb2
      go_wp2_with fail
      refine (inRange_val H2.out).mono ?_
      rintro e w3 ⟨rfl, rfl⟩
      go_wp2_with fail
      go_ret
      exact ⟨rfl, HB2.out⟩
  · have e : dmOk 3 r c t w g = false := by rw [dmOk, h1]; rfl
    rw [e]
    clear e
    have H1 := Lib.hid h1
    clear h1
    go_enter Tryz.func49, Tryz.ntmps49
    go_wp2_with fail
    refine (harm3 _ _ _ _ _ _).mono ?_
    rintro e w1 ⟨rfl, hb1⟩
    have HB1 := Lib.hid (bt1 hb1)
    clear hb1
    go_wp2_with fail
    refine (skewFine_val rfl H1.out).mono ?_
    rintro e w2 ⟨rfl, hb2⟩
    have HB2 := Lib.hid (bt0 HB1.out hb2 (Nat.le_refl _))
    clear hb2
    go_wp2_with fail
    go_ret
    exact ⟨rfl, HB2.out⟩

theorem methodFine4 (r c t w g : Int) (n : Nat) (W : World) : (method (n + 1) 112 (.agg #[.int .i64 4, .int .i64 r, .int .i64 c, .int .i64 t, .int .i64 w, .int .i64 g]) "loop.example/g00879/impl.fine").run Tryz.prog W = .ok (198, (.agg #[.int .i64 4, .int .i64 r, .int .i64 c, .int .i64 t, .int .i64 w, .int .i64 g])) W := by kernel_rfl
theorem noiseFine_val {k r c t w g : Int} {b : Bool} {W : World} (hk : k = 4) (h : fineB k r c t w = b) : Calls Tryz.prog 198 #[(.agg #[.int .i64 k, .int .i64 r, .int .i64 c, .int .i64 t, .int .i64 w, .int .i64 g])] W fun e W' => e = .returned (.bool b) ∧ Below W.heap.size W W' := by
  subst hk
  rw [fine4] at h
  exact h ▸ noiseFine_any 4 r c t w g W
set_option maxRecDepth 100000 in
set_option maxHeartbeats 1000000 in
theorem isDamage4 (r c t w g : Int) (W : World) : Calls Tryz.prog 49 #[(.agg #[.int .i64 4, .int .i64 r, .int .i64 c, .int .i64 t, .int .i64 w, .int .i64 g])] W fun e W' => e = .returned (.bool (dmOk 4 r c t w g)) ∧ Below W.heap.size W W' := by
  have hm := methodFine4 r c t w g
  rcases Bool.eq_false_or_eq_true (fineB 4 r c t w) with h1 | h1
  · rcases Bool.eq_false_or_eq_true (inB g 0 255) with h2 | h2
    all_goals
      have e : dmOk 4 r c t w g = inB g 0 255 := by rw [dmOk, h1]; rfl
      rw [h2] at e
      rw [e]
      clear e
      have H1 := Lib.hid h1
      have H2 := Lib.hid h2
      clear h1 h2
      go_enter Tryz.func49, Tryz.ntmps49
      go_wp2_with fail
      refine (harm4 _ _ _ _ _ _).mono ?_
      rintro e w1 ⟨rfl, hb1⟩
      have hA := box1 hb1
      have HB1 := Lib.hid (bt1 hb1)
      clear hb1
      go_wp2_with fail
      refine (noiseFine_val rfl H1.out).mono ?_
      rintro e w2 ⟨rfl, hb2⟩
      replace hA := boxK hb2 hA (by simp)
      have HB2 := Lib.hid (bt0 HB1.out hb2 (Nat.le_refl _))
      clear hb2
      go_wp2_with fail
      refine (inRange_val H2.out).mono ?_
      rintro e w3 ⟨rfl, rfl⟩
      go_wp2_with fail
      go_ret
      exact ⟨rfl, HB2.out⟩
  · have e : dmOk 4 r c t w g = false := by rw [dmOk, h1]; rfl
    rw [e]
    clear e
    have H1 := Lib.hid h1
    clear h1
    go_enter Tryz.func49, Tryz.ntmps49
    go_wp2_with fail
    refine (harm4 _ _ _ _ _ _).mono ?_
    rintro e w1 ⟨rfl, hb1⟩
    have HB1 := Lib.hid (bt1 hb1)
    clear hb1
    go_wp2_with fail
    refine (noiseFine_val rfl H1.out).mono ?_
    rintro e w2 ⟨rfl, hb2⟩
    have HB2 := Lib.hid (bt0 HB1.out hb2 (Nat.le_refl _))
    clear hb2
    go_wp2_with fail
    go_ret
    exact ⟨rfl, HB2.out⟩

theorem methodFine5 (r c t w g : Int) (n : Nat) (W : World) : (method (n + 1) 113 (.agg #[.int .i64 5, .int .i64 r, .int .i64 c, .int .i64 t, .int .i64 w, .int .i64 g]) "loop.example/g00879/impl.fine").run Tryz.prog W = .ok (202, (.agg #[.int .i64 5, .int .i64 r, .int .i64 c, .int .i64 t, .int .i64 w, .int .i64 g])) W := by kernel_rfl
theorem fadeFine_val {k r c t w g : Int} {b : Bool} {W : World} (hk : k = 5) (h : fineB k r c t w = b) : Calls Tryz.prog 202 #[(.agg #[.int .i64 k, .int .i64 r, .int .i64 c, .int .i64 t, .int .i64 w, .int .i64 g])] W fun e W' => e = .returned (.bool b) ∧ Below W.heap.size W W' := by
  subst hk
  rw [fine5] at h
  exact h ▸ fadeFine_any 5 r c t w g W
set_option maxRecDepth 100000 in
set_option maxHeartbeats 1000000 in
theorem isDamage5 (r c t w g : Int) (W : World) : Calls Tryz.prog 49 #[(.agg #[.int .i64 5, .int .i64 r, .int .i64 c, .int .i64 t, .int .i64 w, .int .i64 g])] W fun e W' => e = .returned (.bool (dmOk 5 r c t w g)) ∧ Below W.heap.size W W' := by
  have hm := methodFine5 r c t w g
  rcases Bool.eq_false_or_eq_true (fineB 5 r c t w) with h1 | h1
  · rcases Bool.eq_false_or_eq_true (inB g 0 255) with h2 | h2
    all_goals
      have e : dmOk 5 r c t w g = inB g 0 255 := by rw [dmOk, h1]; rfl
      rw [h2] at e
      rw [e]
      clear e
      have H1 := Lib.hid h1
      have H2 := Lib.hid h2
      clear h1 h2
      go_enter Tryz.func49, Tryz.ntmps49
      go_wp2_with fail
      refine (harm5 _ _ _ _ _ _).mono ?_
      rintro e w1 ⟨rfl, hb1⟩
      have hA := box1 hb1
      have HB1 := Lib.hid (bt1 hb1)
      clear hb1
      go_wp2_with fail
      refine (fadeFine_val rfl H1.out).mono ?_
      rintro e w2 ⟨rfl, hb2⟩
      replace hA := boxK hb2 hA (by simp)
      have HB2 := Lib.hid (bt0 HB1.out hb2 (Nat.le_refl _))
      clear hb2
      go_wp2_with fail
      refine (inRange_val H2.out).mono ?_
      rintro e w3 ⟨rfl, rfl⟩
      go_wp2_with fail
      go_ret
      exact ⟨rfl, HB2.out⟩
  · have e : dmOk 5 r c t w g = false := by rw [dmOk, h1]; rfl
    rw [e]
    clear e
    have H1 := Lib.hid h1
    clear h1
    go_enter Tryz.func49, Tryz.ntmps49
    go_wp2_with fail
    refine (harm5 _ _ _ _ _ _).mono ?_
    rintro e w1 ⟨rfl, hb1⟩
    have HB1 := Lib.hid (bt1 hb1)
    clear hb1
    go_wp2_with fail
    refine (fadeFine_val rfl H1.out).mono ?_
    rintro e w2 ⟨rfl, hb2⟩
    have HB2 := Lib.hid (bt0 HB1.out hb2 (Nat.le_refl _))
    clear hb2
    go_wp2_with fail
    go_ret
    exact ⟨rfl, HB2.out⟩

set_option maxRecDepth 100000 in
set_option maxHeartbeats 1000000 in
theorem isDamage0 (k r c t w g : Int) (W : World) (h : k < 1 ∨ 5 < k) : Calls Tryz.prog 49 #[(.agg #[.int .i64 k, .int .i64 r, .int .i64 c, .int .i64 t, .int .i64 w, .int .i64 g])] W fun e W' => e = .returned (.bool (dmOk k r c t w g)) ∧ Below W.heap.size W W' := by
  have e : dmOk k r c t w g = false := by rw [dmOk, fine0 h]; rfl
  rw [e]
  clear e
  have H := Lib.hid h
  clear h
  go_enter Tryz.func49, Tryz.ntmps49
  go_wp2_with fail
  refine (harm0 _ _ _ _ _ _ _ H.out).mono ?_
  rintro e w1 ⟨rfl, hb1⟩
  have HB1 := Lib.hid (bt1 hb1)
  clear hb1
  go_wp2_with fail
  go_ret
  exact ⟨rfl, HB1.out⟩

theorem isDamage_any (k r c t w g : Int) (W : World) : Calls Tryz.prog 49 #[(.agg #[.int .i64 k, .int .i64 r, .int .i64 c, .int .i64 t, .int .i64 w, .int .i64 g])] W fun e W' => e = .returned (.bool (dmOk k r c t w g)) ∧ Below W.heap.size W W' := by
  rcases five_or k with rfl | rfl | rfl | rfl | rfl | h
  · exact isDamage1 _ _ _ _ _ _
  · exact isDamage2 _ _ _ _ _ _
  · exact isDamage3 _ _ _ _ _ _
  · exact isDamage4 _ _ _ _ _ _
  · exact isDamage5 _ _ _ _ _ _
  · exact isDamage0 _ _ _ _ _ _ _ h
theorem isDamage_val {k r c t w g : Int} {b : Bool} {W : World} (h : dmOk k r c t w g = b) : Calls Tryz.prog 49 #[(.agg #[.int .i64 k, .int .i64 r, .int .i64 c, .int .i64 t, .int .i64 w, .int .i64 g])] W fun e W' => e = .returned (.bool b) ∧ Below W.heap.size W W' := h ▸ isDamage_any k r c t w g W

end Go.Proofs.YtpilkgcghlfdmaaGreatDoor
