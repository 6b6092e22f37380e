import Derived.Test.YtlcglclojlffgaaGreatDoorVBoxS
namespace Go.Proofs.YtlcglclojlffgaaGreatDoor
open Go.RowKit

theorem thing1 (x : It) (hk : x.kind = 1) (w : World) :
    Calls Tryz.prog 48 #[itV x] w fun e w' => e = .returned (.tuple #[.iface 111 (itV x), .bool true]) ∧ Below w.heap.size w w' := by
  obtain ⟨kd, row, col, sc, tall, wide, nm, lev, tx⟩ := x
  dsimp only at hk
  subst hk
  go_enter Tryz.func48, Tryz.ntmps48
  go_wp2_with fail
  go_ret2
  exact ⟨rfl, ba1 _ _⟩
theorem thing2 (x : It) (hk : x.kind = 2) (w : World) :
    Calls Tryz.prog 48 #[itV x] w fun e w' => e = .returned (.tuple #[.iface 112 (itV x), .bool true]) ∧ Below w.heap.size w w' := by
  obtain ⟨kd, row, col, sc, tall, wide, nm, lev, tx⟩ := x
  dsimp only at hk
  subst hk
  go_enter Tryz.func48, Tryz.ntmps48
  go_wp2_with fail
  go_ret2
  exact ⟨rfl, ba1 _ _⟩
theorem thing3 (x : It) (hk : x.kind = 3) (w : World) :
    Calls Tryz.prog 48 #[itV x] w fun e w' => e = .returned (.tuple #[.iface 113 (itV x), .bool true]) ∧ Below w.heap.size w w' := by
  obtain ⟨kd, row, col, sc, tall, wide, nm, lev, tx⟩ := x
  dsimp only at hk
  subst hk
  go_enter Tryz.func48, Tryz.ntmps48
  go_wp2_with fail
  go_ret2
  exact ⟨rfl, ba1 _ _⟩
theorem thing0 (x : It) (h1 : x.kind ≠ 1) (h2 : x.kind ≠ 2) (h3 : x.kind ≠ 3) (w : World) :
    Calls Tryz.prog 48 #[itV x] w fun e w' => e = .returned (.tuple #[.iface 112 (itV x), .bool false]) ∧ Below w.heap.size w w' := by
  obtain ⟨kd, row, col, sc, tall, wide, nm, lev, tx⟩ := x
  dsimp only at h1 h2 h3
  have h1b : (kd == 1) = false := by rw [beq_eq_false_iff_ne]; exact h1
  have h2b : (kd == 2) = false := by rw [beq_eq_false_iff_ne]; exact h2
  have h3b : (kd == 3) = false := by rw [beq_eq_false_iff_ne]; exact h3
  go_enter Tryz.func48, Tryz.ntmps48
  go_wp2_with fail
  go_ret2
  exact ⟨rfl, ba1 _ _⟩
theorem methBox1 (kd row col sc tall wide : Int) (nm : ByteArray) (lev : Int) (tx : ByteArray) (n : Nat) (W : World) : (method (n + 1) 111 (.agg #[.int .i64 kd, .int .i64 row, .int .i64 col, .int .i64 sc, .int .i64 tall, .int .i64 wide, .string nm, .int .i64 lev, .string tx]) "loop.example/g00879/impl.box").run Tryz.prog W = .ok (163, (.agg #[.int .i64 kd, .int .i64 row, .int .i64 col, .int .i64 sc, .int .i64 tall, .int .i64 wide, .string nm, .int .i64 lev, .string tx])) W := by kernel_rfl
theorem methBox2 (kd row col sc tall wide : Int) (nm : ByteArray) (lev : Int) (tx : ByteArray) (n : Nat) (W : World) : (method (n + 1) 112 (.agg #[.int .i64 kd, .int .i64 row, .int .i64 col, .int .i64 sc, .int .i64 tall, .int .i64 wide, .string nm, .int .i64 lev, .string tx]) "loop.example/g00879/impl.box").run Tryz.prog W = .ok (167, (.agg #[.int .i64 kd, .int .i64 row, .int .i64 col, .int .i64 sc, .int .i64 tall, .int .i64 wide, .string nm, .int .i64 lev, .string tx])) W := by kernel_rfl
theorem methBox3 (kd row col sc tall wide : Int) (nm : ByteArray) (lev : Int) (tx : ByteArray) (n : Nat) (W : World) : (method (n + 1) 113 (.agg #[.int .i64 kd, .int .i64 row, .int .i64 col, .int .i64 sc, .int .i64 tall, .int .i64 wide, .string nm, .int .i64 lev, .string tx]) "loop.example/g00879/impl.box").run Tryz.prog W = .ok (170, (.agg #[.int .i64 kd, .int .i64 row, .int .i64 col, .int .i64 sc, .int .i64 tall, .int .i64 wide, .string nm, .int .i64 lev, .string tx])) W := by kernel_rfl
theorem boxI_bad {x : It} (h1 : x.kind ≠ 1) (h2 : x.kind ≠ 2) (h3 : x.kind ≠ 3) : boxI x = none := by rw [boxI, if_neg h1, if_neg h2, if_neg h3]

set_option maxRecDepth 100000 in
set_option maxHeartbeats 4000000 in
theorem itemBox_any (x : It) (hs : x.text.size ≤ 1048576) (w : World) :
    Calls Tryz.prog 56 #[itV x] w (RetBx w (boxI x)) := by
  have HT1 := Lib.hid (fun h w => thing1 x h w)
  have HT2 := Lib.hid (fun h w => thing2 x h w)
  have HT3 := Lib.hid (fun h w => thing3 x h w)
  have HT0 := Lib.hid (fun h1 h2 h3 w => thing0 x h1 h2 h3 w)
  have HX1 := Lib.hid (fun h w => textBox_any x w h)
  have HX2 := Lib.hid (fun h w => lineBox_any x w h)
  have HX3 := Lib.hid (fun h w => symbolBox_any x w h hs)
  have HX0 := Lib.hid (fun h1 h2 h3 => boxI_bad (x := x) h1 h2 h3)
  obtain ⟨O, hO⟩ : ∃ O, O = boxI x := ⟨_, rfl⟩
  rw [← hO] at HX1 HX2 HX3 HX0 ⊢
  clear hO
  obtain ⟨kd, row, col, sc, tall, wide, nm, lev, tx⟩ := x
  dsimp only at hs HT1 HT2 HT3 HT0 HX1 HX2 HX3 HX0 ⊢
  unfold itV at *
  have HB := Lib.hid (ba1 w (.cells #[.int .i64 kd, .int .i64 row, .int .i64 col, .int .i64 sc, .int .i64 tall, .int .i64 wide, .string nm, .int .i64 lev, .string tx] 49 (0, 0)))
  go_enter Tryz.func56, Tryz.ntmps56
  go_wp2_with fail
  by_cases h1 : kd = 1
  · subst h1
    refine (HT1.out rfl _).mono ?_
    rintro e w1 ⟨rfl, hb1⟩
    have HB1 := Lib.hid (bt0 HB.out hb1 (Nat.le_refl _))
    have hm := methBox1 1 row col sc tall wide nm lev tx
    clear hb1
    go_wp2_with fail
    refine (HX1.out (by first | trivial | rfl) _).mono ?_
    rintro e w2 ⟨hb2, hr⟩
    have HB2 := Lib.hid (bt0 HB1.out hb2 (Nat.le_refl _))
    clear hb2
    rcases hr with ⟨r, c, hr, rfl⟩ | ⟨hr, rfl⟩
    · have HR := Lib.hid hr
      go_wp2_with fail
      exact bodyPost_ret (v := .tuple #[.int .i64 r, .int .i64 c, .bool true]) (by simp [results, Tryz.results56, go_sem]) rfl ⟨HB2.out, .inl ⟨_, _, HR.out, rfl⟩⟩
    · have HR := Lib.hid hr
      go_wp2_with fail
      exact bodyPost_ret (v := .tuple #[.int .i64 0, .int .i64 0, .bool false]) (by simp [results, Tryz.results56, go_sem]) rfl ⟨HB2.out, .inr ⟨HR.out, rfl⟩⟩
  by_cases h2 : kd = 2
  · subst h2
    refine (HT2.out rfl _).mono ?_
    rintro e w1 ⟨rfl, hb1⟩
    have HB1 := Lib.hid (bt0 HB.out hb1 (Nat.le_refl _))
    have hm := methBox2 2 row col sc tall wide nm lev tx
    clear hb1
    go_wp2_with fail
    refine (HX2.out (by first | trivial | rfl) _).mono ?_
    rintro e w2 ⟨hb2, hr⟩
    have HB2 := Lib.hid (bt0 HB1.out hb2 (Nat.le_refl _))
    clear hb2
    rcases hr with ⟨r, c, hr, rfl⟩ | ⟨hr, rfl⟩
    · have HR := Lib.hid hr
      go_wp2_with fail
      exact bodyPost_ret (v := .tuple #[.int .i64 r, .int .i64 c, .bool true]) (by simp [results, Tryz.results56, go_sem]) rfl ⟨HB2.out, .inl ⟨_, _, HR.out, rfl⟩⟩
    · have HR := Lib.hid hr
      go_wp2_with fail
      exact bodyPost_ret (v := .tuple #[.int .i64 0, .int .i64 0, .bool false]) (by simp [results, Tryz.results56, go_sem]) rfl ⟨HB2.out, .inr ⟨HR.out, rfl⟩⟩
  by_cases h3 : kd = 3
  · subst h3
    refine (HT3.out rfl _).mono ?_
    rintro e w1 ⟨rfl, hb1⟩
    have HB1 := Lib.hid (bt0 HB.out hb1 (Nat.le_refl _))
    have hm := methBox3 3 row col sc tall wide nm lev tx
    clear hb1
    go_wp2_with fail
    refine (HX3.out (by first | trivial | rfl) _).mono ?_
    rintro e w2 ⟨hb2, hr⟩
    have HB2 := Lib.hid (bt0 HB1.out hb2 (Nat.le_refl _))
    clear hb2
    rcases hr with ⟨r, c, hr, rfl⟩ | ⟨hr, rfl⟩
    · have HR := Lib.hid hr
      go_wp2_with fail
      exact bodyPost_ret (v := .tuple #[.int .i64 r, .int .i64 c, .bool true]) (by simp [results, Tryz.results56, go_sem]) rfl ⟨HB2.out, .inl ⟨_, _, HR.out, rfl⟩⟩
    · have HR := Lib.hid hr
      go_wp2_with fail
      exact bodyPost_ret (v := .tuple #[.int .i64 0, .int .i64 0, .bool false]) (by simp [results, Tryz.results56, go_sem]) rfl ⟨HB2.out, .inr ⟨HR.out, rfl⟩⟩
  · refine (HT0.out h1 h2 h3 _).mono ?_
    rintro e w1 ⟨rfl, hb1⟩
    have HB1 := Lib.hid (bt0 HB.out hb1 (Nat.le_refl _))
    have HR := Lib.hid (HX0.out h1 h2 h3)
    clear hb1
    go_wp2_with fail
    exact bodyPost_ret (v := .tuple #[.int .i64 0, .int .i64 0, .bool false]) (by simp [results, Tryz.results56, go_sem]) rfl ⟨HB1.out, .inr ⟨HR.out, rfl⟩⟩

end Go.Proofs.YtlcglclojlffgaaGreatDoor
