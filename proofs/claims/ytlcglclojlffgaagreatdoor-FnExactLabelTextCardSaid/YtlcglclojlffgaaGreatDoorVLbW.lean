import Derived.Test.YtlcglclojlffgaaGreatDoorVLblI
namespace Go.Proofs.YtlcglclojlffgaaGreatDoor
open Go.RowKit

/-- what is left of a bound behind texts -/
def RetLeft (l : Int) (big : Prop) (w : World) (e : Ending) (w' : World) : Prop := (∃ r, e = .returned (.int .i64 r) ∧ (-1 ≤ r ∧ r ≤ l) ∧ (0 ≤ r → big)) ∧ Below w.heap.size w w'
set_option maxRecDepth 100000 in
set_option maxHeartbeats 1000000 in
theorem szItem_any (x : It) (l : Int) (w : World) (h0 : 0 ≤ l) (hl : l ≤ 1048576) (hn : x.name.size ≤ maxLen) (ht : x.text.size ≤ maxLen) :
    Calls Tryz.prog 42 #[itV x, .int .i64 l] w (RetLeft l (x.name.size ≤ 1048576 ∧ x.text.size ≤ 1048576) w) := by
  obtain ⟨kd, row, col, sc, tall, wide, nm, lev, tx⟩ := x
  dsimp only at hn ht ⊢
  unfold maxLen at hn ht
  have HB0 := Lib.hid (ba1 w (.cells #[.int .i64 kd, .int .i64 row, .int .i64 col, .int .i64 sc, .int .i64 tall, .int .i64 wide, .string nm, .int .i64 lev, .string tx] 76 (0, 0)))
  by_cases h1 : l - (nm.size : Int) < 0
  · go_enter Tryz.func42, Tryz.ntmps42
    go_wp2_with fail
    go_ret
    exact ⟨⟨-1, rfl, by omega, fun h => by omega⟩, HB0.out⟩
  · by_cases h2 : l - (nm.size : Int) - (tx.size : Int) < 0
    · go_enter Tryz.func42, Tryz.ntmps42
      go_wp2_with fail
      go_ret
      exact ⟨⟨-1, rfl, by omega, fun h => by omega⟩, HB0.out⟩
    · go_enter Tryz.func42, Tryz.ntmps42
      go_wp2_with fail
      go_ret
      exact ⟨⟨l - nm.size - tx.size, rfl, by omega, fun h => by omega⟩, HB0.out⟩
/-- the bounds of a label's texts -/
def LbSz (items : List It) : Prop := items.length ≤ 1048576 ∧ ∀ x ∈ items, x.name.size ≤ 1048576 ∧ x.text.size ≤ 1048576
set_option maxRecDepth 100000 in
set_option maxHeartbeats 2000000 in
theorem szItemS_any (a : Option Addr) (items : List It) (c : Nat) (w : World) (hx : itE.At w a items) (hl : items.length ≤ maxLen) (hs : ∀ x ∈ items, x.name.size ≤ maxLen ∧ x.text.size ≤ maxLen) :
    Calls Tryz.prog 20 #[.slice a items.length c, .int .i64 1048576] w (RetLeft 1048576 (LbSz items) w) := by
  have HX := Lib.hid hx
  have HS := Lib.hid hs
  unfold maxLen at hl
  clear hx hs
  by_cases h1 : (1048576 : Int) - (items.length : Int) < 0
  · go_enter Tryz.func20, Tryz.ntmps20
    go_wp2_with fail
    go_ret
    exact ⟨⟨-1, rfl, by omega, fun h => by omega⟩, Below.refl _ _⟩
  · go_enter Tryz.func20, Tryz.ntmps20
    go_wp2_with fail
    go_loopw [1, 5] (fun q i wr => ∃ (k : Nat) (r : Int), k ≤ items.length ∧ i = .int .i64 (k : Int) ∧ q = .int .i64 r ∧ (0 ≤ r ∧ r ≤ 1048576) ∧ (∀ x ∈ items.take k, x.name.size ≤ 1048576 ∧ x.text.size ≤ 1048576) ∧ Below w.heap.size w wr) (fun _ i _ => items.length - (intOf i).toNat)
    case atStart => exact ⟨0, _, Nat.zero_le _, rfl, rfl, by omega, by simp, Below.refl _ _⟩
    case round =>
      obtain ⟨k, r, hk, rfl, rfl, hr, hall, hbr⟩ := hrel
      have HA := Lib.hid hall
      have HBR := Lib.hid hbr
      clear hall hbr
      by_cases hlt : k < items.length
      · have hki : (k : Int) < (items.length : Int) := by omega
        obtain ⟨x, hx⟩ : ∃ x, items[k]? = some x := by rw [List.getElem?_eq_getElem hlt]; exact ⟨_, rfl⟩
        have HXK := Lib.hid hx
        have hsx := HS.out x (List.mem_of_getElem? hx)
        have HZ := Lib.hid (fun w => szItem_any x r w hr.1 hr.2 hsx.1 hsx.2)
        obtain ⟨b, o, rfl, hbl, y0, y1, y2, y3, y4, y5, y6, y7, y8⟩ := it_at (HX.out.below HBR.out) hx
        clear hx hsx
        obtain ⟨kd, row, col, sc, tall, wide, nm, lev, tx⟩ := x
        dsimp only at y0 y1 y2 y3 y4 y5 y6 y7 y8 HZ
        unfold itV at HZ
        dsimp only at HZ
        go_wp2_with fail
        refine (HZ.out _).mono ?_
        rintro e w2 ⟨⟨r2, rfl, hr2, hbig⟩, hb2⟩
        have HB2 := Lib.hid (bt0 HBR.out hb2 (Nat.le_refl _))
        have HBG := Lib.hid hbig
        clear hb2 hbig y0 y1 y2 y3 y4 y5 y6 y7 y8
        by_cases h0 : r2 < 0
        · go_wp2_with fail
          go_ret
          exact ⟨⟨-1, rfl, by omega, fun h => by omega⟩, HB2.out⟩
        · go_wp2_with fail
          refine ⟨⟨k + 1, r2, by omega, by go_num, rfl, by omega, ?_, HB2.out⟩, by simp [intOf]; omega⟩
          intro x hx
          rw [take_snoc' HXK.out, List.mem_append, List.mem_singleton] at hx
          rcases hx with hx | rfl
          · exact HA.out x hx
          · exact HBG.out (by omega)
      · have hki : ¬ (k : Int) < (items.length : Int) := by omega
        have HA2 := Lib.hid (show ∀ x ∈ items, x.name.size ≤ 1048576 ∧ x.text.size ≤ 1048576 by have h := HA.out; rwa [List.take_of_length_le (by omega)] at h)
        go_wp2_with fail
        go_ret
        exact ⟨⟨r, rfl, by omega, fun _ => ⟨by omega, HA2.out⟩⟩, HBR.out⟩
set_option maxRecDepth 100000 in
theorem szLabel_any (l : Lb) (a : Option Addr) (c : Nat) (w : World) (hx : itE.At w a l.items) (hl : l.items.length ≤ maxLen) (hs : ∀ x ∈ l.items, x.name.size ≤ maxLen ∧ x.text.size ≤ maxLen) :
    Calls Tryz.prog 6 #[lbV l a c, .int .i64 1048576] w (RetLeft 1048576 (LbSz l.items) w) := by
  obtain ⟨rows, cols, items⟩ := l
  dsimp only at hx hl hs ⊢
  have HX := Lib.hid hx
  have HC := Lib.hid (fun w hx => szItemS_any a items c w hx hl hs)
  clear hx hl hs
  have HB0 := Lib.hid (ba1 w (.cells #[.int .i64 rows, .int .i64 cols, .slice a items.length c] 24 (0, 0)))
  go_enter Tryz.func6, Tryz.ntmps6
  go_wp2_with fail
  refine (HC.out _ (HX.out.below HB0.out)).mono ?_
  rintro e w2 ⟨⟨r2, rfl, hr2, hbig⟩, hb2⟩
  have HB2 := Lib.hid (bt0 HB0.out hb2 (Nat.le_refl _))
  have HBG := Lib.hid hbig
  clear hb2 hbig
  by_cases h0 : r2 < 0
  · go_wp2_with fail
    go_ret
    exact ⟨⟨-1, rfl, by omega, fun h => by omega⟩, HB2.out⟩
  · go_wp2_with fail
    go_ret
    exact ⟨⟨r2, rfl, hr2, HBG.out⟩, HB2.out⟩

set_option maxRecDepth 100000 in
set_option maxHeartbeats 1000000 in
theorem toItem_any (x : It) (w : World) :
    Calls Tryz.prog 46 #[itV x] w fun e w' => e = .returned (itV x) ∧ Below w.heap.size w w' := by
  obtain ⟨kd, row, col, sc, tall, wide, nm, lev, tx⟩ := x
  go_enter Tryz.func46, Tryz.ntmps46
  go_wp2
  refine bodyPost_ret (v := .agg #[.int .i64 kd, .int .i64 row, .int .i64 col, .int .i64 sc, .int .i64 tall, .int .i64 wide, .string nm, .int .i64 lev, .string tx]) (by simp [results, Tryz.results46, go_sem]) rfl ⟨rfl, ?_⟩
  first
    | exact ba3 _ _ _ _
    | (iterate 9 (refine Below.setCell ?_ (by dsimp only; omega) _)
       exact ba3 _ _ _ _)
set_option maxRecDepth 100000 in
set_option maxHeartbeats 1000000 in
theorem eqItem_same (x : It) (w : World) :
    Calls Tryz.prog 49 #[itV x, itV x] w fun e w' => e = .returned (.bool true) ∧ Below w.heap.size w w' := by
  obtain ⟨kd, row, col, sc, tall, wide, nm, lev, tx⟩ := x
  have h1 : (kd != kd) = false := by simp
  have h2 : (row != row) = false := by simp
  have h3 : (col != col) = false := by simp
  have h4 : (sc != sc) = false := by simp
  have h5 : (tall != tall) = false := by simp
  have h6 : (wide != wide) = false := by simp
  have h7 : (nm.toList == nm.toList) = true := by simp
  have h8 : (lev != lev) = false := by simp
  have h9 : (tx.toList == tx.toList) = true := by simp
  go_enter Tryz.func49, Tryz.ntmps49
  go_wp2_with fail
  go_ret
  exact ⟨rfl, ba2 _ _ _⟩
set_option maxRecDepth 100000 in
set_option maxHeartbeats 2000000 in
theorem eqItemS_same (a b : Option Addr) (items : List It) (c d : Nat) (w : World) (hx : itE.At w a items) (hy : itE.At w b items) (hl : items.length ≤ 1048576) :
    Calls Tryz.prog 27 #[.slice a items.length c, .slice b items.length d] w fun e w' => e = .returned (.bool true) ∧ Below w.heap.size w w' := by
  have HX := Lib.hid hx
  have HY := Lib.hid hy
  have h0 : ((items.length : Int) != (items.length : Int)) = false := by simp
  clear hx hy
  go_enter Tryz.func27, Tryz.ntmps27
  go_wp2_with fail
  go_loopw [5] (fun i wr => ∃ k : Nat, k ≤ items.length ∧ i = .int .i64 (k : Int) ∧ Below w.heap.size w wr) (fun i _ => items.length - (intOf i).toNat)
  case atStart => exact ⟨0, Nat.zero_le _, rfl, Below.refl _ _⟩
  case round =>
    obtain ⟨k, hk, rfl, hbr⟩ := hrel
    have HBR := Lib.hid hbr
    clear hbr
    by_cases hlt : k < items.length
    · have hki : (k : Int) < (items.length : Int) := by omega
      obtain ⟨x, hx⟩ : ∃ x, items[k]? = some x := by rw [List.getElem?_eq_getElem hlt]; exact ⟨_, rfl⟩
      have HE := Lib.hid (fun w => eqItem_same x w)
      obtain ⟨b1, o1, rfl, hbl, y0, y1, y2, y3, y4, y5, y6, y7, y8⟩ := it_at (HX.out.below HBR.out) hx
      obtain ⟨b2, o2, rfl, hbl2, z0, z1, z2, z3, z4, z5, z6, z7, z8⟩ := it_at (HY.out.below HBR.out) hx
      clear hx
      obtain ⟨kd, row, col, sc, tall, wide, nm, lev, tx⟩ := x
      dsimp only at y0 y1 y2 y3 y4 y5 y6 y7 y8 z0 z1 z2 z3 z4 z5 z6 z7 z8 HE
      unfold itV at HE
      dsimp only at HE
      go_wp2_with fail
      refine wp_region_ext (by kernel_rfl) (by kernel_rfl) ?_
      repeat (go_big_quiet_step ((go_at_call 49; go_must (exact calls_ext _ (HE.out _)))))
      refine wpQuiet_nil ?_
      rintro _ ⟨s, rfl⟩
      have HB2 := Lib.hid (bt0 HBR.out s.below (Nat.le_refl _))
      clear y0 y1 y2 y3 y4 y5 y6 y7 y8 z0 z1 z2 z3 z4 z5 z6 z7 z8
      go_wp2_with fail
      exact ⟨⟨k + 1, by omega, by go_num, HB2.out⟩, by simp [intOf]; omega⟩
    · have hki : ¬ (k : Int) < (items.length : Int) := by omega
      go_wp2_with fail
      go_ret
      exact ⟨rfl, HBR.out⟩
set_option maxRecDepth 100000 in
set_option maxHeartbeats 1000000 in
theorem eqLabel_same (l : Lb) (a b : Option Addr) (c d : Nat) (w : World) (hx : itE.At w a l.items) (hy : itE.At w b l.items) (hl : l.items.length ≤ 1048576) :
    Calls Tryz.prog 10 #[lbV l a c, lbV l b d] w fun e w' => e = .returned (.bool true) ∧ Below w.heap.size w w' := by
  obtain ⟨rows, cols, items⟩ := l
  dsimp only at hx hy hl ⊢
  have HX := Lib.hid hx
  have HY := Lib.hid hy
  have h1 : (rows != rows) = false := by simp
  have h2 : (cols != cols) = false := by simp
  clear hx hy
  have HB0 := Lib.hid (ba2 w (.cells #[.int .i64 rows, .int .i64 cols, .slice a items.length c] 29 (0, 0)) (.cells #[.int .i64 rows, .int .i64 cols, .slice b items.length d] 29 (0, 0)))
  go_enter Tryz.func10, Tryz.ntmps10
  go_wp2_with fail
  refine (eqItemS_same a b items c d _ (HX.out.below HB0.out) (HY.out.below HB0.out) hl).mono ?_
  rintro e w1 ⟨rfl, hb1⟩
  have HB1 := Lib.hid (bt0 HB0.out hb1 (Nat.le_refl _))
  clear hb1
  go_wp2_with fail
  go_ret
  exact ⟨rfl, HB1.out⟩

end Go.Proofs.YtlcglclojlffgaaGreatDoor
