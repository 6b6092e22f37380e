import Derived.Test.YtpilkgcghlfdmaaGreatDoorVPsD
namespace Go.Proofs.YtpilkgcghlfdmaaGreatDoor
open Go.RowKit

set_option maxRecDepth 100000 in
set_option maxHeartbeats 2000000 in
theorem damage_1 (q : Nat) (h : ByteArray) (t : List ByteArray) (w : World) (hp : Psr w q (h :: t)) (hh : ShortL (h :: t)) (hE2 : ∀ w', Below q w w' → Env w') (hk : h.data.toList = dBlot) :
    Calls Tryz.prog 32 #[.pointer (some ⟨q, 0, none⟩)] w fun e w' => DmgEnd (rdOne (bytesL (h :: t))) e ∧ w.grownBy w' (some q) := by
  have HP := Lib.hid hp
  have HS1 := Lib.hid (shortL_tail hh)
  have HE := Lib.hid hE2
  have hlt := hp.lt
  have hw : h = ⟨#[98, 108, 111, 116]⟩ := by apply ByteArray.ext; apply Array.toList_inj.1; exact hk
  subst hw
  have HK : Hid (kindOf (ByteArray.data ⟨#[98, 108, 111, 116]⟩).toList = 1) := Lib.hid (by show kindOf dBlot = 1; decide)
  clear hp hh hE2 hk
  go_enter Tryz.func32, Tryz.ntmps32
  go_wp2_with fail
  refine (next_some q _ t _ (HP.out.below (ba2 w _ _))).mono ?_
  rintro e w1 ⟨rfl, hp1, hb1⟩
  have HP1 := Lib.hid hp1
  have HB1 := Lib.hid (grownBy_trans (gb_below (ba2 w _ _)) hb1)
  have HX1 := Lib.hid ((gb_cell hb1 (show w.heap.size + 1 ≠ q by omega) (by simp)).trans (heap2 w _ _).2)
  have HY1 := Lib.hid ((gb_cell hb1 (show w.heap.size ≠ q by omega) (by simp; omega)).trans (heap2 w _ _).1)
  clear hp1 hb1
  go_wp2_with fail
  refine (number_any q _ _ HP1.out HS1.out (fun w' hb => HE.out w' ((below_gb HB1.out (Nat.le_of_lt hlt)).trans hb))).mono ?_
  rintro e w2 ⟨hb, ⟨hz, v, rfl⟩ | ⟨n1, h1, t1, rfl, hr, rfl, hp⟩⟩
  · exact ⟨rfl, dmgEnd_no (rd_stop (pre := []) hz (by rw [HK.out]; simp [arK])), grownBy_trans HB1.out hb⟩
  have HR1 := Lib.hid hr
  have HP2 := Lib.hid hp
  have HB2 := Lib.hid (grownBy_trans HB1.out hb)
  have HX2 := Lib.hid ((gb_cell hb (show w.heap.size + 1 ≠ q by omega) (blkLt HX1.out)).trans HX1.out)
  have HY2 := Lib.hid ((gb_cell hb (show w.heap.size ≠ q by omega) (blkLt HY1.out)).trans HY1.out)
  have HS2 := Lib.hid (shortL_tail HS1.out)
  clear hr hp hb
  go_wp2_with fail
  refine (number_any q _ _ HP2.out HS2.out (fun w' hb => HE.out w' ((below_gb HB2.out (Nat.le_of_lt hlt)).trans hb))).mono ?_
  rintro e w3 ⟨hb, ⟨hz, v, rfl⟩ | ⟨n2, h2, t2, rfl, hr, rfl, hp⟩⟩
  · exact ⟨rfl, dmgEnd_no (rd_stop (pre := [h1]) hz (by rw [HK.out]; simp [arK])), grownBy_trans HB2.out hb⟩
  have HR2 := Lib.hid hr
  have HP3 := Lib.hid hp
  have HB3 := Lib.hid (grownBy_trans HB2.out hb)
  have HX3 := Lib.hid ((gb_cell hb (show w.heap.size + 1 ≠ q by omega) (blkLt HX2.out)).trans HX2.out)
  have HY3 := Lib.hid ((gb_cell hb (show w.heap.size ≠ q by omega) (blkLt HY2.out)).trans HY2.out)
  have HS3 := Lib.hid (shortL_tail HS2.out)
  clear hr hp hb
  go_wp2_with fail
  refine (number_any q _ _ HP3.out HS3.out (fun w' hb => HE.out w' ((below_gb HB3.out (Nat.le_of_lt hlt)).trans hb))).mono ?_
  rintro e w4 ⟨hb, ⟨hz, v, rfl⟩ | ⟨n3, h3, t3, rfl, hr, rfl, hp⟩⟩
  · exact ⟨rfl, dmgEnd_no (rd_stop (pre := [h1, h2]) hz (by rw [HK.out]; simp [arK])), grownBy_trans HB3.out hb⟩
  have HR3 := Lib.hid hr
  have HP4 := Lib.hid hp
  have HB4 := Lib.hid (grownBy_trans HB3.out hb)
  have HX4 := Lib.hid ((gb_cell hb (show w.heap.size + 1 ≠ q by omega) (blkLt HX3.out)).trans HX3.out)
  have HY4 := Lib.hid ((gb_cell hb (show w.heap.size ≠ q by omega) (blkLt HY3.out)).trans HY3.out)
  have HS4 := Lib.hid (shortL_tail HS3.out)
  clear hr hp hb
  go_wp2_with fail
  refine (number_any q _ _ HP4.out HS4.out (fun w' hb => HE.out w' ((below_gb HB4.out (Nat.le_of_lt hlt)).trans hb))).mono ?_
  rintro e w5 ⟨hb, ⟨hz, v, rfl⟩ | ⟨n4, h4, t4, rfl, hr, rfl, hp⟩⟩
  · exact ⟨rfl, dmgEnd_no (rd_stop (pre := [h1, h2, h3]) hz (by rw [HK.out]; simp [arK])), grownBy_trans HB4.out hb⟩
  have HR4 := Lib.hid hr
  have HP5 := Lib.hid hp
  have HB5 := Lib.hid (grownBy_trans HB4.out hb)
  have HX5 := Lib.hid ((gb_cell hb (show w.heap.size + 1 ≠ q by omega) (blkLt HX4.out)).trans HX4.out)
  have HY5 := Lib.hid ((gb_cell hb (show w.heap.size ≠ q by omega) (blkLt HY4.out)).trans HY4.out)
  have HS5 := Lib.hid (shortL_tail HS4.out)
  clear hr hp hb
  obtain ⟨a, c, hg, hlc, hs, hne⟩ := HP5.out
  obtain ⟨hcq, hfq⟩ := heap_cellR hg
  obtain ⟨hcx, hfx⟩ := heap_cellR HX5.out
  obtain ⟨hcy, hfy⟩ := heap_cellR HY5.out
  have hq1 : ¬ q = w.heap.size + 1 := by omega
  have hq2 : ¬ w.heap.size + 1 = q := by omega
  have hq3 : ¬ w.heap.size = q := by omega
  clear hlc hs hne hg
  cases t4 with
  | cons x y =>
    have hlen : (x :: y).length = y.length + 1 := rfl
    have hlen2 : (0 : Int) < (((x :: y).length : Nat) : Int) := by rw [hlen]; omega
    have HZ := Lib.hid (rd_len (h := (ByteArray.data ⟨#[98, 108, 111, 116]⟩).toList) (t := bytesL (h1 :: h2 :: h3 :: h4 :: x :: y)) (by rw [HK.out]; simp [bytesL, arK]))
    clear hlen
    go_wp2_with fail
    refine ⟨rfl, dmgEnd_no HZ.out, ?_⟩
    refine gb_own HB5.out ?_
    iterate 6 (refine Below.setCell ?_ (by dsimp only; omega) _)
    exact Below.refl _ _
  | nil =>
    have hz1 : w.heap.size + 1 < w5.heap.size := blkLt HX5.out
    have hz0 : w.heap.size < w5.heap.size := by omega
    have HZ := Lib.hid (rd_ok (h := (ByteArray.data ⟨#[98, 108, 111, 116]⟩).toList) (t := bytesL [h1, h2, h3, h4]) (ns := [n1, n2, n3, n4]) (d := ⟨1, n1, n2, n3, 0, n4⟩) (by simp [bytesL, rnums, HR1.out, HR2.out, HR3.out, HR4.out]) (by rw [HK.out]; rfl))
    rcases Bool.eq_false_or_eq_true (dmOk 1 n1 n2 n3 0 n4) with hd | hd
    · have HD := Lib.hid hd
      clear hd
      go_wp2_with fail
      refine (isDamage_val HD.out).mono ?_
      rintro e w' ⟨rfl, hb⟩
      have HB : Hid (Below w.heap.size w5 w') := by
        show Below _ _ _
        refine Below.trans ?_ (hb.mono (by simp; omega))
        iterate 6 (refine Below.setCell ?_ (by dsimp only; omega) _)
        exact Below.refl _ _
      obtain ⟨hc, hf⟩ := bcell hb
      clear hb
      go_wp2_with fail
      refine bodyPost_ret (v := .agg #[.int .i64 1, .int .i64 n1, .int .i64 n2, .int .i64 n3, .int .i64 0, .int .i64 n4]) (by simp [results, Tryz.results32, go_sem, hc, hcy, hz0]) rfl ⟨dmgEnd_yes (d := ⟨1, n1, n2, n3, 0, n4⟩) (HZ.out.trans (if_pos (show dmOk _ _ _ _ _ _ = true from HD.out))), gb_own HB5.out ?_⟩
      iterate 6 (refine Below.setCell ?_ (by dsimp only; omega) _)
      exact HB.out
    · have HD := Lib.hid hd
      clear hd
      go_wp2_with fail
      refine (isDamage_val HD.out).mono ?_
      rintro e w' ⟨rfl, hb⟩
      have HB : Hid (Below w.heap.size w5 w') := by
        show Below _ _ _
        refine Below.trans ?_ (hb.mono (by simp; omega))
        iterate 6 (refine Below.setCell ?_ (by dsimp only; omega) _)
        exact Below.refl _ _
      obtain ⟨hc, hf⟩ := bcell hb
      clear hb
      go_wp2_with fail
      exact ⟨rfl, dmgEnd_no (HZ.out.trans (if_neg (by show ¬ dmOk _ _ _ _ _ _ = true; rw [HD.out]; decide))), gb_own HB5.out HB.out⟩

set_option maxRecDepth 100000 in
set_option maxHeartbeats 2000000 in
theorem damage_2 (q : Nat) (h : ByteArray) (t : List ByteArray) (w : World) (hp : Psr w q (h :: t)) (hh : ShortL (h :: t)) (hE2 : ∀ w', Below q w w' → Env w') (hk : h.data.toList = dScratch) :
    Calls Tryz.prog 32 #[.pointer (some ⟨q, 0, none⟩)] w fun e w' => DmgEnd (rdOne (bytesL (h :: t))) e ∧ w.grownBy w' (some q) := by
  have HP := Lib.hid hp
  have HS1 := Lib.hid (shortL_tail hh)
  have HE := Lib.hid hE2
  have hlt := hp.lt
  have hw : h = ⟨#[115, 99, 114, 97, 116, 99, 104]⟩ := by apply ByteArray.ext; apply Array.toList_inj.1; exact hk
  subst hw
  have HK : Hid (kindOf (ByteArray.data ⟨#[115, 99, 114, 97, 116, 99, 104]⟩).toList = 2) := Lib.hid (by show kindOf dScratch = 2; decide)
  clear hp hh hE2 hk
  go_enter Tryz.func32, Tryz.ntmps32
  go_wp2_with fail
  refine (next_some q _ t _ (HP.out.below (ba2 w _ _))).mono ?_
  rintro e w1 ⟨rfl, hp1, hb1⟩
  have HP1 := Lib.hid hp1
  have HB1 := Lib.hid (grownBy_trans (gb_below (ba2 w _ _)) hb1)
  have HX1 := Lib.hid ((gb_cell hb1 (show w.heap.size + 1 ≠ q by omega) (by simp)).trans (heap2 w _ _).2)
  have HY1 := Lib.hid ((gb_cell hb1 (show w.heap.size ≠ q by omega) (by simp; omega)).trans (heap2 w _ _).1)
  clear hp1 hb1
  go_wp2_with fail
  refine (number_any q _ _ HP1.out HS1.out (fun w' hb => HE.out w' ((below_gb HB1.out (Nat.le_of_lt hlt)).trans hb))).mono ?_
  rintro e w2 ⟨hb, ⟨hz, v, rfl⟩ | ⟨n1, h1, t1, rfl, hr, rfl, hp⟩⟩
  · exact ⟨rfl, dmgEnd_no (rd_stop (pre := []) hz (by rw [HK.out]; simp [arK])), grownBy_trans HB1.out hb⟩
  have HR1 := Lib.hid hr
  have HP2 := Lib.hid hp
  have HB2 := Lib.hid (grownBy_trans HB1.out hb)
  have HX2 := Lib.hid ((gb_cell hb (show w.heap.size + 1 ≠ q by omega) (blkLt HX1.out)).trans HX1.out)
  have HY2 := Lib.hid ((gb_cell hb (show w.heap.size ≠ q by omega) (blkLt HY1.out)).trans HY1.out)
  have HS2 := Lib.hid (shortL_tail HS1.out)
  clear hr hp hb
  go_wp2_with fail
  refine (number_any q _ _ HP2.out HS2.out (fun w' hb => HE.out w' ((below_gb HB2.out (Nat.le_of_lt hlt)).trans hb))).mono ?_
  rintro e w3 ⟨hb, ⟨hz, v, rfl⟩ | ⟨n2, h2, t2, rfl, hr, rfl, hp⟩⟩
  · exact ⟨rfl, dmgEnd_no (rd_stop (pre := [h1]) hz (by rw [HK.out]; simp [arK])), grownBy_trans HB2.out hb⟩
  have HR2 := Lib.hid hr
  have HP3 := Lib.hid hp
  have HB3 := Lib.hid (grownBy_trans HB2.out hb)
  have HX3 := Lib.hid ((gb_cell hb (show w.heap.size + 1 ≠ q by omega) (blkLt HX2.out)).trans HX2.out)
  have HY3 := Lib.hid ((gb_cell hb (show w.heap.size ≠ q by omega) (blkLt HY2.out)).trans HY2.out)
  have HS3 := Lib.hid (shortL_tail HS2.out)
  clear hr hp hb
  go_wp2_with fail
  refine (number_any q _ _ HP3.out HS3.out (fun w' hb => HE.out w' ((below_gb HB3.out (Nat.le_of_lt hlt)).trans hb))).mono ?_
  rintro e w4 ⟨hb, ⟨hz, v, rfl⟩ | ⟨n3, h3, t3, rfl, hr, rfl, hp⟩⟩
  · exact ⟨rfl, dmgEnd_no (rd_stop (pre := [h1, h2]) hz (by rw [HK.out]; simp [arK])), grownBy_trans HB3.out hb⟩
  have HR3 := Lib.hid hr
  have HP4 := Lib.hid hp
  have HB4 := Lib.hid (grownBy_trans HB3.out hb)
  have HX4 := Lib.hid ((gb_cell hb (show w.heap.size + 1 ≠ q by omega) (blkLt HX3.out)).trans HX3.out)
  have HY4 := Lib.hid ((gb_cell hb (show w.heap.size ≠ q by omega) (blkLt HY3.out)).trans HY3.out)
  have HS4 := Lib.hid (shortL_tail HS3.out)
  clear hr hp hb
  go_wp2_with fail
  refine (number_any q _ _ HP4.out HS4.out (fun w' hb => HE.out w' ((below_gb HB4.out (Nat.le_of_lt hlt)).trans hb))).mono ?_
  rintro e w5 ⟨hb, ⟨hz, v, rfl⟩ | ⟨n4, h4, t4, rfl, hr, rfl, hp⟩⟩
  · exact ⟨rfl, dmgEnd_no (rd_stop (pre := [h1, h2, h3]) hz (by rw [HK.out]; simp [arK])), grownBy_trans HB4.out hb⟩
  have HR4 := Lib.hid hr
  have HP5 := Lib.hid hp
  have HB5 := Lib.hid (grownBy_trans HB4.out hb)
  have HX5 := Lib.hid ((gb_cell hb (show w.heap.size + 1 ≠ q by omega) (blkLt HX4.out)).trans HX4.out)
  have HY5 := Lib.hid ((gb_cell hb (show w.heap.size ≠ q by omega) (blkLt HY4.out)).trans HY4.out)
  have HS5 := Lib.hid (shortL_tail HS4.out)
  clear hr hp hb
  go_wp2_with fail
  refine (number_any q _ _ HP5.out HS5.out (fun w' hb => HE.out w' ((below_gb HB5.out (Nat.le_of_lt hlt)).trans hb))).mono ?_
  rintro e w6 ⟨hb, ⟨hz, v, rfl⟩ | ⟨n5, h5, t5, rfl, hr, rfl, hp⟩⟩
  · exact ⟨rfl, dmgEnd_no (rd_stop (pre := [h1, h2, h3, h4]) hz (by rw [HK.out]; simp [arK])), grownBy_trans HB5.out hb⟩
  have HR5 := Lib.hid hr
  have HP6 := Lib.hid hp
  have HB6 := Lib.hid (grownBy_trans HB5.out hb)
  have HX6 := Lib.hid ((gb_cell hb (show w.heap.size + 1 ≠ q by omega) (blkLt HX5.out)).trans HX5.out)
  have HY6 := Lib.hid ((gb_cell hb (show w.heap.size ≠ q by omega) (blkLt HY5.out)).trans HY5.out)
  have HS6 := Lib.hid (shortL_tail HS5.out)
  clear hr hp hb
  obtain ⟨a, c, hg, hlc, hs, hne⟩ := HP6.out
  obtain ⟨hcq, hfq⟩ := heap_cellR hg
  obtain ⟨hcx, hfx⟩ := heap_cellR HX6.out
  obtain ⟨hcy, hfy⟩ := heap_cellR HY6.out
  have hq1 : ¬ q = w.heap.size + 1 := by omega
  have hq2 : ¬ w.heap.size + 1 = q := by omega
  have hq3 : ¬ w.heap.size = q := by omega
  clear hlc hs hne hg
  cases t5 with
  | cons x y =>
    have hlen : (x :: y).length = y.length + 1 := rfl
    have hlen2 : (0 : Int) < (((x :: y).length : Nat) : Int) := by rw [hlen]; omega
    have HZ := Lib.hid (rd_len (h := (ByteArray.data ⟨#[115, 99, 114, 97, 116, 99, 104]⟩).toList) (t := bytesL (h1 :: h2 :: h3 :: h4 :: h5 :: x :: y)) (by rw [HK.out]; simp [bytesL, arK]))
    clear hlen
    go_wp2_with fail
    refine ⟨rfl, dmgEnd_no HZ.out, ?_⟩
    refine gb_own HB6.out ?_
    iterate 6 (refine Below.setCell ?_ (by dsimp only; omega) _)
    exact Below.refl _ _
  | nil =>
    have hz1 : w.heap.size + 1 < w6.heap.size := blkLt HX6.out
    have hz0 : w.heap.size < w6.heap.size := by omega
    have HZ := Lib.hid (rd_ok (h := (ByteArray.data ⟨#[115, 99, 114, 97, 116, 99, 104]⟩).toList) (t := bytesL [h1, h2, h3, h4, h5]) (ns := [n1, n2, n3, n4, n5]) (d := ⟨2, n1, n2, n3, n4, n5⟩) (by simp [bytesL, rnums, HR1.out, HR2.out, HR3.out, HR4.out, HR5.out]) (by rw [HK.out]; rfl))
    rcases Bool.eq_false_or_eq_true (dmOk 2 n1 n2 n3 n4 n5) with hd | hd
    · have HD := Lib.hid hd
      clear hd
      go_wp2_with fail
      refine (isDamage_val HD.out).mono ?_
      rintro e w' ⟨rfl, hb⟩
      have HB : Hid (Below w.heap.size w6 w') := by
        show Below _ _ _
        refine Below.trans ?_ (hb.mono (by simp; omega))
        iterate 6 (refine Below.setCell ?_ (by dsimp only; omega) _)
        exact Below.refl _ _
      obtain ⟨hc, hf⟩ := bcell hb
      clear hb
      go_wp2_with fail
      refine bodyPost_ret (v := .agg #[.int .i64 2, .int .i64 n1, .int .i64 n2, .int .i64 n3, .int .i64 n4, .int .i64 n5]) (by simp [results, Tryz.results32, go_sem, hc, hcy, hz0]) rfl ⟨dmgEnd_yes (d := ⟨2, n1, n2, n3, n4, n5⟩) (HZ.out.trans (if_pos (show dmOk _ _ _ _ _ _ = true from HD.out))), gb_own HB6.out ?_⟩
      iterate 6 (refine Below.setCell ?_ (by dsimp only; omega) _)
      exact HB.out
    · have HD := Lib.hid hd
      clear hd
      go_wp2_with fail
      refine (isDamage_val HD.out).mono ?_
      rintro e w' ⟨rfl, hb⟩
      have HB : Hid (Below w.heap.size w6 w') := by
        show Below _ _ _
        refine Below.trans ?_ (hb.mono (by simp; omega))
        iterate 6 (refine Below.setCell ?_ (by dsimp only; omega) _)
        exact Below.refl _ _
      obtain ⟨hc, hf⟩ := bcell hb
      clear hb
      go_wp2_with fail
      exact ⟨rfl, dmgEnd_no (HZ.out.trans (if_neg (by show ¬ dmOk _ _ _ _ _ _ = true; rw [HD.out]; decide))), gb_own HB6.out HB.out⟩

set_option maxRecDepth 100000 in
set_option maxHeartbeats 2000000 in
theorem damage_3 (q : Nat) (h : ByteArray) (t : List ByteArray) (w : World) (hp : Psr w q (h :: t)) (hh : ShortL (h :: t)) (hE2 : ∀ w', Below q w w' → Env w') (hk : h.data.toList = dSkew) :
    Calls Tryz.prog 32 #[.pointer (some ⟨q, 0, none⟩)] w fun e w' => DmgEnd (rdOne (bytesL (h :: t))) e ∧ w.grownBy w' (some q) := by
  have HP := Lib.hid hp
  have HS1 := Lib.hid (shortL_tail hh)
  have HE := Lib.hid hE2
  have hlt := hp.lt
  have hw : h = ⟨#[115, 107, 101, 119]⟩ := by apply ByteArray.ext; apply Array.toList_inj.1; exact hk
  subst hw
  have HK : Hid (kindOf (ByteArray.data ⟨#[115, 107, 101, 119]⟩).toList = 3) := Lib.hid (by show kindOf dSkew = 3; decide)
  clear hp hh hE2 hk
  go_enter Tryz.func32, Tryz.ntmps32
  go_wp2_with fail
  refine (next_some q _ t _ (HP.out.below (ba2 w _ _))).mono ?_
  rintro e w1 ⟨rfl, hp1, hb1⟩
  have HP1 := Lib.hid hp1
  have HB1 := Lib.hid (grownBy_trans (gb_below (ba2 w _ _)) hb1)
  have HX1 := Lib.hid ((gb_cell hb1 (show w.heap.size + 1 ≠ q by omega) (by simp)).trans (heap2 w _ _).2)
  have HY1 := Lib.hid ((gb_cell hb1 (show w.heap.size ≠ q by omega) (by simp; omega)).trans (heap2 w _ _).1)
  clear hp1 hb1
  go_wp2_with fail
  refine (number_any q _ _ HP1.out HS1.out (fun w' hb => HE.out w' ((below_gb HB1.out (Nat.le_of_lt hlt)).trans hb))).mono ?_
  rintro e w2 ⟨hb, ⟨hz, v, rfl⟩ | ⟨n1, h1, t1, rfl, hr, rfl, hp⟩⟩
  · exact ⟨rfl, dmgEnd_no (rd_stop (pre := []) hz (by rw [HK.out]; simp [arK])), grownBy_trans HB1.out hb⟩
  have HR1 := Lib.hid hr
  have HP2 := Lib.hid hp
  have HB2 := Lib.hid (grownBy_trans HB1.out hb)
  have HX2 := Lib.hid ((gb_cell hb (show w.heap.size + 1 ≠ q by omega) (blkLt HX1.out)).trans HX1.out)
  have HY2 := Lib.hid ((gb_cell hb (show w.heap.size ≠ q by omega) (blkLt HY1.out)).trans HY1.out)
  have HS2 := Lib.hid (shortL_tail HS1.out)
  clear hr hp hb
  go_wp2_with fail
  refine (number_any q _ _ HP2.out HS2.out (fun w' hb => HE.out w' ((below_gb HB2.out (Nat.le_of_lt hlt)).trans hb))).mono ?_
  rintro e w3 ⟨hb, ⟨hz, v, rfl⟩ | ⟨n2, h2, t2, rfl, hr, rfl, hp⟩⟩
  · exact ⟨rfl, dmgEnd_no (rd_stop (pre := [h1]) hz (by rw [HK.out]; simp [arK])), grownBy_trans HB2.out hb⟩
  have HR2 := Lib.hid hr
  have HP3 := Lib.hid hp
  have HB3 := Lib.hid (grownBy_trans HB2.out hb)
  have HX3 := Lib.hid ((gb_cell hb (show w.heap.size + 1 ≠ q by omega) (blkLt HX2.out)).trans HX2.out)
  have HY3 := Lib.hid ((gb_cell hb (show w.heap.size ≠ q by omega) (blkLt HY2.out)).trans HY2.out)
  have HS3 := Lib.hid (shortL_tail HS2.out)
  clear hr hp hb
  go_wp2_with fail
  refine (number_any q _ _ HP3.out HS3.out (fun w' hb => HE.out w' ((below_gb HB3.out (Nat.le_of_lt hlt)).trans hb))).mono ?_
  rintro e w4 ⟨hb, ⟨hz, v, rfl⟩ | ⟨n3, h3, t3, rfl, hr, rfl, hp⟩⟩
  · exact ⟨rfl, dmgEnd_no (rd_stop (pre := [h1, h2]) hz (by rw [HK.out]; simp [arK])), grownBy_trans HB3.out hb⟩
  have HR3 := Lib.hid hr
  have HP4 := Lib.hid hp
  have HB4 := Lib.hid (grownBy_trans HB3.out hb)
  have HX4 := Lib.hid ((gb_cell hb (show w.heap.size + 1 ≠ q by omega) (blkLt HX3.out)).trans HX3.out)
  have HY4 := Lib.hid ((gb_cell hb (show w.heap.size ≠ q by omega) (blkLt HY3.out)).trans HY3.out)
  have HS4 := Lib.hid (shortL_tail HS3.out)
  clear hr hp hb
  obtain ⟨a, c, hg, hlc, hs, hne⟩ := HP4.out
  obtain ⟨hcq, hfq⟩ := heap_cellR hg
  obtain ⟨hcx, hfx⟩ := heap_cellR HX4.out
  obtain ⟨hcy, hfy⟩ := heap_cellR HY4.out
  have hq1 : ¬ q = w.heap.size + 1 := by omega
  have hq2 : ¬ w.heap.size + 1 = q := by omega
  have hq3 : ¬ w.heap.size = q := by omega
  clear hlc hs hne hg
  cases t3 with
  | cons x y =>
    have hlen : (x :: y).length = y.length + 1 := rfl
    have hlen2 : (0 : Int) < (((x :: y).length : Nat) : Int) := by rw [hlen]; omega
    have HZ := Lib.hid (rd_len (h := (ByteArray.data ⟨#[115, 107, 101, 119]⟩).toList) (t := bytesL (h1 :: h2 :: h3 :: x :: y)) (by rw [HK.out]; simp [bytesL, arK]))
    clear hlen
    go_wp2_with fail
    refine ⟨rfl, dmgEnd_no HZ.out, ?_⟩
    refine gb_own HB4.out ?_
    iterate 6 (refine Below.setCell ?_ (by dsimp only; omega) _)
    exact Below.refl _ _
  | nil =>
    have hz1 : w.heap.size + 1 < w4.heap.size := blkLt HX4.out
    have hz0 : w.heap.size < w4.heap.size := by omega
    have HZ := Lib.hid (rd_ok (h := (ByteArray.data ⟨#[115, 107, 101, 119]⟩).toList) (t := bytesL [h1, h2, h3]) (ns := [n1, n2, n3]) (d := ⟨3, 0, 0, n1, n2, n3⟩) (by simp [bytesL, rnums, HR1.out, HR2.out, HR3.out]) (by rw [HK.out]; rfl))
    rcases Bool.eq_false_or_eq_true (dmOk 3 0 0 n1 n2 n3) with hd | hd
    · have HD := Lib.hid hd
      clear hd
      go_wp2_with fail
      refine (isDamage_val HD.out).mono ?_
      rintro e w' ⟨rfl, hb⟩
      have HB : Hid (Below w.heap.size w4 w') := by
        show Below _ _ _
        refine Below.trans ?_ (hb.mono (by simp; omega))
        iterate 6 (refine Below.setCell ?_ (by dsimp only; omega) _)
        exact Below.refl _ _
      obtain ⟨hc, hf⟩ := bcell hb
      clear hb
      go_wp2_with fail
      refine bodyPost_ret (v := .agg #[.int .i64 3, .int .i64 0, .int .i64 0, .int .i64 n1, .int .i64 n2, .int .i64 n3]) (by simp [results, Tryz.results32, go_sem, hc, hcy, hz0]) rfl ⟨dmgEnd_yes (d := ⟨3, 0, 0, n1, n2, n3⟩) (HZ.out.trans (if_pos (show dmOk _ _ _ _ _ _ = true from HD.out))), gb_own HB4.out ?_⟩
      iterate 6 (refine Below.setCell ?_ (by dsimp only; omega) _)
      exact HB.out
    · have HD := Lib.hid hd
      clear hd
      go_wp2_with fail
      refine (isDamage_val HD.out).mono ?_
      rintro e w' ⟨rfl, hb⟩
      have HB : Hid (Below w.heap.size w4 w') := by
        show Below _ _ _
        refine Below.trans ?_ (hb.mono (by simp; omega))
        iterate 6 (refine Below.setCell ?_ (by dsimp only; omega) _)
        exact Below.refl _ _
      obtain ⟨hc, hf⟩ := bcell hb
      clear hb
      go_wp2_with fail
      exact ⟨rfl, dmgEnd_no (HZ.out.trans (if_neg (by show ¬ dmOk _ _ _ _ _ _ = true; rw [HD.out]; decide))), gb_own HB4.out HB.out⟩

set_option maxRecDepth 100000 in
set_option maxHeartbeats 2000000 in
theorem damage_4 (q : Nat) (h : ByteArray) (t : List ByteArray) (w : World) (hp : Psr w q (h :: t)) (hh : ShortL (h :: t)) (hE2 : ∀ w', Below q w w' → Env w') (hk : h.data.toList = dNoise) :
    Calls Tryz.prog 32 #[.pointer (some ⟨q, 0, none⟩)] w fun e w' => DmgEnd (rdOne (bytesL (h :: t))) e ∧ w.grownBy w' (some q) := by
  have HP := Lib.hid hp
  have HS1 := Lib.hid (shortL_tail hh)
  have HE := Lib.hid hE2
  have hlt := hp.lt
  have hw : h = ⟨#[110, 111, 105, 115, 101]⟩ := by apply ByteArray.ext; apply Array.toList_inj.1; exact hk
  subst hw
  have HK : Hid (kindOf (ByteArray.data ⟨#[110, 111, 105, 115, 101]⟩).toList = 4) := Lib.hid (by show kindOf dNoise = 4; decide)
  clear hp hh hE2 hk
  go_enter Tryz.func32, Tryz.ntmps32
  go_wp2_with fail
  refine (next_some q _ t _ (HP.out.below (ba2 w _ _))).mono ?_
  rintro e w1 ⟨rfl, hp1, hb1⟩
  have HP1 := Lib.hid hp1
  have HB1 := Lib.hid (grownBy_trans (gb_below (ba2 w _ _)) hb1)
  have HX1 := Lib.hid ((gb_cell hb1 (show w.heap.size + 1 ≠ q by omega) (by simp)).trans (heap2 w _ _).2)
  have HY1 := Lib.hid ((gb_cell hb1 (show w.heap.size ≠ q by omega) (by simp; omega)).trans (heap2 w _ _).1)
  clear hp1 hb1
  go_wp2_with fail
  refine (number_any q _ _ HP1.out HS1.out (fun w' hb => HE.out w' ((below_gb HB1.out (Nat.le_of_lt hlt)).trans hb))).mono ?_
  rintro e w2 ⟨hb, ⟨hz, v, rfl⟩ | ⟨n1, h1, t1, rfl, hr, rfl, hp⟩⟩
  · exact ⟨rfl, dmgEnd_no (rd_stop (pre := []) hz (by rw [HK.out]; simp [arK])), grownBy_trans HB1.out hb⟩
  have HR1 := Lib.hid hr
  have HP2 := Lib.hid hp
  have HB2 := Lib.hid (grownBy_trans HB1.out hb)
  have HX2 := Lib.hid ((gb_cell hb (show w.heap.size + 1 ≠ q by omega) (blkLt HX1.out)).trans HX1.out)
  have HY2 := Lib.hid ((gb_cell hb (show w.heap.size ≠ q by omega) (blkLt HY1.out)).trans HY1.out)
  have HS2 := Lib.hid (shortL_tail HS1.out)
  clear hr hp hb
  go_wp2_with fail
  refine (number_any q _ _ HP2.out HS2.out (fun w' hb => HE.out w' ((below_gb HB2.out (Nat.le_of_lt hlt)).trans hb))).mono ?_
  rintro e w3 ⟨hb, ⟨hz, v, rfl⟩ | ⟨n2, h2, t2, rfl, hr, rfl, hp⟩⟩
  · exact ⟨rfl, dmgEnd_no (rd_stop (pre := [h1]) hz (by rw [HK.out]; simp [arK])), grownBy_trans HB2.out hb⟩
  have HR2 := Lib.hid hr
  have HP3 := Lib.hid hp
  have HB3 := Lib.hid (grownBy_trans HB2.out hb)
  have HX3 := Lib.hid ((gb_cell hb (show w.heap.size + 1 ≠ q by omega) (blkLt HX2.out)).trans HX2.out)
  have HY3 := Lib.hid ((gb_cell hb (show w.heap.size ≠ q by omega) (blkLt HY2.out)).trans HY2.out)
  have HS3 := Lib.hid (shortL_tail HS2.out)
  clear hr hp hb
  go_wp2_with fail
  refine (number_any q _ _ HP3.out HS3.out (fun w' hb => HE.out w' ((below_gb HB3.out (Nat.le_of_lt hlt)).trans hb))).mono ?_
  rintro e w4 ⟨hb, ⟨hz, v, rfl⟩ | ⟨n3, h3, t3, rfl, hr, rfl, hp⟩⟩
  · exact ⟨rfl, dmgEnd_no (rd_stop (pre := [h1, h2]) hz (by rw [HK.out]; simp [arK])), grownBy_trans HB3.out hb⟩
  have HR3 := Lib.hid hr
  have HP4 := Lib.hid hp
  have HB4 := Lib.hid (grownBy_trans HB3.out hb)
  have HX4 := Lib.hid ((gb_cell hb (show w.heap.size + 1 ≠ q by omega) (blkLt HX3.out)).trans HX3.out)
  have HY4 := Lib.hid ((gb_cell hb (show w.heap.size ≠ q by omega) (blkLt HY3.out)).trans HY3.out)
  have HS4 := Lib.hid (shortL_tail HS3.out)
  clear hr hp hb
  obtain ⟨a, c, hg, hlc, hs, hne⟩ := HP4.out
  obtain ⟨hcq, hfq⟩ := heap_cellR hg
  obtain ⟨hcx, hfx⟩ := heap_cellR HX4.out
  obtain ⟨hcy, hfy⟩ := heap_cellR HY4.out
  have hq1 : ¬ q = w.heap.size + 1 := by omega
  have hq2 : ¬ w.heap.size + 1 = q := by omega
  have hq3 : ¬ w.heap.size = q := by omega
  clear hlc hs hne hg
  cases t3 with
  | cons x y =>
    have hlen : (x :: y).length = y.length + 1 := rfl
    have hlen2 : (0 : Int) < (((x :: y).length : Nat) : Int) := by rw [hlen]; omega
    have HZ := Lib.hid (rd_len (h := (ByteArray.data ⟨#[110, 111, 105, 115, 101]⟩).toList) (t := bytesL (h1 :: h2 :: h3 :: x :: y)) (by rw [HK.out]; simp [bytesL, arK]))
    clear hlen
    go_wp2_with fail
    refine ⟨rfl, dmgEnd_no HZ.out, ?_⟩
    refine gb_own HB4.out ?_
    iterate 6 (refine Below.setCell ?_ (by dsimp only; omega) _)
    exact Below.refl _ _
  | nil =>
    have hz1 : w.heap.size + 1 < w4.heap.size := blkLt HX4.out
    have hz0 : w.heap.size < w4.heap.size := by omega
    have HZ := Lib.hid (rd_ok (h := (ByteArray.data ⟨#[110, 111, 105, 115, 101]⟩).toList) (t := bytesL [h1, h2, h3]) (ns := [n1, n2, n3]) (d := ⟨4, n1, 0, n2, 0, n3⟩) (by simp [bytesL, rnums, HR1.out, HR2.out, HR3.out]) (by rw [HK.out]; rfl))
    rcases Bool.eq_false_or_eq_true (dmOk 4 n1 0 n2 0 n3) with hd | hd
    · have HD := Lib.hid hd
      clear hd
      go_wp2_with fail
      refine (isDamage_val HD.out).mono ?_
      rintro e w' ⟨rfl, hb⟩
      have HB : Hid (Below w.heap.size w4 w') := by
        show Below _ _ _
        refine Below.trans ?_ (hb.mono (by simp; omega))
        iterate 6 (refine Below.setCell ?_ (by dsimp only; omega) _)
        exact Below.refl _ _
      obtain ⟨hc, hf⟩ := bcell hb
      clear hb
      go_wp2_with fail
      refine bodyPost_ret (v := .agg #[.int .i64 4, .int .i64 n1, .int .i64 0, .int .i64 n2, .int .i64 0, .int .i64 n3]) (by simp [results, Tryz.results32, go_sem, hc, hcy, hz0]) rfl ⟨dmgEnd_yes (d := ⟨4, n1, 0, n2, 0, n3⟩) (HZ.out.trans (if_pos (show dmOk _ _ _ _ _ _ = true from HD.out))), gb_own HB4.out ?_⟩
      iterate 6 (refine Below.setCell ?_ (by dsimp only; omega) _)
      exact HB.out
    · have HD := Lib.hid hd
      clear hd
      go_wp2_with fail
      refine (isDamage_val HD.out).mono ?_
      rintro e w' ⟨rfl, hb⟩
      have HB : Hid (Below w.heap.size w4 w') := by
        show Below _ _ _
        refine Below.trans ?_ (hb.mono (by simp; omega))
        iterate 6 (refine Below.setCell ?_ (by dsimp only; omega) _)
        exact Below.refl _ _
      obtain ⟨hc, hf⟩ := bcell hb
      clear hb
      go_wp2_with fail
      exact ⟨rfl, dmgEnd_no (HZ.out.trans (if_neg (by show ¬ dmOk _ _ _ _ _ _ = true; rw [HD.out]; decide))), gb_own HB4.out HB.out⟩

set_option maxRecDepth 100000 in
set_option maxHeartbeats 2000000 in
theorem damage_5 (q : Nat) (h : ByteArray) (t : List ByteArray) (w : World) (hp : Psr w q (h :: t)) (hh : ShortL (h :: t)) (hE2 : ∀ w', Below q w w' → Env w') (hk : h.data.toList = dFade) :
    Calls Tryz.prog 32 #[.pointer (some ⟨q, 0, none⟩)] w fun e w' => DmgEnd (rdOne (bytesL (h :: t))) e ∧ w.grownBy w' (some q) := by
  have HP := Lib.hid hp
  have HS1 := Lib.hid (shortL_tail hh)
  have HE := Lib.hid hE2
  have hlt := hp.lt
  have hw : h = ⟨#[102, 97, 100, 101]⟩ := by apply ByteArray.ext; apply Array.toList_inj.1; exact hk
  subst hw
  have HK : Hid (kindOf (ByteArray.data ⟨#[102, 97, 100, 101]⟩).toList = 5) := Lib.hid (by show kindOf dFade = 5; decide)
  clear hp hh hE2 hk
  go_enter Tryz.func32, Tryz.ntmps32
  go_wp2_with fail
  refine (next_some q _ t _ (HP.out.below (ba2 w _ _))).mono ?_
  rintro e w1 ⟨rfl, hp1, hb1⟩
  have HP1 := Lib.hid hp1
  have HB1 := Lib.hid (grownBy_trans (gb_below (ba2 w _ _)) hb1)
  have HX1 := Lib.hid ((gb_cell hb1 (show w.heap.size + 1 ≠ q by omega) (by simp)).trans (heap2 w _ _).2)
  have HY1 := Lib.hid ((gb_cell hb1 (show w.heap.size ≠ q by omega) (by simp; omega)).trans (heap2 w _ _).1)
  clear hp1 hb1
  go_wp2_with fail
  refine (number_any q _ _ HP1.out HS1.out (fun w' hb => HE.out w' ((below_gb HB1.out (Nat.le_of_lt hlt)).trans hb))).mono ?_
  rintro e w2 ⟨hb, ⟨hz, v, rfl⟩ | ⟨n1, h1, t1, rfl, hr, rfl, hp⟩⟩
  · exact ⟨rfl, dmgEnd_no (rd_stop (pre := []) hz (by rw [HK.out]; simp [arK])), grownBy_trans HB1.out hb⟩
  have HR1 := Lib.hid hr
  have HP2 := Lib.hid hp
  have HB2 := Lib.hid (grownBy_trans HB1.out hb)
  have HX2 := Lib.hid ((gb_cell hb (show w.heap.size + 1 ≠ q by omega) (blkLt HX1.out)).trans HX1.out)
  have HY2 := Lib.hid ((gb_cell hb (show w.heap.size ≠ q by omega) (blkLt HY1.out)).trans HY1.out)
  have HS2 := Lib.hid (shortL_tail HS1.out)
  clear hr hp hb
  go_wp2_with fail
  refine (number_any q _ _ HP2.out HS2.out (fun w' hb => HE.out w' ((below_gb HB2.out (Nat.le_of_lt hlt)).trans hb))).mono ?_
  rintro e w3 ⟨hb, ⟨hz, v, rfl⟩ | ⟨n2, h2, t2, rfl, hr, rfl, hp⟩⟩
  · exact ⟨rfl, dmgEnd_no (rd_stop (pre := [h1]) hz (by rw [HK.out]; simp [arK])), grownBy_trans HB2.out hb⟩
  have HR2 := Lib.hid hr
  have HP3 := Lib.hid hp
  have HB3 := Lib.hid (grownBy_trans HB2.out hb)
  have HX3 := Lib.hid ((gb_cell hb (show w.heap.size + 1 ≠ q by omega) (blkLt HX2.out)).trans HX2.out)
  have HY3 := Lib.hid ((gb_cell hb (show w.heap.size ≠ q by omega) (blkLt HY2.out)).trans HY2.out)
  have HS3 := Lib.hid (shortL_tail HS2.out)
  clear hr hp hb
  obtain ⟨a, c, hg, hlc, hs, hne⟩ := HP3.out
  obtain ⟨hcq, hfq⟩ := heap_cellR hg
  obtain ⟨hcx, hfx⟩ := heap_cellR HX3.out
  obtain ⟨hcy, hfy⟩ := heap_cellR HY3.out
  have hq1 : ¬ q = w.heap.size + 1 := by omega
  have hq2 : ¬ w.heap.size + 1 = q := by omega
  have hq3 : ¬ w.heap.size = q := by omega
  clear hlc hs hne hg
  cases t2 with
  | cons x y =>
    have hlen : (x :: y).length = y.length + 1 := rfl
    have hlen2 : (0 : Int) < (((x :: y).length : Nat) : Int) := by rw [hlen]; omega
    have HZ := Lib.hid (rd_len (h := (ByteArray.data ⟨#[102, 97, 100, 101]⟩).toList) (t := bytesL (h1 :: h2 :: x :: y)) (by rw [HK.out]; simp [bytesL, arK]))
    clear hlen
    go_wp2_with fail
    refine ⟨rfl, dmgEnd_no HZ.out, ?_⟩
    refine gb_own HB3.out ?_
    iterate 6 (refine Below.setCell ?_ (by dsimp only; omega) _)
    exact Below.refl _ _
  | nil =>
    have hz1 : w.heap.size + 1 < w3.heap.size := blkLt HX3.out
    have hz0 : w.heap.size < w3.heap.size := by omega
    have HZ := Lib.hid (rd_ok (h := (ByteArray.data ⟨#[102, 97, 100, 101]⟩).toList) (t := bytesL [h1, h2]) (ns := [n1, n2]) (d := ⟨5, 0, 0, n1, 0, n2⟩) (by simp [bytesL, rnums, HR1.out, HR2.out]) (by rw [HK.out]; rfl))
    rcases Bool.eq_false_or_eq_true (dmOk 5 0 0 n1 0 n2) with hd | hd
    · have HD := Lib.hid hd
      clear hd
      go_wp2_with fail
      refine (isDamage_val HD.out).mono ?_
      rintro e w' ⟨rfl, hb⟩
      have HB : Hid (Below w.heap.size w3 w') := by
        show Below _ _ _
        refine Below.trans ?_ (hb.mono (by simp; omega))
        iterate 6 (refine Below.setCell ?_ (by dsimp only; omega) _)
        exact Below.refl _ _
      obtain ⟨hc, hf⟩ := bcell hb
      clear hb
      go_wp2_with fail
      refine bodyPost_ret (v := .agg #[.int .i64 5, .int .i64 0, .int .i64 0, .int .i64 n1, .int .i64 0, .int .i64 n2]) (by simp [results, Tryz.results32, go_sem, hc, hcy, hz0]) rfl ⟨dmgEnd_yes (d := ⟨5, 0, 0, n1, 0, n2⟩) (HZ.out.trans (if_pos (show dmOk _ _ _ _ _ _ = true from HD.out))), gb_own HB3.out ?_⟩
      iterate 6 (refine Below.setCell ?_ (by dsimp only; omega) _)
      exact HB.out
    · have HD := Lib.hid hd
      clear hd
      go_wp2_with fail
      refine (isDamage_val HD.out).mono ?_
      rintro e w' ⟨rfl, hb⟩
      have HB : Hid (Below w.heap.size w3 w') := by
        show Below _ _ _
        refine Below.trans ?_ (hb.mono (by simp; omega))
        iterate 6 (refine Below.setCell ?_ (by dsimp only; omega) _)
        exact Below.refl _ _
      obtain ⟨hc, hf⟩ := bcell hb
      clear hb
      go_wp2_with fail
      exact ⟨rfl, dmgEnd_no (HZ.out.trans (if_neg (by show ¬ dmOk _ _ _ _ _ _ = true; rw [HD.out]; decide))), gb_own HB3.out HB.out⟩

end Go.Proofs.YtpilkgcghlfdmaaGreatDoor
