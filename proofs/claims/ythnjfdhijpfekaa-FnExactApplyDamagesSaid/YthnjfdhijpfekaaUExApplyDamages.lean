import Derived.Test.YthnjfdhijpfekaaUDmL
namespace Go.Proofs.Ythnjfdhijpfekaa
open Go.RowKit

set_option maxRecDepth 100000 in
set_option maxHeartbeats 1000000 in
theorem exApplyDamages_any (x1 x2 : Int) (a : Option Addr) (xs : List Int) (c : Nat) (b : Option Addr) (ds : List Dm) (cq : Nat) (w : World) (hx : IntsAt w a xs) (lx : xs.length ≤ maxLen) (hds : DmsAt w b ds) (ldd : ds.length ≤ maxLen) :
    Calls Try.prog 6 #[.agg #[.int .i64 x1, .int .i64 x2, .slice a xs.length c], .slice b ds.length cq] w fun e w' => e = .returned (.bool true) ∧ Below w.heap.size w w' := by
  obtain ⟨y1, y2, zs, cd, hAr⟩ := apIs x1 x2 xs ds
  have HAR := Lib.hid hAr
  have HX := Lib.hid hx
  have HDS := Lib.hid hds
  have HLX := Lib.hid lx
  have HLD := Lib.hid ldd
  have hl0 := (Facts.start w).box #[.int .i64 x1, .int .i64 x2, .slice a xs.length c] 24
  have HL0 := Lib.hid hl0
  have hcc : (cd != cd) = false := by simp
  clear hx hAr lx hl0 hds ldd
  go_enter Try.func6, Try.ntmps6
  go_wp2_with fail
  refine (szRaster_any _ _ _ _ _ _ _ HLX.out (by omega) (by omega)).mono ?_
  rintro e w1 ⟨rfl, hb1⟩
  have HL1 := Lib.hid (HL0.out.below hb1)
  clear hb1 HL0
  have hA := boxF_cells (HL1.out.get 0 rfl)
  have hlo : ¬ leftOf 1048576 xs.length < 0 → (xs.length : Int) ≤ 1048576 := by unfold leftOf; split <;> omega
  have hl1 : leftOf 1048576 xs.length ≤ 1048576 := by unfold leftOf; split <;> omega
  have hl2 : -1 ≤ leftOf 1048576 xs.length := by unfold leftOf; split <;> omega
  generalize leftOf 1048576 xs.length = lf at *
  by_cases hl : lf < 0
  · go_wp2_with fail
    go_ret
    exact ⟨rfl, HL1.out.get 1 rfl⟩
  · have hsz := hlo hl
    clear hlo
    go_wp2_with fail
    refine (szDamageS_any _ _ _ _ _ HLD.out (by omega) (by omega)).mono ?_
    rintro e w1 ⟨rfl, rfl⟩
    have hlo : ¬ leftOf lf ds.length < 0 → (ds.length : Int) ≤ 1048576 := by unfold leftOf; split <;> omega
    generalize leftOf lf ds.length = lf2 at *
    by_cases hl3 : lf2 < 0
    · go_wp2_with fail
      go_ret
      exact ⟨rfl, HL1.out.get 1 rfl⟩
    · have hsd := hlo hl3
      clear hlo
      have hzl := HAR.out.len
      have HZ : Hid (zs.length ≤ maxLen) := Lib.hid (by unfold maxLen; omega)
      go_wp2_with fail
      refine (toRaster_f HL1.out (HX.out.below (show Below w.heap.size w w1 from HL1.out.get 1 rfl)) (by omega)).mono ?_
      rintro e wA ⟨aT, cT, rfl, hF, _⟩
      have HLA := Lib.hid hF
      clear hF
      go_wp2_with fail
      refine (toDamageS_f HLA.out (HDS.out.below (show Below w.heap.size w wA from HLA.out.get 2 rfl)) (by omega)).mono ?_
      rintro e wB ⟨gT, csT, rfl, hF, hsT, hcT, _⟩
      have HLB := Lib.hid hF
      have HCT := Lib.hid hcT
      have HOT := Lib.hid (HLB.out.get 1 rfl)
      clear hF hsT hcT
      go_wp2_with fail
      refine (specApplyDamages_any x1 x2 aT xs cT _ ds _ _ (ownF_ints HOT.out) (OwnI.slc HOT.out.1) HLX.out (dms_box (HLB.out.get 0 rfl) HCT.out) (by omega)).mono ?_
      rw [HAR.out.eq]
      rintro e wC ⟨aS, cS, rfl, ho, hb⟩
      have hF := ((HLB.out.own hb ho).drop2.drop2)
      clear hA ho hb
      have hA := boxF_cells (hF.get 1 rfl)
      have hltA : w.heap.size < wC.heap.size := hF.top 1 rfl
      have hlb := (hF).box #[.int .i64 y1, .int .i64 y2, .slice aS zs.length cS] 28
      obtain ⟨hiS, hhi⟩ : ∃ n, wC.heap.size = n := ⟨_, rfl⟩
      obtain ⟨loS, hlo⟩ : ∃ n, wB.heap.size = n := ⟨_, rfl⟩
      have HL5 := Lib.hid hlb
      rw [hhi, hlo] at HL5
      have HHI := Lib.hid hhi
      clear hF hlb hhi hlo
      go_wp2_with fail
      rw [HHI.out]
      obtain ⟨w5, hww⟩ : ∃ W, wC.alloc (.cells #[.int .i64 y1, .int .i64 y2, .slice aS zs.length cS] 28 (0, 0)) = W := ⟨_, rfl⟩
      rw [hww] at HL5 ⊢
      clear hww HHI
      clear hA hltA
      refine (toRaster_f HL5.out (HX.out.below (show Below w.heap.size w w5 from HL5.out.get 3 rfl)) (by omega)).mono ?_
      rintro e w3 ⟨aX, cX, rfl, hF, _⟩
      have hlb := (hF).box #[.int .i64 x1, .int .i64 x2, .slice aX xs.length cX] 28
      obtain ⟨hiX, hhi⟩ : ∃ n, w3.heap.size = n := ⟨_, rfl⟩
      obtain ⟨loX, hlo⟩ : ∃ n, w5.heap.size = n := ⟨_, rfl⟩
      have HL6 := Lib.hid hlb
      rw [hhi, hlo] at HL6
      have HHI := Lib.hid hhi
      clear hF hlb hhi hlo
      go_wp2_with fail
      rw [HHI.out]
      obtain ⟨w6, hww⟩ : ∃ W, w3.alloc (.cells #[.int .i64 x1, .int .i64 x2, .slice aX xs.length cX] 28 (0, 0)) = W := ⟨_, rfl⟩
      rw [hww] at HL6 ⊢
      clear hww HHI
      refine (toDamageS_f HL6.out (HDS.out.below (show Below w.heap.size w w6 from HL6.out.get 5 rfl)) (by omega)).mono ?_
      rintro e w7 ⟨gD, csD, rfl, hF, hsD, hcD, _⟩
      have HL7 := Lib.hid hF
      have HSD := Lib.hid hsD
      have HCD := Lib.hid hcD
      clear hF hsD hcD
      have hX := boxF_cells (HL7.out.get 1 rfl)
      have HOX := Lib.hid (HL7.out.get 2 rfl)
      go_wp2_with fail
      refine (applyDamages_any x1 x2 aX xs cX _ ds _ _ (ownF_ints HOX.out) HLX.out (dms_box (HL7.out.get 0 rfl) HCD.out) (by omega)).mono ?_
      rw [HAR.out.eq]
      rintro e w8 ⟨aG, cG, rfl, ho, hb⟩
      have hF := HL7.out.own hb ho
      clear hX ho hb HOX
      have hS := boxF_cells (hF.get 4 rfl)
      have hltS : hiS < w8.heap.size := hF.top 4 rfl
      have hlb := (hF).box #[.int .i64 y1, .int .i64 y2, .slice aG zs.length cG] 28
      obtain ⟨hiG, hhi⟩ : ∃ n, w8.heap.size = n := ⟨_, rfl⟩
      obtain ⟨loG, hlo⟩ : ∃ n, w7.heap.size = n := ⟨_, rfl⟩
      have HL8 := Lib.hid hlb
      rw [hhi, hlo] at HL8
      have HHI := Lib.hid hhi
      clear hF hlb hhi hlo
      go_wp2_with fail
      rw [HHI.out]
      obtain ⟨w8b, hww⟩ : ∃ W, w8.alloc (.cells #[.int .i64 y1, .int .i64 y2, .slice aG zs.length cG] 28 (0, 0)) = W := ⟨_, rfl⟩
      rw [hww] at HL8 ⊢
      clear hww HHI
      clear hS hltS
      refine (eqRaster_f HL8.out (ownF_ints (HL8.out.get 1 rfl)) (ownF_ints (HL8.out.get 6 rfl)) HZ.out).mono ?_
      rintro e w9 ⟨rfl, hF, _⟩
      have HL9 := Lib.hid hF
      clear hF
      go_wp2_with fail
      obtain ⟨B, hBe⟩ : ∃ B, w9.heap.size = B := ⟨_, rfl⟩
      have HB : Hid (∀ G ∈ [Fact.box hiG #[.int .i64 y1, .int .i64 y2, .slice aG zs.length cG] 28, Fact.own loG hiG (.slice aG zs.length cG) zs, Fact.box gD csD 32, Fact.box hiX #[.int .i64 x1, .int .i64 x2, .slice aX xs.length cX] 28, Fact.own loX hiX (.slice aX xs.length cX) xs, Fact.box hiS #[.int .i64 y1, .int .i64 y2, .slice aS zs.length cS] 28, Fact.own loS hiS (.slice aS zs.length cS) zs, Fact.box w.heap.size #[.int .i64 x1, .int .i64 x2, .slice a xs.length c] 24, Fact.below w], G.hi ≤ B) := Lib.hid (hBe ▸ facts_all HL9.out)
      have HBe := Lib.hid hBe
      clear hBe
      refine wp_region_rs (Keep := KeepX) [54, 55, 56, 57, 58] (fun us => _)
        [xEq (.agg #[.int .i64 x1, .int .i64 x2, .slice aX xs.length cX]),
   xEq (.agg #[.int .i64 x1, .int .i64 x2, .slice a xs.length c]),
   xRas B x1 x2 xs,
   xEq (.bool true),
   xEq (.bool false)]
        (StY [Fact.box hiG #[.int .i64 y1, .int .i64 y2, .slice aG zs.length cG] 28, Fact.own loG hiG (.slice aG zs.length cG) zs, Fact.box gD csD 32, Fact.box hiX #[.int .i64 x1, .int .i64 x2, .slice aX xs.length cX] 28, Fact.own loX hiX (.slice aX xs.length cX) xs, Fact.box hiS #[.int .i64 y1, .int .i64 y2, .slice aS zs.length cS] 28, Fact.own loS hiS (.slice aS zs.length cS) zs, Fact.box w.heap.size #[.int .i64 x1, .int .i64 x2, .slice a xs.length c] 24, Fact.below w] B) (by kernel_rfl) (by kernel_rfl) (Nat.le_of_ble_eq_true rfl) (fun us => by simp [over, List.mapIdx_cons]; exact rfl) ?_ (fun w => Below.refl _ _) ?_ ?_
      · exact ⟨HL9.out.drew, Nat.le_of_eq HBe.out.symm⟩
      · refine ⟨?_, ?_, ?_, ?_, ?_, trivial⟩
        all_goals (intro us wr hst hd; rw [if_pos (by kernel_rfl)]; dsimp only)
        · clear hd
          have hA := boxF_cells (hst.1.get 3 rfl)
          go_simp
          exact rx_same hst rfl
        · clear hd
          have hA := boxF_cells (hst.1.get 7 rfl)
          go_simp
          exact rx_same hst rfl
        · have d55 : us 55 = .agg #[.int .i64 x1, .int .i64 x2, .slice a xs.length c] := hd ⟨1, .data⟩ (by simp) rfl
          clear hd
          go_simp
          exact rx_call hst ((toRaster_any x1 x2 a xs c _ (HX.out.below (show Below w.heap.size w wr from hst.1.get 8 rfl)) (by omega)).mono fun e w' ⟨a', c', he, ho, hb⟩ => ⟨_, he, hb, a', c', rfl, ho.weak hst.2⟩)
        · have d54 : us 54 = .agg #[.int .i64 x1, .int .i64 x2, .slice aX xs.length cX] := hd ⟨0, .data⟩ (by simp) rfl
          have d56 : RasV2 B x1 x2 xs (us 56) wr := hd ⟨2, .data⟩ (by simp) rfl
          clear hd
          obtain ⟨aY, cY, eY, hoY⟩ := d56
          have HOY := Lib.hid hoY
          have HOX := Lib.hid (hst.1.get 4 rfl)
          clear hoY
          go_simp
          exact rx_val hst (eqRaster_same (ownF_ints HOX.out) HOY.out.ints (by unfold maxLen; omega))
        · have d57 : us 57 = .bool true := hd ⟨3, .data⟩ (by simp) rfl
          clear hd
          go_simp
          exact rx_same hst rfl
      · intro us wr hst hd
        have db : us 58 = .bool false := hd 4 (by simp)
        have HL10 := Lib.hid hst.1
        clear hd hst HB
        simp only [List.drop, List.length]
        refine wpList_nil ?_
        rw [db]
        go_wp2_with fail
        clear db
        clear HBe
        refine (toDamageS_f HL10.out (HDS.out.below (show Below w.heap.size w wr from HL10.out.get 8 rfl)) (by omega)).mono ?_
        rintro e wq ⟨gQ, csQ, rfl, hF, hsQ, hcQ, _⟩
        have HLQ := Lib.hid hF
        have HCQ := Lib.hid hcQ
        clear hF hsQ hcQ
        go_wp2_with fail
        refine (eqDamageS_f HLQ.out (dms_box (HLQ.out.get 3 rfl) HCD.out) (dms_box (HLQ.out.get 0 rfl) HCQ.out) (by omega)).mono ?_
        rintro e wq2 ⟨rfl, hF, _⟩
        have HLR := Lib.hid hF.tail
        clear hF
        have hX := boxF_cells (HLR.out.get 3 rfl)
        go_wp2_with fail
        refine (markRaster_f HLR.out 4 rfl (by omega) (by omega) (by omega)).mono ?_
        rintro e w10 ⟨rfl, hF, _⟩
        have HL11a := Lib.hid (show Facts [Fact.box hiG #[.int .i64 y1, .int .i64 y2, .slice aG zs.length cG] 28, Fact.own loG hiG (.slice aG zs.length cG) zs, Fact.box gD csD 32, Fact.box hiX #[.int .i64 x1, .int .i64 x2, .slice aX xs.length cX] 28, Fact.own loX hiX (.slice aX xs.length cX) (marks 1 xs.length), Fact.box hiS #[.int .i64 y1, .int .i64 y2, .slice aS zs.length cS] 28, Fact.own loS hiS (.slice aS zs.length cS) zs, Fact.box w.heap.size #[.int .i64 x1, .int .i64 x2, .slice a xs.length c] 24, Fact.below w] w10 from hF)
        clear hF hX
        go_wp2_with fail
        refine (markDamageS_f HL11a.out 2 rfl HSD.out (by omega) (by omega) (by omega)).mono ?_
        rintro e w11 ⟨rfl, csE, hF, _⟩
        have HL11 := Lib.hid (show Facts [Fact.box hiG #[.int .i64 y1, .int .i64 y2, .slice aG zs.length cG] 28, Fact.own loG hiG (.slice aG zs.length cG) zs, Fact.box gD csE 32, Fact.box hiX #[.int .i64 x1, .int .i64 x2, .slice aX xs.length cX] 28, Fact.own loX hiX (.slice aX xs.length cX) (marks 1 xs.length), Fact.box hiS #[.int .i64 y1, .int .i64 y2, .slice aS zs.length cS] 28, Fact.own loS hiS (.slice aS zs.length cS) zs, Fact.box w.heap.size #[.int .i64 x1, .int .i64 x2, .slice a xs.length c] 24, Fact.below w] w11 from hF)
        clear hF
        have hG := boxF_cells (HL11.out.get 0 rfl)
        have hS := boxF_cells (HL11.out.get 5 rfl)
        have hk0 : ¬ (1 : Int) + xs.length + 6 * ds.length < 0 := by omega
        go_wp2_with fail
        refine (eqRaster_f HL11.out (ownF_ints (HL11.out.get 1 rfl)) (ownF_ints (HL11.out.get 6 rfl)) HZ.out).mono ?_
        rintro e w12 ⟨rfl, hF, _⟩
        have HL12 := Lib.hid hF
        clear hF hG hS
        have hG := boxF_cells (HL12.out.get 0 rfl)
        go_wp2_with fail
        refine (markRaster_f HL12.out 1 rfl (by omega) (by omega) (by omega)).mono ?_
        rintro e w13 ⟨rfl, hF, _⟩
        have HL13 := Lib.hid (show Facts [Fact.box hiG #[.int .i64 y1, .int .i64 y2, .slice aG zs.length cG] 28, Fact.own loG hiG (.slice aG zs.length cG) (marks 1 zs.length), Fact.box gD csE 32, Fact.box hiX #[.int .i64 x1, .int .i64 x2, .slice aX xs.length cX] 28, Fact.own loX hiX (.slice aX xs.length cX) (marks 1 xs.length), Fact.box hiS #[.int .i64 y1, .int .i64 y2, .slice aS zs.length cS] 28, Fact.own loS hiS (.slice aS zs.length cS) zs, Fact.box w.heap.size #[.int .i64 x1, .int .i64 x2, .slice a xs.length c] 24, Fact.below w] w13 from hF)
        clear hF hG
        have hG := boxF_cells (HL13.out.get 0 rfl)
        have hz0 : ¬ (1 : Int) + zs.length < 0 := by omega
        have hmm : ((1 : Int) + ↑zs.length != 1 + ↑zs.length) = false := by simp
        go_wp2_with fail
        refine (heldRaster_f HL13.out 1 rfl (by omega) (by omega) (by omega)).mono ?_
        rintro e w14 ⟨rfl, hF, _⟩
        have HL14 := Lib.hid hF
        clear hF hG
        have hA := boxF_cells (HL14.out.get 7 rfl)
        go_wp2_with fail
        refine (toRaster_f HL14.out (HX.out.below (show Below w.heap.size w w14 from HL14.out.get 8 rfl)) (by omega)).mono ?_
        rintro e wA2 ⟨aT, cT, rfl, hF, _⟩
        have HLA := Lib.hid hF
        clear hF
        go_wp2_with fail
        refine (toDamageS_f HLA.out (HDS.out.below (show Below w.heap.size w wA2 from HLA.out.get 9 rfl)) (by omega)).mono ?_
        rintro e wB2 ⟨gT, csT, rfl, hF, hsT, hcT, _⟩
        have HLB := Lib.hid hF
        have HCT := Lib.hid hcT
        have HOT := Lib.hid (HLB.out.get 1 rfl)
        clear hF hsT hcT
        go_wp2_with fail
        refine (applyDamages_any x1 x2 aT xs cT _ ds _ _ (ownF_ints HOT.out) HLX.out (dms_box (HLB.out.get 0 rfl) HCT.out) (by omega)).mono ?_
        rw [HAR.out.eq]
        rintro e wC2 ⟨aH, cH, rfl, ho, hb⟩
        have hF := ((HLB.out.own hb ho).drop2.drop2)
        clear hA ho hb
        have hS := boxF_cells (hF.get 6 rfl)
        have hltS : hiS < wC2.heap.size := hF.top 6 rfl
        have hlb := (hF).box #[.int .i64 y1, .int .i64 y2, .slice aH zs.length cH] 28
        obtain ⟨hiH, hhi⟩ : ∃ n, wC2.heap.size = n := ⟨_, rfl⟩
        obtain ⟨loH, hlo⟩ : ∃ n, wB2.heap.size = n := ⟨_, rfl⟩
        have HL15 := Lib.hid hlb
        rw [hhi, hlo] at HL15
        have HHI := Lib.hid hhi
        clear hF hlb hhi hlo
        go_wp2_with fail
        rw [HHI.out]
        obtain ⟨w15, hww⟩ : ∃ W, wC2.alloc (.cells #[.int .i64 y1, .int .i64 y2, .slice aH zs.length cH] 28 (0, 0)) = W := ⟨_, rfl⟩
        rw [hww] at HL15 ⊢
        clear hww HHI
        clear hS hltS
        refine (eqRaster_f HL15.out (ownF_ints (HL15.out.get 1 rfl)) (ownF_ints (HL15.out.get 8 rfl)) HZ.out).mono ?_
        rintro e w16 ⟨rfl, hF, _⟩
        have HL16 := Lib.hid hF
        clear hF
        have hG := boxF_cells (HL16.out.get 2 rfl)
        go_wp2_with fail
        refine (heldRaster_f HL16.out 3 rfl (by omega) (by omega) (by omega)).mono ?_
        rintro e w17 ⟨rfl, hF, _⟩
        have HL17 := Lib.hid hF
        clear hF hG
        go_wp2_with fail
        go_ret
        exact ⟨rfl, HL17.out.get 10 rfl⟩

end Go.Proofs.Ythnjfdhijpfekaa
