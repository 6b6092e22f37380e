import Derived.Test.YthnjfdhijpfekaaUSpR
namespace Go.Proofs.Ythnjfdhijpfekaa
open Go.RowKit

set_option maxRecDepth 100000 in
set_option maxHeartbeats 1000000 in
theorem exApplyDamage_any (x1 x2 : Int) (a : Option Addr) (xs : List Int) (c : Nat) (k r l t v g : Int) (w : World) (hx : IntsAt w a xs) (lx : xs.length ≤ maxLen) :
    Calls Try.prog 3 #[.agg #[.int .i64 x1, .int .i64 x2, .slice a xs.length c], .agg #[.int .i64 k, .int .i64 r, .int .i64 l, .int .i64 t, .int .i64 v, .int .i64 g]] w fun e w' => e = .returned (.bool true) ∧ Below w.heap.size w w' := by
  obtain ⟨y1, y2, zs, cd, hAr⟩ := apIs x1 x2 xs [⟨k, r, l, t, v, g⟩]
  have HAR := Lib.hid hAr
  have HX := Lib.hid hx
  have HLX := Lib.hid lx
  have hl0 := ((Facts.start w).box #[.int .i64 x1, .int .i64 x2, .slice a xs.length c] 24).box #[.int .i64 k, .int .i64 r, .int .i64 l, .int .i64 t, .int .i64 v, .int .i64 g] 26
  rw [World.size_alloc] at hl0
  have HL0 := Lib.hid hl0
  have hcc : (cd != cd) = false := by simp
  clear hx hAr lx hl0
  go_enter Try.func3, Try.ntmps3
  go_wp2_with fail
  refine (szRaster_any _ _ _ _ _ _ _ HLX.out (by omega) (by omega)).mono ?_
  rintro e w1 ⟨rfl, hb1⟩
  have HL1 := Lib.hid (HL0.out.below hb1)
  clear hb1 HL0
  have hA := boxF_cells (HL1.out.get 1 rfl)
  have hR := boxF_cells (HL1.out.get 0 rfl)
  have hlo : ¬ leftOf 1048576 xs.length < 0 → (xs.length : Int) ≤ 1048576 := by unfold leftOf; split <;> omega
  generalize leftOf 1048576 xs.length = lf at *
  by_cases hl : lf < 0
  · go_wp2_with fail
    go_ret
    exact ⟨rfl, HL1.out.get 2 rfl⟩
  · have hsz := hlo hl
    clear hlo
    have hzl := HAR.out.len
    have HZ : Hid (zs.length ≤ maxLen) := Lib.hid (by unfold maxLen; omega)
    go_wp2_with fail
    clear hA hR
    obtain ⟨B, hBe⟩ : ∃ B, w1.heap.size = B := ⟨_, rfl⟩
    have HB : Hid (∀ G ∈ [Fact.box (w.heap.size + 1) #[.int .i64 k, .int .i64 r, .int .i64 l, .int .i64 t, .int .i64 v, .int .i64 g] 26, Fact.box w.heap.size #[.int .i64 x1, .int .i64 x2, .slice a xs.length c] 24, Fact.below w], G.hi ≤ B) := Lib.hid (hBe ▸ facts_all HL1.out)
    have HBe := Lib.hid hBe
    clear hBe
    refine wp_region_rsF (Keep := KeepX) 7 [22, 23, 24, 25, 26, 21, 27, 28, 6] (fun us => _)
      [xEq (.agg #[.int .i64 x1, .int .i64 x2, .slice a xs.length c]),
   xRas B x1 x2 xs,
   xEq (.agg #[.int .i64 k, .int .i64 r, .int .i64 l, .int .i64 t, .int .i64 v, .int .i64 g]),
   xEq (.agg #[.int .i64 k, .int .i64 r, .int .i64 l, .int .i64 t, .int .i64 v, .int .i64 g]),
   xRasT B y1 y2 zs cd,
   xRasT B y1 y2 zs cd,
   xRas B y1 y2 zs,
   xEq (.int .i64 cd),
   xBox B #[.int .i64 0, .int .i64 0, .slice none 0 0] 28]
      (StY [Fact.box (w.heap.size + 1) #[.int .i64 k, .int .i64 r, .int .i64 l, .int .i64 t, .int .i64 v, .int .i64 g] 26, Fact.box w.heap.size #[.int .i64 x1, .int .i64 x2, .slice a xs.length c] 24, Fact.below w] B) _ _ 28 _ _ 28 (by kernel_rfl) (by kernel_rfl) (fun us => by simp [over, List.mapIdx_cons]; exact rfl) ?_ (fun w => Below.refl _ _) rfl rfl rfl rfl rfl rfl rfl (by kernel_rfl) (by kernel_rfl) (fun us v => by exact ⟨rfl, rfl⟩) ?_ ?_ ?_ ?_
    · exact ⟨HL1.out.drew, Nat.le_of_eq HBe.out.symm⟩
    · refine ⟨?_, ?_, ?_, ?_, ?_, ?_, ?_, ?_, ?_, trivial⟩
      all_goals (intro us wr hst hd; rw [if_pos (by kernel_rfl)]; dsimp only)
      · clear hd
        have hA := boxF_cells (hst.1.get 1 rfl)
        go_simp
        exact rx_same hst rfl
      · have d22 : us 22 = .agg #[.int .i64 x1, .int .i64 x2, .slice a xs.length c] := hd ⟨0, .data⟩ (by simp) rfl
        clear hd
        go_simp
        exact rx_call hst ((toRaster_any x1 x2 a xs c _ (HX.out.below (show Below w.heap.size w wr from hst.1.get 2 rfl)) (by omega)).mono fun e w' ⟨a', c', he, ho, hb⟩ => ⟨_, he, hb, a', c', rfl, ho.weak hst.2⟩)
      · clear hd
        have hA := boxF_cells (hst.1.get 0 rfl)
        go_simp
        exact rx_same hst rfl
      · have d24 : us 24 = .agg #[.int .i64 k, .int .i64 r, .int .i64 l, .int .i64 t, .int .i64 v, .int .i64 g] := hd ⟨2, .data⟩ (by simp) rfl
        clear hd
        go_simp
        exact rx_val hst (toDamage_any k r l t g v _)
      · have d23 : RasV2 B x1 x2 xs (us 23) wr := hd ⟨1, .data⟩ (by simp) rfl
        have d25 : us 25 = .agg #[.int .i64 k, .int .i64 r, .int .i64 l, .int .i64 t, .int .i64 v, .int .i64 g] := hd ⟨3, .data⟩ (by simp) rfl
        clear hd
        obtain ⟨aX, cX, eX, hoX⟩ := d23
        have HOX := Lib.hid hoX
        clear hoX
        go_simp
        refine rx_call hst ?_
        refine (specApplyDamage_any x1 x2 aX xs cX k r l t v g _ HOX.out.ints HOX.out.slc HLX.out).mono ?_
        rw [HAR.out.eq]
        rintro e w' ⟨a', c', he, ho, hb⟩
        exact ⟨_, he, hb, a', c', rfl, ho.weak hst.2⟩
      · have d26 : RasT B y1 y2 zs cd (us 26) wr := hd ⟨4, .data⟩ (by simp) rfl
        clear hd
        obtain ⟨aS, cS, eS, hoS⟩ := d26
        have HOS := Lib.hid hoS
        clear hoS
        go_simp
        exact rx_same hst ⟨aS, cS, rfl, HOS.out⟩
      · have d21 : RasT B y1 y2 zs cd (us 21) wr := hd ⟨5, .data⟩ (by simp) rfl
        clear hd
        obtain ⟨aS, cS, eS, hoS⟩ := d21
        have HOS := Lib.hid hoS
        clear hoS
        go_simp
        exact rx_same hst ⟨aS, cS, rfl, HOS.out⟩
      · have d21 : RasT B y1 y2 zs cd (us 21) wr := hd ⟨5, .data⟩ (by simp) rfl
        clear hd
        obtain ⟨aS, cS, eS, hoS⟩ := d21
        clear hoS
        go_simp
        exact rx_same hst rfl
      · clear hd
        go_simp
        exact rx_new hst
    · intro us wr hst hd
      have dv : RasV2 B y1 y2 zs (us 27) wr := hd 6 (by simp) (by decide)
      have db : BoxV B #[.int .i64 0, .int .i64 0, .slice none 0 0] 28 (us 6) wr := hd 8 (by simp) (by decide)
      obtain ⟨aS, cS, ev, hoS⟩ := dv
      obtain ⟨bS, eb, hbB, hgS⟩ := db
      exact ⟨bS, _, _, _, eb, ev, hgS, by kernel_rfl, rfl, by kernel_rfl⟩
    · intro us wr hst hd
      have dt : RasT B y1 y2 zs cd (us 21) wr := hd 5 (by simp) (by decide)
      obtain ⟨aS, cS, et, hoS⟩ := dt
      clear hoS hd
      refine ⟨.int .i64 cd, fun w' => ?_, (show upd us (some 28) (.int .i64 cd) 28 = .int .i64 cd from rfl)⟩
      go_simp
      try rfl
    · intro us wr hst hd
      have dv : RasV2 B y1 y2 zs (us 27) wr := hd 6 (by simp)
      have dc : us 28 = .int .i64 cd := hd 7 (by simp)
      have db : BoxV B #[.int .i64 0, .int .i64 0, .slice none 0 0] 28 (us 6) wr := hd 8 (by simp)
      clear hd
      obtain ⟨aS, cS, eSv, hoS⟩ := dv
      obtain ⟨bS, eSb, hbSB, hgS⟩ := db
      obtain ⟨loS, hiS, hfc⟩ := facts_boxOwn hst HB.out hbSB hgS hoS (by decide)
      have HLz := Lib.hid (facts_row hfc #[.int .i64 y1, .int .i64 y2, .slice aS zs.length cS])
      clear hfc hoS hst HB hbSB
      simp only [List.drop, List.length]
      refine wpList_store_row rfl 28 _ _ rfl bS #[.int .i64 y1, .int .i64 y2, .slice aS zs.length cS] eSb eSv _ _ hgS (by kernel_rfl) rfl (by kernel_rfl) ?_
      obtain ⟨w5, hww⟩ : ∃ W, wr.setRow bS #[.int .i64 y1, .int .i64 y2, .slice aS zs.length cS] = W := ⟨_, rfl⟩
      rw [hww] at HLz
      rw [hww]
      have HL5 := Lib.hid HLz.out
      clear hww HLz hgS
      have hA := boxF_cells (HL5.out.get 3 rfl)
      go_wp2_with fail
      clear dc eSv eSb
      clear HBe
      refine (toRaster_f HL5.out (HX.out.below (show Below w.heap.size w w5 from HL5.out.get 4 rfl)) (by omega)).mono ?_
      rintro e w3 ⟨aX, cX, rfl, hF, hs3⟩
      have hl6 : Facts (Fact.box w3.heap.size _ 28 :: _) _ := hF.box #[.int .i64 x1, .int .i64 x2, .slice aX xs.length cX] 28
      obtain ⟨hiX, hhi⟩ : ∃ n, w3.heap.size = n := ⟨_, rfl⟩
      obtain ⟨loX, hlo⟩ : ∃ n, w5.heap.size = n := ⟨_, rfl⟩
      have HL6 := Lib.hid hl6
      rw [hhi, hlo] at HL6
      have HHI := Lib.hid hhi
      clear hF hl6 hA hs3 hhi hlo
      go_wp2_with fail
      rw [HHI.out]
      obtain ⟨w6, hw6⟩ : ∃ W, w3.alloc (.cells #[.int .i64 x1, .int .i64 x2, .slice aX xs.length cX] 28 (0, 0)) = W := ⟨_, rfl⟩
      rw [hw6] at HL6 ⊢
      clear hw6 HHI w3
      obtain ⟨B, hBe⟩ : ∃ B, w6.heap.size = B := ⟨_, rfl⟩
      have HB : Hid (∀ G ∈ [Fact.box hiX #[.int .i64 x1, .int .i64 x2, .slice aX xs.length cX] 28, Fact.own loX hiX (.slice aX xs.length cX) xs, Fact.box bS #[.int .i64 y1, .int .i64 y2, .slice aS zs.length cS] 28, Fact.own loS hiS (.slice aS zs.length cS) zs, Fact.box (w.heap.size + 1) #[.int .i64 k, .int .i64 r, .int .i64 l, .int .i64 t, .int .i64 v, .int .i64 g] 26, Fact.box w.heap.size #[.int .i64 x1, .int .i64 x2, .slice a xs.length c] 24, Fact.below w], G.hi ≤ B) := Lib.hid (hBe ▸ facts_all HL6.out)
      have HBe := Lib.hid hBe
      clear hBe
      refine wp_region_rsF (Keep := KeepX) 6 [32, 33, 34, 35, 31, 36, 37, 9] (fun us => _)
        [xEq (.agg #[.int .i64 x1, .int .i64 x2, .slice aX xs.length cX]),
   xEq (.agg #[.int .i64 k, .int .i64 r, .int .i64 l, .int .i64 t, .int .i64 v, .int .i64 g]),
   xEq (.agg #[.int .i64 k, .int .i64 r, .int .i64 l, .int .i64 t, .int .i64 v, .int .i64 g]),
   xRasT B y1 y2 zs cd,
   xRasT B y1 y2 zs cd,
   xRas B y1 y2 zs,
   xEq (.int .i64 cd),
   xBox B #[.int .i64 0, .int .i64 0, .slice none 0 0] 28]
        (StY [Fact.box hiX #[.int .i64 x1, .int .i64 x2, .slice aX xs.length cX] 28, Fact.own loX hiX (.slice aX xs.length cX) xs, Fact.box bS #[.int .i64 y1, .int .i64 y2, .slice aS zs.length cS] 28, Fact.own loS hiS (.slice aS zs.length cS) zs, Fact.box (w.heap.size + 1) #[.int .i64 k, .int .i64 r, .int .i64 l, .int .i64 t, .int .i64 v, .int .i64 g] 26, Fact.box w.heap.size #[.int .i64 x1, .int .i64 x2, .slice a xs.length c] 24, Fact.below w] B) _ _ 28 _ _ 37 (by kernel_rfl) (by kernel_rfl) (fun us => by simp [over, List.mapIdx_cons]; exact rfl) ?_ (fun w => Below.refl _ _) rfl rfl rfl rfl rfl rfl rfl (by kernel_rfl) (by kernel_rfl) (fun us v => by exact ⟨rfl, rfl⟩) ?_ ?_ ?_ ?_
      · exact ⟨HL6.out.drew, Nat.le_of_eq HBe.out.symm⟩
      · refine ⟨?_, ?_, ?_, ?_, ?_, ?_, ?_, ?_, trivial⟩
        all_goals (intro us wr hst hd; rw [if_pos (by kernel_rfl)]; dsimp only)
        · clear hd
          have hA := boxF_cells (hst.1.get 0 rfl)
          go_simp
          exact rx_same hst rfl
        · clear hd
          have hA := boxF_cells (hst.1.get 4 rfl)
          go_simp
          exact rx_same hst rfl
        · have d33 : us 33 = .agg #[.int .i64 k, .int .i64 r, .int .i64 l, .int .i64 t, .int .i64 v, .int .i64 g] := hd ⟨1, .data⟩ (by simp) rfl
          clear hd
          go_simp
          exact rx_val hst (toDamage_any k r l t g v _)
        · have d32 : us 32 = .agg #[.int .i64 x1, .int .i64 x2, .slice aX xs.length cX] := hd ⟨0, .data⟩ (by simp) rfl
          have d34 : us 34 = .agg #[.int .i64 k, .int .i64 r, .int .i64 l, .int .i64 t, .int .i64 v, .int .i64 g] := hd ⟨2, .data⟩ (by simp) rfl
          clear hd
          have HOX := Lib.hid (hst.1.get 1 rfl)
          go_simp
          refine rx_call hst ?_
          refine (applyDamage_any x1 x2 aX xs cX k r l t v g _ (ownF_ints HOX.out) HLX.out).mono ?_
          rw [HAR.out.eq]
          rintro e w' ⟨a', c', he, ho, hb⟩
          exact ⟨_, he, hb, a', c', rfl, ho.weak hst.2⟩
        · have d35 : RasT B y1 y2 zs cd (us 35) wr := hd ⟨3, .data⟩ (by simp) rfl
          clear hd
          obtain ⟨aS, cS, eS, hoS⟩ := d35
          have HOS := Lib.hid hoS
          clear hoS
          go_simp
          exact rx_same hst ⟨aS, cS, rfl, HOS.out⟩
        · have d31 : RasT B y1 y2 zs cd (us 31) wr := hd ⟨4, .data⟩ (by simp) rfl
          clear hd
          obtain ⟨aS, cS, eS, hoS⟩ := d31
          have HOS := Lib.hid hoS
          clear hoS
          go_simp
          exact rx_same hst ⟨aS, cS, rfl, HOS.out⟩
        · have d31 : RasT B y1 y2 zs cd (us 31) wr := hd ⟨4, .data⟩ (by simp) rfl
          clear hd
          obtain ⟨aS, cS, eS, hoS⟩ := d31
          clear hoS
          go_simp
          exact rx_same hst rfl
        · clear hd
          go_simp
          exact rx_new hst
      · intro us wr hst hd
        have dv : RasV2 B y1 y2 zs (us 36) wr := hd 5 (by simp) (by decide)
        have db : BoxV B #[.int .i64 0, .int .i64 0, .slice none 0 0] 28 (us 9) wr := hd 7 (by simp) (by decide)
        obtain ⟨aS, cS, ev, hoS⟩ := dv
        obtain ⟨bS, eb, hbB, hgS⟩ := db
        exact ⟨bS, _, _, _, eb, ev, hgS, by kernel_rfl, rfl, by kernel_rfl⟩
      · intro us wr hst hd
        have dt : RasT B y1 y2 zs cd (us 31) wr := hd 4 (by simp) (by decide)
        obtain ⟨aS, cS, et, hoS⟩ := dt
        clear hoS hd
        refine ⟨.int .i64 cd, fun w' => ?_, (show upd us (some 37) (.int .i64 cd) 37 = .int .i64 cd from rfl)⟩
        go_simp
        try rfl
      · intro us wr hst hd
        have dv : RasV2 B y1 y2 zs (us 36) wr := hd 5 (by simp)
        have dc : us 37 = .int .i64 cd := hd 6 (by simp)
        have db : BoxV B #[.int .i64 0, .int .i64 0, .slice none 0 0] 28 (us 9) wr := hd 7 (by simp)
        clear hd
        obtain ⟨aG, cG, eGv, hoG⟩ := dv
        obtain ⟨bG, eGb, hbGB, hgG⟩ := db
        obtain ⟨loG, hiG, hfc⟩ := facts_boxOwn hst HB.out hbGB hgG hoG (by decide)
        have HLz := Lib.hid (facts_row hfc #[.int .i64 y1, .int .i64 y2, .slice aG zs.length cG])
        clear hfc hoG hst HB hbGB
        simp only [List.drop, List.length]
        refine wpList_store_row rfl 28 _ _ rfl bG #[.int .i64 y1, .int .i64 y2, .slice aG zs.length cG] eGb eGv _ _ hgG (by kernel_rfl) rfl (by kernel_rfl) ?_
        obtain ⟨w8, hww⟩ : ∃ W, wr.setRow bG #[.int .i64 y1, .int .i64 y2, .slice aG zs.length cG] = W := ⟨_, rfl⟩
        rw [hww] at HLz
        rw [hww]
        have HL8 := Lib.hid HLz.out
        clear hww HLz hgG
        have hG := boxF_cells (HL8.out.get 0 rfl)
        have hS := boxF_cells (HL8.out.get 4 rfl)
        go_wp2_with fail
        clear dc eGv eGb
        clear HBe
        refine (eqRaster_f HL8.out (ownF_ints (HL8.out.get 1 rfl)) (ownF_ints (HL8.out.get 5 rfl)) HZ.out).mono ?_
        rintro e w9 ⟨rfl, hF, _⟩
        have HL9 := Lib.hid hF
        clear hF hG hS
        go_wp2_with fail
        obtain ⟨B, hBe⟩ : ∃ B, w9.heap.size = B := ⟨_, rfl⟩
        have HB : Hid (∀ G ∈ [Fact.box bG #[.int .i64 y1, .int .i64 y2, .slice aG zs.length cG] 28, Fact.own loG hiG (.slice aG zs.length cG) zs, Fact.box hiX #[.int .i64 x1, .int .i64 x2, .slice aX xs.length cX] 28, Fact.own loX hiX (.slice aX xs.length cX) xs, Fact.box bS #[.int .i64 y1, .int .i64 y2, .slice aS zs.length cS] 28, Fact.own loS hiS (.slice aS zs.length cS) zs, Fact.box (w.heap.size + 1) #[.int .i64 k, .int .i64 r, .int .i64 l, .int .i64 t, .int .i64 v, .int .i64 g] 26, Fact.box w.heap.size #[.int .i64 x1, .int .i64 x2, .slice a xs.length c] 24, Fact.below w], G.hi ≤ B) := Lib.hid (hBe ▸ facts_all HL9.out)
        have HBe := Lib.hid hBe
        clear hBe
        refine wp_region_rs (Keep := KeepX) [47, 48, 49, 50, 51] (fun us => _)
          [xEq (.agg #[.int .i64 x1, .int .i64 x2, .slice aX xs.length cX]),
   xEq (.agg #[.int .i64 x1, .int .i64 x2, .slice a xs.length c]),
   xRas B x1 x2 xs,
   xEq (.bool true),
   xEq (.bool false)]
          (StY [Fact.box bG #[.int .i64 y1, .int .i64 y2, .slice aG zs.length cG] 28, Fact.own loG hiG (.slice aG zs.length cG) zs, Fact.box hiX #[.int .i64 x1, .int .i64 x2, .slice aX xs.length cX] 28, Fact.own loX hiX (.slice aX xs.length cX) xs, Fact.box bS #[.int .i64 y1, .int .i64 y2, .slice aS zs.length cS] 28, Fact.own loS hiS (.slice aS zs.length cS) zs, Fact.box (w.heap.size + 1) #[.int .i64 k, .int .i64 r, .int .i64 l, .int .i64 t, .int .i64 v, .int .i64 g] 26, Fact.box w.heap.size #[.int .i64 x1, .int .i64 x2, .slice a xs.length c] 24, Fact.below w] B) (by kernel_rfl) (by kernel_rfl) (Nat.le_of_ble_eq_true rfl) (fun us => by simp [over, List.mapIdx_cons]; exact rfl) ?_ (fun w => Below.refl _ _) ?_ ?_
        · exact ⟨HL9.out.drew, Nat.le_of_eq HBe.out.symm⟩
        · refine ⟨?_, ?_, ?_, ?_, ?_, trivial⟩
          all_goals (intro us wr hst hd; rw [if_pos (by kernel_rfl)]; dsimp only)
          · clear hd
            have hA := boxF_cells (hst.1.get 2 rfl)
            go_simp
            exact rx_same hst rfl
          · clear hd
            have hA := boxF_cells (hst.1.get 7 rfl)
            go_simp
            exact rx_same hst rfl
          · have d48 : us 48 = .agg #[.int .i64 x1, .int .i64 x2, .slice a xs.length c] := hd ⟨1, .data⟩ (by simp) rfl
            clear hd
            go_simp
            exact rx_call hst ((toRaster_any x1 x2 a xs c _ (HX.out.below (show Below w.heap.size w wr from hst.1.get 8 rfl)) (by omega)).mono fun e w' ⟨a', c', he, ho, hb⟩ => ⟨_, he, hb, a', c', rfl, ho.weak hst.2⟩)
          · have d47 : us 47 = .agg #[.int .i64 x1, .int .i64 x2, .slice aX xs.length cX] := hd ⟨0, .data⟩ (by simp) rfl
            have d49 : RasV2 B x1 x2 xs (us 49) wr := hd ⟨2, .data⟩ (by simp) rfl
            clear hd
            obtain ⟨aY, cY, eY, hoY⟩ := d49
            have HOY := Lib.hid hoY
            have HOX := Lib.hid (hst.1.get 3 rfl)
            clear hoY
            go_simp
            exact rx_val hst (eqRaster_same (ownF_ints HOX.out) HOY.out.ints (by unfold maxLen; omega))
          · have d50 : us 50 = .bool true := hd ⟨3, .data⟩ (by simp) rfl
            clear hd
            go_simp
            exact rx_same hst rfl
        · intro us wr hst hd
          have db : us 51 = .bool false := hd 4 (by simp)
          have HL10 := Lib.hid hst.1
          clear hd hst HB
          have hX := boxF_cells (HL10.out.get 2 rfl)
          simp only [List.drop, List.length]
          refine wpList_nil ?_
          rw [db]
          go_wp2_with fail
          clear hX db
          clear HBe
          refine (markRaster_f HL10.out 3 rfl (by omega) (by omega) (by omega)).mono ?_
          rintro e w11 ⟨rfl, hF, _⟩
          have HL11 := Lib.hid (show Facts [Fact.box bG #[.int .i64 y1, .int .i64 y2, .slice aG zs.length cG] 28, Fact.own loG hiG (.slice aG zs.length cG) zs, Fact.box hiX #[.int .i64 x1, .int .i64 x2, .slice aX xs.length cX] 28, Fact.own loX hiX (.slice aX xs.length cX) (marks 1 xs.length), Fact.box bS #[.int .i64 y1, .int .i64 y2, .slice aS zs.length cS] 28, Fact.own loS hiS (.slice aS zs.length cS) zs, Fact.box (w.heap.size + 1) #[.int .i64 k, .int .i64 r, .int .i64 l, .int .i64 t, .int .i64 v, .int .i64 g] 26, Fact.box w.heap.size #[.int .i64 x1, .int .i64 x2, .slice a xs.length c] 24, Fact.below w] w11 from hF)
          clear hF
          have hG := boxF_cells (HL11.out.get 0 rfl)
          have hS := boxF_cells (HL11.out.get 4 rfl)
          have hk0 : ¬ (1 : Int) + xs.length < 0 := by omega
          go_wp2_with fail
          refine (eqRaster_f HL11.out (ownF_ints (HL11.out.get 1 rfl)) (ownF_ints (HL11.out.get 5 rfl)) HZ.out).mono ?_
          rintro e w12 ⟨rfl, hF, _⟩
          have HL12 := Lib.hid hF
          clear hF hG hS
          have hG := boxF_cells (HL12.out.get 0 rfl)
          go_wp2_with fail
          refine (markRaster_f HL12.out 1 rfl (by omega) (by omega) (by omega)).mono ?_
          rintro e w13 ⟨rfl, hF, _⟩
          have HL13 := Lib.hid (show Facts [Fact.box bG #[.int .i64 y1, .int .i64 y2, .slice aG zs.length cG] 28, Fact.own loG hiG (.slice aG zs.length cG) (marks 1 zs.length), Fact.box hiX #[.int .i64 x1, .int .i64 x2, .slice aX xs.length cX] 28, Fact.own loX hiX (.slice aX xs.length cX) (marks 1 xs.length), Fact.box bS #[.int .i64 y1, .int .i64 y2, .slice aS zs.length cS] 28, Fact.own loS hiS (.slice aS zs.length cS) zs, Fact.box (w.heap.size + 1) #[.int .i64 k, .int .i64 r, .int .i64 l, .int .i64 t, .int .i64 v, .int .i64 g] 26, Fact.box w.heap.size #[.int .i64 x1, .int .i64 x2, .slice a xs.length c] 24, Fact.below w] w13 from hF)
          clear hF hG
          have hG := boxF_cells (HL13.out.get 0 rfl)
          have hz0 : ¬ (1 : Int) + zs.length < 0 := by omega
          have hmm : ((1 : Int) + ↑zs.length != 1 + ↑zs.length) = false := by simp
          go_wp2_with fail
          refine (heldRaster_f HL13.out 1 rfl (by omega) (by omega) (by omega)).mono ?_
          rintro e w14 ⟨rfl, hF, _⟩
          have HL14 := Lib.hid hF
          clear hF hG
          go_wp2_with fail
          obtain ⟨B, hBe⟩ : ∃ B, w14.heap.size = B := ⟨_, rfl⟩
          have HB : Hid (∀ G ∈ [Fact.box bG #[.int .i64 y1, .int .i64 y2, .slice aG zs.length cG] 28, Fact.own loG hiG (.slice aG zs.length cG) (marks 1 zs.length), Fact.box hiX #[.int .i64 x1, .int .i64 x2, .slice aX xs.length cX] 28, Fact.own loX hiX (.slice aX xs.length cX) (marks 1 xs.length), Fact.box bS #[.int .i64 y1, .int .i64 y2, .slice aS zs.length cS] 28, Fact.own loS hiS (.slice aS zs.length cS) zs, Fact.box (w.heap.size + 1) #[.int .i64 k, .int .i64 r, .int .i64 l, .int .i64 t, .int .i64 v, .int .i64 g] 26, Fact.box w.heap.size #[.int .i64 x1, .int .i64 x2, .slice a xs.length c] 24, Fact.below w], G.hi ≤ B) := Lib.hid (hBe ▸ facts_all HL14.out)
          have HBe := Lib.hid hBe
          clear hBe
          refine wp_region_rsF (Keep := KeepX) 7 [80, 81, 82, 83, 84, 79, 85, 86, 14] (fun us => _)
            [xEq (.agg #[.int .i64 x1, .int .i64 x2, .slice a xs.length c]),
   xRas B x1 x2 xs,
   xEq (.agg #[.int .i64 k, .int .i64 r, .int .i64 l, .int .i64 t, .int .i64 v, .int .i64 g]),
   xEq (.agg #[.int .i64 k, .int .i64 r, .int .i64 l, .int .i64 t, .int .i64 v, .int .i64 g]),
   xRasT B y1 y2 zs cd,
   xRasT B y1 y2 zs cd,
   xRas B y1 y2 zs,
   xEq (.int .i64 cd),
   xBox B #[.int .i64 0, .int .i64 0, .slice none 0 0] 28]
            (StY [Fact.box bG #[.int .i64 y1, .int .i64 y2, .slice aG zs.length cG] 28, Fact.own loG hiG (.slice aG zs.length cG) (marks 1 zs.length), Fact.box hiX #[.int .i64 x1, .int .i64 x2, .slice aX xs.length cX] 28, Fact.own loX hiX (.slice aX xs.length cX) (marks 1 xs.length), Fact.box bS #[.int .i64 y1, .int .i64 y2, .slice aS zs.length cS] 28, Fact.own loS hiS (.slice aS zs.length cS) zs, Fact.box (w.heap.size + 1) #[.int .i64 k, .int .i64 r, .int .i64 l, .int .i64 t, .int .i64 v, .int .i64 g] 26, Fact.box w.heap.size #[.int .i64 x1, .int .i64 x2, .slice a xs.length c] 24, Fact.below w] B) _ _ 28 _ _ 86 (by kernel_rfl) (by kernel_rfl) (fun us => by simp [over, List.mapIdx_cons]; exact rfl) ?_ (fun w => Below.refl _ _) rfl rfl rfl rfl rfl rfl rfl (by kernel_rfl) (by kernel_rfl) (fun us v => by exact ⟨rfl, rfl⟩) ?_ ?_ ?_ ?_
          · exact ⟨HL14.out.drew, Nat.le_of_eq HBe.out.symm⟩
          · refine ⟨?_, ?_, ?_, ?_, ?_, ?_, ?_, ?_, ?_, trivial⟩
            all_goals (intro us wr hst hd; rw [if_pos (by kernel_rfl)]; dsimp only)
            · clear hd
              have hA := boxF_cells (hst.1.get 7 rfl)
              go_simp
              exact rx_same hst rfl
            · have d80 : us 80 = .agg #[.int .i64 x1, .int .i64 x2, .slice a xs.length c] := hd ⟨0, .data⟩ (by simp) rfl
              clear hd
              go_simp
              exact rx_call hst ((toRaster_any x1 x2 a xs c _ (HX.out.below (show Below w.heap.size w wr from hst.1.get 8 rfl)) (by omega)).mono fun e w' ⟨a', c', he, ho, hb⟩ => ⟨_, he, hb, a', c', rfl, ho.weak hst.2⟩)
            · clear hd
              have hA := boxF_cells (hst.1.get 6 rfl)
              go_simp
              exact rx_same hst rfl
            · have d82 : us 82 = .agg #[.int .i64 k, .int .i64 r, .int .i64 l, .int .i64 t, .int .i64 v, .int .i64 g] := hd ⟨2, .data⟩ (by simp) rfl
              clear hd
              go_simp
              exact rx_val hst (toDamage_any k r l t g v _)
            · have d81 : RasV2 B x1 x2 xs (us 81) wr := hd ⟨1, .data⟩ (by simp) rfl
              have d83 : us 83 = .agg #[.int .i64 k, .int .i64 r, .int .i64 l, .int .i64 t, .int .i64 v, .int .i64 g] := hd ⟨3, .data⟩ (by simp) rfl
              clear hd
              obtain ⟨aX, cX, eX, hoX⟩ := d81
              have HOX := Lib.hid hoX
              clear hoX
              go_simp
              refine rx_call hst ?_
              refine (applyDamage_any x1 x2 aX xs cX k r l t v g _ HOX.out.ints HLX.out).mono ?_
              rw [HAR.out.eq]
              rintro e w' ⟨a', c', he, ho, hb⟩
              exact ⟨_, he, hb, a', c', rfl, ho.weak hst.2⟩
            · have d84 : RasT B y1 y2 zs cd (us 84) wr := hd ⟨4, .data⟩ (by simp) rfl
              clear hd
              obtain ⟨aS, cS, eS, hoS⟩ := d84
              have HOS := Lib.hid hoS
              clear hoS
              go_simp
              exact rx_same hst ⟨aS, cS, rfl, HOS.out⟩
            · have d79 : RasT B y1 y2 zs cd (us 79) wr := hd ⟨5, .data⟩ (by simp) rfl
              clear hd
              obtain ⟨aS, cS, eS, hoS⟩ := d79
              have HOS := Lib.hid hoS
              clear hoS
              go_simp
              exact rx_same hst ⟨aS, cS, rfl, HOS.out⟩
            · have d79 : RasT B y1 y2 zs cd (us 79) wr := hd ⟨5, .data⟩ (by simp) rfl
              clear hd
              obtain ⟨aS, cS, eS, hoS⟩ := d79
              clear hoS
              go_simp
              exact rx_same hst rfl
            · clear hd
              go_simp
              exact rx_new hst
          · intro us wr hst hd
            have dv : RasV2 B y1 y2 zs (us 85) wr := hd 6 (by simp) (by decide)
            have db : BoxV B #[.int .i64 0, .int .i64 0, .slice none 0 0] 28 (us 14) wr := hd 8 (by simp) (by decide)
            obtain ⟨aS, cS, ev, hoS⟩ := dv
            obtain ⟨bS, eb, hbB, hgS⟩ := db
            exact ⟨bS, _, _, _, eb, ev, hgS, by kernel_rfl, rfl, by kernel_rfl⟩
          · intro us wr hst hd
            have dt : RasT B y1 y2 zs cd (us 79) wr := hd 5 (by simp) (by decide)
            obtain ⟨aS, cS, et, hoS⟩ := dt
            clear hoS hd
            refine ⟨.int .i64 cd, fun w' => ?_, (show upd us (some 86) (.int .i64 cd) 86 = .int .i64 cd from rfl)⟩
            go_simp
            try rfl
          · intro us wr hst hd
            have dv : RasV2 B y1 y2 zs (us 85) wr := hd 6 (by simp)
            have dc : us 86 = .int .i64 cd := hd 7 (by simp)
            have db : BoxV B #[.int .i64 0, .int .i64 0, .slice none 0 0] 28 (us 14) wr := hd 8 (by simp)
            clear hd
            obtain ⟨aH, cH, eHv, hoH⟩ := dv
            obtain ⟨bH, eHb, hbHB, hgH⟩ := db
            obtain ⟨loH, hiH, hfc⟩ := facts_boxOwn hst HB.out hbHB hgH hoH (by decide)
            have HLz := Lib.hid (facts_row hfc #[.int .i64 y1, .int .i64 y2, .slice aH zs.length cH])
            clear hfc hoH hst HB hbHB
            simp only [List.drop, List.length]
            refine wpList_store_row rfl 28 _ _ rfl bH #[.int .i64 y1, .int .i64 y2, .slice aH zs.length cH] eHb eHv _ _ hgH (by kernel_rfl) rfl (by kernel_rfl) ?_
            obtain ⟨w15, hww⟩ : ∃ W, wr.setRow bH #[.int .i64 y1, .int .i64 y2, .slice aH zs.length cH] = W := ⟨_, rfl⟩
            rw [hww] at HLz
            rw [hww]
            have HL15 := Lib.hid HLz.out
            clear hww HLz hgH
            have hH := boxF_cells (HL15.out.get 0 rfl)
            have hS := boxF_cells (HL15.out.get 6 rfl)
            go_wp2_with fail
            clear dc eHv eHb
            clear HBe
            refine (eqRaster_f HL15.out (ownF_ints (HL15.out.get 1 rfl)) (ownF_ints (HL15.out.get 7 rfl)) HZ.out).mono ?_
            rintro e w16 ⟨rfl, hF, _⟩
            have HL16 := Lib.hid hF
            clear hF hH hS
            have hG := boxF_cells (HL16.out.get 2 rfl)
            go_wp2_with fail
            refine (heldRaster_f HL16.out 3 rfl (by omega) (by omega) (by omega)).mono ?_
            rintro e w17 ⟨rfl, hF, _⟩
            have HL17 := Lib.hid hF
            clear hF hG
            go_wp2_with fail
            go_ret
            exact ⟨rfl, HL17.out.get 10 rfl⟩

end Go.Proofs.Ythnjfdhijpfekaa
