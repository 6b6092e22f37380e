import Derived.Test.YthnjfdhijpfekaaVTm3
namespace Go.Proofs.Ythnjfdhijpfekaa
open Go.RowKit

set_option maxRecDepth 100000 in
set_option maxHeartbeats 1000000 in
theorem specPrintSize_val {n m p t q b d l x y z : Int} {W : World} (h : PsIs n m p t q b d l x y z) :
    Calls Try.prog 61 #[.int .i64 n, .int .i64 m, .agg #[.int .i64 p, .int .i64 t, .int .i64 q, .int .i64 b, .int .i64 d, .int .i64 l]] W fun e W' => e = .returned (.tuple #[.int .i64 x, .int .i64 y, .int .i64 z]) ∧ Below W.heap.size W W' := by
  cases h with
  | bad h1 =>
    have H1 := Lib.hid h1
    clear h1
    go_enter Try.func61, Try.ntmps61
    go_wp2_with fail
    refine (specIsPrint_val H1.out).mono ?_
    rintro e w1 ⟨rfl, hb⟩
    have HB := Lib.hid (bt1 hb)
    clear hb
    go_wp2_with fail
    exact bodyPost_ret (v := .tuple #[.int .i64 0, .int .i64 0, .int .i64 1]) (by simp [results, Try.results61, go_sem]) rfl ⟨rfl, HB.out⟩
  | far h1 h2 =>
    have H1 := Lib.hid h1
    clear h1
    rcases Bool.eq_false_or_eq_true (inB n 1 400) with h3 | h3
    · have h4 : inB m 1 400 = false := by rw [h3] at h2; simpa using h2
      have H3 := Lib.hid h3
      have H4 := Lib.hid h4
      clear h2 h3 h4
      go_enter Try.func61, Try.ntmps61
      go_wp2_with fail
      refine (specIsPrint_val H1.out).mono ?_
      rintro e w1 ⟨rfl, hb⟩
      have HB := Lib.hid (bt1 hb)
      clear hb
      go_wp2_with fail
      refine (l01In_val H3.out).mono ?_
      rintro e w2 ⟨rfl, rfl⟩
      go_wp2_with fail
      refine (l01In_val H4.out).mono ?_
      rintro e w2 ⟨rfl, rfl⟩
      go_wp2_with fail
      exact bodyPost_ret (v := .tuple #[.int .i64 0, .int .i64 0, .int .i64 2]) (by simp [results, Try.results61, go_sem]) rfl ⟨rfl, HB.out⟩
    · have H3 := Lib.hid h3
      clear h2 h3
      go_enter Try.func61, Try.ntmps61
      go_wp2_with fail
      refine (specIsPrint_val H1.out).mono ?_
      rintro e w1 ⟨rfl, hb⟩
      have HB := Lib.hid (bt1 hb)
      clear hb
      go_wp2_with fail
      refine (l01In_val H3.out).mono ?_
      rintro e w2 ⟨rfl, rfl⟩
      go_wp2_with fail
      exact bodyPost_ret (v := .tuple #[.int .i64 0, .int .i64 0, .int .i64 2]) (by simp [results, Try.results61, go_sem]) rfl ⟨rfl, HB.out⟩
  | big h1 h2 h3 h4 =>
    have hn := inB_iff.1 h2
    have hm := inB_iff.1 h3
    obtain ⟨p1, p2, p3, _⟩ := pr_bounds h1
    have H1 := Lib.hid h1
    have H2 := Lib.hid h2
    have H3 := Lib.hid h3
    have H4 := Lib.hid h4
    clear h1 h2 h3 h4
    go_enter Try.func61, Try.ntmps61
    go_wp2_with fail
    refine (specIsPrint_val H1.out).mono ?_
    rintro e w1 ⟨rfl, hb⟩
    have hA := box1 hb
    have hs := hb.size
    rw [World.size_alloc] at hs
    have HB := Lib.hid (bt1 hb)
    clear hb
    go_wp2_with fail
    refine (l01In_val H2.out).mono ?_
    rintro e w2 ⟨rfl, rfl⟩
    go_wp2_with fail
    refine (l01In_val H3.out).mono ?_
    rintro e w2 ⟨rfl, rfl⟩
    go_wp2_with fail
    have w1' : IntKind.i64.wrap ((n + 2 * q) * t) = psz n q t := IntWalk.i64_in _ (by have := psz_bd hn p3 p2; unfold psz at this; omega)
    have w2' : IntKind.i64.wrap ((m + 2 * q) * p) = psz m q p := IntWalk.i64_in _ (by have := psz_bd hm p3 p1; unfold psz at this; omega)
    obtain ⟨H, hH⟩ : ∃ H, psz n q t = H := ⟨_, rfl⟩
    obtain ⟨K, hK⟩ : ∃ K, psz m q p = K := ⟨_, rfl⟩
    rw [hH] at w1' H4
    rw [hK] at w2' H4
    have HH := Lib.hid hH
    have HK := Lib.hid hK
    clear hH hK
    go_quiet (fail)
    go_wp2_with fail
    refine (l20Size_val H4.out).mono ?_
    rintro e w3 ⟨rfl, rfl⟩
    go_wp2_with fail
    exact bodyPost_ret (v := .tuple #[.int .i64 0, .int .i64 0, .int .i64 3]) (by simp [results, Try.results61, go_sem]) rfl ⟨rfl, below_drewN HB.out _⟩
  | fit h1 h2 h3 h4 =>
    have hn := inB_iff.1 h2
    have hm := inB_iff.1 h3
    obtain ⟨p1, p2, p3, _⟩ := pr_bounds h1
    have H1 := Lib.hid h1
    have H2 := Lib.hid h2
    have H3 := Lib.hid h3
    have H4 := Lib.hid h4
    clear h1 h2 h3 h4
    go_enter Try.func61, Try.ntmps61
    go_wp2_with fail
    refine (specIsPrint_val H1.out).mono ?_
    rintro e w1 ⟨rfl, hb⟩
    have hA := box1 hb
    have hs := hb.size
    rw [World.size_alloc] at hs
    have HB := Lib.hid (bt1 hb)
    clear hb
    go_wp2_with fail
    refine (l01In_val H2.out).mono ?_
    rintro e w2 ⟨rfl, rfl⟩
    go_wp2_with fail
    refine (l01In_val H3.out).mono ?_
    rintro e w2 ⟨rfl, rfl⟩
    go_wp2_with fail
    have w1' : IntKind.i64.wrap ((n + 2 * q) * t) = psz n q t := IntWalk.i64_in _ (by have := psz_bd hn p3 p2; unfold psz at this; omega)
    have w2' : IntKind.i64.wrap ((m + 2 * q) * p) = psz m q p := IntWalk.i64_in _ (by have := psz_bd hm p3 p1; unfold psz at this; omega)
    obtain ⟨H, hH⟩ : ∃ H, psz n q t = H := ⟨_, rfl⟩
    obtain ⟨K, hK⟩ : ∃ K, psz m q p = K := ⟨_, rfl⟩
    rw [hH] at w1' H4
    rw [hK] at w2' H4
    have HH := Lib.hid hH
    have HK := Lib.hid hK
    clear hH hK
    go_quiet (fail)
    go_wp2_with fail
    refine (l20Size_val H4.out).mono ?_
    rintro e w3 ⟨rfl, rfl⟩
    go_wp2_with fail
    rw [HH.out, HK.out]
    exact bodyPost_ret (v := .tuple #[.int .i64 H, .int .i64 K, .int .i64 0]) (by simp [results, Try.results61, go_sem]) rfl ⟨rfl, below_drewN HB.out _⟩

set_option maxRecDepth 100000 in
set_option maxHeartbeats 2000000 in
theorem specTouchedModules_fit {ds : List Dm} {a : Option Addr} {c : Nat} {n m : Nat} {p t q b d l : Int} {W : World} (hp : prOk p t q b d l = true) (hn : 1 ≤ n ∧ n ≤ 400) (hm : 1 ≤ m ∧ m ≤ 400) (hps : PsIs n m p t q b d l (psz n q t) (psz m q p) 0) (hy : psz n q t ≤ 400) (hx : psz m q p ≤ 400) (hN : n * m ≤ 40000) (h20 : ¬ 20 < ds.length) (hds : DmsAt W a ds) {PS : List (Nat × Nat)} {CD : Int} (hR1 : ds.all Dm.loc = true → PS = plL (fun r c => tch ds (smp q t r) (smp q p c)) m (n * m) ∧ CD = 0) (hR2 : ds.all Dm.loc = false → PS = [] ∧ CD = 5) :
    Calls Try.prog 30 #[.slice a ds.length c, .agg #[.int .i64 p, .int .i64 t, .int .i64 q, .int .i64 b, .int .i64 d, .int .i64 l], .int .i64 (n : Int), .int .i64 (m : Int)] W (RetPC W PS CD) := by
  have HR1 := Lib.hid hR1
  have HR2 := Lib.hid hR2
  clear hR1 hR2
  have HDS := Lib.hid hds
  have HPS := Lib.hid hps
  have HP := Lib.hid hp
  have h20' : ¬ (20 : Int) < (ds.length : Int) := by omega
  obtain ⟨b1, b2, b3, _⟩ := pr_bounds hp
  clear hds hps hp
  obtain ⟨i2, hi, y0, y1, y2⟩ := info_parts infoPl
  have HI2 := Lib.hid (And.intro hi (And.intro y0 (And.intro y1 y2)))
  clear hi y0 y1 y2
  go_enter Try.func30, Try.ntmps30
  go_wp2_with fail
  refine (specPrintSize_val HPS.out).mono ?_
  rintro e w1 ⟨rfl, hb⟩
  have hPB := blkK hb (push_at W (.cells #[.int .i64 p, .int .i64 t, .int .i64 q, .int .i64 b, .int .i64 d, .int .i64 l] 54 (0, 0)))
  have HPB := Lib.hid hPB
  have HB := Lib.hid (bt1 hb)
  have hWw := blkLt hPB
  clear hb hPB
  go_wp2_with fail
  go_loopw [13] (fun i wr => ∃ k : Nat, k ≤ ds.length ∧ i = .int .i64 k ∧ (ds.take k).all Dm.loc = true ∧ Below w1.heap.size w1 wr) (fun i _ => ds.length - (intOf i).toNat)
  case atStart => exact ⟨0, Nat.zero_le _, rfl, rfl, Below.refl _ _⟩
  case round =>
    obtain ⟨k, hk, rfl, hall, hst⟩ := hrel
    have HST := Lib.hid hst
    have HALL := Lib.hid hall
    clear hst hall
    by_cases hlt : k < ds.length
    · obtain ⟨b9, o9, ⟨k0, r0, c0, t0, v0, g0⟩, rfl, hdk, hb9, hc0, hc1, hc2, hc3, hc4, hc5⟩ := ((HDS.out.below HB.out).below (Below.mono HST.out (Nat.le_refl _))).at hlt
      dsimp only at hc0 hc1 hc2 hc3 hc4 hc5
      have HK := Lib.hid hdk
      clear hdk
      rcases Bool.eq_false_or_eq_true (Dm.loc ⟨k0, r0, c0, t0, v0, g0⟩) with hd | hd
      · have HD := Lib.hid hd
        clear hd
        go_wp2_with fail
        refine (l27Local_val HD.out).mono ?_
        rintro e w2 ⟨rfl, hb⟩
        have HST2 := Lib.hid (bt0 HST.out hb (Nat.le_refl _))
        clear hb hc0 hc1 hc2 hc3 hc4 hc5
        go_wp2_with fail
        exact ⟨⟨k + 1, by omega, by go_num, all_take HK.out HALL.out HD.out, HST2.out⟩, by simp [intOf]; omega⟩
      · have HD := Lib.hid hd
        clear hd
        obtain ⟨hps0, hcd0⟩ := HR2.out (all_fail HK.out HD.out)
        have HPE := Lib.hid hps0
        have HCE := Lib.hid hcd0
        clear hps0 hcd0
        go_wp2_with fail
        refine (l27Local_val HD.out).mono ?_
        rintro e w2 ⟨rfl, hb⟩
        have HST2 := Lib.hid (bt0 HST.out hb (Nat.le_refl _))
        clear hb hc0 hc1 hc2 hc3 hc4 hc5
        go_wp2_with fail
        go_ret2
        rw [HPE.out, HCE.out]
        exact retPC_nil (bt0 HB.out HST2.out (Nat.le_refl _))
    · obtain rfl : k = ds.length := by omega
      have hall : ds.all Dm.loc = true := by have := HALL.out; rwa [List.take_of_length_le (Nat.le_refl _)] at this
      obtain ⟨hps0, hcd0⟩ := HR1.out hall
      have HPE := Lib.hid hps0
      have HCE := Lib.hid hcd0
      have HAL := Lib.hid hall
      have HBW := Lib.hid (bt0 HB.out HST.out (Nat.le_refl _))
      have HPB2 := Lib.hid (blkK HST.out HPB.out)
      have hWr := HST.out.size
      clear hps0 hcd0 hall HST HALL
      obtain ⟨ws, rfl⟩ : ∃ ws : World, ws = wr := ⟨_, rfl⟩
      go_wp2_with fail
      have H00 := Lib.hid (OwnP.new ws)
      go_loopw [14, 15] (fun v i wx => ∃ r : Nat, r ≤ n ∧ i = .int .i64 r ∧ OwnP wx ws.heap.size v (plL (fun r c => tch ds (smp q t r) (smp q p c)) m (r * m)) ∧ Below ws.heap.size ws wx) (fun _ i _ => n - (intOf i).toNat)
      case atStart => exact ⟨0, Nat.zero_le _, rfl, by rw [Nat.zero_mul]; exact H00.out, ba1 _ _⟩
      case round =>
        clear H00
        obtain ⟨r, hr, rfl, hop, hbw⟩ := hrel
        have HOP := Lib.hid hop
        have HBX := Lib.hid hbw
        clear hop hbw
        by_cases hlr : r < n
        · have hrn : (r : Int) < (n : Int) := by omega
          obtain ⟨t0, ht0⟩ : ∃ t0, r * m = t0 := ⟨_, rfl⟩
          rw [ht0] at HOP
          have HT0 := Lib.hid ht0
          have hkm : t0 + m ≤ n * m := by
            rw [← ht0]
            have h1 : r * m + m = (r + 1) * m := by rw [Nat.add_mul]; omega
            rw [h1]
            exact Nat.mul_le_mul_right m hlr
          clear ht0
          obtain ⟨wo, rfl⟩ : ∃ wo : World, wo = wr := ⟨_, rfl⟩
          go_wp2_with fail
          go_loopw [14, 16] (fun v i wx => ∃ cc : Nat, cc ≤ m ∧ i = .int .i64 cc ∧ OwnP wx ws.heap.size v (plL (fun r c => tch ds (smp q t r) (smp q p c)) m (t0 + cc)) ∧ Below ws.heap.size ws wx) (fun _ i _ => m - (intOf i).toNat)
          case atStart => exact ⟨0, Nat.zero_le _, rfl, HOP.out, HBX.out⟩
          case round =>
            clear HOP HBX
            obtain ⟨cc, hcc, rfl, hop, hbw⟩ := hrel
            have HOP := Lib.hid hop
            have HBX := Lib.hid hbw
            clear hop hbw
            by_cases hccm : cc < m
            · have hcm : (cc : Int) < (m : Int) := by omega
              obtain ⟨PL, hPL⟩ : ∃ PL, plL (fun r c => tch ds (smp q t r) (smp q p c)) m (t0 + cc) = PL := ⟨_, rfl⟩
              have hlpl : PL.length ≤ t0 + cc := by rw [← hPL]; exact plL_len
              have HLP : Hid (PL.length ≤ 40000) := Lib.hid (by omega)
              have hy0 := smp_bd hlr b3 b2
              have hx0 := smp_bd hccm b3 b1
              obtain ⟨A, hA⟩ : ∃ A, ((r : Int) + q) * t = A := ⟨_, rfl⟩
              obtain ⟨B, hB⟩ : ∃ B, ((cc : Int) + q) * p = B := ⟨_, rfl⟩
              obtain ⟨Y, hY⟩ : ∃ Y, smp q t r = Y := ⟨_, rfl⟩
              obtain ⟨X, hX⟩ : ∃ X, smp q p cc = X := ⟨_, rfl⟩
              have hAY : A + t / 2 = Y := by rw [← hA, ← hY]; rfl
              have hBX : B + p / 2 = X := by rw [← hB, ← hX]; rfl
              rw [hY] at hy0
              rw [hX] at hx0
              have wA : IntKind.i64.wrap (((r : Int) + q) * t) = A := by rw [hA]; exact IntWalk.i64_in _ (by omega)
              have wB : IntKind.i64.wrap (((cc : Int) + q) * p) = B := by rw [hB]; exact IntWalk.i64_in _ (by omega)
              have wt : t.tdiv 2 = t / 2 := Int.tdiv_eq_ediv_of_nonneg (by omega)
              have wp' : p.tdiv 2 = p / 2 := Int.tdiv_eq_ediv_of_nonneg (by omega)
              have HY := Lib.hid hY
              have HX := Lib.hid hX
              have HAY := Lib.hid hAY
              have HBXX := Lib.hid hBX
              have HPLE := Lib.hid hPL
              have hPX := (heap_cellR ((HBX.out.block _ (blkLt HPB2.out)).trans HPB2.out)).1
              rw [hPL] at HOP
              obtain ⟨wi, rfl⟩ : ∃ wi : World, wi = wr := ⟨_, rfl⟩
              clear hA hB hY hX hPL hAY hBX hlpl
              go_wp2_with fail
              go_quiet (fail)
              have w3 : wrap64 (A + t / 2) = Y := by rw [HAY.out]; exact IntWalk.wrap64_in _ (by omega)
              have w4 : wrap64 (B + p / 2) = X := by rw [HBXX.out]; exact IntWalk.wrap64_in _ (by omega)
              rw [w3, w4]
              have HOP2 := Lib.hid (HOP.out.grown (below_drewN (Below.refl _ _) nq))
              have HBX2 := Lib.hid (below_drewN HBX.out nq)
              clear w3 w4 wA wB wt wp' hPX HOP HBX
              generalize World.drewN wi nq = wj at *
              go_wp2_with fail
              go_loopw [19, 20] (fun tv i wy => ∃ j : Nat, j ≤ ds.length ∧ i = .int .i64 j ∧ tv = .bool ((ds.take j).any (fun d => touchB d.k d.r d.c d.t d.w Y X)) ∧ OwnP wy ws.heap.size u14 PL ∧ Below ws.heap.size ws wy) (fun _ i _ => ds.length - (intOf i).toNat)
              case atStart => exact ⟨0, Nat.zero_le _, rfl, rfl, HOP2.out, HBX2.out⟩
              case round =>
                clear HOP2 HBX2
                obtain ⟨wy, rfl⟩ : ∃ wy : World, wy = wr := ⟨_, rfl⟩
                obtain ⟨j, hj, rfl, rfl, hop, hbw⟩ := hrel
                have HOP := Lib.hid hop
                have HBY := Lib.hid hbw
                clear hop hbw
                obtain ⟨tb, hany⟩ : ∃ tb, (ds.take j).any (fun d => touchB d.k d.r d.c d.t d.w Y X) = tb := ⟨_, rfl⟩
                rw [hany]
                have HANY := Lib.hid hany
                clear hany
                by_cases hlj : j < ds.length
                · obtain ⟨b9, o9, ⟨k0, r0, c0, t9, v0, g0⟩, rfl, hdj, hb9, hc0, hc1, hc2, hc3, hc4, hc5⟩ := ((HDS.out.below HBW.out).below HBY.out).at hlj
                  dsimp only at hc0 hc1 hc2 hc3 hc4 hc5
                  obtain ⟨hok, hk12⟩ := loc_ok (List.all_eq_true.1 HAL.out _ (List.mem_of_getElem? hdj))
                  dsimp only at hk12
                  obtain ⟨_, hr, hc, ht, hw, hg, _⟩ := dm_bounds hok
                  dsimp only at hr hc ht hw hg
                  have HDJ := Lib.hid hdj
                  clear hok hdj
                  cases tb with
                  | true =>
                    go_wp2_with fail
                    exact ⟨⟨j + 1, by omega, by go_num, by rw [take_snoc' HDJ.out, List.any_append, HANY.out]; rfl, HOP.out, HBY.out⟩, by simp [intOf]; omega⟩
                  | false =>
                    obtain ⟨tn, htn⟩ : ∃ tn, touchB k0 r0 c0 t9 v0 Y X = tn := ⟨_, rfl⟩
                    have HTN := Lib.hid htn
                    clear htn
                    go_wp2_with fail
                    refine (l27Touches_val HTN.out (by omega) (by omega) (by omega) (by omega) (by omega) (by omega)).mono ?_
                    rintro e w7 ⟨rfl, hb⟩
                    have HO7 := Lib.hid (HOP.out.grown hb)
                    have HB7 := Lib.hid (bt0 HBY.out hb (Nat.le_refl _))
                    clear hb hc0 hc1 hc2 hc3 hc4 hc5
                    go_wp2_with fail
                    exact ⟨⟨j + 1, by omega, by go_num, by rw [take_snoc' HDJ.out, List.any_append, HANY.out]; simp [HTN.out], HO7.out, HB7.out⟩, by simp [intOf]; omega⟩
                · have HAN2 : Hid (tch ds (smp q t r) (smp q p cc) = tb) := Lib.hid (by
                    have := HANY.out
                    rw [List.take_of_length_le (by omega)] at this
                    rw [HY.out, HX.out]
                    exact this)
                  cases tb with
                  | true =>
                    have HYES := Lib.hid (plL_yes' (T := fun r c => tch ds (smp q t r) (smp q p c)) hccm HAN2.out HT0.out HPLE.out)
                    go_wp2_with (at_builtin; refine wpList_append_own _ rfl _ _ 57 rfl ws.heap.size 61 i2 (.agg #[.int .i64 0, .int .i64 0]) 2 16 Try.underlying57 HI2.out.1 HI2.out.2.1 HI2.out.2.2.1 HI2.out.2.2.2 rfl (by decide) _ _ _ rfl (World.ownsRow.alloc HOP.out _) ⟨wy.heap.size, 0, none⟩ 1 1 (plVs (r, cc)) rfl rfl (two_new _ (r, cc)) (two_one _) (by have := HLP.out; unfold maxLen; omega) (by have := HLP.out; omega) (by have := HBY.out.size; simp; omega) ?_; intro v' w9 hown3 hgrow3 _)
                    have ho9 := OwnP.snoc hown3
                    rw [← HYES.out] at ho9
                    exact ⟨⟨cc + 1, by omega, by go_num, by rw [← Nat.add_assoc]; exact ho9, (bt0 HBY.out (ba1 _ _) (Nat.le_refl _)).trans (below_of_grownBy hgrow3 (by have := HBY.out.size; simp; omega) (fun k e => HOP.out.at k e))⟩, by simp [intOf]; omega⟩
                  | false =>
                    have HNO := Lib.hid (plL_no' (T := fun r c => tch ds (smp q t r) (smp q p c)) (k := r) hccm HAN2.out HT0.out HPLE.out)
                    have ho9 := HOP.out
                    rw [← HNO.out] at ho9
                    have HO9 := Lib.hid ho9
                    clear ho9
                    go_wp2_with fail
                    exact ⟨⟨cc + 1, by omega, by go_num, by rw [← Nat.add_assoc]; exact HO9.out, HBY.out⟩, by simp [intOf]; omega⟩
            · obtain rfl : cc = m := by omega
              have hre : t0 + cc = (r + 1) * cc := by rw [Nat.add_mul, HT0.out]; omega
              have hop := HOP.out
              rw [hre] at hop
              have HOP2 := Lib.hid hop
              clear hop hre
              go_wp2_with fail
              exact ⟨⟨r + 1, by omega, by go_num, HOP2.out, HBX.out⟩, by simp [intOf]; omega⟩
        · obtain rfl : r = n := by omega
          obtain ⟨a5, c5, e14⟩ := HOP.out.read
          have hop := HOP.out
          rw [e14] at hop ⊢
          have HOP2 := Lib.hid hop
          clear hop e14 HOP
          go_wp2_with fail
          go_ret2
          rw [HPE.out, HCE.out]
          exact ⟨a5, c5, rfl, HOP2.out.weak (by omega), bt0 HBW.out HBX.out (Nat.le_refl _)⟩

end Go.Proofs.Ythnjfdhijpfekaa
