import Derived.Test.YtlcglclojlffgaaGreatVSpSe
import Derived.Test.YtlcglclojlffgaaGreatVAppS
namespace Go.Proofs.YtlcglclojlffgaaGreat
open Go.RowKit
theorem spAppL_any (L : List Int) (a : Option Addr) (xs : List Int) (n c v wd : Nat) (w : World) (hL : L = xs ++ bitsC v wd) (hn : n = xs.length) (hx : IntsAt w a xs) (hs : Slc a xs) (hcz : a = none → c = 0) (hl : xs.length ≤ 100000) (hv : v < 2 ^ 62) (hw : wd ≤ 62) :
    Calls Tryz.prog 119 #[.slice a n c, .int .i64 (v : Int), .int .i64 (wd : Int)] w (RetSl w L) := by
  subst hL
  exact spApp_any a xs n c v wd w hn hx hs hcz hl hv hw

set_option maxRecDepth 100000 in
set_option maxHeartbeats 4000000 in
theorem spWrite_any (a : Option Addr) (l : List Int) (n0 c m : Nat) (s : ByteArray) (w : World) (hn0 : n0 = l.length) (hx : IntsAt w a l) (hS : Slc a l) (hcz : a = none → c = 0) (hl : l.length ≤ 10000) (hs : SegOk (m, s.data.toList)) :
    Calls Tryz.prog 95 #[.slice a n0 c, .agg #[.int .i64 (m : Int), .string s]] w (RetSl w (l ++ segB (m, s.data.toList))) := by
  subst hn0
  obtain ⟨hm1, hm4, hs1, hs2, hin⟩ := hs
  dsimp only at hm1 hm4 hs1 hs2 hin
  obtain ⟨S, hS'⟩ : ∃ S, S = s.data.toList := ⟨_, rfl⟩
  have hSl : S.length = s.size := by rw [hS']; rfl
  rw [← hS'] at hs1 hs2 hin ⊢
  rw [hSl] at hs1 hs2
  have HS := Lib.hid hS'
  have HSL := Lib.hid hSl
  have HIN := Lib.hid hin
  have HSl := Lib.hid hS
  have HX := Lib.hid (push_at w (.cells #[.int .i64 (m : Int), .string s] 108 (0, 0)))
  have HB0 := Lib.hid (ba1 w (.cells #[.int .i64 (m : Int), .string s] 108 (0, 0)))
  obtain ⟨w1, hw1⟩ : ∃ w1, w1 = w.alloc (.cells #[.int .i64 (m : Int), .string s] 108 (0, 0)) := ⟨_, rfl⟩
  have HW1 := Lib.hid hw1
  rw [← hw1] at HX HB0
  have HI1 := Lib.hid (hx.below HB0.out)
  have hsr : w.heap.size ≤ w1.heap.size := HB0.out.size
  obtain ⟨hcA, hfA⟩ := heap_cellR HX.out
  have hx0 : w1.cell? ⟨w.heap.size, 0, none⟩ = some (.int .i64 (m : Int)) := hcA 0
  have hx1 : w1.cell? ⟨w.heap.size, 1, none⟩ = some (.string s) := hcA 1
  have hltA := blkLt HX.out
  have hlen := segB_len (m, S)
  have hsw := segW_le m s.size hs1
  have HSB := Lib.hid (show segB (m, S) = bitsC m 3 ++ bitsC s.size 8 ++ grpsF m s.size S by rw [segB]; dsimp only; rw [HSL.out])
  dsimp only at hlen
  rw [HSL.out] at hlen
  have HLEN := Lib.hid hlen
  have HGR := Lib.hid (spGroup_any m hm1 hm4)
  have HWI := Lib.hid (fun n hn hg w => spWid_any m n hm1 hm4 hn hg w)
  obtain ⟨D, hD⟩ : ∃ D : Nat, D = if m = 3 then 256 else baseM m := ⟨_, rfl⟩
  have hDi : (if m = 3 then (256 : Int) else ((baseM m : Nat) : Int)) = (D : Int) := by rw [hD]; split <;> rfl
  rw [hDi] at HGR
  have HDE := Lib.hid hD
  have hDb : D ≤ 256 := by rw [hD]; have := baseM_le m; split <;> omega
  obtain ⟨G1, G3⟩ := grpM_bd m
  obtain ⟨G, hG⟩ : ∃ G, G = grpM m := ⟨_, rfl⟩
  have HG := Lib.hid hG
  rw [← hG] at G1 G3 HGR HWI
  have HG31 := Lib.hid (show m = 3 → G = 1 by rintro rfl; rw [hG]; rfl)
  clear hS' hSl hin hx hS hw1 hlen hDi hD hG
  go_enter Tryz.func95, Tryz.ntmps95
  go_wp2_with fail
  rw [← HW1.out]
  obtain ⟨l3, hl3⟩ : ∃ l3, l3 = l ++ bitsC m 3 := ⟨_, rfl⟩
  obtain ⟨l4, hl4⟩ : ∃ l4, l4 = l3 ++ bitsC s.size 8 := ⟨_, rfl⟩
  have HL3 := Lib.hid hl3
  have HL4 := Lib.hid hl4
  have HL3L := Lib.hid (show l3.length ≤ 10003 by rw [hl3, List.length_append, bitsC_len]; omega)
  clear hl3 hl4
  refine wp_region_rt (Keep := KB) [13, 14, 15, 16, 17, 18, 19, 20] (fun us => _)
    [spE (.slice a l.length c),
     spE (.pointer (some ⟨w.heap.size, 0, none⟩)),
     spE (.int .i64 (m : Int)),
     spOwn w.heap.size l3,
     spE (.pointer (some ⟨w.heap.size, 1, none⟩)),
     spE (.string s),
     spE (.int .i64 (s.size : Int)),
     spOwn w.heap.size l4]
    (StX w1) (by kernel_rfl) (by kernel_rfl) (Nat.le_of_ble_eq_true rfl) (fun us => by simp [over, List.mapIdx_cons]; exact rfl) (stX0 _) kbr ?_ ?_
  · refine ⟨?_, ?_, ?_, ?_, ?_, ?_, ?_, ?_, trivial⟩
    all_goals (intro us wx hst hd; rw [if_pos (by kernel_rfl)]; dsimp only)
    · clear hd
      go_simp
      exact kb_same hst rfl
    · clear hd
      go_simp
      exact kb_same hst rfl
    · have d14 : us 14 = (.pointer (some ⟨w.heap.size, 0, none⟩)) := hd ⟨1, .data⟩ (by simp) rfl
      clear hd
      have hW := below_cell hst hx0
      go_simp
      exact kb_same hst rfl
    · have d13 : us 13 = (.slice a l.length c) := hd ⟨0, .data⟩ (by simp) rfl
      have d15 : us 15 = (.int .i64 (m : Int)) := hd ⟨2, .data⟩ (by simp) rfl
      clear hd
      go_simp
      exact (spAppL_any l3 a l _ c m 3 wx HL3.out rfl (HI1.out.below hst) HSl.out hcz (by omega) (by omega) (by omega)).mono fun e w' ⟨a', c', he, ho, hb⟩ => ⟨_, he, kb_below hst hb (ho.weak (Nat.le_trans hsr hst.size))⟩
    · clear hd
      go_simp
      exact kb_same hst rfl
    · have d17 : us 17 = (.pointer (some ⟨w.heap.size, 1, none⟩)) := hd ⟨4, .data⟩ (by simp) rfl
      clear hd
      have hW := below_cell hst hx1
      go_simp
      exact kb_same hst rfl
    · have d18 : us 18 = (.string s) := hd ⟨5, .data⟩ (by simp) rfl
      clear hd
      go_simp
      exact kb_same hst rfl
    · have d16 := hd ⟨3, .data⟩ (by simp) rfl
      have d19 : us 19 = (.int .i64 (s.size : Int)) := hd ⟨6, .data⟩ (by simp) rfl
      clear hd
      have h16 : OwnI wx w.heap.size (us 16) l3 := d16
      obtain ⟨a5, c5, e5, h5⟩ := h16.read
      rw [e5] at h16
      clear d16
      go_simp
      exact (spAppL_any l4 a5 l3 _ c5 s.size 8 wx HL4.out rfl h5 h16.slc h16.cap0 (Nat.le_trans HL3L.out (by decide)) (by omega) (by omega)).mono fun e w' ⟨a', c', he, ho, hb⟩ => ⟨_, he, kb_below hst hb (ho.weak (Nat.le_trans hsr hst.size))⟩
  · intro us wx hst hd
    have d20 := hd 7 (by simp)
    clear hd
    simp only [List.drop, List.length]
    rw []
    have h20 : OwnI wx w.heap.size (us 20) l4 := d20
    obtain ⟨a4, c4, e4, -⟩ := h20.read
    rw [e4] at h20 ⊢
    have HO4 := Lib.hid h20
    have HX4 := Lib.hid (blkK hst HX.out)
    have HB4 := Lib.hid (bt0 HB0.out hst (Nat.le_refl _))
    clear hst h20 e4 d20 hcA hfA hx0 hx1 hltA
    obtain ⟨hcA, hfA⟩ := heap_cellR HX4.out
    have hltA := blkLt HX4.out
    go_wp2_with fail
    refine (HGR.out wx).mono ?_
    rintro e w5 ⟨rfl, rfl⟩
    go_wp2_with fail
    clear hcA hfA hltA
    go_loopw [5, 9, 10, 11, 12] (fun v i _ _ _ wr => ∃ (k : Nat) (a' : Option Addr) (c' : Nat) (M : List Int), k ≤ s.size + 2 ∧ i = .int .i64 k ∧ v = .slice a' M.length c' ∧ M ++ grpsF m (s.size - k) (S.drop k) = l ++ segB (m, S) ∧ OwnI wr w.heap.size (.slice a' M.length c') M ∧ Below wx.heap.size wx wr) (fun _ i _ _ _ _ => s.size - (intOf i).toNat)
    case atStart => exact ⟨0, a4, c4, l4, Nat.zero_le _, rfl, rfl, by rw [HSB.out, HL4.out, HL3.out, Nat.sub_zero, List.drop_zero]; simp [List.append_assoc], HO4.out, Below.refl _ _⟩
    case round =>
      obtain ⟨k, a', c', M, hk, rfl, rfl, hM, ho, hb⟩ := hrel
      obtain ⟨ws, rfl⟩ : ∃ ws : World, ws = wr := ⟨_, rfl⟩
      have HMe := Lib.hid hM
      have HOM := Lib.hid ho
      have HBM := Lib.hid hb
      have hMl : M.length ≤ 16000 := by
        have h := congrArg List.length hM
        rw [List.length_append, List.length_append, HLEN.out] at h
        have := hsw
        omega
      have HXr := Lib.hid (blkK hb HX4.out)
      clear hM ho hb
      obtain ⟨hcA, hfA⟩ := heap_cellR HXr.out
      have hlr := blkLt HXr.out
      by_cases hlt : k < s.size
      · have hki : (k : Int) < (s.size : Int) := by omega
        obtain ⟨n, hn⟩ : ∃ n, n = min G (s.size - k) := ⟨_, rfl⟩
        have hn1 : 1 ≤ n := by omega
        have hn3 : n ≤ G := by omega
        have hnk : k + n ≤ s.size := by omega
        have hmin : (if (s.size : Int) - (k : Int) < (G : Int) then (s.size : Int) - (k : Int) else (G : Int)) = (n : Int) := by split <;> omega
        have HN := Lib.hid hn
        clear hn
        go_wp2_with fail
        clear hcA hfA hlr
        go_loopw [11, 12] (fun v i wx' => ∃ j : Nat, j ≤ n ∧ i = .int .i64 ((k + j : Nat) : Int) ∧ v = .int .i64 (numC m ((S.drop k).take j) : Nat) ∧ Below ws.heap.size ws wx') (fun _ i _ => k + n - (intOf i).toNat)
        case atStart => exact ⟨0, Nat.zero_le _, rfl, rfl, Below.refl _ _⟩
        case round =>
          obtain ⟨j, hj, rfl, rfl, hbx⟩ := hrel
          have HBX := Lib.hid hbx
          have HXj := Lib.hid (blkK hbx HXr.out)
          obtain ⟨hcA, hfA⟩ := heap_cellR HXj.out
          have hx0 : wr.cell? ⟨w.heap.size, 0, none⟩ = some (.int .i64 (m : Int)) := hcA 0
          have hx1 : wr.cell? ⟨w.heap.size, 1, none⟩ = some (.string s) := hcA 1
          have hlx := blkLt HXj.out
          clear hbx hcA hfA
          by_cases hlj : j < n
          · obtain ⟨q, hq⟩ : ∃ q, q = k + j := ⟨_, rfl⟩
            rw [← hq]
            have hqi : (q : Int) < (k : Int) + (n : Int) := by omega
            have hqs : q < s.size := by omega
            have hqsi : (q : Int) < (s.size : Int) := by omega
            obtain ⟨N, hN⟩ : ∃ N, N = numC m ((S.drop k).take j) := ⟨_, rfl⟩
            have hNb : N < 16777216 := by rw [hN]; exact numC_low m _ (by rw [List.length_take]; omega)
            have hb : S[q]? = some (s[q]'hqs) := by rw [HS.out]; exact List.getElem?_eq_getElem (by simpa using hqs)
            obtain ⟨z, hz⟩ : ∃ z : Nat, s[q].toNat = z := ⟨_, rfl⟩
            have hz2 : z < 256 := by rw [← hz]; exact UInt8.toNat_lt _
            have hmem := HIN.out _ (List.mem_of_getElem? hb)
            simp only [inM, decide_eq_true_eq] at hmem
            rw [hz] at hmem
            have hv1 := valC_le m (z : Int) (by omega)
            obtain ⟨V, hV⟩ := Int.eq_ofNat_of_zero_le hmem
            rw [hV] at hv1
            have HCH := Lib.hid (fun w => spChar_any m hm1 hm4 (z : Int) (by omega) (by omega) w)
            rw [hV] at HCH
            have hNS : numC m ((S.drop k).take (j + 1)) = N * D + V := by
              rw [take_snoc' (z := s[q]'hqs) (by rw [List.getElem?_drop, ← hq]; exact hb), numC_snoc, ← hN, hz, hV]
              by_cases h3 : m = 3
              · have h4 := HG31.out h3
                have h5 : j = 0 := by omega
                subst h5
                have h6 : N = 0 := by rw [hN]; rfl
                rw [h6]; simp
              · rw [HDE.out, if_neg h3]; rfl
            have hP : N * D ≤ 16777216 * 256 := Nat.mul_le_mul (by omega) hDb
            obtain ⟨P, hPe⟩ : ∃ P, P = N * D := ⟨_, rfl⟩
            have hPi : (N : Int) * (D : Int) = (P : Int) := by rw [hPe]; push_cast; rfl
            rw [← hPe] at hP hNS
            have hP2 : P ≤ 4294967296 := Nat.le_trans hP (by decide)
            have HNS := Lib.hid hNS
            rw [← hN]
            have HQ := Lib.hid hq
            obtain ⟨PV, hPV⟩ : ∃ PV, PV = P + V := ⟨_, rfl⟩
            have hpvi : (P : Int) + (V : Int) = (PV : Int) := by omega
            have HPV := Lib.hid hPV
            clear hb hmem hV hN hq hPe hNS hP hPV
            go_wp2_with fail
            refine wp_region_ext_tail 12 (by kernel_rfl) (by kernel_rfl) ?_
            simp only [List.take_succ_cons, List.take_zero, List.drop_succ_cons, List.drop_zero]
            repeat (go_big_quiet_step ((go_at_call 121; go_must (exact calls_ext _ (HCH.out _)))))
            refine wpQuiet_nil ?_
            rintro _ ⟨s7, rfl⟩
            have HBX7 := Lib.hid (bt0 HBX.out s7.below (Nat.le_refl _))
            generalize s7.w = w7 at HBX7 ⊢
            clear s7
            go_wp2_with fail
            have hq := HQ.out
            exact ⟨⟨j + 1, by omega, by congr 1; push_cast; omega, by rw [HNS.out, HPV.out], HBX7.out⟩, by simp [intOf]; omega⟩
          · obtain rfl : j = n := by omega
            have hqi : ¬ (((k + j : Nat) : Nat) : Int) < (k : Int) + (j : Int) := by omega
            have HWd := Lib.hid (fun w => HWI.out j hn1 hn3 w)
            obtain ⟨N, hN⟩ : ∃ N, N = numC m ((S.drop k).take j) := ⟨_, rfl⟩
            have hNb : N < 16777216 := by rw [hN]; exact numC_low m _ (by rw [List.length_take]; omega)
            have hWb := widM_bd m j hn1 (by omega)
            obtain ⟨W, hW⟩ : ∃ W, W = widM m j := ⟨_, rfl⟩
            rw [← hW] at HWd hWb
            have HNX := Lib.hid (show bitsC N W ++ grpsF m (s.size - (k + G)) (S.drop (k + G)) = grpsF m (s.size - k) (S.drop k) by
              obtain ⟨f, hf⟩ : ∃ f, s.size - k = f + 1 := ⟨s.size - k - 1, by omega⟩
              have hdl : (S.drop k).length = s.size - k := by rw [List.length_drop, HSL.out]
              cases hd : S.drop k with
              | nil => rw [hd] at hdl; simp at hdl; omega
              | cons c0 l0 =>
                have htk : (c0 :: l0).take (grpM m) = (c0 :: l0).take j := by
                  have h1 := HN.out
                  have h2 := HG.out
                  rw [← hd]
                  by_cases hg : grpM m ≤ s.size - k
                  · rw [show j = grpM m by omega]
                  · rw [List.take_of_length_le (by omega), List.take_of_length_le (by omega)]
                have hdr : (c0 :: l0).drop (grpM m) = S.drop (k + G) := by
                  rw [← hd, List.drop_drop, HG.out]
                have htl : ((c0 :: l0).take j).length = j := by rw [← hd, List.length_take, hdl]; omega
                rw [hf, grpsF, htk, htl, hdr, hN, hW, hd]
                congr 1
                apply grpsF_any <;> rw [List.length_drop, HSL.out] <;> omega)
            rw [← hN]
            obtain ⟨kG, hkG⟩ : ∃ kG, kG = k + G := ⟨_, rfl⟩
            have hkGi : (k : Int) + (G : Int) = (kG : Int) := by omega
            rw [← hkG] at HNX
            have hkG2 : kG ≤ s.size + 2 := by omega
            have hkG3 : k < kG := by omega
            clear hN hW hkG
            go_wp2_with fail
            refine (HWd.out _).mono ?_
            rintro e w8 ⟨rfl, hb8⟩
            have HB8 := Lib.hid (bt0 HBX.out hb8 (Nat.le_refl _))
            clear hb8
            go_wp2_with fail
            have HO8 := Lib.hid (HOM.out.grown HB8.out)
            refine (spApp_any a' M _ c' N W w8 rfl HO8.out.ints HO8.out.slc HO8.out.cap0 (by omega) (by omega) (by omega)).mono ?_
            rintro e w9 ⟨a9, c9, rfl, ho9, hb9⟩
            have HO9 := Lib.hid ho9
            have HB9 := Lib.hid (bt0 (bt0 HBM.out HB8.out (Nat.le_refl _)) hb9 (Nat.le_refl _))
            have hsz9 : w.heap.size ≤ w8.heap.size := Nat.le_trans HB4.out.size (bt0 HBM.out HB8.out (Nat.le_refl _)).size
            clear ho9 hb9
            obtain ⟨l9, hl9⟩ : ∃ l9, l9 = M ++ bitsC N W := ⟨_, rfl⟩
            rw [← hl9] at HO9 ⊢
            have HL9 := Lib.hid hl9
            clear hl9
            go_wp2_with fail
            exact ⟨⟨kG, a9, c9, l9, hkG2, by go_num, rfl, by rw [HL9.out, List.append_assoc, HNX.out, HMe.out], HO9.out.weak hsz9, HB9.out⟩, by simp [intOf]; omega⟩
      · have hki : ¬ (k : Int) < (s.size : Int) := by omega
        have HF := Lib.hid (show M = l ++ segB (m, S) by
          have h := HMe.out
          rw [List.drop_eq_nil_of_le (by rw [HSL.out]; omega)] at h
          have e : grpsF m (s.size - k) [] = [] := by cases (s.size - k) <;> rfl
          rwa [e, List.append_nil] at h)
        go_wp2_with fail
        go_ret
        rw [← HF.out]
        exact ⟨a', c', rfl, HOM.out, bt0 HB4.out HBM.out (Nat.le_refl _)⟩

end Go.Proofs.YtlcglclojlffgaaGreat
