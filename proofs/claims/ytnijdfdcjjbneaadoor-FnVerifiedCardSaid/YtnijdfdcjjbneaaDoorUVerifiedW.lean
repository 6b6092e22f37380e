import Derived.Test.YtnijdfdcjjbneaaDoorUDrawVB
import Derived.Test.YtnijdfdcjjbneaaDoorUVerS
import Derived.Test.YtnijdfdcjjbneaaDoorULikeI
namespace Go.Proofs.YtnijdfdcjjbneaaDoor
open Go.RowKit

set_option maxHeartbeats 400000 in
theorem hasInt_any (a : Option Addr) (xs : List Int) (c : Nat) (x : Int) (w : World) (hx : IntsAt w a xs) (lx : xs.length ≤ 1099511627776) :
    Calls Tryd.prog 29 #[.slice a xs.length c, .int .i64 x] w fun e w' => e = .returned (.bool (decide (x ∈ xs))) ∧ w = w' := by
  go_enter Tryd.func29, Tryd.ntmps29
  go_wp2
  go_loop [5] (fun i => ∃ k : Nat, k ≤ xs.length ∧ i = .int .i64 k ∧ x ∉ xs.take k) (fun i => xs.length - (intOf i).toNat)
  case atStart => exact ⟨0, Nat.zero_le _, rfl, by simp⟩
  case round =>
    obtain ⟨k, hk, rfl, ht⟩ := hrel
    have HT := Lib.hid ht
    clear ht
    by_cases hlt : k < xs.length
    · obtain ⟨b1, o1, y, rfl, hyk, hb1, hc1⟩ := hx.at hlt
      have HY := Lib.hid hyk
      clear hyk hx
      by_cases hxy : y = x
      · have hxy' : (y == x) = true := by simp [hxy]
        have HE := Lib.hid hxy
        clear hxy
        go_wp2
        go_ret
        exact ⟨ret_bool (by rw [decide_eq_true]; rw [← HE.out]; exact List.mem_of_getElem? HY.out), rfl⟩
      · have hxy' : (y == x) = false := by simp [hxy]
        have HE := Lib.hid hxy
        clear hxy
        go_wp2
        go_round
        case rel => exact ⟨k + 1, by omega, by go_num, by
          rw [take_snoc' HY.out, List.mem_append, List.mem_singleton]
          exact fun h => h.elim HT.out (fun e => HE.out e.symm)⟩
        case measure => simp [intOf]; omega
    · clear hx
      obtain rfl : k = xs.length := by omega
      go_wp2
      go_ret
      exact ⟨ret_bool (by have h := HT.out; rw [List.take_length] at h; simp [h]), rfl⟩
theorem hasInt_no {a : Option Addr} {xs : List Int} {c : Nat} {x : Int} {w : World} (hx : IntsAt w a xs) (lx : xs.length ≤ 200) (hn : x ∉ xs) :
    Calls Tryd.prog 29 #[.slice a xs.length c, .int .i64 x] w fun e w' => e = .returned (.bool false) ∧ w = w' :=
  (hasInt_any a xs c x w hx (by omega)).mono fun _ _ ⟨he, hw⟩ => ⟨by rw [he]; simp [hn], hw⟩
theorem likeI_same {a b : Option Addr} {zs : List Int} {c d : Nat} {w : World} (hx : IntsAt w a zs) (hy : IntsAt w b zs) (lz : zs.length ≤ 200) :
    Calls Tryd.prog 28 #[.slice a zs.length c, .slice b zs.length d] w fun e w' => e = .returned (.bool true) ∧ Below w.heap.size w w' :=
  (likeInts_any a b zs zs c d w hx hy (by unfold maxLen; omega) (by unfold maxLen; omega)).mono fun _ _ ⟨he, n, hw⟩ => ⟨by rw [he]; simp, by rw [hw]; exact ⟨rfl, rfl, rfl, Nat.le_refl _, fun _ _ => rfl⟩⟩

theorem vb_len2 (p : ByteArray) (x1 x2 x3 x4 : Int) (ms : List ByteArray) : (vbM p x1 x2 x3 x4 ms).length ≤ 200 ∧ (vbT p x1 x2 x3 x4 ms).length ≤ 200 := by
  rcases Bool.eq_false_or_eq_true (isBatchB p x1 x2 x3 x4) with h1 | h1
  · obtain ⟨_, _, _, b4, b5, _⟩ := batch_parts h1
    have hm := zerosL_len (fun i => occ ms (serB p x1 x2 x4 i)) x3.toNat
    have ht := manyL_len (fun i => occ ms (serB p x1 x2 x4 i)) x3.toNat
    unfold vbM vbT
    by_cases h : vbC p x1 x2 x3 x4 ms = 0
    · rw [if_pos h, if_pos h]; omega
    · rw [if_neg h, if_neg h]; simp
  · obtain ⟨_, e2, e3, _⟩ := vb_not (ms := ms) h1
    rw [e2, e3]; simp
theorem zeros_sum {f : Nat → Int} (h0 : ∀ i, 0 ≤ f i) : ∀ n : Nat, ((n : Nat) : Int) - (zerosL f n).length ≤ sumI f n
  | 0 => by simp [zerosL, sumI]
  | n + 1 => by
    have := zeros_sum h0 n
    have hn := h0 n
    rw [sumI_succ]
    by_cases h : f n = 0
    · rw [zerosL_yes h, List.length_append, List.length_singleton]; omega
    · rw [zerosL_no h]; omega
theorem occ_pos {ms : List ByteArray} {s : ByteArray} (h : s ∈ ms) : 1 ≤ occ ms s := by
  unfold occ
  have : 0 < ms.countP fun m => decide (m = s) := List.countP_pos_iff.2 ⟨s, h, by simp⟩
  omega
/-- what the law asks, of a verification that was made -/
theorem vd_law {p : ByteArray} {x1 x2 x3 x4 : Int} {ms : List ByteArray} (h : vbC p x1 x2 x3 x4 ms = 0) :
    isBatchB p x1 x2 x3 x4 = true ∧ vbF p x1 x2 x3 x4 ms = frn p x1 x2 x3 x4 ms ∧ (∀ s ∈ ms, ∀ k, ixR p x1 x2 x3 x4 s = some k → (k : Int) ∉ vbM p x1 x2 x3 x4 ms) ∧ (∀ z ∈ vbT p x1 x2 x3 x4 ms, z ∉ vbM p x1 x2 x3 x4 ms) ∧
      x3 - (vbM p x1 x2 x3 x4 ms).length ≤ ms.length - frn p x1 x2 x3 x4 ms := by
  rcases Bool.eq_false_or_eq_true (isBatchB p x1 x2 x3 x4) with h1 | h1
  · have hl : ¬ (400 : Int) < ms.length := by
      intro hl
      obtain ⟨e, _⟩ := vb_many h1 hl
      rw [e] at h; cases h
    obtain ⟨_, e2, e3, e4⟩ := vb_ok h1 hl
    obtain ⟨_, _, _, b4, b5, _⟩ := batch_parts h1
    rw [e2, e3, e4]
    refine ⟨h1, rfl, fun s hs k hk hm => ?_, fun z hz hm => ?_, ?_⟩
    · obtain ⟨i, hi, he, h0⟩ := mem_zerosL.1 hm
      obtain rfl : k = i := by omega
      have := (ixR_mem hk).2
      have hp := occ_pos hs
      have h0' : occ ms (serB p x1 x2 x4 (k : Nat)) = 0 := h0
      rw [this] at h0'
      omega
    · obtain ⟨i, hi, he, h0⟩ := mem_zerosL.1 hm
      obtain ⟨j, hj, he2, h2⟩ := mem_manyL.1 hz
      obtain rfl : i = j := by omega
      have h0' : occ ms (serB p x1 x2 x4 (i : Nat)) = 0 := h0
      have h2' : 1 < occ ms (serB p x1 x2 x4 (i : Nat)) := h2
      omega
    · have hs := sum_occ h1 ms
      have hz := zeros_sum (f := fun i => occ ms (serB p x1 x2 x4 i)) (fun i => (occ_bd ms _).1) x3.toNat
      omega
  · obtain ⟨e, _⟩ := vb_not (ms := ms) h1
    rw [e] at h; cases h
theorem io_val {p : ByteArray} {x1 x2 x3 x4 : Int} {s : ByteArray} (hb : isBatchB p x1 x2 x3 x4 = true) : ioK p x1 x2 x3 x4 s = ixK (ixR p x1 x2 x3 x4 s) ∧ ioC p x1 x2 x3 x4 s = if (ixR p x1 x2 x3 x4 s).isSome then 0 else 4 := by
  unfold ioK ioC
  rw [hb]
  exact ⟨rfl, rfl⟩

set_option maxRecDepth 100000 in
set_option maxHeartbeats 2000000 in
theorem verified_any (a : Option Addr) (n c : Nat) (w : World) (hx : BytesAt w w.heap.size a n) (ht : Tab w) :
    Calls Tryd.prog 5 #[.slice a n c] w fun e w' => e = .returned (.bool true) ∧ Below w.heap.size w w' := by
  have HX := Lib.hid hx
  have HT := Lib.hid ht
  clear hx ht
  by_cases hbig : (4096 : Int) < n
  · go_enter Tryd.func5, Tryd.ntmps5
    go_wp2_with fail
    refine (big_any a n c _).mono ?_
    rintro e w' ⟨rfl, rfl⟩
    go_wp2_with fail
    go_ret
    exact ⟨rfl, Below.refl _ _⟩
  · go_enter Tryd.func5, Tryd.ntmps5
    go_wp2_with fail
    refine (big_any a n c _).mono ?_
    rintro e w0 ⟨rfl, rfl⟩
    go_wp2_with fail
    refine (drawVerifyBatch_any a n c _ HX.out (by omega)).mono ?_
    rintro e w1 ⟨p, x1, x2, x3, x4, am, ms, cm, rfl, hp, hms, hml, hmz, hb1⟩
    have hp' : p.size ≤ maxLen := by unfold maxLen; omega
    have hmz' : ∀ s ∈ ms, s.size ≤ maxLen := fun s hs => by have := hmz s hs; unfold maxLen; omega
    have HP := Lib.hid hp'
    have HMZ := Lib.hid hmz'
    have HB1 := Lib.hid (hb1.trans ((ba1 w1 (.cells #[.string p, .int .i64 x1, .int .i64 x2, .int .i64 x3, .int .i64 x4] 25 (0, 0))).mono hb1.size))
    have HA1 := Lib.hid (boxF0 w1 #[.string p, .int .i64 x1, .int .i64 x2, .int .i64 x3, .int .i64 x4] 25)
    have HM1 := Lib.hid (hms.below (ba1 w1 (.cells #[.string p, .int .i64 x1, .int .i64 x2, .int .i64 x3, .int .i64 x4] 25 (0, 0))))
    clear hp' hb1 hmz hmz' hms hp
    obtain ⟨lM, lT⟩ := vb_len2 p x1 x2 x3 x4 ms
    have hlaw : vbC p x1 x2 x3 x4 ms = 0 → _ := fun h => vd_law h
    obtain ⟨M, hM⟩ : ∃ M, vbM p x1 x2 x3 x4 ms = M := ⟨_, rfl⟩
    obtain ⟨T, hT⟩ : ∃ T, vbT p x1 x2 x3 x4 ms = T := ⟨_, rfl⟩
    obtain ⟨F, hF⟩ : ∃ F, vbF p x1 x2 x3 x4 ms = F := ⟨_, rfl⟩
    obtain ⟨cd, hC⟩ : ∃ cd, vbC p x1 x2 x3 x4 ms = cd := ⟨_, rfl⟩
    rw [hM, hT, hF, hC] at hlaw
    rw [hM] at lM
    rw [hT] at lT
    have hfm := Lib.hid hM
    have hft := Lib.hid hT
    have hff := Lib.hid hF
    have hfc := Lib.hid hC
    have HLAW := Lib.hid hlaw
    clear hM hT hF hC hlaw
    have hff' : (F != F) = false := by simp
    have hcc' : (cd != cd) = false := by simp
    go_wp2_with fail
    refine (verifyBatch_any p x1 x2 x3 x4 am ms cm _ HM1.out HP.out (by omega) HMZ.out (HT.out.next HB1.out)).mono ?_
    rw [hfm.out, hft.out, hff.out, hfc.out]
    rintro e w2 ⟨aM, cM, aT, cT, rfl, htw⟩
    have hA2 := boxK htw.2.2.2 HA1.out (by simp)
    have HB2 := Lib.hid (bt0 HB1.out htw.2.2.2 (Nat.le_refl _))
    have HM2 := Lib.hid (HM1.out.below htw.2.2.2)
    have HG2 := Lib.hid htw.1.ints
    have HK2 := Lib.hid htw.2.1.ints
    clear htw
    go_wp2_with fail
    refine (specVerifyBatch_any p x1 x2 x3 x4 am ms cm _ HM2.out HP.out (by omega)).mono ?_
    rw [hfm.out, hft.out, hff.out, hfc.out]
    rintro e w3 ⟨bM, dM, bT, dT, rfl, htw⟩
    have hA3 := boxK htw.2.2.2 hA2 (by simp)
    have HB3 := Lib.hid (bt0 HB2.out htw.2.2.2 (Nat.le_refl _))
    have HM3 := Lib.hid (HM2.out.below htw.2.2.2)
    have HG3 := Lib.hid (HG2.out.below htw.2.2.2)
    have HK3 := Lib.hid (HK2.out.below htw.2.2.2)
    have HP3 := Lib.hid htw.1.ints
    have HQ3 := Lib.hid htw.2.1.ints
    clear htw hA2
    go_wp2_with fail
    refine (likeI_same HG3.out HP3.out lM).mono ?_
    rintro e w4 ⟨rfl, hb4⟩
    have hA4 := boxK hb4 hA3 (by simp)
    have HB4 := Lib.hid (bt0 HB3.out hb4 (Nat.le_refl _))
    have HM4 := Lib.hid (HM3.out.below hb4)
    have HG4 := Lib.hid (HG3.out.below hb4)
    have HK4 := Lib.hid (HK3.out.below hb4)
    have HQ4 := Lib.hid (HQ3.out.below hb4)
    clear hb4 hA3
    go_wp2_with fail
    refine (likeI_same HK4.out HQ4.out lT).mono ?_
    rintro e w5 ⟨rfl, hb5⟩
    have hA5 := boxK hb5 hA4 (by simp)
    have HB5 := Lib.hid (bt0 HB4.out hb5 (Nat.le_refl _))
    have HM5 := Lib.hid (HM4.out.below hb5)
    have HG5 := Lib.hid (HG4.out.below hb5)
    have HK5 := Lib.hid (HK4.out.below hb5)
    have q5 : w1.heap.size < w5.heap.size := boxLt hA5 (by simp)
    clear hb5 hA4
    by_cases hz : cd = 0
    · obtain ⟨hb, hFf, hMs, hTs, hcnt⟩ := HLAW.out hz
      subst hz
      have HBT := Lib.hid hb
      have HF := Lib.hid hFf
      have HMS := Lib.hid hMs
      have HTS := Lib.hid hTs
      have HCNT := Lib.hid hcnt
      have HA5 := Lib.hid hA5
      obtain ⟨_, _, _, b4, b5, _, _, _, _, _, _⟩ := batch_parts hb
      clear hb hFf hMs hTs hcnt hA5
      by_cases h20 : (20 : Int) < ms.length
      · go_wp2_with fail
        go_ret
        exact ⟨rfl, HB5.out⟩
      · go_wp2_with fail
        go_loopw [13, 14, 15, 16] (fun fd i _ _ wr => ∃ k : Nat, k ≤ ms.length ∧ i = .int .i64 k ∧ fd = .int .i64 (k - frn p x1 x2 x3 x4 (ms.take k)) ∧ Below w5.heap.size w5 wr) (fun _ i _ _ _ => ms.length - (intOf i).toNat)
        case atStart => exact ⟨0, Nat.zero_le _, rfl, rfl, Below.refl _ _⟩
        case round =>
          obtain ⟨k, hk, rfl, rfl, hbl⟩ := hrel
          have HL := Lib.hid hbl
          have hA6 := boxK hbl HA5.out (by simp)
          have q6 : w1.heap.size < wr.heap.size := boxLt hA6 (by simp)
          have HG6 := Lib.hid (HG5.out.below hbl)
          have HB6 := Lib.hid (bt0 HB5.out hbl (Nat.le_refl _))
          obtain ⟨f0, f1⟩ := frn_bd p x1 x2 x3 x4 (ms.take k)
          have f2 := List.length_take_le k ms
          obtain ⟨fr, hfr⟩ : ∃ fr, frn p x1 x2 x3 x4 (ms.take k) = fr := ⟨_, rfl⟩
          rw [hfr] at f0 f1 ⊢
          have f3 : fr ≤ 400 := by omega
          have HFR := Lib.hid hfr
          clear hbl hfr f1 f2
          by_cases hlt : k < ms.length
          · obtain ⟨b1, o1, s, rfl, hsk, hb1, hc1⟩ := ((HM5.out.below HL.out)).at hlt
            obtain ⟨ix, hix⟩ : ∃ ix, ixR p x1 x2 x3 x4 s = ix := ⟨_, rfl⟩
            obtain ⟨e1, e2⟩ := io_val (s := s) HBT.out
            rw [hix] at e1 e2
            have HIO := Lib.hid (show ∀ w : World, Tab w → Calls Tryd.prog 12 #[.agg #[.string p, .int .i64 x1, .int .i64 x2, .int .i64 x3, .int .i64 x4], .string s] w fun e w' => e = .returned (.tuple #[.int .i64 (ixK ix), .int .i64 (if ix.isSome then 0 else 4)]) ∧ Below w.heap.size w w' from fun w ht => by
              have := indexOfSerial_any p x1 x2 x3 x4 s w HP.out ht
              rwa [e1, e2] at this)
            have hkn : (k : Int) < (ms.length : Int) := by omega
            have HS := Lib.hid hsk
            have HIX := Lib.hid hix
            clear e1 e2 hix hsk
            go_wp2_with fail
            refine wp_region_ext (by kernel_rfl) (by kernel_rfl) ?_
            repeat (go_big_quiet_step ((go_at_call 12; go_must (apply calls_ext; exact HIO.out _ ((HT.out.next HB6.out).ext _)))))
            refine wpQuiet_nil ?_
            rintro _ ⟨sx, rfl⟩
            have HL7 := Lib.hid (bt0 HL.out sx.below (Nat.le_refl _))
            have HG7 := Lib.hid (HG6.out.below sx.below)
            clear hA6 hc1
            cases ix with
            | none =>
              simp only [ixK, Option.isSome_none]
              go_wp2_with fail
              exact ⟨⟨k + 1, by omega, by go_num, congrArg (Value.int .i64) (by rw [take_snoc' HS.out, frn_snoc, if_pos HIX.out, HFR.out]; omega), HL7.out⟩, by simp [intOf]; omega⟩
            | some j =>
              simp only [ixK, Option.isSome_some]
              have hno := HMS.out s (List.mem_of_getElem? HS.out) j HIX.out
              have HNO := Lib.hid hno
              clear hno
              go_wp2_with fail
              refine (hasInt_no HG7.out lM HNO.out).mono ?_
              rintro e w8 ⟨rfl, rfl⟩
              go_wp2_with fail
              exact ⟨⟨k + 1, by omega, by go_num, congrArg (Value.int .i64) (by rw [take_snoc' HS.out, frn_snoc, if_neg (by rw [HIX.out]; simp), HFR.out]; omega), HL7.out⟩, by simp [intOf]; omega⟩
          · obtain rfl : k = ms.length := by omega
            have hFR := HFR.out
            rw [List.take_length] at hFR
            obtain rfl : F = fr := HF.out.trans hFR
            have HK6 := Lib.hid (HK5.out.below HL.out)
            have HCN : Hid (x3 - (M.length : Int) ≤ ms.length - F) := Lib.hid (by have := HCNT.out; rw [hFR] at this; exact this)
            clear hFR HFR HCNT HF
            have hcn := HCN.out
            go_wp2_with fail
            go_loop [17] (fun i => ∃ k : Nat, k ≤ T.length ∧ i = .int .i64 k) (fun i => T.length - (intOf i).toNat)
            case atStart => exact ⟨0, Nat.zero_le _, rfl⟩
            case round =>
              obtain ⟨k, hk, rfl⟩ := hrel
              by_cases hlt : k < T.length
              · obtain ⟨b1, o1, z, rfl, hzk, hb1, hc1⟩ := HK6.out.at hlt
                have HNO := Lib.hid (HTS.out z (List.mem_of_getElem? hzk))
                have hkn : (k : Int) < (T.length : Int) := by omega
                clear hzk
                go_wp2_with fail
                refine (hasInt_no HG6.out lM HNO.out).mono ?_
                rintro e w8 ⟨rfl, rfl⟩
                go_wp2_with fail
                go_round
                case rel => exact ⟨k + 1, by omega, by go_num⟩
                case measure => simp [intOf]; omega
              · obtain rfl : k = T.length := by omega
                have hs1 : ((ms.length : Int) - F + F == ms.length) = true := by simp
                go_wp2_with fail
                go_ret
                exact ⟨by first | rfl | (simp; done), HB6.out⟩
    · have hz' : (cd != 0) = true := by simpa using hz
      go_wp2_with fail
      go_ret
      exact ⟨rfl, HB5.out⟩

end Go.Proofs.YtnijdfdcjjbneaaDoor
