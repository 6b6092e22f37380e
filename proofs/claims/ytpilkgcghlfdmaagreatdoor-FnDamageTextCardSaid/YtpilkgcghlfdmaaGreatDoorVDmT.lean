import Derived.Test.YtpilkgcghlfdmaaGreatDoorVDmW
import Derived.Test.YtpilkgcghlfdmaaGreatDoorVDecI
namespace Go.Proofs.YtpilkgcghlfdmaaGreatDoor
open Go.RowKit

theorem dt_none {ds : List Dm} (h : 20 < ds.length ∨ ds.all Dm.ok = false) : dtB ds = ⟨#[]⟩ := by
  have : dtext ds = [] := by
    rw [dtext, if_neg]
    rintro ⟨h1, h2⟩
    rcases h with h | h
    · omega
    · rw [List.all_eq_true.2 h2] at h; cases h
  rw [dtB, this]
theorem dt_some {ds : List Dm} (h1 : ds.length ≤ 20) (h2 : ds.all Dm.ok = true) : dtB ds = ⟨(textD ds).toArray⟩ := by
  rw [dtB, dtext, if_pos ⟨h1, List.all_eq_true.1 h2⟩]
theorem wl_line {ds : List Dm} {d : Dm} {k : Nat} {ss : List ByteArray} {q : Nat} {t : ByteArray} (h : bytesL ss = (ds.take k).map lineD) (hd : ds[k]? = some d) (hok : d.ok = true) (hq : (d.k - 1).toNat = q) (ht : t = wordB q ++ ⟨#[32]⟩ ++ ⟨(decX (numsD d)).toArray⟩) :
    bytesL (ss ++ [t]) = (ds.take (k + 1)).map lineD := by
  rw [bytesL_snoc, h, take_snoc' hd, List.map_append, List.map_cons, List.map_nil, numsD_line hok, hq, ht]
  simp [wordB]

/-- strings.Join with a semicolon at texts of the call's own -/
theorem join_own (base : Nat) (a : Option Addr) (c : Nat) (ss : List ByteArray) (w : World) (ho : OwnS w base (.slice a ss.length c) ss) (hl : (glue 59 (bytesL ss)).length ≤ 1000000) (hn : ss.length ≤ 1000000) :
    Calls Tryz.prog 24 #[.slice a ss.length c, .string ⟨#[59]⟩] w fun e w' => e = .returned (.string ⟨(glue 59 (bytesL ss)).toArray⟩) ∧ Below w.heap.size w w' := by
  rcases Nat.eq_zero_or_pos ss.length with h0 | h0
  · have e0 : ss = [] := List.eq_nil_of_length_eq_zero h0
    subst e0
    exact (Tryz.strings_Join_none a c ⟨#[59]⟩ w).mono fun e w' ⟨he, hw⟩ => ⟨he, hw ▸ Below.refl _ _⟩
  · obtain ⟨g, rfl, -, -, hg⟩ := ho.block h0
    have hc : ss.length ≤ c := by
      rcases ho.2 with ⟨h1, h2⟩ | ⟨g, cap, cur, h1, -, -, hn, -⟩
      · omega
      · have := Value.slice.inj h1
        omega
    have hj : Lib.join (ss.map (fun b => b.data.toList)) (⟨#[59]⟩ : ByteArray).data.toList = glue 59 (bytesL ss) := join_glue 59 (ss.map (fun b => b.data.toList))
    have h := Tryz.strings_Join g 0 c ss ⟨#[59]⟩ w (fun j x hj => by
      obtain ⟨b, o, e, h⟩ := ho.strs j (List.getElem?_eq_some_iff.1 hj).1
      simp only [Option.some.injEq, Addr.mk.injEq, and_true] at e
      obtain ⟨rfl, rfl⟩ := e
      rw [h, (List.getElem?_eq_some_iff.1 hj).2]) hg (by omega) hc (by rw [hj]; omega)
    rw [hj] at h
    exact h

set_option maxRecDepth 100000 in
set_option maxHeartbeats 8000000 in
theorem damagesText_any (a : Option Addr) (ds : List Dm) (c : Nat) (w : World) (hx : DmsAt w a ds) (lx : ds.length ≤ 1099511627776) (hT : Tab w) :
    Calls Tryz.prog 7 #[.slice a ds.length c] w fun e w' => e = .returned (.string (dtB ds)) ∧ Below w.heap.size w w' := by
  have HX := Lib.hid hx
  have HT := Lib.hid hT
  clear hx hT
  by_cases h20 : 20 < ds.length
  · have HD := Lib.hid (dt_none (Or.inl h20))
    have h20' : (20 : Int) < (ds.length : Int) := by omega
    go_enter Tryz.func7, Tryz.ntmps7
    go_wp2_with fail
    go_ret
    exact ⟨ret_str HD.out.symm, Below.refl _ _⟩
  · have h20' : ¬ (20 : Int) < (ds.length : Int) := by omega
    rcases Bool.eq_false_or_eq_true (ds.all Dm.ok) with hall | hall
    · have HD := Lib.hid (dt_some (by omega) hall)
      have HALL := Lib.hid hall
      clear hall
      obtain ⟨i0, hi, y0, y1, y2⟩ := info_parts infoStr
      go_enter Tryz.func7, Tryz.ntmps7
      go_wp2_with fail
      refine (allDamages_val HALL.out HX.out lx).mono ?_
      rintro e w1 ⟨rfl, hb1⟩
      have HB1 := Lib.hid hb1
      clear hb1
      go_wp2_with fail
      go_loopw [3, 5, 6, 7, 19] (fun v _ _ _ i wr => ∃ (k : Nat) (ss : List ByteArray) (a' : Option Addr) (c' : Nat), k ≤ ds.length ∧ i = .int .i64 k ∧ bytesL ss = (ds.take k).map lineD ∧ v = .slice a' ss.length c' ∧ OwnS wr w.heap.size (.slice a' ss.length c') ss ∧ Below w.heap.size w wr) (fun _ _ _ _ i _ => ds.length - (intOf i).toNat)
      case atStart => exact ⟨0, [], _, 0, Nat.zero_le _, rfl, rfl, rfl, (show OwnS _ w1.heap.size _ _ from OwnS.new w1).weak HB1.out.size, bt0 HB1.out (ba1 _ _) (Nat.le_refl _)⟩
      case round =>
        obtain ⟨k, ss, a1, c1, hk, rfl, hss, rfl, ho, hb⟩ := hrel
        have HSS := Lib.hid hss
        have HO := Lib.hid ho
        have HB := Lib.hid hb
        have hsl : ss.length = k := by
          have := congrArg List.length hss
          rw [bytesL, List.length_map, List.length_map, List.length_take] at this
          omega
        have HSL := Lib.hid hsl
        have hs20 : ss.length ≤ 20 := by omega
        have hwz : w.heap.size ≤ wr.heap.size := hb.size
        clear hss ho hb hsl
        by_cases hlt : k < ds.length
        · obtain ⟨b1, o1, ⟨dk, dr, dc, dt, dw, dg⟩, rfl, hdk, hb1, hc0, hc1, hc2, hc3, hc4, hc5⟩ := (HX.out.below HB.out).at hlt
          have hdok : (⟨dk, dr, dc, dt, dw, dg⟩ : Dm).ok = true := List.all_eq_true.1 HALL.out _ (List.mem_of_getElem? hdk)
          have HDO := Lib.hid hdok
          have hbd := (dm_bounds hdok).1
          dsimp only at hc0 hc1 hc2 hc3 hc4 hc5 hbd
          have HDK := Lib.hid hdk
          have hk5 : dk = 1 ∨ dk = 2 ∨ dk = 3 ∨ dk = 4 ∨ dk = 5 := by omega
          clear hdk hdok hbd
          rcases hk5 with rfl | rfl | rfl | rfl | rfl
          · have hm1 := methodWord1 dr dc dt dw dg
            have hm2 := methodFields1 dr dc dt dw dg
            have HBD := Lib.hid (numsD_bd HDO.out)
            obtain ⟨tb, htb⟩ : ∃ tb : ByteArray, (⟨(decX (numsD ⟨1, dr, dc, dt, dw, dg⟩)).toArray⟩ : ByteArray) = tb := ⟨_, rfl⟩
            have htl : tb.size ≤ 110 := by
              rw [← htb]
              have h1 := decX_len _ HBD.out.1
              have h2 := HBD.out.2
              show (decX _).toArray.size ≤ 110
              rw [List.size_toArray]; omega
            have hz1 : (wordB 0).size = 4 := rfl
            have hs1 : ¬ (9223372036854775807 : Int) < ((wordB 0).size : Int) + ((⟨#[32]⟩ : ByteArray).size : Int) := by decide
            obtain ⟨wt, hwt⟩ : ∃ wt : ByteArray, wordB 0 ++ ⟨#[32]⟩ = wt := ⟨_, rfl⟩
            have hwl : wt.size ≤ 8 := by rw [← hwt]; decide
            go_wp2_with fail
            refine (harm1 _ _ _ _ _ _).mono ?_
            rintro e w2 ⟨rfl, hb2⟩
            have HB2 := Lib.hid (bt0 HB.out (bt1 hb2) (Nat.le_refl _))
            have HO2 := Lib.hid ((HO.out.grown (ba1 _ _)).grown hb2)
            clear hb2 hc0 hc1 hc2 hc3 hc4 hc5 hb1
            go_wp2_with fail
            refine (word1 _ _ _ _ _ _).mono ?_
            rintro e w3 ⟨rfl, hb3⟩
            have HB3 := Lib.hid (bt0 HB2.out hb3 (Nat.le_refl _))
            have HO3 := Lib.hid (HO2.out.grown hb3)
            clear hb3
            go_wp2_with fail
            refine (fields1 _ _ _ _ _ _).mono ?_
            rintro e w4 ⟨zs, a4, c4, hzs, rfl, hi4, hb4⟩
            have HB4 := Lib.hid (bt0 HB3.out hb4 (Nat.le_refl _))
            have HO4 := Lib.hid (HO3.out.grown hb4)
            have HI4 := Lib.hid hi4
            have HZS := Lib.hid hzs
            clear hb4 hi4 hzs
            go_wp2_with fail
            refine (decimals_any a4 zs c4 _ HI4.out (by rw [HZS.out]; exact HBD.out.1) (by rw [HZS.out]; have := HBD.out.2; omega) (HT.out.next HB4.out)).mono ?_
            rw [HZS.out, htb]
            rintro e w5 ⟨rfl, hb5⟩
            have HB5 := Lib.hid (bt0 HB4.out hb5 (Nat.le_refl _))
            have HO5 := Lib.hid (HO4.out.grown hb5)
            have hw5 : w.heap.size ≤ w5.heap.size := HB5.out.size
            clear hb5
            go_wp2_with (at_builtin; refine wpList_append_own _ rfl _ _ 58 rfl w.heap.size 9 i0 (.string ⟨#[]⟩) 1 16 Tryz.underlying58 hi y0 y1 y2 rfl (by decide) _ _ _ rfl (World.ownsRow.alloc HO5.out _) ⟨w5.heap.size, 0, none⟩ 1 1 [.string (wt ++ tb)] rfl rfl (str_one_new _ _ _) (str_one _) (by unfold maxLen; omega) (by omega) (by simp; omega) ?_; intro v' w9 hown3 hgrow3 _)
            obtain ⟨a9, c9, rfl, -⟩ := (OwnS.snoc hown3).read
            refine ⟨⟨k + 1, _, a9, c9, by omega, by go_num, wl_line HSS.out HDK.out HDO.out rfl ?_, rfl, OwnS.snoc hown3, below_of_grownBy' HB5.out HO5.out.lo hgrow3⟩, by simp [intOf]; omega⟩
            subst hwt; subst htb; rfl
          · have hm1 := methodWord2 dr dc dt dw dg
            have hm2 := methodFields2 dr dc dt dw dg
            have HBD := Lib.hid (numsD_bd HDO.out)
            obtain ⟨tb, htb⟩ : ∃ tb : ByteArray, (⟨(decX (numsD ⟨2, dr, dc, dt, dw, dg⟩)).toArray⟩ : ByteArray) = tb := ⟨_, rfl⟩
            have htl : tb.size ≤ 110 := by
              rw [← htb]
              have h1 := decX_len _ HBD.out.1
              have h2 := HBD.out.2
              show (decX _).toArray.size ≤ 110
              rw [List.size_toArray]; omega
            have hz1 : (wordB 1).size = 7 := rfl
            have hs1 : ¬ (9223372036854775807 : Int) < ((wordB 1).size : Int) + ((⟨#[32]⟩ : ByteArray).size : Int) := by decide
            obtain ⟨wt, hwt⟩ : ∃ wt : ByteArray, wordB 1 ++ ⟨#[32]⟩ = wt := ⟨_, rfl⟩
            have hwl : wt.size ≤ 8 := by rw [← hwt]; decide
            go_wp2_with fail
            refine (harm2 _ _ _ _ _ _).mono ?_
            rintro e w2 ⟨rfl, hb2⟩
            have HB2 := Lib.hid (bt0 HB.out (bt1 hb2) (Nat.le_refl _))
            have HO2 := Lib.hid ((HO.out.grown (ba1 _ _)).grown hb2)
            clear hb2 hc0 hc1 hc2 hc3 hc4 hc5 hb1
            go_wp2_with fail
            refine (word2 _ _ _ _ _ _).mono ?_
            rintro e w3 ⟨rfl, hb3⟩
            have HB3 := Lib.hid (bt0 HB2.out hb3 (Nat.le_refl _))
            have HO3 := Lib.hid (HO2.out.grown hb3)
            clear hb3
            go_wp2_with fail
            refine (fields2 _ _ _ _ _ _).mono ?_
            rintro e w4 ⟨zs, a4, c4, hzs, rfl, hi4, hb4⟩
            have HB4 := Lib.hid (bt0 HB3.out hb4 (Nat.le_refl _))
            have HO4 := Lib.hid (HO3.out.grown hb4)
            have HI4 := Lib.hid hi4
            have HZS := Lib.hid hzs
            clear hb4 hi4 hzs
            go_wp2_with fail
            refine (decimals_any a4 zs c4 _ HI4.out (by rw [HZS.out]; exact HBD.out.1) (by rw [HZS.out]; have := HBD.out.2; omega) (HT.out.next HB4.out)).mono ?_
            rw [HZS.out, htb]
            rintro e w5 ⟨rfl, hb5⟩
            have HB5 := Lib.hid (bt0 HB4.out hb5 (Nat.le_refl _))
            have HO5 := Lib.hid (HO4.out.grown hb5)
            have hw5 : w.heap.size ≤ w5.heap.size := HB5.out.size
            clear hb5
            go_wp2_with (at_builtin; refine wpList_append_own _ rfl _ _ 58 rfl w.heap.size 9 i0 (.string ⟨#[]⟩) 1 16 Tryz.underlying58 hi y0 y1 y2 rfl (by decide) _ _ _ rfl (World.ownsRow.alloc HO5.out _) ⟨w5.heap.size, 0, none⟩ 1 1 [.string (wt ++ tb)] rfl rfl (str_one_new _ _ _) (str_one _) (by unfold maxLen; omega) (by omega) (by simp; omega) ?_; intro v' w9 hown3 hgrow3 _)
            obtain ⟨a9, c9, rfl, -⟩ := (OwnS.snoc hown3).read
            refine ⟨⟨k + 1, _, a9, c9, by omega, by go_num, wl_line HSS.out HDK.out HDO.out rfl ?_, rfl, OwnS.snoc hown3, below_of_grownBy' HB5.out HO5.out.lo hgrow3⟩, by simp [intOf]; omega⟩
            subst hwt; subst htb; rfl
          · have hm1 := methodWord3 dr dc dt dw dg
            have hm2 := methodFields3 dr dc dt dw dg
            have HBD := Lib.hid (numsD_bd HDO.out)
            obtain ⟨tb, htb⟩ : ∃ tb : ByteArray, (⟨(decX (numsD ⟨3, dr, dc, dt, dw, dg⟩)).toArray⟩ : ByteArray) = tb := ⟨_, rfl⟩
            have htl : tb.size ≤ 110 := by
              rw [← htb]
              have h1 := decX_len _ HBD.out.1
              have h2 := HBD.out.2
              show (decX _).toArray.size ≤ 110
              rw [List.size_toArray]; omega
            have hz1 : (wordB 2).size = 4 := rfl
            have hs1 : ¬ (9223372036854775807 : Int) < ((wordB 2).size : Int) + ((⟨#[32]⟩ : ByteArray).size : Int) := by decide
            obtain ⟨wt, hwt⟩ : ∃ wt : ByteArray, wordB 2 ++ ⟨#[32]⟩ = wt := ⟨_, rfl⟩
            have hwl : wt.size ≤ 8 := by rw [← hwt]; decide
            go_wp2_with fail
            refine (harm3 _ _ _ _ _ _).mono ?_
            rintro e w2 ⟨rfl, hb2⟩
            have HB2 := Lib.hid (bt0 HB.out (bt1 hb2) (Nat.le_refl _))
            have HO2 := Lib.hid ((HO.out.grown (ba1 _ _)).grown hb2)
            clear hb2 hc0 hc1 hc2 hc3 hc4 hc5 hb1
            go_wp2_with fail
            refine (word3 _ _ _ _ _ _).mono ?_
            rintro e w3 ⟨rfl, hb3⟩
            have HB3 := Lib.hid (bt0 HB2.out hb3 (Nat.le_refl _))
            have HO3 := Lib.hid (HO2.out.grown hb3)
            clear hb3
            go_wp2_with fail
            refine (fields3 _ _ _ _ _ _).mono ?_
            rintro e w4 ⟨zs, a4, c4, hzs, rfl, hi4, hb4⟩
            have HB4 := Lib.hid (bt0 HB3.out hb4 (Nat.le_refl _))
            have HO4 := Lib.hid (HO3.out.grown hb4)
            have HI4 := Lib.hid hi4
            have HZS := Lib.hid hzs
            clear hb4 hi4 hzs
            go_wp2_with fail
            refine (decimals_any a4 zs c4 _ HI4.out (by rw [HZS.out]; exact HBD.out.1) (by rw [HZS.out]; have := HBD.out.2; omega) (HT.out.next HB4.out)).mono ?_
            rw [HZS.out, htb]
            rintro e w5 ⟨rfl, hb5⟩
            have HB5 := Lib.hid (bt0 HB4.out hb5 (Nat.le_refl _))
            have HO5 := Lib.hid (HO4.out.grown hb5)
            have hw5 : w.heap.size ≤ w5.heap.size := HB5.out.size
            clear hb5
            go_wp2_with (at_builtin; refine wpList_append_own _ rfl _ _ 58 rfl w.heap.size 9 i0 (.string ⟨#[]⟩) 1 16 Tryz.underlying58 hi y0 y1 y2 rfl (by decide) _ _ _ rfl (World.ownsRow.alloc HO5.out _) ⟨w5.heap.size, 0, none⟩ 1 1 [.string (wt ++ tb)] rfl rfl (str_one_new _ _ _) (str_one _) (by unfold maxLen; omega) (by omega) (by simp; omega) ?_; intro v' w9 hown3 hgrow3 _)
            obtain ⟨a9, c9, rfl, -⟩ := (OwnS.snoc hown3).read
            refine ⟨⟨k + 1, _, a9, c9, by omega, by go_num, wl_line HSS.out HDK.out HDO.out rfl ?_, rfl, OwnS.snoc hown3, below_of_grownBy' HB5.out HO5.out.lo hgrow3⟩, by simp [intOf]; omega⟩
            subst hwt; subst htb; rfl
          · have hm1 := methodWord4 dr dc dt dw dg
            have hm2 := methodFields4 dr dc dt dw dg
            have HBD := Lib.hid (numsD_bd HDO.out)
            obtain ⟨tb, htb⟩ : ∃ tb : ByteArray, (⟨(decX (numsD ⟨4, dr, dc, dt, dw, dg⟩)).toArray⟩ : ByteArray) = tb := ⟨_, rfl⟩
            have htl : tb.size ≤ 110 := by
              rw [← htb]
              have h1 := decX_len _ HBD.out.1
              have h2 := HBD.out.2
              show (decX _).toArray.size ≤ 110
              rw [List.size_toArray]; omega
            have hz1 : (wordB 3).size = 5 := rfl
            have hs1 : ¬ (9223372036854775807 : Int) < ((wordB 3).size : Int) + ((⟨#[32]⟩ : ByteArray).size : Int) := by decide
            obtain ⟨wt, hwt⟩ : ∃ wt : ByteArray, wordB 3 ++ ⟨#[32]⟩ = wt := ⟨_, rfl⟩
            have hwl : wt.size ≤ 8 := by rw [← hwt]; decide
            go_wp2_with fail
            refine (harm4 _ _ _ _ _ _).mono ?_
            rintro e w2 ⟨rfl, hb2⟩
            have HB2 := Lib.hid (bt0 HB.out (bt1 hb2) (Nat.le_refl _))
            have HO2 := Lib.hid ((HO.out.grown (ba1 _ _)).grown hb2)
            clear hb2 hc0 hc1 hc2 hc3 hc4 hc5 hb1
            go_wp2_with fail
            refine (word4 _ _ _ _ _ _).mono ?_
            rintro e w3 ⟨rfl, hb3⟩
            have HB3 := Lib.hid (bt0 HB2.out hb3 (Nat.le_refl _))
            have HO3 := Lib.hid (HO2.out.grown hb3)
            clear hb3
            go_wp2_with fail
            refine (fields4 _ _ _ _ _ _).mono ?_
            rintro e w4 ⟨zs, a4, c4, hzs, rfl, hi4, hb4⟩
            have HB4 := Lib.hid (bt0 HB3.out hb4 (Nat.le_refl _))
            have HO4 := Lib.hid (HO3.out.grown hb4)
            have HI4 := Lib.hid hi4
            have HZS := Lib.hid hzs
            clear hb4 hi4 hzs
            go_wp2_with fail
            refine (decimals_any a4 zs c4 _ HI4.out (by rw [HZS.out]; exact HBD.out.1) (by rw [HZS.out]; have := HBD.out.2; omega) (HT.out.next HB4.out)).mono ?_
            rw [HZS.out, htb]
            rintro e w5 ⟨rfl, hb5⟩
            have HB5 := Lib.hid (bt0 HB4.out hb5 (Nat.le_refl _))
            have HO5 := Lib.hid (HO4.out.grown hb5)
            have hw5 : w.heap.size ≤ w5.heap.size := HB5.out.size
            clear hb5
            go_wp2_with (at_builtin; refine wpList_append_own _ rfl _ _ 58 rfl w.heap.size 9 i0 (.string ⟨#[]⟩) 1 16 Tryz.underlying58 hi y0 y1 y2 rfl (by decide) _ _ _ rfl (World.ownsRow.alloc HO5.out _) ⟨w5.heap.size, 0, none⟩ 1 1 [.string (wt ++ tb)] rfl rfl (str_one_new _ _ _) (str_one _) (by unfold maxLen; omega) (by omega) (by simp; omega) ?_; intro v' w9 hown3 hgrow3 _)
            obtain ⟨a9, c9, rfl, -⟩ := (OwnS.snoc hown3).read
            refine ⟨⟨k + 1, _, a9, c9, by omega, by go_num, wl_line HSS.out HDK.out HDO.out rfl ?_, rfl, OwnS.snoc hown3, below_of_grownBy' HB5.out HO5.out.lo hgrow3⟩, by simp [intOf]; omega⟩
            subst hwt; subst htb; rfl
          · have hm1 := methodWord5 dr dc dt dw dg
            have hm2 := methodFields5 dr dc dt dw dg
            have HBD := Lib.hid (numsD_bd HDO.out)
            obtain ⟨tb, htb⟩ : ∃ tb : ByteArray, (⟨(decX (numsD ⟨5, dr, dc, dt, dw, dg⟩)).toArray⟩ : ByteArray) = tb := ⟨_, rfl⟩
            have htl : tb.size ≤ 110 := by
              rw [← htb]
              have h1 := decX_len _ HBD.out.1
              have h2 := HBD.out.2
              show (decX _).toArray.size ≤ 110
              rw [List.size_toArray]; omega
            have hz1 : (wordB 4).size = 4 := rfl
            have hs1 : ¬ (9223372036854775807 : Int) < ((wordB 4).size : Int) + ((⟨#[32]⟩ : ByteArray).size : Int) := by decide
            obtain ⟨wt, hwt⟩ : ∃ wt : ByteArray, wordB 4 ++ ⟨#[32]⟩ = wt := ⟨_, rfl⟩
            have hwl : wt.size ≤ 8 := by rw [← hwt]; decide
            go_wp2_with fail
            refine (harm5 _ _ _ _ _ _).mono ?_
            rintro e w2 ⟨rfl, hb2⟩
            have HB2 := Lib.hid (bt0 HB.out (bt1 hb2) (Nat.le_refl _))
            have HO2 := Lib.hid ((HO.out.grown (ba1 _ _)).grown hb2)
            clear hb2 hc0 hc1 hc2 hc3 hc4 hc5 hb1
            go_wp2_with fail
            refine (word5 _ _ _ _ _ _).mono ?_
            rintro e w3 ⟨rfl, hb3⟩
            have HB3 := Lib.hid (bt0 HB2.out hb3 (Nat.le_refl _))
            have HO3 := Lib.hid (HO2.out.grown hb3)
            clear hb3
            go_wp2_with fail
            refine (fields5 _ _ _ _ _ _).mono ?_
            rintro e w4 ⟨zs, a4, c4, hzs, rfl, hi4, hb4⟩
            have HB4 := Lib.hid (bt0 HB3.out hb4 (Nat.le_refl _))
            have HO4 := Lib.hid (HO3.out.grown hb4)
            have HI4 := Lib.hid hi4
            have HZS := Lib.hid hzs
            clear hb4 hi4 hzs
            go_wp2_with fail
            refine (decimals_any a4 zs c4 _ HI4.out (by rw [HZS.out]; exact HBD.out.1) (by rw [HZS.out]; have := HBD.out.2; omega) (HT.out.next HB4.out)).mono ?_
            rw [HZS.out, htb]
            rintro e w5 ⟨rfl, hb5⟩
            have HB5 := Lib.hid (bt0 HB4.out hb5 (Nat.le_refl _))
            have HO5 := Lib.hid (HO4.out.grown hb5)
            have hw5 : w.heap.size ≤ w5.heap.size := HB5.out.size
            clear hb5
            go_wp2_with (at_builtin; refine wpList_append_own _ rfl _ _ 58 rfl w.heap.size 9 i0 (.string ⟨#[]⟩) 1 16 Tryz.underlying58 hi y0 y1 y2 rfl (by decide) _ _ _ rfl (World.ownsRow.alloc HO5.out _) ⟨w5.heap.size, 0, none⟩ 1 1 [.string (wt ++ tb)] rfl rfl (str_one_new _ _ _) (str_one _) (by unfold maxLen; omega) (by omega) (by simp; omega) ?_; intro v' w9 hown3 hgrow3 _)
            obtain ⟨a9, c9, rfl, -⟩ := (OwnS.snoc hown3).read
            refine ⟨⟨k + 1, _, a9, c9, by omega, by go_num, wl_line HSS.out HDK.out HDO.out rfl ?_, rfl, OwnS.snoc hown3, below_of_grownBy' HB5.out HO5.out.lo hgrow3⟩, by simp [intOf]; omega⟩
            subst hwt; subst htb; rfl
        · have HEND : Hid (glue 59 (bytesL ss) = textD ds) := Lib.hid (by
            have h := HSS.out
            rw [List.take_of_length_le (by omega)] at h
            rw [h]; rfl)
          have hgl : (glue 59 (bytesL ss)).length ≤ 1000000 := by
            rw [HEND.out]
            have := textD_len ds (List.all_eq_true.1 HALL.out)
            omega
          go_wp2_with fail
          refine (join_own w.heap.size a1 c1 ss wr HO.out hgl (by omega)).mono ?_
          rw [HEND.out]
          rintro e w2 ⟨rfl, hb2⟩
          have HB2 := Lib.hid (bt0 HB.out hb2 (Nat.le_refl _))
          clear hb2
          go_wp2_with fail
          go_ret
          exact ⟨ret_str HD.out.symm, HB2.out⟩
    · have HD := Lib.hid (dt_none (Or.inr hall))
      have HALL := Lib.hid hall
      clear hall
      go_enter Tryz.func7, Tryz.ntmps7
      go_wp2_with fail
      refine (allDamages_val HALL.out HX.out lx).mono ?_
      rintro e w1 ⟨rfl, hb1⟩
      have HB1 := Lib.hid hb1
      clear hb1
      go_wp2_with fail
      go_ret
      exact ⟨ret_str HD.out.symm, HB1.out⟩

end Go.Proofs.YtpilkgcghlfdmaaGreatDoor
