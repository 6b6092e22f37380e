import Derived.Test.YtlgeaccjpgakbaaDoorUDrawAR
import Derived.Test.YtlgeaccjpgakbaaDoorUApI
import Derived.Test.YtlgeaccjpgakbaaDoorUApS
import Derived.Test.YtlgeaccjpgakbaaDoorULikeI
namespace Go.Proofs.YtlgeaccjpgakbaaDoor
open Go.RowKit

theorem likeInts_same {a b : Option Addr} {xs : List Int} {c d : Nat} {w : World} (hx : IntsAt w a xs) (hy : IntsAt w b xs) (lx : xs.length ≤ maxLen) :
    Calls Tryd.prog 14 #[.slice a xs.length c, .slice b xs.length d] w fun e w' => e = .returned (.bool true) ∧ Below w.heap.size w w' :=
  (likeInts_any a b xs xs c d w hx hy lx lx).mono fun _ w' ⟨he, n, hw⟩ => ⟨by rw [he]; simp, by subst hw; exact ⟨rfl, rfl, rfl, Nat.le_refl _, fun _ _ => rfl⟩⟩

/-- what an ApplyRecord comes to -/
structure ArIs (p : ByteArray) (x1 x2 x3 x4 : Int) (xs : List Int) (k i : Int) (pv : ByteArray) (y1 y2 y3 y4 : Int) (zs : List Int) (cd : Int) : Prop where
  eq : ∀ W, RetAr W p x1 x2 x3 x4 (apXs k i x3 xs) (arC p x1 x2 x3 x4 xs k i) = RetSessC W pv y1 y2 y3 y4 zs cd
  len : zs.length ≤ xs.length
  code : arC p x1 x2 x3 x4 xs k i = cd
  ok : cd = 0 → p = pv ∧ x1 = y1 ∧ x2 = y2 ∧ x3 = y3 ∧ x4 = y4 ∧ apXs k i x3 xs = zs
theorem arIs (p : ByteArray) (x1 x2 x3 x4 : Int) (xs : List Int) (k i : Int) : ∃ pv y1 y2 y3 y4 zs cd, ArIs p x1 x2 x3 x4 xs k i pv y1 y2 y3 y4 zs cd := by
  by_cases hz : arC p x1 x2 x3 x4 xs k i = 0
  · exact ⟨p, x1, x2, x3, x4, apXs k i x3 xs, 0, fun W => by unfold RetAr; rw [if_pos hz], by rw [apXs_len]; exact Nat.le_refl _, hz, fun _ => ⟨rfl, rfl, rfl, rfl, rfl, rfl⟩⟩
  · exact ⟨⟨#[]⟩, 0, 0, 0, 0, [], arC p x1 x2 x3 x4 xs k i, fun W => by unfold RetAr; rw [if_neg hz], Nat.zero_le _, rfl, fun h => absurd h hz⟩

/-- what the law says of a record that went through -/
theorem ar_law {p : ByteArray} {x1 x2 x3 x4 : Int} {xs : List Int} {k i : Int} (h : arC p x1 x2 x3 x4 xs k i = 0) :
    isSessB p x1 x2 x3 x4 (apXs k i x3 xs) = true ∧ (xs.length : Int) = x3 ∧ (∀ j : Nat, (j : Int) ≠ i → (apXs k i x3 xs)[j]? = xs[j]?) ∧ (k = 2 → arC p x1 x2 x3 x4 (apXs k i x3 xs) k i = 5) := by
  unfold arC at h
  split at h
  · rename_i hs
    have hap := apC_zero h
    obtain ⟨hb, hl, hx⟩ := sess_parts hs
    unfold apC at h
    split at h
    · rename_i hr
      split at h
      · rename_i ht
        have hr' := hr
        simp only [isRecB, Bool.and_eq_true, inB_iff, decide_eq_true_eq] at hr'
        have hsess : isSessB p x1 x2 x3 x4 (apXs k i x3 xs) = true := by
          rw [hap]
          simp only [isSessB, Bool.and_eq_true, Bool.not_eq_true', bne_eq_false_iff_eq, List.length_set]
          refine ⟨⟨hb, hl⟩, List.all_eq_true.2 fun y hy => ?_⟩
          rcases List.mem_or_eq_of_mem_set hy with hy | rfl
          · exact inB_iff.2 (hx y hy)
          · exact inB_iff.2 (nextS_bd _ _)
        refine ⟨hsess, hl, fun j hj => ?_, fun hk => ?_⟩
        · rw [hap, List.getElem?_set_ne (by omega)]
        · unfold arC
          rw [if_pos hsess]
          unfold apC
          rw [if_pos hr]
          have hi : i.toNat < xs.length := by omega
          have hn : nextS k ((apXs k i x3 xs).getD i.toNat 0) = 0 := by
            rw [hap, List.getD_eq_getElem?_getD, List.getElem?_set_self hi]
            subst hk
            have : nextS 2 (xs.getD i.toNat 0) ≠ 0 := by simpa using ht
            simp only [Option.getD_some]
            unfold nextS at *
            simp at this ⊢
            split <;> simp_all
          rw [hn]
          simp
      · simp at h
    · simp at h
  · simp at h

set_option maxRecDepth 100000 in
set_option maxHeartbeats 1000000 in
theorem sessions_any (a : Option Addr) (n c : Nat) (w : World) (hx : BytesAt w w.heap.size a n) (ht : Tab w) :
    Calls Tryd.prog 3 #[.slice a n c] w fun e w' => e = .returned (.bool true) ∧ Below w.heap.size w w' := by
  have HX := Lib.hid hx
  have HT := Lib.hid ht
  clear hx ht
  by_cases hbig : (4096 : Int) < n
  · go_enter Tryd.func3, Tryd.ntmps3
    go_wp2_with fail
    refine (big_any a n c _).mono ?_
    rintro e w' ⟨rfl, rfl⟩
    go_wp2_with fail
    go_ret
    exact ⟨rfl, Below.refl _ _⟩
  · go_enter Tryd.func3, Tryd.ntmps3
    go_wp2_with fail
    refine (big_any a n c _).mono ?_
    rintro e w0 ⟨rfl, rfl⟩
    go_wp2_with fail
    refine (drawApplyRecord_any a n c _ HX.out (by omega)).mono ?_
    rintro e w1 ⟨p, x1, x2, x3, x4, xs, aX, cX, k, i, rfl, hp, hl, hk, hi, hix, hsl, hb1⟩
    obtain ⟨pv, y1, y2, y3, y4, zs, cd, hAr⟩ := arIs p x1 x2 x3 x4 xs k i
    have HAR := Lib.hid hAr
    have HK := Lib.hid hix
    have HS := Lib.hid hsl
    have HB1 := Lib.hid hb1
    clear hAr hix hsl hb1
    have hp' : p.size ≤ maxLen := by unfold maxLen; omega
    have hl' : xs.length ≤ maxLen := by unfold maxLen; omega
    have hl2 : xs.length ≤ 1099511627776 := by omega
    have hzl := HAR.out.len
    have hz' : zs.length ≤ maxLen := by unfold maxLen; omega
    have HP := Lib.hid hp'
    have HL := Lib.hid hl'
    have HL2 := Lib.hid hl2
    have HZL := Lib.hid hz'
    clear hp' hl' hl2 hzl hz'
    have HK1 := Lib.hid (HK.out.below (ba2 w1 (.cells #[.string p, .int .i64 x1, .int .i64 x2, .int .i64 x3, .int .i64 x4, .slice aX xs.length cX] 28 (0, 0)) (.cells #[.int .i64 k, .int .i64 i] 30 (0, 0))))
    have HB1' := Lib.hid (bt0 HB1.out (ba2 w1 (.cells #[.string p, .int .i64 x1, .int .i64 x2, .int .i64 x3, .int .i64 x4, .slice aX xs.length cX] 28 (0, 0)) (.cells #[.int .i64 k, .int .i64 i] 30 (0, 0))) (Nat.le_refl _))
    go_wp2_with fail
    refine (applyRecord_any p x1 x2 x3 x4 aX xs cX k i _ HK1.out HP.out HL2.out HS.out (HT.out.next HB1'.out)).mono ?_
    rw [HAR.out.eq]
    rintro e w2 ⟨aA, cA, rfl, hoA, hb2⟩
    obtain ⟨hA2, hR2, _⟩ := box2s hb2
    have q2 : w1.heap.size < w2.heap.size := boxLt hA2 (by simp)
    have q2' : w1.heap.size + 1 < w2.heap.size := boxLt hR2 (by simp)
    have HB2 := Lib.hid (bt0 HB1'.out hb2 (Nat.le_refl _))
    have HK2 := Lib.hid (HK1.out.below hb2)
    have HOA2 := Lib.hid hoA
    clear hoA hb2 HK1 HB1'
    go_wp2_with fail
    refine (specApplyRecord_any p x1 x2 x3 x4 aX xs cX k i _ (HK2.out.below (ba1 w2 (.cells #[.string pv, .int .i64 y1, .int .i64 y2, .int .i64 y3, .int .i64 y4, .slice aA zs.length cA] 28 (0, 0)))) HP.out HL2.out HS.out).mono ?_
    rw [HAR.out.eq]
    rintro e w3 ⟨aB, cB, rfl, hoB, hb3⟩
    have hT3 := box1 hb3
    have q3 : w2.heap.size < w3.heap.size := boxLt hT3 (by simp)
    have hA3 := boxB (bt1 hb3) hA2 q2
    have hR3 := boxB (bt1 hb3) hR2 q2'
    have HB3 := Lib.hid (bt0 HB2.out (bt1 hb3) (Nat.le_refl _))
    have HK3 := Lib.hid ((HK2.out.below (ba1 w2 (.cells #[.string pv, .int .i64 y1, .int .i64 y2, .int .i64 y3, .int .i64 y4, .slice aA zs.length cA] 28 (0, 0)))).below hb3)
    have HOA3 := Lib.hid ((HOA2.out.grown (ba1 w2 (.cells #[.string pv, .int .i64 y1, .int .i64 y2, .int .i64 y3, .int .i64 y4, .slice aA zs.length cA] 28 (0, 0)))).grown hb3)
    have HOB3 := Lib.hid hoB
    clear hoB hb3 HK2 HOA2 HB2 hA2 hR2
    have hU4 := box1 (w := w3) (cs := #[.string pv, .int .i64 y1, .int .i64 y2, .int .i64 y3, .int .i64 y4, .slice aB zs.length cB]) (t := 28) (Below.refl _ _)
    have HB4 := Lib.hid (bt0 HB3.out (ba1 w3 (.cells #[.string pv, .int .i64 y1, .int .i64 y2, .int .i64 y3, .int .i64 y4, .slice aB zs.length cB] 28 (0, 0))) (Nat.le_refl _))
    have HK4 := Lib.hid (HK3.out.below (ba1 w3 (.cells #[.string pv, .int .i64 y1, .int .i64 y2, .int .i64 y3, .int .i64 y4, .slice aB zs.length cB] 28 (0, 0))))
    have HOA4 := Lib.hid (HOA3.out.grown (ba1 w3 (.cells #[.string pv, .int .i64 y1, .int .i64 y2, .int .i64 y3, .int .i64 y4, .slice aB zs.length cB] 28 (0, 0))))
    have HOB4 := Lib.hid (HOB3.out.grown (ba1 w3 (.cells #[.string pv, .int .i64 y1, .int .i64 y2, .int .i64 y3, .int .i64 y4, .slice aB zs.length cB] 28 (0, 0))))
    have hT4 := boxB (ba1 w3 (.cells #[.string pv, .int .i64 y1, .int .i64 y2, .int .i64 y3, .int .i64 y4, .slice aB zs.length cB] 28 (0, 0))) hT3 q3
    have hA4 := boxB (ba1 w3 (.cells #[.string pv, .int .i64 y1, .int .i64 y2, .int .i64 y3, .int .i64 y4, .slice aB zs.length cB] 28 (0, 0))) hA3 (by omega)
    have hR4 := boxB (ba1 w3 (.cells #[.string pv, .int .i64 y1, .int .i64 y2, .int .i64 y3, .int .i64 y4, .slice aB zs.length cB] 28 (0, 0))) hR3 (by omega)
    have q4 : w3.heap.size < (w3.alloc (.cells #[.string pv, .int .i64 y1, .int .i64 y2, .int .i64 y3, .int .i64 y4, .slice aB zs.length cB] 28 (0, 0))).heap.size := by simp
    have HU4 := Lib.hid hU4
    have HT4 := Lib.hid hT4
    have HA4 := Lib.hid hA4
    have HR4 := Lib.hid hR4
    have HQ4 := Lib.hid q4
    clear HB3 HK3 HOA3 HOB3 hT4 hA4 hR4 hU4 q4
    go_wp2_with fail
    clear hA3 hR3 hT3
    have hU4 := HU4.out
    have hT4 := HT4.out
    have hA4 := HA4.out
    have hR4 := HR4.out
    have q4 := HQ4.out
    clear HU4 HT4 HA4 HR4 HQ4
    generalize w3.alloc (.cells #[.string pv, .int .i64 y1, .int .i64 y2, .int .i64 y3, .int .i64 y4, .slice aB zs.length cB] 28 (0, 0)) = w4 at *
    obtain ⟨sb, hsb⟩ : ∃ sb, isSessB p x1 x2 x3 x4 xs = sb := ⟨_, rfl⟩
    have HSB := Lib.hid hsb
    clear hsb
    have hne1 : (cd != cd) = false := by simp
    have hne2 : (sb != sb) = false := by simp
    have q41 : w1.heap.size < w4.heap.size := by omega
    have q42 : w1.heap.size + 1 < w4.heap.size := by omega
    have q43 : w2.heap.size < w4.heap.size := by omega
    refine wp_region_ext (by kernel_rfl) (by kernel_rfl) ?_
    repeat (go_big_quiet_step ((first
      | ((go_at_call 14; go_must (apply calls_ext; exact likeInts_same ((HOA4.out.grown (Ext.below _)).ints) ((HOB4.out.grown (Ext.below _)).ints) HZL.out)))
      | ((go_at_call 15; go_must (apply calls_ext; exact isSession_val HSB.out (HK4.out.below (Ext.below _)) HP.out HL.out ((HT.out.next HB4.out).ext _))))
      | ((go_at_call 16; go_must (apply calls_ext; exact specIsSession_val HSB.out (HK4.out.below (Ext.below _)) HP.out HL.out))))))
    refine wpQuiet_nil ?_
    rintro _ ⟨s, rfl⟩
    have HB5 := Lib.hid (bt0 HB4.out s.below (Nat.le_refl _))
    by_cases hz : cd = 0
    · obtain ⟨rfl, rfl, rfl, rfl, rfl, e6⟩ := HAR.out.ok hz
      obtain ⟨hs2, hxl, hoth, h5⟩ := ar_law (HAR.out.code.trans hz)
      rw [e6] at hs2 hoth h5
      have hlen : zs.length = xs.length := by rw [← e6, apXs_len]
      have HS2 := Lib.hid hs2
      have HOTH := Lib.hid hoth
      have H5 : Hid (∀ W, k = 2 → RetAr W p x1 x2 x3 x4 (apXs k i x3 zs) (arC p x1 x2 x3 x4 zs k i) = RetSessC W ⟨#[]⟩ 0 0 0 0 [] 5) := Lib.hid (fun W hk2 => by unfold RetAr; rw [h5 hk2]; rfl)
      have HLEN := Lib.hid hlen
      have HZ2 : Hid (zs.length ≤ 1099511627776) := Lib.hid (by omega)
      subst hz
      clear hs2 hoth h5 hlen e6 hxl
      have hA5 := boxK s.below hA4 (by simp)
      have hR5 := boxK s.below hR4 (by simp)
      have hT5 := boxK s.below hT4 (by simp)
      have hU5 := boxK s.below hU4 (by simp)
      have HK5 := Lib.hid (HK4.out.below s.below)
      have HOA5 := Lib.hid (HOA4.out.grown s.below)
      have HOB5 := Lib.hid (HOB4.out.grown s.below)
      clear hA4 hR4 hT4 hU4 HK4 HOA4 HOB4 HB4 q4 q41 q42 q43
      go_wp2_with fail
      go_loopw [9] (fun v wr => ∃ j n : Nat, j ≤ xs.length ∧ v = .int .i64 j ∧ wr = s.w.drewN n) (fun v _ => xs.length - (intOf v).toNat)
      case atStart => exact ⟨0, 0, Nat.zero_le _, rfl, rfl⟩
      case round =>
        obtain ⟨j, m, hj, rfl, rfl⟩ := hrel
        by_cases hlt : j < xs.length
        · obtain ⟨b1, o1, x, rfl, hxj, hb1, hc1⟩ := HK5.out.at hlt
          obtain ⟨b2, o2, y, rfl, hyj, hb2, hc2⟩ := (HOB5.out.ints).at (k := j) (by rw [HLEN.out]; exact hlt)
          have hways : (y != x) = false ∨ ((y != x) = true ∧ ((j : Int) != i) = false) := by
            by_cases hji : (j : Int) = i
            · cases h : (y != x)
              · exact .inl rfl
              · exact .inr ⟨rfl, by simp [hji]⟩
            · left
              have := HOTH.out j hji
              rw [hxj, hyj] at this
              have := Option.some.inj this
              simp [this]
          have hjz : (j : Int) < (zs.length : Int) := by rw [HLEN.out]; omega
          have hjx : (j : Int) < (xs.length : Int) := by omega
          clear hxj hyj
          rcases hways with hw | ⟨hw, hw2⟩
          · go_wp2_with fail
            go_quiet (fail)
            go_wp2
            go_roundw
            case rel => exact ⟨j + 1, _, by omega, by go_num, rfl⟩
            case measure => simp [intOf]; omega
          · go_wp2_with fail
            go_quiet (fail)
            go_wp2
            go_roundw
            case rel => exact ⟨j + 1, _, by omega, by go_num, rfl⟩
            case measure => simp [intOf]; omega
        · have hb6 : Below s.w.heap.size s.w (s.w.drewN m) := ⟨rfl, rfl, rfl, Nat.le_refl _, fun _ _ => rfl⟩
          have hA6 := boxK hb6 hA5 (by simp)
          have hR6 := boxK hb6 hR5 (by simp)
          have hT6 := boxK hb6 hT5 (by simp)
          have HB6 := Lib.hid (bt0 HB5.out hb6 (Nat.le_refl _))
          have HOA6 := Lib.hid (HOA5.out.grown hb6)
          have q61 : w1.heap.size < (s.w.drewN m).heap.size := boxLt hA6 (by simp)
          have q62 : w1.heap.size + 1 < (s.w.drewN m).heap.size := boxLt hR6 (by simp)
          have q63 : w2.heap.size < (s.w.drewN m).heap.size := boxLt hT6 (by simp)
          clear hb6 hA5 hR5 hT5 hU5 HK5 HOA5 HOB5
          have hjx : ¬ (j : Int) < (xs.length : Int) := by omega
          have hpp : (p.toList == p.toList) = true := by simp
          have ex1 : (x1 == x1) = true := by simp
          have ex2 : (x2 == x2) = true := by simp
          have ex3 : (x3 == x3) = true := by simp
          have ex4 : (x4 == x4) = true := by simp
          by_cases hk2 : k = 2
          · have H5' := Lib.hid (fun W => H5.out W hk2)
            clear H5
            subst hk2
            go_wp2_with fail
            refine (applyRecord_any p x1 x2 x3 x4 aA zs cA 2 i _ HOA6.out.ints HP.out HZ2.out HOA6.out.slc (HT.out.next HB6.out)).mono ?_
            rw [H5'.out]
            rintro e w7 ⟨a7, c7, rfl, ho7, hb7⟩
            have hT7 := boxK hb7 hT6 (by simp)
            have HOA7 := Lib.hid (HOA6.out.grown hb7)
            have HB7 := Lib.hid (bt0 HB6.out hb7 (Nat.le_refl _))
            have q7 : w2.heap.size < w7.heap.size := boxLt hT7 (by simp)
            clear ho7 hb7 hA6 hR6 hT6 q61 q62 q63
            go_wp2_with fail
            refine (isSession_val HS2.out ((HOA7.out.grown (ba1 w7 (.cells #[.string ⟨#[]⟩, .int .i64 0, .int .i64 0, .int .i64 0, .int .i64 0, .slice a7 0 c7] 28 (0, 0)))).ints) HP.out HZL.out (HT.out.next (bt0 HB7.out (ba1 w7 (.cells #[.string ⟨#[]⟩, .int .i64 0, .int .i64 0, .int .i64 0, .int .i64 0, .slice a7 0 c7] 28 (0, 0))) (Nat.le_refl _)))).mono ?_
            rintro e w8 ⟨rfl, hb8⟩
            have HB8 := Lib.hid (bt0 HB7.out (bt1 hb8) (Nat.le_refl _))
            clear hb8
            go_wp2_with fail
            go_ret
            exact ⟨rfl, HB8.out⟩
          · have hk2' : (k == 2) = false := by simpa using hk2
            go_wp2_with fail
            refine (isSession_val HS2.out HOA6.out.ints HP.out HZL.out (HT.out.next HB6.out)).mono ?_
            rintro e w7 ⟨rfl, hb7⟩
            have hT7 := boxK hb7 hT6 (by simp)
            have hA7 := boxK hb7 hA6 (by simp)
            have HB7 := Lib.hid (bt0 HB6.out hb7 (Nat.le_refl _))
            clear hb7 hA6 hR6 hT6 q61 q62 q63
            go_wp2_with fail
            go_ret
            exact ⟨rfl, HB7.out⟩
    · have hz' : (cd != 0) = true := by simpa using hz
      go_wp2_with fail
      go_ret
      exact ⟨rfl, HB5.out⟩

end Go.Proofs.YtlgeaccjpgakbaaDoor
