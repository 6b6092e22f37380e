import Derived.Test.YteggjpfaleeajaaDoorUSCW
import Derived.Test.YteggjpfaleeajaaDoorUOwn2
import Derived.Handy
namespace Go.Proofs.YteggjpfaleeajaaDoor
open Go.RowKit

theorem likeInts_same {a b : Option Addr} {xs : List Int} {c d : Nat} {w : World} (hx : IntsAt w a xs) (hy : IntsAt w b xs) (lx : xs.length ≤ maxLen) :
    Calls Tryd.prog 31 #[.slice a xs.length c, .slice b xs.length d] w fun e w' => e = .returned (.bool true) ∧ Below w.heap.size w w' :=
  (likeInts_any a b xs xs c d w hx hy lx lx).mono fun _ w' ⟨he, n, hw⟩ => ⟨by rw [he]; simp, by subst hw; exact ⟨rfl, rfl, rfl, Nat.le_refl _, fun _ _ => rfl⟩⟩
theorem isComp_val {p : ByteArray} {x1 x2 x3 x4 : Int} {a : Option Addr} {xs : List Int} {c : Nat} {w : World} {b : Bool} (h : isCompB p x1 x2 x3 x4 xs = b) (hx : IntsAt w a xs) (hp : p.size ≤ maxLen) (lx : xs.length ≤ maxLen) (ht : Tab w) :
    Calls Tryd.prog 21 #[.agg #[.string p, .int .i64 x1, .int .i64 x2, .int .i64 x3, .int .i64 x4, .slice a xs.length c]] w fun e w' => e = .returned (.bool b) ∧ Below w.heap.size w w' := h ▸ isComplete_any _ _ _ _ _ _ _ _ _ hx hp lx ht
theorem specIsComp_val {p : ByteArray} {x1 x2 x3 x4 : Int} {a : Option Addr} {xs : List Int} {c : Nat} {w : World} {b : Bool} (h : isCompB p x1 x2 x3 x4 xs = b) (hx : IntsAt w a xs) (hp : p.size ≤ maxLen) (lx : xs.length ≤ maxLen) :
    Calls Tryd.prog 20 #[.agg #[.string p, .int .i64 x1, .int .i64 x2, .int .i64 x3, .int .i64 x4, .slice a xs.length c]] w fun e w' => e = .returned (.bool b) ∧ Below w.heap.size w w' := h ▸ specIsComplete_any _ _ _ _ _ _ _ _ _ hx hp lx

set_option maxRecDepth 100000 in
set_option maxHeartbeats 1000000 in
theorem sessionCounts_any (a : Option Addr) (n c : Nat) (w : World) (hx : BytesAt w w.heap.size a n) (ht : Tab w) :
    Calls Tryd.prog 8 #[.slice a n c] w fun e w' => e = .returned (.bool true) ∧ Below w.heap.size w w' := by
  have HX := Lib.hid hx
  have HT := Lib.hid ht
  clear hx ht
  by_cases hbig : (4096 : Int) < n
  · go_enter Tryd.func8, Tryd.ntmps8
    go_wp2_with fail
    refine (big_any a n c _).mono ?_
    rintro e w' ⟨rfl, rfl⟩
    go_wp2_with fail
    go_ret
    exact ⟨rfl, Below.refl _ _⟩
  · go_enter Tryd.func8, Tryd.ntmps8
    go_wp2_with fail
    refine (big_any a n c _).mono ?_
    rintro e w0 ⟨rfl, rfl⟩
    go_wp2_with fail
    refine (drawStateCounts_any a n c _ HX.out (by omega)).mono ?_
    rintro e w1 ⟨p, x1, x2, x3, x4, xs, aX, cX, rfl, hp, hl, hi, hsl, hb1⟩
    have HX1 := Lib.hid (hi.below (ba1 w1 (.cells #[.string p, .int .i64 x1, .int .i64 x2, .int .i64 x3, .int .i64 x4, .slice aX xs.length cX] 28 (0, 0))))
    have HB1 := Lib.hid (hb1.trans ((ba1 w1 (.cells #[.string p, .int .i64 x1, .int .i64 x2, .int .i64 x3, .int .i64 x4, .slice aX xs.length cX] 28 (0, 0))).mono hb1.size))
    have HA1 := Lib.hid (boxF0 w1 #[.string p, .int .i64 x1, .int .i64 x2, .int .i64 x3, .int .i64 x4, .slice aX xs.length cX] 28)
    have hp' : p.size ≤ maxLen := by unfold maxLen; omega
    have hl' : xs.length ≤ maxLen := by unfold maxLen; omega
    have HP := Lib.hid hp'
    have HL := Lib.hid hl'
    clear hi hsl hb1 hp' hl'
    obtain ⟨ls, cd, hls, hcd⟩ : ∃ ls cd, scVal p x1 x2 x3 x4 xs = ls ∧ scCode p x1 x2 x3 x4 xs = cd := ⟨_, _, rfl, rfl⟩
    obtain ⟨nk, nc, hnk, hnc⟩ : ∃ nk nc, (nextOf p x1 x2 x3 x4 xs).1 = nk ∧ (nextOf p x1 x2 x3 x4 xs).2 = nc := ⟨_, _, rfl, rfl⟩
    obtain ⟨cb, hcb⟩ : ∃ cb, isCompB p x1 x2 x3 x4 xs = cb := ⟨_, rfl⟩
    have HLS := Lib.hid hls
    have HCD := Lib.hid hcd
    have HNK := Lib.hid hnk
    have HNC := Lib.hid hnc
    have HCB := Lib.hid hcb
    have HLL : Hid (ls.length ≤ maxLen) := Lib.hid (by rw [← hls]; unfold scVal maxLen; split <;> simp [counts_len])
    clear hls hcd hnk hnc hcb
    have hne1 : (cd != cd) = false := by simp
    have hne2 : (nk != nk) = false := by simp
    have hne3 : (nc != nc) = false := by simp
    have hne4 : (cb != cb) = false := by simp
    go_wp2_with fail
    refine (stateCounts_any p x1 x2 x3 x4 aX xs cX _ HX1.out HP.out (by omega) (HT.out.next HB1.out)).mono ?_
    rw [HLS.out, HCD.out]
    rintro e w2 ⟨aL, cL, rfl, hoL, hb2⟩
    have hA2 := boxK hb2 HA1.out (by simp)
    have HB2 := Lib.hid (bt0 HB1.out hb2 (Nat.le_refl _))
    have HX2 := Lib.hid (HX1.out.below hb2)
    have HOL2 := Lib.hid hoL
    have q2 : w1.heap.size < w2.heap.size := boxLt hA2 (by simp)
    clear hoL hb2
    go_wp2_with fail
    refine (specStateCounts_any p x1 x2 x3 x4 aX xs cX _ HX2.out HP.out (by omega)).mono ?_
    rw [HLS.out, HCD.out]
    rintro e w3 ⟨aM, cM, rfl, hoM, hb3⟩
    have hA3 := boxK hb3 hA2 (by simp)
    have HB3 := Lib.hid (bt0 HB2.out hb3 (Nat.le_refl _))
    have HX3 := Lib.hid (HX2.out.below hb3)
    have HOL3 := Lib.hid (HOL2.out.grown hb3)
    have HOM3 := Lib.hid hoM
    clear hoM hb3 hA2 q2
    go_wp2_with fail
    refine (nextToPrint_any p x1 x2 x3 x4 aX xs cX _ HX3.out HP.out HL.out (HT.out.next HB3.out)).mono ?_
    rw [HNK.out, HNC.out]
    rintro e w4 ⟨rfl, hb4⟩
    have hA4 := boxK hb4 hA3 (by simp)
    have HB4 := Lib.hid (bt0 HB3.out hb4 (Nat.le_refl _))
    have HX4 := Lib.hid (HX3.out.below hb4)
    have HOL4 := Lib.hid (HOL3.out.grown hb4)
    have HOM4 := Lib.hid (HOM3.out.grown hb4)
    clear hb4 hA3
    go_wp2_with fail
    refine (specNextToPrint_any p x1 x2 x3 x4 aX xs cX _ HX4.out HP.out HL.out).mono ?_
    rw [HNK.out, HNC.out]
    rintro e w5 ⟨rfl, hb5⟩
    have hA5 := boxK hb5 hA4 (by simp)
    have HB5 := Lib.hid (bt0 HB4.out hb5 (Nat.le_refl _))
    have HX5 := Lib.hid (HX4.out.below hb5)
    have HOL5 := Lib.hid (HOL4.out.grown hb5)
    have HOM5 := Lib.hid (HOM4.out.grown hb5)
    have q5 : w1.heap.size < w5.heap.size := boxLt hA5 (by simp)
    clear hb5 hA4
    go_wp2_with fail
    refine wp_region_ext (by kernel_rfl) (by kernel_rfl) ?_
    repeat (go_big_quiet_step ((first
      | ((go_at_call 31; go_must (apply calls_ext; exact likeInts_same ((HOL5.out.grown (Ext.below _)).ints) ((HOM5.out.grown (Ext.below _)).ints) HLL.out)))
      | ((go_at_call 21; go_must (apply calls_ext; exact isComp_val HCB.out (HX5.out.below (Ext.below _)) HP.out HL.out ((HT.out.next HB5.out).ext _))))
      | ((go_at_call 20; go_must (apply calls_ext; exact specIsComp_val HCB.out (HX5.out.below (Ext.below _)) HP.out HL.out))))))
    refine wpQuiet_nil ?_
    rintro _ ⟨s, rfl⟩
    have HB6 := Lib.hid (bt0 HB5.out s.below (Nat.le_refl _))
    rcases Bool.eq_false_or_eq_true (isSessB p x1 x2 x3 x4 xs) with h1 | h1
    · obtain ⟨c0, c1, c2, c3, c4, hc, hsum, n0, n1, n2, n3, n4, hic, hnx⟩ := sess_law h1
      have hls : ls = [c0, c1, c2, c3, c4] := by rw [← HLS.out, scVal, if_pos h1, hc]
      have hcd : cd = 0 := by rw [← HCD.out, scCode, if_pos h1]
      subst hls hcd
      rw [HCB.out] at hic
      rw [HNC.out] at hnx
      have hx3 : x3 ≤ 300 := by
        have h' := h1
        simp only [isSessB, Bool.and_eq_true, Bool.not_eq_true', bne_eq_false_iff_eq] at h'
        have e : (xs.length : Int) = x3 := h'.1.2
        omega
      obtain ⟨g, hg, _, hcl, _⟩ := HOL5.out.block (by simp)
      subst hg
      have O6 := HOL5.out.grown s.below
      have k0 := O6.cellAt rfl (k := 0) (by simp)
      have k1 := O6.cellAt rfl (k := 1) (by simp)
      have k2 := O6.cellAt rfl (k := 2) (by simp)
      have k3 := O6.cellAt rfl (k := 3) (by simp)
      have k4 := O6.cellAt rfl (k := 4) (by simp)
      simp at k0 k1 k2 k3 k4
      have hA6 := boxK s.below hA5 (by simp)
      have HX6 := Lib.hid (HX5.out.below s.below)
      have HT6 := Lib.hid (HT.out.next HB6.out)
      clear hc h1 HX1 HX2 HX3 HX4 HX5 HOL2 HOL3 HOL4 HOL5 HOM3 HOM4 HOM5 HB1 HB2 HB3 HB4 HB5 hA5 HA1
      have HO6 := Lib.hid O6
      clear O6
      go_wp2_with fail
      go_loop [12, 13] (fun s i => (i = .int .i64 0 ∧ s = .int .i64 0) ∨ (i = .int .i64 1 ∧ s = .int .i64 c0) ∨ (i = .int .i64 2 ∧ s = .int .i64 (c0 + c1)) ∨ (i = .int .i64 3 ∧ s = .int .i64 (c0 + c1 + c2)) ∨ (i = .int .i64 4 ∧ s = .int .i64 (c0 + c1 + c2 + c3)) ∨ (i = .int .i64 5 ∧ s = .int .i64 (c0 + c1 + c2 + c3 + c4))) (fun _ i => 5 - (intOf i).toNat)
      case atStart => exact .inl ⟨rfl, rfl⟩
      case round =>
        rcases hrel with ⟨rfl, rfl⟩ | ⟨rfl, rfl⟩ | ⟨rfl, rfl⟩ | ⟨rfl, rfl⟩ | ⟨rfl, rfl⟩ | ⟨rfl, rfl⟩
        · go_wp2_with fail
          go_round
          case rel => exact .inr (.inl ⟨by go_num, by go_num⟩)
          case measure => simp [intOf]
        · go_wp2_with fail
          go_round
          case rel => exact .inr (.inr (.inl ⟨by go_num, by go_num⟩))
          case measure => simp [intOf]
        · go_wp2_with fail
          go_round
          case rel => exact .inr (.inr (.inr (.inl ⟨by go_num, by go_num⟩)))
          case measure => simp [intOf]
        · go_wp2_with fail
          go_round
          case rel => exact .inr (.inr (.inr (.inr (.inl ⟨by go_num, by go_num⟩))))
          case measure => simp [intOf]
        · go_wp2_with fail
          go_round
          case rel => exact .inr (.inr (.inr (.inr (.inr ⟨by go_num, by go_num⟩))))
          case measure => simp [intOf]
        · have hs3 : (c0 + c1 + c2 + c3 + c4 == x3) = true := by simp [hsum]
          have hn : ((nc == 0) == decide (0 < c1)) = true := by rw [hnx]; simp
          rcases Bool.eq_false_or_eq_true (c0 == 0) with e0 | e0
          · rcases Bool.eq_false_or_eq_true (c1 == 0) with e1 | e1
            · rcases Bool.eq_false_or_eq_true (c2 == 0) with e2 | e2
              · have hic' : (cb == true) = true := by rw [hic, e0, e1, e2]; rfl
                go_wp2_with fail
                refine (isComp_val HCB.out HX6.out HP.out HL.out HT6.out).mono ?_
                rintro e w7 ⟨rfl, hb7⟩
                have k1' := (HO6.out.grown hb7).cellAt rfl (k := 1) (by simp)
                simp at k1'
                have HB7 := Lib.hid (bt0 HB6.out hb7 (Nat.le_refl _))
                clear hb7
                go_wp2_with fail
                go_ret
                exact ⟨rfl, HB7.out⟩
              · have hic' : (cb == false) = true := by rw [hic, e0, e1, e2]; rfl
                go_wp2_with fail
                refine (isComp_val HCB.out HX6.out HP.out HL.out HT6.out).mono ?_
                rintro e w7 ⟨rfl, hb7⟩
                have k1' := (HO6.out.grown hb7).cellAt rfl (k := 1) (by simp)
                simp at k1'
                have HB7 := Lib.hid (bt0 HB6.out hb7 (Nat.le_refl _))
                clear hb7
                go_wp2_with fail
                go_ret
                exact ⟨rfl, HB7.out⟩
            · have hic' : (cb == false) = true := by rw [hic, e0, e1]; rfl
              go_wp2_with fail
              refine (isComp_val HCB.out HX6.out HP.out HL.out HT6.out).mono ?_
              rintro e w7 ⟨rfl, hb7⟩
              have k1' := (HO6.out.grown hb7).cellAt rfl (k := 1) (by simp)
              simp at k1'
              have HB7 := Lib.hid (bt0 HB6.out hb7 (Nat.le_refl _))
              clear hb7
              go_wp2_with fail
              go_ret
              exact ⟨rfl, HB7.out⟩
          · have hic' : (cb == false) = true := by rw [hic, e0]; rfl
            go_wp2_with fail
            refine (isComp_val HCB.out HX6.out HP.out HL.out HT6.out).mono ?_
            rintro e w7 ⟨rfl, hb7⟩
            have k1' := (HO6.out.grown hb7).cellAt rfl (k := 1) (by simp)
            simp at k1'
            have HB7 := Lib.hid (bt0 HB6.out hb7 (Nat.le_refl _))
            clear hb7
            go_wp2_with fail
            go_ret
            exact ⟨rfl, HB7.out⟩
    · have hc1 : cd = 1 := by rw [← HCD.out]; unfold scCode; rw [h1]; rfl
      subst hc1
      go_wp2_with fail
      go_ret
      exact ⟨rfl, HB6.out⟩

end Go.Proofs.YteggjpfaleeajaaDoor
