import Derived.Test.YteggjpfaleeajaaDoorUSessSz
import Derived.Test.YteggjpfaleeajaaDoorUSessTo
import Derived.Test.YteggjpfaleeajaaDoorUSessMark
import Derived.Test.YteggjpfaleeajaaDoorUCounts
import Derived.Test.YteggjpfaleeajaaDoorUOwn2
import Derived.Deep.RegionHeld3
namespace Go.Proofs.YteggjpfaleeajaaDoor
open Go.RowKit

theorem scVal_len (p : ByteArray) (x1 x2 x3 x4 : Int) (xs : List Int) : (scVal p x1 x2 x3 x4 xs).length ≤ 5 := by
  unfold scVal
  split
  · rw [counts_len]; omega
  · exact Nat.zero_le _

theorem eqInt64S_same {a b : Option Addr} {zs : List Int} {c d : Nat} {w : World} (hx : IntsAt w a zs) (hy : IntsAt w b zs) (lz : zs.length ≤ maxLen) :
    Calls Tryd.prog 26 #[.slice a zs.length c, .slice b zs.length d] w fun e w' => e = .returned (.bool true) ∧ Below w.heap.size w w' :=
  eqInt64S_val (by simp) hx hy lz lz

set_option maxHeartbeats 4000000 in
theorem exStateCounts_any (p : ByteArray) (x1 x2 x3 x4 : Int) (a : Option Addr) (xs : List Int) (c : Nat) (w : World) (hx : IntsAt w a xs) (hp : p.size ≤ maxLen) (lx : xs.length ≤ maxLen) (ht : Tab w) :
    Calls Tryd.prog 7 #[.agg #[.string p, .int .i64 x1, .int .i64 x2, .int .i64 x3, .int .i64 x4, .slice a xs.length c]] w fun e w' => e = .returned (.bool true) ∧ Below w.heap.size w w' := by
  have HX := Lib.hid hx
  have HT := Lib.hid ht
  clear hx ht
  by_cases h : leftS 1048576 p.size xs.length < 0
  · go_enter Tryd.func7, Tryd.ntmps7
    go_wp2_with fail
    refine (szSession_any _ _ _ _ _ _ _ _ _ _ hp lx (by omega) (by omega)).mono ?_
    rintro e w1 ⟨rfl, hb1⟩
    have HB1 := Lib.hid (bt1 hb1)
    clear hb1
    go_wp2_with fail
    go_ret
    exact ⟨rfl, HB1.out⟩
  · have hsz := leftS_ok h
    have hzl := scVal_len p x1 x2 x3 x4 xs
    have HZM : Hid ((scVal p x1 x2 x3 x4 xs).length ≤ maxLen) := by show _ ≤ _; unfold maxLen; omega
    obtain ⟨zs, hzs⟩ : ∃ zs, scVal p x1 x2 x3 x4 xs = zs := ⟨_, rfl⟩
    obtain ⟨cd, hcd⟩ : ∃ cd, scCode p x1 x2 x3 x4 xs = cd := ⟨_, rfl⟩
    rw [hzs] at hzl HZM
    have HZ := Lib.hid hzs
    have HC := Lib.hid hcd
    have hcc : (cd != cd) = false := by simp
    clear hzs hcd
    go_enter Tryd.func7, Tryd.ntmps7
    go_wp2_with fail
    refine (szSession_any _ _ _ _ _ _ _ _ _ _ hp lx (by omega) (by omega)).mono ?_
    rintro e w1 ⟨rfl, hb1⟩
    have hA := box1 hb1
    have HB1 := Lib.hid (bt1 hb1)
    clear hb1
    go_wp2_with fail
    refine (toSession_any _ _ _ _ _ _ _ _ _ (HX.out.below HB1.out) (by omega)).mono ?_
    rintro e w2 ⟨a2, c2, rfl, ho2, hb2⟩
    replace hA := boxK hb2 hA (by simp)
    have HB2 := Lib.hid (bt0 HB1.out hb2 (Nat.le_refl _))
    have HX2 := Lib.hid ho2.ints
    clear hb2 ho2
    go_wp2_with fail
    refine (specStateCounts_any _ _ _ _ _ _ _ _ _ HX2.out hp (by omega)).mono ?_
    rw [HZ.out, HC.out]
    rintro e w3 ⟨aS, cS, rfl, hoS, hb3⟩
    replace hA := boxK hb3 hA (by simp)
    have HB3 := Lib.hid (bt0 HB2.out hb3 (Nat.le_refl _))
    have hAlt : Hid (w.heap.size < w3.heap.size) := boxLt hA (by simp)
    have HOS := Lib.hid hoS
    have HhiS := Lib.hid hoS.hi
    clear hb3 hoS
    go_wp2_with fail
    refine (toSession_any _ _ _ _ _ _ _ _ _ (HX.out.below HB3.out) (by omega)).mono ?_
    rintro e w4 ⟨a4, c4, rfl, ho4, hb4⟩
    replace hA := boxK hb4 hA (by simp)
    have HB4 := Lib.hid (bt0 HB3.out hb4 (Nat.le_refl _))
    have HO4 := Lib.hid ho4
    have Hlo4 := Lib.hid ho4.lo
    have Hhi4 := Lib.hid ho4.hi
    have HOS4 := Lib.hid (HOS.out.grown hb4)
    have HB34 : Hid (w3.heap.size ≤ w4.heap.size) := hb4.size
    clear hb4 ho4
    go_wp2_with fail
    refine (stateCounts_any _ _ _ _ _ _ _ _ _ (HO4.out.grown (ba1 _ _)).ints hp (by omega) ((HT.out.next HB4.out).alloc _)).mono ?_
    rw [HZ.out, HC.out]
    rintro e w5 ⟨aG, cG, rfl, hoG, hb5⟩
    replace hA := boxK (bt1 hb5) hA (by simp)
    have hD := box1 hb5
    have HB5 := Lib.hid (bt0 HB4.out (bt1 hb5) (Nat.le_refl _))
    have HO5 := Lib.hid (HO4.out.grown (bt1 hb5))
    have HOS5 := Lib.hid (HOS4.out.grown (bt1 hb5))
    have HOG := Lib.hid (hoG.weak (base' := w4.heap.size) (by simp))
    have HloG : Hid (∀ k, Value.ownBlock (.slice aG zs.length cG) = some k → w4.heap.size ≤ k) := fun k hk => by have := hoG.lo k hk; simp at this; omega
    clear hb5 hoG
    go_wp2_with fail
    refine (eqInt64S_same HOG.out.ints HOS5.out.ints HZM.out).mono ?_
    rintro e w6 ⟨rfl, hb6⟩
    replace hA := boxK hb6 hA (by simp)
    replace hD := boxK hb6 hD (by simp)
    have HB6 := Lib.hid (bt0 HB5.out hb6 (Nat.le_refl _))
    have HO6 := Lib.hid (HO5.out.grown hb6)
    have HOS6 := Lib.hid (HOS5.out.grown hb6)
    have HOG6 := Lib.hid (HOG.out.grown hb6)
    clear hb6
    go_wp2_with fail
    go_region_held3 (fun w' => (∀ i, w'.cell? ⟨w.heap.size, i, none⟩ = #[Value.string p, .int .i64 x1, .int .i64 x2, .int .i64 x3, .int .i64 x4, .slice a xs.length c][i]?) ∧
      (∀ i, w'.cell? ⟨w4.heap.size, i, none⟩ = #[Value.string p, .int .i64 x1, .int .i64 x2, .int .i64 x3, .int .i64 x4, .slice a4 xs.length c4][i]?)) (exact ⟨by assumption, by assumption⟩)
      (first
        | (go_at_call 18; go_must (refine (toSession_any _ _ _ _ _ _ _ _ _ (HX.out.below (HB6.out.drew)) (by omega)).mono ?_; rintro e w7 ⟨a7, c7, rfl, ho7, hb7'⟩; have hb7 := undrew hb7'; have HX7 := Lib.hid ho7.ints; have hA7 := boxK hb7 hA (by simp); have hD7 := boxK hb7 hD (by simp); have HB7 := Lib.hid (bt0 HB6.out hb7 (Nat.le_refl _)); have HO7 := Lib.hid (HO6.out.grown hb7); have HOS7 := Lib.hid (HOS6.out.grown hb7); have HOG7 := Lib.hid (HOG6.out.grown hb7); clear ho7 hb7 hb7' hA hD))
        | (go_at_call 13; go_must (refine (eqSession_same HO7.out.ints HX7.out lx).mono ?_; rintro e w8 ⟨rfl, hb8⟩; have hA8 := boxK hb8 hA7 (by simp); have hD8 := boxK hb8 hD7 (by simp); have HB8 := Lib.hid (bt0 HB7.out hb8 (Nat.le_refl _)); have HO8 := Lib.hid (HO7.out.grown hb8); have HOS8 := Lib.hid (HOS7.out.grown hb8); have HOG8 := Lib.hid (HOG7.out.grown hb8); clear hA7 hD7 hb8)))
    go_wp2_with fail
    -- the argument's memory is written over: the result must not be there
    refine (markSession_any _ _ _ _ _ _ _ _ _ _ _ HO8.out (by omega) (by omega) (by omega)).mono ?_
    rintro e w9 ⟨rfl, ho9, hg9⟩
    replace hA8 := boxG hg9 hA8 (fun e => by have h1 := Hlo4.out _ e; have h2 := hAlt.out; omega) (by simp)
    have HB9 := Lib.hid (HB8.out.trans (below_row hg9 HB8.out.size (fun k hk => by have h1 := Hlo4.out _ hk; have h2 := hAlt.out; omega)))
    have HOS9 := Lib.hid (HOS8.out.other hg9 (apartB HhiS.out Hlo4.out))
    have HOG9 := Lib.hid (HOG8.out.other hg9 (apartB' Hhi4.out HloG.out))
    clear ho9 hg9 hD8
    go_wp2_with fail
    refine (eqInt64S_same HOG9.out.ints HOS9.out.ints HZM.out).mono ?_
    rintro e w10 ⟨rfl, hb10⟩
    replace hA8 := boxK hb10 hA8 (by simp)
    have HB10 := Lib.hid (bt0 HB9.out hb10 (Nat.le_refl _))
    have HOS10 := Lib.hid (HOS9.out.grown hb10)
    have HOG10 := Lib.hid (HOG9.out.grown hb10)
    clear hb10
    go_wp2_with fail
    -- the result is written over: a second call must not change it
    refine (markInt64S_any _ _ _ _ _ _ HOG10.out (by omega) (by omega) (by omega)).mono ?_
    rintro e w11 ⟨rfl, ho11, hg11⟩
    have hGw : ∀ k, Value.ownBlock (.slice aG zs.length cG) = some k → w.heap.size < k := fun k hk => by have h1 := HloG.out _ hk; have h2 := hAlt.out; have h3 := HB34.out; omega
    replace hA8 := boxG hg11 hA8 (fun e => by have h1 := hGw _ e; omega) (by simp)
    have HB11 := Lib.hid (HB10.out.trans (below_row hg11 HB10.out.size (fun k hk => by have h1 := hGw _ hk; omega)))
    have HOS11 := Lib.hid (HOS10.out.other hg11 (apartB (T := w4.heap.size) (fun k hk => by have := HhiS.out k hk; have h3 := HB34.out; omega) HloG.out))
    have HX11 := Lib.hid ho11.ints
    clear ho11 hg11 hGw
    have hmm : ((1 : Int) + ↑zs.length != 1 + ↑zs.length) = false := by simp
    go_wp2_with fail
    refine (heldInt64S_marks HX11.out (by omega) (by omega) (by omega)).mono ?_
    rintro e w12 ⟨rfl, rfl⟩
    go_wp2_with fail
    refine (toSession_any _ _ _ _ _ _ _ _ _ (HX.out.below HB11.out) (by omega)).mono ?_
    rintro e w12 ⟨a12, c12, rfl, ho12, hb12⟩
    have HB12 := Lib.hid (bt0 HB11.out hb12 (Nat.le_refl _))
    have HX12 := Lib.hid ho12.ints
    have HOS12 := Lib.hid (HOS11.out.grown hb12)
    have HG12 := Lib.hid (HX11.out.below hb12)
    clear hb12 ho12 hA8
    go_wp2_with fail
    refine (stateCounts_any _ _ _ _ _ _ _ _ _ HX12.out hp (by omega) (HT.out.next HB12.out)).mono ?_
    rw [HZ.out, HC.out]
    rintro e w13 ⟨aH, cH, rfl, hoH, hb13⟩
    have HB13 := Lib.hid (bt0 HB12.out hb13 (Nat.le_refl _))
    have HXH := Lib.hid hoH.ints
    have HOS13 := Lib.hid (HOS12.out.grown hb13)
    have HG13 := Lib.hid (HG12.out.below hb13)
    clear hb13 hoH
    go_wp2_with fail
    refine (eqInt64S_same HXH.out HOS13.out.ints HZM.out).mono ?_
    rintro e w14 ⟨rfl, hb14⟩
    have HB14 := Lib.hid (bt0 HB13.out hb14 (Nat.le_refl _))
    have HG14 := Lib.hid (HG13.out.below hb14)
    clear hb14
    go_wp2_with fail
    refine (heldInt64S_marks HG14.out (by omega) (by omega) (by omega)).mono ?_
    rintro e w15 ⟨rfl, rfl⟩
    go_wp2_with fail
    go_ret
    exact ⟨rfl, HB14.out⟩

end Go.Proofs.YteggjpfaleeajaaDoor
