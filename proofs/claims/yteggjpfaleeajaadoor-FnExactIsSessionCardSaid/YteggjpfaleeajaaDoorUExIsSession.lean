import Derived.Test.YteggjpfaleeajaaDoorUSessSz
import Derived.Test.YteggjpfaleeajaaDoorUSessTo
import Derived.Test.YteggjpfaleeajaaDoorUIsSess
import Derived.Deep.RegionHeld3
namespace Go.Proofs.YteggjpfaleeajaaDoor
open Go.RowKit

set_option maxHeartbeats 2000000 in
theorem exIsSession_any (p : ByteArray) (x1 x2 x3 x4 : Int) (a : Option Addr) (xs : List Int) (c : Nat) (w : World) (hx : IntsAt w a xs) (hp : p.size ≤ maxLen) (lx : xs.length ≤ maxLen) (ht : Tab w) :
    Calls Tryd.prog 4 #[.agg #[.string p, .int .i64 x1, .int .i64 x2, .int .i64 x3, .int .i64 x4, .slice a xs.length c]] w fun e w' => e = .returned (.bool true) ∧ Below w.heap.size w w' := by
  have HX := Lib.hid hx
  have HT := Lib.hid ht
  clear hx ht
  by_cases h : leftS 1048576 p.size xs.length < 0
  · go_enter Tryd.func4, Tryd.ntmps4
    go_wp2_with fail
    refine (szSession_any _ _ _ _ _ _ _ _ _ _ hp lx (by omega) (by omega)).mono ?_
    rintro e w1 ⟨rfl, hb1⟩
    obtain ⟨hc, _⟩ := bcell hb1
    have HB1 := Lib.hid (bt1 hb1)
    clear hb1
    go_wp2_with fail
    go_ret
    exact ⟨rfl, HB1.out⟩
  · have hsz := leftS_ok h
    go_enter Tryd.func4, Tryd.ntmps4
    go_wp2_with fail
    refine (szSession_any _ _ _ _ _ _ _ _ _ _ hp lx (by omega) (by omega)).mono ?_
    rintro e w1 ⟨rfl, hb1⟩
    have hA := box1 hb1
    have HB1 := Lib.hid (bt1 hb1)
    clear hb1
    go_wp2_with fail
    -- the argument, once, for the reference
    refine (toSession_any _ _ _ _ _ _ _ _ _ (HX.out.below HB1.out) (by omega)).mono ?_
    rintro e w2 ⟨a2, c2, rfl, ho2, hb2⟩
    replace hA := boxK hb2 hA (by simp)
    have HB2 := Lib.hid (bt0 HB1.out hb2 (Nat.le_refl _))
    obtain ⟨a2', c2', e2, hx2⟩ := ho2.read
    obtain ⟨rfl, -, rfl⟩ := Value.slice.inj e2
    have HX2 := Lib.hid hx2
    clear hx2 e2 hb2 ho2
    go_wp2_with fail
    refine (specIsSession_any _ _ _ _ _ _ _ _ _ HX2.out hp lx).mono ?_
    rintro e w3 ⟨rfl, hb3⟩
    replace hA := boxK hb3 hA (by simp)
    have HB3 := Lib.hid (bt0 HB2.out hb3 (Nat.le_refl _))
    clear hb3
    go_wp2_with fail
    -- once more, for the program
    refine (toSession_any _ _ _ _ _ _ _ _ _ (HX.out.below HB3.out) (by omega)).mono ?_
    rintro e w4 ⟨a4, c4, rfl, ho4, hb4⟩
    replace hA := boxK hb4 hA (by simp)
    have HB4 := Lib.hid (bt0 HB3.out hb4 (Nat.le_refl _))
    obtain ⟨a4', c4', e4, hx4⟩ := ho4.read
    obtain ⟨rfl, -, rfl⟩ := Value.slice.inj e4
    have HX4 := Lib.hid hx4
    clear hx4 e4 hb4 ho4
    go_wp2_with fail
    refine (isSession_any _ _ _ _ _ _ _ _ _ (HX4.out.below (ba1 _ _)) hp lx ((HT.out.next HB4.out).alloc _)).mono ?_
    rintro e w5 ⟨rfl, hb5⟩
    replace hA := boxK (bt1 hb5) hA (by simp)
    have hD := box1 hb5
    have HB5 := Lib.hid (bt0 HB4.out (bt1 hb5) (Nat.le_refl _))
    have HX5 := Lib.hid (HX4.out.below (bt1 hb5))
    clear hb5
    have hne : (isSessB p x1 x2 x3 x4 xs != isSessB p x1 x2 x3 x4 xs) = false := by simp
    go_wp2_with fail
    go_region_held3 (fun w' => (∀ i, w'.cell? ⟨w.heap.size, i, none⟩ = #[Value.string p, .int .i64 x1, .int .i64 x2, .int .i64 x3, .int .i64 x4, .slice a xs.length c][i]?) ∧
      (∀ i, w'.cell? ⟨w4.heap.size, i, none⟩ = #[Value.string p, .int .i64 x1, .int .i64 x2, .int .i64 x3, .int .i64 x4, .slice a4 xs.length c4][i]?)) (exact ⟨by assumption, by assumption⟩)
      (first
        | (go_at_call 18; go_must (refine (toSession_any _ _ _ _ _ _ _ _ _ (HX.out.below (HB5.out.drew)) (by omega)).mono ?_; rintro e w6 ⟨a6, c6, rfl, ho6, hb6'⟩; have hb6 := undrew hb6'; obtain ⟨a6', c6', e6, hx6⟩ := ho6.read; obtain ⟨rfl, -, rfl⟩ := Value.slice.inj e6; have HX6 := Lib.hid hx6; have HX5' := Lib.hid (HX5.out.below hb6); have hA6 := boxK hb6 hA (by simp); have hD6 := boxK hb6 hD (by simp); have HB6 := Lib.hid (bt0 HB5.out hb6 (Nat.le_refl _)); clear hx6 e6 ho6 hb6 hb6' hA hD))
        | (go_at_call 13; refine (eqSession_same HX5'.out HX6.out lx).mono ?_; rintro e w7 ⟨rfl, hb7⟩; have hA7 := boxK hb7 hA6 (by simp); have hD7 := boxK hb7 hD6 (by simp); have HB7 := Lib.hid (bt0 HB6.out hb7 (Nat.le_refl _)); clear hA6 hD6 hb7))
    clear hA7 hD7
    go_wp2_with fail
    go_ret
    exact ⟨rfl, HB7.out⟩

end Go.Proofs.YteggjpfaleeajaaDoor
