import Derived.Test.YtlgeaccjpgakbaaDoorUIdx
import Derived.Test.YtlgeaccjpgakbaaDoorUSess0
namespace Go.Proofs.YtlgeaccjpgakbaaDoor
open Go.RowKit

set_option maxHeartbeats 2000000 in
theorem exIndexOfSerial_any (p : ByteArray) (x1 x2 x3 x4 : Int) (s : ByteArray) (w : World) (hp : p.size ≤ maxLen) (_hs : s.size ≤ maxLen) (ht : Tab w) :
    Calls Tryd.prog 5 #[.agg #[.string p, .int .i64 x1, .int .i64 x2, .int .i64 x3, .int .i64 x4], .string s] w fun e w' => e = .returned (.bool true) ∧ Below w.heap.size w w' := by
  have HT := Lib.hid ht
  have HP := Lib.hid hp
  clear ht hp
  unfold maxLen at _hs
  by_cases hs1 : (1048576 : Int) < s.size
  · go_enter Tryd.func5, Tryd.ntmps5
    go_wp2_with fail
    go_ret
    exact ⟨rfl, ba1 _ _⟩
  · go_enter Tryd.func5, Tryd.ntmps5
    go_wp2_with fail
    refine (szBatch_any p x1 x2 x3 x4 _ _ HP.out (by omega) (by omega)).mono ?_
    rintro e w1 ⟨rfl, hb1⟩
    have hA := box1 hb1
    have HB1 := Lib.hid (bt1 hb1)
    clear hb1
    generalize leftOf 1048576 p.size = l
    by_cases hl : l < 0
    · go_wp2_with fail
      go_ret
      exact ⟨rfl, HB1.out⟩
    · go_wp2_with fail
      refine (toBatch_any _ _ _ _ _ _).mono ?_
      rintro e w2 ⟨rfl, hb2⟩
      replace hA := boxK hb2 hA (by simp)
      have HB2 := Lib.hid (bt0 HB1.out hb2 (Nat.le_refl _))
      clear hb2
      go_wp2_with fail
      refine (specIndexOfSerial_any p x1 x2 x3 x4 s _ HP.out).mono ?_
      rintro e w3 ⟨rfl, hb3⟩
      replace hA := boxK hb3 hA (by simp)
      have HB3 := Lib.hid (bt0 HB2.out hb3 (Nat.le_refl _))
      clear hb3
      go_wp2_with fail
      refine (toBatch_any _ _ _ _ _ _).mono ?_
      rintro e w4 ⟨rfl, hb4⟩
      replace hA := boxK hb4 hA (by simp)
      have HB4 := Lib.hid (bt0 HB3.out hb4 (Nat.le_refl _))
      clear hb4
      go_wp2_with fail
      refine (indexOfSerial_any p x1 x2 x3 x4 s _ HP.out (HT.out.next HB4.out)).mono ?_
      rintro e w5 ⟨rfl, hb5⟩
      replace hA := boxK hb5 hA (by simp)
      have HB5 := Lib.hid (bt0 HB4.out hb5 (Nat.le_refl _))
      clear hb5
      go_wp2_with fail
      go_ret
      exact ⟨rfl, HB5.out⟩

end Go.Proofs.YtlgeaccjpgakbaaDoor
