import Derived.Test.YteggjpfaleeajaaDoorUIsSess
namespace Go.Proofs.YteggjpfaleeajaaDoor
open Go.RowKit

def doneOk (s : Int) : Bool := s == 3 || s == 4
def isCompB (p : ByteArray) (x1 x2 x3 x4 : Int) (xs : List Int) : Bool := isSessB p x1 x2 x3 x4 xs && xs.all doneOk

theorem done_ways (x : Int) : (x != 3) = false ∨ ((x != 3) = true ∧ (x != 4) = false) ∨ ((x != 3) = true ∧ (x != 4) = true) := by
  cases h : (x != 3) <;> cases h' : (x != 4) <;> simp

set_option maxHeartbeats 1000000 in
theorem isComplete_any (p : ByteArray) (x1 x2 x3 x4 : Int) (a : Option Addr) (xs : List Int) (c : Nat) (w : World) (hx : IntsAt w a xs) (hp : p.size ≤ maxLen) (lx : xs.length ≤ maxLen) (ht : Tab w) :
    Calls Tryd.prog 21 #[.agg #[.string p, .int .i64 x1, .int .i64 x2, .int .i64 x3, .int .i64 x4, .slice a xs.length c]] w fun e w' => e = .returned (.bool (isCompB p x1 x2 x3 x4 xs)) ∧ Below w.heap.size w w' := by
  have HX := Lib.hid hx
  have HT := Lib.hid ht
  have lx' := lx
  clear hx ht
  unfold maxLen at lx'
  rcases Bool.eq_false_or_eq_true (isSessB p x1 x2 x3 x4 xs) with h1 | h1
  · have H1 := Lib.hid h1
    clear h1
    go_enter Tryd.func21, Tryd.ntmps21
    go_wp2_with fail
    refine (isSession_val H1.out (HX.out.below (ba1 _ _)) hp lx (HT.out.alloc _)).mono ?_
    rintro e w1 ⟨rfl, hb1⟩
    obtain ⟨hc, _⟩ := bcell hb1
    have HB1 := Lib.hid (bt1 hb1)
    clear hb1
    go_wp2_with fail
    have HX1 := Lib.hid (HX.out.below HB1.out)
    go_loop [4, 11] (fun _ i => ∃ k : Nat, k ≤ xs.length ∧ i = .int .i64 k ∧ (xs.take k).all doneOk = true) (fun _ i => xs.length - (intOf i).toNat)
    case atStart => exact ⟨0, Nat.zero_le _, rfl, rfl⟩
    case round =>
      obtain ⟨k, hk, rfl, hall⟩ := hrel
      have HA := Lib.hid hall
      clear hall
      by_cases hlt : k < xs.length
      · obtain ⟨b1, o1, x, rfl, hxk, hb1, hc1⟩ := HX1.out.at hlt
        have HK := Lib.hid hxk
        clear hxk
        rcases done_ways x with h3 | ⟨h3, h4⟩ | ⟨h3, h4⟩
        · go_wp2_with fail
          go_round
          case rel => exact ⟨k + 1, by omega, by go_num, all_step HK.out HA.out (by simp at h3; simp [doneOk, h3])⟩
          case measure => simp [intOf]; omega
        · go_wp2_with fail
          go_round
          case rel => exact ⟨k + 1, by omega, by go_num, all_step HK.out HA.out (by simp at h4; simp [doneOk, h4])⟩
          case measure => simp [intOf]; omega
        · go_wp2_with fail
          go_ret
          exact ⟨ret_bool (by rw [isCompB, H1.out, all_no HK.out (by simp at h3 h4; simp [doneOk, h3, h4])]; rfl), HB1.out⟩
      · go_wp2_with fail
        go_ret
        exact ⟨ret_bool (by rw [isCompB, H1.out, all_end (by omega) HA.out]; rfl), HB1.out⟩
  · have H1 := Lib.hid h1
    clear h1
    go_enter Tryd.func21, Tryd.ntmps21
    go_wp2_with fail
    refine (isSession_val H1.out (HX.out.below (ba1 _ _)) hp lx (HT.out.alloc _)).mono ?_
    rintro e w1 ⟨rfl, hb1⟩
    obtain ⟨hc, _⟩ := bcell hb1
    have HB1 := Lib.hid (bt1 hb1)
    clear hb1
    go_wp2_with fail
    go_ret
    exact ⟨ret_bool (by rw [isCompB, H1.out]; rfl), HB1.out⟩

set_option maxHeartbeats 1000000 in
theorem specIsComplete_any (p : ByteArray) (x1 x2 x3 x4 : Int) (a : Option Addr) (xs : List Int) (c : Nat) (w : World) (hx : IntsAt w a xs) (hp : p.size ≤ maxLen) (lx : xs.length ≤ maxLen) :
    Calls Tryd.prog 20 #[.agg #[.string p, .int .i64 x1, .int .i64 x2, .int .i64 x3, .int .i64 x4, .slice a xs.length c]] w fun e w' => e = .returned (.bool (isCompB p x1 x2 x3 x4 xs)) ∧ Below w.heap.size w w' := by
  have HX := Lib.hid hx
  have lx' := lx
  clear hx
  unfold maxLen at lx'
  go_enter Tryd.func20, Tryd.ntmps20
  go_wp2_with fail
  go_loop [3] (fun i => ∃ k : Nat, k ≤ xs.length ∧ i = .int .i64 k ∧ (xs.take k).all doneOk = true) (fun i => xs.length - (intOf i).toNat)
  case atStart => exact ⟨0, Nat.zero_le _, rfl, rfl⟩
  case round =>
    obtain ⟨k, hk, rfl, hall⟩ := hrel
    have HA := Lib.hid hall
    clear hall
    by_cases hlt : k < xs.length
    · obtain ⟨b1, o1, x, rfl, hxk, hb1, hc1⟩ := HX.out.at hlt
      have HK := Lib.hid hxk
      clear hxk
      rcases done_ways x with h3 | ⟨h3, h4⟩ | ⟨h3, h4⟩
      · go_wp2_with fail
        go_round
        case rel => exact ⟨k + 1, by omega, by go_num, all_step HK.out HA.out (by simp at h3; simp [doneOk, h3])⟩
        case measure => simp [intOf]; omega
      · go_wp2_with fail
        go_round
        case rel => exact ⟨k + 1, by omega, by go_num, all_step HK.out HA.out (by simp at h4; simp [doneOk, h4])⟩
        case measure => simp [intOf]; omega
      · go_wp2_with fail
        go_ret
        exact ⟨ret_bool (by rw [isCompB, all_no HK.out (by simp at h3 h4; simp [doneOk, h3, h4]), Bool.and_false]), ba1 _ _⟩
    · go_wp2_with fail
      refine (specIsSession_any _ _ _ _ _ _ _ _ _ (HX.out.below (ba1 _ _)) hp lx).mono ?_
      rintro e w1 ⟨rfl, hb1⟩
      have HB1 := Lib.hid (bt1 hb1)
      clear hb1
      go_wp2_with fail
      go_ret
      exact ⟨ret_bool (by rw [isCompB, all_end (by omega) HA.out, Bool.and_true]), HB1.out⟩

end Go.Proofs.YteggjpfaleeajaaDoor
