import Derived.Test.YtkmfgchbfchdbaaGreatDoorVAllS
import Derived.Test.YtkmfgchbfchdbaaGreatDoorVBatchI
import Derived.Test.YtkmfgchbfchdbaaGreatDoorVBatchS
namespace Go.Proofs.YtkmfgchbfchdbaaGreatDoor
open Go.RowKit

def stOk (s : Int) : Bool := inB s 0 4
def isSessB (p : ByteArray) (x1 x2 x3 x4 : Int) (xs : List Int) : Bool := isBatchB p x1 x2 x3 x4 && !((xs.length : Int) != x3) && xs.all stOk

theorem isBatch_val {p : ByteArray} {x1 x2 x3 x4 : Int} {w : World} {b : Bool} (h : isBatchB p x1 x2 x3 x4 = b) (hp : p.size ≤ maxLen) (ht : Tab w) :
    Calls Tryz.prog 41 #[.agg #[.string p, .int .i64 x1, .int .i64 x2, .int .i64 x3, .int .i64 x4]] w fun e w' => e = .returned (.bool b) ∧ Below w.heap.size w w' := h ▸ isBatch_any _ _ _ _ _ _ hp ht
theorem specIsBatch_val {p : ByteArray} {x1 x2 x3 x4 : Int} {w : World} {b : Bool} (h : isBatchB p x1 x2 x3 x4 = b) (hp : p.size ≤ maxLen) :
    Calls Tryz.prog 68 #[.agg #[.string p, .int .i64 x1, .int .i64 x2, .int .i64 x3, .int .i64 x4]] w fun e w' => e = .returned (.bool b) ∧ Below w.heap.size w w' := h ▸ specIsBatch_any _ _ _ _ _ _ hp

set_option maxHeartbeats 1000000 in
theorem isSession_any (p : ByteArray) (x1 x2 x3 x4 : Int) (a : Option Addr) (xs : List Int) (c : Nat) (w : World) (hx : IntsAt w a xs) (hp : p.size ≤ maxLen) (lx : xs.length ≤ maxLen) (ht : Tab w) :
    Calls Tryz.prog 55 #[.agg #[.string p, .int .i64 x1, .int .i64 x2, .int .i64 x3, .int .i64 x4, .slice a xs.length c]] w fun e w' => e = .returned (.bool (isSessB p x1 x2 x3 x4 xs)) ∧ Below w.heap.size w w' := by
  have HX := Lib.hid hx
  have HT := Lib.hid ht
  clear hx ht
  unfold maxLen at lx
  rcases Bool.eq_false_or_eq_true (isBatchB p x1 x2 x3 x4) with h1 | h1
  · have H1 := Lib.hid h1
    clear h1
    rcases Bool.eq_false_or_eq_true ((xs.length : Int) != x3) with h2 | h2
    · go_enter Tryz.func55, Tryz.ntmps55
      go_wp2_with fail
      refine (isBatch_val H1.out hp (HT.out.alloc _)).mono ?_
      rintro e w1 ⟨rfl, hb1⟩
      obtain ⟨hc, _⟩ := bcell hb1
      have HB1 := Lib.hid (bt1 hb1)
      clear hb1
      go_wp2_with fail
      go_ret
      exact ⟨ret_bool (by rw [isSessB, H1.out, h2]; rfl), HB1.out⟩
    · go_enter Tryz.func55, Tryz.ntmps55
      go_wp2_with fail
      refine (isBatch_val H1.out hp (HT.out.alloc _)).mono ?_
      rintro e w1 ⟨rfl, hb1⟩
      obtain ⟨hc, _⟩ := bcell hb1
      have HB1 := Lib.hid (bt1 hb1)
      clear hb1
      go_wp2_with fail
      have HX1 := Lib.hid (HX.out.below HB1.out)
      have H2 := Lib.hid h2
      clear h2
      go_loop [4, 21] (fun _ i => ∃ k : Nat, k ≤ xs.length ∧ i = .int .i64 k ∧ (xs.take k).all stOk = true) (fun _ i => xs.length - (intOf i).toNat)
      case atStart => exact ⟨0, Nat.zero_le _, rfl, rfl⟩
      case round =>
        obtain ⟨k, hk, rfl, hall⟩ := hrel
        have HA := Lib.hid hall
        clear hall
        by_cases hlt : k < xs.length
        · obtain ⟨b1, o1, x, rfl, hxk, hb1, hc1⟩ := HX1.out.at hlt
          have HK := Lib.hid hxk
          clear hxk
          rcases Bool.eq_false_or_eq_true (inB x 0 4) with h3 | h3
          · go_wp2_with (go_at_call 70; refine (inRange_val h3).mono ?_; rintro e w' ⟨rfl, rfl⟩)
            go_round
            case rel => exact ⟨k + 1, by omega, by go_num, all_step HK.out HA.out h3⟩
            case measure => simp [intOf]; omega
          · go_wp2_with (go_at_call 70; refine (inRange_val h3).mono ?_; rintro e w' ⟨rfl, rfl⟩)
            go_ret
            exact ⟨ret_bool (by rw [isSessB, H1.out, H2.out, all_no HK.out h3]; rfl), HB1.out⟩
        · go_wp2_with fail
          go_ret
          exact ⟨ret_bool (by rw [isSessB, H1.out, H2.out, all_end (by omega) HA.out]; rfl), HB1.out⟩
  · have H1 := Lib.hid h1
    clear h1
    go_enter Tryz.func55, Tryz.ntmps55
    go_wp2_with fail
    refine (isBatch_val H1.out hp (HT.out.alloc _)).mono ?_
    rintro e w1 ⟨rfl, hb1⟩
    obtain ⟨hc, _⟩ := bcell hb1
    have HB1 := Lib.hid (bt1 hb1)
    clear hb1
    go_wp2_with fail
    go_ret
    exact ⟨ret_bool (by rw [isSessB, H1.out]; rfl), HB1.out⟩

theorem isSession_val {p : ByteArray} {x1 x2 x3 x4 : Int} {a : Option Addr} {xs : List Int} {c : Nat} {w : World} {b : Bool} (h : isSessB p x1 x2 x3 x4 xs = b) (hx : IntsAt w a xs) (hp : p.size ≤ maxLen) (lx : xs.length ≤ maxLen) (ht : Tab w) :
    Calls Tryz.prog 55 #[.agg #[.string p, .int .i64 x1, .int .i64 x2, .int .i64 x3, .int .i64 x4, .slice a xs.length c]] w fun e w' => e = .returned (.bool b) ∧ Below w.heap.size w w' := h ▸ isSession_any _ _ _ _ _ _ _ _ _ hx hp lx ht
end Go.Proofs.YtkmfgchbfchdbaaGreatDoor
