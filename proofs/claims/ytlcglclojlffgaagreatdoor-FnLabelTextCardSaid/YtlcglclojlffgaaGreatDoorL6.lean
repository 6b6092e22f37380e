import Derived.Test.YtlcglclojlffgaaGreatDoorL2
namespace Go.Proofs.YtlcglclojlffgaaGreatDoor
open Go.RowKit

set_option maxHeartbeats 400000 in
theorem likeInts_any (a b : Option Addr) (xs ys : List Int) (c d : Nat) (w : World) (hx : IntsAt w a xs) (hy : IntsAt w b ys)
    (lx : xs.length ≤ maxLen) (_ly : ys.length ≤ maxLen) :
    Calls Tryz.prog 36 #[.slice a xs.length c, .slice b ys.length d] w fun e w' => e = .returned (.bool (decide (xs = ys))) ∧ ∃ n, w' = w.drewN n := by
  unfold maxLen at lx
  by_cases hl : xs.length = ys.length
  · have hl' : (((xs.length : Nat) : Int) != ((ys.length : Nat) : Int)) = false := by simp [hl]
    go_enter Tryz.func36, Tryz.ntmps36
    go_wp2
    go_loopw [5] (fun i wr => ∃ k n : Nat, k ≤ xs.length ∧ i = .int .i64 k ∧ xs.take k = ys.take k ∧ wr = w.drewN n) (fun i _ => xs.length - (intOf i).toNat)
    case atStart => exact ⟨0, 0, Nat.zero_le _, rfl, rfl, rfl⟩
    case round =>
      obtain ⟨k, n, hk, rfl, ht, rfl⟩ := hrel
      have HL := Lib.hid hl
      have HT := Lib.hid ht
      clear hl ht
      by_cases hlt : k < xs.length
      · obtain ⟨b1, o1, x, rfl, hxk, hb1, hc1⟩ := hx.at hlt
        obtain ⟨b2, o2, y, rfl, hyk, hb2, hc2⟩ := hy.at (k := k) (by rw [← HL.out]; exact hlt)
        have HX := Lib.hid hxk
        have HY := Lib.hid hyk
        have hlt2 : (k : Int) < (ys.length : Int) := by rw [← HL.out]; omega
        clear hxk hyk hx hy
        by_cases hxy : x = y
        · have hxy' : (x != y) = false := by simp [hxy]
          have HE := Lib.hid hxy
          clear hxy
          go_wp2_with fail
          go_quiet (fail)
          go_wp2
          go_roundw
          case rel => exact ⟨k + 1, _, by omega, by go_num, by rw [take_snoc' HX.out, take_snoc' HY.out, HT.out, HE.out], rfl⟩
          case measure => simp [intOf]; omega
        · have hxy' : (x != y) = true := by simp [hxy]
          have HE := Lib.hid hxy
          clear hxy
          go_wp2_with fail
          go_quiet (fail)
          go_wp2
          go_ret
          exact ⟨ret_bool (by simp [ne_of_at HX.out HY.out HE.out]), _, World.drewN_drewN _ _ _⟩
      · clear hx hy
        go_wp2
        go_ret
        exact ⟨ret_bool (by simp [eq_of_take HT.out HL.out (by omega)]), _, rfl⟩
  · have hl' : (((xs.length : Nat) : Int) != ((ys.length : Nat) : Int)) = true := by simp; omega
    have hne : xs ≠ ys := fun e => hl (by rw [e])
    have HE := Lib.hid hne
    clear hne hl hx hy
    go_enter Tryz.func36, Tryz.ntmps36
    go_wp2
    go_ret
    exact ⟨ret_bool (by simp [HE.out]), 0, rfl⟩

theorem big_any (a : Option Addr) (n c : Nat) (w : World) :
    Calls Tryz.prog 11 #[.slice a n c] w fun e w' => e = .returned (.bool (decide ((4096 : Int) < n))) ∧ w' = w := by
  go_enter Tryz.func11, Tryz.ntmps11
  go_wp2
  go_ret
  exact ⟨rfl, rfl⟩

end Go.Proofs.YtlcglclojlffgaaGreatDoor
