import Derived.Test.YtnijdfdcjjbneaaDoorUChk0
namespace Go.Proofs.YtnijdfdcjjbneaaDoor
open Go.RowKit

set_option maxHeartbeats 400000 in
theorem value_any (s : ByteArray) (i : Int) (w : World) (h0 : 0 ≤ i) (h1 : i < s.size) :
    Calls Tryd.prog 50 #[.string s, .int .i64 i] w fun e w' => e = .returned (.int .i64 (valC (s.data.toList.getD i.toNat 0))) ∧ w = w' := by
  obtain ⟨k, rfl⟩ := Int.eq_ofNat_of_zero_le h0
  have hk : k < s.size := by omega
  have e1 : s.data.toList.getD k 0 = s[k] := by
    rw [List.getD_eq_getElem?_getD, List.getElem?_eq_getElem (by simpa using hk)]; rfl
  rw [Int.toNat_natCast, e1]
  clear e1
  have hb : (s[k].toNat : Int) < 256 := by have := s[k].toNat_lt; omega
  rcases Bool.eq_false_or_eq_true (inB (s[k].toNat : Int) 48 57) with h3 | h3
  · have E : Hid (valC s[k] = (s[k].toNat : Int) - 48) := Lib.hid (by unfold valC; rw [if_pos (inB_iff.1 h3)])
    have g := inB_iff.1 h3
    go_enter Tryd.func50, Tryd.ntmps50
    go_wp2_with (go_at_call 33; refine (inRange_val h3).mono ?_; rintro e w' ⟨rfl, rfl⟩)
    go_ret
    exact ⟨ret_int E.out.symm, rfl⟩
  · have E : Hid (valC s[k] = (s[k].toNat : Int) % 10) := Lib.hid (by unfold valC; rw [if_neg (by have := inB_not.1 h3; omega)])
    go_enter Tryd.func50, Tryd.ntmps50
    go_wp2_with (go_at_call 33; refine (inRange_val h3).mono ?_; rintro e w' ⟨rfl, rfl⟩)
    go_ret
    exact ⟨ret_int E.out.symm, rfl⟩

set_option maxHeartbeats 400000 in
theorem check_any (s : ByteArray) (w : World) (hs : s.size ≤ 1099511627776) :
    Calls Tryd.prog 43 #[.string s] w fun e w' => e = .returned (.int .i64 (chkB s)) ∧ w = w' := by
  go_enter Tryd.func43, Tryd.ntmps43
  go_wp2_with fail
  go_loop [4, 5, 6] (fun t g i => ∃ k : Nat, k ≤ s.size ∧ t = .int .i64 (ws s k) ∧ g = .int .i64 (wgt k) ∧ i = .int .i64 ((s.size : Int) - 1 - k)) (fun _ _ i => (intOf i + 1).toNat)
  case atStart => exact ⟨0, Nat.zero_le _, rfl, rfl, by simp⟩
  case round =>
    obtain ⟨k, hk, rfl, rfl, rfl⟩ := hrel
    have b1 := ws_bd s k
    have b2 := wgt_bd k
    by_cases hlt : k < s.size
    · have b3 := valC_bd (s.data.toList.getD (((s.size : Int) - 1 - k).toNat) 0)
      have E1 : Hid (ws s (k + 1) = ws s k + wgt k * valC (s.data.toList.getD (((s.size : Int) - 1 - k).toNat) 0)) := Lib.hid (by rw [ws, show ((s.size : Int) - 1 - k).toNat = s.size - 1 - k by omega])
      have E2 := Lib.hid (wgt_succ k)
      have h0 : 0 ≤ (s.size : Int) - 1 - k := by omega
      go_wp2_with fail
      refine (value_any s _ _ (by omega) (by omega)).mono ?_
      rintro e w' ⟨rfl, rfl⟩
      generalize valC (s.data.toList.getD (((s.size : Int) - 1 - k).toNat) 0) = v at *
      generalize wgt k = g at *
      have b4 : 0 ≤ g * v ∧ g * v ≤ 27 := by
        rcases (show g = 1 ∨ g = 2 ∨ g = 3 by omega) with h | h | h <;> subst h <;> omega
      obtain ⟨b5, b6⟩ := b4
      go_wp2_with fail
      go_round
      case rel => exact ⟨k + 1, by omega, by rw [E1.out], by rw [E2.out], by go_num⟩
      case measure => simp [intOf]; omega
    · have E1 : Hid (chkB s = (10 - ws s k % 10) % 10) := Lib.hid (by rw [chkB, show s.size = k by omega])
      have h0 : ¬ 0 ≤ (s.size : Int) - 1 - k := by omega
      generalize ws s k = t at *
      have c1 : 0 ≤ t % 10 := by omega
      have c2 : t % 10 ≤ 9 := by omega
      go_wp2_with fail
      go_ret
      exact ⟨ret_int (by rw [E1.out]; omega), rfl⟩

end Go.Proofs.YtnijdfdcjjbneaaDoor
