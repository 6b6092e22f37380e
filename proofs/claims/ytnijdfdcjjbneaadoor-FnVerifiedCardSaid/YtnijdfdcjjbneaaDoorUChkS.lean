import Derived.Test.YtnijdfdcjjbneaaDoorUChk0
namespace Go.Proofs.YtnijdfdcjjbneaaDoor
open Go.RowKit

set_option maxHeartbeats 1000000 in
theorem l31Check_any (s : ByteArray) (w : World) (hs : s.size ≤ 1099511627776) :
    Calls Tryd.prog 48 #[.string s] w fun e w' => e = .returned (.int .i64 (chkB s)) ∧ w = w' := by
  go_enter Tryd.func48, Tryd.ntmps48
  go_wp2_with fail
  go_loop [3, 4] (fun t i => ∃ k : Nat, k ≤ s.size ∧ t = .int .i64 (ws s k) ∧ i = .int .i64 k) (fun _ i => s.size - (intOf i).toNat)
  case atStart => exact ⟨0, Nat.zero_le _, rfl, rfl⟩
  case round =>
    obtain ⟨k, hk, rfl, rfl⟩ := hrel
    have b1 := ws_bd s k
    by_cases hlt : k < s.size
    · have hj : s.size - 1 - k < s.size := by omega
      have e1 : s.data.toList.getD (s.size - 1 - k) 0 = s[s.size - 1 - k] := by
        rw [List.getD_eq_getElem?_getD, List.getElem?_eq_getElem (by simpa using hj)]; rfl
      have E1 : Hid (ws s (k + 1) = ws s k + wgt k * valC s[s.size - 1 - k]) := Lib.hid (by rw [ws, e1])
      have h0 : (s.size : Int) - 1 - k = ((s.size - 1 - k : Nat) : Int) := by omega
      clear e1
      generalize ws s k = t at *
      generalize s.size - 1 - k = j at *
      go_wp2_with fail
      all_goals
        have hb : (s[j].toNat : Int) < 256 := by have := s[j].toNat_lt; omega
        have hw : wrap64 (s[j].toNat : Int) = (s[j].toNat : Int) := IntWalk.wrap64_in _ (by omega)
        refine ⟨⟨k + 1, by omega, congrArg (Value.int .i64) ?_, by go_num⟩, by simp [intOf]; omega⟩
        rw [E1.out]
        try rw [hw, Int.tmod_eq_emod_of_nonneg (by omega)]
        unfold valC wgt
        simp only [beq_iff_eq, beq_eq_false_iff_ne] at *
        try simp (disch := omega) only [IntWalk.wrap64_in]
        (repeat' split) <;> omega
    · have E1 : Hid (chkB s = (10 - ws s k % 10) % 10) := Lib.hid (by rw [chkB, show s.size = k by omega])
      generalize ws s k = t at *
      have c1 : 0 ≤ t % 10 := by omega
      have c2 : t % 10 ≤ 9 := by omega
      go_wp2_with fail
      go_ret
      exact ⟨ret_int (by rw [E1.out]; omega), rfl⟩

end Go.Proofs.YtnijdfdcjjbneaaDoor
