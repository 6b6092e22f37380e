import Derived.Test.YtlgeaccjpgakbaaDoorUSess0
namespace Go.Proofs.YtlgeaccjpgakbaaDoor
open Go.RowKit

/-- what is left of a bound behind a session -/
def leftS (l : Int) (p n : Nat) : Int := if leftOf l p < 0 then -1 else leftOf (leftOf l p) n

theorem leftOf_lo (l : Int) (n : Nat) : -1 ≤ leftOf l n := by unfold leftOf; split <;> omega
theorem leftOf_hi (l : Int) (n : Nat) (h : -1 ≤ l) : leftOf l n ≤ l := by unfold leftOf; split <;> omega

set_option maxHeartbeats 1000000 in
theorem szSession_any (p : ByteArray) (x1 x2 x3 x4 : Int) (a : Option Addr) (n c : Nat) (l : Int) (w : World) (hp : p.size ≤ maxLen) (hn : n ≤ maxLen) (h0 : -1 ≤ l) (hl : l ≤ 1099511627776) :
    Calls Tryd.prog 23 #[.agg #[.string p, .int .i64 x1, .int .i64 x2, .int .i64 x3, .int .i64 x4, .slice a n c], .int .i64 l] w fun e w' => e = .returned (.int .i64 (leftS l p.size n)) ∧ Below w.heap.size w w' := by
  have a1 := leftOf_lo l p.size
  have a2 := leftOf_hi l p.size h0
  have a3 := leftOf_lo (leftOf l p.size) n
  have a4 := leftOf_hi (leftOf l p.size) n a1
  by_cases h : leftOf l p.size < 0
  · have E : Hid (leftS l p.size n = -1) := if_pos h
    go_enter Tryd.func23, Tryd.ntmps23
    go_wp2_with fail
    refine (szBatch_any _ _ _ _ _ _ _ hp h0 hl).mono ?_
    rintro e w1 ⟨rfl, hb1⟩
    have HB1 := Lib.hid (bt1 hb1)
    clear hb1
    go_wp2_with fail
    go_ret
    exact ⟨ret_int E.out.symm, HB1.out⟩
  · have E : Hid (leftS l p.size n = leftOf (leftOf l p.size) n) := if_neg h
    obtain ⟨m, hm⟩ : ∃ m, leftOf l p.size = m := ⟨_, rfl⟩
    rw [hm] at a1 a2 a3 a4 h
    have HM := Lib.hid hm
    clear hm
    by_cases h2 : leftOf m n < 0
    all_goals
      go_enter Tryd.func23, Tryd.ntmps23
      go_wp2_with fail
      refine (szBatch_any _ _ _ _ _ _ _ hp h0 hl).mono ?_
      rintro e w1 ⟨rfl, hb1⟩
      obtain ⟨hc, _⟩ := bcell hb1
      have HB1 := Lib.hid (bt1 hb1)
      clear hb1
      rw [HM.out]
      go_wp2_with fail
      refine (szInt64S_any _ _ _ _ _ hn a1 (by omega)).mono ?_
      rintro e w2 ⟨rfl, rfl⟩
      go_wp2_with fail
      go_ret
      exact ⟨ret_int (by rw [E.out, HM.out]; try omega), HB1.out⟩

theorem leftS_ok {l : Int} {p n : Nat} (h : ¬ leftS l p n < 0) : (p : Int) + n ≤ l := by
  by_cases h1 : leftOf l p < 0
  · rw [leftS, if_pos h1] at h; omega
  · rw [leftS, if_neg h1] at h
    unfold leftOf at h h1
    by_cases h2 : l - (p : Int) < 0
    · rw [if_pos h2] at h1; omega
    · rw [if_neg h2] at h
      by_cases h3 : l - (p : Int) - (n : Int) < 0
      · rw [if_pos h3] at h; omega
      · omega

end Go.Proofs.YtlgeaccjpgakbaaDoor
