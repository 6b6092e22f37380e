import Derived.Test.YtkmfgchbfchdbaaGreatDoorVBatch0
import Derived.Test.YtkmfgchbfchdbaaGreatDoorM1
namespace Go.Proofs.YtkmfgchbfchdbaaGreatDoor
open Go.RowKit

theorem l31Prefix_val {p : ByteArray} {b : Bool} {w : World} (h : (prefB p && decide ((p.size : Int) ≤ 12)) = b) (hp : p.size ≤ maxLen) :
    Calls Tryz.prog 94 #[.string p] w fun e w' => e = .returned (.bool b) ∧ w = w' := by
  have := l31Prefix_any p w hp
  rw [show decide (p.size ≤ 12) = decide ((p.size : Int) ≤ 12) from decide_eq_decide.2 (by omega), h] at this
  exact this

set_option maxHeartbeats 1000000 in
theorem specIsBatch_any (p : ByteArray) (x1 x2 x3 x4 : Int) (w : World) (hp : p.size ≤ maxLen) :
    Calls Tryz.prog 68 #[.agg #[.string p, .int .i64 x1, .int .i64 x2, .int .i64 x3, .int .i64 x4]] w fun e w' => e = .returned (.bool (isBatchB p x1 x2 x3 x4)) ∧ Below w.heap.size w w' := by
  rcases seven (prefB p && decide ((p.size : Int) ≤ 12)) (inB x2 1 1000) (inB x3 1 200) (inB x4 1 9) (inB x1 0 999999999) (decide (lastI x1 x2 x3 ≤ 999999999)) (decide (((decB (lastI x1 x2 x3)).size : Int) ≤ x4)) with
    c1 | ⟨c1, c2⟩ | ⟨c1, c2, c3⟩ | ⟨c1, c2, c3, c4⟩ | ⟨c1, c2, c3, c4, c5⟩ | ⟨c1, c2, c3, c4, c5, c6⟩ | ⟨c1, c2, c3, c4, c5, c6, c7⟩ | ⟨c1, c2, c3, c4, c5, c6, c7⟩
  iterate 5
    rotate_left
  iterate 3
    · obtain ⟨b1, b2, b3, b4⟩ := last_bd c5 c2 c3
      have r1 := inB_iff.1 c5
      have r2 := inB_iff.1 c2
      have r3 := inB_iff.1 c3
      obtain ⟨b, hb'⟩ : ∃ b, isBatchB p x1 x2 x3 x4 = b := ⟨_, rfl⟩
      have hE := hb'
      simp only [isBatchB, *] at hE
      have HE := Lib.hid hE
      have HB := Lib.hid hb'
      clear hE hb'
      unfold lastI at *
      go_enter Tryz.func68, Tryz.ntmps68
      go_wp2_with ((first
        | ((go_at_call 94; go_must (refine (l31Prefix_val (by assumption) hp).mono ?_; rintro e w' ⟨rfl, rfl⟩)))
        | ((go_at_call 85; go_must (refine (l01In_val (by assumption)).mono ?_; rintro e w' ⟨rfl, rfl⟩)))))
      refine wp_region_ext (by kernel_rfl) (by kernel_rfl) ?_
      repeat (go_big_quiet_step ((go_at_call 64; go_must (apply calls_ext; apply l01Dec_any (x1 + (x3 - 1) * x2).toNat <;> omega))))
      refine wpQuiet_nil ?_
      rintro _ ⟨s, rfl⟩
      go_wp2
      go_ret
      refine ⟨ret_bool ?_, ((Below.refl _ _).alloc (Nat.le_refl _) _).trans (s.below.mono (by simp))⟩
      rw [HB.out, ← HE.out]
      simp
  all_goals
    have E : Hid (isBatchB p x1 x2 x3 x4 = false) := (by simp [isBatchB, *] : isBatchB p x1 x2 x3 x4 = false)
    go_enter Tryz.func68, Tryz.ntmps68
    go_wp2_with ((first
      | ((go_at_call 94; go_must (refine (l31Prefix_val (by assumption) hp).mono ?_; rintro e w' ⟨rfl, rfl⟩)))
      | ((go_at_call 85; go_must (refine (l01In_val (by assumption)).mono ?_; rintro e w' ⟨rfl, rfl⟩)))))
    go_ret
    exact ⟨ret_bool E.out.symm, (Below.refl _ _).alloc (Nat.le_refl _) _⟩

end Go.Proofs.YtkmfgchbfchdbaaGreatDoor
