import Derived.Test.YtkmfgchbfchdbaaGreatDoorVBatch0
namespace Go.Proofs.YtkmfgchbfchdbaaGreatDoor
open Go.RowKit

set_option maxHeartbeats 1000000 in
theorem isBatch_any (p : ByteArray) (x1 x2 x3 x4 : Int) (w : World) (hp : p.size ≤ maxLen) (htab : Tab w) :
    Calls Tryz.prog 41 #[.agg #[.string p, .int .i64 x1, .int .i64 x2, .int .i64 x3, .int .i64 x4]] w fun e w' => e = .returned (.bool (isBatchB p x1 x2 x3 x4)) ∧ Below w.heap.size w w' := by
  unfold maxLen at hp
  have HTab := Lib.hid htab
  clear htab
  go_enter Tryz.func41, Tryz.ntmps41
  go_wp2
  go_loop [3] (fun i => ∃ k : Nat, k ≤ p.size ∧ i = .int .i64 k ∧ (p.data.toList.take k).all prefC = true) (fun i => p.size - (intOf i).toNat)
  case atStart => exact ⟨0, Nat.zero_le _, rfl, rfl⟩
  case round =>
    obtain ⟨k, hk, rfl, ht⟩ := hrel
    have HT := Lib.hid ht
    clear ht
    by_cases hlt : k < p.size
    · have HC : Hid (prefC p[k] = ((p[k].toNat : Int) == 45 || (decide ((65 : Int) ≤ p[k].toNat) && decide ((p[k].toNat : Int) ≤ 90)))) := rfl
      rcases (show ((p[k].toNat : Int) != 45) = false ∨ (((p[k].toNat : Int) != 45) = true ∧ (p[k].toNat : Int) < 65) ∨ (((p[k].toNat : Int) != 45) = true ∧ (90 : Int) < p[k].toNat) ∨ (((p[k].toNat : Int) != 45) = true ∧ ¬ (p[k].toNat : Int) < 65 ∧ ¬ (90 : Int) < p[k].toNat) by
        simp only [bne_iff_ne, bne_eq_false_iff_eq]; omega) with h | ⟨h, h'⟩ | ⟨h, h'⟩ | ⟨h, h', h''⟩
      · go_wp2
        go_round
        case rel => exact ⟨k + 1, by omega, by go_num, prefB_step hlt HT.out (by rw [HC.out]; simp at h; simp [h])⟩
        case measure => simp [intOf]; omega
      · go_wp2
        go_ret
        exact ⟨ret_bool (by rw [isBatchB, prefB_no hlt (by rw [HC.out]; simp at h; simp [h]; omega)]; rfl), (Below.refl _ _).alloc (Nat.le_refl _) _⟩
      · have h3 : ¬ (p[k].toNat : Int) < 65 := by omega
        go_wp2
        go_ret
        exact ⟨ret_bool (by rw [isBatchB, prefB_no hlt (by rw [HC.out]; simp at h; simp [h]; omega)]; rfl), (Below.refl _ _).alloc (Nat.le_refl _) _⟩
      · go_wp2
        go_round
        case rel => exact ⟨k + 1, by omega, by go_num, prefB_step hlt HT.out (by rw [HC.out]; simp at h; simp; omega)⟩
        case measure => simp [intOf]; omega
    · have HP := Lib.hid (prefB_end (by omega) HT.out)
      clear HT
      rcases seven (decide ((p.size : Int) ≤ 12)) (inB x2 1 1000) (inB x3 1 200) (inB x4 1 9) (inB x1 0 999999999) (decide (lastI x1 x2 x3 ≤ 999999999)) (decide (((decB (lastI x1 x2 x3)).size : Int) ≤ x4)) with
        c1 | ⟨c1, c2⟩ | ⟨c1, c2, c3⟩ | ⟨c1, c2, c3, c4⟩ | ⟨c1, c2, c3, c4, c5⟩ | ⟨c1, c2, c3, c4, c5, c6⟩ | ⟨c1, c2, c3, c4, c5, c6, c7⟩ | ⟨c1, c2, c3, c4, c5, c6, c7⟩
      all_goals
        go_wp2
        refine wp_region_ext (by kernel_rfl) (by kernel_rfl) ?_
        repeat (go_big_quiet_step ((first
          | ((go_at_call 70; go_must (apply calls_ext_same; apply inRange_val; assumption)))
          | ((go_at_call 71; go_must (refine calls_ext _ (last_any _ _ _ _ _ _ ?_ ?_ ?_) <;> assumption)))
          | ((go_at_call 72; go_must (apply calls_ext; apply formatInt_any; (· have := last_bd c5 c2 c3; omega); (· have := last_bd c5 c2 c3; omega); exact (HTab.out.alloc _).ext _))))))
        refine wpQuiet_nil ?_
        rintro _ ⟨s, rfl⟩
        go_wp2
        go_ret
        exact ⟨ret_bool (by simp [isBatchB, HP.out, *]), ((Below.refl _ _).alloc (Nat.le_refl _) _).trans (s.below.mono (by simp))⟩

end Go.Proofs.YtkmfgchbfchdbaaGreatDoor
