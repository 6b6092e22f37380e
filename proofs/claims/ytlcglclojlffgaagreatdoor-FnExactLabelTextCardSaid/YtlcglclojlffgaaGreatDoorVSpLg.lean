import Derived.Test.YtlcglclojlffgaaGreatDoorVLblP
import Derived.Test.YtlcglclojlffgaaGreatDoorM4
import Derived.Test.YtlcglclojlffgaaGreatDoorVSpL
import Derived.Test.YtlcglclojlffgaaGreatDoorM0
namespace Go.Proofs.YtlcglclojlffgaaGreatDoor
open Go.RowKit

/-- rows and a code are handed back -/
def RetGr (b : Int) (w : World) (e : Ending) (w' : World) : Prop := (∃ a n c cd, e = .returned (.tuple #[.slice a n c, .int .i64 cd]) ∧ (cd = 0 ↔ glyB b = true) ∧ (0 ≤ cd ∧ cd ≤ 4)) ∧ Below w.heap.size w w'
set_option maxRecDepth 100000 in
theorem spGlyphs_any (w : World) : Calls Tryz.prog 87 #[] w fun e w' => (∃ S : ByteArray, S.size = 180 ∧ e = .returned (.string S)) ∧ w = w' := by
  go_enter Tryz.func87, Tryz.ntmps87
  go_wp2_with fail
  go_ret
  exact ⟨⟨_, rfl, rfl⟩, rfl⟩
set_option maxRecDepth 100000 in
set_option maxHeartbeats 4000000 in
theorem spGlyph_any (b : Int) (w : World) :
    Calls Tryz.prog 72 #[.int .i64 b] w (RetGr b w) := by
  have HG := Lib.hid (glyB_eq b)
  obtain ⟨R, hR⟩ : ∃ R, R = glyB b := ⟨_, rfl⟩
  unfold RetGr
  rw [← hR] at HG ⊢
  clear hR
  by_cases h32 : b = 32
  · subst h32
    obtain rfl : R = true := by rw [HG.out]; rfl
    go_enter Tryz.func72, Tryz.ntmps72
    go_wp2_with fail
    go_ret2
    exact ⟨⟨_, _, _, _, rfl, by simp, by omega, by omega⟩, ba1 _ _⟩
  · have h32b : (b == 32) = false := by rw [beq_eq_false_iff_ne]; exact h32
    rcases Bool.eq_false_or_eq_true (inB b 48 57 || inB b 65 90) with hd | hd
    · obtain rfl : R = true := by rw [HG.out, Bool.or_assoc, hd, Bool.or_true]
      go_enter Tryz.func72, Tryz.ntmps72
      rcases Bool.eq_false_or_eq_true (inB b 48 57) with h1 | h1
      rotate_left
      rcases Bool.eq_false_or_eq_true (inB b 65 90) with h2 | h2
      rotate_left
      · rw [h1, h2] at hd; cases hd
      all_goals
        have hbd : (48 ≤ b ∧ b ≤ 57) ∨ (65 ≤ b ∧ b ≤ 90) := by
          first
            | exact .inl (inB_iff.1 h1)
            | exact .inr (inB_iff.1 h2)
        clear hd
        go_wp2_with (go_at_call 44; refine (spIn_any _ _ _ _).mono ?_; (first | rw [h1] | rw [h2]); rintro e w' ⟨rfl, rfl⟩)
        first
          | (obtain ⟨A, hA, hA1⟩ : ∃ A : Nat, b - 48 = (A : Int) ∧ A ≤ 35 := ⟨(b - 48).toNat, by have := inB_iff.1 h1; omega, by have := inB_iff.1 h1; omega⟩
             rw [hA])
          | (obtain ⟨A, hA, hA1⟩ : ∃ A : Nat, b - 65 + 10 = (A : Int) ∧ A ≤ 35 := ⟨(b - 65 + 10).toNat, by have := inB_iff.1 h2; omega, by have := inB_iff.1 h2; omega⟩
             rw [hA])
        go_loopw [5, 6] (fun v i wr => ∃ (j : Nat) (a' : Option Addr) (c' : Nat) (l : List Int), j ≤ 5 ∧ i = .int .i64 (j : Int) ∧ v = .slice a' l.length c' ∧ l.length ≤ 100 * j ∧ OwnI wr w.heap.size v l ∧ Below w.heap.size w wr) (fun _ i _ => 5 - (intOf i).toNat)
        case atStart => exact ⟨0, _, _, [], by omega, rfl, rfl, by simp, World.ownsRow_lit (base := w.heap.size) (size := 1) w #[] 0 (Nat.le_refl _) (by unfold maxLen; omega) rfl, ba1 _ _⟩
        case round =>
          obtain ⟨j, a', c', l, hj, rfl, rfl, hll, ho, hbr⟩ := hrel
          have HO := Lib.hid ho
          have HBR := Lib.hid hbr
          have hwz := hbr.size
          clear ho hbr
          by_cases hlt : j < 5
          · have hji : (j : Int) < 5 := by omega
            obtain ⟨m, hm⟩ : ∃ m : Nat, m = 5 * A + j := ⟨_, rfl⟩
            have hmi : 5 * (A : Int) + (j : Int) = (m : Int) := by omega
            have hm180 : m < 180 := by omega
            clear hm
            go_wp2_with fail
            refine (spGlyphs_any _).mono ?_
            rintro e w' ⟨⟨S, hS, rfl⟩, rfl⟩
            have hms : m < S.size := by omega
            clear hS
            go_wp2_with (at_builtin; refine wpList_append_i1 (o := _) rfl (.tmp 27) (.tmp 36) 67 Tryz.underlying67 rfl w.heap.size (.slice a' l.length c') l _ rfl (HO.out.grown (ba1 _ _)) wr.heap.size rfl (push_at wr _) (by omega) (by simp; omega) ?h9)
            case h9 =>
            intro a4 c4 l4 w4 he4 ho4 hg4 hb4
            have HO4 := Lib.hid ho4
            have HB4 := Lib.hid ((HBR.out.alloc hwz _).trans hb4)
            have hl4 : l4.length ≤ 100 * (j + 1) := by rw [he4]; simp; omega
            clear he4 ho4 hg4 hb4
            go_wp2_with fail
            exact ⟨⟨j + 1, a4, c4, l4, by omega, by go_num, rfl, hl4, HO4.out, HB4.out⟩, by simp [intOf]; omega⟩
          · have hji : ¬ (j : Int) < 5 := by omega
            go_wp2_with fail
            go_ret2
            exact ⟨⟨_, _, _, _, rfl, by simp, by omega, by omega⟩, HBR.out⟩
    · obtain rfl : R = false := by rw [HG.out, Bool.or_assoc, hd, decide_eq_false h32]; rfl
      have h1 : inB b 48 57 = false := by revert hd; cases inB b 48 57 <;> simp
      have h2 : inB b 65 90 = false := by revert hd; cases inB b 65 90 <;> simp
      clear hd
      go_enter Tryz.func72, Tryz.ntmps72
      go_wp2_with fail
      refine (spIn_below h1).mono ?_
      rintro e w1 ⟨rfl, hb1⟩
      have HB1 := Lib.hid hb1
      clear hb1
      go_wp2_with fail
      refine (spIn_below h2).mono ?_
      rintro e w2 ⟨rfl, hb2⟩
      have HB2 := Lib.hid (bt0 HB1.out hb2 (Nat.le_refl _))
      clear hb2
      go_wp2_with fail
      go_ret2
      exact ⟨⟨_, _, _, _, rfl, by simp, by omega, by omega⟩, HB2.out⟩

end Go.Proofs.YtlcglclojlffgaaGreatDoor
