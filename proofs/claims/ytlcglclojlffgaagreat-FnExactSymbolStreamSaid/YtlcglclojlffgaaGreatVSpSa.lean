import Derived.Test.YtlcglclojlffgaaGreatM1
import Derived.Test.YtlcglclojlffgaaGreatVSpPh
namespace Go.Proofs.YtlcglclojlffgaaGreat
open Go.RowKit

theorem spSet_any (m : Nat) (h1 : 1 ≤ m) (h3 : m ≤ 3) (w : World) :
    Calls Tryz.prog 133 #[.int .i64 (m : Int)] w fun e w' => e = .returned (.string (charS m)) ∧ w = w' := by
  obtain rfl | rfl | rfl : m = 1 ∨ m = 2 ∨ m = 3 := by omega
  all_goals
    go_enter Tryz.func133, Tryz.ntmps133
    go_wp2_with fail
    go_ret
    exact ⟨rfl, rfl⟩
set_option maxHeartbeats 1000000 in
theorem spChar_any (m : Nat) (h1 : 1 ≤ m) (h4 : m ≤ 4) (x : Int) (x0 : 0 ≤ x) (x1 : x ≤ 255) (w : World) :
    Calls Tryz.prog 121 #[.int .i64 (m : Int), .int .i64 x] w fun e w' => e = .returned (.int .i64 (valC m x)) ∧ Below w.heap.size w w' := by
  have HI1 := Lib.hid (fun w => spIn_below (w := w) (show inB x 0 255 = true from inB_iff.2 ⟨x0, x1⟩))
  have HI2 := Lib.hid (fun w => spIn_below (w := w) (show inB (m : Int) 1 4 = true from inB_iff.2 (by omega)))
  go_enter Tryz.func121, Tryz.ntmps121
  go_wp2_with fail
  refine (HI1.out _).mono ?_
  rintro e w1 ⟨rfl, hb1⟩
  have HB1 := Lib.hid hb1
  clear hb1
  go_wp2_with fail
  refine (HI2.out _).mono ?_
  rintro e w2 ⟨rfl, hb2⟩
  have HB2 := Lib.hid (bt0 HB1.out hb2 (Nat.le_refl _))
  clear hb2
  by_cases hm : m = 4
  · subst hm
    have HV := Lib.hid (show valC 4 x = x by simp [valC])
    go_wp2_with fail
    go_ret
    exact ⟨ret_int HV.out.symm, HB2.out⟩
  · have hmi : ((m : Int) == 4) = false := by rw [beq_eq_false_iff_ne]; omega
    have HV := Lib.hid (show valC m x = idxC (chars m) x 0 by unfold valC; rw [if_neg hm])
    have hl := chars_le m
    go_wp2_with fail
    refine (spSet_any m h1 (by omega) w2).mono ?_
    rintro e w3 ⟨rfl, rfl⟩
    have hsz := charS_size m
    obtain ⟨S, hS⟩ : ∃ S, S = charS m := ⟨_, rfl⟩
    rw [← hS] at hsz ⊢
    have HS := Lib.hid hS
    have hSl : S.size ≤ 45 := by omega
    have HSZ := Lib.hid hsz
    clear hS hsz
    go_wp2_with fail
    go_loop [6] (fun i => ∃ k : Nat, k ≤ S.size ∧ i = .int .i64 k ∧ ∀ i c, i < k → (chars m)[i]? = some c → (c.toNat : Int) ≠ x) (fun i => S.size - (intOf i).toNat)
    case atStart => exact ⟨0, Nat.zero_le _, rfl, fun i c h => by omega⟩
    case round =>
      obtain ⟨k, hk, rfl, hall⟩ := hrel
      have HA := Lib.hid hall
      clear hall
      by_cases hlt : k < S.size
      · have hki : (k : Int) < (S.size : Int) := by omega
        obtain ⟨z, hz⟩ : ∃ z : Nat, S[k].toNat = z := ⟨_, rfl⟩
        have hz2 : z < 256 := by rw [← hz]; exact UInt8.toNat_lt _
        have HC := Lib.hid (show ∃ c, (chars m)[k]? = some c ∧ (c.toNat : Int) = z by
          have e := HS.out
          subst e
          have hk2 : k < (chars m).length := by rw [← charS_size]; exact hlt
          refine ⟨(chars m)[k], List.getElem?_eq_getElem hk2, ?_⟩
          rw [← hz]; rfl)
        by_cases hx : (z : Int) = x
        · have hx' : ((z : Int) == x) = true := by rw [beq_iff_eq]; exact hx
          have HX := Lib.hid hx
          clear hx
          go_wp2_with fail
          go_ret
          refine ⟨ret_int ?_, HB2.out⟩
          obtain ⟨c, hc, hcz⟩ := HC.out
          rw [HV.out, idxC_at _ x 0 k HA.out ⟨c, hc, by rw [hcz, HX.out]⟩]; omega
        · have hx' : ((z : Int) == x) = false := by rw [beq_eq_false_iff_ne]; exact hx
          have HX := Lib.hid hx
          clear hx
          go_wp2_with fail
          refine ⟨⟨k + 1, by omega, by go_num, fun i c hi he => ?_⟩, by simp [intOf]; omega⟩
          by_cases hik : i = k
          · subst hik
            obtain ⟨c', hc, hcz⟩ := HC.out
            rw [hc] at he
            cases he
            rw [hcz]; exact HX.out
          · exact HA.out i c (by omega) he
      · have hki : ¬ (k : Int) < (S.size : Int) := by omega
        go_wp2_with fail
        go_ret
        refine ⟨ret_int ?_, HB2.out⟩
        rw [HV.out, idxC_none]
        intro c hc
        obtain ⟨i, hi, rfl⟩ := List.mem_iff_getElem.1 hc
        exact HA.out i _ (by have := HSZ.out; omega) (List.getElem?_eq_getElem hi)
/-- the bytes of a group and the base of a mode -/
theorem spGroup_any (m : Nat) (h1 : 1 ≤ m) (h4 : m ≤ 4) (w : World) :
    Calls Tryz.prog 120 #[.int .i64 (m : Int)] w fun e w' => e = .returned (.tuple #[.int .i64 (grpM m : Nat), .int .i64 (if m = 3 then 256 else (baseM m : Nat))]) ∧ w = w' := by
  obtain rfl | rfl | rfl | rfl : m = 1 ∨ m = 2 ∨ m = 3 ∨ m = 4 := by omega
  all_goals
    go_enter Tryz.func120, Tryz.ntmps120
    go_wp2_with fail
    go_ret2
    exact ⟨rfl, rfl⟩
/-- the bits of a group -/
theorem spWid_any (m n : Nat) (h1 : 1 ≤ m) (h4 : m ≤ 4) (hn : 1 ≤ n) (hg : n ≤ grpM m) (w : World) :
    Calls Tryz.prog 122 #[.int .i64 (m : Int), .int .i64 (n : Int)] w fun e w' => e = .returned (.int .i64 (widM m n : Nat)) ∧ Below w.heap.size w w' := by
  obtain rfl | rfl | rfl | rfl : m = 1 ∨ m = 2 ∨ m = 3 ∨ m = 4 := by omega
  · obtain rfl | rfl | rfl : n = 1 ∨ n = 2 ∨ n = 3 := by have : grpM 1 = 3 := rfl; omega
    all_goals
      go_enter Tryz.func122, Tryz.ntmps122
      go_wp2_with fail
      go_ret
      exact ⟨rfl, ba1 _ _⟩
  · obtain rfl | rfl : n = 1 ∨ n = 2 := by have : grpM 2 = 2 := rfl; omega
    all_goals
      go_enter Tryz.func122, Tryz.ntmps122
      go_wp2_with fail
      go_ret
      exact ⟨rfl, ba1 _ _⟩
  all_goals
    go_enter Tryz.func122, Tryz.ntmps122
    go_wp2_with fail
    go_ret
    exact ⟨rfl, Below.refl _ _⟩

end Go.Proofs.YtlcglclojlffgaaGreat
