import Derived.Test.YtlcglclojlffgaaGreatVSpSg
namespace Go.Proofs.YtlcglclojlffgaaGreat
open Go.RowKit

set_option maxRecDepth 100000 in
set_option maxHeartbeats 1000000 in
theorem spNum_any (a : Option Addr) (l : List Int) (n c at' wd : Nat) (w : World) (hn : n = l.length) (hx : IntsAt w a l) (hb : Bits l) (hl : l.length ≤ 100000) (ha : at' + wd ≤ l.length) (hw : wd ≤ 8) :
    Calls Tryz.prog 96 #[.slice a n c, .int .i64 (at' : Int), .int .i64 (wd : Int)] w fun e w' => e = .returned (.int .i64 (numB ((l.drop at').take wd))) ∧ w = w' := by
  subst hn
  have HX := Lib.hid hx
  have HB := Lib.hid hb
  clear hx hb
  go_enter Tryz.func96, Tryz.ntmps96
  go_wp2_with fail
  go_loop [7, 8] (fun v i => ∃ (j : Nat) (x : Int), j ≤ wd ∧ i = .int .i64 j ∧ v = .int .i64 x ∧ x = numB ((l.drop at').take j) ∧ 0 ≤ x ∧ x < 256) (fun _ i => wd - (intOf i).toNat)
  case atStart => exact ⟨0, 0, Nat.zero_le _, rfl, rfl, rfl, by omega, by omega⟩
  case round =>
    obtain ⟨j, x, hj, rfl, rfl, hx, hx0, hx1⟩ := hrel
    have HXe := Lib.hid hx
    clear hx
    by_cases hlt : j < wd
    · obtain ⟨q, hq⟩ : ∃ q, q = at' + j := ⟨_, rfl⟩
      obtain ⟨b1, o1, z, e1, hz, hb1, hc1⟩ := HX.out.at (k := q) (by omega)
      have hqi : (at' : Int) + (j : Int) = (q : Int) := by omega
      have hql : (q : Int) < (l.length : Int) := by omega
      have hji : (j : Int) < (wd : Int) := by omega
      have hzb := HB.out z (List.mem_of_getElem? hz)
      have hz0 : 0 ≤ z ∧ z ≤ 1 := by omega
      have hdz : (l.drop at')[j]? = some z := by rw [List.getElem?_drop, ← hq]; exact hz
      have HST := Lib.hid (show numB ((l.drop at').take (j + 1)) = 2 * x + z by rw [take_snoc' hdz, numB_snoc, ← HXe.out]; omega)
      have HBD := Lib.hid (show 2 * x + z < 256 by
        rw [← HST.out]
        have h1 := numB_bd (j + 1) ((l.drop at').take (j + 1)) (by rw [List.length_take, List.length_drop]; omega) (fun y hy => HB.out y (List.mem_of_mem_drop (List.mem_of_mem_take hy)))
        have h2 : (2 : Int) ^ (j + 1) ≤ 2 ^ 8 := by
          have h3 : 2 ^ (j + 1) ≤ 2 ^ 8 := Nat.pow_le_pow_right (n := 2) (by omega) (by omega)
          exact_mod_cast h3
        have h4 : (2 : Int) ^ 8 = 256 := by decide
        omega)
      subst e1
      clear hz hdz hq hzb
      go_wp2_with fail
      exact ⟨⟨j + 1, 2 * x + z, by omega, by go_num, by go_num, HST.out.symm, by omega, HBD.out⟩, by simp [intOf]; omega⟩
    · obtain rfl : j = wd := by omega
      have hji : ¬ (j : Int) < (j : Int) := by omega
      go_wp2_with fail
      go_ret
      exact ⟨ret_int HXe.out, rfl⟩
theorem patC_arr (k : Nat) : (#[.int .i64 1, .int .i64 1, .int .i64 0, .int .i64 1, .int .i64 0, .int .i64 0] : Array Value)[k % 6]? = some (.int .i64 (patC k)) := by
  have h : k % 6 < 6 := Nat.mod_lt _ (by decide)
  unfold patC
  obtain h | h | h | h | h | h : k % 6 = 0 ∨ k % 6 = 1 ∨ k % 6 = 2 ∨ k % 6 = 3 ∨ k % 6 = 4 ∨ k % 6 = 5 := by omega
  all_goals (rw [h]; rfl)
set_option maxRecDepth 100000 in
set_option maxHeartbeats 2000000 in
theorem spFill_any (a : Option Addr) (l : List Int) (n c total : Nat) (w : World) (hn : n = l.length) (hx : IntsAt w a l) (hs : Slc a l) (ht : total ≤ 8192) (hl : l.length ≤ total) :
    Calls Tryz.prog 59 #[.slice a n c, .int .i64 (total : Int)] w (RetSl w (fillC l total)) := by
  subst hn
  have HLO := Lib.hid (l01Own_any a l c w hx (by omega) hs)
  obtain ⟨L, hL⟩ : ∃ L, L = total - l.length := ⟨_, rfl⟩
  have HF := Lib.hid (show fillC l total = l ++ List.replicate (min L 3) 0 ++ (List.range (L - min L 3)).map patC by rw [fillC, ← hL, restC, List.append_assoc])
  obtain ⟨len, hlen⟩ : ∃ len, len = l.length := ⟨_, rfl⟩
  have HLEN := Lib.hid hlen
  rw [← hlen] at hL hl
  have hlt : len + L = total := by omega
  clear hx hs hL hlen
  go_enter Tryz.func59, Tryz.ntmps59
  go_wp2_with fail
  refine HLO.out.mono ?_
  rintro e w1 ⟨a1, c1, rfl, ho1, hb1⟩
  have HO1 := Lib.hid ho1
  have HB1 := Lib.hid hb1
  clear ho1 hb1 HLO
  go_wp2_with fail
  go_loopw [5, 6] (fun v i wr => ∃ (k : Nat) (a' : Option Addr) (c' m : Nat) (M : List Int), k ≤ min L 3 ∧ i = .int .i64 k ∧ M = l ++ List.replicate k 0 ∧ m = len + k ∧ m = M.length ∧ v = .slice a' m c' ∧ OwnI wr w.heap.size (.slice a' M.length c') M ∧ Below w.heap.size w wr) (fun _ i _ => min L 3 - (intOf i).toNat)
  case atStart => exact ⟨0, a1, c1, _, l, Nat.zero_le _, rfl, by simp, HLEN.out.symm, rfl, rfl, HO1.out, HB1.out⟩
  case round =>
    obtain ⟨k, a', c', m, M, hk, rfl, hM, hm, hm2, rfl, ho, hb⟩ := hrel
    have HM := Lib.hid hM
    have HM2 := Lib.hid hm2
    have HO := Lib.hid ho
    have HB := Lib.hid hb
    clear hM hm2 ho hb
    by_cases hlt3 : k < 3 ∧ k < L
    · have hk3 : (k : Int) < 3 := by omega
      have hmt : (m : Int) < (total : Int) := by omega
      have HP := Lib.hid (push_at wr (.cells #[.int .i64 0] 2 (0, 0)))
      have HO2 := Lib.hid (HO.out.grown (ba1 wr (.cells #[.int .i64 0] 2 (0, 0))))
      have HB2 := Lib.hid (bt0 HB.out (ba1 wr (.cells #[.int .i64 0] 2 (0, 0))) (Nat.le_refl _))
      have HST := Lib.hid (show l ++ List.replicate (k + 1) 0 = M ++ [(0 : Int)] by rw [HM.out, List.replicate_succ', List.append_assoc])
      go_wp2_with (at_builtin; refine wpList_append_i1 rfl (.tmp 20) (.tmp 21) 24 Tryz.underlying24 rfl w.heap.size (.slice a' M.length c') M 0 (by rw [← HM2.out]; rfl) HO2.out wr.heap.size rfl HP.out (by rw [← HM2.out]; omega) HB2.out.size ?h9)
      case h9 =>
        intro a5 c5 l5 w5 he5 ho5 hg5 hb5
        have HE5 := Lib.hid he5
        have HO5 := Lib.hid ho5
        have HB5 := Lib.hid (HB2.out.trans hb5)
        obtain ⟨m5, hm5⟩ : ∃ m5, m5 = l5.length := ⟨_, rfl⟩
        have HM5 := Lib.hid hm5
        have hm5' : m5 = len + (k + 1) := by rw [hm5, he5, List.length_append, ← HM2.out]; simp; omega
        try rw [← hm5]
        clear he5 ho5 hg5 hb5 hm5
        go_wp2_with fail
        exact ⟨⟨k + 1, a5, c5, m5, l5, by omega, by go_num, by rw [HE5.out, HST.out], hm5', HM5.out, rfl, HO5.out, HB5.out⟩, by simp [intOf]; omega⟩
    · obtain rfl : k = min L 3 := by omega
      have hif : ¬ ((min L 3 : Nat) : Int) < 3 ∨ ¬ (m : Int) < (total : Int) := by omega
      have HEX := Lib.hid (show M = l ++ List.replicate (min L 3) 0 from HM.out)
      obtain ⟨r, hr⟩ : ∃ r, r = min L 3 := ⟨_, rfl⟩
      rw [← hr] at hif HEX HF hm ⊢
      have hr3 : r ≤ 3 ∧ r ≤ L := by omega
      clear hr hk hlt3
      have hif2 : ¬ (r : Int) < 3 ∨ ((r : Int) < 3 ∧ ¬ (m : Int) < (total : Int)) := by omega
      have HME := Lib.hid hm
      clear hif hm
      rcases hif2 with hif | ⟨hif, hif3⟩
      all_goals
        go_wp2_with fail
        go_loopw [5, 7] (fun v i wr => ∃ (k : Nat) (a' : Option Addr) (c' m : Nat) (M : List Int), k ≤ L - r ∧ i = .int .i64 k ∧ M = l ++ List.replicate r 0 ++ (List.range k).map patC ∧ m = len + r + k ∧ m = M.length ∧ v = .slice a' m c' ∧ OwnI wr w.heap.size (.slice a' M.length c') M ∧ Below w.heap.size w wr) (fun _ i _ => L - r - (intOf i).toNat)
        case atStart => exact ⟨0, a', c', m, M, Nat.zero_le _, rfl, by rw [HEX.out]; simp, HME.out, HM2.out, rfl, HO.out, HB.out⟩
        case round =>
          obtain ⟨k, a', c', m, M, hk, rfl, hM, hm, hm2, rfl, ho, hb⟩ := hrel
          have HM := Lib.hid hM
          have HM2 := Lib.hid hm2
          have HO := Lib.hid ho
          have HB := Lib.hid hb
          have HME2 := Lib.hid hm
          have hmb : m ≤ total := by omega
          clear hM hm2 ho hb
          by_cases hlt4 : k < L - r
          · have hmt : (m : Int) < (total : Int) := by omega
            have hr6 : (k : Int).tmod 6 = ((k % 6 : Nat) : Int) := by rw [Int.tmod_eq_emod_of_nonneg (by omega)]; push_cast; rfl
            have hpa := patC_arr k
            have HST := Lib.hid (show l ++ List.replicate r 0 ++ (List.range (k + 1)).map patC = M ++ [patC k] by rw [List.range_succ, List.map_append, ← List.append_assoc, ← HM.out]; rfl)
            obtain ⟨z, hz⟩ : ∃ z, z = patC k := ⟨_, rfl⟩
            obtain ⟨r6, hr6e⟩ : ∃ r6, r6 = k % 6 := ⟨_, rfl⟩
            have hr6l : r6 < 6 := by omega
            rw [← hz] at hpa HST
            rw [← hr6e] at hr6 hpa
            have hcz : (wr.alloc (.cells #[.int .i64 1, .int .i64 1, .int .i64 0, .int .i64 1, .int .i64 0, .int .i64 0] 2 (0, 0))).cell? ⟨wr.heap.size, r6, none⟩ = some (.int .i64 z) := by rw [(heap_cellR (push_at _ _)).1]; exact hpa
            have HP := Lib.hid (heap2 wr (.cells #[.int .i64 1, .int .i64 1, .int .i64 0, .int .i64 1, .int .i64 0, .int .i64 0] 2 (0, 0)) (.cells #[.int .i64 z] 2 (0, 0)))
            have HO2 := Lib.hid (HO.out.grown (ba2 wr (.cells #[.int .i64 1, .int .i64 1, .int .i64 0, .int .i64 1, .int .i64 0, .int .i64 0] 2 (0, 0)) (.cells #[.int .i64 z] 2 (0, 0))))
            have HB2 := Lib.hid (bt0 HB.out (ba2 wr (.cells #[.int .i64 1, .int .i64 1, .int .i64 0, .int .i64 1, .int .i64 0, .int .i64 0] 2 (0, 0)) (.cells #[.int .i64 z] 2 (0, 0))) (Nat.le_refl _))
            clear hz hr6e hm
            go_wp2_with (at_builtin; refine wpList_append_i1 rfl (.tmp 29) (.tmp 35) 24 Tryz.underlying24 rfl w.heap.size (.slice a' M.length c') M z (by rw [← HM2.out]; rfl) HO2.out (wr.heap.size + 1) rfl HP.out.2 (by rw [← HM2.out]; omega) HB2.out.size ?h9)
            case h9 =>
              intro a5 c5 l5 w5 he5 ho5 hg5 hb5
              have HE5 := Lib.hid he5
              have HO5 := Lib.hid ho5
              have HB5 := Lib.hid (HB2.out.trans hb5)
              obtain ⟨m5, hm5⟩ : ∃ m5, m5 = l5.length := ⟨_, rfl⟩
              have HM5 := Lib.hid hm5
              have hm5' : m5 = len + r + (k + 1) := by rw [hm5, he5, List.length_append, ← HM2.out, HME2.out]; simp; omega
              try rw [← hm5]
              clear he5 ho5 hg5 hb5 hm5
              go_wp2_with fail
              exact ⟨⟨k + 1, a5, c5, m5, l5, by omega, by go_num, by rw [HE5.out, HST.out], hm5', HM5.out, rfl, HO5.out, HB5.out⟩, by simp [intOf]; omega⟩
          · have hmt : ¬ (m : Int) < (total : Int) := by omega
            clear hm
            have HEE := Lib.hid (show M = fillC l total by rw [HM.out, HF.out, show k = L - r by omega])
            go_wp2_with fail
            go_ret
            rw [← HEE.out]
            exact ⟨a', c', by rw [← HM2.out]; rfl, HO.out, HB.out⟩

end Go.Proofs.YtlcglclojlffgaaGreat
