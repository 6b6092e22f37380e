import Derived.Test.YtlcglclojlffgaaGreatDoorL2
import Derived.Test.YtlcglclojlffgaaGreatDoorL0
import Derived.Maps.AppendAt
import Derived.Test.YtlcglclojlffgaaGreatDoorL1
namespace Go.Proofs.YtlcglclojlffgaaGreatDoor
open Go.RowKit

set_option maxRecDepth 100000 in
set_option maxHeartbeats 2000000 in
theorem spIsLayout_any {p k g : Int} {F : Fd} (h : FV p k g F) (d c n : Int) (w : World) :
    Calls Tryz.prog 111 #[.agg #[.int .i64 p, .int .i64 k, .int .i64 g, .int .i64 d, .int .i64 c, .int .i64 n]] w fun e w' => e = .returned (.bool (Lay.ok ⟨d, c, n⟩ F.q)) ∧ Below w.heap.size w w' := by
  have H := Lib.hid h
  clear h
  obtain ⟨ok, hok⟩ : ∃ ok, ok = Lay.ok ⟨d, c, n⟩ F.q := ⟨_, rfl⟩
  have HOK := Lib.hid hok
  rw [← hok]
  clear hok
  go_enter Tryz.func111, Tryz.ntmps111
  go_wp2_with fail
  have hz := push_at w (.cells #[.int .i64 p, .int .i64 k, .int .i64 g, .int .i64 d, .int .i64 c, .int .i64 n] 146 (0, 0))
  have HB0 := Lib.hid (ba1 w (.cells #[.int .i64 p, .int .i64 k, .int .i64 g, .int .i64 d, .int .i64 c, .int .i64 n] 146 (0, 0)))
  obtain ⟨w1, hw1⟩ : ∃ w1, w1 = w.alloc (.cells #[.int .i64 p, .int .i64 k, .int .i64 g, .int .i64 d, .int .i64 c, .int .i64 n] 146 (0, 0)) := ⟨_, rfl⟩
  rw [← hw1] at hz HB0 ⊢
  have HX1 := Lib.hid hz
  obtain ⟨hcA, hfA⟩ := heap_cellR hz
  have hltA := blkLt hz
  clear hw1 hz
  refine (spIn_any n 1 16 w1).mono ?_
  rintro e w2 ⟨rfl, rfl⟩
  rcases Bool.eq_false_or_eq_true (inB n 1 16) with h1 | h1
  · have hn := inB_iff.1 h1
    rw [h1]
    go_wp2_with fail
    refine (spIn_any d n 1500 w1).mono ?_
    rintro e w2 ⟨rfl, rfl⟩
    rcases Bool.eq_false_or_eq_true (inB d n 1500) with h2 | h2
    · have hd := inB_iff.1 h2
      rw [h2]
      go_wp2_with fail
      refine (spIn_any c 1 64 w1).mono ?_
      rintro e w2 ⟨rfl, rfl⟩
      rcases Bool.eq_false_or_eq_true (inB c 1 64) with h3 | h3
      · have hc := inB_iff.1 h3
        rw [h3]
        have hm1 : 0 ≤ n * c := Int.mul_nonneg (by omega) (by omega)
        have hm2 : n * c ≤ 16 * 64 := Int.mul_le_mul hn.2 hc.2 (by omega) (by omega)
        have HT := Lib.hid (show Lay.total ⟨d, c, n⟩ = d + n * c from rfl)
        obtain ⟨m, hm⟩ : ∃ m, m = n * c := ⟨_, rfl⟩
        rw [← hm] at hm1 hm2 HT
        have hw : wrap64 (n * c) = m := by rw [← hm]; unfold wrap64; omega
        have hw2 : wrap64 (d + m) = d + m := by unfold wrap64; omega
        have hw3 : wrap64 (n - 1) = n - 1 := by unfold wrap64; omega
        clear hm
        by_cases h4 : 1500 < d + m
        · have HE := Lib.hid (show ok = false by rw [HOK.out]; simp only [Lay.ok, HT.out]; simp; omega)
          have h4' : decide (1500 < d + m) = true := decide_eq_true h4
          go_wp2_with fail
          go_ret
          exact ⟨ret_bool HE.out.symm, HB0.out⟩
        · have h4' : decide (1500 < d + m) = false := decide_eq_false h4
          have HOK2 := Lib.hid (show ok = (codB F.q (Lay.share ⟨d, c, n⟩ 0 + c) c && codB F.q (Lay.share ⟨d, c, n⟩ (n - 1) + c) c) by
            rw [HOK.out]
            simp only [Lay.ok, HT.out]
            rw [decide_eq_true (show 1 ≤ n by omega), decide_eq_true (show n ≤ 16 by omega), decide_eq_true (show n ≤ d by omega), decide_eq_true (show d ≤ 1500 by omega), decide_eq_true (show 1 ≤ c by omega), decide_eq_true (show c ≤ 64 by omega), decide_eq_true (show d + m ≤ 1500 by omega)]
            rfl)
          clear h4
          go_wp2_with fail
          refine (spBlock_any p k g d c n 0 w1 (by omega) (by omega) (by omega) (by omega) (by omega) (by omega)).mono ?_
          rintro e w2 ⟨rfl, hb2⟩
          have HX2 := Lib.hid (blkK hb2 HX1.out)
          have HB2 := Lib.hid (bt0 HB0.out hb2 (Nat.le_refl _))
          clear hb2 hcA hfA hltA
          go_wp2_with fail
          refine (spIsCode_any H.out _ _ w2).mono ?_
          rintro e w3 ⟨rfl, hb3⟩
          have HX3 := Lib.hid (blkK hb3 HX2.out)
          have HB3 := Lib.hid (bt0 HB2.out hb3 (Nat.le_refl _))
          clear hb3
          obtain ⟨hcA, hfA⟩ := heap_cellR HX3.out
          have hltA := blkLt HX3.out
          rcases Bool.eq_false_or_eq_true (codB F.q (Lay.share ⟨d, c, n⟩ 0 + c) c) with h5 | h5
          · rw [h5]
            have HOK3 := Lib.hid (show ok = codB F.q (Lay.share ⟨d, c, n⟩ (n - 1) + c) c by rw [HOK2.out, h5]; rfl)
            go_wp2_with fail
            refine (spBlock_any p k g d c n (n - 1) w3 (by omega) (by omega) (by omega) (by omega) (by omega) (by omega)).mono ?_
            rintro e w4 ⟨rfl, hb4⟩
            have HB4 := Lib.hid (bt0 HB3.out hb4 (Nat.le_refl _))
            clear hb4
            go_wp2_with fail
            refine (spIsCode_any H.out _ _ w4).mono ?_
            rintro e w5 ⟨rfl, hb5⟩
            have HB5 := Lib.hid (bt0 HB4.out hb5 (Nat.le_refl _))
            clear hb5
            rw [← HOK3.out]
            go_wp2_with fail
            go_ret
            exact ⟨rfl, HB5.out⟩
          · rw [h5]
            have HE := Lib.hid (show ok = false by rw [HOK2.out, h5]; rfl)
            go_wp2_with fail
            go_ret
            exact ⟨ret_bool HE.out.symm, HB3.out⟩
      · rw [h3]
        have HE := Lib.hid (show ok = false by
          have h4 : ¬ (1 ≤ c ∧ c ≤ 64) := of_decide_eq_false h3
          rw [HOK.out]; simp only [Lay.ok]; simp; omega)
        go_wp2_with fail
        go_ret
        exact ⟨ret_bool HE.out.symm, HB0.out⟩
    · rw [h2]
      have HE := Lib.hid (show ok = false by
        have h4 : ¬ (n ≤ d ∧ d ≤ 1500) := of_decide_eq_false h2
        rw [HOK.out]; simp only [Lay.ok]; simp; omega)
      go_wp2_with fail
      go_ret
      exact ⟨ret_bool HE.out.symm, HB0.out⟩
  · rw [h1]
    have HE := Lib.hid (show ok = false by
      have h4 : ¬ (1 ≤ n ∧ n ≤ 16) := of_decide_eq_false h1
      rw [HOK.out]; simp only [Lay.ok]; simp; omega)
    go_wp2_with fail
    go_ret
    exact ⟨ret_bool HE.out.symm, HB0.out⟩
set_option maxRecDepth 100000 in
set_option maxHeartbeats 1000000 in
theorem spWidth_any (F : Fd) (h : FdB F) (w : World) :
    Calls Tryz.prog 108 #[fV F] w fun e w' => e = .returned (.int .i64 (F.k : Int)) ∧ Below w.heap.size w w' := by
  have hk := h.k8
  have hk3 := h.k3
  have H := Lib.hid h
  have HQ := Lib.hid h.q
  clear h
  go_enter Tryz.func108, Tryz.ntmps108
  go_wp2_with fail
  have hz := push_at w (.cells #[.int .i64 2, .int .i64 (F.k : Int), .int .i64 (F.g : Int)] 121 (0, 0))
  have HB0 := Lib.hid (ba1 w (.cells #[.int .i64 2, .int .i64 (F.k : Int), .int .i64 (F.g : Int)] 121 (0, 0)))
  obtain ⟨w1, hw1⟩ : ∃ w1, w1 = w.alloc (.cells #[.int .i64 2, .int .i64 (F.k : Int), .int .i64 (F.g : Int)] 121 (0, 0)) := ⟨_, rfl⟩
  rw [← hw1] at hz HB0 ⊢
  have HX1 := Lib.hid hz
  clear hw1 hz
  go_loopw [3] (fun i wr => ∃ j : Nat, j ≤ F.k ∧ i = .int .i64 j ∧ wr.heap[w.heap.size]? = some (.cells #[.int .i64 2, .int .i64 (F.k : Int), .int .i64 (F.g : Int)] 121 (0, 0)) ∧ Below w.heap.size w wr) (fun i _ => F.k - (intOf i).toNat)
  case atStart => exact ⟨0, Nat.zero_le _, rfl, HX1.out, HB0.out⟩
  case round =>
    obtain ⟨j, hj, rfl, hx, hb⟩ := hrel
    have HX := Lib.hid hx
    have HB := Lib.hid hb
    obtain ⟨hcA, hfA⟩ := heap_cellR HX.out
    have hltA := blkLt HX.out
    have hpw := pow_small2 (show j ≤ 8 by omega)
    obtain ⟨P, hP⟩ : ∃ P, P = 2 ^ j := ⟨_, rfl⟩
    rw [← hP] at hpw
    have HC := Lib.hid (show (2 * P ≤ F.q ↔ j < F.k) by
      rw [HQ.out, hP, show 2 * 2 ^ j = 2 ^ (j + 1) by rw [Nat.pow_succ]; omega]
      exact Nat.pow_le_pow_iff_right (by decide))
    clear hx hb hP
    go_wp2_with fail
    refine (spSize_any F H.out wr).mono ?_
    rintro e w2 ⟨rfl, hb2⟩
    have HX2 := Lib.hid (blkK hb2 HX.out)
    have HB2 := Lib.hid (bt0 HB.out hb2 (Nat.le_refl _))
    clear hb2
    by_cases hjk : j < F.k
    · have hle := HC.out.2 hjk
      have hli : 2 * (P : Int) ≤ (F.q : Int) := by omega
      clear hle
      go_wp2_with fail
      exact ⟨⟨j + 1, by omega, by push_cast; rfl, HX2.out, HB2.out⟩, by simp [intOf]; omega⟩
    · have hle : ¬ 2 * P ≤ F.q := fun h => hjk (HC.out.1 h)
      have hli : ¬ 2 * (P : Int) ≤ (F.q : Int) := by omega
      have HE := Lib.hid (show j = F.k by omega)
      clear hle
      go_wp2_with fail
      go_ret
      exact ⟨by rw [← HE.out]; rfl, HB2.out⟩

end Go.Proofs.YtlcglclojlffgaaGreatDoor
namespace Go.Proofs.YtlcglclojlffgaaGreatDoor
open Go.RowKit

theorem spAbs_any (n : Int) (h : -1000 ≤ n ∧ n ≤ 1000) (w : World) :
    Calls Tryz.prog 146 #[.int .i64 n] w fun e w' => e = .returned (.int .i64 (absI n)) ∧ w = w' := by
  have hw : wrap64 (-n) = -n := by unfold wrap64; omega
  by_cases h0 : n < 0
  · have HE := Lib.hid (show absI n = -n by rw [absI, if_pos h0])
    have hlt : n < -n := by omega
    go_enter Tryz.func146, Tryz.ntmps146
    go_wp2_with fail
    go_ret
    exact ⟨ret_int HE.out.symm, rfl⟩
  · have HE := Lib.hid (show absI n = n by rw [absI, if_neg h0])
    have hlt : ¬ n < -n := by omega
    go_enter Tryz.func146, Tryz.ntmps146
    go_wp2_with fail
    go_ret
    exact ⟨ret_int HE.out.symm, rfl⟩
theorem spFinder_any (r c : Int) (hr : -900 ≤ r ∧ r ≤ 900) (hc : -900 ≤ c ∧ c ≤ 900) (w : World) :
    Calls Tryz.prog 145 #[.int .i64 r, .int .i64 c] w fun e w' => e = .returned (.int .i64 (findS r c)) ∧ w = w' := by
  have hw1 : wrap64 (r - 3) = r - 3 := by unfold wrap64; omega
  have hw2 : wrap64 (c - 3) = c - 3 := by unfold wrap64; omega
  obtain ⟨d, hd⟩ : ∃ d, d = dst (r - 3) (c - 3) := ⟨_, rfl⟩
  have HD := Lib.hid hd
  have HF := Lib.hid (show findS r c = if 4 < d then -1 else if d = 2 ∨ d = 4 then 0 else 1 by rw [findS, ← hd])
  obtain ⟨A, hA⟩ : ∃ A, A = absI (r - 3) := ⟨_, rfl⟩
  obtain ⟨B, hB⟩ : ∃ B, B = absI (c - 3) := ⟨_, rfl⟩
  have HA := Lib.hid hA
  have HBB := Lib.hid hB
  have hmx : (if A < B then B else A) = d := by
    rw [hd, dst, ← hA, ← hB]
    repeat' split
    all_goals omega
  clear hd hA hB
  by_cases d4 : 4 < d
  · have d4b : decide (4 < d) = true := decide_eq_true d4
    have HE := Lib.hid (HF.out.trans (if_pos d4))
    go_enter Tryz.func145, Tryz.ntmps145
    go_wp2_with fail
    refine (spAbs_any (r - 3) (by omega) w).mono ?_
    rintro e w1 ⟨rfl, rfl⟩
    rw [← HA.out]
    go_wp2_with fail
    refine (spAbs_any (c - 3) (by omega) w).mono ?_
    rintro e w1 ⟨rfl, rfl⟩
    rw [← HBB.out]
    go_wp2_with fail
    go_ret
    exact ⟨ret_int HE.out.symm, rfl⟩
  · have d4b : decide (4 < d) = false := decide_eq_false d4
    by_cases d2 : d = 2
    · have HE := Lib.hid (HF.out.trans ((if_neg d4).trans (if_pos (Or.inl d2))))
      have d2b : (d == 2) = true := by rw [beq_iff_eq]; exact d2
      clear d2
      go_enter Tryz.func145, Tryz.ntmps145
      go_wp2_with fail
      refine (spAbs_any (r - 3) (by omega) w).mono ?_
      rintro e w1 ⟨rfl, rfl⟩
      rw [← HA.out]
      go_wp2_with fail
      refine (spAbs_any (c - 3) (by omega) w).mono ?_
      rintro e w1 ⟨rfl, rfl⟩
      rw [← HBB.out]
      go_wp2_with fail
      go_ret
      exact ⟨ret_int HE.out.symm, rfl⟩
    · have d2b : (d == 2) = false := by rw [beq_eq_false_iff_ne]; exact d2
      by_cases d4' : d = 4
      · have HE := Lib.hid (HF.out.trans ((if_neg d4).trans (if_pos (Or.inr d4'))))
        have d4c : (d == 4) = true := by rw [beq_iff_eq]; exact d4'
        clear d2 d4'
        go_enter Tryz.func145, Tryz.ntmps145
        go_wp2_with fail
        refine (spAbs_any (r - 3) (by omega) w).mono ?_
        rintro e w1 ⟨rfl, rfl⟩
        rw [← HA.out]
        go_wp2_with fail
        refine (spAbs_any (c - 3) (by omega) w).mono ?_
        rintro e w1 ⟨rfl, rfl⟩
        rw [← HBB.out]
        go_wp2_with fail
        go_ret
        exact ⟨ret_int HE.out.symm, rfl⟩
      · have HE := Lib.hid (HF.out.trans ((if_neg d4).trans (if_neg (fun h => h.elim d2 d4'))))
        have d4c : (d == 4) = false := by rw [beq_eq_false_iff_ne]; exact d4'
        clear d2 d4'
        go_enter Tryz.func145, Tryz.ntmps145
        go_wp2_with fail
        refine (spAbs_any (r - 3) (by omega) w).mono ?_
        rintro e w1 ⟨rfl, rfl⟩
        rw [← HA.out]
        go_wp2_with fail
        refine (spAbs_any (c - 3) (by omega) w).mono ?_
        rintro e w1 ⟨rfl, rfl⟩
        rw [← HBB.out]
        go_wp2_with fail
        go_ret
        exact ⟨ret_int HE.out.symm, rfl⟩
/-- the three corners of the finder patterns -/
def cornX (n : Int) (k : Nat) : Int := if k = 2 then n - 7 else 0
def cornY (n : Int) (k : Nat) : Int := if k = 1 then n - 7 else 0
def vS (n r c : Int) (k : Nat) : Int := findS (r - cornX n k) (c - cornY n k)
def restS (n r c : Int) : Int := if r = 6 ∧ 8 ≤ c ∧ c ≤ n - 9 then 1 - c % 2 else if c = 6 ∧ 8 ≤ r ∧ r ≤ n - 9 then 1 - r % 2 else if r = n - 8 ∧ c = 8 then 1 else -1
theorem fixS_at {n r c : Int} {k : Nat} (hk : k < 3) (h : ∀ j, j < k → vS n r c j < 0) (hv : 0 ≤ vS n r c k) : fixS n r c = vS n r c k := by
  have e0 : vS n r c 0 = findS r c := by simp [vS, cornX, cornY]
  have e1 : vS n r c 1 = findS r (c - (n - 7)) := by simp [vS, cornX, cornY]
  have e2 : vS n r c 2 = findS (r - (n - 7)) c := by simp [vS, cornX, cornY]
  unfold fixS
  rw [← e0, ← e1, ← e2]
  have hk3 : k = 0 ∨ k = 1 ∨ k = 2 := by omega
  rcases hk3 with rfl | rfl | rfl
  · rw [if_pos hv]
  · have := h 0 (by omega)
    rw [if_neg (by omega), if_pos hv]
  · have := h 0 (by omega)
    have := h 1 (by omega)
    rw [if_neg (by omega), if_neg (by omega), if_pos hv]
theorem fixS_rest {n r c : Int} (h : ∀ j, j < 3 → vS n r c j < 0) : fixS n r c = restS n r c := by
  have e0 : vS n r c 0 = findS r c := by simp [vS, cornX, cornY]
  have e1 : vS n r c 1 = findS r (c - (n - 7)) := by simp [vS, cornX, cornY]
  have e2 : vS n r c 2 = findS (r - (n - 7)) c := by simp [vS, cornX, cornY]
  unfold fixS
  rw [← e0, ← e1, ← e2]
  have := h 0 (by omega)
  have := h 1 (by omega)
  have := h 2 (by omega)
  rw [if_neg (by omega), if_neg (by omega), if_neg (by omega)]
  rfl
theorem restS_eq (n r c : Int) : restS n r c = if (r == 6) && inB c 8 (n - 9) then 1 - c % 2 else if (c == 6) && inB r 8 (n - 9) then 1 - r % 2 else if (r == n - 8) && (c == 8) then 1 else -1 := by
  unfold restS
  simp only [inB, Bool.and_eq_true, beq_iff_eq, decide_eq_true_eq]
def CornAt (W : World) (B : Nat) (n : Int) : Prop := ∀ k, k < 3 → W.cell? ⟨B + 3, k, none⟩ = some (.slice (some ⟨B + k, 0, none⟩) 2 2) ∧ W.cell? ⟨B + k, 0, none⟩ = some (.int .i64 (cornX n k)) ∧ W.cell? ⟨B + k, 1, none⟩ = some (.int .i64 (cornY n k))
set_option maxRecDepth 100000 in
set_option maxHeartbeats 8000000 in
theorem spFixed_any (n r c : Int) (hn : 17 ≤ n ∧ n ≤ 41) (hr : 0 ≤ r ∧ r ≤ 41) (hc : 0 ≤ c ∧ c ≤ 41) (w : World) :
    Calls Tryz.prog 144 #[.int .i64 n, .int .i64 r, .int .i64 c] w fun e w' => e = .returned (.int .i64 (fixS n r c)) ∧ Below w.heap.size w w' := by
  have hw1 : wrap64 (n - 7) = n - 7 := by unfold wrap64; omega
  obtain ⟨R, hR⟩ : ∃ R, R = fixS n r c := ⟨_, rfl⟩
  have HR := Lib.hid hR
  rw [← hR]
  clear hR
  go_enter Tryz.func144, Tryz.ntmps144
  go_wp2_with fail
  obtain ⟨B, hB⟩ : ∃ B, B = w.heap.size := ⟨_, rfl⟩
  obtain ⟨W, hW⟩ : ∃ W, W = ((((w.alloc (.cells #[.int .i64 0, .int .i64 0] 2 (0, 0))).alloc (.cells #[.int .i64 0, .int .i64 (n - 7)] 2 (0, 0))).alloc (.cells #[.int .i64 (n - 7), .int .i64 0] 2 (0, 0))).alloc (.cells #[.slice (some ⟨w.heap.size, 0, none⟩) 2 2, .slice (some ⟨w.heap.size + 1, 0, none⟩) 2 2, .slice (some ⟨w.heap.size + 1 + 1, 0, none⟩) 2 2] 67 (0, 0))) := ⟨_, rfl⟩
  have hCO : CornAt W B n ∧ Below w.heap.size w W ∧ B + 3 < W.heap.size := by
    have b1 := push_at w (.cells #[.int .i64 0, .int .i64 0] 2 (0, 0))
    have b2 := push_at (w.alloc (.cells #[.int .i64 0, .int .i64 0] 2 (0, 0))) (.cells #[.int .i64 0, .int .i64 (n - 7)] 2 (0, 0))
    have b3 := push_at ((w.alloc (.cells #[.int .i64 0, .int .i64 0] 2 (0, 0))).alloc (.cells #[.int .i64 0, .int .i64 (n - 7)] 2 (0, 0))) (.cells #[.int .i64 (n - 7), .int .i64 0] 2 (0, 0))
    have b4 := push_at (((w.alloc (.cells #[.int .i64 0, .int .i64 0] 2 (0, 0))).alloc (.cells #[.int .i64 0, .int .i64 (n - 7)] 2 (0, 0))).alloc (.cells #[.int .i64 (n - 7), .int .i64 0] 2 (0, 0))) (.cells #[.slice (some ⟨w.heap.size, 0, none⟩) 2 2, .slice (some ⟨w.heap.size + 1, 0, none⟩) 2 2, .slice (some ⟨w.heap.size + 1 + 1, 0, none⟩) 2 2] 67 (0, 0))
    rw [← hW] at b4
    have c1 := (heap_cellR (push_old (A := .cells #[.slice (some ⟨w.heap.size, 0, none⟩) 2 2, .slice (some ⟨w.heap.size + 1, 0, none⟩) 2 2, .slice (some ⟨w.heap.size + 1 + 1, 0, none⟩) 2 2] 67 (0, 0)) (push_old (A := .cells #[.int .i64 (n - 7), .int .i64 0] 2 (0, 0)) (push_old (A := .cells #[.int .i64 0, .int .i64 (n - 7)] 2 (0, 0)) b1)))).1
    have c2 := (heap_cellR (push_old (A := .cells #[.slice (some ⟨w.heap.size, 0, none⟩) 2 2, .slice (some ⟨w.heap.size + 1, 0, none⟩) 2 2, .slice (some ⟨w.heap.size + 1 + 1, 0, none⟩) 2 2] 67 (0, 0)) (push_old (A := .cells #[.int .i64 (n - 7), .int .i64 0] 2 (0, 0)) b2))).1
    have c3 := (heap_cellR (push_old (A := .cells #[.slice (some ⟨w.heap.size, 0, none⟩) 2 2, .slice (some ⟨w.heap.size + 1, 0, none⟩) 2 2, .slice (some ⟨w.heap.size + 1 + 1, 0, none⟩) 2 2] 67 (0, 0)) b3)).1
    rw [← hW] at c1 c2 c3
    have c4 := (heap_cellR b4).1
    simp only [World.size_alloc] at c1 c2 c3 c4
    rw [← hB] at c1 c2 c3 c4
    refine ⟨fun k hk => ?_, ?_, ?_⟩
    · have hk3 : k = 0 ∨ k = 1 ∨ k = 2 := by omega
      rcases hk3 with rfl | rfl | rfl
      · exact ⟨c4 0, c1 0, c1 1⟩
      · exact ⟨c4 1, c2 0, c2 1⟩
      · exact ⟨c4 2, c3 0, c3 1⟩
    · rw [hW]
      exact ((ba2 w _ _).alloc (by simp; omega) _).alloc (by simp; omega) _
    · rw [hW, hB]; simp
  obtain ⟨hCO, hbW, hlB⟩ := hCO
  rw [← hW, ← hB]
  have HCO := Lib.hid hCO
  have HBW := Lib.hid hbW
  clear hW hCO hbW hB
  rw [show B + 1 + 1 + 1 = B + 3 from rfl]
  go_loopw [8, 9] (fun i _ wr => ∃ k : Nat, k ≤ 3 ∧ i = .int .i64 k ∧ (∀ j, j < k → vS n r c j < 0) ∧ CornAt wr B n ∧ Below w.heap.size w wr ∧ B + 3 < wr.heap.size) (fun i _ _ => 3 - (intOf i).toNat)
  case atStart => exact ⟨0, Nat.zero_le _, rfl, fun j h => by omega, HCO.out, HBW.out, hlB⟩
  case round =>
    obtain ⟨k, hk, rfl, hall, hco, hb, hlr⟩ := hrel
    have HALL := Lib.hid hall
    have HB := Lib.hid hb
    have HCR := Lib.hid hco
    clear hall hb
    by_cases hk3 : k < 3
    · obtain ⟨q1, q2, q3⟩ := hco k hk3
      clear hco
      have hki : (k : Int) < 3 := by omega
      have HV := Lib.hid (show vS n r c k = findS (r - cornX n k) (c - cornY n k) from rfl)
      obtain ⟨X, hX⟩ : ∃ X, X = cornX n k := ⟨_, rfl⟩
      obtain ⟨Y, hY⟩ : ∃ Y, Y = cornY n k := ⟨_, rfl⟩
      have hXb : 0 ≤ X ∧ X ≤ 41 := by rw [hX]; unfold cornX; split <;> omega
      have hYb : 0 ≤ Y ∧ Y ≤ 41 := by rw [hY]; unfold cornY; split <;> omega
      rw [← hX] at q2 HV
      rw [← hY] at q3 HV
      have hwx : wrap64 (r - X) = r - X := by unfold wrap64; omega
      have hwy : wrap64 (c - Y) = c - Y := by unfold wrap64; omega
      have hBk : B + k < wr.heap.size := by omega
      have HFN := Lib.hid (fun w => spFinder_any (r - X) (c - Y) (by omega) (by omega) w)
      obtain ⟨v, hv⟩ : ∃ v, v = findS (r - X) (c - Y) := ⟨_, rfl⟩
      rw [← hv] at HFN HV
      clear hX hY hv
      go_wp2_with fail
      go_quiet ((go_at_call 145; go_must (exact quiet_same' (HFN.out _))))
      by_cases hv0 : 0 ≤ v
      · have HE := Lib.hid (show R = v by rw [HR.out, fixS_at hk3 HALL.out (by rw [HV.out]; exact hv0), HV.out])
        go_wp2_with fail
        go_ret
        exact ⟨ret_int HE.out.symm, HB.out.trans (below_drewN (Below.refl _ _) _)⟩
      · have HK : Hid (∀ j, j < k + 1 → vS n r c j < 0) := Lib.hid (fun j hj => by
          by_cases e : j = k
          · subst e; rw [HV.out]; omega
          · exact HALL.out j (by omega))
        go_wp2_with fail
        refine ⟨⟨k + 1, by omega, by push_cast; rfl, HK.out, fun j hj => ?_, HB.out.trans (below_drewN (Below.refl _ _) _), hlr⟩, by simp [intOf]; omega⟩
        exact HCR.out j hj
    · obtain rfl : k = 3 := by omega
      clear hco
      have HRE := Lib.hid (HR.out.trans (fixS_rest HALL.out))
      have hw9 : wrap64 (n - 9) = n - 9 := by unfold wrap64; omega
      have hw8 : wrap64 (n - 8) = n - 8 := by unfold wrap64; omega
      have hki : ¬ (3 : Int) < 3 := by omega
      have htc : c.tmod 2 = c % 2 := Int.tmod_eq_emod_of_nonneg (by omega)
      have htr : r.tmod 2 = r % 2 := Int.tmod_eq_emod_of_nonneg (by omega)
      have hm1 : wrap64 (1 - c % 2) = 1 - c % 2 := by unfold wrap64; omega
      have hm2 : wrap64 (1 - r % 2) = 1 - r % 2 := by unfold wrap64; omega
      rw [restS_eq] at HRE
      obtain ⟨b1, hb1⟩ : ∃ b, (r == 6) = b := ⟨_, rfl⟩
      obtain ⟨b2, hb2⟩ : ∃ b, (c == 6) = b := ⟨_, rfl⟩
      obtain ⟨b3, hb3⟩ : ∃ b, (r == n - 8) = b := ⟨_, rfl⟩
      obtain ⟨b4, hb4⟩ : ∃ b, (c == 8) = b := ⟨_, rfl⟩
      obtain ⟨b5, hb5⟩ : ∃ b, inB c 8 (n - 9) = b := ⟨_, rfl⟩
      obtain ⟨b6, hb6⟩ : ∃ b, inB r 8 (n - 9) = b := ⟨_, rfl⟩
      have HI5 := Lib.hid (fun w => spIn_val (w := w) hb5)
      have HI6 := Lib.hid (fun w => spIn_val (w := w) hb6)
      rw [hb1, hb2, hb3, hb4, hb5, hb6] at HRE
      clear hb5 hb6 hn hr hc
      cases b1 with
      | false =>
        cases b2 with
        | false =>
          cases b3 with
          | false =>
            go_wp2_with fail
            go_ret
            exact ⟨ret_int HRE.out.symm, HB.out⟩
          | true =>
            cases b4 with
            | false =>
              go_wp2_with fail
              go_ret
              exact ⟨ret_int HRE.out.symm, HB.out⟩
            | true =>
              go_wp2_with fail
              go_ret
              exact ⟨ret_int HRE.out.symm, HB.out⟩
        | true =>
          go_wp2_with fail
          refine (HI6.out _).mono ?_
          rintro e w' ⟨rfl, rfl⟩
          cases b6 with
          | true =>
            go_wp2_with fail
            go_ret
            exact ⟨ret_int HRE.out.symm, HB.out⟩
          | false =>
            cases b3 with
            | false =>
              go_wp2_with fail
              go_ret
              exact ⟨ret_int HRE.out.symm, HB.out⟩
            | true =>
              cases b4 with
              | false =>
                go_wp2_with fail
                go_ret
                exact ⟨ret_int HRE.out.symm, HB.out⟩
              | true =>
                go_wp2_with fail
                go_ret
                exact ⟨ret_int HRE.out.symm, HB.out⟩
      | true =>
        go_wp2_with fail
        refine (HI5.out _).mono ?_
        rintro e w' ⟨rfl, rfl⟩
        cases b5 with
        | true =>
          go_wp2_with fail
          go_ret
          exact ⟨ret_int HRE.out.symm, HB.out⟩
        | false =>
          cases b2 with
          | false =>
            cases b3 with
            | false =>
              go_wp2_with fail
              go_ret
              exact ⟨ret_int HRE.out.symm, HB.out⟩
            | true =>
              cases b4 with
              | false =>
                go_wp2_with fail
                go_ret
                exact ⟨ret_int HRE.out.symm, HB.out⟩
              | true =>
                go_wp2_with fail
                go_ret
                exact ⟨ret_int HRE.out.symm, HB.out⟩
          | true =>
            go_wp2_with fail
            refine (HI6.out _).mono ?_
            rintro e w' ⟨rfl, rfl⟩
            cases b6 with
            | true =>
              go_wp2_with fail
              go_ret
              exact ⟨ret_int HRE.out.symm, HB.out⟩
            | false =>
              cases b3 with
              | false =>
                go_wp2_with fail
                go_ret
                exact ⟨ret_int HRE.out.symm, HB.out⟩
              | true =>
                cases b4 with
                | false =>
                  go_wp2_with fail
                  go_ret
                  exact ⟨ret_int HRE.out.symm, HB.out⟩
                | true =>
                  go_wp2_with fail
                  go_ret
                  exact ⟨ret_int HRE.out.symm, HB.out⟩

end Go.Proofs.YtlcglclojlffgaaGreatDoor
namespace Go.Proofs.YtlcglclojlffgaaGreatDoor
open Go.RowKit

/-- two slices of the call's own, in two blocks -/
def Two (w0 w : World) (vm vt : Value) (M T : List Int) : Prop :=
  OwnI w w0.heap.size vm M ∧ OwnI w w0.heap.size vt T ∧ (∀ k, vm.ownBlock = some k → vt.ownBlock ≠ some k) ∧ Below w0.heap.size w0 w
theorem Two.below {w0 w w' : World} {vm vt : Value} {M T : List Int} (h : Two w0 w vm vt M T) (hb : Below w.heap.size w w') : Two w0 w' vm vt M T :=
  ⟨h.1.grown hb, h.2.1.grown hb, h.2.2.1, bt0 h.2.2.2 hb (Nat.le_refl _)⟩
theorem own_empty (w : World) : OwnI (w.alloc (.cells #[] 2 (0, 0))) w.heap.size (.slice (some ⟨w.heap.size, 0, none⟩) 0 0) [] :=
  World.ownsRow_lit (base := w.heap.size) (size := 1) w #[] 0 (Nat.le_refl _) (by unfold maxLen; omega) rfl
theorem Two.weak {w00 w0 w : World} {vm vt : Value} {M T : List Int} (h : Two w0 w vm vt M T) (hb : Below w00.heap.size w00 w0) : Two w00 w vm vt M T :=
  ⟨h.1.weak hb.size, h.2.1.weak hb.size, h.2.2.1, hb.trans (h.2.2.2.mono hb.size)⟩

/-- two lists, a number and a code are handed back -/
def RetTwo (w : World) (M T : List Int) (F cd : Int) (e : Ending) (w' : World) : Prop :=
  ∃ a c b d, e = .returned (.tuple #[.slice a M.length c, .slice b T.length d, .int .i64 F, .int .i64 cd]) ∧ Two w w' (.slice a M.length c) (.slice b T.length d) M T
theorem RetTwo.none {w w' : World} {F cd : Int} (hb : Below w.heap.size w w') : RetTwo w [] [] F cd (.returned (.tuple #[.slice none 0 0, .slice none 0 0, .int .i64 F, .int .i64 cd])) w' :=
  ⟨Option.none, 0, Option.none, 0, rfl, World.ownsRow_nil _ _ _ _, World.ownsRow_nil _ _ _ _, fun k hk => (by cases hk), hb⟩
theorem RetTwo.of {w w' : World} {vm vt : Value} {M T : List Int} {F cd : Int} (h : Two w w' vm vt M T) : RetTwo w M T F cd (.returned (.tuple #[vm, vt, .int .i64 F, .int .i64 cd])) w' := by
  obtain ⟨a, c, rfl, _⟩ := h.1.read
  obtain ⟨b, d, rfl, _⟩ := h.2.1.read
  exact ⟨a, c, b, d, rfl, h⟩

end Go.Proofs.YtlcglclojlffgaaGreatDoor
namespace Go.Proofs.YtlcglclojlffgaaGreatDoor
open Go.RowKit

/-- the first k cells of the reference's grid -/
def gS (n k : Nat) : List Int := (List.range k).map fun i => fixS n ((i / n : Nat) : Int) ((i % n : Nat) : Int)
theorem gS_step {n r c : Nat} (hc : c < n) : gS n (r * n + c + 1) = gS n (r * n + c) ++ [fixS n (r : Int) (c : Int)] := by
  rw [gS, List.range_succ, List.map_append, List.map_singleton, gS]
  congr 2
  rw [show (r * n + c) / n = r by rw [Nat.mul_comm, Nat.mul_add_div (by omega), Nat.div_eq_of_lt hc, Nat.add_zero], show (r * n + c) % n = c by rw [Nat.mul_comm, Nat.mul_add_mod, Nat.mod_eq_of_lt hc]]
theorem gS_len (n k : Nat) : (gS n k).length = k := by simp [gS]
set_option maxRecDepth 100000 in
set_option maxHeartbeats 2000000 in
theorem spGrid_any (n : Nat) (hn : 17 ≤ n ∧ n ≤ 41) (w : World) :
    Calls Tryz.prog 143 #[.int .i64 (n : Int)] w fun e w' => (∃ a c, e = .returned (.agg #[.int .i64 (n : Int), .int .i64 (n : Int), .slice a (gS n (n * n)).length c]) ∧ IntsAt w' a (gS n (n * n))) ∧ Below w.heap.size w w' := by
  obtain ⟨hn1, hn2⟩ := hn
  go_enter Tryz.func143, Tryz.ntmps143
  go_wp2_with fail
  have hO := own_empty (w.alloc (.cells #[.int .i64 0, .int .i64 0, .slice none 0 0] 205 (0, 0)))
  have hB1 := ba1 w (.cells #[.int .i64 0, .int .i64 0, .slice none 0 0] 205 (0, 0))
  have hX := push_at w (.cells #[.int .i64 0, .int .i64 0, .slice none 0 0] 205 (0, 0))
  obtain ⟨w1, hw1⟩ : ∃ w1, w1 = w.alloc (.cells #[.int .i64 0, .int .i64 0, .slice none 0 0] 205 (0, 0)) := ⟨_, rfl⟩
  have hs1 : w1.heap.size = w.heap.size + 1 := by rw [hw1]; simp
  rw [← hw1] at hO hB1 hX ⊢
  clear hw1
  rw [hs1] at hO
  have hB2 := ba1 w1 (.cells #[] 2 (0, 0))
  obtain ⟨w2, hw2⟩ : ∃ w2, w2 = w1.alloc (.cells #[] 2 (0, 0)) := ⟨_, rfl⟩
  rw [← hw2] at hO hB2 ⊢
  rw [hs1] at hB2
  have HO := Lib.hid hO
  have HB1 := Lib.hid hB1
  have HX := Lib.hid hX
  have HB2 := Lib.hid hB2
  have hs2 : w.heap.size + 1 ≤ w2.heap.size := by rw [hw2]; simp [hs1]
  clear hw2 hO hB1 hX hB2
  go_loopw [3, 4, 5] (fun v i _ wr => ∃ (r : Nat) (a : Option Addr) (c : Nat) (l : List Int), r ≤ n ∧ i = .int .i64 r ∧ l = gS n (r * n) ∧ v = .slice a l.length c ∧ OwnI wr (w.heap.size + 1) (.slice a l.length c) l ∧ Below (w.heap.size + 1) w1 wr ∧ w.heap.size + 1 ≤ wr.heap.size) (fun _ i _ _ => n - (intOf i).toNat)
  case atStart => exact ⟨0, _, 0, [], Nat.zero_le _, rfl, by simp [gS], rfl, HO.out, HB2.out, hs2⟩
  case round =>
    obtain ⟨r, a, c, l, hr, rfl, hl, rfl, ho, hb, hsz⟩ := hrel
    have HL := Lib.hid hl
    have HOr := Lib.hid ho
    have HBr := Lib.hid hb
    clear hl ho hb
    by_cases hrn : r < n
    · have hri : (r : Int) < (n : Int) := by omega
      go_wp2_with fail
      go_loopw [3, 5] (fun v i wr => ∃ (k : Nat) (a : Option Addr) (c : Nat) (l : List Int), k ≤ n ∧ i = .int .i64 k ∧ l = gS n (r * n + k) ∧ v = .slice a l.length c ∧ OwnI wr (w.heap.size + 1) (.slice a l.length c) l ∧ Below (w.heap.size + 1) w1 wr ∧ w.heap.size + 1 ≤ wr.heap.size) (fun _ i _ => n - (intOf i).toNat)
      case atStart => exact ⟨0, a, c, l, Nat.zero_le _, rfl, by rw [HL.out]; rfl, rfl, HOr.out, HBr.out, hsz⟩
      case round =>
        clear hsz
        obtain ⟨k, a, c, l, hk, rfl, hl, rfl, ho, hb, hsz⟩ := hrel
        have HLk := Lib.hid hl
        have HOk := Lib.hid ho
        have HBk := Lib.hid hb
        have hll : l.length ≤ 2000 := by
          rw [hl, gS_len]
          have h1 : r * n ≤ 41 * 41 := Nat.mul_le_mul (by omega) (by omega)
          omega
        clear hl ho hb
        by_cases hkn : k < n
        · have hki : (k : Int) < (n : Int) := by omega
          go_wp2_with fail
          refine (spFixed_any n r k (by omega) (by omega) (by omega) _).mono ?_
          rintro e w3 ⟨rfl, hb3⟩
          have HO3 := Lib.hid (HOk.out.grown hb3)
          have HB3 := Lib.hid (bt0 HBk.out hb3 (by omega))
          have hs3 : w.heap.size + 1 ≤ w3.heap.size := by have := hb3.size; omega
          obtain ⟨z, hz⟩ : ∃ z, z = fixS n r k := ⟨_, rfl⟩
          have HZ := Lib.hid hz
          rw [← hz]
          clear hb3 hz
          go_wp2_with (at_builtin; refine wpList_append_i1 (o := _) rfl (.tmp 17) (.tmp 22) 67 Tryz.underlying67 rfl (w.heap.size + 1) (.slice a l.length c) l z rfl (HO3.out.grown (ba1 _ _)) w3.heap.size rfl (push_at _ _) ?c3 ?c4 ?h8)
          case c3 => omega
          case c4 => simp; omega
          case h8 =>
          intro a6 c6 l6 w6 he6 ho6 hg6 hb6
          have HB7 := Lib.hid ((bt0 HB3.out (ba1 w3 (.cells #[.int .i64 z] 2 (0, 0))) (by omega)).trans hb6)
          have HO8 := Lib.hid ho6
          have HE6 := Lib.hid he6
          have hs6 : w.heap.size + 1 ≤ w6.heap.size := by have := HB7.out.size; omega
          clear hg6 hb6 ho6 he6
          go_wp2_with fail
          exact ⟨⟨k + 1, a6, c6, l6, by omega, by push_cast; rfl, by rw [HE6.out, HLk.out, HZ.out, ← Nat.add_assoc, gS_step hkn], rfl, HO8.out, HB7.out, hs6⟩, by simp [intOf]; omega⟩
        · have hki : ¬ (k : Int) < (n : Int) := by omega
          obtain rfl : k = n := by omega
          go_wp2_with fail
          exact ⟨⟨r + 1, a, c, l, by omega, by push_cast; rfl, by rw [HLk.out, Nat.add_mul, Nat.one_mul], rfl, HOk.out, HBk.out, hsz⟩, by simp [intOf]; omega⟩
    · have hri : ¬ (r : Int) < (n : Int) := by omega
      obtain rfl : r = n := by omega
      obtain ⟨hcA, hfA⟩ := heap_cellR ((HBr.out.block w.heap.size (by omega)).trans HX.out)
      go_wp2_with fail
      refine bodyPost_ret (v := .agg #[.int .i64 (r : Int), .int .i64 (r : Int), .slice a l.length c]) (by simp [results, Tryz.results143, go_sem, hcA]) rfl ⟨⟨a, ⟨c, by rw [← HL.out]⟩, ?_⟩, ?_⟩
      · rw [← HL.out]
        exact (((HOr.out.setOld (a := ⟨w.heap.size, 0, none⟩) (by dsimp only; omega) _).setOld (a := ⟨w.heap.size, 1, none⟩) (by dsimp only; omega) _).setOld (a := ⟨w.heap.size, 2, none⟩) (by dsimp only; omega) _).ints
      · iterate 3 (refine Below.setCell ?_ (by dsimp only; omega) _)
        exact HB1.out.trans (HBr.out.mono (by omega))

/-- how many of the first k cells are no fixed ones -/
def ngS (l : List Int) (k : Nat) : Nat := ((l.take k).filter fun x => decide (x < 0)).length
theorem ngS_step {l : List Int} {k : Nat} {x : Int} (h : l[k]? = some x) : ngS l (k + 1) = ngS l k + if x < 0 then 1 else 0 := by
  rw [ngS, take_snoc' h, List.filter_append, List.length_append, ← ngS]
  congr 1
  by_cases hx : x < 0
  · simp [hx]
  · simp [hx]
theorem ngS_le (l : List Int) (k : Nat) : ngS l k ≤ k := Nat.le_trans (List.length_filter_le _ _) (by rw [List.length_take]; exact Nat.min_le_left _ _)
theorem cntS_ng (n : Nat) : cntS n = -30 + (ngS (gS n (n * n)) (n * n) : Int) := by
  rw [cntS, ngS, List.take_of_length_le (by rw [gS_len]; exact Nat.le_refl _), gS, List.filter_map, List.length_map]
  rfl
set_option maxRecDepth 100000 in
set_option maxHeartbeats 1000000 in
theorem spCount_any (n : Nat) (hn : 17 ≤ n ∧ n ≤ 41) (w : World) :
    Calls Tryz.prog 137 #[.int .i64 (n : Int)] w fun e w' => e = .returned (.int .i64 (cntS n)) ∧ Below w.heap.size w w' := by
  have HN := Lib.hid hn
  obtain ⟨R, hR⟩ : ∃ R, R = cntS n := ⟨_, rfl⟩
  have HR := Lib.hid (hR.trans (cntS_ng n))
  rw [← hR]
  have hnn : n * n ≤ 41 * 41 := Nat.mul_le_mul hn.2 hn.2
  clear hn hR
  go_enter Tryz.func137, Tryz.ntmps137
  go_wp2_with fail
  refine (spGrid_any n HN.out w).mono ?_
  rintro e w1 ⟨⟨a, c, rfl, hi⟩, hb1⟩
  have HL := Lib.hid (gS_len n (n * n))
  obtain ⟨l, hl⟩ : ∃ l, l = gS n (n * n) := ⟨_, rfl⟩
  rw [← hl] at hi HL HR ⊢
  have hX := push_at w1 (.cells #[.int .i64 (n : Int), .int .i64 (n : Int), .slice a l.length c] 205 (0, 0))
  have HB := Lib.hid (bt0 hb1 (ba1 w1 (.cells #[.int .i64 (n : Int), .int .i64 (n : Int), .slice a l.length c] 205 (0, 0))) (Nat.le_refl _))
  have HI := Lib.hid (hi.below (ba1 w1 (.cells #[.int .i64 (n : Int), .int .i64 (n : Int), .slice a l.length c] 205 (0, 0))))
  have hll : l.length ≤ 2000 := by rw [HL.out]; omega
  clear hi hb1 hl
  go_wp2_with fail
  obtain ⟨w2, hw2⟩ : ∃ w2, w2 = w1.alloc (.cells #[.int .i64 (n : Int), .int .i64 (n : Int), .slice a l.length c] 205 (0, 0)) := ⟨_, rfl⟩
  rw [← hw2] at hX HB HI ⊢
  obtain ⟨hcA, hfA⟩ := heap_cellR hX
  have hltA := blkLt hX
  clear hX hw2
  go_loopw [4, 5] (fun o i wr => ∃ k : Nat, k ≤ l.length ∧ i = .int .i64 k ∧ o = .int .i64 (-30 + (ngS l k : Int)) ∧ wr = w2) (fun _ i _ => l.length - (intOf i).toNat)
  case atStart => exact ⟨0, Nat.zero_le _, rfl, by simp [ngS], rfl⟩
  case round =>
    obtain ⟨k, hk, rfl, rfl, rfl⟩ := hrel
    by_cases hlt : k < l.length
    · obtain ⟨b1, o1, x, rfl, hxk, hb1, hc1⟩ := HI.out.at hlt
      have hki : (k : Int) < (l.length : Int) := by omega
      have HS := Lib.hid (ngS_step hxk)
      have hng := ngS_le l k
      obtain ⟨m, hm⟩ : ∃ m, m = ngS l k := ⟨_, rfl⟩
      rw [← hm] at HS hng ⊢
      clear hxk hm
      by_cases hx : x < 0
      · have HS2 := Lib.hid (HS.out.trans (by rw [if_pos hx]))
        go_wp2_with fail
        exact ⟨⟨k + 1, by omega, by push_cast; rfl, by rw [HS2.out]; push_cast; congr 1; omega, trivial⟩, by simp [intOf]; omega⟩
      · have HS2 := Lib.hid (HS.out.trans (by rw [if_neg hx, Nat.add_zero]))
        go_wp2_with fail
        exact ⟨⟨k + 1, by omega, by push_cast; rfl, by rw [HS2.out], trivial⟩, by simp [intOf]; omega⟩
    · obtain rfl : k = l.length := by omega
      have hki : ¬ ((l.length : Nat) : Int) < (l.length : Int) := by omega
      have HE := Lib.hid (show -30 + (ngS l l.length : Int) = R by rw [HR.out, HL.out])
      obtain ⟨m, hm⟩ : ∃ m, m = ngS l l.length := ⟨_, rfl⟩
      rw [← hm] at HE ⊢
      clear hm
      go_wp2_with fail
      go_ret
      exact ⟨ret_int HE.out, HB.out⟩

end Go.Proofs.YtlcglclojlffgaaGreatDoor
namespace Go.Proofs.YtlcglclojlffgaaGreatDoor
open Go.RowKit

set_option maxRecDepth 100000 in
set_option maxHeartbeats 2000000 in
theorem layout_any (nm : ByteArray) (kd p k g : Int) (a1 : Option Addr) (szs : List Int) (c1 : Nat) (cl : Int) (a2 : Option Addr) (lvs : List Int) (c2 : Nat) (n lev : Int) (w : World) (h : Fam.ok ⟨nm, kd, p, k, g, szs, cl, lvs⟩ = true) (hn : hasI szs n = true) (hl : 0 ≤ lev ∧ lev < lvs.length) (hx : IntsAt w a2 lvs) (L : Lay) (hL : Fam.lay ⟨nm, kd, p, k, g, szs, cl, lvs⟩ n lev = L) :
    Calls Tryz.prog 183 #[(.agg #[.string nm, .int .i64 kd, .int .i64 p, .int .i64 k, .int .i64 g, .slice a1 szs.length c1, .int .i64 cl, .slice a2 lvs.length c2]), .int .i64 n, .int .i64 lev] w fun e w' => e = .returned (.agg #[.int .i64 p, .int .i64 k, .int .i64 g, .int .i64 L.data, .int .i64 L.checks, .int .i64 L.count]) ∧ Below w.heap.size w w' := by
  have hbd := elems_bd h hn
  obtain ⟨E, hE⟩ : ∃ E, E = Fam.elems ⟨nm, kd, p, k, g, szs, cl, lvs⟩ n := ⟨_, rfl⟩
  have HEe := Lib.hid hE
  rw [← hE] at hbd
  obtain ⟨h1, h2, h3, -, -⟩ := fam_ok h
  have HF := Lib.hid (fv_of h1)
  have hq := HF.out.fd.q_bd
  obtain ⟨Q, hQ⟩ : ∃ Q, Q = (bF k.toNat g.toNat).q := ⟨_, rfl⟩
  have HQ := Lib.hid hQ
  rw [← hQ] at hq
  obtain ⟨lv, rfl⟩ := Int.eq_ofNat_of_zero_le hl.1
  have hll : lv < lvs.length := by omega
  have hlvi : (lv : Int) < (lvs.length : Int) := hl.2
  obtain ⟨b1, o1, v, rfl, hv, hlb, hc1⟩ := hx.at hll
  have hvb := ris_in h3 (List.mem_of_getElem? hv)
  have HX := Lib.hid hx
  -- the numbers
  have hm : (if (255 : Int) < (Q : Int) - 1 then 255 else (Q : Int) - 1) = (Q : Int) - 1 := by rw [if_neg (by omega)]
  obtain ⟨C, hC⟩ : ∃ C, (E + ((Q : Int) - 1) - 1) / ((Q : Int) - 1) = C := ⟨_, rfl⟩
  have hCb : 1 ≤ C ∧ C ≤ 1700 := by
    rw [← hC]
    refine ⟨(Int.le_ediv_iff_mul_le (by omega)).2 (by omega), Int.le_trans (Int.ediv_le_self _ (by omega)) (by omega)⟩
  have hTb : 3 * 1 ≤ E * v ∧ E * v ≤ 1408 * 80 := ⟨Int.mul_le_mul hbd.1 hvb.1 (by omega) (by omega), Int.mul_le_mul hbd.2 hvb.2 (by omega) (by omega)⟩
  obtain ⟨T, hT⟩ : ∃ T, E * v = T := ⟨_, rfl⟩
  rw [hT] at hTb
  have hw1 : wrap64 (E * v) = T := by rw [hT]; unfold wrap64; omega
  obtain ⟨X, hX⟩ : ∃ X, T / 100 / C = X := ⟨_, rfl⟩
  have hXb : 0 ≤ X ∧ X ≤ 112640 := by
    rw [← hX]
    refine ⟨Int.ediv_nonneg (by omega) (by omega), Int.le_trans (Int.ediv_le_self _ (by omega)) (by omega)⟩
  obtain ⟨Y, hY⟩ : ∃ Y, (if X < 64 then X else 64) = Y := ⟨_, rfl⟩
  have hYb : 0 ≤ Y ∧ Y ≤ 64 := by rw [← hY]; split <;> omega
  obtain ⟨K, hK⟩ : ∃ K, (if 2 < Y then Y else 2) = K := ⟨_, rfl⟩
  have hKb : 2 ≤ K ∧ K ≤ 64 := by rw [← hK]; split <;> omega
  have hRb : 1 * 2 ≤ C * K ∧ C * K ≤ 1700 * 64 := ⟨Int.mul_le_mul hCb.1 hKb.1 (by omega) (by omega), Int.mul_le_mul hCb.2 hKb.2 (by omega) (by omega)⟩
  obtain ⟨R, hR⟩ : ∃ R, C * K = R := ⟨_, rfl⟩
  rw [hR] at hRb
  have hw2 : wrap64 (C * K) = R := by rw [hR]; unfold wrap64; omega
  have HL := Lib.hid (show L = ⟨E - R, K, C⟩ by
    have e0 : ((2 ^ k.toNat : Nat) : Int) = (Q : Int) := by rw [hQ]; rfl
    have e1 : lvs.getD (((lv : Nat) : Int)).toNat 0 = v := by rw [Int.toNat_natCast, List.getD_eq_getElem?_getD, hv]; rfl
    rw [← hL]
    unfold Fam.lay
    dsimp only
    rw [← hE, e0, e1, if_pos (by omega), hC, hT, hX]
    have e2 : (if X ≤ 64 then X else 64) = Y := by rw [← hY]; split <;> split <;> omega
    rw [e2]
    have e3 : (if 2 ≤ Y then Y else 2) = K := by rw [← hK]; split <;> split <;> omega
    rw [e3, hR])
  rw [HL.out]
  dsimp only
  have HH := Lib.hid h
  have HN := Lib.hid hn
  clear h hn h1 h2 h3 hx hv hQ hE hL hT hR
  go_enter Tryz.func183, Tryz.ntmps183
  go_wp2_with fail
  refine (elements_any nm kd p k g a1 szs c1 cl _ lvs c2 n _ HH.out HN.out).mono ?_
  rintro e w1 ⟨rfl, hb1⟩
  rw [← HEe.out]
  have e2 := heap2 w (.cells #[.string nm, .int .i64 kd, .int .i64 p, .int .i64 k, .int .i64 g, .slice a1 szs.length c1, .int .i64 cl, .slice (some ⟨b1, o1, none⟩) lvs.length c2] 123 (0, 0)) (.cells #[.int .i64 0, .int .i64 0, .int .i64 0, .int .i64 0, .int .i64 0, .int .i64 0] 146 (0, 0))
  have k1 := blkK hb1 e2.1
  have k2 := blkK hb1 e2.2
  have K1 := Lib.hid k1
  have K2 := Lib.hid k2
  obtain ⟨hcA, hfA⟩ := heap_cellR k1
  have HB1 := Lib.hid (bt2 hb1)
  have z1 := blkLt k1
  clear hb1 e2 k1 k2
  go_wp2_with fail
  refine ((fieldSize_any HF.out _).mono (R' := fun e w' => e = .returned (.int .i64 (Q : Int)) ∧ Below w1.heap.size w1 w') (fun e w' h => ⟨by rw [h.1, HQ.out], h.2⟩)).mono ?_
  rintro e w2 ⟨rfl, hb2⟩
  have k1 := blkK hb2 K1.out
  have k2 := blkK hb2 K2.out
  have HB2 := Lib.hid (bt0 HB1.out hb2 (Nat.le_refl _))
  have hc2 := (HB2.out.cell (p := ⟨b1, o1 + lv, none⟩) hlb).trans hc1
  clear hcA hfA hc1
  obtain ⟨hcA, hfA⟩ := heap_cellR k1
  obtain ⟨hcB, hfB⟩ := heap_cellR k2
  have y1 := blkLt k1
  have y2 := blkLt k2
  clear hb2 k1 k2
  go_wp2_with fail
  refine bodyPost_ret (v := .agg #[.int .i64 p, .int .i64 k, .int .i64 g, .int .i64 (E - R), .int .i64 K, .int .i64 C]) (by simp [results, Tryz.results183, go_sem, hcB]) rfl ⟨rfl, ?_⟩
  iterate 6 (refine Below.setCell ?_ (by dsimp only; omega) _)
  exact HB2.out

end Go.Proofs.YtlcglclojlffgaaGreatDoor
namespace Go.Proofs.YtlcglclojlffgaaGreatDoor
open Go.RowKit

/-- the code of a layout; the layout as a value -/
def layC (f : Fam) (n lev : Int) : Int := if f.ok = true then (if hasI f.sizes n = true ∧ inB lev 0 ((f.levels.length : Int) - 1) = true then (if (f.lay n lev).ok ((2 ^ f.fk.toNat : Nat) : Int) = true then 0 else 3) else 2) else 1
def layA (f : Fam) (n lev : Int) : Value := if layC f n lev = 0 then .agg #[.int .i64 f.fp, .int .i64 f.fk, .int .i64 f.fg, .int .i64 (f.lay n lev).data, .int .i64 (f.lay n lev).checks, .int .i64 (f.lay n lev).count] else .agg #[.int .i64 0, .int .i64 0, .int .i64 0, .int .i64 0, .int .i64 0, .int .i64 0]
end Go.Proofs.YtlcglclojlffgaaGreatDoor
namespace Go.Proofs.YtlcglclojlffgaaGreatDoor
open Go.RowKit

set_option maxRecDepth 100000 in
set_option maxHeartbeats 1000000 in
theorem spElements_any (nm : ByteArray) (kd p k g : Int) (a1 : Option Addr) (szs : List Int) (c1 : Nat) (cl : Int) (a2 : Option Addr) (lvs : List Int) (c2 : Nat) (n : Int) (w : World) (h : Fam.ok ⟨nm, kd, p, k, g, szs, cl, lvs⟩ = true) (hn : hasI szs n = true) :
    Calls Tryz.prog 124 #[(.agg #[.string nm, .int .i64 kd, .int .i64 p, .int .i64 k, .int .i64 g, .slice a1 szs.length c1, .int .i64 cl, .slice a2 lvs.length c2]), .int .i64 n] w fun e w' => e = .returned (.int .i64 (Fam.elems ⟨nm, kd, p, k, g, szs, cl, lvs⟩ n)) ∧ Below w.heap.size w w' := by
  have hbd := elems_bd h hn
  obtain ⟨E, hE⟩ : ∃ E, E = Fam.elems ⟨nm, kd, p, k, g, szs, cl, lvs⟩ n := ⟨_, rfl⟩
  rw [← hE] at hbd ⊢
  obtain ⟨h1, h2, h3, h4, h5⟩ := fam_ok h
  have hm := hasI_mem hn
  unfold Fam.elems at hE
  dsimp only at hE
  have HE := Lib.hid hE
  clear hE
  rcases h5 with ⟨rfl, h6, h7⟩ | ⟨rfl, -, -, -, h6, h7⟩
  · have HS := Lib.hid (List.all_eq_true.1 h6 n hm)
    have hb := msz_bd HS.out
    rw [if_neg (by decide)] at HE
    have HF := Lib.hid (fv_of h1)
    have hk := HF.out.ok.k
    have hk3 := HF.out.ok.k3
    have hk8 := HF.out.ok.k8
    obtain ⟨F, hFe⟩ : ∃ F, F = bF k.toNat g.toNat := ⟨_, rfl⟩
    rw [← hFe] at HF hk hk3 hk8
    have hd := dcnt_bd n
    obtain ⟨D, hD⟩ : ∃ D, D = dcnt n := ⟨_, rfl⟩
    rw [← hD] at hd HE
    have HCN : Hid (∀ w : World, Calls Tryz.prog 137 #[.int .i64 n] w fun e w' => e = .returned (.int .i64 (D : Int)) ∧ Below w.heap.size w w') := Lib.hid (fun w => by
      have h1 := spCount_any n.toNat (by omega) w
      rw [cntS_eq HS.out, ← hD, Int.toNat_of_nonneg (by omega)] at h1
      exact h1)
    have HWD : Hid (∀ w : World, Calls Tryz.prog 108 #[.agg #[.int .i64 p, .int .i64 k, .int .i64 g]] w fun e w' => e = .returned (.int .i64 k) ∧ Below w.heap.size w w') := Lib.hid (fun w => by
      have h1 := spWidth_any F HF.out.r.toFdB w
      rw [← HF.out.v, ← hk] at h1
      exact h1)
    have hq : (0 : Int) ≤ (D : Int) / k ∧ (D : Int) / k ≤ 1408 := by rw [← HE.out]; omega
    have hK0 : (k == 0) = false := by rw [beq_eq_false_iff_ne]; omega
    have htd : (D : Int).tdiv k = (D : Int) / k := Int.tdiv_eq_ediv_of_nonneg (by omega)
    have hki : 3 ≤ k ∧ k ≤ 8 := by omega
    clear h1 h2 h3 h4 h6 h7 hm hFe hD hk hk3 hk8
    go_enter Tryz.func124, Tryz.ntmps124
    go_wp2_with fail
    refine wp_region_ext (by kernel_rfl) (by kernel_rfl) ?_
    repeat (go_big_quiet_step ((first
      | (go_at_call 137; go_must (exact calls_ext _ (HCN.out _)))
      | (go_at_call 108; go_must (exact calls_ext _ (HWD.out _))))))
    refine wpQuiet_nil ?_
    rintro _ ⟨s, rfl⟩
    go_wp2_with fail
    go_ret
    exact ⟨ret_int HE.out.symm, bt0 (ba1 _ _) s.below (Nat.le_refl _)⟩
  · rw [if_pos rfl] at HE
    have HW := Lib.hid (show wrap64 (n * cl) = E by rw [← HE.out]; unfold wrap64; omega)
    clear h1 h2 h3 h4 h6 h7 hm
    go_enter Tryz.func124, Tryz.ntmps124
    go_wp2_with fail
    go_ret
    exact ⟨ret_int HW.out, ba1 _ _⟩

end Go.Proofs.YtlcglclojlffgaaGreatDoor
namespace Go.Proofs.YtlcglclojlffgaaGreatDoor
open Go.RowKit

set_option maxRecDepth 100000 in
set_option maxHeartbeats 2000000 in
theorem spLayout_any (nm : ByteArray) (kd p k g : Int) (a1 : Option Addr) (szs : List Int) (c1 : Nat) (cl : Int) (a2 : Option Addr) (lvs : List Int) (c2 : Nat) (n lev : Int) (w : World) (h : Fam.ok ⟨nm, kd, p, k, g, szs, cl, lvs⟩ = true) (hn : hasI szs n = true) (hl : 0 ≤ lev ∧ lev < lvs.length) (hx : IntsAt w a2 lvs) (L : Lay) (hL : Fam.lay ⟨nm, kd, p, k, g, szs, cl, lvs⟩ n lev = L) :
    Calls Tryz.prog 110 #[(.agg #[.string nm, .int .i64 kd, .int .i64 p, .int .i64 k, .int .i64 g, .slice a1 szs.length c1, .int .i64 cl, .slice a2 lvs.length c2]), .int .i64 n, .int .i64 lev] w fun e w' => e = .returned (.agg #[.int .i64 p, .int .i64 k, .int .i64 g, .int .i64 L.data, .int .i64 L.checks, .int .i64 L.count]) ∧ Below w.heap.size w w' := by
  have hbd := elems_bd h hn
  obtain ⟨E, hE⟩ : ∃ E, E = Fam.elems ⟨nm, kd, p, k, g, szs, cl, lvs⟩ n := ⟨_, rfl⟩
  have HEe := Lib.hid hE
  rw [← hE] at hbd
  obtain ⟨h1, h2, h3, -, -⟩ := fam_ok h
  have HF := Lib.hid (fv_of h1)
  have hq := HF.out.fd.q_bd
  obtain ⟨Q, hQ⟩ : ∃ Q, Q = (bF k.toNat g.toNat).q := ⟨_, rfl⟩
  have HQ := Lib.hid hQ
  rw [← hQ] at hq
  obtain ⟨lv, rfl⟩ := Int.eq_ofNat_of_zero_le hl.1
  have hll : lv < lvs.length := by omega
  have hlvi : (lv : Int) < (lvs.length : Int) := hl.2
  obtain ⟨b1, o1, v, rfl, hv, hlb, hc1⟩ := hx.at hll
  have hvb := ris_in h3 (List.mem_of_getElem? hv)
  have HX := Lib.hid hx
  -- the numbers
  have hm : (if (255 : Int) < (Q : Int) - 1 then 255 else (Q : Int) - 1) = (Q : Int) - 1 := by rw [if_neg (by omega)]
  obtain ⟨C, hC⟩ : ∃ C, (E + ((Q : Int) - 1) - 1) / ((Q : Int) - 1) = C := ⟨_, rfl⟩
  have hCb : 1 ≤ C ∧ C ≤ 1700 := by
    rw [← hC]
    refine ⟨(Int.le_ediv_iff_mul_le (by omega)).2 (by omega), Int.le_trans (Int.ediv_le_self _ (by omega)) (by omega)⟩
  have hTb : 3 * 1 ≤ E * v ∧ E * v ≤ 1408 * 80 := ⟨Int.mul_le_mul hbd.1 hvb.1 (by omega) (by omega), Int.mul_le_mul hbd.2 hvb.2 (by omega) (by omega)⟩
  obtain ⟨T, hT⟩ : ∃ T, E * v = T := ⟨_, rfl⟩
  rw [hT] at hTb
  have hw1 : wrap64 (E * v) = T := by rw [hT]; unfold wrap64; omega
  obtain ⟨X, hX⟩ : ∃ X, T / 100 / C = X := ⟨_, rfl⟩
  have hXb : 0 ≤ X ∧ X ≤ 112640 := by
    rw [← hX]
    refine ⟨Int.ediv_nonneg (by omega) (by omega), Int.le_trans (Int.ediv_le_self _ (by omega)) (by omega)⟩
  obtain ⟨Y, hY⟩ : ∃ Y, (if 2 < X then X else 2) = Y := ⟨_, rfl⟩
  have hYb : 2 ≤ Y ∧ Y ≤ 112640 := by rw [← hY]; split <;> omega
  obtain ⟨K, hK⟩ : ∃ K, (if Y < 64 then Y else 64) = K := ⟨_, rfl⟩
  have hKb : 2 ≤ K ∧ K ≤ 64 := by rw [← hK]; split <;> omega
  have hRb : 1 * 2 ≤ C * K ∧ C * K ≤ 1700 * 64 := ⟨Int.mul_le_mul hCb.1 hKb.1 (by omega) (by omega), Int.mul_le_mul hCb.2 hKb.2 (by omega) (by omega)⟩
  obtain ⟨R, hR⟩ : ∃ R, C * K = R := ⟨_, rfl⟩
  rw [hR] at hRb
  have hw2 : wrap64 (C * K) = R := by rw [hR]; unfold wrap64; omega
  have HL := Lib.hid (show L = ⟨E - R, K, C⟩ by
    have e0 : ((2 ^ k.toNat : Nat) : Int) = (Q : Int) := by rw [hQ]; rfl
    have e1 : lvs.getD (((lv : Nat) : Int)).toNat 0 = v := by rw [Int.toNat_natCast, List.getD_eq_getElem?_getD, hv]; rfl
    rw [← hL]
    unfold Fam.lay
    dsimp only
    rw [← hE, e0, e1, if_pos (by omega), hC, hT, hX]
    have e3 : (if 2 ≤ (if X ≤ 64 then X else 64) then (if X ≤ 64 then X else 64) else 2) = K := by
      rw [← hK, ← hY]
      repeat' split
      all_goals omega
    rw [e3, hR])
  rw [HL.out]
  dsimp only
  have HH := Lib.hid h
  have HN := Lib.hid hn
  have HSZ : Hid (∀ w : World, Calls Tryz.prog 122 #[.agg #[.int .i64 p, .int .i64 k, .int .i64 g]] w fun e w' => e = .returned (.int .i64 (Q : Int)) ∧ Below w.heap.size w w') := Lib.hid (fun w => by
    have h1 := spSize_any _ HF.out.r.toFdB w
    rw [← HF.out.v, ← HQ.out] at h1
    exact h1)
  clear h hn h1 h2 h3 hx hv hQ hE hL hT hR
  go_enter Tryz.func110, Tryz.ntmps110
  go_wp2_with fail
  refine (spElements_any nm kd p k g a1 szs c1 cl _ lvs c2 n _ HH.out HN.out).mono ?_
  rintro e w1 ⟨rfl, hb1⟩
  rw [← HEe.out]
  have e2 := heap2 w (.cells #[.string nm, .int .i64 kd, .int .i64 p, .int .i64 k, .int .i64 g, .slice a1 szs.length c1, .int .i64 cl, .slice (some ⟨b1, o1, none⟩) lvs.length c2] 123 (0, 0)) (.cells #[.int .i64 0, .int .i64 0, .int .i64 0, .int .i64 0, .int .i64 0, .int .i64 0] 146 (0, 0))
  have k1 := blkK hb1 e2.1
  have k2 := blkK hb1 e2.2
  have K1 := Lib.hid k1
  have K2 := Lib.hid k2
  obtain ⟨hcA, hfA⟩ := heap_cellR k1
  have HB1 := Lib.hid (bt2 hb1)
  have z1 := blkLt k1
  clear hb1 e2 k1 k2
  go_wp2_with fail
  refine (HSZ.out w1).mono ?_
  rintro e w2 ⟨rfl, hb2⟩
  have k1 := blkK hb2 K1.out
  have k2 := blkK hb2 K2.out
  have HB2 := Lib.hid (bt0 HB1.out hb2 (Nat.le_refl _))
  have hc2 := (HB2.out.cell (p := ⟨b1, o1 + lv, none⟩) hlb).trans hc1
  clear hcA hfA hc1
  obtain ⟨hcA, hfA⟩ := heap_cellR k1
  obtain ⟨hcB, hfB⟩ := heap_cellR k2
  have y1 := blkLt k1
  have y2 := blkLt k2
  clear hb2 k1 k2
  go_wp2_with fail
  refine bodyPost_ret (v := .agg #[.int .i64 p, .int .i64 k, .int .i64 g, .int .i64 (E - R), .int .i64 K, .int .i64 C]) (by simp [results, Tryz.results110, go_sem, hcB]) rfl ⟨rfl, ?_⟩
  iterate 6 (refine Below.setCell ?_ (by dsimp only; omega) _)
  exact HB2.out

end Go.Proofs.YtlcglclojlffgaaGreatDoor
namespace Go.Proofs.YtlcglclojlffgaaGreatDoor
open Go.RowKit

set_option maxRecDepth 100000 in
set_option maxHeartbeats 4000000 in
theorem spLayoutOf_any (nm : ByteArray) (kd p k g : Int) (a1 : Option Addr) (szs : List Int) (c1 : Nat) (cl : Int) (a2 : Option Addr) (lvs : List Int) (c2 : Nat) (n lev : Int) (w : World) (h1 : IntsAt w a1 szs) (h2 : IntsAt w a2 lvs) (l1 : szs.length ≤ 1048576) (l2 : lvs.length ≤ 1048576) (ln : nm.size ≤ 1048576) :
    Calls Tryz.prog 91 #[(.agg #[.string nm, .int .i64 kd, .int .i64 p, .int .i64 k, .int .i64 g, .slice a1 szs.length c1, .int .i64 cl, .slice a2 lvs.length c2]), .int .i64 n, .int .i64 lev] w fun e w' => e = .returned (.tuple #[layA ⟨nm, kd, p, k, g, szs, cl, lvs⟩ n lev, .int .i64 (layC ⟨nm, kd, p, k, g, szs, cl, lvs⟩ n lev)]) ∧ Below w.heap.size w w' := by
  have H1 := Lib.hid h1
  have H2 := Lib.hid h2
  obtain ⟨fam, hfam⟩ : ∃ f, f = Fam.mk nm kd p k g szs cl lvs := ⟨_, rfl⟩
  have HFM := Lib.hid hfam
  have HFI := Lib.hid (fun w (h1 : IntsAt w a1 szs) (h2 : IntsAt w a2 lvs) => spCode_any nm kd p k g a1 szs c1 cl a2 lvs c2 n w h1 h2 l1 l2 ln)
  rw [← hfam] at HFI ⊢
  obtain ⟨cd, hcd⟩ : ∃ cd, cd = layC fam n lev := ⟨_, rfl⟩
  obtain ⟨vA, hvA⟩ : ∃ vA, vA = layA fam n lev := ⟨_, rfl⟩
  rw [← hcd, ← hvA]
  have HCD := Lib.hid hcd
  have HVA := Lib.hid hvA
  have HNO : Hid (layC fam n lev ≠ 0 → vA = .agg #[.int .i64 0, .int .i64 0, .int .i64 0, .int .i64 0, .int .i64 0, .int .i64 0]) := Lib.hid (fun h => by rw [hvA, layA, if_neg h])
  clear h1 h2 hfam hcd hvA
  go_enter Tryz.func91, Tryz.ntmps91
  go_wp2_with fail
  have e2 := heap2 w (.cells #[.string nm, .int .i64 kd, .int .i64 p, .int .i64 k, .int .i64 g, .slice a1 szs.length c1, .int .i64 cl, .slice a2 lvs.length c2] 123 (0, 0)) (.cells #[.int .i64 0, .int .i64 0, .int .i64 0, .int .i64 0, .int .i64 0, .int .i64 0] 146 (0, 0))
  refine (HFI.out _ (H1.out.below (ba2 _ _ _)) (H2.out.below (ba2 _ _ _))).mono ?_
  rintro e w1 ⟨rfl, hb1⟩
  have K1 := Lib.hid (blkK hb1 e2.1)
  have K2 := Lib.hid (blkK hb1 e2.2)
  have HB1 := Lib.hid (bt2 hb1)
  clear hb1 e2
  obtain ⟨hcA, hfA⟩ := heap_cellR K1.out
  obtain ⟨hcB, hfB⟩ := heap_cellR K2.out
  have z1 := blkLt K1.out
  have z2 := blkLt K2.out
  rcases Bool.eq_false_or_eq_true fam.ok with ho | ho
  · rcases Bool.eq_false_or_eq_true (hasI szs n) with hs | hs
    · rw [show famC fam n = 0 by rw [famC, if_pos ho, HFM.out, if_pos hs]]
      have hw : wrap64 ((lvs.length : Int) - 1) = (lvs.length : Int) - 1 := by unfold wrap64; omega
      go_wp2_with fail
      refine (spIn_any lev 0 ((lvs.length : Int) - 1) w1).mono ?_
      rintro e w2 ⟨rfl, rfl⟩
      rcases Bool.eq_false_or_eq_true (inB lev 0 ((lvs.length : Int) - 1)) with hv | hv
      · rw [hv]
        have HLi := Lib.hid (show 0 ≤ lev ∧ lev < lvs.length by have := inB_iff.1 hv; omega)
        have hfo : Fam.ok ⟨nm, kd, p, k, g, szs, cl, lvs⟩ = true := by rw [← HFM.out]; exact ho
        obtain ⟨hfb, -⟩ := fam_ok hfo
        have HF := Lib.hid (fv_of hfb)
        have HO := Lib.hid hfo
        have HS := Lib.hid hs
        obtain ⟨L, hL⟩ : ∃ L, fam.lay n lev = L := ⟨_, rfl⟩
        have HLe := Lib.hid hL
        have HQe := Lib.hid (show ((2 ^ fam.fk.toNat : Nat) : Int) = ((bF k.toNat g.toNat).q : Int) by rw [HFM.out]; rfl)
        have HC0 := Lib.hid (show layC fam n lev = if L.ok ((bF k.toNat g.toNat).q : Int) = true then 0 else 3 by rw [layC, if_pos ho, if_pos (by rw [HFM.out]; exact ⟨hs, hv⟩), hL, HQe.out])
        clear hfo hfb hL hw hs ho hv
        go_wp2_with fail
        refine (spLayout_any nm kd p k g a1 szs c1 cl a2 lvs c2 n lev w1 HO.out HS.out HLi.out (H2.out.below HB1.out) L (by rw [← HFM.out]; exact HLe.out)).mono ?_
        rintro e w4 ⟨rfl, hb4⟩
        have K7 := Lib.hid (blkK hb4 K2.out)
        have HB4 := Lib.hid (bt0 HB1.out hb4 (Nat.le_refl _))
        clear hb4 hcA hfA hcB hfB
        have z7 := blkLt K7.out
        go_wp2_with fail
        refine (spIsLayout_any HF.out L.data L.checks L.count _).mono ?_
        rw [show Lay.mk L.data L.checks L.count = L from rfl]
        rintro e w5 ⟨rfl, hb5⟩
        have K8 := Lib.hid (blkK hb5 ((blkK (ba1 _ _) K7.out)))
        have HB5 := Lib.hid (bt0 (bt0 HB4.out (ba1 _ _) (Nat.le_refl _)) hb5 (Nat.le_refl _))
        have K9 := Lib.hid (blkK hb5 (push_at w4 (.cells #[.int .i64 p, .int .i64 k, .int .i64 g, .int .i64 L.data, .int .i64 L.checks, .int .i64 L.count] 146 (0, 0))))
        clear hb5
        obtain ⟨hcB, hfB⟩ := heap_cellR K8.out
        obtain ⟨hcC, hfC⟩ := heap_cellR K9.out
        have z8 := blkLt K8.out
        have z9 := blkLt K9.out
        rcases Bool.eq_false_or_eq_true (L.ok ((bF k.toNat g.toNat).q : Int)) with hl | hl
        · have HC := Lib.hid (show layC fam n lev = 0 by rw [HC0.out, if_pos hl])
          have HV := Lib.hid (show vA = .agg #[.int .i64 p, .int .i64 k, .int .i64 g, .int .i64 L.data, .int .i64 L.checks, .int .i64 L.count] by rw [HVA.out, layA, if_pos HC.out, HLe.out, HFM.out])
          rw [hl]
          go_wp2_with fail
          refine bodyPost_ret (v := .tuple #[.agg #[.int .i64 p, .int .i64 k, .int .i64 g, .int .i64 L.data, .int .i64 L.checks, .int .i64 L.count], .int .i64 0]) (by simp [results, Tryz.results91, go_sem, hcB]) rfl ⟨by rw [HCD.out, HV.out, HC.out], ?_⟩
          iterate 6 (refine Below.setCell ?_ (by dsimp only; omega) _)
          exact HB5.out
        · have HC := Lib.hid (show layC fam n lev = 3 by rw [HC0.out, if_neg (by rw [hl]; decide)])
          rw [hl]
          go_wp2_with fail
          refine bodyPost_ret (v := .tuple #[.agg #[.int .i64 0, .int .i64 0, .int .i64 0, .int .i64 0, .int .i64 0, .int .i64 0], .int .i64 3]) (by simp [results, Tryz.results91, go_sem, hcB]) rfl ⟨by rw [HCD.out, HNO.out (by rw [HC.out]; decide), HC.out], ?_⟩
          iterate 6 (refine Below.setCell ?_ (by dsimp only; omega) _)
          exact HB5.out
      · rw [hv]
        have HC := Lib.hid (show layC fam n lev = 2 by rw [layC, if_pos ho, if_neg (by rw [HFM.out]; simp [hv])])
        have hcz : w.heap.size ≤ w.heap.size + 1 := by omega
        go_wp2_with fail
        refine bodyPost_ret (v := .tuple #[.agg #[.int .i64 0, .int .i64 0, .int .i64 0, .int .i64 0, .int .i64 0, .int .i64 0], .int .i64 2]) (by simp [results, Tryz.results91, go_sem, hcB]) rfl ⟨by rw [HCD.out, HNO.out (by rw [HC.out]; decide), HC.out], ?_⟩
        iterate 6 (refine Below.setCell ?_ (by dsimp only; omega) _)
        exact HB1.out
    · rw [show famC fam n = 2 by rw [famC, if_pos ho, HFM.out, if_neg (by rw [hs]; decide)]]
      have HC := Lib.hid (show layC fam n lev = 2 by rw [layC, if_pos ho, if_neg (by rw [HFM.out]; simp [hs])])
      go_wp2_with fail
      refine bodyPost_ret (v := .tuple #[.agg #[.int .i64 0, .int .i64 0, .int .i64 0, .int .i64 0, .int .i64 0, .int .i64 0], .int .i64 2]) (by simp [results, Tryz.results91, go_sem, hcB]) rfl ⟨by rw [HCD.out, HNO.out (by rw [HC.out]; decide), HC.out], ?_⟩
      iterate 6 (refine Below.setCell ?_ (by dsimp only; omega) _)
      exact HB1.out
  · rw [show famC fam n = 1 by rw [famC, if_neg (by rw [ho]; decide)]]
    have HC := Lib.hid (show layC fam n lev = 1 by rw [layC, if_neg (by rw [ho]; decide)])
    go_wp2_with fail
    refine bodyPost_ret (v := .tuple #[.agg #[.int .i64 0, .int .i64 0, .int .i64 0, .int .i64 0, .int .i64 0, .int .i64 0], .int .i64 1]) (by simp [results, Tryz.results91, go_sem, hcB]) rfl ⟨by rw [HCD.out, HNO.out (by rw [HC.out]; decide), HC.out], ?_⟩
    iterate 6 (refine Below.setCell ?_ (by dsimp only; omega) _)
    exact HB1.out

end Go.Proofs.YtlcglclojlffgaaGreatDoor
namespace Go.Proofs.YtlcglclojlffgaaGreatDoor
open Go.RowKit

/-! A region that draws its order and holds one operation (number c) that changes what is said of the world: it is met once. It may leave by a panic. -/
variable {P : Program} {ops : Array Oper} {Q : Exit → Act → World → Prop}

/-- operation i waits for operation j, perhaps by way of others -/
def waits (ops : Array Oper) : Nat → Nat → Nat → Bool
  | 0, _, _ => false
  | f + 1, i, j => match ops[i]? with
    | none => false
    | some o => o.after.any fun e => Region.binds .any e && (e.on == j || waits ops f e.on j)
def rgOkO (ops : Array Oper) (m : Nat) (ds : List Nat) (sup : Nat → List Nat) : Bool :=
  (List.range ops.size).all fun j => match ops[j]? with
    | none => true
    | some o =>
      (decide (m ≤ j) || ((match o.dst with | some d => ds.contains d | none => true) &&
        (sup j).all fun t => (List.range ops.size).all fun i => match ops[i]? with
          | none => true
          | some oi => oi.dst != some t || i == j || o.after.any fun e => Region.binds .any e && e.on == i)) &&
      (decide (j < m) || (List.range j).all (fun i => waits ops ops.size j i)) && o.after.all fun e => !Region.binds .any e || decide (e.on < j)
theorem waits_first {f i j : Nat} {o : Oper} (ho : ops[i]? = some o) (h : waits ops f i j = true) : ∃ e ∈ o.after, Region.binds .any e = true ∧ (e.on = j ∨ ∃ f', waits ops f' e.on j = true) := by
  cases f with
  | zero => simp [waits] at h
  | succ f =>
    rw [waits, ho] at h
    obtain ⟨e, he, hee⟩ := Array.any_eq_true'.1 h
    simp only [Bool.and_eq_true, Bool.or_eq_true, beq_iff_eq] at hee
    exact ⟨e, he, hee.1, hee.2.imp id (fun h => ⟨f, h⟩)⟩
theorem waits_lt {m : Nat} {ds : List Nat} {sup : Nat → List Nat} (hB : rgOkO ops m ds sup = true) : ∀ (f i j : Nat), waits ops f i j = true → j < i
  | 0, i, j, h => by simp [waits] at h
  | f + 1, i, j, h => by
    cases ho : ops[i]? with
    | none => rw [waits, ho] at h; cases h
    | some o =>
      rw [waits, ho] at h
      obtain ⟨e, he, hee⟩ := Array.any_eq_true'.1 h
      simp only [Bool.and_eq_true, Bool.or_eq_true, beq_iff_eq] at hee
      have hlt : i < ops.size := (Array.getElem?_eq_some_iff.1 ho).1
      have := List.all_eq_true.1 hB i (List.mem_range.2 hlt)
      simp only [ho, Bool.and_eq_true] at this
      have h2 := Array.all_eq_true'.1 this.2 e he
      simp only [hee.1, Bool.not_true, Bool.or_eq_true, Bool.false_eq_true, false_or, decide_eq_true_eq] at h2
      rcases hee.2 with h3 | h3
      · omega
      · have := waits_lt hB f e.on j h3
        omega
theorem waits_listed {L : Nat → Bool} (hc : ∀ j o, ops[j]? = some o → L j = true → ∀ e ∈ o.after, Region.binds .any e = true → L e.on = true) : ∀ (f i j : Nat), waits ops f i j = true → L i = true → L j = true
  | 0, i, j, h, _ => by simp [waits] at h
  | f + 1, i, j, h, hi => by
    cases ho : ops[i]? with
    | none => rw [waits, ho] at h; cases h
    | some o =>
      rw [waits, ho] at h
      obtain ⟨e, he, hee⟩ := Array.any_eq_true'.1 h
      simp only [Bool.and_eq_true, Bool.or_eq_true, beq_iff_eq] at hee
      have h1 := hc i o ho hi e he hee.1
      rcases hee.2 with h3 | h3
      · rw [← h3]; exact h1
      · exact waits_listed hc f e.on j h3 h1

/-- the tail, in its one order -/
theorem wpAny_tailO {m : Nat} {ds : List Nat} {sup : Nat → List Nat} (hB : rgOkO ops m ds sup = true) : ∀ (r k : Nat) (listed : Array Bool) (a : Act) (w : World), m ≤ k → k + r = ops.size →
    (∀ j, j < ops.size → listed.getD j true = decide (j < k)) → listed.size = ops.size → ∀ fuel, r ≤ fuel → wpOps P ops Q (List.range' k r) a w → wpAny P .any ops Q fuel listed a w
  | 0, k, listed, a, w, hm, hk, hl, hs, fuel, hf, h => by
    have hr : Region.ready .any ops listed = [] := by
      rw [List.eq_nil_iff_forall_not_mem]
      intro j hj
      obtain ⟨h1, o, ho, _⟩ := mem_ready.1 hj
      have hlt : j < ops.size := (Array.getElem?_eq_some_iff.1 ho).1
      rw [hl j hlt] at h1
      simp at h1; omega
    have hq : Q .normal a w := h
    cases fuel with
    | zero => exact ⟨hr, hq⟩
    | succ f => exact ⟨fun _ => hq, fun i hi => by rw [hr] at hi; cases hi⟩
  | r + 1, k, listed, a, w, hm, hk, hl, hs, fuel, hf, h => by
    have hkn : k < ops.size := by omega
    have hready : ∀ j ∈ Region.ready .any ops listed, j = k := by
      intro j hj
      obtain ⟨h1, o, ho, hdep⟩ := mem_ready.1 hj
      have hlt : j < ops.size := (Array.getElem?_eq_some_iff.1 ho).1
      rw [hl j hlt] at h1
      have hjk : k ≤ j := by simpa using h1
      rcases Nat.lt_or_ge k j with hlt' | hge
      · exfalso
        have hb := List.all_eq_true.1 hB j (List.mem_range.2 hlt)
        simp only [ho, Bool.and_eq_true, Bool.or_eq_true, decide_eq_true_eq] at hb
        rcases hb.1.2 with hb2 | hb2
        · omega
        · have := List.all_eq_true.1 hb2 k (List.mem_range.2 hlt')
          obtain ⟨e, he, hbind, hee⟩ := waits_first ho this
          have hd := hdep e he hbind
          have hek : e.on = k := by
            rcases hee with h | ⟨f', h⟩
            · exact h
            · exfalso
              have h4 := waits_lt hB f' e.on k h
              have h5 : e.on < ops.size := by
                have := List.all_eq_true.1 hB j (List.mem_range.2 hlt)
                simp only [ho, Bool.and_eq_true] at this
                have h2 := Array.all_eq_true'.1 this.2 e he
                simp only [hbind, Bool.not_true, Bool.or_eq_true, Bool.false_eq_true, false_or, decide_eq_true_eq] at h2
                omega
              have h6 := hl e.on h5
              rw [getD_toList] at h6 hd
              rw [List.getD_eq_getElem?_getD] at h6 hd
              cases hx : listed.toList[e.on]? with
              | none => rw [hx] at hd; simp at hd
              | some b => rw [hx] at h6 hd; simp at h6 hd; rw [hd] at h6; simp at h6; omega
          rw [hek] at hd
          have := hl k hkn
          rw [getD_toList] at this hd
          rw [List.getD_eq_getElem?_getD] at this hd
          cases hx : listed.toList[k]? with
          | none => rw [hx] at hd; simp at hd
          | some b => rw [hx] at this hd; simp at this hd; rw [this] at hd; cases hd
      · omega
    cases fuel with
    | zero => omega
    | succ f =>
      refine ⟨fun h0 => ?_, fun i hi => ?_⟩
      · exfalso
        obtain ⟨o, ho⟩ : ∃ o, ops[k]? = some o := ⟨ops[k], Array.getElem?_eq_getElem hkn⟩
        have : k ∈ Region.ready .any ops listed := by
          refine mem_ready.2 ⟨?_, o, ho, ?_⟩
          · rw [hl k hkn]; simp
          · intro e he hbind
            have hb := List.all_eq_true.1 hB k (List.mem_range.2 hkn)
            simp only [ho, Bool.and_eq_true, Bool.or_eq_true, decide_eq_true_eq] at hb
            · have h2 := Array.all_eq_true'.1 hb.2 e he
              simp only [hbind, Bool.not_true, Bool.or_eq_true, Bool.false_eq_true, false_or, decide_eq_true_eq] at h2
              have := hl e.on (by omega)
              rw [getD_toList, List.getD_eq_getElem?_getD] at this ⊢
              cases hx : listed.toList[e.on]? with
              | none =>
                have := List.getElem?_eq_none_iff.1 hx
                simp [hs] at this; omega
              | some b => rw [hx] at this; simp at this; simp [this]; exact h2
        rw [h0] at this; cases this
      · obtain rfl := hready i hi
        rw [List.range'_succ, wpOps_cons] at h
        refine wpOp_mono (fun a' w' h' => ?_) h
        refine wpAny_tailO hB r (i + 1) _ a' w' (by omega) (by omega) ?_ (by simpa using hs) f (by omega) h'
        intro j hj
        by_cases e : i = j
        · subst e
          rw [getD_toList, Array.toList_setIfInBounds, List.getD_eq_getElem?_getD, List.getElem?_set]
          simp [hs, hj]
        · rw [getD_toList, Array.toList_setIfInBounds, List.getD_eq_getElem?_getD, List.getElem?_set, if_neg e, ← List.getD_eq_getElem?_getD, ← getD_toList, hl j hj]
          simp; omega


/-- what stands while the head is under way -/
structure UnderO (ops : Array Oper) (m : Nat) (a0 : Act) (ds : List Nat) (G : Nat → (Nat → Value) → World → Prop) (St : (Nat → Bool) → World → Prop) (listed : Array Bool) (a : Act) (w : World) : Prop where
  size : listed.size = ops.size
  tail : ∀ j, m ≤ j → j < ops.size → listed.getD j true = false
  closed : ∀ j o, ops[j]? = some o → listed.getD j false = true → ∀ e ∈ o.after, Region.binds .any e = true → listed.getD e.on false = true
  st : St (fun j => listed.getD j false) w
  left : ∃ us, a = over a0 ds us ∧ ∀ j, j < m → listed.getD j false = true → G j us w

/-- what one operation of the head owes: IN EVERY FRAME AND WORLD in which what it waits for stands, it leaves what is said of it, and does away with nothing -/
def OwesO (P : Program) (ops : Array Oper) (Q : Exit → Act → World → Prop) (a0 : Act) (ds : List Nat) (G : Nat → (Nat → Value) → World → Prop) (St : (Nat → Bool) → World → Prop) (Keep : World → World → Prop) (i : Nat) (o : Oper) : Prop :=
  ∀ (us : Nat → Value) (w : World) (L : Nat → Bool), L i = false → St L w → (∀ e ∈ o.after, Region.binds .any e = true → L e.on = true ∧ G e.on us w) →
    if Region.wanted o (yielded ops (over a0 ds us).tmps) then o.wp P (over a0 ds us) w (fun a' w' => ∃ v, a' = (over a0 ds us).put o.dst v ∧ St (fun j => L j || i == j) w' ∧ Keep w w' ∧ G i (upd us o.dst v) w') Q
    else St (fun j => L j || i == j) w ∧ G i (upd us o.dst undef) w

theorem wpAny_headO {m : Nat} {a0 : Act} {ds : List Nat} {sup : Nat → List Nat} {G : Nat → (Nat → Value) → World → Prop} {St : (Nat → Bool) → World → Prop} {Keep : World → World → Prop} (hB : rgOkO ops m ds sup = true) (hm : m ≤ ops.size)
    (hkeep : ∀ j us w w', j < m → Keep w w' → G j us w → G j us w') (hrefl : ∀ w, Keep w w) (hsup : ∀ j us us' w, j < m → (∀ t ∈ sup j, us t = us' t) → G j us w → G j us' w)
    (howe : ∀ i o, i < m → ops[i]? = some o → OwesO P ops Q a0 ds G St Keep i o)
    (hend : ∀ us w L, (∀ j, j < m → L j = true) → St L w → (∀ j, j < m → G j us w) → wpOps P ops Q (List.range' m (ops.size - m)) (over a0 ds us) w) :
    ∀ (fuel : Nat) (listed : Array Bool) (a : Act) (w : World), unl listed.toList ≤ fuel → UnderO ops m a0 ds G St listed a w → wpAny P .any ops Q fuel listed a w := by
  have hdepOk : ∀ j o, j < m → ops[j]? = some o → (∀ d, o.dst = some d → ds.contains d = true) ∧ ∀ t ∈ sup j, ∀ i oi, ops[i]? = some oi → oi.dst = some t → i = j ∨ ∃ e ∈ o.after, Region.binds .any e = true ∧ e.on = i := by
    intro j o hj ho
    have hlt : j < ops.size := (Array.getElem?_eq_some_iff.1 ho).1
    have hb := List.all_eq_true.1 hB j (List.mem_range.2 hlt)
    simp only [ho, Bool.and_eq_true, Bool.or_eq_true, decide_eq_true_eq] at hb
    rcases hb.1.1 with h | h
    · omega
    · refine ⟨?_, ?_⟩
      · intro d hd
        have := h.1
        rw [hd] at this
        exact this
      · intro t ht i oi hi hd
        have h2 := List.all_eq_true.1 (List.all_eq_true.1 h.2 t ht) i (List.mem_range.2 (Array.getElem?_eq_some_iff.1 hi).1)
        simp only [hi, Bool.or_eq_true, bne_iff_ne, beq_iff_eq, hd] at h2
        rcases h2 with (h2 | h2) | h2
        · exact absurd rfl h2
        · exact Or.inl h2
        · obtain ⟨e, he, hee⟩ := Array.any_eq_true'.1 h2
          simp only [Bool.and_eq_true, beq_iff_eq] at hee
          exact Or.inr ⟨e, he, hee.1, hee.2⟩
  have step : ∀ (fuel : Nat) (listed : Array Bool) (a : Act) (w : World), unl listed.toList ≤ fuel → UnderO ops m a0 ds G St listed a w →
      (∀ j, j < m → listed.getD j true = true) → wpAny P .any ops Q fuel listed a w := by
    intro fuel listed a w hf U hall
    obtain ⟨us, rfl, hG⟩ := U.left
    have hx : ∀ j, j < m → listed.getD j false = true := by
      intro j hj
      have := hall j hj
      rw [getD_toList, List.getD_eq_getElem?_getD] at this ⊢
      cases hy : listed.toList[j]? with
      | none =>
        have h1 := List.getElem?_eq_none_iff.1 hy
        have := U.size
        simp at h1; omega
      | some b => rw [hy] at this; simpa using this
    have hr : ops.size - m ≤ fuel := by
      refine Nat.le_trans ?_ hf
      have : ∀ (n : Nat) (l : List Bool), (∀ j, n ≤ j → j < l.length → l.getD j true = false) → l.length - n ≤ unl l := by
        intro n l
        induction l generalizing n with
        | nil => intro _; simp
        | cons b r ih =>
          intro hb
          cases n with
          | zero =>
            have h0 := hb 0 (Nat.le_refl _) (by simp)
            have h1 := ih 0 (fun j _ hj => by have := hb (j + 1) (by omega) (by simpa using hj); simpa using this)
            simp at h0
            subst h0
            simp [unl] at h1 ⊢; omega
          | succ n =>
            have h1 := ih n (fun j hj hj' => by have := hb (j + 1) (by omega) (by simpa using hj'); simpa using this)
            simp only [unl, List.length_cons]; omega
      have h2 := this m listed.toList (fun j hj hj' => by rw [← getD_toList]; exact U.tail j hj (by have := U.size; simp at hj'; omega))
      have := U.size
      simp at h2; omega
    refine wpAny_tailO hB (ops.size - m) m listed _ w (Nat.le_refl _) (by omega) ?_ U.size fuel hr (hend us w _ hx U.st (fun j hj => hG j hj (hx j hj)))
    intro j hj
    rcases Nat.lt_or_ge j m with h | h
    · rw [hall j h]; simp [h]
    · rw [U.tail j h hj]; simp; omega
  intro fuel
  induction fuel with
  | zero =>
    intro listed a w hf U
    exact step 0 listed a w hf U (fun j _ => by rw [getD_toList]; exact unl_zero _ (by omega) j)
  | succ fuel ih =>
    intro listed a w hf U
    by_cases hall : ∀ j, j < m → listed.getD j true = true
    · exact step _ listed a w hf U hall
    · obtain ⟨us, rfl, hG⟩ := U.left
      have hnot : ∃ j, j < m ∧ listed.getD j true = false := by
        apply Classical.byContradiction
        intro hn
        apply hall
        intro j hj
        cases hx : listed.getD j true with
        | true => rfl
        | false => exact absurd ⟨j, hj, hx⟩ hn
      refine ⟨fun h0 => ?_, fun i hi => ?_⟩
      · -- the least that is not listed may come up
        have least : ∀ n j, j ≤ n → j < m → listed.getD j true = false → False := by
          intro n
          induction n with
          | zero =>
            intro j hj hjm hjl
            obtain rfl : j = 0 := by omega
            obtain ⟨oj, hoj⟩ : ∃ oj, ops[0]? = some oj := ⟨ops[0], Array.getElem?_eq_getElem (by omega)⟩
            have : 0 ∈ Region.ready .any ops listed := mem_ready.2 ⟨hjl, oj, hoj, fun e he hbind => by
              have hb := List.all_eq_true.1 hB 0 (List.mem_range.2 (by omega))
              simp only [hoj, Bool.and_eq_true] at hb
              have h2 := Array.all_eq_true'.1 hb.2 e he
              simp only [hbind, Bool.not_true, Bool.or_eq_true, Bool.false_eq_true, false_or, decide_eq_true_eq] at h2
              omega⟩
            rw [h0] at this; cases this
          | succ n ihn =>
            intro j hj hjm hjl
            obtain ⟨oj, hoj⟩ : ∃ oj, ops[j]? = some oj := ⟨ops[j], Array.getElem?_eq_getElem (by omega)⟩
            have : j ∈ Region.ready .any ops listed := mem_ready.2 ⟨hjl, oj, hoj, fun e he hbind => by
              have hb := List.all_eq_true.1 hB j (List.mem_range.2 (by omega))
              simp only [hoj, Bool.and_eq_true] at hb
              have h2 := Array.all_eq_true'.1 hb.2 e he
              simp only [hbind, Bool.not_true, Bool.or_eq_true, Bool.false_eq_true, false_or, decide_eq_true_eq] at h2
              cases hx : listed.getD e.on true with
              | false => exact (ihn e.on (by omega) (by omega) hx).elim
              | true =>
                rw [getD_toList, List.getD_eq_getElem?_getD] at hx ⊢
                cases hy : listed.toList[e.on]? with
                | none =>
                  have h4 := List.getElem?_eq_none_iff.1 hy
                  have := U.size
                  simp at h4; omega
                | some b => rw [hy] at hx; simpa using hx⟩
            rw [h0] at this; cases this
        obtain ⟨j, hj, hjl⟩ := hnot
        exact (least j j (Nat.le_refl _) hj hjl).elim
      · obtain ⟨h1, o, ho, hdep⟩ := mem_ready.1 hi
        have hlt : i < ops.size := (Array.getElem?_eq_some_iff.1 ho).1
        have him : i < m := by
          rcases Nat.lt_or_ge i m with h | h
          · exact h
          · exfalso
            obtain ⟨j, hj, hjl⟩ := hnot
            have hb := List.all_eq_true.1 hB i (List.mem_range.2 hlt)
            simp only [ho, Bool.and_eq_true, Bool.or_eq_true, decide_eq_true_eq] at hb
            rcases hb.1.2 with hb2 | hb2
            · omega
            · have := List.all_eq_true.1 hb2 j (List.mem_range.2 (by omega))
              obtain ⟨e, he, hbind, hee⟩ := waits_first ho this
              have hd0 := hdep e he hbind
              have hd : listed.getD j false = true := by
                rcases hee with h | ⟨f', h⟩
                · rw [← h]; exact hd0
                · exact waits_listed (L := fun j => listed.getD j false) U.closed f' e.on j h hd0
              rw [getD_toList, List.getD_eq_getElem?_getD] at hd hjl
              cases hx : listed.toList[j]? with
              | none => rw [hx] at hd; simp at hd
              | some b => rw [hx] at hd hjl; simp at hd hjl; rw [hd] at hjl; cases hjl
        obtain ⟨hds, hdp⟩ := hdepOk i o him ho
        have hil : listed.toList[i]? = some false := by
          rw [getD_toList, List.getD_eq_getElem?_getD] at h1
          cases hx : listed.toList[i]? with
          | none => rw [hx] at h1; simp at h1
          | some b => rw [hx] at h1; simp at h1; rw [h1]
        have hdm : ∀ e ∈ o.after, Region.binds .any e = true → e.on < m := by
          intro e he hbind
          have hd := hdep e he hbind
          rcases Nat.lt_or_ge e.on m with h | h
          · exact h
          · exfalso
            rcases Nat.lt_or_ge e.on ops.size with h2 | h2
            · have := U.tail e.on h h2
              rw [getD_toList, List.getD_eq_getElem?_getD] at this hd
              cases hx : listed.toList[e.on]? with
              | none => rw [hx] at hd; simp at hd
              | some b => rw [hx] at hd this; simp at hd this; rw [hd] at this; cases this
            · rw [getD_toList, List.getD_eq_getElem?_getD, List.getElem?_eq_none (by have := U.size; simp; omega)] at hd
              simp at hd
        have hcb : (fun j => (listed.setIfInBounds i true).getD j false) = (fun j => listed.getD j false || i == j) := by
          funext c
          by_cases ec : i = c
          · subst ec
            rw [getD_toList, Array.toList_setIfInBounds, List.getD_eq_getElem?_getD, List.getElem?_set, if_pos rfl]
            have := (List.getElem?_eq_some_iff.1 hil).1
            rw [if_pos this]; simp
          · rw [getD_set_other ec]; simp [ec]
        have next : ∀ v w', St (fun j => listed.getD j false || i == j) w' → Keep w w' → G i (upd us o.dst v) w' → wpAny P .any ops Q fuel (listed.setIfInBounds i true) ((over a0 ds us).put o.dst v) w' := by
          intro v w' hst hk hg
          refine ih _ _ _ ?_ ⟨by simpa using U.size, ?_, ?_, by rw [hcb]; exact hst, upd us o.dst v, over_put hds, ?_⟩
          · have := unl_set listed.toList i hil
            rw [Array.toList_setIfInBounds]; omega
          · intro j hj hj'
            rw [getD_set_other (by omega)]; exact U.tail j hj hj'
          · intro j oj hoj hlj e he hbind
            by_cases ej : i = j
            · subst ej
              rw [ho] at hoj
              cases hoj
              exact getD_set_true (hdep e he hbind)
            · rw [getD_set_other ej] at hlj
              exact getD_set_true (U.closed j oj hoj hlj e he hbind)
          · intro j hj hlj
            by_cases ej : i = j
            · subst ej; exact hg
            · rw [getD_set_other ej] at hlj
              refine hsup j us _ w' hj (fun t ht => ?_) (hkeep j us w w' hj hk (hG j hj hlj))
              symm
              refine upd_ne (fun hd => ?_)
              have hjs : j < ops.size := by omega
              obtain ⟨oj, hoj⟩ : ∃ oj, ops[j]? = some oj := ⟨ops[j], Array.getElem?_eq_getElem hjs⟩
              rcases (hdepOk j oj hj hoj).2 t ht i o ho hd with h | ⟨e, he, hbind, heq⟩
              · exact ej h
              · have := U.closed j oj hoj hlj e he hbind
                rw [heq, getD_toList, List.getD_eq_getElem?_getD, hil] at this
                simp at this
        have howes := howe i o him ho us w (fun j => listed.getD j false) (by rw [getD_toList, List.getD_eq_getElem?_getD, hil]; rfl) U.st (fun e he hbind => ⟨hdep e he hbind, hG e.on (hdm e he hbind) (hdep e he hbind)⟩)
        unfold wpOp
        rw [ho]
        simp only
        by_cases hw : Region.wanted o (yielded ops (over a0 ds us).tmps) = true
        · rw [if_pos hw] at howes ⊢
          refine Or.inl (Oper.wp_mono (fun a' w' h => ?_) howes)
          obtain ⟨v, rfl, hst, hk, hg⟩ := h
          exact next v w' hst hk hg
        · rw [if_neg hw] at howes ⊢
          exact next undef w howes.1 (hrefl w) howes.2


/-- the head's operations, one by one, each by its own walk -/
def rsAllO (P : Program) (l : List Oper) (Q : Exit → Act → World → Prop) (A : (Nat → Value) → Act) {Keep : World → World → Prop} (sp : List (Sp Keep)) (St : (Nat → Bool) → World → Prop) : Nat → List Oper → List (Sp Keep) → Prop
  | i, o :: r, s :: t => (∀ (us : Nat → Value) (w : World) (L : Nat → Bool), L i = false → St L w → (∀ e ∈ o.after, Region.binds .any e = true → L e.on = true ∧ depHolds l sp us w e.on) →
      Region.wanted o (yielded l.toArray (A us).tmps) = true ∧ o.wp P (A us) w (fun a' w' => ∃ v, a' = (A us).put o.dst v ∧ St (fun j => L j || i == j) w' ∧ Keep w w' ∧ s.holds v w') Q) ∧ rsAllO P l Q A sp St (i + 1) r t
  | _, _, _ => True

theorem rsAllO_at {P : Program} {l : List Oper} {Q : Exit → Act → World → Prop} {A : (Nat → Value) → Act} {Keep : World → World → Prop} {sp : List (Sp Keep)} {St : (Nat → Bool) → World → Prop} : ∀ (r : List Oper) (t : List (Sp Keep)) (k : Nat), rsAllO P l Q A sp St k r t → ∀ (i : Nat) (o : Oper) (s : Sp Keep), r[i]? = some o → t[i]? = some s →
    ∀ (us : Nat → Value) (w : World) (L : Nat → Bool), L (k + i) = false → St L w → (∀ e ∈ o.after, Region.binds .any e = true → L e.on = true ∧ depHolds l sp us w e.on) →
      Region.wanted o (yielded l.toArray (A us).tmps) = true ∧ o.wp P (A us) w (fun a' w' => ∃ v, a' = (A us).put o.dst v ∧ St (fun j => L j || (k + i) == j) w' ∧ Keep w w' ∧ s.holds v w') Q
  | [], _, _, _, i, o, s, h, _ => by simp at h
  | o' :: r, [], _, _, i, o, s, _, h => by simp at h
  | o' :: r, s' :: t, k, hall, 0, o, s, h, h2 => by
    simp at h h2; subst h; subst h2; exact hall.1
  | o' :: r, s' :: t, k, hall, i + 1, o, s, h, h2 => by
    have := rsAllO_at r t (k + 1) hall.2 i o s (by simpa using h) (by simpa using h2)
    rw [show k + 1 + i = k + (i + 1) by omega] at this
    exact this

/-- **A REGION THAT DRAWS ITS ORDER, one operation of which (number c) is met once and may panic.** -/
theorem wp_region_once {P : Program} {id : Nat} {l : List Oper} {Q : Exit → Act → World → Prop} {a0 : Act} {w0 : World} (ds : List Nat) (A : (Nat → Value) → Act) {Keep : World → World → Prop} (sp : List (Sp Keep)) (St : (Nat → Bool) → World → Prop)
    (hmix : P.follows .mixedOrders = true) (hB : rgOkO l.toArray sp.length ds (supOf l) = true) (hm : sp.length ≤ l.length) (hA : ∀ us, over a0 ds us = A us) (h0 : St (fun _ => false) w0.drew) (hrefl : ∀ w, Keep w w)
    (hall : rsAllO P l Q A sp St 0 (l.take sp.length) sp)
    (hend : ∀ us w L, (∀ j, j < sp.length → L j = true) → St L w → (∀ j, j < sp.length → depHolds l sp us w j) → wpList P l.toArray Q (l.drop sp.length) (A us) w) : (Code.region id l.toArray true).wp P Q a0 w0 := by
  refine wp_region_any hmix ?_
  refine wpAny_headO (a0 := a0) (ds := ds) (G := fun i us w => depHolds l sp us w i) (St := St) (Keep := Keep) hB (by simpa using hm) (fun j us w w' _ hk h => depHolds_kept hk h) hrefl (fun j us us' w _ he h => depHolds_sup he h) ?_ ?_ _ _ _ _ (by rw [Array.toList_replicate, unl_replicate]; exact Nat.le_refl _) ?_
  · intro i o hi ho us w L hb hst hd
    have ho1 : l[i]? = some o := by simpa using ho
    have ho' : (l.take sp.length)[i]? = some o := by rw [List.getElem?_take, if_pos hi]; exact ho1
    have hs : sp[i]? = some sp[i] := List.getElem?_eq_getElem hi
    have := rsAllO_at _ _ 0 hall i o sp[i] ho' hs us w L (by simpa using hb) hst hd
    rw [Nat.zero_add] at this
    rw [hA, if_pos this.1]
    refine Oper.wp_mono (fun a' w' h => ?_) this.2
    obtain ⟨v, ha, h1, h2, h3⟩ := h
    refine ⟨v, ha, h1, h2, ?_⟩
    unfold depHolds
    simp only [ho1, hs]
    cases hdst : o.dst with
    | none => trivial
    | some d => simpa [upd] using h3
  · intro us w L hL hst hg
    have := hend us w L hL hst hg
    rw [hA]
    have e := wpOps_eq_wpList (P := P) (ops := l.toArray) (Q := Q) (l.drop sp.length) sp.length (fun j => by simp [List.getElem?_drop])
    rw [List.length_drop] at e
    have e2 : l.toArray.size - sp.length = l.length - sp.length := by simp
    rw [e2, e]
    exact this
  · refine ⟨by simp, ?_, ?_, ?_, fun t => a0.tmps.getD t undef, ?_, ?_⟩
    · intro j _ hj
      rw [getD_toList, Array.toList_replicate, List.getD_eq_getElem?_getD, List.getElem?_replicate]
      simp at hj
      simp [hj]
    · intro j o _ hj
      rw [getD_toList, Array.toList_replicate, List.getD_eq_getElem?_getD, List.getElem?_replicate] at hj
      split at hj <;> simp at hj
    · have e : (fun j => (Array.replicate l.toArray.size false).getD j false) = (fun _ => false) := by
        funext c
        rw [getD_toList, Array.toList_replicate, List.getD_eq_getElem?_getD, List.getElem?_replicate]
        split <;> rfl
      rw [e]; exact h0
    · unfold over
      cases a0 with
      | mk tmps defers =>
        congr 1
        apply Array.ext_getElem?
        intro i
        rw [Array.getElem?_mapIdx]
        cases hx : tmps[i]? with
        | none => rfl
        | some v =>
          simp only [Option.map_some, Array.getD_eq_getD_getElem?, hx, Option.getD_some]
          split <;> rfl
    · intro j _ hj
      rw [getD_toList, Array.toList_replicate, List.getD_eq_getElem?_getD, List.getElem?_replicate] at hj
      split at hj <;> simp at hj

end Go.Proofs.YtlcglclojlffgaaGreatDoor
namespace Go.Proofs.YtlcglclojlffgaaGreatDoor
open Go.RowKit

/-- **A REGION THAT DRAWS ITS ORDER, as wp_region_rs; the tail may wait for the head by way of others.** -/
theorem wp_region_rt {P : Program} {id : Nat} {l : List Oper} {Q : Exit → Act → World → Prop} {a0 : Act} {w0 : World} (ds : List Nat) (A : (Nat → Value) → Act) {Keep : World → World → Prop} (sp : List (Sp Keep)) (St : World → Prop)
    (hmix : P.follows .mixedOrders = true) (hB : rgOkO l.toArray sp.length ds (supOf l) = true) (hm : sp.length ≤ l.length) (hA : ∀ us, over a0 ds us = A us) (h0 : St w0.drew) (hrefl : ∀ w, Keep w w)
    (hall : rsAll P l A sp St (l.take sp.length) sp)
    (hend : ∀ us w, St w → (∀ j, j < sp.length → depHolds l sp us w j) → wpList P l.toArray Q (l.drop sp.length) (A us) w) : (Code.region id l.toArray true).wp P Q a0 w0 := by
  have hrg := rg_of_rs (P := P) (l := l) (A := A) (sp := sp) (St := St) (l.take sp.length) sp 0 (by rw [List.length_take]; omega) (fun j hj => by
      have : j < (l.take sp.length).length := by
        apply Classical.byContradiction
        intro h
        rw [List.getElem?_eq_none (by omega)] at hj; cases hj
      rw [List.length_take] at this
      rw [Nat.zero_add, List.getElem?_take, if_pos (by omega)]) (fun j hj => by
      rw [List.length_take] at hj
      rw [Nat.zero_add, List.getElem?_take, if_pos (by omega)]) (fun j _ => by simp) hall
  refine wp_region_any hmix ?_
  refine wpAny_headO (a0 := a0) (ds := ds) (G := fun i us w => depHolds l sp us w i) (St := fun _ => St) (Keep := Keep) hB (by simpa using hm) (fun j us w w' _ hk h => depHolds_kept hk h) hrefl (fun j us us' w _ he h => depHolds_sup he h) ?_ ?_ _ _ _ _ (by rw [Array.toList_replicate, unl_replicate]; exact Nat.le_refl _) ?_
  · intro i o hi ho us w L hb hst hd
    have ho' : (l.take sp.length)[i]? = some o := by rw [List.getElem?_take, if_pos hi]; simpa using ho
    have := rgAll_at _ 0 hrg i o ho' us w hst (fun e he hb => (hd e he hb).2)
    rw [Nat.zero_add] at this
    rw [hA]
    by_cases hw : Region.wanted o (yielded l.toArray (A us).tmps) = true
    · rw [if_pos hw] at this ⊢
      exact wp_of_leaves (fun v w' h => ⟨v, rfl, h.1, h.2.1, h.2.2⟩) this
    · rw [if_neg hw] at this ⊢
      exact ⟨hst, this⟩
  · intro us w L hL hst hg
    have := hend us w hst hg
    rw [hA]
    have e := wpOps_eq_wpList (P := P) (ops := l.toArray) (Q := Q) (l.drop sp.length) sp.length (fun j => by simp [List.getElem?_drop])
    rw [List.length_drop] at e
    have e2 : l.toArray.size - sp.length = l.length - sp.length := by simp
    rw [e2, e]
    exact this
  · refine ⟨by simp, ?_, ?_, h0, fun t => a0.tmps.getD t undef, ?_, ?_⟩
    · intro j _ hj
      rw [getD_toList, Array.toList_replicate, List.getD_eq_getElem?_getD, List.getElem?_replicate]
      simp at hj
      simp [hj]
    · intro j o _ hj
      rw [getD_toList, Array.toList_replicate, List.getD_eq_getElem?_getD, List.getElem?_replicate] at hj
      split at hj <;> simp at hj
    · unfold over
      cases a0 with
      | mk tmps defers =>
        congr 1
        apply Array.ext_getElem?
        intro i
        rw [Array.getElem?_mapIdx]
        cases hx : tmps[i]? with
        | none => rfl
        | some v =>
          simp only [Option.map_some, Array.getD_eq_getD_getElem?, hx, Option.getD_some]
          split <;> rfl
    · intro j _ hj
      rw [getD_toList, Array.toList_replicate, List.getD_eq_getElem?_getD, List.getElem?_replicate] at hj
      split at hj <;> simp at hj

end Go.Proofs.YtlcglclojlffgaaGreatDoor
namespace Go.Proofs.YtlcglclojlffgaaGreatDoor
open Go.RowKit

theorem below_cell {w w' : World} (h : Below w.heap.size w w') {b o : Nat} {v : Value} (hc : w.cell? ⟨b, o, none⟩ = some v) : w'.cell? ⟨b, o, none⟩ = some v := (h.cell (p := ⟨b, o, none⟩) (lt_of_cell hc)).trans hc
theorem grpM_at (m : Nat) (_h1 : 1 ≤ m) (_h3 : m ≤ 3) (g : Nat) (g1 : 1 ≤ g) (g3 : g ≤ grpM m) : (widsM m)[g - 1]? = some ((widM m g : Nat) : Int) := by
  obtain ⟨j, rfl⟩ : ∃ j, g = j + 1 := ⟨g - 1, by omega⟩
  rw [Nat.add_sub_cancel]
  unfold widsM
  rw [List.getElem?_map, List.getElem?_range (by omega)]
  rfl
theorem widsM_len (m : Nat) : (widsM m).length = grpM m := by simp [widsM]
set_option maxRecDepth 100000 in
set_option maxHeartbeats 1000000 in
theorem width_listed (m : Nat) (h1 : 1 ≤ m) (h3 : m ≤ 3) (a : Option Addr) (c : Nat) (g : Nat) (g1 : 1 ≤ g) (g3 : g ≤ grpM m) (w : World) (hx : IntsAt w a (widsM m)) :
    Calls Tryz.prog 272 #[.agg #[.string (charS m), .slice a (grpM m) c], .int .i64 (g : Int)] w fun e w' => e = .returned (.int .i64 (widM m g : Nat)) ∧ Below w.heap.size w w' := by
  obtain ⟨b, o, z, rfl, hz, hb, hc⟩ := hx.at (k := g - 1) (by rw [widsM_len]; omega)
  rw [grpM_at m h1 h3 g g1 g3] at hz
  obtain rfl := Option.some.inj hz
  have hi : (g : Int) - 1 = ((g - 1 : Nat) : Int) := by omega
  have hi2 : ((g - 1 : Nat) : Int) < (grpM m : Int) := by omega
  have hgb := (grpM_bd m).2
  clear hx hz
  go_enter Tryz.func272, Tryz.ntmps272
  go_wp2_with fail
  go_ret
  exact ⟨rfl, ba1 _ _⟩
set_option maxRecDepth 100000 in
theorem group_listed (s : ByteArray) (a : Option Addr) (n c : Nat) (w : World) :
    Calls Tryz.prog 270 #[.agg #[.string s, .slice a n c]] w fun e w' => e = .returned (.int .i64 (n : Int)) ∧ Below w.heap.size w w' := by
  go_enter Tryz.func270, Tryz.ntmps270
  go_wp2_with fail
  go_ret
  exact ⟨rfl, ba1 _ _⟩
set_option maxRecDepth 100000 in
theorem value_plain (x : Int) (w : World) :
    Calls Tryz.prog 276 #[.agg #[], .int .i64 x] w fun e w' => e = .returned (.int .i64 x) ∧ Below w.heap.size w w' := by
  go_enter Tryz.func276, Tryz.ntmps276
  go_wp2_with fail
  go_ret
  exact ⟨rfl, ba1 _ _⟩
set_option maxRecDepth 100000 in
theorem width_plain (x : Int) (w : World) :
    Calls Tryz.prog 277 #[.agg #[], .int .i64 x] w fun e w' => e = .returned (.int .i64 8) ∧ Below w.heap.size w w' := by
  go_enter Tryz.func277, Tryz.ntmps277
  go_wp2_with fail
  go_ret
  exact ⟨rfl, ba1 _ _⟩
set_option maxRecDepth 100000 in
theorem group_plain (w : World) :
    Calls Tryz.prog 275 #[.agg #[]] w fun e w' => e = .returned (.int .i64 1) ∧ Below w.heap.size w w' := by
  go_enter Tryz.func275, Tryz.ntmps275
  go_wp2_with fail
  go_ret
  exact ⟨rfl, ba1 _ _⟩

/-- a method of a value in an interface -/
def Meth (T : TypeId) (r : Value) (name : String) (f : FuncId) : Prop := (∀ n W, (method (n + 1) T r name).run Tryz.prog W = .ok (f, r) W) ∧ (∀ args W, (callFunc f args).run Tryz.prog W = .ok (.enter f args) W) ∧ ∀ n W, (nilAhead (n + 1) T r name).run Tryz.prog W = .ok (some false) W
/-- a mode in an interface: its methods answer as the numbers say, while its block stands -/
structure ModeM (w : World) (m : Nat) (T : TypeId) (r : Value) (fv fg fb fw : FuncId) (bk : Option Nat) : Prop where
  mv : Meth T r "loop.example/g00879/impl.value" fv
  mg : Meth T r "loop.example/g00879/impl.group" fg
  mw : Meth T r "loop.example/g00879/impl.width" fw
  lt : ∀ b, bk = some b → b < w.heap.size
  cv : ∀ x w', Calls Tryz.prog fv #[r, .int .i64 x] w' fun e w'' => e = .returned (.int .i64 (valC m x)) ∧ Below w'.heap.size w' w''
  cg : ∀ w', Calls Tryz.prog fg #[r] w' fun e w'' => e = .returned (.int .i64 (grpM m : Nat)) ∧ Below w'.heap.size w' w''
  cw : ∀ (g : Nat) w', 1 ≤ g → g ≤ grpM m → (∀ b, bk = some b → w'.heap[b]? = w.heap[b]?) → Calls Tryz.prog fw #[r, .int .i64 (g : Int)] w' fun e w'' => e = .returned (.int .i64 (widM m g : Nat)) ∧ Below w'.heap.size w' w''
theorem ModeM.kept {w w1 : World} {m : Nat} {T : TypeId} {r : Value} {fv fg fb fw : FuncId} {bk : Option Nat} (h : ModeM w m T r fv fg fb fw bk) (hs : w.heap.size ≤ w1.heap.size) (hk : ∀ b, bk = some b → w1.heap[b]? = w.heap[b]?) : ModeM w1 m T r fv fg fb fw bk :=
  ⟨h.mv, h.mg, h.mw, fun b e => Nat.lt_of_lt_of_le (h.lt b e) hs, h.cv, h.cg, fun g w' g1 g2 k => h.cw g w' g1 g2 (fun b e => (k b e).trans (hk b e))⟩
theorem ModeM.below {w w1 : World} {m : Nat} {T : TypeId} {r : Value} {fv fg fb fw : FuncId} {bk : Option Nat} (h : ModeM w m T r fv fg fb fw bk) (hb : Below w.heap.size w w1) : ModeM w1 m T r fv fg fb fw bk :=
  h.kept hb.size (fun b e => hb.block b (h.lt b e))
theorem ints_same {w w' : World} {b o : Nat} {zs : List Int} (h : IntsAt w (some ⟨b, o, none⟩) zs) (hk : w'.heap[b]? = w.heap[b]?) : IntsAt w' (some ⟨b, o, none⟩) zs := by
  intro i hi
  obtain ⟨b1, o1, e, hc⟩ := h i hi
  cases e
  exact ⟨b, o, rfl, by rw [← hc]; simp [World.cell?, hk]⟩
theorem mode_listed (m : Nat) (h1 : 1 ≤ m) (h3 : m ≤ 3) (b o c : Nat) (w : World) (hb : b < w.heap.size) (hx : IntsAt w (some ⟨b, o, none⟩) (widsM m)) :
    ModeM w m 308 (.agg #[.string (charS m), .slice (some ⟨b, o, none⟩) (grpM m) c]) 271 270 268 272 (some b) where
  lt := fun b' e => by cases e; exact hb
  mv := ⟨fun n W => by kernel_rfl, fun args W => by kernel_rfl, fun n W => by kernel_rfl⟩
  mg := ⟨fun n W => by kernel_rfl, fun args W => by kernel_rfl, fun n W => by kernel_rfl⟩
  mw := ⟨fun n W => by kernel_rfl, fun args W => by kernel_rfl, fun n W => by kernel_rfl⟩
  cv := fun x w' => value_listed m h1 h3 _ _ c x w'
  cg := fun w' => group_listed _ _ _ c w'
  cw := fun g w' g1 g3 hk => width_listed m h1 h3 _ c g g1 g3 w' (ints_same hx (hk b rfl))
theorem mode_plain (w : World) :
    ModeM w 4 309 (.agg #[]) 276 275 273 277 none where
  lt := fun b' e => by cases e
  mv := ⟨fun n W => by kernel_rfl, fun args W => by kernel_rfl, fun n W => by kernel_rfl⟩
  mg := ⟨fun n W => by kernel_rfl, fun args W => by kernel_rfl, fun n W => by kernel_rfl⟩
  mw := ⟨fun n W => by kernel_rfl, fun args W => by kernel_rfl, fun n W => by kernel_rfl⟩
  cv := fun x w' => value_plain x w'
  cg := fun w' => group_plain w'
  cw := fun g w' _ _ _ => width_plain (g : Int) w'
/-- a mode is handed back -/
def RetMode (m : Nat) (w : World) (e : Ending) (w' : World) : Prop := Below w.heap.size w w' ∧ ∃ T r fv fg fb fw bk, e = .returned (.tuple #[.iface T r, .bool true]) ∧ ModeM w' m T r fv fg fb fw bk ∧ ∀ b, bk = some b → w.heap.size ≤ b
theorem ints_lit2 {w : World} {g : Nat} {cs : Array Value} {t : TypeId} {zs : List Int} (h : w.heap[g]? = some (.cells cs t (0, 0))) (hc : cs = (zs.map (Value.int .i64)).toArray) : IntsAt w (some ⟨g, 0, none⟩) zs := by
  intro i hi
  refine ⟨g, 0, rfl, ?_⟩
  rw [Nat.zero_add, (heap_cellR h).1, hc]
  simp [hi]
set_option maxRecDepth 100000 in
set_option maxHeartbeats 1000000 in
theorem modeOf_any (m : Nat) (h1 : 1 ≤ m) (h4 : m ≤ 4) (w : World) : Calls Tryz.prog 225 #[.int .i64 (m : Int)] w (RetMode m w) := by
  obtain rfl | rfl | rfl | rfl : m = 1 ∨ m = 2 ∨ m = 3 ∨ m = 4 := by omega
  · go_enter Tryz.func225, Tryz.ntmps225
    go_wp2_with fail
    go_ret2
    exact ⟨ba1 _ _, _, _, _, _, _, _, _, rfl, mode_listed 1 (by omega) (by omega) _ _ _ _ (by simp) (ints_lit2 (push_at _ _) rfl), fun b e => by cases e; exact Nat.le_refl _⟩
  · go_enter Tryz.func225, Tryz.ntmps225
    go_wp2_with fail
    go_ret2
    exact ⟨ba1 _ _, _, _, _, _, _, _, _, rfl, mode_listed 2 (by omega) (by omega) _ _ _ _ (by simp) (ints_lit2 (push_at _ _) rfl), fun b e => by cases e; exact Nat.le_refl _⟩
  · go_enter Tryz.func225, Tryz.ntmps225
    go_wp2_with fail
    go_ret2
    exact ⟨ba1 _ _, _, _, _, _, _, _, _, rfl, mode_listed 3 (by omega) (by omega) _ _ _ _ (by simp) (ints_lit2 (push_at _ _) rfl), fun b e => by cases e; exact Nat.le_refl _⟩
  · go_enter Tryz.func225, Tryz.ntmps225
    go_wp2_with fail
    go_ret2
    exact ⟨Below.refl _ _, _, _, _, _, _, _, _, rfl, mode_plain _, fun b e => by cases e⟩

end Go.Proofs.YtlcglclojlffgaaGreatDoor
namespace Go.Proofs.YtlcglclojlffgaaGreatDoor
open Go.RowKit

/-! As RG, where one operation f of the head may come up behind the first of the tail (a result that is taken apart beside a late store). -/

def rgOkF (ops : Array Oper) (m f : Nat) (ds : List Nat) (sup : Nat → List Nat) : Bool :=
  decide (f < m) && decide (m < ops.size) && (List.range ops.size).all fun j => match ops[j]? with
    | none => true
    | some o =>
      (decide (m ≤ j) || ((match o.dst with | some d => ds.contains d | none => true) &&
        (sup j).all fun t => (List.range ops.size).all fun i => match ops[i]? with
          | none => true
          | some oi => oi.dst != some t || i == j || o.after.any fun e => Region.binds .any e && e.on == i)) &&
      (decide (j < m) || (List.range j).all (fun i => (i == f && j == m) || o.after.any fun e => Region.binds .any e && e.on == i)) && o.after.all fun e => !Region.binds .any e || decide (e.on < j)

variable {P : Program} {ops : Array Oper} {Q : Exit → Act → World → Prop}

/-- the tail, in its one order -/
theorem wpAny_tailF {m f : Nat} {ds : List Nat} {sup : Nat → List Nat} (hB0 : rgOkF ops m f ds sup = true) : ∀ (r k : Nat) (listed : Array Bool) (a : Act) (w : World), m ≤ k → k + r = ops.size →
    (∀ j, j < ops.size → listed.getD j true = decide (j < k)) → listed.size = ops.size → ∀ fuel, r ≤ fuel → wpOps P ops Q (List.range' k r) a w → wpAny P .any ops Q fuel listed a w
  | 0, k, listed, a, w, hm, hk, hl, hs, fuel, hf, h => by
    have hr : Region.ready .any ops listed = [] := by
      rw [List.eq_nil_iff_forall_not_mem]
      intro j hj
      obtain ⟨h1, o, ho, _⟩ := mem_ready.1 hj
      have hlt : j < ops.size := (Array.getElem?_eq_some_iff.1 ho).1
      rw [hl j hlt] at h1
      simp at h1; omega
    have hq : Q .normal a w := h
    cases fuel with
    | zero => exact ⟨hr, hq⟩
    | succ f => exact ⟨fun _ => hq, fun i hi => by rw [hr] at hi; cases hi⟩
  | r + 1, k, listed, a, w, hm, hk, hl, hs, fuel, hf, h => by
    have hB := hB0
    unfold rgOkF at hB
    rw [Bool.and_eq_true] at hB
    have hkn : k < ops.size := by omega
    have hready : ∀ j ∈ Region.ready .any ops listed, j = k := by
      intro j hj
      obtain ⟨h1, o, ho, hdep⟩ := mem_ready.1 hj
      have hlt : j < ops.size := (Array.getElem?_eq_some_iff.1 ho).1
      rw [hl j hlt] at h1
      have hjk : k ≤ j := by simpa using h1
      rcases Nat.lt_or_ge k j with hlt' | hge
      · exfalso
        have hb := List.all_eq_true.1 hB.2 j (List.mem_range.2 hlt)
        simp only [ho, Bool.and_eq_true, Bool.or_eq_true, decide_eq_true_eq] at hb
        rcases hb.1.2 with hb2 | hb2
        · omega
        · have := List.all_eq_true.1 hb2 k (List.mem_range.2 hlt')
          simp only [Bool.or_eq_true, Bool.and_eq_true, beq_iff_eq] at this
          have hfm : f < m := by have h := hB.1; rw [Bool.and_eq_true] at h; simpa using h.1
          rcases this with this | this
          · omega
          obtain ⟨e, he, hee⟩ := Array.any_eq_true'.1 this
          simp only [Bool.and_eq_true, beq_iff_eq] at hee
          have hd := hdep e he hee.1
          rw [hee.2] at hd
          have := hl k hkn
          rw [getD_toList] at this hd
          rw [List.getD_eq_getElem?_getD] at this hd
          cases hx : listed.toList[k]? with
          | none => rw [hx] at hd; simp at hd
          | some b => rw [hx] at this hd; simp at this hd; rw [this] at hd; cases hd
      · omega
    cases fuel with
    | zero => omega
    | succ f =>
      refine ⟨fun h0 => ?_, fun i hi => ?_⟩
      · exfalso
        obtain ⟨o, ho⟩ : ∃ o, ops[k]? = some o := ⟨ops[k], Array.getElem?_eq_getElem hkn⟩
        have : k ∈ Region.ready .any ops listed := by
          refine mem_ready.2 ⟨?_, o, ho, ?_⟩
          · rw [hl k hkn]; simp
          · intro e he hbind
            have hb := List.all_eq_true.1 hB.2 k (List.mem_range.2 hkn)
            simp only [ho, Bool.and_eq_true, Bool.or_eq_true, decide_eq_true_eq] at hb
            · have h2 := Array.all_eq_true'.1 hb.2 e he
              simp only [hbind, Bool.not_true, Bool.or_eq_true, Bool.false_eq_true, false_or, decide_eq_true_eq] at h2
              have := hl e.on (by omega)
              rw [getD_toList, List.getD_eq_getElem?_getD] at this ⊢
              cases hx : listed.toList[e.on]? with
              | none =>
                have := List.getElem?_eq_none_iff.1 hx
                simp [hs] at this; omega
              | some b => rw [hx] at this; simp at this; simp [this]; exact h2
        rw [h0] at this; cases this
      · obtain rfl := hready i hi
        rw [List.range'_succ, wpOps_cons] at h
        refine wpOp_mono (fun a' w' h' => ?_) h
        refine wpAny_tailF hB0 r (i + 1) _ a' w' (by omega) (by omega) ?_ (by simpa using hs) f (by omega) h'
        intro j hj
        by_cases e : i = j
        · subst e
          rw [getD_toList, Array.toList_setIfInBounds, List.getD_eq_getElem?_getD, List.getElem?_set]
          simp [hs, hj]
        · rw [getD_toList, Array.toList_setIfInBounds, List.getD_eq_getElem?_getD, List.getElem?_set, if_neg e, ← List.getD_eq_getElem?_getD, ← getD_toList, hl j hj]
          simp; omega


theorem wpAny_headF {m f : Nat} {a0 : Act} {ds : List Nat} {sup : Nat → List Nat} {G : Nat → (Nat → Value) → World → Prop} {St : World → Prop} {Keep : World → World → Prop} (hB0 : rgOkF ops m f ds sup = true)
    (hkeep : ∀ j us w w', j < m → Keep w w' → G j us w → G j us w') (hrefl : ∀ w, Keep w w) (hsup : ∀ j us us' w, j < m → (∀ t ∈ sup j, us t = us' t) → G j us w → G j us' w)
    (howe : ∀ i o, i < m → ops[i]? = some o → Owes P ops Q a0 ds G St Keep i o)
    (hend : ∀ us w, St w → (∀ j, j < m → G j us w) → wpOps P ops Q (List.range' m (ops.size - m)) (over a0 ds us) w)
    (hend2 : ∀ us w, St w → (∀ j, j < m → j ≠ f → G j us w) → wpOps P ops Q (m :: f :: List.range' (m + 1) (ops.size - (m + 1))) (over a0 ds us) w) :
    ∀ (fuel : Nat) (listed : Array Bool) (a : Act) (w : World), unl listed.toList ≤ fuel → Under ops m a0 ds G St listed a w → wpAny P .any ops Q fuel listed a w := by
  have hB1 := hB0
  unfold rgOkF at hB1
  rw [Bool.and_eq_true] at hB1
  have hB2 := hB1.1
  rw [Bool.and_eq_true] at hB2
  obtain ⟨hfm, hms⟩ := hB2
  have hfm : f < m := by simpa using hfm
  have hms : m < ops.size := by simpa using hms
  have hm : m ≤ ops.size := by omega
  have hB := hB1.2
  have hdepOk : ∀ j o, j < m → ops[j]? = some o → (∀ d, o.dst = some d → ds.contains d = true) ∧ ∀ t ∈ sup j, ∀ i oi, ops[i]? = some oi → oi.dst = some t → i = j ∨ ∃ e ∈ o.after, Region.binds .any e = true ∧ e.on = i := by
    intro j o hj ho
    have hlt : j < ops.size := (Array.getElem?_eq_some_iff.1 ho).1
    have hb := List.all_eq_true.1 hB j (List.mem_range.2 hlt)
    simp only [ho, Bool.and_eq_true, Bool.or_eq_true, decide_eq_true_eq] at hb
    rcases hb.1.1 with h | h
    · omega
    · refine ⟨?_, ?_⟩
      · intro d hd
        have := h.1
        rw [hd] at this
        exact this
      · intro t ht i oi hi hd
        have h2 := List.all_eq_true.1 (List.all_eq_true.1 h.2 t ht) i (List.mem_range.2 (Array.getElem?_eq_some_iff.1 hi).1)
        simp only [hi, Bool.or_eq_true, bne_iff_ne, beq_iff_eq, hd] at h2
        rcases h2 with (h2 | h2) | h2
        · exact absurd rfl h2
        · exact Or.inl h2
        · obtain ⟨e, he, hee⟩ := Array.any_eq_true'.1 h2
          simp only [Bool.and_eq_true, beq_iff_eq] at hee
          exact Or.inr ⟨e, he, hee.1, hee.2⟩
  have step : ∀ (fuel : Nat) (listed : Array Bool) (a : Act) (w : World), unl listed.toList ≤ fuel → Under ops m a0 ds G St listed a w →
      (∀ j, j < m → listed.getD j true = true) → wpAny P .any ops Q fuel listed a w := by
    intro fuel listed a w hf U hall
    obtain ⟨us, rfl, hG⟩ := U.left
    have hx : ∀ j, j < m → listed.getD j false = true := by
      intro j hj
      have := hall j hj
      rw [getD_toList, List.getD_eq_getElem?_getD] at this ⊢
      cases hy : listed.toList[j]? with
      | none =>
        have h1 := List.getElem?_eq_none_iff.1 hy
        have := U.size
        simp at h1; omega
      | some b => rw [hy] at this; simpa using this
    have hr : ops.size - m ≤ fuel := by
      refine Nat.le_trans ?_ hf
      have : ∀ (n : Nat) (l : List Bool), (∀ j, n ≤ j → j < l.length → l.getD j true = false) → l.length - n ≤ unl l := by
        intro n l
        induction l generalizing n with
        | nil => intro _; simp
        | cons b r ih =>
          intro hb
          cases n with
          | zero =>
            have h0 := hb 0 (Nat.le_refl _) (by simp)
            have h1 := ih 0 (fun j _ hj => by have := hb (j + 1) (by omega) (by simpa using hj); simpa using this)
            simp at h0
            subst h0
            simp [unl] at h1 ⊢; omega
          | succ n =>
            have h1 := ih n (fun j hj hj' => by have := hb (j + 1) (by omega) (by simpa using hj'); simpa using this)
            simp only [unl, List.length_cons]; omega
      have h2 := this m listed.toList (fun j hj hj' => by rw [← getD_toList]; exact U.tail j hj (by have := U.size; simp at hj'; omega))
      have := U.size
      simp at h2; omega
    refine wpAny_tailF hB0 (ops.size - m) m listed _ w (Nat.le_refl _) (by omega) ?_ U.size fuel hr (hend us w U.st (fun j hj => hG j hj (hx j hj)))
    intro j hj
    rcases Nat.lt_or_ge j m with h | h
    · rw [hall j h]; simp [h]
    · rw [U.tail j h hj]; simp; omega
  intro fuel
  induction fuel with
  | zero =>
    intro listed a w hf U
    exact step 0 listed a w hf U (fun j _ => by rw [getD_toList]; exact unl_zero _ (by omega) j)
  | succ fuel ih =>
    intro listed a w hf U
    by_cases hall : ∀ j, j < m → listed.getD j true = true
    · exact step _ listed a w hf U hall
    · obtain ⟨us, rfl, hG⟩ := U.left
      have hnot : ∃ j, j < m ∧ listed.getD j true = false := by
        apply Classical.byContradiction
        intro hn
        apply hall
        intro j hj
        cases hx : listed.getD j true with
        | true => rfl
        | false => exact absurd ⟨j, hj, hx⟩ hn
      refine ⟨fun h0 => ?_, fun i hi => ?_⟩
      · -- the least that is not listed may come up
        have least : ∀ n j, j ≤ n → j < m → listed.getD j true = false → False := by
          intro n
          induction n with
          | zero =>
            intro j hj hjm hjl
            obtain rfl : j = 0 := by omega
            obtain ⟨oj, hoj⟩ : ∃ oj, ops[0]? = some oj := ⟨ops[0], Array.getElem?_eq_getElem (by omega)⟩
            have : 0 ∈ Region.ready .any ops listed := mem_ready.2 ⟨hjl, oj, hoj, fun e he hbind => by
              have hb := List.all_eq_true.1 hB 0 (List.mem_range.2 (by omega))
              simp only [hoj, Bool.and_eq_true] at hb
              have h2 := Array.all_eq_true'.1 hb.2 e he
              simp only [hbind, Bool.not_true, Bool.or_eq_true, Bool.false_eq_true, false_or, decide_eq_true_eq] at h2
              omega⟩
            rw [h0] at this; cases this
          | succ n ihn =>
            intro j hj hjm hjl
            obtain ⟨oj, hoj⟩ : ∃ oj, ops[j]? = some oj := ⟨ops[j], Array.getElem?_eq_getElem (by omega)⟩
            have : j ∈ Region.ready .any ops listed := mem_ready.2 ⟨hjl, oj, hoj, fun e he hbind => by
              have hb := List.all_eq_true.1 hB j (List.mem_range.2 (by omega))
              simp only [hoj, Bool.and_eq_true] at hb
              have h2 := Array.all_eq_true'.1 hb.2 e he
              simp only [hbind, Bool.not_true, Bool.or_eq_true, Bool.false_eq_true, false_or, decide_eq_true_eq] at h2
              cases hx : listed.getD e.on true with
              | false => exact (ihn e.on (by omega) (by omega) hx).elim
              | true =>
                rw [getD_toList, List.getD_eq_getElem?_getD] at hx ⊢
                cases hy : listed.toList[e.on]? with
                | none =>
                  have h4 := List.getElem?_eq_none_iff.1 hy
                  have := U.size
                  simp at h4; omega
                | some b => rw [hy] at hx; simpa using hx⟩
            rw [h0] at this; cases this
        obtain ⟨j, hj, hjl⟩ := hnot
        exact (least j j (Nat.le_refl _) hj hjl).elim
      · obtain ⟨h1, o, ho, hdep⟩ := mem_ready.1 hi
        have hlt : i < ops.size := (Array.getElem?_eq_some_iff.1 ho).1
        have hil : listed.toList[i]? = some false := by
          rw [getD_toList, List.getD_eq_getElem?_getD] at h1
          cases hx : listed.toList[i]? with
          | none => rw [hx] at h1; simp at h1
          | some b => rw [hx] at h1; simp at h1; rw [h1]
        rcases Nat.lt_or_ge i m with him | hge
        rotate_left
        · have gd : ∀ t, t < ops.size → ∀ l : Array Bool, l.size = ops.size → l.getD t true = l.getD t false := fun t ht l hl => by
            rw [getD_toList, getD_toList, List.getD_eq_getElem?_getD, List.getD_eq_getElem?_getD, List.getElem?_eq_getElem (by simpa [hl] using ht)]; rfl
          have hb := List.all_eq_true.1 hB i (List.mem_range.2 hlt)
          simp only [ho, Bool.and_eq_true, Bool.or_eq_true, decide_eq_true_eq] at hb
          have hwait : ∀ t, t < i → (t = f ∧ i = m) ∨ listed.getD t false = true := by
            intro t ht
            rcases hb.1.2 with hb2 | hb2
            · omega
            · have := List.all_eq_true.1 hb2 t (List.mem_range.2 ht)
              simp only [Bool.or_eq_true, Bool.and_eq_true, beq_iff_eq] at this
              rcases this with this | this
              · exact Or.inl this
              · obtain ⟨e, he, hee⟩ := Array.any_eq_true'.1 this
                simp only [Bool.and_eq_true, beq_iff_eq] at hee
                have hd := hdep e he hee.1
                rw [hee.2] at hd
                exact Or.inr hd
          obtain ⟨j, hj, hjl⟩ := hnot
          have hjf : j = f ∧ i = m := by
            rcases hwait j (by omega) with h | h
            · exact h
            · rw [gd j (by omega) listed U.size, h] at hjl; cases hjl
          obtain ⟨hjf, him⟩ := hjf
          subst hjf
          subst him
          have hG' : ∀ t, t < i → t ≠ j → G t us w := fun t ht hne => hG t ht ((hwait t ht).resolve_left (fun h => hne h.1))
          have h2 := hend2 us w U.st hG'
          rw [wpOps_cons] at h2
          refine wpOp_mono (fun a' w' h' => ?_) h2
          rw [wpOps_cons] at h'
          have hu1 := unl_set listed.toList i hil
          rw [← Array.toList_setIfInBounds] at hu1
          have hs1 : (listed.setIfInBounds i true).size = ops.size := by simpa using U.size
          have hfl : (listed.setIfInBounds i true).getD j true = false := by rw [getD_set_other (by omega)]; exact hjl
          cases fuel with
          | zero =>
            have := unl_zero (listed.setIfInBounds i true).toList (by omega) j
            rw [← getD_toList, hfl] at this
            cases this
          | succ fu =>
            have hfs : (listed.setIfInBounds i true).toList[j]? = some false := by
              rw [getD_toList, List.getD_eq_getElem?_getD] at hfl
              cases hx : (listed.setIfInBounds i true).toList[j]? with
              | none => rw [hx] at hfl; simp at hfl
              | some b => rw [hx] at hfl; simp at hfl; rw [hfl]
            have hu2 := unl_set _ j hfs
            rw [← Array.toList_setIfInBounds] at hu2
            have hall1 : ∀ t, t < i → t ≠ j → (listed.setIfInBounds i true).getD t false = true := fun t ht hne => getD_set_true ((hwait t ht).resolve_left (fun h => hne h.1))
            refine ⟨fun h0 => ?_, fun i' hi' => ?_⟩
            · exfalso
              obtain ⟨oj, hoj⟩ : ∃ oj, ops[j]? = some oj := ⟨ops[j], Array.getElem?_eq_getElem (by omega)⟩
              have : j ∈ Region.ready .any ops (listed.setIfInBounds i true) := mem_ready.2 ⟨hfl, oj, hoj, fun e he hbind => by
                have hbj := List.all_eq_true.1 hB j (List.mem_range.2 (by omega))
                simp only [hoj, Bool.and_eq_true] at hbj
                have h3 := Array.all_eq_true'.1 hbj.2 e he
                simp only [hbind, Bool.not_true, Bool.or_eq_true, Bool.false_eq_true, false_or, decide_eq_true_eq] at h3
                exact hall1 e.on (by omega) (by omega)⟩
              rw [h0] at this; cases this
            · obtain ⟨h1', o', ho', hdep'⟩ := mem_ready.1 hi'
              have hlt' : i' < ops.size := (Array.getElem?_eq_some_iff.1 ho').1
              have hij : i' = j := by
                apply Classical.byContradiction
                intro hne
                rcases Nat.lt_trichotomy i' i with h | h | h
                · have := hall1 i' h hne
                  rw [← gd i' hlt' _ hs1, h1'] at this; cases this
                · subst h
                  have := gd i' hlt' _ hs1
                  have h5 : (listed.setIfInBounds i' true).getD i' false = true := by
                    rw [getD_toList, Array.toList_setIfInBounds, List.getD_eq_getElem?_getD, List.getElem?_set, if_pos rfl, if_pos (by have := U.size; simp; omega)]; rfl
                  rw [this, h5] at h1'; cases h1'
                · have hb' := List.all_eq_true.1 hB i' (List.mem_range.2 hlt')
                  simp only [ho', Bool.and_eq_true, Bool.or_eq_true, decide_eq_true_eq] at hb'
                  rcases hb'.1.2 with hb2 | hb2
                  · omega
                  · have := List.all_eq_true.1 hb2 j (List.mem_range.2 (by omega))
                    simp only [Bool.or_eq_true, Bool.and_eq_true, beq_iff_eq] at this
                    rcases this with this | this
                    · omega
                    · obtain ⟨e, he, hee⟩ := Array.any_eq_true'.1 this
                      simp only [Bool.and_eq_true, beq_iff_eq] at hee
                      have hd := hdep' e he hee.1
                      rw [hee.2, ← gd j (by omega) _ hs1, hfl] at hd
                      cases hd
              subst hij
              refine wpOp_mono (fun a'' w'' h'' => ?_) h'
              have hlow : ∀ (n : Nat) (l : List Bool), (∀ t, n ≤ t → t < l.length → l.getD t true = false) → l.length - n ≤ unl l := by
                intro n l
                induction l generalizing n with
                | nil => intro _; simp
                | cons b r ih =>
                  intro hb
                  cases n with
                  | zero =>
                    have h0 := hb 0 (Nat.le_refl _) (by simp)
                    have h1 := ih 0 (fun t _ ht => by have := hb (t + 1) (by omega) (by simpa using ht); simpa using this)
                    simp at h0
                    subst h0
                    simp [unl] at h1 ⊢; omega
                  | succ n =>
                    have h1 := ih n (fun t ht ht' => by have := hb (t + 1) (by omega) (by simpa using ht'); simpa using this)
                    simp only [unl, List.length_cons]; omega
              have hs2 : ((listed.setIfInBounds i true).setIfInBounds i' true).size = ops.size := by simpa using U.size
              have hrest : ∀ t, i + 1 ≤ t → t < ops.size → ((listed.setIfInBounds i true).setIfInBounds i' true).getD t true = false := fun t ht ht' => by
                rw [getD_set_other (by omega), getD_set_other (by omega)]; exact U.tail t (by omega) ht'
              have hn := hlow (i + 1) ((listed.setIfInBounds i true).setIfInBounds i' true).toList (fun t ht ht' => by
                rw [← getD_toList]; exact hrest t ht (by rw [Array.length_toList, hs2] at ht'; exact ht'))
              rw [Array.length_toList, hs2] at hn
              refine wpAny_tailF hB0 (ops.size - (i + 1)) (i + 1) _ a'' w'' (by omega) (by omega) (fun t ht => ?_) hs2 fu (by omega) h''
              by_cases h7 : i + 1 ≤ t
              · rw [hrest t h7 ht]; simp; omega
              · have e1 : ((listed.setIfInBounds i true).setIfInBounds i' true).getD t true = true := by
                  rw [gd t ht _ hs2]
                  by_cases h8 : i' = t
                  · subst h8
                    rw [getD_toList, Array.toList_setIfInBounds, List.getD_eq_getElem?_getD, List.getElem?_set, if_pos rfl, if_pos (by rw [Array.length_toList, hs1]; exact ht)]; rfl
                  · refine getD_set_true ?_
                    by_cases h9 : i = t
                    · subst h9
                      rw [getD_toList, Array.toList_setIfInBounds, List.getD_eq_getElem?_getD, List.getElem?_set, if_pos rfl, if_pos (by rw [Array.length_toList, U.size]; exact ht)]; rfl
                    · exact hall1 t (by omega) (fun e => h8 e.symm)
                rw [e1]; simp; omega
        obtain ⟨hds, hdp⟩ := hdepOk i o him ho
        have hdm : ∀ e ∈ o.after, Region.binds .any e = true → e.on < m := by
          intro e he hbind
          have hd := hdep e he hbind
          rcases Nat.lt_or_ge e.on m with h | h
          · exact h
          · exfalso
            rcases Nat.lt_or_ge e.on ops.size with h2 | h2
            · have := U.tail e.on h h2
              rw [getD_toList, List.getD_eq_getElem?_getD] at this hd
              cases hx : listed.toList[e.on]? with
              | none => rw [hx] at hd; simp at hd
              | some b => rw [hx] at hd this; simp at hd this; rw [hd] at this; cases this
            · rw [getD_toList, List.getD_eq_getElem?_getD, List.getElem?_eq_none (by have := U.size; simp; omega)] at hd
              simp at hd
        have next : ∀ v w', St w' → Keep w w' → G i (upd us o.dst v) w' → wpAny P .any ops Q fuel (listed.setIfInBounds i true) ((over a0 ds us).put o.dst v) w' := by
          intro v w' hst hk hg
          refine ih _ _ _ ?_ ⟨by simpa using U.size, ?_, ?_, hst, upd us o.dst v, over_put hds, ?_⟩
          · have := unl_set listed.toList i hil
            rw [Array.toList_setIfInBounds]; omega
          · intro j hj hj'
            rw [getD_set_other (by omega)]; exact U.tail j hj hj'
          · intro j oj hoj hlj e he hbind
            by_cases ej : i = j
            · subst ej
              rw [ho] at hoj
              cases hoj
              exact getD_set_true (hdep e he hbind)
            · rw [getD_set_other ej] at hlj
              exact getD_set_true (U.closed j oj hoj hlj e he hbind)
          · intro j hj hlj
            by_cases ej : i = j
            · subst ej; exact hg
            · rw [getD_set_other ej] at hlj
              refine hsup j us _ w' hj (fun t ht => ?_) (hkeep j us w w' hj hk (hG j hj hlj))
              symm
              refine upd_ne (fun hd => ?_)
              have hjs : j < ops.size := by omega
              obtain ⟨oj, hoj⟩ : ∃ oj, ops[j]? = some oj := ⟨ops[j], Array.getElem?_eq_getElem hjs⟩
              rcases (hdepOk j oj hj hoj).2 t ht i o ho hd with h | ⟨e, he, hbind, heq⟩
              · exact ej h
              · have := U.closed j oj hoj hlj e he hbind
                rw [heq, getD_toList, List.getD_eq_getElem?_getD, hil] at this
                simp at this
        have howes := howe i o him ho us w U.st (fun e he hbind => hG e.on (hdm e he hbind) (hdep e he hbind))
        unfold wpOp
        rw [ho]
        simp only
        by_cases hw : Region.wanted o (yielded ops (over a0 ds us).tmps) = true
        · rw [if_pos hw] at howes ⊢
          refine Or.inl (Oper.wp_mono (fun a' w' h => ?_) howes)
          obtain ⟨v, rfl, hst, hk, hg⟩ := h
          exact next v w' hst hk hg
        · rw [if_neg hw] at howes ⊢
          exact next undef w U.st (hrefl w) howes

theorem wp_region_rgF {P : Program} {id : Nat} {l : List Oper} {Q : Exit → Act → World → Prop} {a0 : Act} {w0 : World} (m f : Nat) (ds : List Nat) (sup : Nat → List Nat) (A : (Nat → Value) → Act) (G : Nat → (Nat → Value) → World → Prop) (St : World → Prop) (Keep : World → World → Prop)
    (hmix : P.follows .mixedOrders = true) (hB : rgOkF l.toArray m f ds sup = true) (hA : ∀ us, over a0 ds us = A us) (h0 : St w0.drew) (hrefl : ∀ w, Keep w w)
    (hkeep : ∀ j us w w', j < m → Keep w w' → G j us w → G j us w') (hsup : ∀ j us us' w, j < m → (∀ t ∈ sup j, us t = us' t) → G j us w → G j us' w)
    (hall : rgAll P l.toArray A G St Keep 0 (l.take m))
    (hend : ∀ us w, St w → (∀ j, j < m → G j us w) → wpList P l.toArray Q (l.drop m) (A us) w)
    (hend2 : ∀ us w, St w → (∀ j, j < m → j ≠ f → G j us w) → wpOps P l.toArray Q (m :: f :: List.range' (m + 1) (l.length - (m + 1))) (A us) w) : (Code.region id l.toArray true).wp P Q a0 w0 := by
  refine wp_region_any hmix ?_
  refine wpAny_headF (a0 := a0) (ds := ds) (G := G) (St := St) (Keep := Keep) hB hkeep hrefl hsup ?_ ?_ ?_ _ _ _ _ (by rw [Array.toList_replicate, unl_replicate]; exact Nat.le_refl _) ?_
  · intro i o hi ho us w hst hd
    have ho' : (l.take m)[i]? = some o := by rw [List.getElem?_take, if_pos hi]; simpa using ho
    have := rgAll_at _ 0 hall i o ho' us w hst hd
    rw [Nat.zero_add] at this
    rw [hA]
    by_cases hw : Region.wanted o (yielded l.toArray (A us).tmps) = true
    · rw [if_pos hw] at this ⊢
      exact wp_of_leaves (fun v w' h => ⟨v, rfl, h.1, h.2.1, h.2.2⟩) this
    · rw [if_neg hw] at this ⊢
      exact this
  · intro us w hst hg
    have := hend us w hst hg
    rw [hA]
    have e := wpOps_eq_wpList (P := P) (ops := l.toArray) (Q := Q) (l.drop m) m (fun j => by simp [List.getElem?_drop])
    rw [List.length_drop] at e
    have e2 : l.toArray.size - m = l.length - m := by simp
    rw [e2, e]
    exact this
  · intro us w hst hg
    have := hend2 us w hst hg
    rw [hA]
    simpa using this
  · refine ⟨by simp, ?_, ?_, h0, fun t => a0.tmps.getD t undef, ?_, ?_⟩
    · intro j _ hj
      rw [getD_toList, Array.toList_replicate, List.getD_eq_getElem?_getD, List.getElem?_replicate]
      simp at hj
      simp [hj]
    · intro j o _ hj
      rw [getD_toList, Array.toList_replicate, List.getD_eq_getElem?_getD, List.getElem?_replicate] at hj
      split at hj <;> simp at hj
    · unfold over
      cases a0 with
      | mk tmps defers =>
        congr 1
        apply Array.ext_getElem?
        intro i
        rw [Array.getElem?_mapIdx]
        cases hx : tmps[i]? with
        | none => rfl
        | some v =>
          simp only [Option.map_some, Array.getD_eq_getD_getElem?, hx, Option.getD_some]
          split <;> rfl
    · intro j _ hj
      rw [getD_toList, Array.toList_replicate, List.getD_eq_getElem?_getD, List.getElem?_replicate] at hj
      split at hj <;> simp at hj


/-- a store into a whole block, both ways -/
theorem wp_store_eq {P : Program} {o : Oper} {a : Act} {w : World} {K : Act → World → Prop} {Q : Exit → Act → World → Prop} (ty : TypeId) (x y : Operand) (ho : o.op = .store ty x y)
    (g : Nat) (cells : Array Value) (hx : a.eval x = .pointer (some ⟨g, 0, none⟩)) (hy : a.eval y = .agg cells)
    (t : TypeId) (old : Array Value) (hg : w.heap[g]? = some (.cells old t (0, 0))) (hi : (P.info? ty).map (·.size) = some cells.size)
    (hold : old.size = cells.size) (h1 : cells.all (·.oneCell') = true) : o.wp P a w K Q = K (a.put o.dst undef) (w.setRow g cells) := by
  unfold Oper.wp execOp
  simp only [ho, hx, hy, Instr.storeAt, Instr.sureAddr, Sem.run_bind, Sem.run_pure, Result.andThen_ok, run_storeVar_row w g t ty old cells hg hi hold h1]
  rfl

/-- **A REGION THAT DRAWS ITS ORDER, ITS TAIL A STORE BEHIND WHICH ONE OPERATION OF THE HEAD MAY COME.** -/
theorem wp_region_rsF {P : Program} {id : Nat} {l : List Oper} {Q : Exit → Act → World → Prop} {a0 : Act} {w0 : World} (f : Nat) (ds : List Nat) (A : (Nat → Value) → Act) {Keep : World → World → Prop} (sp : List (Sp Keep)) (St : World → Prop)
    (om of : Oper) (ty : TypeId) (x y : Operand) (df : Nat)
    (hmix : P.follows .mixedOrders = true) (hB : rgOkF l.toArray sp.length f ds (supOf l) = true) (hA : ∀ us, over a0 ds us = A us) (h0 : St w0.drew) (hrefl : ∀ w, Keep w w)
    (hom : l[sp.length]? = some om) (hof : l[f]? = some of) (hg1 : om.guard = none) (hd1 : om.dst = none) (ho1 : om.op = .store ty x y) (hg2 : of.guard = none) (hd2 : of.dst = some df)
    (hnd : ((List.range sp.length).all fun j => j == f || !(supOf l j).contains df) = true) (hdf : ds.contains df = true)
    (hxy : ∀ us v, (A (upd us (some df) v)).eval x = (A us).eval x ∧ (A (upd us (some df) v)).eval y = (A us).eval y)
    (hall : rsAll P l A sp St (l.take sp.length) sp)
    (hst2 : ∀ us w, St w → (∀ j, j < sp.length → j ≠ f → depHolds l sp us w j) → ∃ g cells t old, (A us).eval x = .pointer (some ⟨g, 0, none⟩) ∧ (A us).eval y = .agg cells ∧ w.heap[g]? = some (.cells old t (0, 0)) ∧ (P.info? ty).map (·.size) = some cells.size ∧ old.size = cells.size ∧ cells.all (·.oneCell') = true)
    (hfl : ∀ us w, St w → (∀ j, j < sp.length → j ≠ f → depHolds l sp us w j) → ∃ v, (∀ w', (execOp (A us).eval of).run P w' = .ok (.value v) w') ∧ depHolds l sp (upd us (some df) v) w f)
    (hend : ∀ us w, St w → (∀ j, j < sp.length → depHolds l sp us w j) → wpList P l.toArray Q (l.drop sp.length) (A us) w) : (Code.region id l.toArray true).wp P Q a0 w0 := by
  have hm : sp.length ≤ l.length := Nat.le_of_lt (List.getElem?_eq_some_iff.1 hom).1
  refine wp_region_rgF sp.length f ds (supOf l) A (fun i us w => depHolds l sp us w i) St Keep hmix hB hA h0 hrefl (fun j us w w' _ hk h => depHolds_kept hk h) (fun j us us' w _ he h => depHolds_sup he h) ?_ hend ?_
  · refine rg_of_rs _ _ 0 (by rw [List.length_take]; omega) (fun j hj => ?_) (fun j hj => ?_) (fun j _ => by simp) hall
    · have : j < (l.take sp.length).length := by
        apply Classical.byContradiction
        intro h
        rw [List.getElem?_eq_none (by omega)] at hj; cases hj
      rw [List.length_take] at this
      rw [Nat.zero_add, List.getElem?_take, if_pos (by omega)]
    · rw [List.length_take] at hj
      rw [Nat.zero_add, List.getElem?_take, if_pos (by omega)]
  · intro us w hst hd
    obtain ⟨v, hv, hvf⟩ := hfl us w hst hd
    obtain ⟨g, cells, t, old, e1, e2, e3, e4, e5, e6⟩ := hst2 us w hst hd
    have hd' : ∀ j, j < sp.length → depHolds l sp (upd us (some df) v) w j := by
      intro j hj
      by_cases e : j = f
      · subst e; exact hvf
      · refine depHolds_sup (fun t ht => ?_) (hd j hj e)
        have h1 := List.all_eq_true.1 hnd j (List.mem_range.2 hj)
        simp only [Bool.or_eq_true, beq_iff_eq, Bool.not_eq_true', e, false_or] at h1
        symm
        refine upd_ne (fun ht2 => ?_)
        obtain rfl := Option.some.inj ht2
        rw [List.contains_iff_mem.2 ht] at h1
        cases h1
    have h := hend _ w hst hd'
    have hcons : l.drop sp.length = om :: l.drop (sp.length + 1) := by
      obtain ⟨hl, he⟩ := List.getElem?_eq_some_iff.1 hom
      rw [← he]
      exact (List.getElem_cons_drop hl).symm
    rw [hcons] at h
    have hput : (A us).put of.dst v = A (upd us (some df) v) := by
      rw [← hA us, hd2, over_put (fun t ht => by cases ht; exact hdf), hA]
    have hrest : ∀ a w, wpOps P l.toArray Q (List.range' (sp.length + 1) (l.length - (sp.length + 1))) a w = wpList P l.toArray Q (l.drop (sp.length + 1)) a w := by
      intro a w
      have e := wpOps_eq_wpList (P := P) (ops := l.toArray) (Q := Q) (l.drop (sp.length + 1)) (sp.length + 1) (fun j => by simp [List.getElem?_drop])
      rw [List.length_drop] at e
      rw [e]
    have hx' := (hxy us v).1
    have hy' := (hxy us v).2
    have hex : execOp (A us).eval om = execOp (A (upd us (some df) v)).eval om := by
      unfold execOp
      simp only [ho1, hx', hy']
    have hom' : l.toArray[sp.length]? = some om := by simpa using hom
    have hof' : l.toArray[f]? = some of := by simpa using hof
    unfold wpList at h
    rw [if_pos (by simp [Region.wanted, hg1])] at h
    rw [wpOps_cons]
    unfold wpOp
    rw [hom']
    simp only
    rw [if_pos (by simp [Region.wanted, hg1])]
    rcases h with h | ⟨h, hq⟩
    · refine Or.inl ?_
      rw [wp_store_eq ty x y ho1 g cells (hx'.trans e1) (hy'.trans e2) t old e3 e4 e5 e6, hd1] at h
      rw [wp_store_eq ty x y ho1 g cells e1 e2 t old e3 e4 e5 e6, hd1]
      show wpOps P l.toArray Q (f :: _) (A us) _
      rw [wpOps_cons]
      unfold wpOp
      rw [hof']
      simp only
      rw [if_pos (by simp [Region.wanted, hg2])]
      refine Or.inl ?_
      unfold Oper.wp
      rw [hv]
      show wpOps P l.toArray Q _ ((A us).put of.dst v) _
      rw [hput, hrest]
      exact h
    · refine Or.inr ⟨?_, hq⟩
      unfold Oper.asks at h ⊢
      rw [hex]
      exact h

end Go.Proofs.YtlcglclojlffgaaGreatDoor
namespace Go.Proofs.YtlcglclojlffgaaGreatDoor
open Go.RowKit

theorem Meth.at {T : TypeId} {r : Value} {name : String} {f : FuncId} (h : Meth T r name f) (n : Nat) (W : World) (hn : 0 < n) : Sem.run Tryz.prog (method n T r name) W = .ok (f, r) W := by
  obtain ⟨k, rfl⟩ : ∃ k, n = k + 1 := ⟨n - 1, by omega⟩
  exact h.1 k W
theorem invoke_run0 {a : Act} {o : Oper} (k : Nat) (name : String) (tys : Array TypeId) (ho : o.op = .call { callee := .invoke (.tmp k) name, args := #[], argTypes := tys }) (T : TypeId) (r : Value) (f : FuncId) (hx : a.eval (.tmp k) = .iface T r) (hm : Meth T r name f) (w : World) :
    (execOp a.eval o).run Tryz.prog w = .ok (.enter f #[r]) w := by
  simp only [Act.eval] at hx
  simp [go_sem, execOp, ho, hx, Act.eval, hm.at, hm.2.1]
theorem invoke_run1 {a : Act} {o : Oper} (k j : Nat) (name : String) (tys : Array TypeId) (ho : o.op = .call { callee := .invoke (.tmp k) name, args := #[.tmp j], argTypes := tys }) (T : TypeId) (r u : Value) (f : FuncId) (hx : a.eval (.tmp k) = .iface T r) (hu : a.eval (.tmp j) = u) (hm : Meth T r name f) (w : World) :
    (execOp a.eval o).run Tryz.prog w = .ok (.enter f #[r, u]) w := by
  simp only [Act.eval] at hx hu
  simp [go_sem, execOp, ho, hx, hu, Act.eval, hm.at, hm.2.1]
theorem Meth.nil {T : TypeId} {r : Value} {name : String} {f : FuncId} (h : Meth T r name f) (n : Nat) (W : World) (hn : 0 < n) : Sem.run Tryz.prog (nilAhead n T r name) W = .ok (some false) W := by
  obtain ⟨k, rfl⟩ : ∃ k, n = k + 1 := ⟨n - 1, by omega⟩
  exact h.2.2 k W
theorem nilCheck_run {a : Act} {o : Oper} (k : Nat) (name : String) (ho : o.op = .nilCheck (.tmp k)) (T : TypeId) (r : Value) (f : FuncId) (hx : a.eval (.tmp k) = .func (.method name) #[.iface T r] #[]) (hm : Meth T r name f) (w : World) :
    (execOp a.eval o).run Tryz.prog w = .ok (.value (.func (.method name) #[.iface T r] #[])) w := by
  simp only [Act.eval] at hx
  simp [go_sem, execOp, ho, hx, Act.eval, hm.nil]
/-- that a method's receiver is there, in a walk that keeps a class of worlds -/
theorem quiet_nil {ops : Array Oper} {C : World → Prop} {Q : Act → Prop} {a : Act} {o : Oper} {rest : List Oper} (hg : Region.wanted o (yielded ops a.tmps) = true) (k : Nat) (name : String)
    (ho : o.op = .nilCheck (.tmp k)) (T : TypeId) (r : Value) (f : FuncId) (hx : a.eval (.tmp k) = .func (.method name) #[.iface T r] #[]) (hm : Meth T r name f)
    (h : wpQuiet Tryz.prog ops C Q rest (a.put o.dst (.func (.method name) #[.iface T r] #[]))) : wpQuiet Tryz.prog ops C Q (o :: rest) a := by
  refine BigFrame.wpQuiet_want hg (fun K hK => ⟨_, fun w hw => ?_, hK _ h⟩)
  unfold Oper.quietAt
  rw [nilCheck_run k name ho T r f hx hm w]
  exact ⟨rfl, rfl⟩
/-- a call of a method by an interface, in a walk that keeps a class of worlds -/
theorem quiet_invoke0 {ops : Array Oper} {C : World → Prop} {Q : Act → Prop} {a : Act} {o : Oper} {rest : List Oper} (hg : Region.wanted o (yielded ops a.tmps) = true) (k : Nat) (name : String) (tys : Array TypeId)
    (ho : o.op = .call { callee := .invoke (.tmp k) name, args := #[], argTypes := tys }) (T : TypeId) (r : Value) (f : FuncId) (v : Value) (hx : a.eval (.tmp k) = .iface T r) (hm : Meth T r name f)
    (hc : ∀ w, C w → Calls Tryz.prog f #[r] w fun e w' => e = .returned v ∧ C w') (h : wpQuiet Tryz.prog ops C Q rest (a.put o.dst v)) : wpQuiet Tryz.prog ops C Q (o :: rest) a := by
  refine BigFrame.wpQuiet_want hg (fun K hK => ⟨v, fun w hw => ?_, hK _ h⟩)
  unfold Oper.quietAt
  rw [invoke_run0 k name tys ho T r f hx hm w]
  exact ⟨rfl, hc w hw⟩
theorem quiet_invoke1 {ops : Array Oper} {C : World → Prop} {Q : Act → Prop} {a : Act} {o : Oper} {rest : List Oper} (hg : Region.wanted o (yielded ops a.tmps) = true) (k j : Nat) (name : String) (tys : Array TypeId)
    (ho : o.op = .call { callee := .invoke (.tmp k) name, args := #[.tmp j], argTypes := tys }) (T : TypeId) (r u : Value) (f : FuncId) (v : Value) (hx : a.eval (.tmp k) = .iface T r) (hu : a.eval (.tmp j) = u) (hm : Meth T r name f)
    (hc : ∀ w, C w → Calls Tryz.prog f #[r, u] w fun e w' => e = .returned v ∧ C w') (h : wpQuiet Tryz.prog ops C Q rest (a.put o.dst v)) : wpQuiet Tryz.prog ops C Q (o :: rest) a := by
  refine BigFrame.wpQuiet_want hg (fun K hK => ⟨v, fun w hw => ?_, hK _ h⟩)
  unfold Oper.quietAt
  rw [invoke_run1 k j name tys ho T r u f hx hu hm w]
  exact ⟨rfl, hc w hw⟩

end Go.Proofs.YtlcglclojlffgaaGreatDoor
