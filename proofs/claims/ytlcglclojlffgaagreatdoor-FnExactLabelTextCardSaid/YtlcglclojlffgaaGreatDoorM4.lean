import Derived.Test.YtlcglclojlffgaaGreatDoorM3
import Derived.Test.YtlcglclojlffgaaGreatDoorM2
import Derived.Test.YtlcglclojlffgaaGreatDoorM0
import Derived.Test.YtlcglclojlffgaaGreatDoorM1
import Derived.Laws.AppendOwnNone
import Derived.Deep.RegionHeld3
import Derived.Laws.EntriesVeiled
import Derived.BigQuiet
namespace Go.Proofs.YtlcglclojlffgaaGreatDoor
open Go.RowKit

/-- a field of power 1, in two numbers -/
abbrev gV (p g : Int) : Value := .agg #[.int .i64 p, .int .i64 1, .int .i64 g]
theorem spIn_any (n lo hi : Int) (w : World) :
    Calls Tryz.prog 44 #[.int .i64 n, .int .i64 lo, .int .i64 hi] w fun e w' => e = .returned (.bool (inB n lo hi)) ∧ w = w' := by
  rw [inB]
  by_cases h1 : lo ≤ n
  · by_cases h2 : n ≤ hi
    · rw [decide_eq_true ⟨h1, h2⟩]
      go_enter Tryz.func44, Tryz.ntmps44
      go_wp2_with fail
      go_ret
      exact ⟨rfl, rfl⟩
    · rw [decide_eq_false (fun h => h2 h.2)]
      go_enter Tryz.func44, Tryz.ntmps44
      go_wp2_with fail
      go_ret
      exact ⟨rfl, rfl⟩
  · rw [decide_eq_false (fun h => h1 h.1)]
    go_enter Tryz.func44, Tryz.ntmps44
    go_wp2_with fail
    go_ret
    exact ⟨rfl, rfl⟩
theorem spSize1_any (p g : Int) (w : World) :
    Calls Tryz.prog 122 #[gV p g] w fun e w' => e = .returned (.int .i64 p) ∧ Below w.heap.size w w' := by
  go_enter Tryz.func122, Tryz.ntmps122
  go_wp2_with fail
  go_ret
  exact ⟨rfl, ba1 _ _⟩
theorem spMul1_any (p g x y : Int) (hp : 2 ≤ p) (hp2 : p ≤ 1021) (hx : 0 ≤ x ∧ x ≤ 1021) (hy : 0 ≤ y ∧ y ≤ 1021) (w : World) :
    Calls Tryz.prog 133 #[gV p g, .int .i64 x, .int .i64 y] w fun e w' => (∃ z : Int, 0 ≤ z ∧ z < p ∧ e = .returned (.int .i64 z)) ∧ Below w.heap.size w w' := by
  have h1 : 0 ≤ x * y := Int.mul_nonneg hx.1 hy.1
  have h2 : x * y ≤ 1021 * 1021 := Int.mul_le_mul hx.2 hy.2 hy.1 (by omega)
  obtain ⟨m, hm⟩ : ∃ m, m = x * y := ⟨_, rfl⟩
  rw [← hm] at h1 h2
  have hw : IntKind.i64.wrap (x * y) = m := by rw [← hm, IntKind.wrap_i64]; omega
  have hw2 : wrap64 (x * y) = m := by rw [← hm]; unfold wrap64; omega
  have hr1 : 0 ≤ m % p := Int.emod_nonneg _ (by omega)
  have hr2 : m % p < p := Int.emod_lt_of_pos _ (by omega)
  clear hm
  go_enter Tryz.func133, Tryz.ntmps133
  go_wp2_with fail
  go_ret
  exact ⟨⟨m % p, hr1, hr2, rfl⟩, ba1 _ _⟩
set_option maxRecDepth 100000 in
set_option maxHeartbeats 1000000 in
theorem spPrime_any (n : Int) (h1 : 3 ≤ n) (h2 : n ≤ 1021) (w : World) :
    Calls Tryz.prog 119 #[.int .i64 n] w fun e w' => (∃ b, e = .returned (.bool b)) ∧ w = w' := by
  go_enter Tryz.func119, Tryz.ntmps119
  go_wp2_with fail
  go_loopw [3] (fun i wr => ∃ d : Nat, 2 ≤ d ∧ d ≤ 40 ∧ i = .int .i64 d ∧ wr = w) (fun i _ => 41 - (intOf i).toNat)
  case atStart => exact ⟨2, by omega, by omega, rfl, rfl⟩
  case round =>
    obtain ⟨d, hd1, hd2, rfl, rfl⟩ := hrel
    have hm : (d : Int) * (d : Int) = ((d * d : Nat) : Int) := by push_cast; rfl
    obtain ⟨q, hq⟩ : ∃ q, q = d * d := ⟨_, rfl⟩
    rw [← hq] at hm
    have hqb : q ≤ 1600 := by rw [hq]; exact Nat.mul_le_mul hd2 hd2
    have hd33 : (q : Int) ≤ n → d < 40 := fun h => by
      apply Classical.byContradiction
      intro hc
      have : d = 40 := by omega
      subst this
      omega
    clear hq
    by_cases hle : (q : Int) ≤ n
    · have hd := hd33 hle
      obtain ⟨r, hr⟩ : ∃ r, r = n % (d : Int) := ⟨_, rfl⟩
      by_cases hz : r = 0
      · have hz2 : n % (d : Int) = 0 := by rw [← hr, hz]
        clear hr hz
        go_wp2_with fail
        go_ret
        exact ⟨⟨_, rfl⟩, rfl⟩
      · have hz2 : ¬ n % (d : Int) = 0 := by rw [← hr]; exact hz
        clear hr hz
        go_wp2_with fail
        exact ⟨⟨d + 1, by omega, by omega, by push_cast; rfl, trivial⟩, by simp [intOf]; omega⟩
    · have h22 : 2 ≤ n := by omega
      go_wp2_with fail
      go_ret
      exact ⟨.inr rfl, rfl⟩

set_option maxRecDepth 100000 in
set_option maxHeartbeats 2000000 in
theorem spRuns1_any (p g x : Int) (hp : 3 ≤ p) (hp2 : p ≤ 1021) (hx : 0 ≤ x ∧ x ≤ 1021) (w : World) :
    Calls Tryz.prog 120 #[gV p g, .int .i64 x] w fun e w' => (∃ b, e = .returned (.bool b)) ∧ Below w.heap.size w w' := by
  go_enter Tryz.func120, Tryz.ntmps120
  go_wp2_with fail
  have hz := push_at w (.cells #[.int .i64 p, .int .i64 1, .int .i64 g] 121 (0, 0))
  have HB0 := Lib.hid (ba1 w (.cells #[.int .i64 p, .int .i64 1, .int .i64 g] 121 (0, 0)))
  obtain ⟨w1, hw1⟩ : ∃ w1, w1 = w.alloc (.cells #[.int .i64 p, .int .i64 1, .int .i64 g] 121 (0, 0)) := ⟨_, rfl⟩
  rw [← hw1] at hz HB0 ⊢
  have HX1 := Lib.hid hz
  clear hw1 hz
  go_loopw [5, 6] (fun y m wr => ∃ (n : Nat) (z : Int), 1 ≤ n ∧ n ≤ 1022 ∧ m = .int .i64 n ∧ y = .int .i64 z ∧ (0 ≤ z ∧ z ≤ 1021) ∧ wr.heap[w.heap.size]? = some (.cells #[.int .i64 p, .int .i64 1, .int .i64 g] 121 (0, 0)) ∧ Below w.heap.size w wr) (fun _ m _ => 1023 - (intOf m).toNat)
  case atStart => exact ⟨1, x, Nat.le_refl _, by omega, rfl, rfl, hx, HX1.out, HB0.out⟩
  case round =>
    obtain ⟨n, z, hn1, hn2, rfl, rfl, hzb, hx', hb⟩ := hrel
    have HX := Lib.hid hx'
    have HB := Lib.hid hb
    obtain ⟨hcA, hfA⟩ := heap_cellR HX.out
    have hltA := blkLt HX.out
    clear hx' hb
    by_cases hz1 : z = 1
    · subst hz1
      go_wp2_with fail
      refine (spSize1_any p g wr).mono ?_
      rintro e w2 ⟨rfl, hb2⟩
      have HB2 := Lib.hid (bt0 HB.out hb2 (Nat.le_refl _))
      clear hb2
      go_wp2_with fail
      go_ret
      exact ⟨⟨_, rfl⟩, HB2.out⟩
    · have hx1b : (z != 1) = true := by rw [bne_iff_ne]; exact hz1
      have hx1c : (z == 1) = false := by rw [beq_eq_false_iff_ne]; exact hz1
      by_cases hz0 : z = 0
      · subst hz0
        clear hx1b hx1c
        go_wp2_with fail
        go_ret
        exact ⟨⟨_, rfl⟩, HB.out⟩
      · have hx0b : (z != 0) = true := by rw [bne_iff_ne]; exact hz0
        go_wp2_with fail
        refine (spSize1_any p g wr).mono ?_
        rintro e w2 ⟨rfl, hb2⟩
        have HX2 := Lib.hid (blkK hb2 HX.out)
        have HB2 := Lib.hid (bt0 HB.out hb2 (Nat.le_refl _))
        clear hb2 hcA hfA hltA
        by_cases hni : (n : Int) < p
        · obtain ⟨hcA, hfA⟩ := heap_cellR HX2.out
          have hltA := blkLt HX2.out
          go_wp2_with fail
          refine (spMul1_any p g z x (by omega) hp2 hzb hx w2).mono ?_
          rintro e w3 ⟨⟨z2, hz21, hz22, rfl⟩, hb3⟩
          have HX3 := Lib.hid (blkK hb3 HX2.out)
          have HB3 := Lib.hid (bt0 HB2.out hb3 (Nat.le_refl _))
          clear hb3
          go_wp2_with fail
          exact ⟨⟨n + 1, z2, by omega, by omega, by push_cast; rfl, rfl, ⟨hz21, by omega⟩, HX3.out, HB3.out⟩, by simp [intOf]; omega⟩
        · go_wp2_with fail
          go_ret
          exact ⟨⟨_, rfl⟩, HB2.out⟩

end Go.Proofs.YtlcglclojlffgaaGreatDoor
namespace Go.Proofs.YtlcglclojlffgaaGreatDoor
open Go.RowKit

/-- the reference says whether a field is valid: exactly so for a field whose power is not 1 -/
def RetFld (p k g : Int) (w : World) (e : Ending) (w' : World) : Prop := ∃ b, e = .returned (.bool b) ∧ (k ≠ 1 → b = fldB p k g) ∧ (k = 1 → b = true → 3 ≤ p) ∧ Below w.heap.size w w'
theorem retFld_no {p k g : Int} {w w' : World} (hb : Below w.heap.size w w') (h : fldB p k g = false) : RetFld p k g w (.returned (.bool false)) w' := ⟨false, rfl, fun _ => h.symm, fun _ e => (by cases e), hb⟩
theorem retFld_1 {p g : Int} {w w' : World} {b : Bool} (hb : Below w.heap.size w w') (h : 3 ≤ p) : RetFld p 1 g w (.returned (.bool b)) w' := ⟨b, rfl, fun e => absurd rfl e, fun _ _ => h, hb⟩
theorem fldB_1 (p g : Int) : fldB p 1 g = false := by simp [fldB]
set_option maxRecDepth 100000 in
set_option maxHeartbeats 2000000 in
theorem spField1_any (p g : Int) (w : World) :
    Calls Tryz.prog 105 #[gV p g] w (RetFld p 1 g w) := by
  have HN := Lib.hid (fldB_1 p g)
  go_enter Tryz.func105, Tryz.ntmps105
  go_wp2_with fail
  have hz := push_at w (.cells #[.int .i64 p, .int .i64 1, .int .i64 g] 121 (0, 0))
  have HB0 := Lib.hid (ba1 w (.cells #[.int .i64 p, .int .i64 1, .int .i64 g] 121 (0, 0)))
  obtain ⟨w1, hw1⟩ : ∃ w1, w1 = w.alloc (.cells #[.int .i64 p, .int .i64 1, .int .i64 g] 121 (0, 0)) := ⟨_, rfl⟩
  rw [← hw1] at hz HB0 ⊢
  have HX1 := Lib.hid hz
  obtain ⟨hcA, hfA⟩ := heap_cellR hz
  have hltA := blkLt hz
  clear hw1 hz
  refine (spIn_any p 3 1021 w1).mono ?_
  rintro e w2 ⟨rfl, rfl⟩
  by_cases h1 : 3 ≤ p ∧ p ≤ 1021
  · rw [inB, decide_eq_true h1]
    go_wp2_with fail
    refine (spPrime_any p h1.1 h1.2 w1).mono ?_
    rintro e w2 ⟨⟨b1, rfl⟩, rfl⟩
    cases b1 with
    | false =>
      go_wp2_with fail
      go_ret
      exact retFld_no HB0.out HN.out
    | true =>
      have hw : wrap64 (p - 1) = p - 1 := by unfold wrap64; omega
      go_wp2_with fail
      refine (spIn_any g 1 (p - 1) w1).mono ?_
      rintro e w2 ⟨rfl, rfl⟩
      by_cases h2 : 1 ≤ g ∧ g ≤ p - 1
      · rw [inB, decide_eq_true h2]
        obtain ⟨h21, h22⟩ := h2
        obtain ⟨h11, h12⟩ := h1
        clear hw
        go_wp2_with fail
        clear hcA hfA hltA
        go_loopw [3] (fun i wr => ∃ d : Int, 1 ≤ d ∧ d ≤ g ∧ i = .int .i64 d ∧ wr.heap[w.heap.size]? = some (.cells #[.int .i64 p, .int .i64 1, .int .i64 g] 121 (0, 0)) ∧ Below w.heap.size w wr) (fun i _ => (g - intOf i).toNat)
        case atStart => exact ⟨1, Int.le_refl _, h21, rfl, HX1.out, HB0.out⟩
        case round =>
          obtain ⟨d, hd1, hd2, rfl, hx', hb⟩ := hrel
          have HX := Lib.hid hx'
          have HB := Lib.hid hb
          obtain ⟨hcA, hfA⟩ := heap_cellR HX.out
          have hltA := blkLt HX.out
          clear hx' hb
          by_cases hdg : d < g
          · go_wp2_with fail
            refine (spRuns1_any p g d h11 h12 (by omega) wr).mono ?_
            rintro e w2 ⟨⟨b2, rfl⟩, hb2⟩
            have HX2 := Lib.hid (blkK hb2 HX.out)
            have HB2 := Lib.hid (bt0 HB.out hb2 (Nat.le_refl _))
            clear hb2 hcA hfA hltA
            cases b2 with
            | true =>
              go_wp2_with fail
              go_ret
              exact retFld_no HB2.out HN.out
            | false =>
              go_wp2_with fail
              exact ⟨⟨d + 1, by omega, by omega, rfl, HX2.out, HB2.out⟩, by simp [intOf]; omega⟩
          · go_wp2_with fail
            refine (spRuns1_any p g g h11 h12 (by omega) wr).mono ?_
            rintro e w2 ⟨⟨b2, rfl⟩, hb2⟩
            have HB2 := Lib.hid (bt0 HB.out hb2 (Nat.le_refl _))
            clear hb2
            go_wp2_with fail
            go_ret
            exact retFld_1 HB2.out h11
      · rw [inB, decide_eq_false h2]
        clear hw
        go_wp2_with fail
        go_ret
        exact retFld_no HB0.out HN.out
  · rw [inB, decide_eq_false h1]
    go_wp2_with fail
    go_ret
    exact retFld_no HB0.out HN.out

/-- the field that the numbers say, when they lie as they should -/
theorem fdB_of {k g : Int} (hk : 3 ≤ k ∧ k ≤ 8) (hg : ((2 ^ k.toNat : Nat) : Int) ≤ g ∧ g ≤ ((2 * 2 ^ k.toNat : Nat) : Int) - 1) : FdB (bF k.toNat g.toNat) := by
  have h8 : 2 ^ 3 ≤ 2 ^ k.toNat := Nat.pow_le_pow_right (by omega) (by omega)
  refine ⟨rfl, ?_, ?_, ⟨?_, ?_, ?_⟩⟩
  · show 3 ≤ k.toNat; omega
  · show k.toNat ≤ 8; omega
  · show 3 ≤ 2 ^ k.toNat; omega
  · intro _
    refine ⟨rfl, ?_, ?_⟩
    · show 2 ^ k.toNat ≤ g.toNat; omega
    · show g.toNat < 2 ^ (k.toNat + 1); rw [Nat.pow_succ]; omega
  · intro h; cases h
theorem pow_small2 {k : Nat} (h : k ≤ 8) : wrap64 (2 * 2 ^ k) = 2 * ((2 ^ k : Nat) : Int) := by
  have h1 : 2 ^ k ≤ 2 ^ 8 := Nat.pow_le_pow_right (n := 2) (by omega) h
  have e : (2 ^ k : Int) = ((2 ^ k : Nat) : Int) := by push_cast; rfl
  rw [e]
  generalize 2 ^ k = q at *
  unfold wrap64; omega
set_option maxRecDepth 100000 in
set_option maxHeartbeats 2000000 in
theorem spField2_any (p k g : Int) (hk1 : k ≠ 1) (w : World) :
    Calls Tryz.prog 105 #[.agg #[.int .i64 p, .int .i64 k, .int .i64 g]] w (RetFld p k g w) := by
  by_cases hp : p = 2
  · subst hp
    by_cases hk : 3 ≤ k ∧ k ≤ 8
    · obtain ⟨n, rfl⟩ : ∃ n : Nat, k = n := ⟨k.toNat, by omega⟩
      have hn8 : n ≤ 8 := by omega
      have hw1 := pow_small hn8
      have hw2 := pow_small2 hn8
      obtain ⟨q, hq⟩ : ∃ q, q = 2 ^ n := ⟨_, rfl⟩
      have HQ := Lib.hid hq
      have hq8 : q ≤ 256 := by rw [hq]; exact Nat.le_trans (Nat.pow_le_pow_right (n := 2) (by omega) hn8) (by decide)
      rw [← hq] at hw1 hw2
      clear hq
      have hw3 : wrap64 (2 * (q : Int) - 1) = 2 * (q : Int) - 1 := by unfold wrap64; omega
      go_enter Tryz.func105, Tryz.ntmps105
      go_wp2_with fail
      have hz := push_at w (.cells #[.int .i64 2, .int .i64 (n : Int), .int .i64 g] 121 (0, 0))
      have HB0 := Lib.hid (ba1 w (.cells #[.int .i64 2, .int .i64 (n : Int), .int .i64 g] 121 (0, 0)))
      obtain ⟨w1, hw1'⟩ : ∃ w1, w1 = w.alloc (.cells #[.int .i64 2, .int .i64 (n : Int), .int .i64 g] 121 (0, 0)) := ⟨_, rfl⟩
      rw [← hw1'] at hz HB0 ⊢
      obtain ⟨hcA, hfA⟩ := heap_cellR hz
      have hltA := blkLt hz
      clear hw1' hz
      refine (spIn_any n 3 8 w1).mono ?_
      rintro e w2 ⟨rfl, rfl⟩
      rw [inB, decide_eq_true hk]
      go_wp2_with fail
      refine (spIn_any g q (2 * q - 1) w1).mono ?_
      rintro e w2 ⟨rfl, rfl⟩
      by_cases hg : (q : Int) ≤ g ∧ g ≤ 2 * q - 1
      · rw [inB, decide_eq_true hg]
        have hfd : FdB (bF n g.toNat) := by
          have h1 := fdB_of (k := (n : Int)) (g := g) hk (by
            have h2 := HQ.out
            rw [show ((n : Int)).toNat = n from rfl]
            generalize 2 ^ n = z at *
            omega)
          exact h1
        have HFD := Lib.hid hfd
        have HRS := Lib.hid (show fldB 2 n g = decide (bF n g.toNat).Runs by
          have h2 := HQ.out
          unfold fldB
          rw [show ((n : Int)).toNat = n from rfl, ← h2, decide_eq_true hk.1, decide_eq_true hk.2, decide_eq_true hg.1, decide_eq_true (show g < ((2 * q : Nat) : Int) by omega)]
          rfl)
        have hgn : ((g.toNat : Nat) : Int) = g := by omega
        have hcall := spRuns_any (bF n g.toNat) hfd w1
        rw [fV, show (bF n g.toNat).k = n from rfl, show (bF n g.toNat).g = g.toNat from rfl, hgn] at hcall
        have HC := Lib.hid hcall
        clear hcall hfd hgn hw1 hw2 hw3
        go_wp2_with fail
        refine HC.out.mono ?_
        rintro e w2 ⟨rfl, hb2⟩
        have HB2 := Lib.hid (bt0 HB0.out hb2 (Nat.le_refl _))
        clear hb2
        obtain ⟨R, hR⟩ : ∃ R, R = decide (bF n g.toNat).Runs := ⟨_, rfl⟩
        rw [← hR] at HRS ⊢
        clear hR
        go_wp2_with fail
        go_ret
        exact ⟨R, rfl, fun _ => HRS.out.symm, fun e => absurd e hk1, HB2.out⟩
      · rw [inB, decide_eq_false hg]
        have HN := Lib.hid (show fldB 2 n g = false by
          have h2 := HQ.out
          cases hb : fldB 2 n g with
          | false => rfl
          | true =>
            simp only [fldB, Bool.and_eq_true, decide_eq_true_eq] at hb
            rw [show ((n : Int)).toNat = n from rfl, ← h2] at hb
            exact absurd ⟨hb.1.1.2, by have := hb.1.2; omega⟩ hg)
        clear hw1 hw2 hw3
        go_wp2_with fail
        go_ret
        exact retFld_no HB0.out HN.out
    · have HN := Lib.hid (show fldB 2 k g = false by
        cases hb : fldB 2 k g with
        | false => rfl
        | true =>
          simp only [fldB, Bool.and_eq_true, decide_eq_true_eq] at hb
          exact absurd ⟨hb.1.1.1.1.2, hb.1.1.1.2⟩ hk)
      have hk1b : (k == 1) = false := by rw [beq_eq_false_iff_ne]; exact hk1
      go_enter Tryz.func105, Tryz.ntmps105
      go_wp2_with fail
      refine (spIn_any k 3 8 _).mono ?_
      rintro e w2 ⟨rfl, rfl⟩
      rw [inB, decide_eq_false hk]
      go_wp2_with fail
      go_ret
      exact retFld_no (ba1 _ _) HN.out
  · have HN := Lib.hid (show fldB p k g = false by simp [fldB, hp])
    have hk1b : (k == 1) = false := by rw [beq_eq_false_iff_ne]; exact hk1
    have hpb : (p != 2) = true := by rw [bne_iff_ne]; exact hp
    go_enter Tryz.func105, Tryz.ntmps105
    go_wp2_with fail
    go_ret
    exact retFld_no (ba1 _ _) HN.out

theorem spField_any (p k g : Int) (w : World) :
    Calls Tryz.prog 105 #[.agg #[.int .i64 p, .int .i64 k, .int .i64 g]] w (RetFld p k g w) := by
  by_cases h : k = 1
  · subst h; exact spField1_any p g w
  · exact spField2_any p k g h w
/-- the reference says yes to a valid binary field -/
theorem spField_yes {p k g : Int} (h : fldB p k g = true) (w : World) :
    Calls Tryz.prog 105 #[.agg #[.int .i64 p, .int .i64 k, .int .i64 g]] w fun e w' => e = .returned (.bool true) ∧ Below w.heap.size w w' := by
  refine (spField_any p k g w).mono ?_
  rintro e w' ⟨b, rfl, h1, -, hb⟩
  have hk : k ≠ 1 := fun e => by rw [e, fldB_1] at h; cases h
  rw [h1 hk, h]
  exact ⟨rfl, hb⟩

end Go.Proofs.YtlcglclojlffgaaGreatDoor
namespace Go.Proofs.YtlcglclojlffgaaGreatDoor
open Go.RowKit

set_option maxRecDepth 100000 in
theorem spPrime_32 (w : World) :
    Calls Tryz.prog 119 #[.int .i64 32] w fun e w' => e = .returned (.bool false) ∧ w = w' := by
  go_enter Tryz.func119, Tryz.ntmps119
  go_wp2_with fail
  go_loopw [3] (fun i wr => i = .int .i64 2 ∧ wr = w) (fun i _ => (intOf i).toNat)
  case atStart => exact ⟨rfl, rfl⟩
  case round =>
    obtain ⟨rfl, rfl⟩ := hrel
    go_wp2_with fail
    go_ret
    exact ⟨rfl, rfl⟩
theorem spField_bin (p k g : Int) (hk : k ≠ 1) (w : World) :
    Calls Tryz.prog 105 #[.agg #[.int .i64 p, .int .i64 k, .int .i64 g]] w fun e w' => e = .returned (.bool (fldB p k g)) ∧ Below w.heap.size w w' := by
  refine (spField_any p k g w).mono ?_
  rintro e w' ⟨b, rfl, h1, -, hb⟩
  rw [h1 hk]
  exact ⟨rfl, hb⟩
set_option maxRecDepth 100000 in
set_option maxHeartbeats 1000000 in
theorem spFieldOf_32 (w : World) :
    Calls Tryz.prog 103 #[.int .i64 32] w fun e w' => e = .returned (.tuple #[.agg #[.int .i64 2, .int .i64 5, .int .i64 37], .int .i64 0]) ∧ Below w.heap.size w w' := by
  go_enter Tryz.func103, Tryz.ntmps103
  go_wp2_with fail
  have hz := push_at w (.cells #[.int .i64 0, .int .i64 0, .int .i64 0] 121 (0, 0))
  have HB0 := Lib.hid (ba1 w (.cells #[.int .i64 0, .int .i64 0, .int .i64 0] 121 (0, 0)))
  obtain ⟨w1, hw1⟩ : ∃ w1, w1 = w.alloc (.cells #[.int .i64 0, .int .i64 0, .int .i64 0] 121 (0, 0)) := ⟨_, rfl⟩
  rw [← hw1] at hz HB0 ⊢
  have HX1 := Lib.hid hz
  clear hw1 hz
  refine (spIn_any 32 3 1021 w1).mono ?_
  rintro e w2 ⟨rfl, rfl⟩
  rw [show inB 32 3 1021 = true from rfl]
  go_wp2_with fail
  refine (spPrime_32 w1).mono ?_
  rintro e w2 ⟨rfl, rfl⟩
  go_wp2_with fail
  go_loopw [3, 6, 7, 8] (fun _ i _ _ wr => ∃ q : Nat, 3 ≤ q ∧ q ≤ 5 ∧ i = .int .i64 q ∧ wr = w1) (fun _ i _ _ _ => 6 - (intOf i).toNat)
  case atStart => exact ⟨3, by omega, by omega, rfl, rfl⟩
  case round =>
    obtain ⟨q, hq1, hq2, rfl, rfl⟩ := hrel
    by_cases hq : q = 5
    · subst hq
      rw [show ((5 : Nat) : Int) = (5 : Int) from rfl]
      obtain ⟨-, -, hg1, -, ht, hl⟩ := least5
      have HL := Lib.hid hl
      have HT := Lib.hid ht
      have hlt0 := blkLt HX1.out
      obtain ⟨W, hW⟩ : ∃ W : World, W = wr := ⟨_, rfl⟩
      subst hW
      clear hl ht hg1
      go_wp2_with fail
      go_loopw [3, 7, 8] (fun _ p _ wq => ∃ d : Nat, 32 ≤ d ∧ d ≤ 37 ∧ p = .int .i64 d ∧ Below W.heap.size W wq) (fun _ p _ _ => 38 - (intOf p).toNat)
      case atStart => exact ⟨32, by omega, by omega, rfl, Below.refl _ _⟩
      case round =>
        obtain ⟨d, hd1, hd2, rfl, hb2⟩ := hrel
        have HB := Lib.hid hb2
        have hlt2 : (d : Int) < 64 := by omega
        clear hb2
        by_cases hpg : d < 37
        · have HF := Lib.hid (show fldB 2 5 (d : Int) = false from HL.out d hd1 hpg)
          go_wp2_with fail
          refine (spField_bin _ _ _ (by decide) _).mono ?_
          rw [HF.out]
          rintro e w2 ⟨rfl, hb3⟩
          have HB2 := Lib.hid (bt0 HB.out (bt1 hb3) (Nat.le_refl _))
          clear hb3
          go_wp2_with fail
          exact ⟨⟨d + 1, by omega, by omega, by push_cast; rfl, HB2.out⟩, by simp [intOf]; omega⟩
        · obtain rfl : d = 37 := by omega
          go_wp2_with fail
          refine (spField_bin _ _ _ (by decide) _).mono ?_
          rw [show fldB 2 5 37 = true from HT.out]
          rintro e w2 ⟨rfl, hb3⟩
          obtain ⟨hx, hf⟩ := heap_cellR (blkK hb3 (push_at wr (.cells #[.int .i64 2, .int .i64 5, .int .i64 37] 121 (0, 0))))
          have HB2 := Lib.hid (bt0 HB.out (bt1 hb3) (Nat.le_refl _))
          obtain ⟨hr0, hf0⟩ := heap_cellR (blk HB2.out HX1.out hlt0)
          clear hb3
          go_wp2_with fail
          refine bodyPost_ret (v := .tuple #[.agg #[.int .i64 2, .int .i64 5, .int .i64 37], .int .i64 0]) (by simp [results, Tryz.results103, go_sem, hr0]) rfl ⟨rfl, ?_⟩
          iterate 3 (refine Below.setCell ?_ (by dsimp only; omega) _)
          exact HB0.out.trans (HB2.out.mono HB0.out.size)
    · have hq34 : q = 3 ∨ q = 4 := by omega
      rcases hq34 with rfl | rfl
      · go_wp2_with fail
        exact ⟨⟨4, by omega, by omega, rfl, trivial⟩, by simp [intOf]⟩
      · go_wp2_with fail
        exact ⟨⟨5, by omega, by omega, rfl, trivial⟩, by simp [intOf]⟩

end Go.Proofs.YtlcglclojlffgaaGreatDoor
namespace Go.Proofs.YtlcglclojlffgaaGreatDoor
open Go.RowKit

set_option maxRecDepth 100000 in
theorem least4 : Least 4 19 := by
  refine ⟨by decide, by decide, by decide, by decide, by decide +kernel, fun p h1 h2 => ?_⟩
  have h3 : p = 16 ∨ p = 17 ∨ p = 18 := by omega
  rcases h3 with rfl | rfl | rfl <;> decide +kernel
set_option maxRecDepth 100000 in
theorem least6 : Least 6 67 := by
  refine ⟨by decide, by decide, by decide, by decide, by decide +kernel, fun p h1 h2 => ?_⟩
  have h3 : p = 64 ∨ p = 65 ∨ p = 66 := by omega
  rcases h3 with rfl | rfl | rfl <;> decide +kernel
set_option maxRecDepth 100000 in
theorem least8_below : ∀ j : Fin 29, fldB 2 8 ((256 + j.val : Nat) : Int) = false := by decide +kernel
set_option maxRecDepth 100000 in
theorem least8 : Least 8 285 := by
  refine ⟨by decide, by decide, by decide, by decide, by decide +kernel, fun p h1 h2 => ?_⟩
  have h1' : 256 ≤ p := h1
  have h := least8_below ⟨p - 256, by omega⟩
  rwa [show 256 + (p - 256) = p by omega] at h
set_option maxHeartbeats 400000 in
theorem spPrime_even (n : Int) (w : World) (h1 : 4 ≤ n) (h2 : n ≤ 100000) (h3 : n % 2 = 0) :
    Calls Tryz.prog 119 #[.int .i64 n] w fun e w' => e = .returned (.bool false) ∧ w = w' := by
  have hd : decide (n < 2) = false := by simp; omega
  have he : (n % 2 == 0) = true := by rw [beq_iff_eq]; exact h3
  have he2 : n.tmod 2 = 0 := by rw [Int.tmod_eq_emod_of_nonneg (by omega)]; exact h3
  clear h3
  go_enter Tryz.func119, Tryz.ntmps119
  go_wp2_with fail
  go_loopw [3] (fun i wr => i = .int .i64 2 ∧ wr = w) (fun i _ => (intOf i).toNat)
  case atStart => exact ⟨rfl, rfl⟩
  case round =>
    obtain ⟨rfl, rfl⟩ := hrel
    go_wp2_with fail
    go_ret
    exact ⟨rfl, rfl⟩
set_option maxRecDepth 100000 in
set_option maxHeartbeats 1000000 in
theorem spFieldOf_any (S k g : Nat) (hS : S = 2 ^ k) (h : Least k g) (w : World) :
    Calls Tryz.prog 103 #[.int .i64 S] w fun e w' => e = .returned (.tuple #[.agg #[.int .i64 2, .int .i64 k, .int .i64 g], .int .i64 0]) ∧ Below w.heap.size w w' := by
  obtain ⟨h4, h8, hg1, hg2, hgt, hgl⟩ := h
  have hs16 : 2 ^ 4 ≤ 2 ^ k := Nat.pow_le_pow_right (by omega) h4
  have hs256 : 2 ^ k ≤ 2 ^ 8 := Nat.pow_le_pow_right (by omega) h8
  have hev : (S : Int) % 2 = 0 := by
    obtain ⟨j, rfl⟩ : ∃ j, k = j + 1 := ⟨k - 1, by omega⟩
    rw [hS, Nat.pow_succ]; omega
  have HE := Lib.hid hev
  rw [← hS] at hs16 hs256 hg1 hg2 hgl
  have HS := Lib.hid hS
  have HT := Lib.hid hgt
  have HL := Lib.hid hgl
  have hin : inB (S : Int) 3 1021 = true := inB_iff.2 (by omega)
  clear hev hS hgt hgl
  go_enter Tryz.func103, Tryz.ntmps103
  go_wp2_with fail
  have hz := push_at w (.cells #[.int .i64 0, .int .i64 0, .int .i64 0] 121 (0, 0))
  have HB0 := Lib.hid (ba1 w (.cells #[.int .i64 0, .int .i64 0, .int .i64 0] 121 (0, 0)))
  obtain ⟨w1, hw1⟩ : ∃ w1, w1 = w.alloc (.cells #[.int .i64 0, .int .i64 0, .int .i64 0] 121 (0, 0)) := ⟨_, rfl⟩
  rw [← hw1] at hz HB0 ⊢
  have HX1 := Lib.hid hz
  clear hw1 hz
  refine (spIn_any (S : Int) 3 1021 w1).mono ?_
  rintro e w2 ⟨rfl, rfl⟩
  rw [hin]
  go_wp2_with fail
  refine (spPrime_even (S : Int) w1 (by omega) (by omega) HE.out).mono ?_
  rintro e w2 ⟨rfl, rfl⟩
  go_wp2_with fail
  go_loopw [3, 6, 7, 8] (fun _ i _ _ wr => ∃ q : Nat, 3 ≤ q ∧ q ≤ k ∧ i = .int .i64 q ∧ wr = w1) (fun _ i _ _ _ => k - (intOf i).toNat)
  case atStart => exact ⟨3, by omega, by omega, rfl, rfl⟩
  case round =>
    obtain ⟨q, hq1, hq2, rfl, rfl⟩ := hrel
    obtain ⟨P, hP⟩ : ∃ P : Nat, P = 2 ^ q := ⟨_, rfl⟩
    have hPb : P ≤ S := by rw [hP, HS.out]; exact Nat.pow_le_pow_right (by omega) hq2
    have hw : wrap64 ((2 : Int) ^ q) = (P : Int) := by
      have hc : ((2 : Int) ^ q) = ((2 ^ q : Nat) : Int) := by push_cast; rfl
      rw [hc, ← hP]; unfold wrap64; omega
    have hk8 : (q : Int) ≤ 8 := by omega
    by_cases hlt : q < k
    · have hne : P < S := by rw [hP, HS.out]; exact Nat.pow_lt_pow_right (by omega) hlt
      have hb : (((S : Nat) : Int) != (P : Int)) = true := by rw [bne_iff_ne]; omega
      clear hP
      go_wp2_with fail
      exact ⟨⟨q + 1, by omega, by omega, by go_num, trivial⟩, by simp [intOf]; omega⟩
    · obtain rfl : q = k := by omega
      have hPS : P = S := by rw [hP, HS.out]
      subst hPS
      have hb : (((P : Nat) : Int) != (P : Int)) = false := by simp
      have hlt0 := blkLt HX1.out
      obtain ⟨W, hW⟩ : ∃ W : World, W = wr := ⟨_, rfl⟩
      subst hW
      clear hP
      go_wp2_with fail
      go_loopw [3, 7, 8] (fun _ p _ wq => ∃ d : Nat, P ≤ d ∧ d ≤ g ∧ p = .int .i64 d ∧ Below W.heap.size W wq) (fun _ p _ _ => g + 1 - (intOf p).toNat)
      case atStart => exact ⟨P, Nat.le_refl _, hg1, rfl, Below.refl _ _⟩
      case round =>
        obtain ⟨d, hd1, hd2, rfl, hb2⟩ := hrel
        clear hw
        have HB := Lib.hid hb2
        have hlt2 : decide ((d : Int) < 2 * (P : Int)) = true := by simp; omega
        clear hb2
        by_cases hpg : d < g
        · have HF := Lib.hid (show fldB 2 (q : Int) (d : Int) = false from HL.out d hd1 hpg)
          go_wp2_with fail
          refine (spField_bin _ _ _ (by omega) _).mono ?_
          rw [HF.out]
          rintro e w2 ⟨rfl, hb3⟩
          have HB2 := Lib.hid (bt0 HB.out (bt1 hb3) (Nat.le_refl _))
          clear hb3
          go_wp2_with fail
          exact ⟨⟨d + 1, by omega, by omega, by go_num, HB2.out⟩, by simp [intOf]; omega⟩
        · obtain rfl : d = g := by omega
          go_wp2_with fail
          refine (spField_bin _ _ _ (by omega) _).mono ?_
          rw [show fldB 2 (q : Int) (d : Int) = true from HT.out]
          rintro e w2 ⟨rfl, hb3⟩
          obtain ⟨hx, hf⟩ := heap_cellR (blkK hb3 (push_at wr (.cells #[.int .i64 2, .int .i64 (q : Int), .int .i64 (d : Int)] 121 (0, 0))))
          have HB2 := Lib.hid (bt0 HB.out (bt1 hb3) (Nat.le_refl _))
          obtain ⟨hr0, hf0⟩ := heap_cellR (blk HB2.out HX1.out hlt0)
          clear hb3
          go_wp2_with fail
          refine bodyPost_ret (v := .tuple #[.agg #[.int .i64 2, .int .i64 (q : Int), .int .i64 (d : Int)], .int .i64 0]) (by simp [results, Tryz.results103, go_sem, hr0]) rfl ⟨rfl, ?_⟩
          iterate 3 (refine Below.setCell ?_ (by dsimp only; omega) _)
          exact HB0.out.trans (HB2.out.mono HB0.out.size)

end Go.Proofs.YtlcglclojlffgaaGreatDoor
namespace Go.Proofs.YtlcglclojlffgaaGreatDoor
open Go.RowKit

/-- a block of numbers -/
def IntBlk (W : World) (b : Nat) (l : List Int) : Prop := W.heap[b]? = some (.cells (l.map (Value.int .i64)).toArray 2 (0, 0))
/-- the families' own row is no block of numbers -/
theorem own_ne_ints {W : World} {base : Nat} {v : Value} {xs : List FmR} {b : Nat} {l : List Int} (h : fmE.Own W base v xs) (hb : IntBlk W b l) : v.ownBlock ≠ some b := by
  intro e
  rcases h.2 with ⟨rfl, -⟩ | ⟨g, cap, cur, rfl, -, hg, -⟩
  · simp [Value.ownBlock] at e
  · simp only [Value.ownBlock, Option.some.injEq] at e
    subst e
    rw [hb] at hg
    simp only [Option.some.injEq, Obj.cells.injEq] at hg
    exact absurd hg.2.1 (by decide)
/-- the library while it is built -/
structure LibSt (w : World) (b0 b base : Nat) (T0 T : TypeId) (v : Value) (xs : List FmR) (W : World) : Prop where
  box : W.heap[b0]? = some (.cells #[.pointer (some ⟨b, 0, none⟩)] T0 (0, 0))
  once : OnceAt W b 0 1 v T
  own : fmE.Own W base v xs
  ints : ∀ y ∈ xs, IntBlk W y.b1 y.f.sizes ∧ IntBlk W y.b2 y.f.levels ∧ y.b1 ≠ b ∧ y.b2 ≠ b
  size : base ≤ W.heap.size
  low : Below 0 w W
  keep : ∀ j, j < base → j ≠ b → W.heap[j]? = w.heap[j]?

abbrev intsO (l : List Int) : Obj := .cells (l.map (Value.int .i64)).toArray 2 (0, 0)
theorem LibSt.step {w W W2 w' : World} {b0 b base : Nat} {T0 T : TypeId} {v v' : Value} {xs : List FmR} {y : FmR} (h : LibSt w b0 b base T0 T v xs W) (hb0 : b0 < base) (hb : b < base) (hbb : b0 ≠ b)
    (hy1 : y.b1 = W.heap.size) (hy2 : y.b2 = W.heap.size + 1) (hW2 : W2 = (W.alloc (intsO y.f.sizes)).alloc (intsO y.f.levels))
    (ho : fmE.Own w' base v' (xs ++ [y])) (h1 : OnceAt w' b 0 1 v' T) (hw : Below 0 W2 w') (hs : W2.heap.size ≤ w'.heap.size) (hk : ∀ j, j < W2.heap.size → j ≠ b → v.ownBlock ≠ some j → w'.heap[j]? = W2.heap[j]?) : LibSt w b0 b base T0 T v' (xs ++ [y]) w' := by
  have hB : Below W.heap.size W W2 := by rw [hW2]; exact ba2 _ _ _
  have h2 := heap2 W (intsO y.f.sizes) (intsO y.f.levels)
  rw [← hW2] at h2
  have hz : W2.heap.size = W.heap.size + 2 := by rw [hW2]; simp
  have hsz := h.size
  have hlo : ∀ j, j < base → v.ownBlock ≠ some j := fun j hj e => by have := h.own.lo j e; omega
  have hhi : ∀ j, W.heap.size ≤ j → v.ownBlock ≠ some j := fun j hj e => by have := h.own.hi j e; omega
  refine ⟨(hk b0 (by omega) hbb (hlo b0 hb0)).trans ((hB.block b0 (by omega)).trans h.box), h1, ho, ?_, by omega, (h.low.trans (hB.mono (Nat.zero_le _))).trans hw, fun j hj hjb => (hk j (by omega) hjb (hlo j hj)).trans ((hB.block j (by omega)).trans (h.keep j hj hjb))⟩
  intro z hz'
  rcases List.mem_append.1 hz' with hm | hm
  · obtain ⟨i1, i2, n1, n2⟩ := h.ints z hm
    have l1 := blkLt i1
    have l2 := blkLt i2
    exact ⟨(hk _ (by omega) n1 (own_ne_ints h.own i1)).trans ((hB.block _ l1).trans i1), (hk _ (by omega) n2 (own_ne_ints h.own i2)).trans ((hB.block _ l2).trans i2), n1, n2⟩
  · obtain rfl : z = y := by simpa using hm
    refine ⟨?_, ?_, by omega, by omega⟩
    · unfold IntBlk
      rw [hy1]
      exact (hk _ (by omega) (by omega) (hhi _ (Nat.le_refl _))).trans h2.1
    · unfold IntBlk
      rw [hy2]
      exact (hk _ (by omega) (by omega) (hhi _ (by omega))).trans h2.2

/-- one family more -/
theorem LibSt.call {w W : World} {b0 b base : Nat} {T0 T : TypeId} {v : Value} {xs : List FmR} (h : LibSt w b0 b base T0 T v xs W) (hb0 : b0 < base) (hb : b < base) (hbb : b0 ≠ b) (hl : xs.length ≤ 100)
    (f : Fam) (S k g : Nat) (hS : S = 2 ^ k) (hL : Least k g) (hf : f.fp = 2 ∧ f.fk = k ∧ f.fg = g) :
    Calls Tryz.prog 202 #[.string f.name, .int .i64 f.kind, .int .i64 S, .int .i64 f.cols, .slice (some ⟨W.heap.size, 0, none⟩) f.sizes.length f.sizes.length, .slice (some ⟨W.heap.size + 1, 0, none⟩) f.levels.length f.levels.length, .pointer (some ⟨b0, 0, none⟩)] ((W.alloc (intsO f.sizes)).alloc (intsO f.levels))
      fun e w' => e = .returned (.tuple #[]) ∧ ∃ v', LibSt w b0 b base T0 T v' (xs ++ [⟨f, W.heap.size, W.heap.size + 1⟩]) w' := by
  have hB := ba2 W (intsO f.sizes) (intsO f.levels)
  have hsz := h.size
  have hz : ((W.alloc (intsO f.sizes)).alloc (intsO f.levels)).heap.size = W.heap.size + 2 := by simp
  refine (addFm_any b0 b base T0 T v xs ⟨f, W.heap.size, W.heap.size + 1⟩ S k g hS hL hf _ ((hB.block b0 (by omega)).trans h.box) ((hB.block b (by omega)).trans h.once) hb0 hb hbb (by omega) (h.own.grown hB) hl).mono ?_
  rintro e w' ⟨rfl, v', ho, h1, hw, hs, hk⟩
  exact ⟨rfl, v', h.step hb0 hb hbb rfl rfl rfl ho h1 hw hs hk⟩

end Go.Proofs.YtlcglclojlffgaaGreatDoor
namespace Go.Proofs.YtlcglclojlffgaaGreatDoor
open Go.RowKit

set_option maxRecDepth 100000 in
set_option maxHeartbeats 2000000 in
/-- '(*shelf).build' -/
theorem build_any (b : Nat) (T : TypeId) (w : World) (h : OnceAt w b 0 1 (.slice none 0 0) T) :
    Calls Tryz.prog 186 #[.pointer (some ⟨b, 0, none⟩)] w fun e w' => e = .returned (.tuple #[]) ∧
      ∃ v xs w1, LibSt w1 w.heap.size b (w.heap.size + 1) 234 T v xs w' ∧ xs.map FmR.f = libF ∧ Below w.heap.size w w1 := by
  have hlt : b < w.heap.size := h.cells.2.2.2.2
  obtain ⟨w1, hw1⟩ : ∃ w1, w1 = w.alloc (.cells #[.pointer (some ⟨b, 0, none⟩)] 234 (0, 0)) := ⟨_, rfl⟩
  have HB := Lib.hid (show Below w.heap.size w w1 by rw [hw1]; exact ba1 _ _)
  have hz : w1.heap.size = w.heap.size + 1 := by rw [hw1]; simp
  have HS0 := Lib.hid (show LibSt w1 w.heap.size b (w.heap.size + 1) 234 T (.slice none 0 0) [] w1 from
    ⟨by rw [hw1]; exact push_at _ _, (HB.out.block b hlt).trans h, Enc.Own.nil _ _ _, fun _ h => by simp at h, by omega, Below.refl _ _, fun _ _ _ => rfl⟩)
  have HW1 := Lib.hid hw1
  clear hw1 h
  go_enter Tryz.func186, Tryz.ntmps186
  go_wp2_with fail
  have c0 := HS0.out.call (by omega) (by omega) (by omega) (by decide) (libF[0]'(by decide)) 16 4 19 rfl least4 ⟨rfl, rfl, rfl⟩
  rw [hz, HW1.out] at c0
  refine c0.mono ?_
  clear c0
  rintro e w2 ⟨rfl, v1, h1⟩
  have HS1 := Lib.hid h1
  clear h1
  go_wp2_with fail
  refine (HS1.out.call (by omega) (by omega) (by omega) (by simp) (libF[1]'(by decide)) 64 6 67 rfl least6 ⟨rfl, rfl, rfl⟩).mono ?_
  rintro e w3 ⟨rfl, v2, h2⟩
  have HS2 := Lib.hid h2
  clear h2
  go_wp2_with fail
  refine (HS2.out.call (by omega) (by omega) (by omega) (by simp) (libF[2]'(by decide)) 256 8 285 rfl least8 ⟨rfl, rfl, rfl⟩).mono ?_
  rintro e w4 ⟨rfl, v3, h3⟩
  have HS3 := Lib.hid h3
  clear h3
  go_wp2_with fail
  refine (HS3.out.call (by omega) (by omega) (by omega) (by simp) (libF[3]'(by decide)) 32 5 37 rfl least5 ⟨rfl, rfl, rfl⟩).mono ?_
  rintro e w5 ⟨rfl, v4, h4⟩
  have HS4 := Lib.hid h4
  clear h4
  go_wp2_with fail
  refine (HS4.out.call (by omega) (by omega) (by omega) (by simp) (libF[4]'(by decide)) 32 5 37 rfl least5 ⟨rfl, rfl, rfl⟩).mono ?_
  rintro e w6 ⟨rfl, v5, h5⟩
  have HS5 := Lib.hid h5
  clear h5
  go_wp2_with fail
  go_end0
  have H5 := HS5.out
  rw [← HW1.out] at H5
  exact ⟨rfl, v5, _, w1, H5, rfl, HB.out⟩

end Go.Proofs.YtlcglclojlffgaaGreatDoor
namespace Go.Proofs.YtlcglclojlffgaaGreatDoor
open Go.RowKit

set_option maxRecDepth 100000 in
set_option maxHeartbeats 2000000 in
/-- 'Library' -/
theorem library_any (w : World) :
    Calls Tryz.prog 178 #[] w fun e w' => ∃ v xs, e = .returned v ∧ xs.map FmR.f = libF ∧ fmE.Own w' w.heap.size v xs ∧ (∀ y ∈ xs, IntBlk w' y.b1 y.f.sizes ∧ IntBlk w' y.b2 y.f.levels) ∧ Below w.heap.size w w' := by
  obtain ⟨W, hW⟩ : ∃ W, W = w.alloc (.cells #[.int .u32 0, .int .i32 0, .int .u32 0, .slice none 0 0] 247 (0, 0)) := ⟨_, rfl⟩
  have h0 : OnceAt W w.heap.size 0 0 (.slice none 0 0) 247 := by rw [hW]; exact push_at _ _
  have hB : Below w.heap.size w W := by rw [hW]; exact ba1 _ _
  have hz : W.heap.size = w.heap.size + 1 := by rw [hW]; simp
  have h1 : OnceAt (W.setCell ⟨w.heap.size, 1, none⟩ (.int .i32 1)) w.heap.size 0 1 (.slice none 0 0) 247 := src_set h0 1 _
  have hb := build_any w.heap.size 247 _ h1
  have HD := Lib.hid (do_first w.heap.size 186 (.pointer (some ⟨w.heap.size, 0, none⟩)) _ 247 W (fun v w' => ∃ xs w1, LibSt w1 (W.setCell ⟨w.heap.size, 1, none⟩ (.int .i32 1)).heap.size w.heap.size ((W.setCell ⟨w.heap.size, 1, none⟩ (.int .i32 1)).heap.size + 1) 234 247 v xs w' ∧ xs.map FmR.f = libF ∧ Below (W.setCell ⟨w.heap.size, 1, none⟩ (.int .i32 1)).heap.size (W.setCell ⟨w.heap.size, 1, none⟩ (.int .i32 1)) w1) h0 (fun _ _ => by rfl)
    (hb.mono fun e w' ⟨he, v, xs, w1, a1, a2, a3⟩ => ⟨he, v, a1.once, xs, w1, a1, a2, a3⟩))
  have HW := Lib.hid hW
  clear hb hW
  go_enter Tryz.func178, Tryz.ntmps178
  go_wp2_with fail
  rw [← HW.out]
  refine HD.out.mono ?_
  rintro e w3 ⟨rfl, v, w2, ⟨xs, w1, hs, hx, hb⟩, hO, rfl⟩
  have hz2 : (W.setCell ⟨w.heap.size, 1, none⟩ (.int .i32 1)).heap.size = w.heap.size + 1 := by simp [hz]
  rw [hz2] at hs hb
  obtain ⟨a9, c9, rfl⟩ := hs.own.read
  have hX := src_set (src_set (show w2.drew.heap[w.heap.size]? = _ from hO) 0 (.int .u32 1)) 1 (.int .i32 0)
  have hown := ((hs.own.grown ((Below.refl _ _).drew)).src (Nat.lt_succ_of_lt (Nat.lt_succ_self _)) (grownBy_set _ _ 0 (.int .u32 1))).src (Nat.lt_succ_of_lt (Nat.lt_succ_self _)) (grownBy_set _ _ 1 (.int .i32 0))
  have hc := (heap_cellR hX).1 3
  have hI : ∀ z l, IntBlk w2 z l → z ≠ w.heap.size → IntBlk ((w2.drew.setCell ⟨w.heap.size, 0, none⟩ (.int .u32 1)).setCell ⟨w.heap.size, 1, none⟩ (.int .i32 0)) z l := fun z l h hne =>
    (heap_setCell_other _ ⟨w.heap.size, 1, none⟩ z _ (fun e => hne e)).trans ((heap_setCell_other _ ⟨w.heap.size, 0, none⟩ z _ (fun e => hne e)).trans h)
  have HI := Lib.hid (show ∀ y ∈ xs, IntBlk _ y.b1 y.f.sizes ∧ IntBlk _ y.b2 y.f.levels from fun y hy => ⟨hI _ _ (hs.ints y hy).1 (hs.ints y hy).2.2.1, hI _ _ (hs.ints y hy).2.1 (hs.ints y hy).2.2.2⟩)
  have HO := Lib.hid (hown.weak (show w.heap.size ≤ w.heap.size + 1 + 1 by omega))
  have HB9 : Hid (Below w.heap.size w ((w2.drew.setCell ⟨w.heap.size, 0, none⟩ (.int .u32 1)).setCell ⟨w.heap.size, 1, none⟩ (.int .i32 0))) := Lib.hid (by
    have h1 : Below w.heap.size w w1 := (hB.setCell (Nat.le_refl _) _).trans (hb.mono (by omega))
    have h2 : Below w.heap.size w1 w2 := ⟨hs.low.os, hs.low.tape, hs.low.output, hs.low.size, fun j hj => hs.keep j (by omega) (by omega)⟩
    exact ((h1.trans h2).drew.setCell (Nat.le_refl _) _).setCell (Nat.le_refl _) _)
  clear hI hown hs hb hB
  generalize ((w2.drew.setCell ⟨w.heap.size, 0, none⟩ (.int .u32 1)).setCell ⟨w.heap.size, 1, none⟩ (.int .i32 0)) = X at *
  have hc2 : X.cell? ⟨w.heap.size, 3, none⟩ = some (.slice a9 xs.length c9) := hc
  have hlt := blkLt hX
  clear hc hX
  go_wp2_with fail
  go_ret
  exact ⟨_, xs, rfl, hx, HO.out, HI.out, HB9.out⟩

end Go.Proofs.YtlcglclojlffgaaGreatDoor
namespace Go.Proofs.YtlcglclojlffgaaGreatDoor
open Go.RowKit

/-- a family in memory -/
theorem fm_at {w : World} {a : Option Addr} {l : List FmR} (h : fmE.At w a l) {i : Nat} {r : FmR} (hr : l[i]? = some r) : ∃ b o, a = some ⟨b, o, none⟩ ∧ b < w.heap.size ∧
    w.cell? ⟨b, o + i * 8, none⟩ = some (.string r.f.name) ∧ w.cell? ⟨b, o + i * 8 + 1, none⟩ = some (.int .i64 r.f.kind) ∧ w.cell? ⟨b, o + i * 8 + 2, none⟩ = some (.int .i64 r.f.fp) ∧ w.cell? ⟨b, o + i * 8 + 3, none⟩ = some (.int .i64 r.f.fk) ∧ w.cell? ⟨b, o + i * 8 + 4, none⟩ = some (.int .i64 r.f.fg) ∧
    w.cell? ⟨b, o + i * 8 + 5, none⟩ = some (.slice (some ⟨r.b1, 0, none⟩) r.f.sizes.length r.f.sizes.length) ∧ w.cell? ⟨b, o + i * 8 + 6, none⟩ = some (.int .i64 r.f.cols) ∧ w.cell? ⟨b, o + i * 8 + 7, none⟩ = some (.slice (some ⟨r.b2, 0, none⟩) r.f.levels.length r.f.levels.length) := by
  obtain ⟨b, o, e, hc⟩ := h i r hr
  have h0 : w.cell? ⟨b, o + i * 8, none⟩ = some (.string r.f.name) := hc 0 _ rfl
  exact ⟨b, o, e, lt_of_cell h0, h0, hc 1 _ rfl, hc 2 _ rfl, hc 3 _ rfl, hc 4 _ rfl, hc 5 _ rfl, hc 6 _ rfl, hc 7 _ rfl⟩
/-- a family as a value -/
abbrev fmA (f : Fam) (b1 b2 : Nat) : Value := .agg #[.string f.name, .int .i64 f.kind, .int .i64 f.fp, .int .i64 f.fk, .int .i64 f.fg, .slice (some ⟨b1, 0, none⟩) f.sizes.length f.sizes.length, .int .i64 f.cols, .slice (some ⟨b2, 0, none⟩) f.levels.length f.levels.length]
/-- a family with its lists is handed back, or none and a code -/
def RetFN (w : World) (o : Option Fam) (e : Ending) (w' : World) : Prop :=
  Below w.heap.size w w' ∧ ((∃ f b1 b2, o = some f ∧ e = .returned (.tuple #[fmA f b1 b2, .int .i64 0]) ∧ IntBlk w' b1 f.sizes ∧ IntBlk w' b2 f.levels) ∨
    (o = none ∧ e = .returned (.tuple #[.agg #[.string ⟨#[]⟩, .int .i64 0, .int .i64 0, .int .i64 0, .int .i64 0, .slice none 0 0, .int .i64 0, .slice none 0 0], .int .i64 4])))
theorem IntBlk.below {w w' : World} {b : Nat} {l : List Int} (h : IntBlk w b l) (hb : Below w.heap.size w w') : IntBlk w' b l := blkK hb h
theorem IntBlk.set {w : World} {z b i : Nat} {v : Value} {l : List Int} (h : IntBlk w z l) (hne : z ≠ b) : IntBlk (w.setCell ⟨b, i, none⟩ v) z l :=
  (heap_setCell_other _ ⟨b, i, none⟩ z _ (fun e => hne e)).trans h
theorem blk_ne {w : World} {b c : Nat} {l : List Int} {C : Array Value} {T : TypeId} (h : IntBlk w b l) (k : w.heap[c]? = some (.cells C T (0, 0))) (hT : T ≠ 2) : b ≠ c := by
  rintro rfl
  unfold IntBlk at h
  rw [k] at h
  injection h with h
  injection h with h1 h2
  exact hT h2
theorem IntBlk.at {w : World} {b : Nat} {l : List Int} (h : IntBlk w b l) : IntsAt w (some ⟨b, 0, none⟩) l := by
  intro i hi
  refine ⟨b, 0, rfl, ?_⟩
  rw [Nat.zero_add, (heap_cellR h).1]
  simp [hi]
theorem famN_map {xs : List FmR} (h : xs.map FmR.f = libF) (nm : ByteArray) : famN nm = (xs.find? fun r => decide (r.f.name = nm)).map FmR.f := by
  rw [famN, ← h, List.find?_map]; rfl
theorem find_hit {α : Type} {p : α → Bool} {xs : List α} {k : Nat} {x : α} (h : xs[k]? = some x) (hn : (xs.take k).find? p = none) (hp : p x = true) : xs.find? p = some x := by
  have hlt : k < xs.length := by rw [List.getElem?_eq_some_iff] at h; exact h.1
  have e : xs = xs.take k ++ x :: xs.drop (k + 1) := by
    rw [List.getElem?_eq_some_iff] at h
    obtain ⟨h1, rfl⟩ := h
    rw [List.getElem_cons_drop, List.take_append_drop]
  rw [e, List.find?_append, hn]
  simp [hp]
theorem find_miss {α : Type} {p : α → Bool} {xs : List α} {k : Nat} {x : α} (h : xs[k]? = some x) (hn : (xs.take k).find? p = none) (hp : p x = false) : (xs.take (k + 1)).find? p = none := by
  rw [take_snoc' h, List.find?_append, hn]
  simp [hp]

set_option maxRecDepth 100000 in
set_option maxHeartbeats 4000000 in
theorem familyNamed_any (nm : ByteArray) (w : World) :
    Calls Tryz.prog 174 #[.string nm] w (RetFN w (famN nm)) := by
  obtain ⟨O, hO⟩ : ∃ O, O = famN nm := ⟨_, rfl⟩
  have HO := Lib.hid hO
  rw [← hO]
  clear hO
  have HR0 := Lib.hid (push_at w (.cells #[.string ⟨#[]⟩, .int .i64 0, .int .i64 0, .int .i64 0, .int .i64 0, .slice none 0 0, .int .i64 0, .slice none 0 0] 123 (0, 0)))
  go_enter Tryz.func174, Tryz.ntmps174
  go_wp2_with fail
  refine (library_any _).mono ?_
  rintro e w1 ⟨v, xs, rfl, hx, ho, hi, hb⟩
  obtain ⟨a, c, rfl⟩ := ho.read
  have hl : xs.length = 5 := by have := congrArg List.length hx; simpa [libF] using this
  have HF := Lib.hid (HO.out.trans (famN_map hx nm))
  have HR1 := Lib.hid (blkK hb HR0.out)
  have HA := Lib.hid ho.at
  have HI := Lib.hid hi
  have HB1 := Lib.hid (bt1 hb)
  have hz1 : w.heap.size < w1.heap.size := blkLt HR1.out
  clear ho hi hb hx
  go_wp2_with fail
  go_loopw [8] (fun i wr => ∃ k : Nat, k ≤ xs.length ∧ i = .int .i64 k ∧ (xs.take k).find? (fun r => decide (r.f.name = nm)) = none ∧ Below w1.heap.size w1 wr) (fun i _ => xs.length - (intOf i).toNat)
  case atStart => exact ⟨0, Nat.zero_le _, rfl, rfl, Below.refl _ _⟩
  case round =>
    obtain ⟨k, hk, rfl, hnone, hbr⟩ := hrel
    have HNO := Lib.hid hnone
    have HBR := Lib.hid hbr
    have KR := Lib.hid (blkK hbr HR1.out)
    obtain ⟨hcR, hfR⟩ := heap_cellR KR.out
    have hltR := blkLt KR.out
    clear hnone hbr
    by_cases hlt : k < xs.length
    · have hki : (k : Int) < 5 := by omega
      obtain ⟨r, hr⟩ : ∃ r, xs[k]? = some r := by rw [List.getElem?_eq_getElem hlt]; exact ⟨_, rfl⟩
      have HXK := Lib.hid hr
      have hm := List.mem_of_getElem? hr
      obtain ⟨b, o, rfl, hbl, c0, c1, c2, c3, c4, c5, c6, c7⟩ := fm_at (HA.out.below HBR.out) hr
      by_cases hq : r.f.name = nm
      · have HD := Lib.hid (show O = some r.f by rw [HF.out, find_hit HXK.out HNO.out (decide_eq_true hq)]; rfl)
        have hqd : (r.f.name.toList == nm.toList) = true := by rw [hq]; simp
        have HJ := Lib.hid (HI.out r hm)
        clear hr hm
        have HBA := Lib.hid (HJ.out.1.below HBR.out)
        have HBC := Lib.hid (HJ.out.2.below HBR.out)
        have hn1 := blk_ne HBA.out KR.out (by decide)
        have hn2 := blk_ne HBC.out KR.out (by decide)
        clear hq
        go_wp2_with fail
        refine bodyPost_ret (v := .tuple #[.agg #[.string r.f.name, .int .i64 r.f.kind, .int .i64 r.f.fp, .int .i64 r.f.fk, .int .i64 r.f.fg, .slice (some ⟨r.b1, 0, none⟩) r.f.sizes.length r.f.sizes.length, .int .i64 r.f.cols, .slice (some ⟨r.b2, 0, none⟩) r.f.levels.length r.f.levels.length], .int .i64 0]) (by simp [results, Tryz.results174, go_sem, hcR, hltR]) rfl ⟨?_, .inl ⟨r.f, r.b1, r.b2, HD.out, rfl, ?_, ?_⟩⟩
        · refine Below.alloc ?_ (by simp; omega) _
          iterate 8 (refine Below.setCell ?_ (by dsimp only; omega) _)
          exact bt0 HB1.out HBR.out (Nat.le_refl _)
        · refine IntBlk.below ?_ (ba1 _ _)
          iterate 8 (refine IntBlk.set ?_ hn1)
          exact HBA.out
        · refine IntBlk.below ?_ (ba1 _ _)
          iterate 8 (refine IntBlk.set ?_ hn2)
          exact HBC.out
      · have HN2 := Lib.hid (find_miss HXK.out HNO.out (decide_eq_false hq))
        have hqd : (r.f.name.toList == nm.toList) = false := by
          rw [beq_eq_false_iff_ne, ne_eq, ByteArray.toList_eq, ByteArray.toList_eq]; exact fun e => hq (ByteArray.ext (Array.toList_inj.1 e))
        clear hr hm hq
        go_wp2_with fail
        exact ⟨⟨k + 1, by omega, by go_num, HN2.out, bt0 HBR.out (ba1 _ _) (Nat.le_refl _)⟩, by simp [intOf]; omega⟩
    · have hki : ¬ (k : Int) < 5 := by omega
      have HD := Lib.hid (show O = none by
        have h := HNO.out
        rw [List.take_of_length_le (by omega)] at h
        rw [HF.out, h]; rfl)
      go_wp2_with fail
      refine bodyPost_ret (v := .tuple #[.agg #[.string ⟨#[]⟩, .int .i64 0, .int .i64 0, .int .i64 0, .int .i64 0, .slice none 0 0, .int .i64 0, .slice none 0 0], .int .i64 4]) (by simp [results, Tryz.results174, go_sem, hcR]) rfl ⟨?_, .inr ⟨HD.out, rfl⟩⟩
      iterate 8 (refine Below.setCell ?_ (by dsimp only; omega) _)
      exact bt0 HB1.out HBR.out (Nat.le_refl _)

end Go.Proofs.YtlcglclojlffgaaGreatDoor
namespace Go.Proofs.YtlcglclojlffgaaGreatDoor
open Go.RowKit

/-- a size and a code are handed back -/
def RetSm (w : World) (o : Option Int) (e : Ending) (w' : World) : Prop :=
  Below w.heap.size w w' ∧ ((∃ n, o = some n ∧ e = .returned (.tuple #[.int .i64 n, .int .i64 0])) ∨ (o = none ∧ ∃ c, c ≠ 0 ∧ e = .returned (.tuple #[.int .i64 0, .int .i64 c])))
theorem fam_sz {nm : ByteArray} {kd p k g : Int} {szs : List Int} {cl : Int} {lvs : List Int} (h : Fam.ok ⟨nm, kd, p, k, g, szs, cl, lvs⟩ = true) {x : Int} (hx : x ∈ szs) : 3 ≤ x ∧ x ≤ 41 := by
  obtain ⟨-, -, -, -, h5⟩ := fam_ok h
  rcases h5 with ⟨-, h6, -⟩ | ⟨-, -, -, -, -, h7⟩
  · have h7 := List.all_eq_true.1 h6 x hx
    simp [msz] at h7
    omega
  · have := ris_in h7 hx
    omega
/-- a size has room for a message -/
def roomB (f : Fam) (lev need n : Int) : Bool := (f.lay n lev).ok ((2 ^ f.fk.toNat : Nat) : Int) && decide (need ≤ (f.lay n lev).data)
theorem smS_no1 {f : Fam} {lev : Int} {S : List UInt8} (h : inB lev 0 ((f.levels.length : Int) - 1) = false) : smS f lev S = none := by
  rw [smS, if_neg]
  rintro ⟨h1, h2⟩
  rw [inB_iff.2 ⟨h1, by omega⟩] at h
  cases h
theorem smS_no2 {f : Fam} {lev : Int} {S : List UInt8} (h : payS f.fk.toNat S = none) : smS f lev S = none := by
  rw [smS, h]; split <;> rfl
theorem smS_go {f : Fam} {lev : Int} {S : List UInt8} (h : inB lev 0 ((f.levels.length : Int) - 1) = true) {need : Int} (hp : payS f.fk.toNat S = some need) : smS f lev S = f.sizes.find? (roomB f lev need) := by
  have := inB_iff.1 h
  rw [smS, if_pos ⟨this.1, by omega⟩, hp]; rfl

set_option maxRecDepth 100000 in
set_option maxHeartbeats 4000000 in
theorem smallestSize_any (nm : ByteArray) (kd p k g : Int) (a1 : Option Addr) (szs : List Int) (c1 : Nat) (cl : Int) (a2 : Option Addr) (lvs : List Int) (c2 : Nat) (lev : Int) (s : ByteArray) (w : World) (h : Fam.ok ⟨nm, kd, p, k, g, szs, cl, lvs⟩ = true) (h1 : IntsAt w a1 szs) (h2 : IntsAt w a2 lvs) (ln : nm.size ≤ 1048576) (hs : s.size ≤ 1048576) :
    Calls Tryz.prog 175 #[(.agg #[.string nm, .int .i64 kd, .int .i64 p, .int .i64 k, .int .i64 g, .slice a1 szs.length c1, .int .i64 cl, .slice a2 lvs.length c2]), .int .i64 lev, .string s] w (RetSm w (smS ⟨nm, kd, p, k, g, szs, cl, lvs⟩ lev s.data.toList)) := by
  obtain ⟨hfb, hl4, -, hs8, -⟩ := fam_ok h
  have HSZ := Lib.hid (fun x (hx : x ∈ szs) => fam_sz h hx)
  obtain ⟨fam, hfam⟩ : ∃ f, f = Fam.mk nm kd p k g szs cl lvs := ⟨_, rfl⟩
  have HFM := Lib.hid hfam
  have HF := Lib.hid (fv_of hfb)
  have HIF := Lib.hid (fun w (h1 : IntsAt w a1 szs) (h2 : IntsAt w a2 lvs) => isFamily_any nm kd p k g a1 szs c1 cl a2 lvs c2 w h1 h2 (by omega) (by omega) ln (fun x hx => by have := HSZ.out x hx; omega))
  have HHL := Lib.hid (fun w => hasLevel_any nm kd p k g a1 szs c1 cl a2 lvs c2 lev w (by omega))
  have HPS := Lib.hid (fun w => payloadSize_any HF.out s w hs)
  have HLY := Lib.hid (fun n w (hn : hasI szs n = true) (hl : 0 ≤ lev ∧ lev < lvs.length) (hx : IntsAt w a2 lvs) => layout_any nm kd p k g a1 szs c1 cl a2 lvs c2 n lev w h hn hl hx _ rfl)
  rw [← hfam] at HIF HLY h ⊢
  have hk : (bF k.toNat g.toNat).k = fam.fk.toNat := by rw [hfam]; rfl
  have hq : ((bF k.toNat g.toNat).q : Int) = ((2 ^ fam.fk.toNat : Nat) : Int) := by rw [hfam]; rfl
  rw [hk] at HPS
  have HQ := Lib.hid hq
  have H1 := Lib.hid h1
  have H2 := Lib.hid h2
  have HOK := Lib.hid h
  have hsz : fam.sizes = szs := by rw [hfam]
  have hlv : fam.levels = lvs := by rw [hfam]
  have HS := Lib.hid hsz
  obtain ⟨S, hS⟩ : ∃ S, S = s.data.toList := ⟨_, rfl⟩
  have hSl : S.length = s.size := by rw [hS]; rfl
  rw [← hS] at HPS ⊢
  obtain ⟨O, hO⟩ : ∃ O, O = smS fam lev S := ⟨_, rfl⟩
  have HO := Lib.hid hO
  rw [← hO]
  have HN1 := Lib.hid (fun hh => hO.trans (smS_no1 (f := fam) (lev := lev) (S := S) hh))
  have HN2 := Lib.hid (fun hh => hO.trans (smS_no2 (f := fam) (lev := lev) (S := S) hh))
  have HGO := Lib.hid (fun h1 need hh => hO.trans (smS_go (f := fam) (lev := lev) (S := S) h1 (need := need) hh))
  rw [hlv] at HN1 HGO
  rw [hsz] at HGO
  have HP4 := Lib.hid (show ¬ S.length ≤ 400 → payS fam.fk.toNat S = none from fun hh => by rw [payS, if_neg (by omega)])
  have HB0 := Lib.hid (ba1 w (.cells #[.string nm, .int .i64 kd, .int .i64 p, .int .i64 k, .int .i64 g, .slice a1 szs.length c1, .int .i64 cl, .slice a2 lvs.length c2] 123 (0, 0)))
  have K0 := Lib.hid (push_at w (.cells #[.string nm, .int .i64 kd, .int .i64 p, .int .i64 k, .int .i64 g, .slice a1 szs.length c1, .int .i64 cl, .slice a2 lvs.length c2] 123 (0, 0)))
  have HMS := Lib.hid (fun w => isMessage_any s w hs)
  clear h h1 h2 hfb hS hO hfam hk hq hsz hlv
  go_enter Tryz.func175, Tryz.ntmps175
  go_wp2_with fail
  refine (HIF.out _ (H1.out.below HB0.out) (H2.out.below HB0.out)).mono ?_
  rw [HOK.out]
  rintro e w1 ⟨rfl, hb1⟩
  have K1 := Lib.hid (blkK hb1 K0.out)
  have HB1 := Lib.hid (bt0 HB0.out hb1 (Nat.le_refl _))
  clear hb1
  obtain ⟨hcA, hfA⟩ := heap_cellR K1.out
  have z1 := blkLt K1.out
  go_wp2_with fail
  refine (HHL.out _).mono ?_
  rintro e w2 ⟨rfl, hb2⟩
  have K2 := Lib.hid (blkK hb2 K1.out)
  have HB2 := Lib.hid (bt0 HB1.out hb2 (Nat.le_refl _))
  clear hb2 hcA hfA
  obtain ⟨hcA, hfA⟩ := heap_cellR K2.out
  have z2 := blkLt K2.out
  rcases Bool.eq_false_or_eq_true (inB lev 0 ((lvs.length : Int) - 1)) with hv | hv
  rotate_left
  · have HD := Lib.hid (HN1.out hv)
    go_wp2_with fail
    go_ret2
    exact ⟨HB2.out, .inr ⟨HD.out, 2, by decide, rfl⟩⟩
  have HV := Lib.hid hv
  go_wp2_with fail
  refine (HMS.out _).mono ?_
  rintro e w' ⟨rfl, rfl⟩
  by_cases h400 : s.size ≤ 400
  rotate_left
  · have HD := Lib.hid (HN2.out (HP4.out (by omega)))
    have hd : decide (s.size ≤ 400) = false := decide_eq_false h400
    go_wp2_with fail
    go_ret2
    exact ⟨HB2.out, .inr ⟨HD.out, 3, by decide, rfl⟩⟩
  have hd : decide (s.size ≤ 400) = true := decide_eq_true h400
  clear hv
  go_wp2_with fail
  refine (HPS.out _).mono ?_
  rintro e w3 ⟨rfl, hb3⟩
  have K3 := Lib.hid (blkK hb3 K2.out)
  have HB3 := Lib.hid (bt0 HB2.out hb3 (Nat.le_refl _))
  clear hb3 hcA hfA
  obtain ⟨hcA, hfA⟩ := heap_cellR K3.out
  have z3 := blkLt K3.out
  obtain ⟨P, hP⟩ : ∃ P, P = payS fam.fk.toNat S := ⟨_, rfl⟩
  rcases P with _ | need
  · have HD := Lib.hid (HN2.out hP.symm)
    obtain ⟨e1, e2⟩ := payNo hP.symm
    rw [e1, e2]
    clear hP e1 e2
    go_wp2_with fail
    go_ret2
    exact ⟨HB3.out, .inr ⟨HD.out, 4, by decide, rfl⟩⟩
  obtain ⟨e1, e2⟩ := payYes hP.symm
  rw [e1, e2]
  have HD := Lib.hid (HGO.out HV.out need hP.symm)
  have HLI := Lib.hid (show 0 ≤ lev ∧ lev < lvs.length by have := inB_iff.1 HV.out; omega)
  clear hP e1 e2
  go_wp2_with fail
  go_loopw [35] (fun i wr => ∃ j : Nat, j ≤ szs.length ∧ i = .int .i64 j ∧ (szs.take j).find? (roomB fam lev need) = none ∧ Below w3.heap.size w3 wr) (fun i _ => szs.length - (intOf i).toNat)
  case atStart => exact ⟨0, Nat.zero_le _, rfl, rfl, Below.refl _ _⟩
  case round =>
    obtain ⟨j, hj, rfl, hnone, hbr⟩ := hrel
    have HNO := Lib.hid hnone
    have HBR := Lib.hid hbr
    have KR := Lib.hid (blkK hbr K3.out)
    clear hnone hbr hcA hfA
    obtain ⟨hcA, hfA⟩ := heap_cellR KR.out
    have hltR := blkLt KR.out
    by_cases hlt : j < szs.length
    · have hji : (j : Int) < (szs.length : Int) := by omega
      obtain ⟨b1, o1, x, rfl, hxk, hb1, hcx⟩ := (H1.out.below (HB3.out.trans (HBR.out.mono HB3.out.size))).at hlt
      have HXK := Lib.hid hxk
      have HHI := Lib.hid (hasI_yes hxk)
      clear hxk
      go_wp2_with fail
      refine (HLY.out x _ HHI.out HLI.out (H2.out.below (HB3.out.trans (HBR.out.mono HB3.out.size)))).mono ?_
      obtain ⟨L, hL⟩ : ∃ L, L = fam.lay x lev := ⟨_, rfl⟩
      have HL := Lib.hid hL
      rw [← hL]
      rintro e w4 ⟨rfl, hb4⟩
      have HB4 := Lib.hid (bt0 HBR.out hb4 (Nat.le_refl _))
      clear hb4 hL hcx
      go_wp2_with fail
      have KL := Lib.hid (push_at w4 (.cells #[.int .i64 p, .int .i64 k, .int .i64 g, .int .i64 L.data, .int .i64 L.checks, .int .i64 L.count] 146 (0, 0)))
      refine (isLayout_any HF.out L.data L.checks L.count _).mono ?_
      rw [show Lay.mk L.data L.checks L.count = L from rfl, HQ.out]
      rintro e w5 ⟨rfl, hb5⟩
      have KL5 := Lib.hid (blkK hb5 KL.out)
      have HB5 := Lib.hid (bt0 (bt0 HB4.out (ba1 _ _) (Nat.le_refl _)) hb5 (Nat.le_refl _))
      clear hb5 hcA hfA
      obtain ⟨hcL, hfL⟩ := heap_cellR KL5.out
      have zL := blkLt KL5.out
      rcases Bool.eq_false_or_eq_true (L.ok ((2 ^ fam.fk.toNat : Nat) : Int)) with ho | ho
      · rw [ho]
        by_cases hle : need ≤ L.data
        · have HR := Lib.hid (HD.out.trans (find_hit HXK.out HNO.out (show roomB fam lev need x = true by rw [roomB, ← HL.out, ho, decide_eq_true hle]; rfl)))
          clear ho
          go_wp2_with fail
          go_ret2
          exact ⟨bt0 HB3.out HB5.out (Nat.le_refl _), .inl ⟨x, HR.out, rfl⟩⟩
        · have HR := Lib.hid (find_miss HXK.out HNO.out (show roomB fam lev need x = false by rw [roomB, ← HL.out, ho, decide_eq_false hle]; rfl))
          clear ho
          go_wp2_with fail
          exact ⟨⟨j + 1, by omega, by go_num, HR.out, HB5.out⟩, by simp [intOf]; omega⟩
      · rw [ho]
        have HR := Lib.hid (find_miss HXK.out HNO.out (show roomB fam lev need x = false by rw [roomB, ← HL.out, ho, Bool.false_and]))
        clear ho
        go_wp2_with fail
        exact ⟨⟨j + 1, by omega, by go_num, HR.out, HB5.out⟩, by simp [intOf]; omega⟩
    · have hji : ¬ (j : Int) < (szs.length : Int) := by omega
      have HR := Lib.hid (show O = none by have h := HNO.out; rw [List.take_of_length_le (by omega)] at h; rw [HD.out, h])
      go_wp2_with fail
      go_ret2
      exact ⟨bt0 HB3.out HBR.out (Nat.le_refl _), .inr ⟨HR.out, 4, by decide, rfl⟩⟩

end Go.Proofs.YtlcglclojlffgaaGreatDoor
namespace Go.Proofs.YtlcglclojlffgaaGreatDoor
open Go.RowKit

theorem all_step {α : Type} {f : α → Bool} {zs : List α} {k : Nat} {z : α} (hz : zs[k]? = some z) (h : (zs.take k).all f = true) (hc : f z = true) : (zs.take (k + 1)).all f = true := by
  rw [take_snoc' hz, List.all_append, h]; simp [hc]
theorem all_end {α : Type} {f : α → Bool} {zs : List α} {k : Nat} (hk : zs.length ≤ k) (h : (zs.take k).all f = true) : zs.all f = true := by
  rwa [List.take_of_length_le hk] at h
theorem all_no {α : Type} {f : α → Bool} {zs : List α} {k : Nat} {z : α} (hz : zs[k]? = some z) (hc : f z = false) : zs.all f = false := by
  rw [List.all_eq_false]
  exact ⟨z, List.mem_of_getElem? hz, by simp [hc]⟩

end Go.Proofs.YtlcglclojlffgaaGreatDoor
namespace Go.Proofs.YtlcglclojlffgaaGreatDoor
open Go.RowKit

theorem leaves_append_room {P : Program} {o : Oper} {a : Act} {w : World} {R : Value → World → Prop} (s x : Operand) (t : TypeId) (ho : o.op = .call { callee := .builtin .append, args := #[s, x], argTypes := #[t, t] }) (v u : Value) (hs : a.eval s = v) (hx : a.eval x = u)
    (v' : Value) (w' : World) (hr : (Builtin.append_ #[t, t] o.type #[v, u]).run P w = .ok v' w') (hR : R v' w') : leaves P o a w R := by
  unfold leaves execOp
  simp only [ho, resolve, invoke, builtin, Sem.run_bind, Sem.run_pure, Result.andThen_ok, List.map_toArray, List.map_cons, List.map_nil, hs, hx, hr]
  exact hR

/-- the first m cells of row g are ys -/
def RowIs (W : World) (g cap m : Nat) (ys : List Int) : Prop := ∃ cur : Array Value, W.heap[g]? = some (.cells cur 2 (0, 0)) ∧ cur.size = cap ∧ cur.toList.take m = ys.map (Value.int .i64)
theorem RowIs.below {W W' : World} {g cap m B : Nat} {ys : List Int} (h : RowIs W g cap m ys) (hb : Below B W W') (hg : g < B) : RowIs W' g cap m ys := by
  obtain ⟨cur, h1, h2, h3⟩ := h
  exact ⟨cur, (hb.block g hg).trans h1, h2, h3⟩
theorem RowIs.lt {W : World} {g cap m : Nat} {ys : List Int} (h : RowIs W g cap m ys) : g < W.heap.size := by
  obtain ⟨cur, h1, _⟩ := h
  exact (Array.getElem?_eq_some_iff.1 h1).1
theorem RowIs.own {W : World} {g cap m : Nat} {ys : List Int} (h : RowIs W g cap m ys) (hl : ys.length = m) (hm : m ≤ cap) (hc : cap ≤ maxLen) : OwnI W g (.slice (some ⟨g, 0, none⟩) ys.length cap) ys := by
  obtain ⟨cur, h1, h2, h3⟩ := h
  exact ⟨by simp, Or.inr ⟨g, cap, cur, rfl, Nat.le_refl _, h1, by omega, hc, by omega, by rw [Nat.mul_one, hl]; exact h3⟩⟩
/-- one pixel more -/
theorem RowIs.more {W : World} {g cap m : Nat} {ys : List Int} {z : Int} {b : Nat} (h : RowIs W g cap m ys) (hm : m < cap) (hz : W.cell? ⟨b, 0, none⟩ = some (.int .i64 z)) (ty : TypeId) :
    ∃ W', (Builtin.append_ #[67, 67] ty #[.slice (some ⟨g, 0, none⟩) m cap, .slice (some ⟨b, 0, none⟩) 1 1]).run Tryz.prog W = .ok (.slice (some ⟨g, 0, none⟩) (m + 1) cap) W' ∧ RowIs W' g cap m ys ∧ RowIs W' g cap (m + 1) (ys ++ [z]) ∧ W.grownBy W' (some g) := by
  obtain ⟨cur, h1, h2, h3⟩ := h
  obtain ⟨i0, hi, y0, y1, y2⟩ := info_parts infoI
  have hr := run_append_room (P := Tryz.prog) W 67 ty 2 i0 Tryz.underlying67 hi g m cap cur h1 ⟨b, 0, none⟩ 1 1 [.int .i64 z] (by rw [y1]; rfl)
    (fun j u hj => by
      match j, hj with
      | 0, hj => simp at hj; subst hj; simpa [Addr.add] using hz
      | j + 1, hj => simp at hj) (fun u hu => by rw [List.mem_singleton] at hu; subst hu; rfl) hm (by rw [y1]; simp; omega)
  rw [y1, Nat.mul_one] at hr
  have hlen : cur.toList.length = cap := by simpa using h2
  have hrow := setRow_heap W g cur (cur.toList.take m ++ [Value.int .i64 z] ++ cur.toList.drop (m + 1)).toArray 2 (0, 0) h1
  have hsz : (cur.toList.take m ++ [Value.int .i64 z] ++ cur.toList.drop (m + 1)).toArray.size = cap := by
    simp only [List.size_toArray, List.length_append, List.length_take, List.length_drop, List.length_singleton]
    omega
  have htl : (cur.toList.take m).length = m := by rw [List.length_take]; omega
  refine ⟨_, hr, ⟨_, hrow, hsz, ?_⟩, ⟨_, hrow, hsz, ?_⟩, ⟨rfl, rfl, rfl, by simp, fun k _ hk => setRow_other W g k _ (fun e => hk (by rw [e]))⟩⟩
  · rw [List.append_assoc, List.take_append_of_le_length (by omega), List.take_of_length_le (by omega)]
    exact h3
  · rw [List.take_append_of_le_length (by simp; omega), List.take_of_length_le (by simp; omega), h3, List.map_append]
    rfl

/-- a raster is handed back -/
def RetRas (w : World) (n m : Int) (xs : List Int) (e : Ending) (w' : World) : Prop :=
  ∃ a c, e = .returned (.agg #[.int .i64 n, .int .i64 m, .slice a xs.length c]) ∧ OwnI w' w.heap.size (.slice a xs.length c) xs ∧ Below w.heap.size w w'
/-- the first t pixels -/
def pix (F : Nat → Nat → Int) (m t : Nat) : List Int := (List.range t).map fun i => F (i / m) (i % m)
theorem pix_len (F : Nat → Nat → Int) (m t : Nat) : (pix F m t).length = t := by simp [pix]
theorem pix_succ {F : Nat → Nat → Int} {m k j : Nat} (hj : j < m) : pix F m (k * m + j + 1) = pix F m (k * m + j) ++ [F k j] := by
  unfold pix
  have h1 : (k * m + j) / m = k := by rw [Nat.mul_comm, Nat.mul_add_div (by omega), Nat.div_eq_of_lt hj]; omega
  have h2 : (k * m + j) % m = j := by rw [Nat.mul_comm, Nat.mul_add_mod, Nat.mod_eq_of_lt hj]
  rw [List.range_succ, List.map_append]
  simp [h1, h2]

/-- while a raster is made -/
def RasAt (w W : World) (n m : Int) (cap t : Nat) (ys : List Int) : Prop :=
  W.heap[w.heap.size]? = some (.cells #[.int .i64 0, .int .i64 0, .slice none 0 0] 101 (0, 0)) ∧ W.heap[w.heap.size + 2]? = some (.cells #[.int .i64 n, .int .i64 m, .slice (some ⟨w.heap.size + 1, 0, none⟩) t cap] 101 (0, 0)) ∧
    RowIs W (w.heap.size + 1) cap t ys ∧ Below w.heap.size w W
/-- what a round keeps -/
def KeepR (g cap m : Nat) (ys : List Int) (W W' : World) : Prop := W.grownBy W' (some g) ∧ (RowIs W g cap m ys → RowIs W' g cap m ys)
theorem keepR_below {g cap m : Nat} {ys : List Int} {W W' : World} (hb : Below W.heap.size W W') : KeepR g cap m ys W W' :=
  ⟨⟨hb.os, hb.tape, hb.output, hb.size, fun i hi _ => hb.block i hi⟩, fun h => h.below hb h.lt⟩
def sR (g cap m : Nat) (ys : List Int) (p : Value → Prop) : Sp (KeepR g cap m ys) := ⟨fun v _ => p v, fun _ _ _ _ h => h⟩
/-- a new cell that holds z -/
def sCell (g cap m : Nat) (ys : List Int) (z : Int) : Sp (KeepR g cap m ys) := ⟨fun v W => ∃ b, v = .slice (some ⟨b, 0, none⟩) 1 1 ∧ b ≠ g ∧ W.cell? ⟨b, 0, none⟩ = some (.int .i64 z), fun _ W _ hk ⟨b, hv, hne, hc⟩ => ⟨b, hv, hne, by
  rw [World.cell?_of_block (w := W) (a := ⟨b, 0, none⟩) (hk.1.block b (lt_of_cell hc) (fun e => hne (Option.some.inj e)))]
  exact hc⟩⟩
/-- the row with a pixel more -/
def sRow (g cap m : Nat) (ys : List Int) : Sp (KeepR g cap m ys) := ⟨fun v W => v = .slice (some ⟨g, 0, none⟩) m cap ∧ RowIs W g cap m ys, fun _ _ _ hk ⟨hv, hr⟩ => ⟨hv, hk.2 hr⟩⟩
theorem RasAt.below {w W W' : World} {n m : Int} {cap t : Nat} {ys : List Int} (h : RasAt w W n m cap t ys) (hb : Below W.heap.size W W') : RasAt w W' n m cap t ys :=
  ⟨(hb.block _ (Array.getElem?_eq_some_iff.1 h.1).1).trans h.1, (hb.block _ (Array.getElem?_eq_some_iff.1 h.2.1).1).trans h.2.1, h.2.2.1.below hb h.2.2.1.lt, bt0 h.2.2.2 hb (Nat.le_refl _)⟩
theorem RasAt.row {w W W' : World} {n m : Int} {cap t : Nat} {ys : List Int} (h : RasAt w W n m cap t ys) (hg : W.grownBy W' (some (w.heap.size + 1))) (hr : RowIs W' (w.heap.size + 1) cap t ys) : RasAt w W' n m cap t ys :=
  ⟨(hg.block _ (Array.getElem?_eq_some_iff.1 h.1).1 (fun e => by have := Option.some.inj e; omega)).trans h.1, (hg.block _ (Array.getElem?_eq_some_iff.1 h.2.1).1 (fun e => by have := Option.some.inj e; omega)).trans h.2.1, hr, h.2.2.2.trans (below_of_grownBy hg h.2.2.2.size (fun k e => by have := Option.some.inj e; omega))⟩
theorem rr_same {w W : World} {n m : Int} {cap t q : Nat} {ys zs : List Int} {s : Sp (KeepR (w.heap.size + 1) cap q zs)} {v : Value} (h : RasAt w W n m cap t ys) (hs : s.holds v W) : RsR (fun W => RasAt w W n m cap t ys) s W v W := ⟨h, keepR_below (Below.refl _ _), hs⟩
theorem rr_below {w W W' : World} {n m : Int} {cap t q : Nat} {ys zs : List Int} {s : Sp (KeepR (w.heap.size + 1) cap q zs)} {v : Value} (h : RasAt w W n m cap t ys) (hb : Below W.heap.size W W') (hs : s.holds v W') : RsR (fun W => RasAt w W n m cap t ys) s W v W' := ⟨h.below hb, keepR_below hb, hs⟩

/-- the grown slice is stored back -/
theorem RasAt.store {w W : World} {n m : Int} {cap t t' : Nat} {ys ys' : List Int} (h : RasAt w W n m cap t ys) (hr : RowIs W (w.heap.size + 1) cap t' ys') :
    RasAt w (W.setCell ⟨w.heap.size + 2, 2, none⟩ (.slice (some ⟨w.heap.size + 1, 0, none⟩) t' cap)) n m cap t' ys' := by
  have hg := grownBy_set W (w.heap.size + 2) 2 (.slice (some ⟨w.heap.size + 1, 0, none⟩) t' cap)
  refine ⟨(hg.block _ (Array.getElem?_eq_some_iff.1 h.1).1 (fun e => by have := Option.some.inj e; omega)).trans h.1, src_set h.2.1 2 _, ?_, Below.setCell h.2.2.2 (by dsimp only; omega) _⟩
  obtain ⟨cur, h1, h2, h3⟩ := hr
  exact ⟨cur, (hg.block _ (Array.getElem?_eq_some_iff.1 h1).1 (fun e => by have := Option.some.inj e; omega)).trans h1, h2, h3⟩
end Go.Proofs.YtlcglclojlffgaaGreatDoor
namespace Go.Proofs.YtlcglclojlffgaaGreatDoor
open Go.RowKit

/-- are the fields of a damage as described for its kind -/
def fineB (k r c t w : Int) : Bool :=
  if k = 1 then inB r 0 400 && inB c 0 400 && inB t 0 400 && (w == 0)
  else if k = 2 then inB r 0 400 && inB c 0 400 && inB t 1 400 && inB w 1 400
  else if k = 3 then (r == 0) && (c == 0) && inB t 1 400 && inB w (-400) 400
  else if k = 4 then inB r 0 400 && inB t 0 400 && (c == 0) && (w == 0)
  else if k = 5 then (r == 0) && (c == 0) && (w == 0) && inB t 0 256
  else false
/-- a valid damage -/
def dmOk (k r c t w g : Int) : Bool := fineB k r c t w && inB g 0 255
theorem fine1 {r c t w : Int} : fineB 1 r c t w = (inB r 0 400 && inB c 0 400 && inB t 0 400 && (w == 0)) := by simp [fineB]
theorem fine2 {r c t w : Int} : fineB 2 r c t w = (inB r 0 400 && inB c 0 400 && inB t 1 400 && inB w 1 400) := by simp [fineB]
theorem fine3 {r c t w : Int} : fineB 3 r c t w = ((r == 0) && (c == 0) && inB t 1 400 && inB w (-400) 400) := by simp [fineB]
theorem fine4 {r c t w : Int} : fineB 4 r c t w = (inB r 0 400 && inB t 0 400 && (c == 0) && (w == 0)) := by simp [fineB]
theorem fine5 {r c t w : Int} : fineB 5 r c t w = ((r == 0) && (c == 0) && (w == 0) && inB t 0 256) := by simp [fineB]
theorem fine0 {k r c t w : Int} (h : k < 1 ∨ 5 < k) : fineB k r c t w = false := by
  unfold fineB
  rw [if_neg (by omega), if_neg (by omega), if_neg (by omega), if_neg (by omega), if_neg (by omega)]
theorem dm_bounds {k r c t w g : Int} (h : dmOk k r c t w g = true) : (1 ≤ k ∧ k ≤ 5) ∧ (0 ≤ r ∧ r ≤ 400) ∧ (0 ≤ c ∧ c ≤ 400) ∧ (0 ≤ t ∧ t ≤ 400) ∧ (-400 ≤ w ∧ w ≤ 400) ∧ (0 ≤ g ∧ g ≤ 255) ∧ (k = 3 → 1 ≤ t) ∧ (k = 5 → t ≤ 256) := by
  unfold dmOk at h
  rw [Bool.and_eq_true, inB_iff] at h
  obtain ⟨h1, h2⟩ := h
  by_cases hk : k < 1 ∨ 5 < k
  · rw [fine0 hk] at h1; cases h1
  · have : k = 1 ∨ k = 2 ∨ k = 3 ∨ k = 4 ∨ k = 5 := by omega
    rcases this with rfl | rfl | rfl | rfl | rfl
    · simp only [fine1, Bool.and_eq_true, inB_iff, beq_iff_eq] at h1; omega
    · simp only [fine2, Bool.and_eq_true, inB_iff] at h1; omega
    · simp only [fine3, Bool.and_eq_true, inB_iff, beq_iff_eq] at h1; omega
    · simp only [fine4, Bool.and_eq_true, inB_iff, beq_iff_eq] at h1; omega
    · simp only [fine5, Bool.and_eq_true, inB_iff, beq_iff_eq] at h1; omega

/-- does a blot or a scratch touch a pixel -/
def touchB (k r c t w y x : Int) : Bool := if k = 1 then decide ((y - r) * (y - r) + (x - c) * (x - c) ≤ t * t) else inB y r (r + t - 1) && inB x c (c + w - 1)
theorem touch1 {r c t w y x : Int} : touchB 1 r c t w y x = decide ((y - r) * (y - r) + (x - c) * (x - c) ≤ t * t) := by simp [touchB]
theorem touch2 {r c t w y x : Int} : touchB 2 r c t w y x = (inB y r (r + t - 1) && inB x c (c + w - 1)) := by simp [touchB]

/-- a pixel behind a damage that is no noise -/
def dpix (k r c t w g : Int) (m : Nat) (xs : List Int) (y x : Nat) : Int :=
  if k = 3 then (if inB ((x : Int) - (y : Int) * w / t) 0 ((m : Int) - 1) = true then xs.getD (y * m + ((x : Int) - (y : Int) * w / t).toNat) 0 else g)
  else if k = 5 then (xs.getD (y * m + x) 0 * t + g * (256 - t)) / 256
  else if touchB k r c t w y x = true then g else xs.getD (y * m + x) 0
/-- rounds of noise -/
def nz (g : Int) (N : Nat) (p : Int × List Int) : Nat → Int × List Int
  | 0 => p
  | t + 1 => ((75 * (nz g N p t).1 + 74) % 65537, (nz g N p t).2.set (((75 * (nz g N p t).1 + 74) % 65537) % (N : Int)).toNat g)
/-- the pixels behind a damage -/
def dmgL (k r c t w g : Int) (n m : Nat) (xs : List Int) : List Int :=
  if k = 4 then (nz g (n * m) (r, xs) t.toNat).2 else pix (dpix k r c t w g m xs) m (n * m)

theorem nz_len {g : Int} {N : Nat} {p : Int × List Int} : ∀ t, (nz g N p t).2.length = p.2.length
  | 0 => rfl
  | t + 1 => by simp [nz, nz_len t]
theorem nz_x {g : Int} {N : Nat} {p : Int × List Int} (h : 0 ≤ p.1 ∧ p.1 ≤ 65536) : ∀ t, 0 ≤ (nz g N p t).1 ∧ (nz g N p t).1 ≤ 65536
  | 0 => h
  | t + 1 => by have := nz_x (g := g) (N := N) h t; simp only [nz]; omega
def Greys (xs : List Int) : Prop := ∀ x ∈ xs, 0 ≤ x ∧ x ≤ 255
theorem greys_set {xs : List Int} {i : Nat} {g : Int} (h : Greys xs) (hg : 0 ≤ g ∧ g ≤ 255) : Greys (xs.set i g) := fun x hx => by
  rcases List.mem_or_eq_of_mem_set hx with h1 | h1
  · exact h x h1
  · subst h1; exact hg
theorem nz_greys {g : Int} {N : Nat} {p : Int × List Int} (h : Greys p.2) (hg : 0 ≤ g ∧ g ≤ 255) : ∀ t, Greys (nz g N p t).2
  | 0 => h
  | t + 1 => greys_set (nz_greys h hg t) hg
theorem getD_grey {xs : List Int} (h : Greys xs) (i : Nat) : 0 ≤ xs.getD i 0 ∧ xs.getD i 0 ≤ 255 := by
  rw [List.getD_eq_getElem?_getD]
  by_cases hi : i < xs.length
  · rw [List.getElem?_eq_getElem hi]; exact h _ (List.getElem_mem hi)
  · rw [List.getElem?_eq_none (by omega)]; simp
theorem fade_mid {v t g : Int} (hv : 0 ≤ v ∧ v ≤ 255) (ht : 0 ≤ t ∧ t ≤ 256) (hg : 0 ≤ g ∧ g ≤ 255) : 0 ≤ v * t ∧ v * t ≤ 255 * t ∧ 0 ≤ g * (256 - t) ∧ g * (256 - t) ≤ 255 * (256 - t) :=
  ⟨Int.mul_nonneg hv.1 ht.1, Int.mul_le_mul_of_nonneg_right hv.2 ht.1, Int.mul_nonneg hg.1 (by omega), Int.mul_le_mul_of_nonneg_right hg.2 (by omega)⟩
theorem fade_grey {v t g : Int} (hv : 0 ≤ v ∧ v ≤ 255) (ht : 0 ≤ t ∧ t ≤ 256) (hg : 0 ≤ g ∧ g ≤ 255) : 0 ≤ (v * t + g * (256 - t)) / 256 ∧ (v * t + g * (256 - t)) / 256 ≤ 255 := by
  obtain ⟨h1, h2, h3, h4⟩ := fade_mid hv ht hg
  generalize v * t = a at *
  generalize g * (256 - t) = b at *
  omega
theorem dpix_grey {k r c t w g : Int} {m : Nat} {xs : List Int} (hd : dmOk k r c t w g = true) (h : Greys xs) (y x : Nat) : 0 ≤ dpix k r c t w g m xs y x ∧ dpix k r c t w g m xs y x ≤ 255 := by
  obtain ⟨_, _, _, h4, _, h6, _, h8⟩ := dm_bounds hd
  unfold dpix
  by_cases h3 : k = 3
  · rw [if_pos h3]
    split
    · exact getD_grey h _
    · exact h6
  · rw [if_neg h3]
    by_cases h5 : k = 5
    · rw [if_pos h5]
      exact fade_grey (getD_grey h _) ⟨h4.1, h8 h5⟩ h6
    · rw [if_neg h5]
      split
      · exact h6
      · exact getD_grey h _
theorem dmgL_greys {k r c t w g : Int} {n m : Nat} {xs : List Int} (hd : dmOk k r c t w g = true) (h : Greys xs) : Greys (dmgL k r c t w g n m xs) := by
  obtain ⟨_, _, _, _, _, h6, _⟩ := dm_bounds hd
  unfold dmgL
  split
  · exact nz_greys h h6 _
  · intro x hx
    obtain ⟨i, _, rfl⟩ := List.mem_map.1 hx
    exact dpix_grey hd h _ _
theorem dmgL_len {k r c t w g : Int} {n m : Nat} {xs : List Int} (h : xs.length = n * m) : (dmgL k r c t w g n m xs).length = n * m := by
  unfold dmgL
  split
  · rw [nz_len]; exact h
  · exact pix_len _ _ _
theorem dmgL_pix {k r c t w g : Int} {n m : Nat} {xs : List Int} (h : k ≠ 4) : dmgL k r c t w g n m xs = pix (dpix k r c t w g m xs) m (n * m) := by rw [dmgL, if_neg h]
theorem dmgL_noise {r c t w g : Int} {n m : Nat} {xs : List Int} : dmgL 4 r c t w g n m xs = (nz g (n * m) (r, xs) t.toNat).2 := by rw [dmgL, if_pos rfl]

/-- a damage in six numbers -/
structure Dm where
  k : Int
  r : Int
  c : Int
  t : Int
  w : Int
  g : Int
def Dm.ok (d : Dm) : Bool := dmOk d.k d.r d.c d.t d.w d.g
def Dm.on (d : Dm) (n m : Nat) (xs : List Int) : List Int := dmgL d.k d.r d.c d.t d.w d.g n m xs
/-- the pixels behind damages, one after the other -/
def dmsL (n m : Nat) (ds : List Dm) (xs : List Int) : List Int := ds.foldl (fun ys d => d.on n m ys) xs
theorem dmsL_snoc {n m : Nat} {ds : List Dm} {d : Dm} {xs : List Int} : dmsL n m (ds ++ [d]) xs = d.on n m (dmsL n m ds xs) := by simp [dmsL, List.foldl_append]
theorem dmsL_len {n m : Nat} {xs : List Int} (h : xs.length = n * m) : ∀ ds : List Dm, (dmsL n m ds xs).length = n * m
  | [] => h
  | d :: ds => dmsL_len (xs := d.on n m xs) (dmgL_len h) ds
theorem dmsL_greys {n m : Nat} {xs : List Int} (h : Greys xs) : ∀ ds : List Dm, (∀ d ∈ ds, d.ok = true) → Greys (dmsL n m ds xs)
  | [], _ => h
  | d :: ds, hd => dmsL_greys (xs := d.on n m xs) (dmgL_greys (hd d (by simp)) h) ds (fun e he => hd e (by simp [he]))

/-- a raster may have n rows and m columns -/
def sizeB (n m : Int) : Bool := inB n 1 400 && inB m 1 400 && decide (n * m ≤ 40000)
/-- a grey value -/
def greyB (x : Int) : Bool := inB x 0 255
/-- a raster of n rows and m columns -/
def rasOk (n m : Int) (xs : List Int) : Bool := sizeB n m && !((xs.length : Int) != n * m) && xs.all greyB
theorem size_bd {n m : Int} (h1 : inB n 1 400 = true) (h2 : inB m 1 400 = true) : 1 ≤ n * m ∧ n * m ≤ 160000 := by
  rw [inB_iff] at h1 h2
  have a : 1 * 1 ≤ n * m := Int.mul_le_mul h1.1 h2.1 (by omega) (by omega)
  have b : n * m ≤ 400 * 400 := Int.mul_le_mul h1.2 h2.2 (by omega) (by omega)
  omega
theorem greys_of {xs : List Int} (h : xs.all greyB = true) : Greys xs := fun x hx => inB_iff.1 (List.all_eq_true.1 h x hx)
theorem size_nat {n m : Int} (h : sizeB n m = true) : ∃ a b : Nat, n = a ∧ m = b ∧ 1 ≤ a ∧ a ≤ 400 ∧ 1 ≤ b ∧ b ≤ 400 ∧ a * b ≤ 40000 ∧ n * m = ((a * b : Nat) : Int) := by
  simp only [sizeB, Bool.and_eq_true, inB_iff, decide_eq_true_eq] at h
  obtain ⟨⟨h1, h2⟩, h3⟩ := h
  obtain ⟨a, rfl⟩ := Int.eq_ofNat_of_zero_le (show 0 ≤ n by omega)
  obtain ⟨b, rfl⟩ := Int.eq_ofNat_of_zero_le (show 0 ≤ m by omega)
  have e : (a : Int) * (b : Int) = ((a * b : Nat) : Int) := (Int.natCast_mul a b).symm
  rw [e] at h3
  exact ⟨a, b, rfl, rfl, by omega, by omega, by omega, by omega, by omega, e⟩
theorem ras_nat {n m : Int} {xs : List Int} (h : rasOk n m xs = true) : ∃ a b : Nat, n = a ∧ m = b ∧ 1 ≤ a ∧ a ≤ 400 ∧ 1 ≤ b ∧ b ≤ 400 ∧ a * b ≤ 40000 ∧ xs.length = a * b ∧ Greys xs := by
  simp only [rasOk, Bool.and_eq_true] at h
  obtain ⟨⟨h1, h2⟩, h3⟩ := h
  obtain ⟨a, b, rfl, rfl, q1, q2, q3, q4, q5, e⟩ := size_nat h1
  rw [e] at h2
  simp only [bne, Bool.not_not, beq_iff_eq] at h2
  exact ⟨a, b, rfl, rfl, q1, q2, q3, q4, q5, by omega, greys_of h3⟩
theorem size_of {a b : Nat} (h1 : 1 ≤ a) (h2 : a ≤ 400) (h3 : 1 ≤ b) (h4 : b ≤ 400) (h5 : a * b ≤ 40000) : sizeB a b = true := by
  simp only [sizeB, Bool.and_eq_true, inB_iff, decide_eq_true_eq]
  have e : (a : Int) * (b : Int) = ((a * b : Nat) : Int) := (Int.natCast_mul a b).symm
  rw [e]
  exact ⟨⟨by omega, by omega⟩, by omega⟩
theorem ras_of {a b : Nat} {xs : List Int} (h1 : 1 ≤ a) (h2 : a ≤ 400) (h3 : 1 ≤ b) (h4 : b ≤ 400) (h5 : a * b ≤ 40000) (h6 : xs.length = a * b) (h7 : Greys xs) : rasOk a b xs = true := by
  have e : (a : Int) * (b : Int) = ((a * b : Nat) : Int) := (Int.natCast_mul a b).symm
  simp only [rasOk, size_of h1 h2 h3 h4 h5, e, h6, Bool.true_and, bne, Bool.not_not, beq_self_eq_true]
  exact List.all_eq_true.2 (fun x hx => inB_iff.2 (h7 x hx))
theorem five_or (k : Int) : k = 1 ∨ k = 2 ∨ k = 3 ∨ k = 4 ∨ k = 5 ∨ (k < 1 ∨ 5 < k) := by omega
theorem three (a b c : Bool) : a = false ∨ (a = true ∧ b = false) ∨ (a = true ∧ b = true ∧ c = false) ∨ (a = true ∧ b = true ∧ c = true) := by
  cases a <;> cases b <;> cases c <;> simp
theorem four (a b c d : Bool) : a = false ∨ (a = true ∧ b = false) ∨ (a = true ∧ b = true ∧ c = false) ∨ (a = true ∧ b = true ∧ c = true ∧ d = false) ∨ (a = true ∧ b = true ∧ c = true ∧ d = true) := by
  cases a <;> cases b <;> cases c <;> cases d <;> simp

end Go.Proofs.YtlcglclojlffgaaGreatDoor
namespace Go.Proofs.YtlcglclojlffgaaGreatDoor
open Go.RowKit

set_option maxHeartbeats 400000 in
theorem isRasterSize_any (n m : Int) (w : World) : Calls Tryz.prog 55 #[.int .i64 n, .int .i64 m] w fun e w' => e = .returned (.bool (sizeB n m)) ∧ w = w' := by
  rcases three (inB n 1 400) (inB m 1 400) (decide (n * m ≤ 40000)) with h1 | ⟨h1, h2⟩ | ⟨h1, h2, h3⟩ | ⟨h1, h2, h3⟩
  · have e : sizeB n m = false := by rw [sizeB, h1]; rfl
    rw [e]
    clear e
    go_enter Tryz.func55, Tryz.ntmps55
    go_wp2_with (go_at_call 71; refine (inRange_val h1).mono ?_; rintro e w' ⟨rfl, rfl⟩)
    go_ret
    exact ⟨rfl, rfl⟩
  · have e : sizeB n m = false := by rw [sizeB, h1, h2]; rfl
    rw [e]
    clear e
    go_enter Tryz.func55, Tryz.ntmps55
    go_wp2_with fail
    refine (inRange_val h1).mono ?_
    rintro e w' ⟨rfl, rfl⟩
    go_wp2_with fail
    refine (inRange_val h2).mono ?_
    rintro e w' ⟨rfl, rfl⟩
    go_wp2_with fail
    go_ret
    exact ⟨rfl, rfl⟩
  all_goals
    obtain ⟨b1, b2⟩ := size_bd h1 h2
    first | (have e : sizeB n m = false := by (rw [sizeB, h1, h2, h3]; rfl)
             rw [e]; clear e) | (have e : sizeB n m = true := by (rw [sizeB, h1, h2, h3]; rfl)
                                 rw [e]; clear e)
    go_enter Tryz.func55, Tryz.ntmps55
    go_wp2_with fail
    refine (inRange_val h1).mono ?_
    rintro e w' ⟨rfl, rfl⟩
    go_wp2_with fail
    refine (inRange_val h2).mono ?_
    rintro e w' ⟨rfl, rfl⟩
    go_wp2_with fail
    go_ret
    exact ⟨rfl, rfl⟩
theorem isRasterSize_val {n m : Int} {b : Bool} {w : World} (h : sizeB n m = b) : Calls Tryz.prog 55 #[.int .i64 n, .int .i64 m] w fun e w' => e = .returned (.bool b) ∧ w = w' := h ▸ isRasterSize_any n m w

set_option maxHeartbeats 400000 in
theorem l20Size_any (n m : Int) (w : World) : Calls Tryz.prog 43 #[.int .i64 n, .int .i64 m] w fun e w' => e = .returned (.bool (sizeB n m)) ∧ w = w' := by
  rcases three (inB n 1 400) (inB m 1 400) (decide (n * m ≤ 40000)) with h1 | ⟨h1, h2⟩ | ⟨h1, h2, h3⟩ | ⟨h1, h2, h3⟩
  · have e : sizeB n m = false := by rw [sizeB, h1]; rfl
    rw [e]
    clear e
    go_enter Tryz.func43, Tryz.ntmps43
    go_wp2_with (go_at_call 44; refine (l01In_val h1).mono ?_; rintro e w' ⟨rfl, rfl⟩)
    go_ret
    exact ⟨rfl, rfl⟩
  · have e : sizeB n m = false := by rw [sizeB, h1, h2]; rfl
    rw [e]
    clear e
    go_enter Tryz.func43, Tryz.ntmps43
    go_wp2_with fail
    refine (l01In_val h1).mono ?_
    rintro e w' ⟨rfl, rfl⟩
    go_wp2_with fail
    refine (l01In_val h2).mono ?_
    rintro e w' ⟨rfl, rfl⟩
    go_wp2_with fail
    go_ret
    exact ⟨rfl, rfl⟩
  all_goals
    obtain ⟨b1, b2⟩ := size_bd h1 h2
    first | (have e : sizeB n m = false := by (rw [sizeB, h1, h2, h3]; rfl)
             rw [e]; clear e) | (have e : sizeB n m = true := by (rw [sizeB, h1, h2, h3]; rfl)
                                 rw [e]; clear e)
    go_enter Tryz.func43, Tryz.ntmps43
    go_wp2_with fail
    refine (l01In_val h1).mono ?_
    rintro e w' ⟨rfl, rfl⟩
    go_wp2_with fail
    refine (l01In_val h2).mono ?_
    rintro e w' ⟨rfl, rfl⟩
    go_wp2_with fail
    go_ret
    exact ⟨rfl, rfl⟩
theorem l20Size_val {n m : Int} {b : Bool} {w : World} (h : sizeB n m = b) : Calls Tryz.prog 43 #[.int .i64 n, .int .i64 m] w fun e w' => e = .returned (.bool b) ∧ w = w' := h ▸ l20Size_any n m w

end Go.Proofs.YtlcglclojlffgaaGreatDoor
namespace Go.Proofs.YtlcglclojlffgaaGreatDoor
open Go.RowKit

/-- the slice at address a holds the texts ss -/
def StrsAt (w : World) (a : Option Addr) (ss : List ByteArray) : Prop :=
  ∀ i (h : i < ss.length), ∃ b o, a = some ⟨b, o, none⟩ ∧ w.cell? ⟨b, o + i, none⟩ = some (.string ss[i])
theorem StrsAt.at {w : World} {a : Option Addr} {ss : List ByteArray} (H : StrsAt w a ss) {k : Nat} (hk : k < ss.length) :
    ∃ b o z, a = some ⟨b, o, none⟩ ∧ ss[k]? = some z ∧ b < w.heap.size ∧ w.cell? ⟨b, o + k, none⟩ = some (.string z) := by
  obtain ⟨b, o, ha, hc⟩ := H k hk
  exact ⟨b, o, ss[k], ha, List.getElem?_eq_getElem hk, lt_of_cell hc, hc⟩
theorem StrsAt.below {w w' : World} {a : Option Addr} {ss : List ByteArray} (H : StrsAt w a ss) (hb : Below w.heap.size w w') : StrsAt w' a ss := by
  intro i h
  obtain ⟨b, o, ha, hc⟩ := H i h
  exact ⟨b, o, ha, by rw [hb.cell (p := ⟨b, o + i, none⟩) (lt_of_cell hc)]; exact hc⟩
theorem StrsAt.grow {w w' : World} {a : Option Addr} {ss : List ByteArray} {B : Nat} (H : StrsAt w a ss) (hB : ∀ ad, a = some ad → ad.block < B) (hb : Below B w w') : StrsAt w' a ss := by
  intro i h
  obtain ⟨b, o, ha, hc⟩ := H i h
  exact ⟨b, o, ha, by rw [hb.cell (p := ⟨b, o + i, none⟩) (show b < B from hB _ ha)]; exact hc⟩
theorem StrsAt.nil {w : World} {a : Option Addr} : StrsAt w a [] := fun i h => absurd h (by simp)

/-- the slice v is the call's own and holds the texts ss -/
def OwnS (w : World) (base : Nat) (v : Value) (ss : List ByteArray) : Prop := w.ownsRow base 9 1 v ss.length (ss.map Value.string)
theorem OwnS.read {w : World} {base : Nat} {v : Value} {zs : List ByteArray} (h : OwnS w base v zs) : ∃ a c, v = .slice a zs.length c ∧ StrsAt w a zs := by
  unfold OwnS at h
  have h2 := h.2
  rcases h2 with ⟨rfl, h0⟩ | ⟨g, cap, cur, rfl, hb, hg, hn, hm, hs, ht⟩
  · refine ⟨none, 0, by rw [h0], ?_⟩
    intro i hi; omega
  · refine ⟨some ⟨g, 0, none⟩, cap, rfl, ?_⟩
    intro i hi
    refine ⟨g, 0, rfl, ?_⟩
    rw [Nat.zero_add, h.cellAt i (by omega)]
    simp [hi]
theorem OwnS.strs {w : World} {base : Nat} {a : Option Addr} {n c : Nat} {zs : List ByteArray} (h : OwnS w base (.slice a n c) zs) : StrsAt w a zs := by
  obtain ⟨a', c', e, hx⟩ := h.read
  obtain ⟨rfl, _, _⟩ := Value.slice.inj e
  exact hx
theorem OwnS.len {w : World} {base : Nat} {v : Value} {zs : List ByteArray} (h : OwnS w base v zs) : zs.length ≤ maxLen := by
  rcases h.2 with ⟨_, h0⟩ | ⟨g, cap, cur, rfl, hb, hg, hn, hm, hs, ht⟩
  · rw [h0]; exact Nat.zero_le _
  · omega
theorem OwnS.block {w : World} {base : Nat} {a : Option Addr} {n c : Nat} {zs : List ByteArray} (h : OwnS w base (.slice a n c) zs) (hk : 0 < zs.length) : ∃ g, a = some ⟨g, 0, none⟩ ∧ base ≤ g ∧ n = zs.length ∧ g < w.heap.size := by
  rcases h.2 with ⟨h1, h0⟩ | ⟨g, cap, cur, h1, hb, hg, _⟩
  · omega
  · simp only [Value.slice.injEq] at h1
    obtain ⟨rfl, rfl, rfl⟩ := h1
    exact ⟨g, rfl, hb, rfl, (Array.getElem?_eq_some_iff.1 hg).1⟩
theorem OwnS.grown {w w' : World} {base : Nat} {v : Value} {zs : List ByteArray} (h : OwnS w base v zs) (hb : Below w.heap.size w w') : OwnS w' base v zs :=
  h.kept (row := none) ⟨hb.os, hb.tape, hb.output, hb.size, fun k hk _ => hb.block k hk⟩ (by cases hv : v.ownBlock <;> simp)
theorem OwnS.weak {w : World} {base base' : Nat} {v : Value} {zs : List ByteArray} (h : OwnS w base v zs) (hb : base' ≤ base) : OwnS w base' v zs := by
  refine ⟨h.1, ?_⟩
  rcases h.2 with h2 | ⟨g, cap, cur, h1, hb', r⟩
  · exact Or.inl h2
  · exact Or.inr ⟨g, cap, cur, h1, by omega, r⟩
theorem OwnS.lo {w : World} {base : Nat} {v : Value} {zs : List ByteArray} (h : OwnS w base v zs) : ∀ k, v.ownBlock = some k → base ≤ k := fun k hk => (World.ownsRow.lt h k hk).1
theorem OwnS.hi {w : World} {base : Nat} {v : Value} {zs : List ByteArray} (h : OwnS w base v zs) : ∀ k, v.ownBlock = some k → k < w.heap.size := fun k hk => (World.ownsRow.lt h k hk).2
theorem OwnS.cellAt {w : World} {base g n c : Nat} {zs : List ByteArray} (h : OwnS w base (.slice (some ⟨g, 0, none⟩) n c) zs) (hn : n = zs.length) {k : Nat} (hk : k < zs.length) :
    ∃ z, zs[k]? = some z ∧ w.cell? ⟨g, k, none⟩ = some (.string z) ∧ w.frozen? ⟨g, k, none⟩ = false := by
  subst hn
  refine ⟨zs[k], by simp [hk], ?_, h.frozenAt k⟩
  rw [World.ownsRow.cellAt h k (by omega)]
  simp [hk]
theorem OwnS.stored {w : World} {base g n c : Nat} {zs : List ByteArray} (h : OwnS w base (.slice (some ⟨g, 0, none⟩) n c) zs) (hn : n = zs.length) (k : Nat) (z : ByteArray) :
    OwnS (w.setCell ⟨g, k, none⟩ (.string z)) base (.slice (some ⟨g, 0, none⟩) n c) (zs.set k z) ∧ w.grownBy (w.setCell ⟨g, k, none⟩ (.string z)) (some g) := by
  subst hn
  have hst := World.ownsRow.stored (h := h) k (.string z)
  refine ⟨?_, hst.2⟩
  unfold OwnS
  rw [List.map_set, List.length_set]
  exact hst.1
theorem OwnS.of_made {w : World} {base : Nat} {v : Value} {n : Nat} (h : w.ownsRow base 9 1 v n (madeCells #[.string ⟨#[]⟩] n).toList) : OwnS w base v (List.replicate n ⟨#[]⟩) := by
  unfold OwnS
  rw [toList_madeCells_one] at h
  simpa using h
theorem infoS : (Tryz.prog.info? 9).map (fun i => (i.zero, i.size, i.bytes)) = some (some (.string ⟨#[]⟩), 1, 16) := by kernel_rfl

theorem strs_at {w : World} {b o : Nat} {xs : List ByteArray} (h : StrsAt w (some ⟨b, o, none⟩) xs) : ∀ j u, (xs.map Value.string)[j]? = some u → w.cell? ((⟨b, o, none⟩ : Addr).add j) = some u := by
  intro j u hu
  rw [List.getElem?_map] at hu
  cases hx : xs[j]? with
  | none => rw [hx] at hu; cases hu
  | some x =>
    rw [hx] at hu
    obtain ⟨hj, rfl⟩ := List.getElem?_eq_some_iff.1 hx
    obtain ⟨b', o', e, hc⟩ := h j hj
    simp only [Option.some.injEq, Addr.mk.injEq, and_true] at e
    obtain ⟨rfl, rfl⟩ := e
    simp only [Option.map_some, Option.some.injEq] at hu
    subst hu
    rw [Addr.add_mid]
    exact hc

/-- after j rounds of a copy -/
def CopiedS (w : World) (base g : Nat) (xs : List ByteArray) (j : Nat) : Prop :=
  ∃ zs : List ByteArray, zs.length = xs.length ∧ OwnS w base (.slice (some ⟨g, 0, none⟩) xs.length xs.length) zs ∧ zs.take j = xs.take j
theorem CopiedS.step {w : World} {base g : Nat} {xs : List ByteArray} {j : Nat} {x : ByteArray} (h : CopiedS w base g xs j) (hx : xs[j]? = some x) : CopiedS (w.setCell ⟨g, j, none⟩ (.string x)) base g xs (j + 1) := by
  obtain ⟨zs, hl, ho, ht⟩ := h
  have hj : j < xs.length := (List.getElem?_eq_some_iff.1 hx).1
  refine ⟨zs.set j x, by simpa using hl, (ho.stored hl.symm j x).1, ?_⟩
  rw [take_snoc' hx, take_snoc' (zs := zs.set j x) (k := j) (z := x) (by simp [hl, hj]), List.take_set_of_le (Nat.le_refl _), ht]
theorem CopiedS.fin {w : World} {base g : Nat} {xs : List ByteArray} (h : CopiedS w base g xs xs.length) : OwnS w base (.slice (some ⟨g, 0, none⟩) xs.length xs.length) xs := by
  obtain ⟨zs, hl, ho, ht⟩ := h
  rw [List.take_of_length_le (by omega), List.take_of_length_le (by omega)] at ht
  rwa [ht] at ho

end Go.Proofs.YtlcglclojlffgaaGreatDoor
namespace Go.Proofs.YtlcglclojlffgaaGreatDoor
open Go.RowKit

/-- the words of the kinds -/
def dBlot : List UInt8 := [98, 108, 111, 116]
def dScratch : List UInt8 := [115, 99, 114, 97, 116, 99, 104]
def dSkew : List UInt8 := [115, 107, 101, 119]
def dNoise : List UInt8 := [110, 111, 105, 115, 101]
def dFade : List UInt8 := [102, 97, 100, 101]

/-- the kind with a word; 0 if it is none -/
def kindOf (l : List UInt8) : Nat :=
  if l = dBlot then 1 else if l = dScratch then 2 else if l = dSkew then 3 else if l = dNoise then 4 else if l = dFade then 5 else 0

/-- the word and the numbers of a damage -/
def txtD (d : Dm) : List (List UInt8) :=
  if d.k = 1 then [dBlot, Lib.itoa d.r, Lib.itoa d.c, Lib.itoa d.t, Lib.itoa d.g]
  else if d.k = 2 then [dScratch, Lib.itoa d.r, Lib.itoa d.c, Lib.itoa d.t, Lib.itoa d.w, Lib.itoa d.g]
  else if d.k = 3 then [dSkew, Lib.itoa d.t, Lib.itoa d.w, Lib.itoa d.g]
  else if d.k = 4 then [dNoise, Lib.itoa d.r, Lib.itoa d.t, Lib.itoa d.g]
  else [dFade, Lib.itoa d.t, Lib.itoa d.g]

/-- the damage that is written in words -/
def rawD (k : Nat) (ns : List Int) : Option Dm :=
  match k, ns with
  | 1, [r, c, t, g] => some ⟨1, r, c, t, 0, g⟩
  | 2, [r, c, t, w, g] => some ⟨2, r, c, t, w, g⟩
  | 3, [t, w, g] => some ⟨3, 0, 0, t, w, g⟩
  | 4, [r, t, g] => some ⟨4, r, 0, t, 0, g⟩
  | 5, [t, g] => some ⟨5, 0, 0, t, 0, g⟩
  | _, _ => none

/-- all numbers of some words -/
def rnums : List (List UInt8) → Option (List Int)
  | [] => some []
  | h :: t => match rnum h with
    | none => none
    | some n => match rnums t with
      | none => none
      | some ns => some (n :: ns)

/-- the valid damage that is written in words -/
def rdOne (ws : List (List UInt8)) : Option Dm :=
  match ws with
  | [] => none
  | h :: t => match rnums t with
    | none => none
    | some ns => match rawD (kindOf h) ns with
      | none => none
      | some d => if d.ok = true then some d else none

theorem rnums_some : ∀ (ws : List (List UInt8)) (ns : List Int), rnums ws = some ns → ws = ns.map Lib.itoa
  | [], ns, h => by simp [rnums] at h; subst h; rfl
  | a :: t, ns, h => by
    rw [rnums] at h
    split at h
    · cases h
    · rename_i n hn
      split at h
      · cases h
      · rename_i ms hm
        cases h
        rw [List.map_cons, ← rnums_some t ms hm, ← rnum_some a n hn]

theorem rnums_itoa : ∀ ns : List Int, (∀ n ∈ ns, -9223372036854775808 ≤ n ∧ n ≤ 9223372036854775807) → rnums (ns.map Lib.itoa) = some ns
  | [], _ => rfl
  | n :: ns, h => by
    rw [List.map_cons, rnums, rnum_itoa n (h n (by simp)).1 (h n (by simp)).2, rnums_itoa ns (fun m hm => h m (by simp [hm]))]

theorem kind_word (l : List UInt8) : (kindOf l = 1 → l = dBlot) ∧ (kindOf l = 2 → l = dScratch) ∧ (kindOf l = 3 → l = dSkew) ∧ (kindOf l = 4 → l = dNoise) ∧ (kindOf l = 5 → l = dFade) := by
  unfold kindOf
  refine ⟨?_, ?_, ?_, ?_, ?_⟩ <;> (repeat' split) <;> intro h <;> first | assumption | omega

theorem rdOne_some (ws : List (List UInt8)) (d : Dm) (h : rdOne ws = some d) : d.ok = true ∧ ws = txtD d := by
  unfold rdOne at h
  split at h
  · cases h
  · rename_i a t
    split at h
    · cases h
    · rename_i ns hns
      have e := rnums_some t ns hns
      split at h
      · cases h
      · rename_i d' hd'
        split at h
        · rename_i hok
          cases h
          refine ⟨hok, ?_⟩
          have hk := kind_word a
          unfold rawD at hd'
          split at hd' <;> first | cases hd' | skip
          all_goals rename_i hka
          · rw [hk.1 hka, e]; rfl
          · rw [hk.2.1 hka, e]; rfl
          · rw [hk.2.2.1 hka, e]; rfl
          · rw [hk.2.2.2.1 hka, e]; rfl
          · rw [hk.2.2.2.2 hka, e]; rfl
        · cases h

theorem kind_words : kindOf dBlot = 1 ∧ kindOf dScratch = 2 ∧ kindOf dSkew = 3 ∧ kindOf dNoise = 4 ∧ kindOf dFade = 5 := by decide

theorem ok_parts (d : Dm) (h : d.ok = true) : (d.k = 1 ∧ d.w = 0) ∨ d.k = 2 ∨ (d.k = 3 ∧ d.r = 0 ∧ d.c = 0) ∨ (d.k = 4 ∧ d.c = 0 ∧ d.w = 0) ∨ (d.k = 5 ∧ d.r = 0 ∧ d.c = 0 ∧ d.w = 0) := by
  have hb := dm_bounds h
  obtain ⟨k, r, c, t, w, g⟩ := d
  simp only [Dm.ok, dmOk, Bool.and_eq_true] at h
  try dsimp only at hb
  try dsimp only
  have hk : k = 1 ∨ k = 2 ∨ k = 3 ∨ k = 4 ∨ k = 5 := by omega
  rcases hk with rfl | rfl | rfl | rfl | rfl
  · rw [fine1] at h; simp at h; omega
  · omega
  · rw [fine3] at h; simp at h; omega
  · rw [fine4] at h; simp at h; omega
  · rw [fine5] at h; simp at h; omega

theorem rdOne_cons (a : List UInt8) (ns : List Int) (d : Dm) (h : d.ok = true) (hn : ∀ n ∈ ns, -9223372036854775808 ≤ n ∧ n ≤ 9223372036854775807) (hr : rawD (kindOf a) ns = some d) : rdOne (a :: ns.map Lib.itoa) = some d := by
  simp only [rdOne, rnums_itoa ns hn, hr, h, if_true]

theorem rdOne_txt (d : Dm) (h : d.ok = true) : rdOne (txtD d) = some d := by
  have hb := dm_bounds h
  have hp := ok_parts d h
  obtain ⟨k, r, c, t, w, g⟩ := d
  try dsimp only at hb
  try dsimp only at hp
  rcases hp with ⟨rfl, rfl⟩ | rfl | ⟨rfl, rfl, rfl⟩ | ⟨rfl, rfl, rfl⟩ | ⟨rfl, rfl, rfl, rfl⟩
  · exact rdOne_cons dBlot [r, c, t, g] _ h (by simp; omega) (by rw [kind_words.1]; rfl)
  · exact rdOne_cons dScratch [r, c, t, w, g] _ h (by simp; omega) (by rw [kind_words.2.1]; rfl)
  · exact rdOne_cons dSkew [t, w, g] _ h (by simp; omega) (by rw [kind_words.2.2.1]; rfl)
  · exact rdOne_cons dNoise [r, t, g] _ h (by simp; omega) (by rw [kind_words.2.2.2.1]; rfl)
  · exact rdOne_cons dFade [t, g] _ h (by simp; omega) (by rw [kind_words.2.2.2.2]; rfl)

theorem txtD_free (d : Dm) : ∀ p ∈ txtD d, (32 : UInt8) ∉ p ∧ (59 : UInt8) ∉ p := by
  have ha : ∀ n, (32 : UInt8) ∉ Lib.itoa n ∧ (59 : UInt8) ∉ Lib.itoa n := fun n => ⟨itoa_no n 32 (by decide) (by decide), itoa_no n 59 (by decide) (by decide)⟩
  have hw : ((32 : UInt8) ∉ dBlot ∧ (59 : UInt8) ∉ dBlot) ∧ ((32 : UInt8) ∉ dScratch ∧ (59 : UInt8) ∉ dScratch) ∧ ((32 : UInt8) ∉ dSkew ∧ (59 : UInt8) ∉ dSkew) ∧ ((32 : UInt8) ∉ dNoise ∧ (59 : UInt8) ∉ dNoise) ∧ ((32 : UInt8) ∉ dFade ∧ (59 : UInt8) ∉ dFade) := by decide
  obtain ⟨w1, w2, w3, w4, w5⟩ := hw
  intro p hp
  unfold txtD at hp
  repeat' split at hp
  all_goals
    simp only [List.mem_cons, List.not_mem_nil, or_false] at hp
    rcases hp with rfl | rfl | rfl | rfl | rfl | rfl <;> first | assumption | exact ha _

theorem txtD_ne (d : Dm) : txtD d ≠ [] := by unfold txtD; repeat' split
                                             all_goals simp

/-- the text of a damage -/
def lineD (d : Dm) : List UInt8 := glue 32 (txtD d)
/-- the text of damages -/
def textD (ds : List Dm) : List UInt8 := glue 59 (ds.map lineD)

theorem cut_line (d : Dm) : cut 32 (lineD d) = txtD d := cut_glue 32 _ (txtD_ne d) (fun p hp => (txtD_free d p hp).1)

theorem glue_no (b c : UInt8) (hbc : c ≠ b) : ∀ ps : List (List UInt8), (∀ p ∈ ps, c ∉ p) → c ∉ glue b ps
  | [] => fun _ => by simp [glue]
  | [p] => fun h => h p (by simp)
  | p :: q :: t => fun h => by
    rw [glue_cons _ _ _ (by simp)]
    have := glue_no b c hbc (q :: t) (fun x hx => h x (by simp [hx]))
    have := h p (by simp)
    simp [*]

theorem cut_text (ds : List Dm) (h : ds ≠ []) : cut 59 (textD ds) = ds.map lineD :=
  cut_glue 59 _ (by simpa using h) (fun p hp => by
    obtain ⟨d, _, rfl⟩ := List.mem_map.1 hp
    exact glue_no 32 59 (by decide) _ (fun q hq => (txtD_free d q hq).2))

/-- the valid damages that some texts are -/
def rdAll : List (List UInt8) → Option (List Dm)
  | [] => some []
  | p :: t => match rdOne (cut 32 p) with
    | none => none
    | some d => match rdAll t with
      | none => none
      | some ds => some (d :: ds)

theorem rdAll_some : ∀ (ps : List (List UInt8)) (ds : List Dm), rdAll ps = some ds → ps = ds.map lineD ∧ ∀ d ∈ ds, d.ok = true
  | [], ds, h => by simp [rdAll] at h; subst h; simp
  | p :: t, ds, h => by
    rw [rdAll] at h
    split at h
    · cases h
    · rename_i d hd
      split at h
      · cases h
      · rename_i es he
        cases h
        obtain ⟨hok, hc⟩ := rdOne_some _ _ hd
        obtain ⟨h1, h2⟩ := rdAll_some t es he
        have hp : p = lineD d := by rw [← glue_cut 32 p, hc, lineD]
        refine ⟨by rw [List.map_cons, ← h1, ← hp], ?_⟩
        intro e hm
        rcases List.mem_cons.1 hm with rfl | hm
        · exact hok
        · exact h2 e hm

theorem rdAll_lines : ∀ ds : List Dm, (∀ d ∈ ds, d.ok = true) → rdAll (ds.map lineD) = some ds
  | [], _ => rfl
  | d :: ds, h => by
    rw [List.map_cons, rdAll, cut_line, rdOne_txt d (h d (by simp)), rdAll_lines ds (fun e he => h e (by simp [he]))]

/-- the damages whose text a text of one byte or more is, as the program reads it -/
def rdText (s : List UInt8) : Option (List Dm) := if 20 < (cut 59 s).length then none else rdAll (cut 59 s)

theorem rdText_iff (s : List UInt8) (ds : List Dm) : rdText s = some ds ↔ ds ≠ [] ∧ ds.length ≤ 20 ∧ (∀ d ∈ ds, d.ok = true) ∧ s = textD ds := by
  unfold rdText
  constructor
  · intro h
    split at h
    · cases h
    · rename_i hl
      obtain ⟨h1, h2⟩ := rdAll_some _ _ h
      have hlen : (cut 59 s).length = ds.length := by rw [h1]; simp
      have hs : s = textD ds := by rw [← glue_cut 59 s, h1, textD]
      refine ⟨?_, by omega, h2, hs⟩
      intro e
      have := cut_ne 59 s
      rw [h1, e] at this
      exact this rfl
  · rintro ⟨h0, hl, hok, rfl⟩
    rw [cut_text ds h0, rdAll_lines ds hok, if_neg (by simp; omega)]

end Go.Proofs.YtlcglclojlffgaaGreatDoor
namespace Go.Proofs.YtlcglclojlffgaaGreatDoor
open Go.RowKit

/-- the same, perhaps behind a sign -/
def sgnS : List UInt8 → Option Int
  | [] => valS []
  | x :: r => if x = 45 then (match valS r with | none => none | some n => some (-n)) else valS (x :: r)

theorem sgnS_itoa (n : Int) (h0 : -1000000000000 < n) (h1 : n < 1000000000000) : sgnS (Lib.itoa n) = some n := by
  by_cases hn : n < 0
  · have e : Lib.itoa n = 45 :: Lib.decDigits n.natAbs := by rw [Lib.itoa, if_pos hn]
    rw [e, sgnS, if_pos rfl, valS_dec _ (by omega)]
    simp only []; congr 1; omega
  · have e : Lib.itoa n = Lib.decDigits n.toNat := by rw [Lib.itoa, if_neg hn]
    rw [e]
    have hd := dec_digit n.toNat
    have hv := valS_dec n.toNat (by omega)
    cases he : Lib.decDigits n.toNat with
    | nil => exact absurd he (decDigits_ne _)
    | cons c r =>
      rw [he] at hd hv
      have hc := hd c (by simp)
      have : ¬ c = 45 := by intro e; rw [e] at hc; simp at hc
      rw [sgnS, if_neg this, hv]
      congr 1; omega

/-- the numbers of the fields that a kind has; 0 for the others -/
def spNums : List Bool → List (List UInt8) → Option (List Int)
  | [], _ => some []
  | false :: f, ws => match spNums f ws with | none => none | some ns => some (0 :: ns)
  | true :: _, [] => none
  | true :: f, a :: ws => match sgnS a with
    | none => none
    | some n => match spNums f ws with | none => none | some ns => some (n :: ns)

/-- the fields of a kind -/
def spFl (k : Nat) : List Bool :=
  if k = 1 then [true, true, true, false, true] else if k = 2 then [true, true, true, true, true] else if k = 3 then [false, false, true, true, true]
  else if k = 4 then [true, false, true, false, true] else [false, false, true, false, true]

/-- the reference's reading of one damage -/
def spOne (ws : List (List UInt8)) : Option Dm :=
  match ws with
  | [] => none
  | h :: t => if kindOf h = 0 then none else match spNums (spFl (kindOf h)) t with
    | some [r, c, t, w, g] => some ⟨kindOf h, r, c, t, w, g⟩
    | _ => none

theorem spOne_txt (d : Dm) (h : d.ok = true) : spOne (txtD d) = some d := by
  have hb := dm_bounds h
  have hp := ok_parts d h
  obtain ⟨k, r, c, t, w, g⟩ := d
  try dsimp only at hb
  try dsimp only at hp
  have sr := sgnS_itoa r (by omega) (by omega)
  have sc := sgnS_itoa c (by omega) (by omega)
  have st := sgnS_itoa t (by omega) (by omega)
  have sw := sgnS_itoa w (by omega) (by omega)
  have sg := sgnS_itoa g (by omega) (by omega)
  obtain ⟨k1, k2, k3, k4, k5⟩ := kind_words
  rcases hp with ⟨rfl, rfl⟩ | rfl | ⟨rfl, rfl, rfl⟩ | ⟨rfl, rfl, rfl⟩ | ⟨rfl, rfl, rfl, rfl⟩ <;>
    simp [txtD, spOne, k1, k2, k3, k4, k5, spFl, spNums, sr, sc, st, sw, sg]

/-- the reference's reading of texts -/
def spAll : List (List UInt8) → Option (List Dm)
  | [] => some []
  | p :: t => match spOne (cut 32 p) with
    | none => none
    | some d => match spAll t with
      | none => none
      | some ds => some (d :: ds)

theorem spAll_len : ∀ (ps : List (List UInt8)) (ds : List Dm), spAll ps = some ds → ds.length = ps.length
  | [], ds, h => by simp [spAll] at h; subst h; rfl
  | p :: t, ds, h => by
    rw [spAll] at h
    split at h
    · cases h
    · split at h
      · cases h
      · rename_i es he
        cases h
        simp [spAll_len t es he]

theorem spAll_lines : ∀ ds : List Dm, (∀ d ∈ ds, d.ok = true) → spAll (ds.map lineD) = some ds
  | [], _ => rfl
  | d :: ds, h => by
    rw [List.map_cons, spAll, cut_line, spOne_txt d (h d (by simp)), spAll_lines ds (fun e he => h e (by simp [he]))]

/-- the text of damages; no byte if they are not valid -/
def dtext (ds : List Dm) : List UInt8 := if ds.length ≤ 20 ∧ (∀ d ∈ ds, d.ok = true) then textD ds else []

/-- the damages whose text a text of one byte or more is, as the reference reads it -/
def spText (s : List UInt8) : Option (List Dm) :=
  match spAll (cut 59 s) with
  | none => none
  | some ds => if dtext ds = s then some ds else none

/-- both read the same -/
theorem rd_sp (s : List UInt8) (hs : s ≠ []) : rdText s = spText s := by
  cases hr : rdText s with
  | some ds =>
    obtain ⟨h0, hl, hok, he⟩ := (rdText_iff s ds).1 hr
    have hc : cut 59 s = ds.map lineD := by rw [he]; exact cut_text ds h0
    unfold spText
    rw [hc, spAll_lines ds hok]
    simp only []
    rw [if_pos (by rw [dtext, if_pos ⟨hl, hok⟩, he])]
  | none =>
    cases hp : spText s with
    | none => rfl
    | some ds =>
      exfalso
      unfold spText at hp
      split at hp
      · cases hp
      · rename_i es hes
        split at hp
        · rename_i ht
          cases hp
          have hlen := spAll_len _ _ hes
          unfold dtext at ht
          split at ht
          · rename_i hv
            have h0 : ds ≠ [] := by
              intro e
              have := cut_ne 59 s
              rw [e] at hlen
              exact this (List.eq_nil_of_length_eq_zero hlen.symm)
            have := (rdText_iff s ds).2 ⟨h0, hv.1, hv.2, ht.symm⟩
            rw [hr] at this; cases this
          · exact hs ht.symm
        · cases hp

end Go.Proofs.YtlcglclojlffgaaGreatDoor
namespace Go.Proofs.YtlcglclojlffgaaGreatDoor
open Go.RowKit

/-- has a kind of damage the field i -/
def flB (k : Int) (i : Nat) : Bool :=
  if k = 1 then decide (i ≠ 3) else if k = 2 then true else if k = 3 then decide (2 ≤ i) else if k = 4 then decide (i = 0 ∨ i = 2 ∨ i = 4) else decide (i = 2 ∨ i = 4)
/-- the field i -/
def lsI (r c t w g : Int) : Nat → Int
  | 0 => r
  | 1 => c
  | 2 => t
  | 3 => w
  | _ => g

theorem row5 {w : World} {a b c d e : Value} {t : TypeId} {f : Nat → Value} (h0 : a = f 0) (h1 : b = f 1) (h2 : c = f 2) (h3 : d = f 3) (h4 : e = f 4) : RowF 5 f (.slice (some ⟨w.heap.size, 0, none⟩) 5 5) (w.alloc (.cells #[a, b, c, d, e] t (0, 0))) := by
  subst h0 h1 h2 h3 h4
  refine ⟨w.heap.size, rfl, fun i hi => ?_⟩
  rw [boxF0]
  match i, hi with
  | 0, _ => rfl
  | 1, _ => rfl
  | 2, _ => rfl
  | 3, _ => rfl
  | 4, _ => rfl

/-- a slice of n cells is handed back -/
def RetRow (w : World) (n : Nat) (f : Nat → Value) (e : Ending) (w' : World) : Prop := ∃ v, e = .returned v ∧ RowF n f v w' ∧ Below w.heap.size w w'

/-- is the field i as it may be -/
def okAt (k : Int) (i : Nat) (z : Int) : Bool := if flB k i = true then inB z (-400) 400 && (!decide (z < 0) || (decide (i = 3) && k == 3)) else (z == 0)
/-- what is asked of a kind besides -/
def lastB (k t w : Int) : Bool := if k = 2 then decide (1 ≤ t) && decide (1 ≤ w) else if k = 3 then decide (1 ≤ t) else if k = 5 then decide (t ≤ 256) else true
theorem dm_spec {k r c t w g : Int} (hk : 1 ≤ k ∧ k ≤ 5) (hg : inB g 0 255 = true) (h : ∀ i, i < 4 → okAt k i (lsI r c t w g i) = true) : dmOk k r c t w g = lastB k t w := by
  have h0 := h 0 (by omega)
  have h1 := h 1 (by omega)
  have h2 := h 2 (by omega)
  have h3 := h 3 (by omega)
  clear h
  unfold dmOk
  rw [hg, Bool.and_true]
  have : k = 1 ∨ k = 2 ∨ k = 3 ∨ k = 4 ∨ k = 5 := by omega
  rcases this with rfl | rfl | rfl | rfl | rfl
  all_goals (simp [okAt, flB, lsI, inB] at h0 h1 h2 h3)
  · rw [fine1, Bool.eq_iff_iff]; simp [lastB, inB]; omega
  · rw [fine2, Bool.eq_iff_iff]; simp [lastB, inB]; omega
  · rw [fine3, Bool.eq_iff_iff]; simp [lastB, inB]; omega
  · rw [fine4, Bool.eq_iff_iff]; simp [lastB, inB]; omega
  · rw [fine5, Bool.eq_iff_iff]; simp [lastB, inB]; omega
theorem dm_spec_no {k r c t w g : Int} {i : Nat} (hk : 1 ≤ k ∧ k ≤ 5) (hi : i < 4) (h : okAt k i (lsI r c t w g i) = false) : dmOk k r c t w g = false := by
  have : k = 1 ∨ k = 2 ∨ k = 3 ∨ k = 4 ∨ k = 5 := by omega
  have hi' : i = 0 ∨ i = 1 ∨ i = 2 ∨ i = 3 := by omega
  unfold dmOk
  rcases this with rfl | rfl | rfl | rfl | rfl
  all_goals
    rcases hi' with rfl | rfl | rfl | rfl
    all_goals
      simp [okAt, flB, lsI, inB] at h
      first
        | (rw [fine1, Bool.eq_false_iff]; simp [inB]; omega)
        | (rw [fine2, Bool.eq_false_iff]; simp [inB]; omega)
        | (rw [fine3, Bool.eq_false_iff]; simp [inB]; omega)
        | (rw [fine4, Bool.eq_false_iff]; simp [inB]; omega)
        | (rw [fine5, Bool.eq_false_iff]; simp [inB]; omega)

end Go.Proofs.YtlcglclojlffgaaGreatDoor
namespace Go.Proofs.YtlcglclojlffgaaGreatDoor
open Go.RowKit

theorem row_at {n : Nat} {f : Nat → Value} {u : Value} {W : World} (h : RowF n f u W) : ∃ b, u = .slice (some ⟨b, 0, none⟩) n n ∧ ∀ i, i < n → W.cell? ⟨b, i, none⟩ = some (f i) := h

end Go.Proofs.YtlcglclojlffgaaGreatDoor
namespace Go.Proofs.YtlcglclojlffgaaGreatDoor
open Go.RowKit

end Go.Proofs.YtlcglclojlffgaaGreatDoor
namespace Go.Proofs.YtlcglclojlffgaaGreatDoor
open Go.RowKit

end Go.Proofs.YtlcglclojlffgaaGreatDoor
namespace Go.Proofs.YtlcglclojlffgaaGreatDoor
open Go.RowKit

end Go.Proofs.YtlcglclojlffgaaGreatDoor
namespace Go.Proofs.YtlcglclojlffgaaGreatDoor
open Go.RowKit

/-- a damage lies at an address -/
def DmAt (w : World) (b o : Nat) (d : Dm) : Prop := w.cell? ⟨b, o, none⟩ = some (.int .i64 d.k) ∧ w.cell? ⟨b, o + 1, none⟩ = some (.int .i64 d.r) ∧ w.cell? ⟨b, o + 2, none⟩ = some (.int .i64 d.c) ∧ w.cell? ⟨b, o + 3, none⟩ = some (.int .i64 d.t) ∧ w.cell? ⟨b, o + 4, none⟩ = some (.int .i64 d.w) ∧ w.cell? ⟨b, o + 5, none⟩ = some (.int .i64 d.g)
/-- the damages ds lie at a -/
def DmsAt (w : World) (a : Option Addr) (ds : List Dm) : Prop := ∀ i (h : i < ds.length), ∃ b o, a = some ⟨b, o, none⟩ ∧ DmAt w b (o + i * 6) ds[i]
theorem DmAt.below {w w' : World} {b o : Nat} {d : Dm} (h : DmAt w b o d) (hb : Below w.heap.size w w') : DmAt w' b o d := by
  obtain ⟨h0, h1, h2, h3, h4, h5⟩ := h
  have hl := lt_of_cell h0
  have hc := (bcell hb).1
  exact ⟨(hc b _ hl).trans h0, (hc b _ hl).trans h1, (hc b _ hl).trans h2, (hc b _ hl).trans h3, (hc b _ hl).trans h4, (hc b _ hl).trans h5⟩
theorem DmsAt.below {w w' : World} {a : Option Addr} {ds : List Dm} (H : DmsAt w a ds) (hb : Below w.heap.size w w') : DmsAt w' a ds := fun i h => by
  obtain ⟨b, o, ha, hc⟩ := H i h
  exact ⟨b, o, ha, hc.below hb⟩
theorem DmsAt.at {w : World} {a : Option Addr} {ds : List Dm} (H : DmsAt w a ds) {i : Nat} (hi : i < ds.length) : ∃ b o d, a = some ⟨b, o, none⟩ ∧ ds[i]? = some d ∧ b < w.heap.size ∧ DmAt w b (o + i * 6) d := by
  obtain ⟨b, o, ha, hc⟩ := H i hi
  exact ⟨b, o, ds[i], ha, List.getElem?_eq_getElem hi, lt_of_cell hc.1, hc⟩

/-- the code of a list of damages -/
def codeL (ds : List Dm) : Int := if 20 < ds.length then 3 else if ds.all Dm.ok = true then 0 else 2

end Go.Proofs.YtlcglclojlffgaaGreatDoor
namespace Go.Proofs.YtlcglclojlffgaaGreatDoor
open Go.RowKit

theorem natI_pair (x y : Nat) : natI [x, y] = [(x : Int), (y : Int)] := rfl
theorem ints_lit {w : World} {g : Nat} {cs : Array Value} {t : TypeId} {zs : List Int} (h : w.heap[g]? = some (.cells cs t (0, 0))) (hc : cs = (zs.map (Value.int .i64)).toArray) : IntsAt w (some ⟨g, 0, none⟩) zs := by
  intro i hi
  refine ⟨g, 0, rfl, ?_⟩
  rw [Nat.zero_add, (heap_cellR h).1, hc]
  simp [hi]
/-- a polynomial of the call's own is handed back -/
def RetPl (w : World) (p : List Nat) (e : Ending) (w' : World) : Prop := ∃ a c, e = .returned (.slice a p.length c) ∧ p.length ≤ c ∧ OwnI w' w.heap.size (.slice a p.length c) (natI p) ∧ Below w.heap.size w w'
end Go.Proofs.YtlcglclojlffgaaGreatDoor
namespace Go.Proofs.YtlcglclojlffgaaGreatDoor
open Go.RowKit

/-- a message's polynomial, its first k elements laid -/
def pTo (len : Nat) (m : List Nat) (k : Nat) : List Nat := List.replicate (len - k) 0 ++ (m.take k).reverse
theorem pTo_len {len : Nat} {m : List Nat} {k : Nat} (hk : k ≤ m.length) (hl : m.length ≤ len) : (pTo len m k).length = len := by
  rw [pTo, List.length_append, List.length_replicate, List.length_reverse, List.length_take]; omega
theorem pTo_step {len : Nat} {m : List Nat} {k : Nat} (hk : k < m.length) (hl : m.length ≤ len) : (pTo len m k).set (len - 1 - k) (co m k) = pTo len m (k + 1) := by
  obtain ⟨n, hn⟩ : ∃ n, len - k = n + 1 := ⟨len - k - 1, by omega⟩
  have h1 : m[k]? = some (co m k) := by rw [List.getElem?_eq_getElem hk, co, List.getD_eq_getElem?_getD, List.getElem?_eq_getElem hk]; rfl
  rw [pTo, pTo, hn, show len - (k + 1) = n by omega, show len - 1 - k = n by omega, List.replicate_succ', List.append_assoc, List.set_append_right _ _ (by rw [List.length_replicate]; omega), List.length_replicate, Nat.sub_self, take_snoc' h1, List.reverse_append]
  rfl
theorem pTo_all {F : Fd} (h3 : 3 ≤ F.q) {len : Nat} {m : List Nat} (h : AllE F m) (k : Nat) : AllE F (pTo len m k) := fun x hx => by
  rcases List.mem_append.1 hx with h1 | h1
  · rw [List.eq_of_mem_replicate h1]; omega
  · exact h x (List.mem_of_mem_take (List.mem_reverse.1 h1))
theorem encW_eq (F : Fd) (len n : Nat) (m : List Nat) : encW F len n m = m ++ chkTo F (pRem F (trimN (pTo len m m.length)) (genP F n) 1) n n := by
  rw [encW, pTo, List.take_length]
theorem natI_app (x y : List Nat) : natI (x ++ y) = natI x ++ natI y := by simp [natI]
theorem quiet_same' {P : Program} {f : FuncId} {args : Array Value} {w : World} {n : Nat} {v : Value} (h : Calls P f args (w.drewN n) fun e w' => e = .returned v ∧ w.drewN n = w') : Calls P f args (w.drewN n) fun e w'' => e = .returned v ∧ ∃ m, w'' = w.drewN m :=
  Calls.quiet_of_same (h.mono fun _ _ ⟨h1, h2⟩ => ⟨h1, h2.symm⟩)
theorem make_cap (n : Nat) (hn : n ≤ 1099511627776) (w : World) :
    (Instr.makeSlice 67 (.int .i64 0) (.int .i64 (n : Int))).run Tryz.prog w = .ok (.slice (some ⟨w.heap.size, 0, none⟩) 0 n) (w.alloc (.cells (madeCells #[.int .i64 0] n) 2)) := by
  obtain ⟨i0, hi, hz0, hz1, hz2⟩ := info_parts infoI
  have := run_make (P := Tryz.prog) w 67 2 i0 (.int .i64 0) Tryz.underlying67 hi hz0 .i64 .i64 0 n (by omega) (by omega) (by rw [hz2]; omega) (by omega)
  rw [hz1] at this
  simpa [Value.cells] using this
theorem ownI_cap (w : World) (n : Nat) (hn : n ≤ 1099511627776) : OwnI (w.alloc (.cells (madeCells #[.int .i64 0] n) 2)) w.heap.size (.slice (some ⟨w.heap.size, 0, none⟩) 0 n) [] := by
  have h := (ownI_made' w n hn).cut 0 (Nat.zero_le _)
  simpa using h
/-- a list of elements of the call's own is handed back -/
def RetNl (w : World) (p : List Nat) (e : Ending) (w' : World) : Prop := ∃ a c, e = .returned (.slice a p.length c) ∧ OwnI w' w.heap.size (.slice a p.length c) (natI p) ∧ Below w.heap.size w w'

end Go.Proofs.YtlcglclojlffgaaGreatDoor
namespace Go.Proofs.YtlcglclojlffgaaGreatDoor
open Go.RowKit

set_option maxRecDepth 100000 in
set_option maxHeartbeats 1000000 in
theorem spName_any (s : ByteArray) (w : World) (hs : s.size ≤ 1048576) :
    Calls Tryz.prog 104 #[.string s] w fun e w' => e = .returned (.bool (nameB s.data.toList)) ∧ w = w' := by
  have hl : s.data.toList.length = s.size := rfl
  have HL := Lib.hid hl
  clear hl
  go_enter Tryz.func104, Tryz.ntmps104
  go_wp2_with fail
  go_loop [3] (fun i => ∃ k : Nat, k ≤ s.size ∧ i = .int .i64 k ∧ ∀ i (hi : i < s.size), i < k → 97 ≤ s[i].toNat ∧ s[i].toNat ≤ 122) (fun i => s.size - (intOf i).toNat)
  case atStart => exact ⟨0, Nat.zero_le _, rfl, fun i _ h => by omega⟩
  case round =>
    obtain ⟨k, hk, rfl, hall⟩ := hrel
    have HA := Lib.hid hall
    clear hall
    by_cases hlt : k < s.size
    · have hki : (k : Int) < (s.size : Int) := by omega
      by_cases h1 : s[k].toNat < 97
      · have HR := Lib.hid (name_no (h := hlt) (Or.inl h1))
        have hd : decide (((s[k].toNat : Nat) : Int) < 97) = true := by simp; omega
        go_wp2_with fail
        go_ret
        exact ⟨ret_bool HR.out.symm, rfl⟩
      · have hd : decide (((s[k].toNat : Nat) : Int) < 97) = false := by simp; omega
        by_cases h2 : 122 < s[k].toNat
        · have HR := Lib.hid (name_no (h := hlt) (Or.inr h2))
          have hd2 : decide ((122 : Int) < ((s[k].toNat : Nat) : Int)) = true := by simp; omega
          clear h1 h2
          go_wp2_with fail
          go_ret
          exact ⟨ret_bool HR.out.symm, rfl⟩
        · have hd2 : decide ((122 : Int) < ((s[k].toNat : Nat) : Int)) = false := by simp; omega
          have HK : Hid (97 ≤ s[k].toNat ∧ s[k].toNat ≤ 122) := Lib.hid (by omega)
          clear h1 h2
          go_wp2_with fail
          refine ⟨⟨k + 1, by omega, by go_num, fun i hi hik => ?_⟩, by simp [intOf]; omega⟩
          by_cases e : i = k
          · subst e; exact HK.out
          · exact HA.out i hi (by omega)
    · have hki : ¬ (k : Int) < (s.size : Int) := by omega
      have HR := Lib.hid (name_yes (s := s) (fun i hi => HA.out i hi (by omega)))
      by_cases h1 : 1 ≤ s.size
      · have h1' : (1 : Int) ≤ (s.size : Int) := by omega
        by_cases h8 : s.size ≤ 8
        · have h8' : (s.size : Int) ≤ 8 := by omega
          have HE := Lib.hid (HR.out.trans (decide_eq_true ⟨h1', h8'⟩))
          go_wp2_with fail
          go_ret
          exact ⟨ret_bool HE.out.symm, rfl⟩
        · have h8' : ¬ (s.size : Int) ≤ 8 := by omega
          have HE := Lib.hid (HR.out.trans (decide_eq_false (fun h => h8' h.2)))
          go_wp2_with fail
          go_ret
          exact ⟨ret_bool HE.out.symm, rfl⟩
      · have h1' : ¬ (1 : Int) ≤ (s.size : Int) := by omega
        have HE := Lib.hid (HR.out.trans (decide_eq_false (fun h => h1' h.1)))
        go_wp2_with fail
        go_ret
        exact ⟨ret_bool HE.out.symm, rfl⟩
theorem spIn_val {n lo hi : Int} {b : Bool} {w : World} (h : inB n lo hi = b) :
    Calls Tryz.prog 44 #[.int .i64 n, .int .i64 lo, .int .i64 hi] w fun e w' => e = .returned (.bool b) ∧ w = w' := h ▸ spIn_any n lo hi w
/-- a list that rises, not empty and not too long -/
def risS (most : Nat) (lo hi : Int) (xs : List Int) : Bool := decide (1 ≤ xs.length) && decide (xs.length ≤ most) && risB lo hi xs
set_option maxRecDepth 100000 in
set_option maxHeartbeats 2000000 in
theorem spRises_any (most : Nat) (hm : most ≤ 8) (lo hi : Int) (a : Option Addr) (xs : List Int) (c : Nat) (w : World) (hx : IntsAt w a xs) (lx : xs.length ≤ 1099511627776) :
    Calls Tryz.prog 106 #[.slice a xs.length c, .int .i64 (most : Int), .int .i64 lo, .int .i64 hi] w fun e w' => e = .returned (.bool (risS most lo hi xs)) ∧ ∃ n, w' = w.drewN n := by
  have HX := Lib.hid hx
  clear hx
  obtain ⟨R, hR⟩ : ∃ R, R = risS most lo hi xs := ⟨_, rfl⟩
  have HR := Lib.hid hR
  rw [← hR]
  clear hR
  by_cases h1 : 1 ≤ xs.length
  · have h1' : ¬ ((xs.length : Nat) : Int) < 1 := by omega
    by_cases h2 : xs.length ≤ most
    · have h2' : ¬ (most : Int) < (xs.length : Int) := by omega
      have HR2 := Lib.hid (show R = risB lo hi xs by rw [HR.out, risS, decide_eq_true h1, decide_eq_true h2]; rfl)
      clear HR
      go_enter Tryz.func106, Tryz.ntmps106
      go_wp2_with fail
      go_loopw [9] (fun i wr => ∃ k n : Nat, k ≤ xs.length ∧ i = .int .i64 k ∧ (∀ i, i < k → (lo ≤ xs.getD i 0 ∧ xs.getD i 0 ≤ hi) ∧ (0 < i → xs.getD (i - 1) 0 < xs.getD i 0)) ∧ wr = w.drewN n) (fun i _ => xs.length - (intOf i).toNat)
      case atStart => exact ⟨0, 0, Nat.zero_le _, rfl, fun i h => by omega, rfl⟩
      case round =>
        obtain ⟨k, n, hk, rfl, hall, hwr⟩ := hrel
        have HA := Lib.hid hall
        have HWR := Lib.hid hwr
        have HXr := Lib.hid (show IntsAt wr a xs by rw [hwr]; exact HX.out.below (below_drewN (Below.refl _ _) _))
        clear hall hwr
        by_cases hlt : k < xs.length
        · obtain ⟨b1, o1, x, rfl, hxk, hb1, hc1⟩ := HXr.out.at hlt
          have hki : (k : Int) < (xs.length : Int) := by omega
          have HG := Lib.hid (getD_of hxk)
          clear hxk
          rcases Bool.eq_false_or_eq_true (inB x lo hi) with hin | hin
          · have hin' := inB_iff.1 hin
            have HIN := Lib.hid (fun w => spIn_val (w := w) hin)
            by_cases hk0 : k = 0
            · have hk0' : decide (0 < k) = false := by simp; omega
              have HK : Hid (∀ i, i < k + 1 → (lo ≤ xs.getD i 0 ∧ xs.getD i 0 ≤ hi) ∧ (0 < i → xs.getD (i - 1) 0 < xs.getD i 0)) := Lib.hid (fun i hi => by
                obtain rfl : i = k := by omega
                rw [HG.out]
                exact ⟨hin', fun h => by omega⟩)
              clear hk0 hin
              go_wp2_with fail
              go_quiet ((go_at_call 44; go_must (exact quiet_same' (HIN.out _))))
              go_wp2_with fail
              exact ⟨⟨k + 1, _, by omega, by go_num, HK.out, by rw [HWR.out, World.drewN_drewN]⟩, by simp [intOf]; omega⟩
            · obtain ⟨k, rfl⟩ : ∃ k', k = k' + 1 := ⟨k - 1, by omega⟩
              obtain ⟨b2, o2, y, e2, hyk, hb2, hc2⟩ := HXr.out.at (k := k) (by omega)
              simp only [Option.some.injEq, Addr.mk.injEq, and_true] at e2
              obtain ⟨rfl, rfl⟩ := e2
              have HY := Lib.hid (getD_of hyk)
              have hk0' : decide (0 < k + 1) = true := by simp
              have hk1' : ((k + 1 : Nat) : Int) - 1 = (k : Int) := by omega
              clear hyk hk0 hin
              by_cases hxy : x ≤ y
              · have hd : decide (x ≤ y) = true := decide_eq_true hxy
                have HE := Lib.hid (HR2.out.trans (ris_no (lo := lo) (hi := hi) hlt (Or.inr ⟨by omega, by rw [HG.out, Nat.add_sub_cancel, HY.out]; exact hxy⟩)))
                clear hxy
                go_wp2_with fail
                go_quiet ((go_at_call 44; go_must (exact quiet_same' (HIN.out _))))
                go_wp2_with fail
                go_ret
                exact ⟨ret_bool HE.out.symm, _, by rw [HWR.out, World.drewN_drewN]⟩
              · have hd : decide (x ≤ y) = false := decide_eq_false hxy
                have HK : Hid (∀ i, i < k + 1 + 1 → (lo ≤ xs.getD i 0 ∧ xs.getD i 0 ≤ hi) ∧ (0 < i → xs.getD (i - 1) 0 < xs.getD i 0)) := Lib.hid (fun i hi => by
                  by_cases e : i = k + 1
                  · subst e
                    rw [HG.out, Nat.add_sub_cancel, HY.out]
                    exact ⟨hin', fun _ => by omega⟩
                  · exact HA.out i (by omega))
                clear hxy
                go_wp2_with fail
                go_quiet ((go_at_call 44; go_must (exact quiet_same' (HIN.out _))))
                go_wp2_with fail
                exact ⟨⟨k + 1 + 1, _, by omega, by go_num, HK.out, by rw [HWR.out, World.drewN_drewN]⟩, by simp [intOf]; omega⟩
          · have HIN := Lib.hid (fun w => spIn_val (w := w) hin)
            have HE := Lib.hid (HR2.out.trans (ris_no (lo := lo) (hi := hi) hlt (Or.inl (by
              rw [HG.out]
              have h1 : ¬ (lo ≤ x ∧ x ≤ hi) := of_decide_eq_false hin
              omega))))
            clear hin
            go_wp2_with fail
            go_quiet ((go_at_call 44; go_must (exact quiet_same' (HIN.out _))))
            go_wp2_with fail
            go_ret
            exact ⟨ret_bool HE.out.symm, _, by rw [HWR.out, World.drewN_drewN]⟩
        · have hki : ¬ (k : Int) < (xs.length : Int) := by omega
          have HE := Lib.hid (HR2.out.trans (decide_eq_true (fun i hi => HA.out i (by omega))))
          go_wp2_with fail
          go_ret
          exact ⟨ret_bool HE.out.symm, _, HWR.out⟩
    · have h2' : (most : Int) < (xs.length : Int) := by omega
      have HE := Lib.hid (show R = false by rw [HR.out, risS, decide_eq_false h2]; simp)
      go_enter Tryz.func106, Tryz.ntmps106
      go_wp2_with fail
      go_ret
      exact ⟨ret_bool HE.out.symm, 0, rfl⟩
  · have h1' : ((xs.length : Nat) : Int) < 1 := by omega
    have HE := Lib.hid (show R = false by rw [HR.out, risS, decide_eq_false h1]; rfl)
    go_enter Tryz.func106, Tryz.ntmps106
    go_wp2_with fail
    go_ret
    exact ⟨ret_bool HE.out.symm, 0, rfl⟩

end Go.Proofs.YtlcglclojlffgaaGreatDoor
namespace Go.Proofs.YtlcglclojlffgaaGreatDoor
open Go.RowKit

/-- what the reference says of a family's kind -/
def kindB (kd p k g : Int) (szs : List Int) (cl : Int) : Bool :=
  if kd = 2 then decide (p = 2 ∧ k = 5 ∧ g = 37) && inB cl 1 8 && risS 8 3 24 szs
  else decide (kd = 1) && fldB p k g && decide (cl = 0) && risS 8 17 41 szs && szs.all fun x => x % 4 == 1
theorem fam_eq (nm : ByteArray) (kd p k g : Int) (szs : List Int) (cl : Int) (lvs : List Int) :
    Fam.ok ⟨nm, kd, p, k, g, szs, cl, lvs⟩ = (nameB nm.data.toList && risS 4 1 80 lvs && kindB kd p k g szs cl) := by
  have hm : risB 17 41 szs = true → szs.all msz = szs.all fun x => x % 4 == 1 := fun h => by
    rw [Bool.eq_iff_iff, List.all_eq_true, List.all_eq_true]
    constructor
    · intro h2 x hx
      have := h2 x hx
      simp only [msz, Bool.and_eq_true] at this
      exact this.2
    · intro h2 x hx
      have h3 := ris_in h hx
      simp only [msz, Bool.and_eq_true, decide_eq_true_eq]
      exact ⟨h3, h2 x hx⟩
  rw [Bool.eq_iff_iff]
  simp only [Fam.ok, kindB, risS, Bool.and_eq_true, decide_eq_true_eq]
  by_cases k1 : kd = 1
  · have k2 : ¬ kd = 2 := by omega
    rw [if_pos k1, if_neg k2]
    simp only [Bool.and_eq_true, decide_eq_true_eq]
    constructor
    · rintro ⟨⟨⟨⟨⟨⟨h1, h2⟩, h3⟩, h4⟩, h5⟩, h6⟩, ⟨⟨h7, h8⟩, h9⟩, h10⟩
      exact ⟨⟨h1, ⟨h2, h3⟩, h4⟩, ⟨⟨⟨k1, h8⟩, h9⟩, ⟨h5, h6⟩, h10⟩, by rw [← hm h10]; exact h7⟩
    · rintro ⟨⟨h1, ⟨h2, h3⟩, h4⟩, ⟨⟨⟨-, h8⟩, h9⟩, ⟨h5, h6⟩, h10⟩, h7⟩
      exact ⟨⟨⟨⟨⟨⟨h1, h2⟩, h3⟩, h4⟩, h5⟩, h6⟩, ⟨⟨by rw [hm h10]; exact h7, h8⟩, h9⟩, h10⟩
  · rw [if_neg k1]
    by_cases k2 : kd = 2
    · rw [if_pos k2, if_pos k2]
      simp only [Bool.and_eq_true, decide_eq_true_eq, inB]
      constructor
      · rintro ⟨⟨⟨⟨⟨⟨h1, h2⟩, h3⟩, h4⟩, h5⟩, h6⟩, ⟨⟨⟨⟨h7, h8⟩, h9⟩, h10⟩, h11⟩, h12⟩
        exact ⟨⟨h1, ⟨h2, h3⟩, h4⟩, ⟨⟨h7, h8, h9⟩, h10, h11⟩, ⟨h5, h6⟩, h12⟩
      · rintro ⟨⟨h1, ⟨h2, h3⟩, h4⟩, ⟨⟨h7, h8, h9⟩, h10, h11⟩, ⟨h5, h6⟩, h12⟩
        exact ⟨⟨⟨⟨⟨⟨h1, h2⟩, h3⟩, h4⟩, h5⟩, h6⟩, ⟨⟨⟨⟨h7, h8⟩, h9⟩, h10⟩, h11⟩, h12⟩
    · rw [if_neg k2, if_neg k2]
      simp [k1]
theorem kind_fld {kd p k g : Int} {szs : List Int} {cl : Int} (h : fldB p k g = false) : kindB kd p k g szs cl = false := by
  unfold kindB
  split
  · have : ¬ (p = 2 ∧ k = 5 ∧ g = 37) := by
      rintro ⟨rfl, rfl, rfl⟩
      have h2 : fldB 2 5 37 = true := least5.2.2.2.2.1
      rw [h2] at h; cases h
    rw [decide_eq_false this]; rfl
  · rw [h]; simp
set_option maxRecDepth 100000 in
set_option maxHeartbeats 4000000 in
theorem spFamily_any (nm : ByteArray) (kd p k g : Int) (a1 : Option Addr) (szs : List Int) (c1 : Nat) (cl : Int) (a2 : Option Addr) (lvs : List Int) (c2 : Nat) (w : World) (h1 : IntsAt w a1 szs) (h2 : IntsAt w a2 lvs) (l1 : szs.length ≤ 1048576) (l2 : lvs.length ≤ 1048576) (ln : nm.size ≤ 1048576) :
    Calls Tryz.prog 89 #[(.agg #[.string nm, .int .i64 kd, .int .i64 p, .int .i64 k, .int .i64 g, .slice a1 szs.length c1, .int .i64 cl, .slice a2 lvs.length c2])] w fun e w' => e = .returned (.bool (Fam.ok ⟨nm, kd, p, k, g, szs, cl, lvs⟩)) ∧ Below w.heap.size w w' := by
  have H1 := Lib.hid h1
  have H2 := Lib.hid h2
  obtain ⟨ok, hok⟩ : ∃ ok, ok = Fam.ok ⟨nm, kd, p, k, g, szs, cl, lvs⟩ := ⟨_, rfl⟩
  rw [← hok]
  have HOK := Lib.hid (hok.trans (fam_eq nm kd p k g szs cl lvs))
  clear h1 h2 hok
  go_enter Tryz.func89, Tryz.ntmps89
  go_wp2_with fail
  have hz := push_at w (.cells #[.string nm, .int .i64 kd, .int .i64 p, .int .i64 k, .int .i64 g, .slice a1 szs.length c1, .int .i64 cl, .slice a2 lvs.length c2] 123 (0, 0))
  have HB0 := Lib.hid (ba1 w (.cells #[.string nm, .int .i64 kd, .int .i64 p, .int .i64 k, .int .i64 g, .slice a1 szs.length c1, .int .i64 cl, .slice a2 lvs.length c2] 123 (0, 0)))
  obtain ⟨w1, hw1⟩ : ∃ w1, w1 = w.alloc (.cells #[.string nm, .int .i64 kd, .int .i64 p, .int .i64 k, .int .i64 g, .slice a1 szs.length c1, .int .i64 cl, .slice a2 lvs.length c2] 123 (0, 0)) := ⟨_, rfl⟩
  rw [← hw1] at hz HB0 ⊢
  have HX1 := Lib.hid hz
  obtain ⟨hcA, hfA⟩ := heap_cellR hz
  have hltA := blkLt hz
  clear hw1 hz
  refine (spName_any nm w1 ln).mono ?_
  rintro e w2 ⟨rfl, rfl⟩
  rcases Bool.eq_false_or_eq_true (nameB nm.data.toList) with n1 | n1
  · rw [n1]
    go_wp2_with fail
    refine (spField_any p k g w1).mono ?_
    rintro e w2 ⟨b, rfl, hb1, hb2, hb3⟩
    have HX2 := Lib.hid (blkK hb3 HX1.out)
    have HB2 := Lib.hid (bt0 HB0.out hb3 (Nat.le_refl _))
    clear hb3 hcA hfA hltA
    obtain ⟨hcA, hfA⟩ := heap_cellR HX2.out
    have hltA := blkLt HX2.out
    cases b with
    | false =>
      have HE := Lib.hid (show ok = false by
        rw [HOK.out, kind_fld, Bool.and_false]
        by_cases hk : k = 1
        · rw [hk, fldB_1]
        · exact (hb1 hk).symm)
      clear hb1 hb2
      go_wp2_with fail
      go_ret
      exact ⟨ret_bool HE.out.symm, HB2.out⟩
    | true =>
      have HBt := Lib.hid hb1
      have HBo := Lib.hid hb2
      clear hb1 hb2
      go_wp2_with fail
      refine (spRises_any 4 (by decide) 1 80 a2 lvs c2 w2 (H2.out.below HB2.out) (by omega)).mono ?_
      rintro e w3 ⟨rfl, n3, rfl⟩
      have HX3 := Lib.hid (blkK (below_drewN (Below.refl _ _) n3) HX2.out)
      have HB3 := Lib.hid (bt0 HB2.out (below_drewN (Below.refl _ _) n3) (Nat.le_refl _))
      obtain ⟨w3, hw3⟩ : ∃ w3, w3 = w2.drewN n3 := ⟨_, rfl⟩
      rw [← hw3] at HX3 HB3 ⊢
      clear hcA hfA hltA hw3
      obtain ⟨hcA, hfA⟩ := heap_cellR HX3.out
      have hltA := blkLt HX3.out
      rcases Bool.eq_false_or_eq_true (risS 4 1 80 lvs) with n2 | n2
      · rw [n2]
        have HOK2 := Lib.hid (show ok = kindB kd p k g szs cl by rw [HOK.out, n1, n2]; rfl)
        by_cases k2 : kd = 2
        · subst k2
          go_wp2_with fail
          refine (spFieldOf_32 w3).mono ?_
          rintro e w4 ⟨rfl, hb4⟩
          have HX4 := Lib.hid (blkK hb4 HX3.out)
          have HB4 := Lib.hid (bt0 HB3.out hb4 (Nat.le_refl _))
          clear hb4 hcA hfA hltA
          obtain ⟨hcA, hfA⟩ := heap_cellR HX4.out
          have hltA := blkLt HX4.out
          have HOK3 := Lib.hid (show ok = (decide (p = 2 ∧ k = 5 ∧ g = 37) && inB cl 1 8 && risS 8 3 24 szs) from HOK2.out)
          have HB5 := Lib.hid (bt0 HB4.out (ba1 w4 (.cells #[.int .i64 2, .int .i64 5, .int .i64 37] 121 (0, 0))) (Nat.le_refl _))
          have HX5 := Lib.hid (push_old (A := .cells #[.int .i64 2, .int .i64 5, .int .i64 37] 121 (0, 0)) HX4.out)
          by_cases e1 : p = 2
          · subst e1
            by_cases e2 : k = 5
            · subst e2
              by_cases e3 : g = 37
              · subst e3
                have HOK4 := Lib.hid (show ok = (inB cl 1 8 && risS 8 3 24 szs) by rw [HOK3.out]; rfl)
                go_wp2_with fail
                refine (spIn_any cl 1 8 _).mono ?_
                rintro e w5 ⟨rfl, rfl⟩
                rcases Bool.eq_false_or_eq_true (inB cl 1 8) with i1 | i1
                · rw [i1]
                  have HOK5 := Lib.hid (show ok = risS 8 3 24 szs by rw [HOK4.out, i1]; rfl)
                  obtain ⟨hcB, hfB⟩ := heap_cellR HX5.out
                  have hltB := blkLt HX5.out
                  go_wp2_with fail
                  refine (spRises_any 8 (by decide) 3 24 a1 szs c1 _ (H1.out.below HB5.out) (by omega)).mono ?_
                  rintro e w6 ⟨rfl, n6, rfl⟩
                  have HB6 := Lib.hid (bt0 HB5.out (below_drewN (Below.refl _ _) n6) (Nat.le_refl _))
                  rw [← HOK5.out]
                  go_wp2_with fail
                  go_ret
                  exact ⟨rfl, HB6.out⟩
                · rw [i1]
                  have HE := Lib.hid (show ok = false by rw [HOK4.out, i1]; rfl)
                  go_wp2_with fail
                  go_ret
                  exact ⟨ret_bool HE.out.symm, HB5.out⟩
              · have e3b : (g == 37) = false := by rw [beq_eq_false_iff_ne]; exact e3
                have HE := Lib.hid (show ok = false by rw [HOK3.out, decide_eq_false (fun h => e3 h.2.2)]; rfl)
                go_wp2_with fail
                go_ret
                exact ⟨ret_bool HE.out.symm, HB5.out⟩
            · have e2b : (k == 5) = false := by rw [beq_eq_false_iff_ne]; exact e2
              have HE := Lib.hid (show ok = false by rw [HOK3.out, decide_eq_false (fun h => e2 h.2.1)]; rfl)
              go_wp2_with fail
              go_ret
              exact ⟨ret_bool HE.out.symm, HB5.out⟩
          · have e1b : (p == 2) = false := by rw [beq_eq_false_iff_ne]; exact e1
            have HE := Lib.hid (show ok = false by rw [HOK3.out, decide_eq_false (fun h => e1 h.1)]; rfl)
            go_wp2_with fail
            go_ret
            exact ⟨ret_bool HE.out.symm, HB5.out⟩
        · have k2b : (kd == 2) = false := by rw [beq_eq_false_iff_ne]; exact k2
          have HOK3 := Lib.hid (HOK2.out.trans (if_neg k2))
          by_cases k1 : kd = 1
          · subst k1
            by_cases p2 : p = 2
            · subst p2
              have hf : fldB 2 k g = true := by
                have hk : k ≠ 1 := fun e => by have := HBo.out e trivial; omega
                exact (HBt.out hk).symm
              by_cases c0 : cl = 0
              · subst c0
                have HOK4 := Lib.hid (show ok = (risS 8 17 41 szs && szs.all fun x => x % 4 == 1) by rw [HOK3.out, hf]; rfl)
                clear hf
                go_wp2_with fail
                refine (spRises_any 8 (by decide) 17 41 a1 szs c1 w3 (H1.out.below HB3.out) (by omega)).mono ?_
                rintro e w4 ⟨rfl, n4, rfl⟩
                have HX4 := Lib.hid (blkK (below_drewN (Below.refl _ _) n4) HX3.out)
                have HB4 := Lib.hid (bt0 HB3.out (below_drewN (Below.refl _ _) n4) (Nat.le_refl _))
                obtain ⟨w4, hw4⟩ : ∃ w4, w4 = w3.drewN n4 := ⟨_, rfl⟩
                rw [← hw4] at HX4 HB4 ⊢
                clear hcA hfA hltA hw4
                obtain ⟨hcA, hfA⟩ := heap_cellR HX4.out
                have hltA := blkLt HX4.out
                have HI4 := Lib.hid (H1.out.below HB4.out)
                rcases Bool.eq_false_or_eq_true (risS 8 17 41 szs) with r1 | r1
                · rw [r1]
                  have HOK5 := Lib.hid (show ok = szs.all fun x => x % 4 == 1 by rw [HOK4.out, r1]; rfl)
                  have HRB := Lib.hid (show risB 17 41 szs = true by rw [risS, Bool.and_eq_true] at r1; exact r1.2)
                  go_wp2_with fail
                  go_loopw [5] (fun i wr => ∃ j : Nat, j ≤ szs.length ∧ i = .int .i64 j ∧ (szs.take j).all (fun x => x % 4 == 1) = true ∧ wr = w4) (fun i _ => szs.length - (intOf i).toNat)
                  case atStart => exact ⟨0, Nat.zero_le _, rfl, rfl, rfl⟩
                  case round =>
                    obtain ⟨j, hj, rfl, hall, rfl⟩ := hrel
                    have HA := Lib.hid hall
                    clear hall
                    by_cases hlt : j < szs.length
                    · obtain ⟨b1, o1, x, rfl, hxk, hb1, hc1⟩ := HI4.out.at hlt
                      have hji : (j : Int) < (szs.length : Int) := by omega
                      have hxr := ris_in HRB.out (List.mem_of_getElem? hxk)
                      have HXK := Lib.hid hxk
                      have htm : x.tmod 4 = x % 4 := Int.tmod_eq_emod_of_nonneg (by omega)
                      have hwr : IntKind.i64.wrap (x % 4) = x % 4 := by rw [IntKind.wrap_i64]; omega
                      clear hxk
                      cases hm : (x % 4 == 1) with
                      | true =>
                        have hmb : (x % 4 != 1) = false := by rw [bne, hm]; rfl
                        have HAL := Lib.hid (show (szs.take (j + 1)).all (fun x => x % 4 == 1) = true by rw [take_snoc' HXK.out, List.all_append, HA.out]; simp [hm])
                        clear hm
                        go_wp2_with fail
                        exact ⟨⟨j + 1, by omega, by push_cast; rfl, HAL.out, trivial⟩, by simp [intOf]; omega⟩
                      | false =>
                        have hmb : (x % 4 != 1) = true := by rw [bne, hm]; rfl
                        have HE := Lib.hid (show ok = false by
                          rw [HOK5.out, List.all_eq_false]
                          exact ⟨x, List.mem_of_getElem? HXK.out, by simp [hm]⟩)
                        clear hm
                        go_wp2_with fail
                        go_ret
                        exact ⟨ret_bool HE.out.symm, HB4.out⟩
                    · have hji : ¬ (j : Int) < (szs.length : Int) := by omega
                      have HE := Lib.hid (show ok = true by
                        have h1 := HA.out
                        rw [List.take_of_length_le (by omega)] at h1
                        rw [HOK5.out, h1])
                      go_wp2_with fail
                      go_ret
                      exact ⟨ret_bool HE.out.symm, HB4.out⟩
                · rw [r1]
                  have HE := Lib.hid (show ok = false by rw [HOK4.out, r1]; rfl)
                  go_wp2_with fail
                  go_ret
                  exact ⟨ret_bool HE.out.symm, HB4.out⟩
              · have c0b : (cl != 0) = true := by rw [bne_iff_ne]; exact c0
                have HE := Lib.hid (show ok = false by rw [HOK3.out, decide_eq_false c0]; simp)
                clear hf
                go_wp2_with fail
                go_ret
                exact ⟨ret_bool HE.out.symm, HB3.out⟩
            · have p2b : (p != 2) = true := by rw [bne_iff_ne]; exact p2
              have HE := Lib.hid (show ok = false by rw [HOK3.out, fldB, decide_eq_false p2]; simp)
              go_wp2_with fail
              go_ret
              exact ⟨ret_bool HE.out.symm, HB3.out⟩
          · have k1b : (kd != 1) = true := by rw [bne_iff_ne]; exact k1
            have HE := Lib.hid (show ok = false by rw [HOK3.out, decide_eq_false k1]; rfl)
            go_wp2_with fail
            go_ret
            exact ⟨ret_bool HE.out.symm, HB3.out⟩
      · rw [n2]
        have HE := Lib.hid (show ok = false by rw [HOK.out, n2]; simp)
        go_wp2_with fail
        go_ret
        exact ⟨ret_bool HE.out.symm, HB3.out⟩
  · rw [n1]
    have HE := Lib.hid (show ok = false by rw [HOK.out, n1]; rfl)
    go_wp2_with fail
    go_ret
    exact ⟨ret_bool HE.out.symm, HB0.out⟩

end Go.Proofs.YtlcglclojlffgaaGreatDoor
namespace Go.Proofs.YtlcglclojlffgaaGreatDoor
open Go.RowKit

set_option maxRecDepth 100000 in
theorem spHas_any (a : Option Addr) (xs : List Int) (c : Nat) (n : Int) (w : World) (hx : IntsAt w a xs) (lx : xs.length ≤ 1099511627776) :
    Calls Tryz.prog 123 #[.slice a xs.length c, .int .i64 n] w fun e w' => e = .returned (.bool (hasI xs n)) ∧ w = w' := by
  have HX := Lib.hid hx
  clear hx
  go_enter Tryz.func123, Tryz.ntmps123
  go_wp2_with fail
  go_loopw [5] (fun i wr => ∃ k : Nat, k ≤ xs.length ∧ i = .int .i64 k ∧ (∀ j, j < k → xs.getD j 0 ≠ n) ∧ wr = w) (fun i _ => xs.length - (intOf i).toNat)
  case atStart => exact ⟨0, Nat.zero_le _, rfl, fun j h => by omega, rfl⟩
  case round =>
    obtain ⟨k, hk, rfl, hall, rfl⟩ := hrel
    have HA := Lib.hid hall
    clear hall
    by_cases hlt : k < xs.length
    · obtain ⟨b1, o1, x, rfl, hxk, hb1, hc1⟩ := HX.out.at hlt
      have hki : (k : Int) < (xs.length : Int) := by omega
      have HG := Lib.hid (getD_of hxk)
      have HXK := Lib.hid hxk
      clear hxk
      by_cases hxn : x = n
      · subst hxn
        have HE := Lib.hid (show hasI xs x = true by rw [hasI, List.contains_iff_mem]; exact List.mem_of_getElem? HXK.out)
        go_wp2_with fail
        go_ret
        exact ⟨ret_bool HE.out.symm, rfl⟩
      · have hxb : (x == n) = false := by rw [beq_eq_false_iff_ne]; exact hxn
        have HK : Hid (∀ j, j < k + 1 → xs.getD j 0 ≠ n) := Lib.hid (fun j hj => by
          by_cases e : j = k
          · subst e; rw [HG.out]; exact hxn
          · exact HA.out j (by omega))
        clear hxn
        go_wp2_with fail
        exact ⟨⟨k + 1, by omega, by push_cast; rfl, HK.out, trivial⟩, by simp [intOf]; omega⟩
    · have hki : ¬ (k : Int) < (xs.length : Int) := by omega
      have HE := Lib.hid (hasI_no (fun j hj => HA.out j (by omega)))
      go_wp2_with fail
      go_ret
      exact ⟨ret_bool HE.out.symm, rfl⟩
/-- the code of a family and a size -/
def famC (f : Fam) (n : Int) : Int := if f.ok = true then (if hasI f.sizes n = true then 0 else 2) else 1
set_option maxRecDepth 100000 in
set_option maxHeartbeats 1000000 in
theorem spCode_any (nm : ByteArray) (kd p k g : Int) (a1 : Option Addr) (szs : List Int) (c1 : Nat) (cl : Int) (a2 : Option Addr) (lvs : List Int) (c2 : Nat) (n : Int) (w : World) (h1 : IntsAt w a1 szs) (h2 : IntsAt w a2 lvs) (l1 : szs.length ≤ 1048576) (l2 : lvs.length ≤ 1048576) (ln : nm.size ≤ 1048576) :
    Calls Tryz.prog 109 #[(.agg #[.string nm, .int .i64 kd, .int .i64 p, .int .i64 k, .int .i64 g, .slice a1 szs.length c1, .int .i64 cl, .slice a2 lvs.length c2]), .int .i64 n] w fun e w' => e = .returned (.int .i64 (famC ⟨nm, kd, p, k, g, szs, cl, lvs⟩ n)) ∧ Below w.heap.size w w' := by
  have H1 := Lib.hid h1
  have H2 := Lib.hid h2
  obtain ⟨f, hf⟩ : ∃ f, f = Fam.mk nm kd p k g szs cl lvs := ⟨_, rfl⟩
  have HFI := Lib.hid (fun w (h1 : IntsAt w a1 szs) (h2 : IntsAt w a2 lvs) => spFamily_any nm kd p k g a1 szs c1 cl a2 lvs c2 w h1 h2 l1 l2 ln)
  rw [← hf] at HFI ⊢
  have HS := Lib.hid (show f.sizes = szs by rw [hf])
  clear h1 h2 hf
  go_enter Tryz.func109, Tryz.ntmps109
  go_wp2_with fail
  have hz := push_at w (.cells #[.string nm, .int .i64 kd, .int .i64 p, .int .i64 k, .int .i64 g, .slice a1 szs.length c1, .int .i64 cl, .slice a2 lvs.length c2] 123 (0, 0))
  have HB0 := Lib.hid (ba1 w (.cells #[.string nm, .int .i64 kd, .int .i64 p, .int .i64 k, .int .i64 g, .slice a1 szs.length c1, .int .i64 cl, .slice a2 lvs.length c2] 123 (0, 0)))
  obtain ⟨w1, hw1⟩ : ∃ w1, w1 = w.alloc (.cells #[.string nm, .int .i64 kd, .int .i64 p, .int .i64 k, .int .i64 g, .slice a1 szs.length c1, .int .i64 cl, .slice a2 lvs.length c2] 123 (0, 0)) := ⟨_, rfl⟩
  rw [← hw1] at hz HB0 ⊢
  have HX1 := Lib.hid hz
  clear hw1 hz
  refine (HFI.out w1 (H1.out.below HB0.out) (H2.out.below HB0.out)).mono ?_
  rintro e w2 ⟨rfl, hb2⟩
  have HX2 := Lib.hid (blkK hb2 HX1.out)
  have HB2 := Lib.hid (bt0 HB0.out hb2 (Nat.le_refl _))
  obtain ⟨hcA, hfA⟩ := heap_cellR HX2.out
  have hltA := blkLt HX2.out
  clear hb2
  rcases Bool.eq_false_or_eq_true f.ok with o1 | o1
  · rw [o1]
    go_wp2_with fail
    refine (spHas_any a1 szs c1 n w2 (H1.out.below HB2.out) (by omega)).mono ?_
    rintro e w3 ⟨rfl, rfl⟩
    rcases Bool.eq_false_or_eq_true (hasI szs n) with s1 | s1
    · rw [s1]
      have HE := Lib.hid (show famC f n = 0 by rw [famC, if_pos o1, HS.out, if_pos s1])
      go_wp2_with fail
      go_ret
      exact ⟨ret_int HE.out.symm, HB2.out⟩
    · rw [s1]
      have HE := Lib.hid (show famC f n = 2 by rw [famC, if_pos o1, HS.out, if_neg (by rw [s1]; decide)])
      go_wp2_with fail
      go_ret
      exact ⟨ret_int HE.out.symm, HB2.out⟩
  · rw [o1]
    have HE := Lib.hid (show famC f n = 1 by rw [famC, if_neg (by rw [o1]; decide)])
    go_wp2_with fail
    go_ret
    exact ⟨ret_int HE.out.symm, HB2.out⟩

end Go.Proofs.YtlcglclojlffgaaGreatDoor
namespace Go.Proofs.YtlcglclojlffgaaGreatDoor
open Go.RowKit

set_option maxHeartbeats 1000000 in
theorem spShare_any (p k g d c n b : Int) (w : World) (hd : 0 ≤ d) (hd2 : d ≤ 1500) (hn : 1 ≤ n) (hn2 : n ≤ 16) :
    Calls Tryz.prog 138 #[.agg #[.int .i64 p, .int .i64 k, .int .i64 g, .int .i64 d, .int .i64 c, .int .i64 n], .int .i64 b] w fun e w' => e = .returned (.int .i64 (Lay.share ⟨d, c, n⟩ b)) ∧ Below w.heap.size w w' := by
  have h1 : 0 ≤ d % n := Int.emod_nonneg _ (by omega)
  have h2 : d % n < n := Int.emod_lt_of_pos _ (by omega)
  have h3 : 0 ≤ d / n := Int.ediv_nonneg hd (by omega)
  have h4 : d / n ≤ d := Int.ediv_le_self _ hd
  have HS := Lib.hid (show Lay.share ⟨d, c, n⟩ b = d / n + if n - d % n ≤ b then 1 else 0 from rfl)
  have e1 : d.tmod n = d % n := Int.tmod_eq_emod_of_nonneg hd
  have e2 : d.tdiv n = d / n := Int.tdiv_eq_ediv_of_nonneg hd
  obtain ⟨r, hr⟩ : ∃ r, r = d % n := ⟨_, rfl⟩
  obtain ⟨q, hq⟩ : ∃ q, q = d / n := ⟨_, rfl⟩
  rw [← hr] at h1 h2 e1 HS
  rw [← hq] at h3 h4 e2 HS
  have e1' : d % n = r := hr.symm
  have e2' : d / n = q := hq.symm
  clear hr hq
  by_cases hb : n - r ≤ b
  · have hbd : decide (n - r ≤ b) = true := decide_eq_true hb
    have HE := Lib.hid (HS.out.trans (by rw [if_pos hb]))
    go_enter Tryz.func138, Tryz.ntmps138
    go_wp2_with fail
    go_quiet (fail)
    go_wp2_with fail
    go_ret
    exact ⟨ret_int HE.out.symm, (ba1 _ _).trans (below_drewN (Below.refl _ _) nq)⟩
  · have hbd : decide (n - r ≤ b) = false := decide_eq_false hb
    have HE := Lib.hid (HS.out.trans (by rw [if_neg hb, Int.add_zero]))
    go_enter Tryz.func138, Tryz.ntmps138
    go_wp2_with fail
    go_quiet (fail)
    go_wp2_with fail
    go_ret
    exact ⟨ret_int HE.out.symm, (ba1 _ _).trans (below_drewN (Below.refl _ _) nq)⟩
set_option maxHeartbeats 1000000 in
theorem spBlock_any (p k g d c n b : Int) (w : World) (hd : 0 ≤ d) (hd2 : d ≤ 1500) (hc : 0 ≤ c) (hc2 : c ≤ 1000) (hn : 1 ≤ n) (hn2 : n ≤ 16) :
    Calls Tryz.prog 126 #[.agg #[.int .i64 p, .int .i64 k, .int .i64 g, .int .i64 d, .int .i64 c, .int .i64 n], .int .i64 b] w fun e w' => e = .returned (.agg #[.int .i64 p, .int .i64 k, .int .i64 g, .int .i64 (Lay.share ⟨d, c, n⟩ b + c), .int .i64 c]) ∧ Below w.heap.size w w' := by
  have hs := share_bd (c := c) (b := b) hd hd2 hn
  obtain ⟨s, hS⟩ : ∃ s, s = Lay.share ⟨d, c, n⟩ b := ⟨_, rfl⟩
  have HS := Lib.hid hS
  rw [← hS] at hs
  clear hS
  go_enter Tryz.func126, Tryz.ntmps126
  go_wp2_with fail
  have hbox1 := heap2 w (.cells #[.int .i64 p, .int .i64 k, .int .i64 g, .int .i64 d, .int .i64 c, .int .i64 n] 146 (0, 0)) (.cells #[.int .i64 0, .int .i64 0, .int .i64 0, .int .i64 0, .int .i64 0] 189 (0, 0))
  have HB := Lib.hid (ba2 w (.cells #[.int .i64 p, .int .i64 k, .int .i64 g, .int .i64 d, .int .i64 c, .int .i64 n] 146 (0, 0)) (.cells #[.int .i64 0, .int .i64 0, .int .i64 0, .int .i64 0, .int .i64 0] 189 (0, 0)))
  obtain ⟨W, hW⟩ : ∃ W, W = (w.alloc (.cells #[.int .i64 p, .int .i64 k, .int .i64 g, .int .i64 d, .int .i64 c, .int .i64 n] 146 (0, 0))).alloc (.cells #[.int .i64 0, .int .i64 0, .int .i64 0, .int .i64 0, .int .i64 0] 189 (0, 0)) := ⟨_, rfl⟩
  rw [← hW] at hbox1 HB ⊢
  clear hW
  obtain ⟨hc1, hf1⟩ := heap_cellR hbox1.1
  obtain ⟨hc3, hf3⟩ := heap_cellR hbox1.2
  have hz1 : w.heap.size < W.heap.size := blkLt hbox1.1
  have hz3 : w.heap.size + 1 < W.heap.size := blkLt hbox1.2
  clear hbox1
  refine wp_region_ext_tail 11 (by kernel_rfl) (by kernel_rfl) ?_
  simp only [List.take_succ_cons, List.take_zero, List.drop_succ_cons, List.drop_zero]
  repeat (go_big_quiet_step ((go_at_call 138; go_must (exact calls_ext _ (spShare_any p k g d c n b _ hd hd2 hn hn2)))))
  refine wpQuiet_nil ?_
  rintro _ ⟨s', rfl⟩
  have hz' : w.heap.size + 1 < s'.w.heap.size := by have := s'.below.size; omega
  have HB2 := Lib.hid (bt0 HB.out s'.below (Nat.le_refl _))
  have hw : wrap64 (s + c) = s + c := by unfold wrap64; omega
  rw [← HS.out]
  go_wp2_with fail
  refine bodyPost_ret (v := .agg #[.int .i64 p, .int .i64 k, .int .i64 g, .int .i64 (s + c), .int .i64 c]) (by simp [results, Tryz.results126, go_sem, hc3, hz3, hw]) rfl ⟨by rw [HS.out], ?_⟩
  iterate 5 (refine Below.setCell ?_ (by dsimp only; omega) _)
  exact HB2.out

theorem spIn_below {n lo hi : Int} {b : Bool} {w : World} (h : inB n lo hi = b) :
    Calls Tryz.prog 44 #[.int .i64 n, .int .i64 lo, .int .i64 hi] w fun e w' => e = .returned (.bool b) ∧ Below w.heap.size w w' :=
  (spIn_val h).mono fun _ _ ⟨h1, h2⟩ => ⟨h1, h2 ▸ Below.refl _ _⟩
set_option maxRecDepth 100000 in
set_option maxHeartbeats 1000000 in
theorem spIsCode_any {p k g : Int} {F : Fd} (h : FV p k g F) (len chk : Int) (w : World) :
    Calls Tryz.prog 125 #[.agg #[.int .i64 p, .int .i64 k, .int .i64 g, .int .i64 len, .int .i64 chk]] w fun e w' => e = .returned (.bool (codB F.q len chk)) ∧ Below w.heap.size w w' := by
  have H := Lib.hid h
  have hq := h.fd.q_bd
  have HV := Lib.hid (fun w => h.v ▸ spSize_any F h.r.toFdB w)
  clear h
  go_enter Tryz.func125, Tryz.ntmps125
  go_wp2_with fail
  have hz := push_at w (.cells #[.int .i64 p, .int .i64 k, .int .i64 g, .int .i64 len, .int .i64 chk] 189 (0, 0))
  have HB0 := Lib.hid (ba1 w (.cells #[.int .i64 p, .int .i64 k, .int .i64 g, .int .i64 len, .int .i64 chk] 189 (0, 0)))
  obtain ⟨w1, hw1⟩ : ∃ w1, w1 = w.alloc (.cells #[.int .i64 p, .int .i64 k, .int .i64 g, .int .i64 len, .int .i64 chk] 189 (0, 0)) := ⟨_, rfl⟩
  rw [← hw1] at hz HB0 ⊢
  have HX1 := Lib.hid hz
  clear hw1 hz
  refine (spField_yes H.out.b w1).mono ?_
  rintro e w2 ⟨rfl, hb2⟩
  have HX2 := Lib.hid (blkK hb2 HX1.out)
  have HB2 := Lib.hid (bt0 HB0.out hb2 (Nat.le_refl _))
  obtain ⟨hcA, hfA⟩ := heap_cellR HX2.out
  have hltA := blkLt HX2.out
  clear hb2
  go_wp2_with fail
  refine (spIn_any chk 1 64 w2).mono ?_
  rintro e w3 ⟨rfl, rfl⟩
  rcases Bool.eq_false_or_eq_true (inB chk 1 64) with h1 | h1
  · rw [h1]
    have hc := inB_iff.1 h1
    have hw : wrap64 (chk + 1) = chk + 1 := by unfold wrap64; omega
    rcases Bool.eq_false_or_eq_true (inB len (chk + 1) 255) with h2 | h2
    · have hl := inB_iff.1 h2
      have HI := Lib.hid (fun w => spIn_below (w := w) h2)
      by_cases h3 : len < F.q
      · have HE := Lib.hid (show codB F.q len chk = true by simp [codB]; omega)
        have h3' : decide (len < (F.q : Int)) = true := decide_eq_true h3
        clear h3 hw
        go_wp2_with fail
        refine wp_region_ext (by kernel_rfl) (by kernel_rfl) ?_
        repeat (go_big_quiet_step ((first
          | (go_at_call 44; go_must (exact calls_ext _ (HI.out _)))
          | (go_at_call 122; go_must (exact calls_ext _ (HV.out _))))))
        refine wpQuiet_nil ?_
        rintro _ ⟨s', rfl⟩
        go_wp2_with fail
        go_ret
        exact ⟨ret_bool HE.out.symm, bt0 HB2.out s'.below (Nat.le_refl _)⟩
      · have HE := Lib.hid (show codB F.q len chk = false by simp [codB]; omega)
        have h3' : decide (len < (F.q : Int)) = false := decide_eq_false h3
        clear h3 hw
        go_wp2_with fail
        refine wp_region_ext (by kernel_rfl) (by kernel_rfl) ?_
        repeat (go_big_quiet_step ((first
          | (go_at_call 44; go_must (exact calls_ext _ (HI.out _)))
          | (go_at_call 122; go_must (exact calls_ext _ (HV.out _))))))
        refine wpQuiet_nil ?_
        rintro _ ⟨s', rfl⟩
        go_wp2_with fail
        go_ret
        exact ⟨ret_bool HE.out.symm, bt0 HB2.out s'.below (Nat.le_refl _)⟩
    · have HI := Lib.hid (fun w => spIn_below (w := w) h2)
      have HE := Lib.hid (show codB F.q len chk = false by
        have h4 : ¬ (chk + 1 ≤ len ∧ len ≤ 255) := of_decide_eq_false h2
        simp [codB]; omega)
      clear hw
      go_wp2_with fail
      refine wp_region_ext (by kernel_rfl) (by kernel_rfl) ?_
      repeat (go_big_quiet_step ((go_at_call 44; go_must (exact calls_ext _ (HI.out _)))))
      refine wpQuiet_nil ?_
      rintro _ ⟨s', rfl⟩
      go_wp2_with fail
      go_ret
      exact ⟨ret_bool HE.out.symm, bt0 HB2.out s'.below (Nat.le_refl _)⟩
  · rw [h1]
    have HE := Lib.hid (show codB F.q len chk = false by
      have h4 : ¬ (1 ≤ chk ∧ chk ≤ 64) := of_decide_eq_false h1
      simp [codB]; omega)
    go_wp2_with fail
    go_ret
    exact ⟨ret_bool HE.out.symm, HB2.out⟩

end Go.Proofs.YtlcglclojlffgaaGreatDoor
