import Derived.Test.YtlcglclojlffgaaGreatVSpPf
import Derived.Test.YtlcglclojlffgaaGreatVOrdI
namespace Go.Proofs.YtlcglclojlffgaaGreat
open Go.RowKit

set_option maxRecDepth 100000 in
set_option maxHeartbeats 4000000 in
theorem spOrder_any (p k g : Int) (d c n : Nat) (hd : d ≤ 1500) (hc : c ≤ 64) (hn : 1 ≤ n) (hn2 : n ≤ 16) (w : World) :
    Calls Tryz.prog 62 #[.agg #[.int .i64 p, .int .i64 k, .int .i64 g, .int .i64 (d : Int), .int .i64 (c : Int), .int .i64 (n : Int)]] w fun e w' => ∃ a cp, e = .returned (.slice a (ordC (shN d n) n c).length cp) ∧ PrsOwn w' w.heap.size (.slice a (ordC (shN d n) n c).length cp) (ordC (shN d n) n c) ∧ Below w.heap.size w w' := by
  have HSH : Hid (∀ (b : Nat) (w' : World), Calls Tryz.prog 60 #[.agg #[.int .i64 p, .int .i64 k, .int .i64 g, .int .i64 (d : Int), .int .i64 (c : Int), .int .i64 (n : Int)], .int .i64 (b : Int)] w' fun e w'' => e = .returned (.int .i64 ((shN d n b : Nat) : Int)) ∧ Below w'.heap.size w' w'') := Lib.hid (fun b w' => by
    have h := spShare_any p k g (d : Int) (c : Int) (n : Int) (b : Int) w' (by omega) (by omega) (by omega) (by omega)
    rwa [share_nat d c n b hn] at h)
  obtain ⟨sh, hsh⟩ : ∃ sh, sh = shN d n := ⟨_, rfl⟩
  have HSL := Lib.hid (fun b (hb : b < n) => shN_le d n b hn hb)
  obtain ⟨q, hq⟩ : ∃ q, q = d / n := ⟨_, rfl⟩
  have HQ := Lib.hid (show ∀ b, sh b = q + if n - d % n ≤ b then 1 else 0 by intro b; rw [hsh, hq]; rfl)
  have hq2 : (d : Int).tdiv (n : Int) = (q : Int) := by rw [Int.tdiv_eq_ediv_of_nonneg (by omega), hq]; push_cast; rfl
  have hqd : q ≤ d := by rw [hq]; exact Nat.div_le_self _ _
  rw [← hsh] at HSH HSL ⊢
  have HX := Lib.hid (push_at w (.cells #[.int .i64 p, .int .i64 k, .int .i64 g, .int .i64 (d : Int), .int .i64 (c : Int), .int .i64 (n : Int)] 40 (0, 0)))
  have HB0 := Lib.hid (ba1 w (.cells #[.int .i64 p, .int .i64 k, .int .i64 g, .int .i64 (d : Int), .int .i64 (c : Int), .int .i64 (n : Int)] 40 (0, 0)))
  obtain ⟨w1, hw1⟩ : ∃ w1, w1 = w.alloc (.cells #[.int .i64 p, .int .i64 k, .int .i64 g, .int .i64 (d : Int), .int .i64 (c : Int), .int .i64 (n : Int)] 40 (0, 0)) := ⟨_, rfl⟩
  have HW1 := Lib.hid hw1
  rw [← hw1] at HX HB0
  have hs1 : w1.heap.size = w.heap.size + 1 := by rw [hw1]; simp
  have HOR := Lib.hid (show ordD sh n (q + 1) ++ ordE sh n c = ordC sh n c by
    rw [ordC]
    congr 1
    have h1 := HQ.out (n - 1)
    have h2 : sh (n - 1) ≤ q + 1 := by rw [h1]; split <;> omega
    obtain ⟨r, hr⟩ := Nat.exists_eq_add_of_le h2
    rw [hr]
    refine ordD_more (fun b hb => ?_) r
    rw [HQ.out b, h1]
    repeat' split
    all_goals omega)
  have hn0 : ¬ ((n : Int) == 0) = true := by rw [beq_iff_eq]; omega
  clear hsh hq hw1
  go_enter Tryz.func62, Tryz.ntmps62
  go_wp2_with fail
  rw [← HW1.out]
  have HO0 := Lib.hid (PrsOwn.new (w := w1) (base := w.heap.size + 1) (g := w.heap.size + 1) (by omega) hs1.symm)
  go_loopw [3, 4, 5] (fun v i _ wr => ∃ (e : Nat) (a : Option Addr) (cp : Nat) (l : List (Nat × Nat)), e ≤ q + 1 ∧ i = .int .i64 e ∧ l = ordD sh n e ∧ v = .slice a l.length cp ∧ PrsOwn wr (w.heap.size + 1) (.slice a l.length cp) l ∧ Below w1.heap.size w1 wr) (fun _ i _ _ => q + 1 - (intOf i).toNat)
  case atStart => exact ⟨0, _, 0, [], Nat.zero_le _, rfl, rfl, rfl, HO0.out, ba1 _ _⟩
  case round =>
    obtain ⟨e, a, cp, l, he, rfl, hl, rfl, ho, hb⟩ := hrel
    have HL := Lib.hid hl
    have HO := Lib.hid ho
    have HB := Lib.hid hb
    have K := Lib.hid (blkK hb HX.out)
    obtain ⟨hcA, hfA⟩ := heap_cellR K.out
    have hltA := blkLt K.out
    clear ho hb hl
    obtain ⟨ws, rfl⟩ : ∃ ws : World, ws = wr := ⟨_, rfl⟩
    by_cases hlt : e ≤ q
    · have hei : (e : Int) ≤ (q : Int) := by omega
      go_wp2_with fail
      go_loopw [3, 5] (fun v i wr => ∃ (b : Nat) (a : Option Addr) (cp : Nat) (l : List (Nat × Nat)), b ≤ n ∧ i = .int .i64 b ∧ l = ordD sh n e ++ ordR sh e b ∧ v = .slice a l.length cp ∧ PrsOwn wr (w.heap.size + 1) (.slice a l.length cp) l ∧ Below w1.heap.size w1 wr) (fun _ i _ => n - (intOf i).toNat)
      case atStart => exact ⟨0, a, cp, l, Nat.zero_le _, rfl, by rw [HL.out, ordR]; simp, rfl, HO.out, HB.out⟩
      case round =>
        obtain ⟨b, a2, cp2, l2, hb2, rfl, hl2, rfl, ho2, hbb2⟩ := hrel
        have HL2 := Lib.hid hl2
        have HO2 := Lib.hid ho2
        have HB2 := Lib.hid hbb2
        have K2 := Lib.hid (blkK hbb2 HX.out)
        obtain ⟨hcA, hfA⟩ := heap_cellR K2.out
        have hltA := blkLt K2.out
        have hll : l2.length ≤ 100000 := by
          rw [hl2, List.length_append]
          have h1 := ordD_len sh n e
          have h2 := ordR_len sh e b
          have h3 : e * n ≤ 1500 * 16 := Nat.mul_le_mul (by omega) hn2
          omega
        clear ho2 hbb2 hl2
        by_cases hbn : b < n
        · have hbi : (b : Int) < (n : Int) := by omega
          go_wp2_with fail
          refine (HSH.out b _).mono ?_
          rintro e9 w3 ⟨rfl, hb3⟩
          have HO3 := Lib.hid (HO2.out.grown hb3)
          have HB3 := Lib.hid (bt0 HB2.out hb3 (Nat.le_refl _))
          clear hb3 hcA hfA hltA
          obtain ⟨s, hs⟩ : ∃ s, s = sh b := ⟨_, rfl⟩
          rw [← hs]
          have HS := Lib.hid hs
          clear hs
          by_cases hes : e < s
          · have hesi : (e : Int) < (s : Int) := by omega
            have HST := Lib.hid (show ordD sh n e ++ ordR sh e (b + 1) = l2 ++ [(b, e)] by rw [ordR_yes (by rw [← HS.out]; exact hes), ← List.append_assoc, HL2.out])
            have hp := heap2 w3 (.cells #[.int .i64 (b : Int), .int .i64 (e : Int)] 2 (0, 0)) (.cells #[.slice (some ⟨w3.heap.size, 0, none⟩) 2 2] 24 (0, 0))
            have HP := Lib.hid hp
            have HB4 := Lib.hid (bt0 HB3.out (ba2 w3 (.cells #[.int .i64 (b : Int), .int .i64 (e : Int)] 2 (0, 0)) (.cells #[.slice (some ⟨w3.heap.size, 0, none⟩) 2 2] 24 (0, 0))) (Nat.le_refl _))
            have HO4 := Lib.hid (HO3.out.grown (ba2 w3 (.cells #[.int .i64 (b : Int), .int .i64 (e : Int)] 2 (0, 0)) (.cells #[.slice (some ⟨w3.heap.size, 0, none⟩) 2 2] 24 (0, 0))))
            have HSZ := Lib.hid (HB4.out.size)
            clear hp
            go_wp2_with (at_builtin; refine wpList_append_pr rfl (.tmp 29) (.tmp 33) rfl (w.heap.size + 1) (.slice a2 l2.length cp2) l2 (b, e) rfl HO4.out (w3.heap.size + 1) w3.heap.size rfl HP.out.2 HP.out.1 (by omega) (by rw [← hs1]; exact HSZ.out) ?h9)
            case h9 =>
              intro a5 c5 l5 w5 he5 ho5 hb5
              have HE5 := Lib.hid he5
              have HO5 := Lib.hid ho5
              have HB5 := Lib.hid (HB4.out.trans (hs1 ▸ hb5))
              clear he5 ho5 hb5
              go_wp2_with fail
              exact ⟨⟨b + 1, a5, c5, l5, by omega, by go_num, by rw [HE5.out, HST.out], rfl, HO5.out, HB5.out⟩, by simp [intOf]; omega⟩
          · have hesi : ¬ (e : Int) < (s : Int) := by omega
            have HST := Lib.hid (show ordD sh n e ++ ordR sh e (b + 1) = l2 by rw [ordR_no (by rw [← HS.out]; exact hes), HL2.out])
            go_wp2_with fail
            exact ⟨⟨b + 1, a2, cp2, l2, by omega, by go_num, HST.out.symm, rfl, HO3.out, HB3.out⟩, by simp [intOf]; omega⟩
        · obtain rfl : b = n := by omega
          have hbi : ¬ (b : Int) < (b : Int) := by omega
          go_wp2_with fail
          exact ⟨⟨e + 1, a2, cp2, l2, by omega, by go_num, by rw [HL2.out, ordD_step], rfl, HO2.out, HB2.out⟩, by simp [intOf]; omega⟩
    · obtain rfl : e = q + 1 := by omega
      have hei : ¬ ((q + 1 : Nat) : Int) ≤ (q : Int) := by omega
      go_wp2_with fail
      have HL0 := Lib.hid (show l = ordD sh n (q + 1) ++ ordE sh n 0 by rw [HL.out]; simp [ordE])
      clear hcA hfA hltA
      go_loopw [3, 6, 7] (fun v i _ wr => ∃ (e : Nat) (a : Option Addr) (cp : Nat) (l : List (Nat × Nat)), e ≤ c ∧ i = .int .i64 e ∧ l = ordD sh n (q + 1) ++ ordE sh n e ∧ v = .slice a l.length cp ∧ PrsOwn wr (w.heap.size + 1) (.slice a l.length cp) l ∧ Below w1.heap.size w1 wr) (fun _ i _ _ => c - (intOf i).toNat)
      case atStart => exact ⟨0, a, cp, l, Nat.zero_le _, rfl, HL0.out, rfl, HO.out, HB.out⟩
      case round =>
        obtain ⟨e, a, cp, l, he, rfl, hl, rfl, ho, hb⟩ := hrel
        have HL := Lib.hid hl
        have HO := Lib.hid ho
        have HB := Lib.hid hb
        have K := Lib.hid (blkK hb HX.out)
        obtain ⟨hcA, hfA⟩ := heap_cellR K.out
        have hltA := blkLt K.out
        clear ho hb hl
        obtain ⟨wt, rfl⟩ : ∃ wt : World, wt = wr := ⟨_, rfl⟩
        by_cases hlt : e < c
        · have hei : (e : Int) < (c : Int) := by omega
          go_wp2_with fail
          go_loopw [3, 7] (fun v i wr => ∃ (b : Nat) (a : Option Addr) (cp : Nat) (l : List (Nat × Nat)), b ≤ n ∧ i = .int .i64 b ∧ l = ordD sh n (q + 1) ++ ordE sh n e ++ ordS sh e b ∧ v = .slice a l.length cp ∧ PrsOwn wr (w.heap.size + 1) (.slice a l.length cp) l ∧ Below w1.heap.size w1 wr) (fun _ i _ => n - (intOf i).toNat)
          case atStart => exact ⟨0, a, cp, l, Nat.zero_le _, rfl, by rw [HL.out, ordS]; simp, rfl, HO.out, HB.out⟩
          case round =>
            obtain ⟨b, a2, cp2, l2, hb2, rfl, hl2, rfl, ho2, hbb2⟩ := hrel
            have HL2 := Lib.hid hl2
            have HO2 := Lib.hid ho2
            have HB2 := Lib.hid hbb2
            have K2 := Lib.hid (blkK hbb2 HX.out)
            obtain ⟨hcA, hfA⟩ := heap_cellR K2.out
            have hltA := blkLt K2.out
            have hll : l2.length ≤ 100000 := by
              rw [hl2, List.length_append, List.length_append]
              have h1 := ordD_len sh n (q + 1)
              have h2 : (ordS sh e b).length = b := by simp [ordS]
              have h3 : (q + 1) * n ≤ 1501 * 16 := Nat.mul_le_mul (by omega) hn2
              have h4 := ordE_len sh n e
              have h5 : e * n ≤ 64 * 16 := Nat.mul_le_mul (by omega) hn2
              omega
            clear ho2 hbb2 hl2
            by_cases hbn : b < n
            · have hbi : (b : Int) < (n : Int) := by omega
              have hsl := HSL.out b hbn
              go_wp2_with fail
              refine (HSH.out b _).mono ?_
              rintro e9 w3 ⟨rfl, hb3⟩
              have HO3 := Lib.hid (HO2.out.grown hb3)
              have HB3 := Lib.hid (bt0 HB2.out hb3 (Nat.le_refl _))
              clear hb3 hcA hfA hltA
              obtain ⟨s, hs⟩ : ∃ s, s = sh b := ⟨_, rfl⟩
              rw [← hs] at hsl ⊢
              have HS := Lib.hid hs
              clear hs
              obtain ⟨x, hx⟩ : ∃ x : Nat, x = s + e := ⟨_, rfl⟩
              have hse : (s : Int) + (e : Int) = (x : Int) := by omega
              have hx2 : x ≤ 2000 := by omega
              have HST := Lib.hid (show ordD sh n (q + 1) ++ ordE sh n e ++ ordS sh e (b + 1) = l2 ++ [(b, x)] by rw [ordS_step, ← List.append_assoc, HL2.out, hx, HS.out])
              clear hx
              have hp := heap2 w3 (.cells #[.int .i64 (b : Int), .int .i64 (x : Int)] 2 (0, 0)) (.cells #[.slice (some ⟨w3.heap.size, 0, none⟩) 2 2] 24 (0, 0))
              have HP := Lib.hid hp
              have HB4 := Lib.hid (bt0 HB3.out (ba2 w3 (.cells #[.int .i64 (b : Int), .int .i64 (x : Int)] 2 (0, 0)) (.cells #[.slice (some ⟨w3.heap.size, 0, none⟩) 2 2] 24 (0, 0))) (Nat.le_refl _))
              have HO4 := Lib.hid (HO3.out.grown (ba2 w3 (.cells #[.int .i64 (b : Int), .int .i64 (x : Int)] 2 (0, 0)) (.cells #[.slice (some ⟨w3.heap.size, 0, none⟩) 2 2] 24 (0, 0))))
              have HSZ := Lib.hid (HB4.out.size)
              clear hp
              go_wp2_with (at_builtin; refine wpList_append_pr rfl (.tmp 47) (.tmp 55) rfl (w.heap.size + 1) (.slice a2 l2.length cp2) l2 (b, x) rfl HO4.out (w3.heap.size + 1) w3.heap.size rfl HP.out.2 HP.out.1 (by omega) (by rw [← hs1]; exact HSZ.out) ?h9)
              case h9 =>
                intro a5 c5 l5 w5 he5 ho5 hb5
                have HE5 := Lib.hid he5
                have HO5 := Lib.hid ho5
                have HB5 := Lib.hid (HB4.out.trans (hs1 ▸ hb5))
                clear he5 ho5 hb5 hse
                go_wp2_with fail
                exact ⟨⟨b + 1, a5, c5, l5, by omega, by go_num, by rw [HE5.out, HST.out], rfl, HO5.out, HB5.out⟩, by simp [intOf]; omega⟩
            · obtain rfl : b = n := by omega
              have hbi : ¬ (b : Int) < (b : Int) := by omega
              go_wp2_with fail
              exact ⟨⟨e + 1, a2, cp2, l2, by omega, by go_num, by rw [HL2.out, ordE_step, List.append_assoc], rfl, HO2.out, HB2.out⟩, by simp [intOf]; omega⟩
        · obtain rfl : e = c := by omega
          have hei : ¬ (e : Int) < (e : Int) := by omega
          have HEE := Lib.hid (show l = ordC sh n e by rw [HL.out, HOR.out])
          have hsz := HB0.out.size
          go_wp2_with fail
          go_ret
          rw [← HEE.out]
          exact ⟨a, cp, rfl, HO.out.weak (by omega), HB0.out.trans (HB.out.mono hsz)⟩

end Go.Proofs.YtlcglclojlffgaaGreat
