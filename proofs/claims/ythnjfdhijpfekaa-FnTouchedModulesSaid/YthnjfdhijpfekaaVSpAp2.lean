import Derived.Test.YthnjfdhijpfekaaVSpAp
namespace Go.Proofs.Ythnjfdhijpfekaa
open Go.RowKit


set_option maxRecDepth 100000 in
set_option maxHeartbeats 600000 in
theorem l27Apply3 (r c t w g : Int) (a : Option Addr) (xs : List Int) (cp n m : Nat) (W : World) (hd : dmOk 3 r c t w g = true) (hx : IntsAt W a xs) (hl : xs.length = n * m) (hN2 : n * m ≤ 40000) (hn : n ≤ 400) (hm : m ≤ 400) :
    Calls Try.prog 38 #[.agg #[.int .i64 (n : Int), .int .i64 (m : Int), .slice a xs.length cp], .agg #[.int .i64 3, .int .i64 r, .int .i64 c, .int .i64 t, .int .i64 w, .int .i64 g]] W (RetSl W (dmgL 3 r c t w g n m xs)) := by
  rw [dmgL_pix (by decide)]
  have HX := Lib.hid hx
  have HL := Lib.hid hl
  have HD := Lib.hid hd
  clear hx hl hd
  go_enter Try.func38, Try.ntmps38
  go_wp2_with fail
  refine (l27Skew_any r c t w g a xs cp n m _ HD.out (HX.out.below (ba2 _ _ _)) HL.out hN2 hn hm).mono ?_
  rintro e w1 ⟨a1, c1, rfl, ho, hb⟩
  have HO := Lib.hid ho
  have HB := Lib.hid (bt2 hb)
  clear ho hb
  go_wp2_with fail
  go_ret
  exact ⟨a1, c1, rfl, HO.out.weak (by simp; omega), HB.out⟩

set_option maxRecDepth 100000 in
set_option maxHeartbeats 2000000 in
theorem l27Apply4 (r c t w g : Int) (a : Option Addr) (xs : List Int) (cp n m : Nat) (W : World) (hd : dmOk 4 r c t w g = true) (hx : IntsAt W a xs) (hsl : Slc a xs) (hl : xs.length = n * m) (hN2 : n * m ≤ 40000) (_hn : n ≤ 400) (_hm : m ≤ 400) (hN1 : 1 ≤ n * m) :
    Calls Try.prog 38 #[.agg #[.int .i64 (n : Int), .int .i64 (m : Int), .slice a xs.length cp], .agg #[.int .i64 4, .int .i64 r, .int .i64 c, .int .i64 t, .int .i64 w, .int .i64 g]] W (RetSl W (dmgL 4 r c t w g n m xs)) := by
  obtain ⟨_, hr, hc, ht, hw, hg, _⟩ := dm_bounds hd
  have HE : Hid (dmgL 4 r c t w g n m xs = (nz g xs.length (r, xs) t.toNat).2) := Lib.hid (by rw [dmgL_noise, hl])
  have HX := Lib.hid hx
  have HL := Lib.hid hl
  have HSL := Lib.hid hsl
  have hlen : xs.length ≤ 40000 := by omega
  have hlen1 : 1 ≤ xs.length := by omega
  clear hx hl hd hsl
  obtain ⟨tn, htn⟩ : ∃ tn : Nat, t = tn := Int.eq_ofNat_of_zero_le ht.1
  subst htn
  go_enter Try.func38, Try.ntmps38
  go_wp2_with fail
  refine (l01Own_any a xs cp _ (HX.out.below (ba2 _ _ _)) (by omega) HSL.out).mono ?_
  rintro e w1 ⟨a1, c1, rfl, ho, hb1⟩
  obtain ⟨q1, q2⟩ := heap2 W (.cells #[.int .i64 (n : Int), .int .i64 (m : Int), .slice a xs.length cp] 28 (0, 0)) (.cells #[.int .i64 4, .int .i64 r, .int .i64 c, .int .i64 (tn : Int), .int .i64 w, .int .i64 g] 32 (0, 0))
  obtain ⟨g0, rfl, hg0, _, hg1⟩ := OwnI.block ho (by omega)
  rw [World.size_alloc, World.size_alloc] at hg0
  have H0 : Hid (OutAt W w1 #[.int .i64 (n : Int), .int .i64 (m : Int), .slice a xs.length cp] #[.int .i64 4, .int .i64 r, .int .i64 c, .int .i64 (tn : Int), .int .i64 w, .int .i64 g] (.slice (some ⟨g0, 0, none⟩) xs.length c1) xs) := Lib.hid ⟨by rw [World.size_alloc, World.size_alloc] at ho; exact ho, blkK hb1 q1, blkK hb1 q2, bt2 hb1⟩
  have hc1 := (heap_cellR (blkK hb1 q1)).1
  have hc2 := (heap_cellR (blkK hb1 q2)).1
  clear ho hb1 q1 q2
  go_wp2_with fail
  go_loopw [6, 7] (fun x i wr => ∃ k : Nat, k ≤ tn ∧ i = .int .i64 k ∧ x = .int .i64 (nz g xs.length (r, xs) k).1 ∧ OutAt W wr #[.int .i64 (n : Int), .int .i64 (m : Int), .slice a xs.length cp] #[.int .i64 4, .int .i64 r, .int .i64 c, .int .i64 (tn : Int), .int .i64 w, .int .i64 g] (.slice (some ⟨g0, 0, none⟩) xs.length c1) (nz g xs.length (r, xs) k).2) (fun _ i _ => tn - (intOf i).toNat)
  case atStart => exact ⟨0, Nat.zero_le _, rfl, rfl, H0.out⟩
  case round =>
    clear H0 hc1 hc2
    obtain ⟨k, hk, rfl, rfl, hoa⟩ := hrel
    have hc1 := (heap_cellR hoa.2.1).1
    have hc2 := (heap_cellR hoa.2.2.1).1
    have HN := Lib.hid hoa
    clear hoa
    by_cases hlt : k < tn
    · have hki : (k : Int) < (tn : Int) := by omega
      obtain ⟨y, hy⟩ : ∃ y, (nz g xs.length (r, xs) k).1 = y := ⟨_, rfl⟩
      obtain ⟨zs, hzs⟩ : ∃ zs, (nz g xs.length (r, xs) k).2 = zs := ⟨_, rfl⟩
      have hyb := nz_x (g := g) (N := xs.length) (p := (r, xs)) (by dsimp only; omega) k
      have hzl := nz_len (g := g) (N := xs.length) (p := (r, xs)) k
      have hnx : nz g xs.length (r, xs) (k + 1) = ((75 * y + 74) % 65537, zs.set (((75 * y + 74) % 65537) % (xs.length : Int)).toNat g) := by rw [← hy, ← hzs]; rfl
      rw [hy] at hyb
      rw [hzs] at HN hzl
      rw [hy]
      obtain ⟨y0, y1⟩ := hyb
      have HNX := Lib.hid hnx
      have HZL := Lib.hid hzl
      clear hy hzs hnx hzl
      go_wp2_with fail
      obtain ⟨x2, hx2⟩ : ∃ x2, (75 * y + 74) % 65537 = x2 := ⟨_, rfl⟩
      have x20 : 0 ≤ x2 := by omega
      have x21 : x2 < 65537 := by omega
      rw [hx2] at HNX ⊢
      clear hx2
      obtain ⟨q, hq⟩ : ∃ q : Nat, x2 % (xs.length : Int) = q := Int.eq_ofNat_of_zero_le (Int.emod_nonneg _ (by omega))
      have hqlt : q < xs.length := by have := Int.emod_lt_of_pos x2 (b := (xs.length : Int)) (by omega); omega
      have hqi : (q : Int) < (xs.length : Int) := by omega
      have htm : x2.tmod (xs.length : Int) = q := by rw [Int.tmod_eq_emod_of_nonneg x20]; exact hq
      rw [hq] at HNX
      have HTM := Lib.hid htm
      have HQ2 := Lib.hid hq
      clear htm hq hc1 hc2
      refine wp_region_rs (Keep := fun _ _ => True) [35, 36, 37, 38, 39, 40, 41, 42] (fun us => _)
        [spN (· = .slice (some ⟨g0, 0, none⟩) xs.length c1), spN (· = .int .i64 x2), spN (· = .slice (some ⟨g0, 0, none⟩) xs.length c1), spN (· = .int .i64 (xs.length : Int)), spN (· = .int .i64 (q : Int)), spN (· = .pointer (some ⟨W.heap.size + 1, 5, none⟩)), spN (· = .int .i64 g), spN (· = .pointer (some ⟨g0, q, none⟩))]
        (fun W' => OutAt W W' #[.int .i64 (n : Int), .int .i64 (m : Int), .slice a xs.length cp] #[.int .i64 4, .int .i64 r, .int .i64 c, .int .i64 (tn : Int), .int .i64 w, .int .i64 g] (.slice (some ⟨g0, 0, none⟩) xs.length c1) zs) (by kernel_rfl) (by kernel_rfl) (Nat.le_of_ble_eq_true rfl) (fun us => by simp [over, List.mapIdx_cons]; exact rfl) HN.out.drew (fun w => trivial) ?_ ?_
      · refine ⟨?_, ?_, ?_, ?_, ?_, ?_, ?_, ?_, trivial⟩
        all_goals (intro us wx hst hd; rw [if_pos (by kernel_rfl)]; dsimp only)
        · clear hd
          go_simp
          exact n_same hst rfl
        · clear hd
          go_simp
          exact n_same hst rfl
        · clear hd
          go_simp
          exact n_same hst rfl
        · have d37 : us 37 = .slice (some ⟨g0, 0, none⟩) xs.length c1 := hd ⟨2, .data⟩ (by simp) rfl
          clear hd
          go_simp
          exact n_same hst rfl
        · have d36 : us 36 = .int .i64 x2 := hd ⟨1, .data⟩ (by simp) rfl
          have d38 : us 38 = .int .i64 (xs.length : Int) := hd ⟨3, .data⟩ (by simp) rfl
          clear hd
          go_simp
          rw [if_neg (by intro h; rw [h] at hlen1; simp at hlen1)]
          exact n_same hst (by show _ = _; rw [HTM.out])
        · clear hd
          go_simp
          exact n_same hst rfl
        · have d40 : us 40 = .pointer (some ⟨W.heap.size + 1, 5, none⟩) := hd ⟨5, .data⟩ (by simp) rfl
          clear hd
          have hc2 := (heap_cellR hst.2.2.1).1
          go_simp
          exact n_same hst rfl
        · have d35 : us 35 = .slice (some ⟨g0, 0, none⟩) xs.length c1 := hd ⟨0, .data⟩ (by simp) rfl
          have d39 : us 39 = .int .i64 (q : Int) := hd ⟨4, .data⟩ (by simp) rfl
          clear hd
          go_simp
          exact n_same hst rfl
      · intro us wx hst hd
        have d42 : us 42 = .pointer (some ⟨g0, q, none⟩) := hd 7 (by simp)
        have d41 : us 41 = .int .i64 g := hd 6 (by simp)
        clear hd
        obtain ⟨z, _, hcz, hfz⟩ := OwnI.cellAt hst.1 HZL.out.symm (k := q) (by rw [HZL.out]; exact hqlt)
        have HS := Lib.hid (hst.put (q := q) (z := g) HZL.out.symm hg0)
        clear hst
        simp only [List.drop, List.length]
        rw [d42, d41]
        clear d42 d41
        go_wp2_with fail
        exact ⟨⟨k + 1, by omega, by go_num, by rw [HNX.out], by rw [HNX.out]; exact HS.out⟩, by simp [intOf]; omega⟩
    · obtain rfl : k = tn := by omega
      have hne : ¬ (k : Int) < (k : Int) := by omega
      have hpos : (0 : Int) < (xs.length : Int) := by omega
      go_wp2_with fail
      refine wp_loop_rounds 1 ?_
      rw [rounds_succ]
      go_wp2_with fail
      go_ret
      have hz : (nz g xs.length (r, xs) k).2.length = xs.length := nz_len (g := g) (N := xs.length) (p := (r, xs)) k
      rw [HE.out, Int.toNat_natCast]
      exact ⟨some ⟨g0, 0, none⟩, c1, by rw [hz]; rfl, by rw [hz]; exact HN.out.1.weak (by omega), HN.out.2.2.2⟩


set_option maxRecDepth 100000 in
set_option maxHeartbeats 2000000 in
theorem l27Apply1 (r c t w g : Int) (a : Option Addr) (xs : List Int) (cp n m : Nat) (W : World) (hd : dmOk 1 r c t w g = true) (hx : IntsAt W a xs) (hsl : Slc a xs) (hl : xs.length = n * m) (hN2 : n * m ≤ 40000) (hn : n ≤ 400) (hm : m ≤ 400) (hN1 : 1 ≤ n * m) :
    Calls Try.prog 38 #[.agg #[.int .i64 (n : Int), .int .i64 (m : Int), .slice a xs.length cp], .agg #[.int .i64 1, .int .i64 r, .int .i64 c, .int .i64 t, .int .i64 w, .int .i64 g]] W (RetSl W (dmgL 1 r c t w g n m xs)) := by
  obtain ⟨_, hr, hc, ht, hw, hg, _, hq5⟩ := dm_bounds hd
  clear hq5
  have HX := Lib.hid hx
  have HL := Lib.hid hl
  have HSL := Lib.hid hsl
  have hlen : xs.length ≤ 40000 := by omega
  have hlen1 : 1 ≤ xs.length := by omega
  have HE : Hid (dmgL 1 r c t w g n m xs = pix (dpix 1 r c t w g m xs) m xs.length) := Lib.hid (by rw [dmgL_pix (by decide), hl])
  clear hx hl hd hsl
  go_enter Try.func38, Try.ntmps38
  go_wp2_with fail
  refine (l01Own_any a xs cp _ (HX.out.below (ba2 _ _ _)) (by omega) HSL.out).mono ?_
  rintro e w1 ⟨a1, c1, rfl, ho, hb1⟩
  obtain ⟨q1, q2⟩ := heap2 W (.cells #[.int .i64 (n : Int), .int .i64 (m : Int), .slice a xs.length cp] 28 (0, 0)) (.cells #[.int .i64 1, .int .i64 r, .int .i64 c, .int .i64 t, .int .i64 w, .int .i64 g] 32 (0, 0))
  obtain ⟨g0, rfl, hg0, _, hg1⟩ := OwnI.block ho (by omega)
  rw [World.size_alloc, World.size_alloc] at hg0
  have H0 : Hid (OutAt W w1 #[.int .i64 (n : Int), .int .i64 (m : Int), .slice a xs.length cp] #[.int .i64 1, .int .i64 r, .int .i64 c, .int .i64 t, .int .i64 w, .int .i64 g] (.slice (some ⟨g0, 0, none⟩) xs.length c1) xs) := Lib.hid ⟨by rw [World.size_alloc, World.size_alloc] at ho; exact ho, blkK hb1 q1, blkK hb1 q2, bt2 hb1⟩
  have hc1 := (heap_cellR (blkK hb1 q1)).1
  have hc2 := (heap_cellR (blkK hb1 q2)).1
  clear ho hb1 q1 q2
  go_wp2_with fail
  by_cases ht0 : (0 : Int) < t
  all_goals
    go_wp2_with fail
    refine wp_loop_rounds 1 ?_
    rw [rounds_succ]
    go_wp2_with fail
    go_loopw [8] (fun i wr => ∃ k : Nat, k ≤ xs.length ∧ i = .int .i64 k ∧ OutAt W wr #[.int .i64 (n : Int), .int .i64 (m : Int), .slice a xs.length cp] #[.int .i64 1, .int .i64 r, .int .i64 c, .int .i64 t, .int .i64 w, .int .i64 g] (.slice (some ⟨g0, 0, none⟩) xs.length c1) (pix (dpix 1 r c t w g m xs) m k ++ xs.drop k)) (fun i _ => xs.length - (intOf i).toNat)
    case atStart => exact ⟨0, Nat.zero_le _, rfl, H0.out⟩
    case round =>
      clear H0 hc1 hc2
      obtain ⟨k, hk, rfl, hoa⟩ := hrel
      have hc1 := (heap_cellR hoa.2.1).1
      have hc2 := (heap_cellR hoa.2.2.1).1
      have HN := Lib.hid hoa
      clear hoa
      by_cases hlt : k < xs.length
      · have hki : (k : Int) < (xs.length : Int) := by omega
        have hm1 : 0 < m := by
          rcases Nat.eq_zero_or_pos m with h | h
          · subst h; omega
          · exact h
        obtain ⟨y, hy⟩ : ∃ y, k / m = y := ⟨_, rfl⟩
        obtain ⟨x, hxx⟩ : ∃ x, k % m = x := ⟨_, rfl⟩
        have hxm : x < m := by rw [← hxx]; exact Nat.mod_lt _ hm1
        have hyn : y < n := by rw [← hy]; exact Nat.div_lt_of_lt_mul (by rw [Nat.mul_comm, ← HL.out]; exact hlt)
        have hty : (k : Int).tdiv (m : Int) = y := by rw [← hy]; rfl
        have htx : (k : Int).tmod (m : Int) = x := by rw [← hxx]; rfl
        have HTY := Lib.hid hty
        have HTX := Lib.hid htx
        obtain ⟨T, hT⟩ : ∃ T, touchB 1 r c t w y x = T := ⟨_, rfl⟩
        have HT := Lib.hid hT
        have HZL := Lib.hid (pix_both (F := dpix 1 r c t w g m xs) (m := m) (xs := xs) (k := k) hk)
        have HDV : Hid (dpix 1 r c t w g m xs (k / m) (k % m) = if T = true then g else xs.getD k 0) := Lib.hid (by rw [dpix, if_neg (by decide), if_neg (by decide), div_mod_at, hy, hxx, hT])
        clear hT hy hxx hty htx
        have hcA := heap_cellR HN.out.2.1
        go_wp2_with fail
        have hwlt1 := blkLt HN.out.2.1
        have hwlt2 := blkLt HN.out.2.2.1
        refine wp_region_rs (Keep := KB) [77, 78, 79, 80, 81, 82, 83, 84, 85, 86, 76] (fun us => _)
          [spE (.agg #[.int .i64 1, .int .i64 r, .int .i64 c, .int .i64 t, .int .i64 w, .int .i64 g]), spE (.int .i64 (k : Int)), spE (.pointer (some ⟨W.heap.size, 1, none⟩)), spE (.int .i64 (m : Int)), spE (.int .i64 (y : Int)), spE (.int .i64 (k : Int)), spE (.pointer (some ⟨W.heap.size, 1, none⟩)), spE (.int .i64 (m : Int)), spE (.int .i64 (x : Int)), spE (.bool T), spE (.bool T)]
          (StX wr) (by kernel_rfl) (by kernel_rfl) (Nat.le_of_ble_eq_true rfl) (fun us => by simp [over, List.mapIdx_cons]; exact rfl) (stX0 _) kbr ?_ ?_
        · refine ⟨?_, ?_, ?_, ?_, ?_, ?_, ?_, ?_, ?_, ?_, ?_, trivial⟩
          all_goals (intro us wx hst hd; rw [if_pos (by kernel_rfl)]; dsimp only)
          · clear hd hc1
            have hB := boxB hst hc2 hwlt2
            go_simp
            exact kb_same hst rfl
          · clear hd hc1 hc2
            go_simp
            exact kb_same hst rfl
          · clear hd hc1 hc2
            go_simp
            exact kb_same hst rfl
          · have d0 : us 79 = .pointer (some ⟨W.heap.size, 1, none⟩) := hd ⟨2, .data⟩ (by simp) rfl
            clear hd hc2
            have hB := boxB hst hc1 hwlt1
            go_simp
            exact kb_same hst rfl
          · have d0 : us 78 = .int .i64 (k : Int) := hd ⟨1, .data⟩ (by simp) rfl
            have d1 : us 80 = .int .i64 (m : Int) := hd ⟨3, .data⟩ (by simp) rfl
            have hw1 : IntKind.i64.wrap (y : Int) = y := IntWalk.i64_in _ (by omega)
            have hty := HTY.out
            clear hd hc1 hc2
            go_simp
            rw [if_neg (by omega)]
            exact kb_same hst rfl
          · clear hd hc1 hc2
            go_simp
            exact kb_same hst rfl
          · clear hd hc1 hc2
            go_simp
            exact kb_same hst rfl
          · have d0 : us 83 = .pointer (some ⟨W.heap.size, 1, none⟩) := hd ⟨6, .data⟩ (by simp) rfl
            clear hd hc2
            have hB := boxB hst hc1 hwlt1
            go_simp
            exact kb_same hst rfl
          · have d0 : us 82 = .int .i64 (k : Int) := hd ⟨5, .data⟩ (by simp) rfl
            have d1 : us 84 = .int .i64 (m : Int) := hd ⟨7, .data⟩ (by simp) rfl
            have htx := HTX.out
            clear hd hc1 hc2
            go_simp
            rw [if_neg (by omega)]
            exact kb_same hst rfl
          · have d0 : us 77 = .agg #[.int .i64 1, .int .i64 r, .int .i64 c, .int .i64 t, .int .i64 w, .int .i64 g] := hd ⟨0, .data⟩ (by simp) rfl
            have d1 : us 81 = .int .i64 (y : Int) := hd ⟨4, .data⟩ (by simp) rfl
            have d2 : us 85 = .int .i64 (x : Int) := hd ⟨8, .data⟩ (by simp) rfl
            clear hd hc1 hc2
            go_simp
            exact (l27Touches_val HT.out hr hc ht hw ⟨by omega, by omega⟩ ⟨by omega, by omega⟩).mono fun e w' ⟨he, hb⟩ => ⟨_, he, kb_below hst hb rfl⟩
          · have d0 : us 86 = .bool T := hd ⟨9, .data⟩ (by simp) rfl
            clear hd hc1 hc2
            go_simp
            exact kb_same hst rfl
        · intro us wx hst hd
          have d86 : us 76 = .bool T := hd 10 (by simp)
          clear hd hc1 hc2
          have hox := HN.out.below hst
          have HOX := Lib.hid hox
          have hc2 := (heap_cellR hox.2.2.1).1
          clear hox
          obtain ⟨z, _, hcz, hfz⟩ := OwnI.cellAt HOX.out.1 HZL.out.symm (k := k) (by rw [HZL.out]; exact hlt)
          clear hst
          simp only [List.drop, List.length]
          rw [d86]
          clear d86
          cases T
          · go_wp2_with fail
            have h := HOX.out
            rw [pix_same hlt (by rw [HDV.out, if_neg (by decide)])] at h
            exact ⟨⟨k + 1, by omega, by go_num, h⟩, by simp [intOf]; omega⟩
          · have hs := HOX.out.put (q := k) (z := g) HZL.out.symm hg0
            rw [pix_put hlt (by rw [HDV.out, if_pos rfl])] at hs
            have HS := Lib.hid hs
            clear hs
            go_wp2_with fail
            exact ⟨⟨k + 1, by omega, by go_num, HS.out⟩, by simp [intOf]; omega⟩
      · obtain rfl : k = xs.length := by omega
        have hne : ¬ (xs.length : Int) < (xs.length : Int) := by omega
        go_wp2_with fail
        go_ret
        have h := HN.out
        rw [pix_all rfl] at h
        rw [HE.out]
        exact ⟨some ⟨g0, 0, none⟩, c1, by rw [pix_len]; rfl, by rw [pix_len]; exact h.1.weak (by omega), h.2.2.2⟩

set_option maxRecDepth 100000 in
set_option maxHeartbeats 2000000 in
theorem l27Apply2 (r c t w g : Int) (a : Option Addr) (xs : List Int) (cp n m : Nat) (W : World) (hd : dmOk 2 r c t w g = true) (hx : IntsAt W a xs) (hsl : Slc a xs) (hl : xs.length = n * m) (hN2 : n * m ≤ 40000) (hn : n ≤ 400) (hm : m ≤ 400) (hN1 : 1 ≤ n * m) :
    Calls Try.prog 38 #[.agg #[.int .i64 (n : Int), .int .i64 (m : Int), .slice a xs.length cp], .agg #[.int .i64 2, .int .i64 r, .int .i64 c, .int .i64 t, .int .i64 w, .int .i64 g]] W (RetSl W (dmgL 2 r c t w g n m xs)) := by
  obtain ⟨_, hr, hc, ht, hw, hg, _, hq5⟩ := dm_bounds hd
  clear hq5
  have HX := Lib.hid hx
  have HL := Lib.hid hl
  have HSL := Lib.hid hsl
  have hlen : xs.length ≤ 40000 := by omega
  have hlen1 : 1 ≤ xs.length := by omega
  have HE : Hid (dmgL 2 r c t w g n m xs = pix (dpix 2 r c t w g m xs) m xs.length) := Lib.hid (by rw [dmgL_pix (by decide), hl])
  clear hx hl hd hsl
  go_enter Try.func38, Try.ntmps38
  go_wp2_with fail
  refine (l01Own_any a xs cp _ (HX.out.below (ba2 _ _ _)) (by omega) HSL.out).mono ?_
  rintro e w1 ⟨a1, c1, rfl, ho, hb1⟩
  obtain ⟨q1, q2⟩ := heap2 W (.cells #[.int .i64 (n : Int), .int .i64 (m : Int), .slice a xs.length cp] 28 (0, 0)) (.cells #[.int .i64 2, .int .i64 r, .int .i64 c, .int .i64 t, .int .i64 w, .int .i64 g] 32 (0, 0))
  obtain ⟨g0, rfl, hg0, _, hg1⟩ := OwnI.block ho (by omega)
  rw [World.size_alloc, World.size_alloc] at hg0
  have H0 : Hid (OutAt W w1 #[.int .i64 (n : Int), .int .i64 (m : Int), .slice a xs.length cp] #[.int .i64 2, .int .i64 r, .int .i64 c, .int .i64 t, .int .i64 w, .int .i64 g] (.slice (some ⟨g0, 0, none⟩) xs.length c1) xs) := Lib.hid ⟨by rw [World.size_alloc, World.size_alloc] at ho; exact ho, blkK hb1 q1, blkK hb1 q2, bt2 hb1⟩
  have hc1 := (heap_cellR (blkK hb1 q1)).1
  have hc2 := (heap_cellR (blkK hb1 q2)).1
  clear ho hb1 q1 q2
  go_wp2_with fail
  by_cases ht0 : (0 : Int) < t
  all_goals
    go_wp2_with fail
    refine wp_loop_rounds 1 ?_
    rw [rounds_succ]
    go_wp2_with fail
    go_loopw [8] (fun i wr => ∃ k : Nat, k ≤ xs.length ∧ i = .int .i64 k ∧ OutAt W wr #[.int .i64 (n : Int), .int .i64 (m : Int), .slice a xs.length cp] #[.int .i64 2, .int .i64 r, .int .i64 c, .int .i64 t, .int .i64 w, .int .i64 g] (.slice (some ⟨g0, 0, none⟩) xs.length c1) (pix (dpix 2 r c t w g m xs) m k ++ xs.drop k)) (fun i _ => xs.length - (intOf i).toNat)
    case atStart => exact ⟨0, Nat.zero_le _, rfl, H0.out⟩
    case round =>
      clear H0 hc1 hc2
      obtain ⟨k, hk, rfl, hoa⟩ := hrel
      have hc1 := (heap_cellR hoa.2.1).1
      have hc2 := (heap_cellR hoa.2.2.1).1
      have HN := Lib.hid hoa
      clear hoa
      by_cases hlt : k < xs.length
      · have hki : (k : Int) < (xs.length : Int) := by omega
        have hm1 : 0 < m := by
          rcases Nat.eq_zero_or_pos m with h | h
          · subst h; omega
          · exact h
        obtain ⟨y, hy⟩ : ∃ y, k / m = y := ⟨_, rfl⟩
        obtain ⟨x, hxx⟩ : ∃ x, k % m = x := ⟨_, rfl⟩
        have hxm : x < m := by rw [← hxx]; exact Nat.mod_lt _ hm1
        have hyn : y < n := by rw [← hy]; exact Nat.div_lt_of_lt_mul (by rw [Nat.mul_comm, ← HL.out]; exact hlt)
        have hty : (k : Int).tdiv (m : Int) = y := by rw [← hy]; rfl
        have htx : (k : Int).tmod (m : Int) = x := by rw [← hxx]; rfl
        have HTY := Lib.hid hty
        have HTX := Lib.hid htx
        obtain ⟨T, hT⟩ : ∃ T, touchB 2 r c t w y x = T := ⟨_, rfl⟩
        have HT := Lib.hid hT
        have HZL := Lib.hid (pix_both (F := dpix 2 r c t w g m xs) (m := m) (xs := xs) (k := k) hk)
        have HDV : Hid (dpix 2 r c t w g m xs (k / m) (k % m) = if T = true then g else xs.getD k 0) := Lib.hid (by rw [dpix, if_neg (by decide), if_neg (by decide), div_mod_at, hy, hxx, hT])
        clear hT hy hxx hty htx
        have hcA := heap_cellR HN.out.2.1
        go_wp2_with fail
        have hwlt1 := blkLt HN.out.2.1
        have hwlt2 := blkLt HN.out.2.2.1
        refine wp_region_rs (Keep := KB) [77, 78, 79, 80, 81, 82, 83, 84, 85, 86, 76] (fun us => _)
          [spE (.agg #[.int .i64 2, .int .i64 r, .int .i64 c, .int .i64 t, .int .i64 w, .int .i64 g]), spE (.int .i64 (k : Int)), spE (.pointer (some ⟨W.heap.size, 1, none⟩)), spE (.int .i64 (m : Int)), spE (.int .i64 (y : Int)), spE (.int .i64 (k : Int)), spE (.pointer (some ⟨W.heap.size, 1, none⟩)), spE (.int .i64 (m : Int)), spE (.int .i64 (x : Int)), spE (.bool T), spE (.bool T)]
          (StX wr) (by kernel_rfl) (by kernel_rfl) (Nat.le_of_ble_eq_true rfl) (fun us => by simp [over, List.mapIdx_cons]; exact rfl) (stX0 _) kbr ?_ ?_
        · refine ⟨?_, ?_, ?_, ?_, ?_, ?_, ?_, ?_, ?_, ?_, ?_, trivial⟩
          all_goals (intro us wx hst hd; rw [if_pos (by kernel_rfl)]; dsimp only)
          · clear hd hc1
            have hB := boxB hst hc2 hwlt2
            go_simp
            exact kb_same hst rfl
          · clear hd hc1 hc2
            go_simp
            exact kb_same hst rfl
          · clear hd hc1 hc2
            go_simp
            exact kb_same hst rfl
          · have d0 : us 79 = .pointer (some ⟨W.heap.size, 1, none⟩) := hd ⟨2, .data⟩ (by simp) rfl
            clear hd hc2
            have hB := boxB hst hc1 hwlt1
            go_simp
            exact kb_same hst rfl
          · have d0 : us 78 = .int .i64 (k : Int) := hd ⟨1, .data⟩ (by simp) rfl
            have d1 : us 80 = .int .i64 (m : Int) := hd ⟨3, .data⟩ (by simp) rfl
            have hw1 : IntKind.i64.wrap (y : Int) = y := IntWalk.i64_in _ (by omega)
            have hty := HTY.out
            clear hd hc1 hc2
            go_simp
            rw [if_neg (by omega)]
            exact kb_same hst rfl
          · clear hd hc1 hc2
            go_simp
            exact kb_same hst rfl
          · clear hd hc1 hc2
            go_simp
            exact kb_same hst rfl
          · have d0 : us 83 = .pointer (some ⟨W.heap.size, 1, none⟩) := hd ⟨6, .data⟩ (by simp) rfl
            clear hd hc2
            have hB := boxB hst hc1 hwlt1
            go_simp
            exact kb_same hst rfl
          · have d0 : us 82 = .int .i64 (k : Int) := hd ⟨5, .data⟩ (by simp) rfl
            have d1 : us 84 = .int .i64 (m : Int) := hd ⟨7, .data⟩ (by simp) rfl
            have htx := HTX.out
            clear hd hc1 hc2
            go_simp
            rw [if_neg (by omega)]
            exact kb_same hst rfl
          · have d0 : us 77 = .agg #[.int .i64 2, .int .i64 r, .int .i64 c, .int .i64 t, .int .i64 w, .int .i64 g] := hd ⟨0, .data⟩ (by simp) rfl
            have d1 : us 81 = .int .i64 (y : Int) := hd ⟨4, .data⟩ (by simp) rfl
            have d2 : us 85 = .int .i64 (x : Int) := hd ⟨8, .data⟩ (by simp) rfl
            clear hd hc1 hc2
            go_simp
            exact (l27Touches_val HT.out hr hc ht hw ⟨by omega, by omega⟩ ⟨by omega, by omega⟩).mono fun e w' ⟨he, hb⟩ => ⟨_, he, kb_below hst hb rfl⟩
          · have d0 : us 86 = .bool T := hd ⟨9, .data⟩ (by simp) rfl
            clear hd hc1 hc2
            go_simp
            exact kb_same hst rfl
        · intro us wx hst hd
          have d86 : us 76 = .bool T := hd 10 (by simp)
          clear hd hc1 hc2
          have hox := HN.out.below hst
          have HOX := Lib.hid hox
          have hc2 := (heap_cellR hox.2.2.1).1
          clear hox
          obtain ⟨z, _, hcz, hfz⟩ := OwnI.cellAt HOX.out.1 HZL.out.symm (k := k) (by rw [HZL.out]; exact hlt)
          clear hst
          simp only [List.drop, List.length]
          rw [d86]
          clear d86
          cases T
          · go_wp2_with fail
            have h := HOX.out
            rw [pix_same hlt (by rw [HDV.out, if_neg (by decide)])] at h
            exact ⟨⟨k + 1, by omega, by go_num, h⟩, by simp [intOf]; omega⟩
          · have hs := HOX.out.put (q := k) (z := g) HZL.out.symm hg0
            rw [pix_put hlt (by rw [HDV.out, if_pos rfl])] at hs
            have HS := Lib.hid hs
            clear hs
            go_wp2_with fail
            exact ⟨⟨k + 1, by omega, by go_num, HS.out⟩, by simp [intOf]; omega⟩
      · obtain rfl : k = xs.length := by omega
        have hne : ¬ (xs.length : Int) < (xs.length : Int) := by omega
        go_wp2_with fail
        go_ret
        have h := HN.out
        rw [pix_all rfl] at h
        rw [HE.out]
        exact ⟨some ⟨g0, 0, none⟩, c1, by rw [pix_len]; rfl, by rw [pix_len]; exact h.1.weak (by omega), h.2.2.2⟩

set_option maxRecDepth 100000 in
set_option maxHeartbeats 2000000 in
theorem l27Apply5 (r c t w g : Int) (a : Option Addr) (xs : List Int) (cp n m : Nat) (W : World) (hd : dmOk 5 r c t w g = true) (hx : IntsAt W a xs) (hsl : Slc a xs) (hl : xs.length = n * m) (hN2 : n * m ≤ 40000) (_hn : n ≤ 400) (_hm : m ≤ 400) (hN1 : 1 ≤ n * m) (hgr : Greys xs) :
    Calls Try.prog 38 #[.agg #[.int .i64 (n : Int), .int .i64 (m : Int), .slice a xs.length cp], .agg #[.int .i64 5, .int .i64 r, .int .i64 c, .int .i64 t, .int .i64 w, .int .i64 g]] W (RetSl W (dmgL 5 r c t w g n m xs)) := by
  obtain ⟨_, hr, hc, ht, hw, hg, _, hq5⟩ := dm_bounds hd
  have ht5 := hq5 rfl
  clear hq5
  have HX := Lib.hid hx
  have HL := Lib.hid hl
  have HSL := Lib.hid hsl
  have hlen : xs.length ≤ 40000 := by omega
  have hlen1 : 1 ≤ xs.length := by omega
  have HE : Hid (dmgL 5 r c t w g n m xs = pix (dpix 5 r c t w g m xs) m xs.length) := Lib.hid (by rw [dmgL_pix (by decide), hl])
  clear hx hl hd hsl
  go_enter Try.func38, Try.ntmps38
  go_wp2_with fail
  refine (l01Own_any a xs cp _ (HX.out.below (ba2 _ _ _)) (by omega) HSL.out).mono ?_
  rintro e w1 ⟨a1, c1, rfl, ho, hb1⟩
  obtain ⟨q1, q2⟩ := heap2 W (.cells #[.int .i64 (n : Int), .int .i64 (m : Int), .slice a xs.length cp] 28 (0, 0)) (.cells #[.int .i64 5, .int .i64 r, .int .i64 c, .int .i64 t, .int .i64 w, .int .i64 g] 32 (0, 0))
  obtain ⟨g0, rfl, hg0, _, hg1⟩ := OwnI.block ho (by omega)
  rw [World.size_alloc, World.size_alloc] at hg0
  have H0 : Hid (OutAt W w1 #[.int .i64 (n : Int), .int .i64 (m : Int), .slice a xs.length cp] #[.int .i64 5, .int .i64 r, .int .i64 c, .int .i64 t, .int .i64 w, .int .i64 g] (.slice (some ⟨g0, 0, none⟩) xs.length c1) xs) := Lib.hid ⟨by rw [World.size_alloc, World.size_alloc] at ho; exact ho, blkK hb1 q1, blkK hb1 q2, bt2 hb1⟩
  have hc1 := (heap_cellR (blkK hb1 q1)).1
  have hc2 := (heap_cellR (blkK hb1 q2)).1
  clear ho hb1 q1 q2
  go_wp2_with fail
  by_cases ht0 : (0 : Int) < t
  all_goals
    go_wp2_with fail
    refine wp_loop_rounds 1 ?_
    rw [rounds_succ]
    go_wp2_with fail
    go_loopw [8] (fun i wr => ∃ k : Nat, k ≤ xs.length ∧ i = .int .i64 k ∧ OutAt W wr #[.int .i64 (n : Int), .int .i64 (m : Int), .slice a xs.length cp] #[.int .i64 5, .int .i64 r, .int .i64 c, .int .i64 t, .int .i64 w, .int .i64 g] (.slice (some ⟨g0, 0, none⟩) xs.length c1) (pix (dpix 5 r c t w g m xs) m k ++ xs.drop k)) (fun i _ => xs.length - (intOf i).toNat)
    case atStart => exact ⟨0, Nat.zero_le _, rfl, H0.out⟩
    case round =>
      clear H0 hc1 hc2
      obtain ⟨k, hk, rfl, hoa⟩ := hrel
      have hc1 := (heap_cellR hoa.2.1).1
      have hc2 := (heap_cellR hoa.2.2.1).1
      have HN := Lib.hid hoa
      clear hoa
      by_cases hlt : k < xs.length
      · have hki : (k : Int) < (xs.length : Int) := by omega
        obtain ⟨v, hv⟩ : ∃ v, xs.getD k 0 = v := ⟨_, rfl⟩
        have hvb := getD_grey hgr k
        rw [hv] at hvb
        obtain ⟨s1, s2, s3, s4⟩ := fade_mid hvb ⟨ht.1, ht5⟩ hg
        have HV := Lib.hid hv
        have HZL := Lib.hid (pix_both (F := dpix 5 r c t w g m xs) (m := m) (xs := xs) (k := k) hk)
        have hdv : (v * t + g * (256 - t)) / 256 = dpix 5 r c t w g m xs (k / m) (k % m) := by rw [dpix, if_neg (by decide), if_pos rfl, div_mod_at, hv]
        have HDV := Lib.hid hdv
        clear hv hvb hdv
        go_wp2_with fail
        clear hc1 hc2
        refine wp_region_rs (Keep := fun _ _ => True) [58, 59, 60, 61, 62, 63, 64, 65, 66, 67, 68, 69, 70, 71, 72, 73, 74, 75] (fun us => _)
          [spN (· = .slice (some ⟨g0, 0, none⟩) xs.length c1), spN (· = .int .i64 (k : Int)), spN (· = .slice (some ⟨g0, 0, none⟩) xs.length c1), spN (· = .int .i64 (k : Int)), spN (· = .pointer (some ⟨g0, k, none⟩)), spN (· = .int .i64 v), spN (· = .pointer (some ⟨W.heap.size + 1, 3, none⟩)), spN (· = .int .i64 t), spN (· = .int .i64 (v * t)), spN (· = .pointer (some ⟨W.heap.size + 1, 5, none⟩)), spN (· = .int .i64 g), spN (· = .pointer (some ⟨W.heap.size + 1, 3, none⟩)), spN (· = .int .i64 t), spN (· = .int .i64 (256 - t)), spN (· = .int .i64 (g * (256 - t))), spN (· = .int .i64 (v * t + g * (256 - t))), spN (· = .int .i64 ((v * t + g * (256 - t)) / 256)), spN (· = .pointer (some ⟨g0, k, none⟩))]
          (fun W' => OutAt W W' #[.int .i64 (n : Int), .int .i64 (m : Int), .slice a xs.length cp] #[.int .i64 5, .int .i64 r, .int .i64 c, .int .i64 t, .int .i64 w, .int .i64 g] (.slice (some ⟨g0, 0, none⟩) xs.length c1) (pix (dpix 5 r c t w g m xs) m k ++ xs.drop k)) (by kernel_rfl) (by kernel_rfl) (Nat.le_of_ble_eq_true rfl) (fun us => by simp [over, List.mapIdx_cons]; exact rfl) HN.out.drew (fun w => trivial) ?_ ?_
        · refine ⟨?_, ?_, ?_, ?_, ?_, ?_, ?_, ?_, ?_, ?_, ?_, ?_, ?_, ?_, ?_, ?_, ?_, ?_, trivial⟩
          all_goals (intro us wx hst hd; rw [if_pos (by kernel_rfl)]; dsimp only)
          · clear hd
            go_simp
            exact n_same hst rfl
          · clear hd
            go_simp
            exact n_same hst rfl
          · clear hd
            go_simp
            exact n_same hst rfl
          · clear hd
            go_simp
            exact n_same hst rfl
          · have d0 : us 60 = .slice (some ⟨g0, 0, none⟩) xs.length c1 := hd ⟨2, .data⟩ (by simp) rfl
            have d1 : us 61 = .int .i64 (k : Int) := hd ⟨3, .data⟩ (by simp) rfl
            clear hd
            go_simp
            exact n_same hst rfl
          · have d0 : us 62 = .pointer (some ⟨g0, k, none⟩) := hd ⟨4, .data⟩ (by simp) rfl
            clear hd
            obtain ⟨v', e1, hcz, hfz⟩ := OwnI.cellAt hst.1 HZL.out.symm (k := k) (by rw [HZL.out]; exact hlt)
            rw [pix_cell hlt, HV.out] at e1
            obtain rfl := Option.some.inj e1
            go_simp
            exact n_same hst rfl
          · clear hd
            go_simp
            exact n_same hst rfl
          · have d0 : us 64 = .pointer (some ⟨W.heap.size + 1, 3, none⟩) := hd ⟨6, .data⟩ (by simp) rfl
            clear hd
            have hc2 := (heap_cellR hst.2.2.1).1
            go_simp
            exact n_same hst rfl
          · have d0 : us 63 = .int .i64 v := hd ⟨5, .data⟩ (by simp) rfl
            have d1 : us 65 = .int .i64 t := hd ⟨7, .data⟩ (by simp) rfl
            have hw1 : IntKind.i64.wrap (v * t) = v * t := IntWalk.i64_in _ (by omega)
            clear hd
            go_simp
            exact n_same hst rfl
          · clear hd
            go_simp
            exact n_same hst rfl
          · have d0 : us 67 = .pointer (some ⟨W.heap.size + 1, 5, none⟩) := hd ⟨9, .data⟩ (by simp) rfl
            clear hd
            have hc2 := (heap_cellR hst.2.2.1).1
            go_simp
            exact n_same hst rfl
          · clear hd
            go_simp
            exact n_same hst rfl
          · have d0 : us 69 = .pointer (some ⟨W.heap.size + 1, 3, none⟩) := hd ⟨11, .data⟩ (by simp) rfl
            clear hd
            have hc2 := (heap_cellR hst.2.2.1).1
            go_simp
            exact n_same hst rfl
          · have d0 : us 70 = .int .i64 t := hd ⟨12, .data⟩ (by simp) rfl
            have hw1 : IntKind.i64.wrap (256 - t) = 256 - t := IntWalk.i64_in _ (by omega)
            clear hd
            go_simp
            exact n_same hst rfl
          · have d0 : us 68 = .int .i64 g := hd ⟨10, .data⟩ (by simp) rfl
            have d1 : us 71 = .int .i64 (256 - t) := hd ⟨13, .data⟩ (by simp) rfl
            have hw1 : IntKind.i64.wrap (g * (256 - t)) = g * (256 - t) := IntWalk.i64_in _ (by omega)
            clear hd
            go_simp
            exact n_same hst rfl
          · have d0 : us 66 = .int .i64 (v * t) := hd ⟨8, .data⟩ (by simp) rfl
            have d1 : us 72 = .int .i64 (g * (256 - t)) := hd ⟨14, .data⟩ (by simp) rfl
            have hw1 : IntKind.i64.wrap (v * t + g * (256 - t)) = v * t + g * (256 - t) := IntWalk.i64_in _ (by omega)
            clear hd
            go_simp
            exact n_same hst rfl
          · have d0 : us 73 = .int .i64 (v * t + g * (256 - t)) := hd ⟨15, .data⟩ (by simp) rfl
            have hw1 : (v * t + g * (256 - t)).tdiv 256 = (v * t + g * (256 - t)) / 256 := Int.tdiv_eq_ediv_of_nonneg (by omega)
            have hw2 : IntKind.i64.wrap ((v * t + g * (256 - t)) / 256) = (v * t + g * (256 - t)) / 256 := IntWalk.i64_in _ (by omega)
            clear hd
            go_simp
            exact n_same hst rfl
          · have d0 : us 58 = .slice (some ⟨g0, 0, none⟩) xs.length c1 := hd ⟨0, .data⟩ (by simp) rfl
            have d1 : us 59 = .int .i64 (k : Int) := hd ⟨1, .data⟩ (by simp) rfl
            clear hd
            go_simp
            exact n_same hst rfl
        · intro us wx hst hd
          have d75 : us 75 = .pointer (some ⟨g0, k, none⟩) := hd 17 (by simp)
          have d74 : us 74 = .int .i64 ((v * t + g * (256 - t)) / 256) := hd 16 (by simp)
          clear hd
          obtain ⟨z, _, hcz, hfz⟩ := OwnI.cellAt hst.1 HZL.out.symm (k := k) (by rw [HZL.out]; exact hlt)
          have hs := hst.put (q := k) (z := (v * t + g * (256 - t)) / 256) HZL.out.symm hg0
          rw [pix_put hlt HDV.out] at hs
          have HS := Lib.hid hs
          clear hst hs
          simp only [List.drop, List.length]
          rw [d75, d74]
          clear d75 d74
          go_wp2_with fail
          exact ⟨⟨k + 1, by omega, by go_num, HS.out⟩, by simp [intOf]; omega⟩
      · obtain rfl : k = xs.length := by omega
        have hne : ¬ (xs.length : Int) < (xs.length : Int) := by omega
        go_wp2_with fail
        go_ret
        have h := HN.out
        rw [pix_all rfl] at h
        rw [HE.out]
        exact ⟨some ⟨g0, 0, none⟩, c1, by rw [pix_len]; rfl, by rw [pix_len]; exact h.1.weak (by omega), h.2.2.2⟩

end Go.Proofs.Ythnjfdhijpfekaa
