import Derived.Test.YthnjfdhijpfekaaUApD2
namespace Go.Proofs.Ythnjfdhijpfekaa
open Go.RowKit

/-- while noise falls -/
def NoiseAt (W wr : World) (V : Array Value) (BX g0 N c1 b0 : Nat) (n m : Int) (zs : List Int) : Prop :=
  OwnI wr b0 (.slice (some ⟨g0, 0, none⟩) N c1) zs ∧ wr.heap[BX]? = some (.cells #[.int .i64 n, .int .i64 m, .slice (some ⟨g0, 0, none⟩) N c1] 28 (0, 0)) ∧ wr.heap[W.heap.size]? = some (.cells V 123 (0, 0)) ∧ wr.heap[W.heap.size + 1 + 1]? = some (.cells #[.int .i64 0, .int .i64 0, .slice none 0 0] 28 (0, 0)) ∧ Below W.heap.size W wr
theorem NoiseAt.step {W wr : World} {V : Array Value} {BX g0 N c1 b0 q : Nat} {n m g : Int} {zs : List Int} (h : NoiseAt W wr V BX g0 N c1 b0 n m zs) (hN : N = zs.length) (hb0 : W.heap.size + 1 + 1 < b0) (hg0 : b0 ≤ g0) (hne : g0 ≠ BX) :
    NoiseAt W (wr.setCell ⟨g0, q, none⟩ (.int .i64 g)) V BX g0 N c1 b0 n m (zs.set q g) := by
  obtain ⟨h1, h2, h3, h4, h5⟩ := h
  obtain ⟨k1, k2⟩ := OwnI.stored h1 hN q g
  refine ⟨k1, (k2.block _ (blkLt h2) (fun e => hne (Option.some.inj e).symm)).trans h2, (k2.block _ (blkLt h3) (fun e => by have := Option.some.inj e; omega)).trans h3, (k2.block _ (blkLt h4) (fun e => by have := Option.some.inj e; omega)).trans h4, h5.setCell (by dsimp only; omega) _⟩
theorem NoiseAt.drew {W wr : World} {V : Array Value} {BX g0 N c1 b0 : Nat} {n m : Int} {zs : List Int} (h : NoiseAt W wr V BX g0 N c1 b0 n m zs) : NoiseAt W wr.drew V BX g0 N c1 b0 n m zs := ⟨h.1, h.2.1, h.2.2.1, h.2.2.2.1, h.2.2.2.2.drew⟩

set_option maxRecDepth 100000 in
set_option maxHeartbeats 2000000 in
theorem noiseApply_any (r c t w g : Int) (a : Option Addr) (xs : List Int) (cp n m : Nat) (W : World) (hd : dmOk 4 r c t w g = true) (hx : IntsAt W a xs) (hl : xs.length = n * m) (hN2 : n * m ≤ 40000) (hn : n ≤ 400) (hm : m ≤ 400) (hN1 : 1 ≤ n * m) :
    Calls Try.prog 120 #[.agg #[.int .i64 4, .int .i64 r, .int .i64 c, .int .i64 t, .int .i64 w, .int .i64 g], .agg #[.int .i64 (n : Int), .int .i64 (m : Int), .slice a xs.length cp]] W (RetRas W n m (dmgL 4 r c t w g n m xs)) := by
  obtain ⟨_, hr, hc, ht, hw, hg, _⟩ := dm_bounds hd
  have HX := Lib.hid hx
  have HL := Lib.hid hl
  have hlen : xs.length ≤ 40000 := by omega
  have hlen1 : 1 ≤ xs.length := by omega
  have HE : Hid (dmgL 4 r c t w g n m xs = (nz g xs.length (r, xs) t.toNat).2) := Lib.hid (by rw [dmgL_noise, hl])
  clear hx hl hd
  go_enter Try.func120, Try.ntmps120
  go_wp2_with fail
  obtain ⟨q1, q2, q3⟩ := heap3 W (.cells #[.int .i64 4, .int .i64 r, .int .i64 c, .int .i64 t, .int .i64 w, .int .i64 g] 123 (0, 0)) (.cells #[.int .i64 (n : Int), .int .i64 (m : Int), .slice a xs.length cp] 28 (0, 0)) (.cells #[.int .i64 0, .int .i64 0, .slice none 0 0] 28 (0, 0))
  have HW := Lib.hid (ba3 W (.cells #[.int .i64 4, .int .i64 r, .int .i64 c, .int .i64 t, .int .i64 w, .int .i64 g] 123 (0, 0)) (.cells #[.int .i64 (n : Int), .int .i64 (m : Int), .slice a xs.length cp] 28 (0, 0)) (.cells #[.int .i64 0, .int .i64 0, .slice none 0 0] 28 (0, 0)))
  have hs4 : ((W.alloc (.cells #[.int .i64 4, .int .i64 r, .int .i64 c, .int .i64 t, .int .i64 w, .int .i64 g] 123 (0, 0))).alloc (.cells #[.int .i64 (n : Int), .int .i64 (m : Int), .slice a xs.length cp] 28 (0, 0)) |>.alloc (.cells #[.int .i64 0, .int .i64 0, .slice none 0 0] 28 (0, 0))).heap.size = W.heap.size + 1 + 1 + 1 := by simp
  generalize ((W.alloc (.cells #[.int .i64 4, .int .i64 r, .int .i64 c, .int .i64 t, .int .i64 w, .int .i64 g] 123 (0, 0))).alloc (.cells #[.int .i64 (n : Int), .int .i64 (m : Int), .slice a xs.length cp] 28 (0, 0))).alloc (.cells #[.int .i64 0, .int .i64 0, .slice none 0 0] 28 (0, 0)) = w4 at *
  have HQ := Lib.hid (And.intro q1 q3)
  have HS4 := Lib.hid hs4
  clear q1 q2 q3 hs4
  refine (copy_any a xs cp n m _ (HX.out.below HW.out) HL.out hN2 hn hm).mono ?_
  rintro e w1 ⟨a1, c1, rfl, ho, hb1⟩
  obtain ⟨g0, rfl, hg0, _, hg1⟩ := OwnI.block ho (by omega)
  rw [HS4.out] at hg0
  have hc1 := (heap_cellR (blkK hb1 HQ.out.1)).1
  have HN0 : Hid (NoiseAt W (w1.alloc (.cells #[.int .i64 (n : Int), .int .i64 (m : Int), .slice (some ⟨g0, 0, none⟩) xs.length c1] 28 (0, 0))) #[.int .i64 4, .int .i64 r, .int .i64 c, .int .i64 t, .int .i64 w, .int .i64 g] w1.heap.size g0 xs.length c1 (W.heap.size + 1 + 1 + 1) n m xs) :=
    Lib.hid ⟨by rw [← HS4.out]; exact ho.grown (ba1 _ _), push_at _ _, push_old (blkK hb1 HQ.out.1), push_old (blkK hb1 HQ.out.2), bt0 (bt0 HW.out hb1 (Nat.le_refl _)) (ba1 _ _) (Nat.le_refl _)⟩
  have hw1 : W.heap.size + 1 + 1 < w1.heap.size := by have := hb1.size; have := HS4.out; omega
  have hw0 : W.heap.size < w1.heap.size := by omega
  clear ho hb1
  go_wp2_with fail
  obtain ⟨tn, htn⟩ : ∃ tn : Nat, t = tn := Int.eq_ofNat_of_zero_le ht.1
  subst htn
  clear hc1
  go_loopw [6, 7] (fun x i wr => ∃ k : Nat, k ≤ tn ∧ i = .int .i64 k ∧ x = .int .i64 (nz g xs.length (r, xs) k).1 ∧ NoiseAt W wr #[.int .i64 4, .int .i64 r, .int .i64 c, .int .i64 (tn : Int), .int .i64 w, .int .i64 g] w1.heap.size g0 xs.length c1 (W.heap.size + 1 + 1 + 1) n m (nz g xs.length (r, xs) k).2) (fun _ i _ => tn - (intOf i).toNat)
  case atStart => exact ⟨0, Nat.zero_le _, rfl, rfl, HN0.out⟩
  case round =>
    clear HN0
    obtain ⟨k, hk, rfl, rfl, hna⟩ := hrel
    have hc1 := (heap_cellR hna.2.2.1).1
    have hc2 := heap_cellR hna.2.2.2.1
    have hc3 := (heap_cellR hna.2.1).1
    have HN := Lib.hid hna
    clear hna
    by_cases hlt : k < tn
    · have hki : (k : Int) < (tn : Int) := by omega
      obtain ⟨y, hy⟩ : ∃ y, (nz g xs.length (r, xs) k).1 = y := ⟨_, rfl⟩
      obtain ⟨zs, hzs⟩ : ∃ zs, (nz g xs.length (r, xs) k).2 = zs := ⟨_, rfl⟩
      have hyb := nz_x (g := g) (N := xs.length) (p := (r, xs)) (by dsimp only; omega) k
      have hzl := nz_len (g := g) (N := xs.length) (p := (r, xs)) k
      have hnx : nz g xs.length (r, xs) (k + 1) = ((75 * y + 74) % 65537, zs.set (((75 * y + 74) % 65537) % (xs.length : Int)).toNat g) := by rw [← hy, ← hzs]; rfl
      rw [hy] at hyb
      rw [hzs] at HN hzl
      rw [hy]
      obtain ⟨y0, y1⟩ := hyb
      have HNX := Lib.hid hnx
      have HZL := Lib.hid hzl
      clear hy hzs hnx hzl
      go_wp2_with fail
      obtain ⟨x2, hx2⟩ : ∃ x2, (75 * y + 74) % 65537 = x2 := ⟨_, rfl⟩
      have x20 : 0 ≤ x2 := by omega
      have x21 : x2 < 65537 := by omega
      rw [hx2] at HNX ⊢
      clear hx2
      obtain ⟨q, hq⟩ : ∃ q : Nat, x2 % (xs.length : Int) = q := Int.eq_ofNat_of_zero_le (Int.emod_nonneg _ (by omega))
      have hqlt : q < xs.length := by have := Int.emod_lt_of_pos x2 (b := (xs.length : Int)) (by omega); omega
      have hqi : (q : Int) < (xs.length : Int) := by omega
      have htm : x2.tmod (xs.length : Int) = q := by rw [Int.tmod_eq_emod_of_nonneg x20]; exact hq
      rw [hq] at HNX
      have HTM := Lib.hid htm
      have HQ2 := Lib.hid hq
      clear htm hq hc1 hc2 hc3
      refine wp_region_rs (Keep := fun _ _ => True) [24, 25, 26, 27, 28, 29, 30, 31, 32, 33, 34] (fun us => _)
        [spN (· = .pointer (some ⟨w1.heap.size, 2, none⟩)), spN (· = .slice (some ⟨g0, 0, none⟩) xs.length c1), spN (· = .int .i64 x2), spN (· = .pointer (some ⟨w1.heap.size, 2, none⟩)), spN (· = .slice (some ⟨g0, 0, none⟩) xs.length c1), spN (· = .int .i64 (xs.length : Int)), spN (· = .int .i64 (q : Int)), spN (· = .pointer (some ⟨W.heap.size, 0, none⟩)), spN (· = .pointer (some ⟨W.heap.size, 5, none⟩)), spN (· = .int .i64 g), spN (· = .pointer (some ⟨g0, q, none⟩))]
        (fun W' => NoiseAt W W' #[.int .i64 4, .int .i64 r, .int .i64 c, .int .i64 (tn : Int), .int .i64 w, .int .i64 g] w1.heap.size g0 xs.length c1 (W.heap.size + 1 + 1 + 1) n m zs) (by kernel_rfl) (by kernel_rfl) (Nat.le_of_ble_eq_true rfl) (fun us => by simp [over, List.mapIdx_cons]; exact rfl) HN.out.drew (fun w => trivial) ?_ ?_
      · refine ⟨?_, ?_, ?_, ?_, ?_, ?_, ?_, ?_, ?_, ?_, ?_, trivial⟩
        all_goals (intro us wx hst hd; rw [if_pos (by kernel_rfl)]; dsimp only)
        · clear hd
          go_simp
          exact n_same hst rfl
        · have d24 : us 24 = .pointer (some ⟨w1.heap.size, 2, none⟩) := hd ⟨0, .data⟩ (by simp) rfl
          clear hd
          have hc3 := (heap_cellR hst.2.1).1
          go_simp
          exact n_same hst rfl
        · clear hd
          go_simp
          exact n_same hst rfl
        · clear hd
          go_simp
          exact n_same hst rfl
        · have d27 : us 27 = .pointer (some ⟨w1.heap.size, 2, none⟩) := hd ⟨3, .data⟩ (by simp) rfl
          clear hd
          have hc3 := (heap_cellR hst.2.1).1
          go_simp
          exact n_same hst rfl
        · have d28 : us 28 = .slice (some ⟨g0, 0, none⟩) xs.length c1 := hd ⟨4, .data⟩ (by simp) rfl
          clear hd
          go_simp
          exact n_same hst rfl
        · have d26 : us 26 = .int .i64 x2 := hd ⟨2, .data⟩ (by simp) rfl
          have d29 : us 29 = .int .i64 (xs.length : Int) := hd ⟨5, .data⟩ (by simp) rfl
          clear hd
          go_simp
          rw [if_neg (by intro h; rw [h] at hlen1; simp at hlen1)]
          exact n_same hst (by show _ = _; rw [HTM.out])
        · clear hd
          go_simp
          exact n_same hst rfl
        · have d31 : us 31 = .pointer (some ⟨W.heap.size, 0, none⟩) := hd ⟨7, .data⟩ (by simp) rfl
          clear hd
          go_simp
          exact n_same hst rfl
        · have d32 : us 32 = .pointer (some ⟨W.heap.size, 5, none⟩) := hd ⟨8, .data⟩ (by simp) rfl
          clear hd
          have hc1 := (heap_cellR hst.2.2.1).1
          go_simp
          exact n_same hst rfl
        · have d25 : us 25 = .slice (some ⟨g0, 0, none⟩) xs.length c1 := hd ⟨1, .data⟩ (by simp) rfl
          have d30 : us 30 = .int .i64 (q : Int) := hd ⟨6, .data⟩ (by simp) rfl
          clear hd
          go_simp
          exact n_same hst rfl
      · intro us wx hst hd
        have d34 : us 34 = .pointer (some ⟨g0, q, none⟩) := hd 10 (by simp)
        have d33 : us 33 = .int .i64 g := hd 9 (by simp)
        clear hd
        obtain ⟨z, _, hcz, hfz⟩ := OwnI.cellAt hst.1 HZL.out.symm (k := q) (by rw [HZL.out]; exact hqlt)
        have HS := Lib.hid (hst.step (q := q) (g := g) HZL.out.symm (by omega) hg0 (by omega))
        clear hst
        simp only [List.drop, List.length]
        rw [d34, d33]
        clear d34 d33
        go_wp2_with fail
        exact ⟨⟨k + 1, by omega, by go_num, by rw [HNX.out], by rw [HNX.out]; exact HS.out⟩, by simp [intOf]; omega⟩
    · obtain rfl : k = tn := by omega
      have hne : ¬ (k : Int) < (k : Int) := by omega
      obtain ⟨hc21, hc22⟩ := hc2
      go_wp2_with fail
      have hz := nz_len (g := g) (N := xs.length) (p := (r, xs)) k
      refine bodyPost_ret (v := .agg #[.int .i64 (n : Int), .int .i64 (m : Int), .slice (some ⟨g0, 0, none⟩) xs.length c1]) (by simp [results, Try.results120, go_sem, hc21]) rfl ?_
      rw [HE.out, Int.toNat_natCast]
      refine ⟨some ⟨g0, 0, none⟩, c1, by rw [hz], ?_, ?_⟩
      · rw [hz]
        refine OwnI.weak (base := W.heap.size + 1 + 1 + 1) ?_ (by omega)
        iterate 3 (refine OwnI.setOld ?_ (by dsimp only; omega) _)
        exact HN.out.1
      · iterate 3 (refine Below.setCell ?_ (by dsimp only; omega) _)
        exact HN.out.2.2.2.2

end Go.Proofs.Ythnjfdhijpfekaa
