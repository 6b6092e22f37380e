import Derived.Test.YthnjfdhijpfekaaM1
import Derived.Test.YthnjfdhijpfekaaVLOwn
import Derived.Laws.NewBlocks
namespace Go.Proofs.Ythnjfdhijpfekaa
open Go.RowKit

theorem mul_bdS {x y : Int} (h1 : 0 ≤ x) (h2 : x ≤ 400) (h3 : -400 ≤ y) (h4 : y ≤ 400) : -160000 ≤ x * y ∧ x * y ≤ 160000 := by
  have a : x * y ≤ x * 400 := Int.mul_le_mul_of_nonneg_left h4 h1
  have b : x * (-400) ≤ x * y := Int.mul_le_mul_of_nonneg_left h3 h1
  omega
theorem ediv_bdS {a b : Int} (hb : 1 ≤ b) (h1 : -160000 ≤ a) (h2 : a ≤ 160000) : -160000 ≤ a / b ∧ a / b ≤ 160000 := by
  constructor
  · apply Int.le_ediv_of_mul_le (by omega)
    have : (-160000) * b ≤ (-160000) * 1 := Int.mul_le_mul_of_nonpos_left (by omega) (by omega)
    omega
  · rcases Int.le_total 0 a with h0 | h0
    · have := Int.ediv_le_self b h0
      omega
    · have : a / b ≤ 0 := Int.ediv_nonpos_of_nonpos_of_neg h0 (by omega)
      omega
theorem pix_snoc {F : Nat → Nat → Int} {m k : Nat} : pix F m (k + 1) = pix F m k ++ [F (k / m) (k % m)] := by
  unfold pix
  rw [List.range_succ, List.map_append]
  rfl
theorem pix_put {F : Nat → Nat → Int} {m k : Nat} {xs : List Int} {v : Int} (hk : k < xs.length) (hv : v = F (k / m) (k % m)) : (pix F m k ++ xs.drop k).set k v = pix F m (k + 1) ++ xs.drop (k + 1) := by
  rw [List.set_append, if_neg (by rw [pix_len]; omega), pix_len, Nat.sub_self, List.drop_eq_getElem_cons hk, pix_snoc, List.append_assoc, hv]
  rfl
theorem pix_same {F : Nat → Nat → Int} {m k : Nat} {xs : List Int} (hk : k < xs.length) (hv : xs.getD k 0 = F (k / m) (k % m)) : pix F m k ++ xs.drop k = pix F m (k + 1) ++ xs.drop (k + 1) := by
  rw [List.drop_eq_getElem_cons hk, pix_snoc, List.append_assoc, ← hv, List.getD_eq_getElem?_getD, List.getElem?_eq_getElem hk]
  rfl
theorem pix_cell {F : Nat → Nat → Int} {m k : Nat} {xs : List Int} (hk : k < xs.length) : (pix F m k ++ xs.drop k)[k]? = some (xs.getD k 0) := by
  rw [List.getElem?_append_right (by rw [pix_len]; exact Nat.le_refl _), pix_len, Nat.sub_self, List.getElem?_drop, Nat.add_zero]
  exact getD_at hk
theorem pix_all {F : Nat → Nat → Int} {m N : Nat} {xs : List Int} (h : xs.length = N) : pix F m N ++ xs.drop N = pix F m N := by
  rw [List.drop_eq_nil_of_le (by omega), List.append_nil]
theorem pix_both {F : Nat → Nat → Int} {m k : Nat} {xs : List Int} (hk : k ≤ xs.length) : (pix F m k ++ xs.drop k).length = xs.length := by
  rw [List.length_append, pix_len, List.length_drop]; omega
theorem div_mod_at {k m : Nat} : k / m * m + k % m = k := by rw [Nat.mul_comm]; exact Nat.div_add_mod k m

/-- while pixels are made: the row's own slice, the boxes of the raster and the damage -/
def OutAt (W wr : World) (P V : Array Value) (v : Value) (zs : List Int) : Prop :=
  OwnI wr (W.heap.size + 1 + 1) v zs ∧ wr.heap[W.heap.size]? = some (.cells P 28 (0, 0)) ∧ wr.heap[W.heap.size + 1]? = some (.cells V 32 (0, 0)) ∧ Below W.heap.size W wr
theorem OutAt.below {W wr w' : World} {P V : Array Value} {v : Value} {zs : List Int} (h : OutAt W wr P V v zs) (hb : Below wr.heap.size wr w') : OutAt W w' P V v zs := ⟨h.1.grown hb, blkK hb h.2.1, blkK hb h.2.2.1, bt0 h.2.2.2 hb (Nat.le_refl _)⟩
theorem OutAt.drew {W wr : World} {P V : Array Value} {v : Value} {zs : List Int} (h : OutAt W wr P V v zs) : OutAt W wr.drew P V v zs := ⟨h.1, h.2.1, h.2.2.1, h.2.2.2.drew⟩
theorem OutAt.size {W wr : World} {P V : Array Value} {v : Value} {zs : List Int} (h : OutAt W wr P V v zs) : W.heap.size + 1 + 1 ≤ wr.heap.size := by have := blkLt h.2.2.1; omega
theorem OutAt.put {W wr : World} {P V : Array Value} {g0 N c1 q : Nat} {z : Int} {zs : List Int} (h : OutAt W wr P V (.slice (some ⟨g0, 0, none⟩) N c1) zs) (hN : N = zs.length) (hg0 : W.heap.size + 1 + 1 ≤ g0) :
    OutAt W (wr.setCell ⟨g0, q, none⟩ (.int .i64 z)) P V (.slice (some ⟨g0, 0, none⟩) N c1) (zs.set q z) := by
  obtain ⟨h1, h2, h3, h4⟩ := h
  obtain ⟨k1, k2⟩ := OwnI.stored h1 hN q z
  exact ⟨k1, (k2.block _ (blkLt h2) (fun e => by have := Option.some.inj e; omega)).trans h2, (k2.block _ (blkLt h3) (fun e => by have := Option.some.inj e; omega)).trans h3, h4.setCell (by dsimp only; omega) _⟩
theorem OutAt.app {W wr w1 : World} {P V : Array Value} {v v' : Value} {z : Int} {zs : List Int} {o : Obj} (h : OutAt W wr P V v zs) (hown : w1.ownsRow (W.heap.size + 1 + 1) 2 1 v' (zs.length + 1) (zs.map (Value.int .i64) ++ [.int .i64 z])) (hg : (wr.alloc o).grownBy w1 v.ownBlock) :
    OutAt W w1 P V v' (zs ++ [z]) := by
  have hs := h.size
  have hb : Below (W.heap.size + 1 + 1) (wr.alloc o) w1 := below_row hg (by simp; omega) h.1.lo
  refine ⟨?_, blk hb (push_old h.2.1) (by omega), blk hb (push_old h.2.2.1) (by omega), (bt0 h.2.2.2 (ba1 wr o) (Nat.le_refl _)).trans (hb.mono (by omega))⟩
  unfold OwnI
  rw [List.map_append, List.length_append]
  exact hown

set_option maxRecDepth 100000 in
set_option maxHeartbeats 2000000 in
theorem l27Skew_any (r c t w g : Int) (a : Option Addr) (xs : List Int) (cp n m : Nat) (W : World) (hd : dmOk 3 r c t w g = true) (hx : IntsAt W a xs) (hl : xs.length = n * m) (hN2 : n * m ≤ 40000) (hn : n ≤ 400) (hm : m ≤ 400) :
    Calls Try.prog 77 #[.agg #[.int .i64 (n : Int), .int .i64 (m : Int), .slice a xs.length cp], .agg #[.int .i64 3, .int .i64 r, .int .i64 c, .int .i64 t, .int .i64 w, .int .i64 g]] W (RetSl W (pix (dpix 3 r c t w g m xs) m (n * m))) := by
  obtain ⟨_, hr, hc, ht, hw, hg, hq3, _⟩ := dm_bounds hd
  have ht1 := hq3 rfl
  clear hq3
  have HX := Lib.hid hx
  have HL := Lib.hid hl
  have hlen : xs.length ≤ 40000 := by omega
  obtain ⟨i0, hi, y0, y1, y2⟩ := info_parts infoI
  clear hx hl hd
  obtain ⟨N, hN⟩ : ∃ N, n * m = N := ⟨_, rfl⟩
  have HNN := Lib.hid hN
  rw [hN] at hN2 ⊢
  clear hN
  go_enter Try.func77, Try.ntmps77
  go_wp2_with fail
  obtain ⟨q1, q2⟩ := heap2 W (.cells #[.int .i64 (n : Int), .int .i64 (m : Int), .slice a xs.length cp] 28 (0, 0)) (.cells #[.int .i64 3, .int .i64 r, .int .i64 c, .int .i64 t, .int .i64 w, .int .i64 g] 32 (0, 0))
  have hown0 : (((W.alloc (.cells #[.int .i64 (n : Int), .int .i64 (m : Int), .slice a xs.length cp] 28 (0, 0))).alloc (.cells #[.int .i64 3, .int .i64 r, .int .i64 c, .int .i64 t, .int .i64 w, .int .i64 g] 32 (0, 0))).alloc (.cells #[] 2 (0, 0))).ownsRow (W.heap.size + 1 + 1) 2 1 (.slice (some ⟨W.heap.size + 1 + 1, 0, none⟩) 0 0) 0 [] := by
    have h := World.ownsRow_lit (base := ((W.alloc (.cells #[.int .i64 (n : Int), .int .i64 (m : Int), .slice a xs.length cp] 28 (0, 0))).alloc (.cells #[.int .i64 3, .int .i64 r, .int .i64 c, .int .i64 t, .int .i64 w, .int .i64 g] 32 (0, 0))).heap.size) (e := 2) (size := 1) ((W.alloc (.cells #[.int .i64 (n : Int), .int .i64 (m : Int), .slice a xs.length cp] 28 (0, 0))).alloc (.cells #[.int .i64 3, .int .i64 r, .int .i64 c, .int .i64 t, .int .i64 w, .int .i64 g] 32 (0, 0))) #[] 0 (Nat.le_refl _) (by unfold maxLen; omega) rfl
    rw [World.size_alloc, World.size_alloc] at h
    exact h
  have H0 : Hid (OutAt W (((W.alloc (.cells #[.int .i64 (n : Int), .int .i64 (m : Int), .slice a xs.length cp] 28 (0, 0))).alloc (.cells #[.int .i64 3, .int .i64 r, .int .i64 c, .int .i64 t, .int .i64 w, .int .i64 g] 32 (0, 0))).alloc (.cells #[] 2 (0, 0))) #[.int .i64 (n : Int), .int .i64 (m : Int), .slice a xs.length cp] #[.int .i64 3, .int .i64 r, .int .i64 c, .int .i64 t, .int .i64 w, .int .i64 g] (.slice (some ⟨W.heap.size + 1 + 1, 0, none⟩) 0 0) []) :=
    Lib.hid ⟨hown0, push_old q1, push_old q2, ba3 W _ _ _⟩
  clear hown0 q1 q2
  go_loopw [5, 6] (fun v i wr => ∃ k : Nat, k ≤ n ∧ i = .int .i64 k ∧ OutAt W wr #[.int .i64 (n : Int), .int .i64 (m : Int), .slice a xs.length cp] #[.int .i64 3, .int .i64 r, .int .i64 c, .int .i64 t, .int .i64 w, .int .i64 g] v (pix (dpix 3 r c t w g m xs) m (k * m))) (fun _ i _ => n - (intOf i).toNat)
  case atStart => exact ⟨0, Nat.zero_le _, rfl, by rw [Nat.zero_mul]; exact H0.out⟩
  case round =>
    clear H0
    obtain ⟨k, hk, rfl, hoa⟩ := hrel
    have hc1 := (heap_cellR hoa.2.1).1
    have hc2 := (heap_cellR hoa.2.2.1).1
    have HO := Lib.hid hoa
    clear hoa
    by_cases hlt : k < n
    · have hkn : (k : Int) < (n : Int) := by omega
      have hkm : k * m + m ≤ N := by
        rw [← HNN.out]
        have h1 : k * m + m = (k + 1) * m := by rw [Nat.add_mul]; omega
        rw [h1]
        exact Nat.mul_le_mul_right m hlt
      obtain ⟨t0, ht0⟩ : ∃ t0, k * m = t0 := ⟨_, rfl⟩
      rw [ht0] at HO hkm
      have HT0 := Lib.hid ht0
      clear ht0
      obtain ⟨s1, s2⟩ := mul_bdS (x := (k : Int)) (y := w) (by omega) (by omega) hw.1 hw.2
      obtain ⟨z, hz⟩ : ∃ z, (k : Int) * w / t = z := ⟨_, rfl⟩
      obtain ⟨s3, s4⟩ := ediv_bdS ht1 s1 s2
      rw [hz] at s3 s4
      have HZ := Lib.hid hz
      clear hz
      go_wp2_with fail
      refine (l24Floor_val HZ.out ht1 (by omega) (by omega) (by omega)).mono ?_
      rintro e wo ⟨rfl, rfl⟩
      go_wp2_with fail
      clear hc1 hc2
      obtain ⟨wo, rfl⟩ : ∃ wo : World, wo = wr := ⟨_, rfl⟩
      go_loopw [5, 8] (fun v i wx => ∃ q : Nat, q ≤ m ∧ i = .int .i64 q ∧ OutAt W wx #[.int .i64 (n : Int), .int .i64 (m : Int), .slice a xs.length cp] #[.int .i64 3, .int .i64 r, .int .i64 c, .int .i64 t, .int .i64 w, .int .i64 g] v (pix (dpix 3 r c t w g m xs) m (t0 + q))) (fun _ i _ => m - (intOf i).toNat)
      case atStart => exact ⟨0, Nat.zero_le _, rfl, HO.out⟩
      case round =>
        clear HO
        obtain ⟨q, hq, rfl, hoa⟩ := hrel
        have hc1 := (heap_cellR hoa.2.1).1
        have hc2 := (heap_cellR hoa.2.2.1).1
        have hsz := hoa.size
        have HO := Lib.hid hoa
        clear hoa
        by_cases hltq : q < m
        · have hqm : (q : Int) < (m : Int) := by omega
          have hps : pix (dpix 3 r c t w g m xs) m (t0 + (q + 1)) = pix (dpix 3 r c t w g m xs) m (t0 + q) ++ [dpix 3 r c t w g m xs k q] := by rw [← HT0.out]; exact pix_succ hltq
          have hps2 : (pix (dpix 3 r c t w g m xs) m (t0 + q)).length = t0 + q := pix_len _ _ _
          obtain ⟨zs, hzs⟩ : ∃ zs, pix (dpix 3 r c t w g m xs) m (t0 + q) = zs := ⟨_, rfl⟩
          rw [hzs] at HO hps hps2
          have HPS := Lib.hid hps
          have HZL := Lib.hid hps2
          clear hzs hps hps2
          have HD : Hid (dpix 3 r c t w g m xs k q = if inB ((q : Int) - z) 0 ((m : Int) - 1) = true then xs.getD (k * m + ((q : Int) - z).toNat) 0 else g) := Lib.hid (by rw [dpix, if_pos rfl, HZ.out])
          rcases Bool.eq_false_or_eq_true (inB ((q : Int) - z) 0 ((m : Int) - 1)) with h3 | h3
          · have h4 := inB_iff.1 h3
            have H3 := Lib.hid h3
            clear h3
            obtain ⟨q2, hq2⟩ : ∃ q2 : Nat, (q : Int) - z = q2 := Int.eq_ofNat_of_zero_le h4.1
            have hqm2 : q2 < m := by omega
            have HQ := Lib.hid hq2
            clear hq2 h4
            have hii := pix_in hlt hqm2
            rw [HNN.out, ← HNN.out, ← HL.out] at hii
            have HI := Lib.hid hii
            clear hii
            go_wp2_with fail
            refine (l01In_val H3.out).mono ?_
            rintro e w1 ⟨rfl, rfl⟩
            go_wp2_with fail
            rw [HQ.out]
            refine (l20At_val rfl (getD_at HI.out) (HX.out.below HO.out.2.2.2) (by omega)).mono ?_
            rintro e w2 ⟨rfl, hb2⟩
            have HO2 := Lib.hid (HO.out.below hb2)
            clear hb2 hc1 hc2
            go_wp2_with (at_builtin; refine wpList_append_own _ rfl _ _ 22 rfl (W.heap.size + 1 + 1) 2 i0 (.int .i64 0) 1 8 Try.underlying22 hi y0 y1 y2 rfl (by decide) _ _ _ rfl (World.ownsRow.alloc HO2.out.1 _) ⟨w2.heap.size, 0, none⟩ 1 1 [.int .i64 (xs.getD (k * m + q2) 0)] rfl rfl (cell_one_new _ _ _) (ints_oneCell .i64 [xs.getD (k * m + q2) 0]) (by have := HZL.out; unfold maxLen; omega) (by have := HZL.out; omega) (by have := HO2.out.size; simp; omega) ?_; intro v' w3 hown3 hgrow3 _)
            have h5 := HO2.out.app hown3 hgrow3
            exact ⟨⟨q + 1, by omega, by go_num, by rw [HPS.out, HD.out, if_pos H3.out, HQ.out]; exact h5⟩, by simp [intOf]; omega⟩
          · have H3 := Lib.hid h3
            clear h3
            go_wp2_with fail
            refine (l01In_val H3.out).mono ?_
            rintro e w1 ⟨rfl, rfl⟩
            go_wp2_with (at_builtin; refine wpList_append_own _ rfl _ _ 22 rfl (W.heap.size + 1 + 1) 2 i0 (.int .i64 0) 1 8 Try.underlying22 hi y0 y1 y2 rfl (by decide) _ _ _ rfl (World.ownsRow.alloc HO.out.1 _) ⟨wr.heap.size, 0, none⟩ 1 1 [.int .i64 g] rfl rfl (cell_one_new _ _ _) (ints_oneCell .i64 [g]) (by have := HZL.out; unfold maxLen; omega) (by have := HZL.out; omega) (by have := HO.out.size; simp; omega) ?_; intro v' w3 hown3 hgrow3 _)
            have h5 := HO.out.app hown3 hgrow3
            exact ⟨⟨q + 1, by omega, by go_num, by rw [HPS.out, HD.out, if_neg (by rw [H3.out]; decide)]; exact h5⟩, by simp [intOf]; omega⟩
        · obtain rfl : q = m := by omega
          have hre : t0 + q = (k + 1) * q := by rw [Nat.add_mul, HT0.out]; omega
          have HRE := Lib.hid hre
          clear hre
          go_wp2_with fail
          exact ⟨⟨k + 1, by omega, by go_num, by rw [← HRE.out]; exact HO.out⟩, by simp [intOf]; omega⟩
    · obtain rfl : k = n := by omega
      go_wp2_with fail
      go_ret
      have h := HO.out
      rw [HNN.out] at h
      obtain ⟨a1, c1, rfl, _⟩ := h.1.read
      exact ⟨a1, c1, rfl, h.1.weak (by omega), h.2.2.2⟩

end Go.Proofs.Ythnjfdhijpfekaa
