import Derived.Test.YthnjfdhijpfekaaVApF
namespace Go.Proofs.Ythnjfdhijpfekaa
open Go.RowKit

theorem retAp_is (n m : Int) (xs : List Int) (ds : List Dm) : ∃ (n' m' : Int) (zs : List Int) (cd : Int), (∀ w, RetAp w n m xs ds = RetRC w n' m' zs cd) ∧ zs.length ≤ 40000 := by
  rcases Bool.eq_false_or_eq_true (rasOk n m xs) with h1 | h1
  · by_cases h2 : 20 < ds.length
    · exact ⟨0, 0, [], 3, fun w => by rw [RetAp, if_pos h1, if_pos h2], by simp⟩
    · rcases Bool.eq_false_or_eq_true (ds.all Dm.ok) with h3 | h3
      · refine ⟨n, m, _, 0, fun w => by rw [RetAp, if_pos h1, if_neg h2, if_pos h3], ?_⟩
        obtain ⟨n, m, rfl, rfl, q1, q2, q3, q4, q5, q6, q7⟩ := ras_nat h1
        rw [Int.toNat_natCast, Int.toNat_natCast, dmsL_len q6]
        exact q5
      · exact ⟨0, 0, [], 2, fun w => by rw [RetAp, if_pos h1, if_neg h2, h3]; rfl, by simp⟩
  · exact ⟨0, 0, [], 1, fun w => by rw [RetAp, h1]; rfl, by simp⟩

theorem dms_one {w : World} {k r c t w0 g : Int} {ty : TypeId} : DmsAt (w.alloc (.cells #[.int .i64 k, .int .i64 r, .int .i64 c, .int .i64 t, .int .i64 w0, .int .i64 g] ty (0, 0))) (some ⟨w.heap.size, 0, none⟩) [⟨k, r, c, t, w0, g⟩] := by
  intro i hi
  obtain rfl : i = 0 := by simp at hi; exact hi
  refine ⟨w.heap.size, 0, rfl, ?_, ?_, ?_, ?_, ?_, ?_⟩
  all_goals (rw [boxF0]; rfl)

set_option maxRecDepth 100000 in
set_option maxHeartbeats 1000000 in
theorem applyDamage_any (n m : Int) (a : Option Addr) (xs : List Int) (cp : Nat) (k r c t w g : Int) (W : World) (hx : IntsAt W a xs) (lx : xs.length ≤ maxLen) :
    Calls Try.prog 12 #[.agg #[.int .i64 n, .int .i64 m, .slice a xs.length cp], .agg #[.int .i64 k, .int .i64 r, .int .i64 c, .int .i64 t, .int .i64 w, .int .i64 g]] W (RetAp W n m xs [⟨k, r, c, t, w, g⟩]) := by
  obtain ⟨n', m', zs, cd, hR, _⟩ := retAp_is n m xs [⟨k, r, c, t, w, g⟩]
  have HR := Lib.hid hR
  rw [hR]
  have HX := Lib.hid hx
  have LX := Lib.hid lx
  clear hx lx hR
  go_enter Try.func12, Try.ntmps12
  go_wp2_with fail
  obtain ⟨q1, q2, q3⟩ := heap3 W (.cells #[.int .i64 n, .int .i64 m, .slice a xs.length cp] 28 (0, 0)) (.cells #[.int .i64 k, .int .i64 r, .int .i64 c, .int .i64 t, .int .i64 w, .int .i64 g] 32 (0, 0)) (.cells #[.int .i64 0, .int .i64 0, .slice none 0 0] 28 (0, 0))
  have HW := Lib.hid (ba3 W (.cells #[.int .i64 n, .int .i64 m, .slice a xs.length cp] 28 (0, 0)) (.cells #[.int .i64 k, .int .i64 r, .int .i64 c, .int .i64 t, .int .i64 w, .int .i64 g] 32 (0, 0)) (.cells #[.int .i64 0, .int .i64 0, .slice none 0 0] 28 (0, 0)))
  have hs : (((W.alloc (.cells #[.int .i64 n, .int .i64 m, .slice a xs.length cp] 28 (0, 0))).alloc (.cells #[.int .i64 k, .int .i64 r, .int .i64 c, .int .i64 t, .int .i64 w, .int .i64 g] 32 (0, 0))).alloc (.cells #[.int .i64 0, .int .i64 0, .slice none 0 0] 28 (0, 0))).heap.size = W.heap.size + 1 + 1 + 1 := by simp
  rw [← hs]
  generalize ((W.alloc (.cells #[.int .i64 n, .int .i64 m, .slice a xs.length cp] 28 (0, 0))).alloc (.cells #[.int .i64 k, .int .i64 r, .int .i64 c, .int .i64 t, .int .i64 w, .int .i64 g] 32 (0, 0))).alloc (.cells #[.int .i64 0, .int .i64 0, .slice none 0 0] 28 (0, 0)) = w4 at *
  refine (applyDamages_any n m a xs cp (some ⟨w4.heap.size, 0, none⟩) [⟨k, r, c, t, w, g⟩] 1 _ ((HX.out.below HW.out).below (ba1 _ _)) LX.out dms_one (by simp)).mono ?_
  rw [HR.out]
  rintro e w1 ⟨a1, c1, rfl, ho, hb⟩
  obtain ⟨hc, hf⟩ := heap_cellR (blkK hb (push_old q3))
  have HO := Lib.hid ho
  have HB := Lib.hid (bt0 HW.out (bt1 hb) (Nat.le_refl _))
  have hs1 := hb.size
  clear ho hb q1 q2 q3
  go_wp2_with fail
  exact bodyPost_ret (v := .tuple #[.agg #[.int .i64 n', .int .i64 m', .slice a1 zs.length c1], .int .i64 cd]) (by simp [results, Try.results12, go_sem, hc]) rfl (retRC_box (b0 := (w4.alloc (.cells #[.int .i64 k, .int .i64 r, .int .i64 c, .int .i64 t, .int .i64 w, .int .i64 g] 32 (0, 0))).heap.size) (by simp; omega) HO.out HB.out (by omega) (by simp; omega) _ _ _)

set_option maxRecDepth 100000 in
set_option maxHeartbeats 2000000 in
theorem specApplyDamage_any (n m : Int) (a : Option Addr) (xs : List Int) (cp : Nat) (k r c t w g : Int) (W : World) (hx : IntsAt W a xs) (hsl : Slc a xs) (lx : xs.length ≤ maxLen) :
    Calls Try.prog 9 #[.agg #[.int .i64 n, .int .i64 m, .slice a xs.length cp], .agg #[.int .i64 k, .int .i64 r, .int .i64 c, .int .i64 t, .int .i64 w, .int .i64 g]] W (RetAp W n m xs [⟨k, r, c, t, w, g⟩]) := by
  have HX := Lib.hid hx
  have LX := Lib.hid lx
  have HSL := Lib.hid hsl
  clear hx lx hsl
  have h20 : ¬ 20 < [Dm.mk k r c t w g].length := by simp
  rcases Bool.eq_false_or_eq_true (rasOk n m xs) with h1 | h1
  · rcases Bool.eq_false_or_eq_true (dmOk k r c t w g) with h2 | h2
    · obtain ⟨n, m, rfl, rfl, p1, p2, p3, p4, p5, p6, p7⟩ := ras_nat h1
      have hN1 : 1 ≤ n * m := Nat.le_trans (by omega) (Nat.mul_le_mul p1 p3)
      have e : RetAp W n m xs [⟨k, r, c, t, w, g⟩] = RetRC W n m (dmgL k r c t w g n m xs) 0 := by
        rw [codeOf _ h1, if_neg h20, if_pos (by simp [Dm.ok, h2]), Int.toNat_natCast, Int.toNat_natCast]
        rfl
      rw [e]
      have H1 := Lib.hid h1
      have H2 := Lib.hid h2
      have HL := Lib.hid p6
      have HG := Lib.hid p7
      clear h1 h2 e h20 p6 p7
      go_enter Try.func9, Try.ntmps9
      go_wp2_with fail
      obtain ⟨q1, q2, q3⟩ := heap3 W (.cells #[.int .i64 (n : Int), .int .i64 (m : Int), .slice a xs.length cp] 28 (0, 0)) (.cells #[.int .i64 k, .int .i64 r, .int .i64 c, .int .i64 t, .int .i64 w, .int .i64 g] 32 (0, 0)) (.cells #[.int .i64 0, .int .i64 0, .slice none 0 0] 28 (0, 0))
      have HW := Lib.hid (ba3 W (.cells #[.int .i64 (n : Int), .int .i64 (m : Int), .slice a xs.length cp] 28 (0, 0)) (.cells #[.int .i64 k, .int .i64 r, .int .i64 c, .int .i64 t, .int .i64 w, .int .i64 g] 32 (0, 0)) (.cells #[.int .i64 0, .int .i64 0, .slice none 0 0] 28 (0, 0)))
      generalize ((W.alloc (.cells #[.int .i64 (n : Int), .int .i64 (m : Int), .slice a xs.length cp] 28 (0, 0))).alloc (.cells #[.int .i64 k, .int .i64 r, .int .i64 c, .int .i64 t, .int .i64 w, .int .i64 g] 32 (0, 0))).alloc (.cells #[.int .i64 0, .int .i64 0, .slice none 0 0] 28 (0, 0)) = w4 at *
      refine (specIsRaster_val H1.out (HX.out.below HW.out) LX.out).mono ?_
      rintro e w5 ⟨rfl, hb5⟩
      replace q1 := blkK hb5 q1
      replace q2 := blkK hb5 q2
      replace q3 := blkK hb5 q3
      have hc1 := (heap_cellR q1).1
      have hc2 := (heap_cellR q2).1
      have HB5 := Lib.hid (bt0 HW.out hb5 (Nat.le_refl _))
      clear hb5
      go_wp2_with fail
      refine (specIsDamage_val H2.out).mono ?_
      rintro e w6 ⟨rfl, hb6⟩
      replace q1 := blkK hb6 q1
      replace q2 := blkK hb6 q2
      replace q3 := blkK hb6 q3
      have HB6 := Lib.hid (bt0 HB5.out hb6 (Nat.le_refl _))
      clear hb6 hc1 hc2
      go_wp2_with fail
      have l1 := blkLt q1
      have l2 := blkLt q2
      have l3 := blkLt q3
      have hc1 := (heap_cellR q1).1
      have hc2 := (heap_cellR q2).1
      have HQ3 := Lib.hid q3
      clear q1 q2 q3
      refine wp_region_rs (Keep := KB) [14, 15, 16, 17, 18, 19, 20, 21] (fun us => _)
        [spE (.pointer (some ⟨W.heap.size, 0, none⟩)), spE (.int .i64 (n : Int)), spE (.pointer (some ⟨W.heap.size, 1, none⟩)), spE (.int .i64 (m : Int)), spE (.agg #[.int .i64 (n : Int), .int .i64 (m : Int), .slice a xs.length cp]), spE (.agg #[.int .i64 k, .int .i64 r, .int .i64 c, .int .i64 t, .int .i64 w, .int .i64 g]), spOwn (W.heap.size + 1 + 1 + 1) (dmgL k r c t w g n m xs), spRas (W.heap.size + 1 + 1 + 1) n m (dmgL k r c t w g n m xs)]
        (StX w6) (by kernel_rfl) (by kernel_rfl) (Nat.le_of_ble_eq_true rfl) (fun us => by simp [over, List.mapIdx_cons]; exact rfl) (stX0 _) kbr ?_ ?_
      · refine ⟨?_, ?_, ?_, ?_, ?_, ?_, ?_, ?_, trivial⟩
        all_goals (intro us wx hst hd; rw [if_pos (by kernel_rfl)]; dsimp only)
        · clear hd hc1 hc2
          go_simp
          exact kb_same hst rfl
        · have d0 : us 14 = .pointer (some ⟨W.heap.size, 0, none⟩) := hd ⟨0, .data⟩ (by simp) rfl
          clear hd hc2
          have hB := boxB hst hc1 l1
          go_simp
          exact kb_same hst rfl
        · clear hd hc1 hc2
          go_simp
          exact kb_same hst rfl
        · have d0 : us 16 = .pointer (some ⟨W.heap.size, 1, none⟩) := hd ⟨2, .data⟩ (by simp) rfl
          clear hd hc2
          have hB := boxB hst hc1 l1
          go_simp
          exact kb_same hst rfl
        · clear hd hc2
          have hB := boxB hst hc1 l1
          go_simp
          exact kb_same hst rfl
        · clear hd hc1
          have hB := boxB hst hc2 l2
          go_simp
          exact kb_same hst rfl
        · have d0 : us 18 = .agg #[.int .i64 (n : Int), .int .i64 (m : Int), .slice a xs.length cp] := hd ⟨4, .data⟩ (by simp) rfl
          have d1 : us 19 = .agg #[.int .i64 k, .int .i64 r, .int .i64 c, .int .i64 t, .int .i64 w, .int .i64 g] := hd ⟨5, .data⟩ (by simp) rfl
          clear hd hc1 hc2
          have hlx := hst.size
          go_simp
          exact (l27Apply_any k r c t w g a xs cp n m _ H2.out ((HX.out.below HB6.out).below hst) HSL.out HL.out p5 p2 p4 hN1 HG.out).mono fun e w' ⟨a', c', he, ho, hb⟩ => ⟨_, he, kb_below hst hb (ho.weak (by omega))⟩
        · have d0 : us 15 = .int .i64 (n : Int) := hd ⟨1, .data⟩ (by simp) rfl
          have d1 : us 17 = .int .i64 (m : Int) := hd ⟨3, .data⟩ (by simp) rfl
          have d2 : OwnI wx (W.heap.size + 1 + 1 + 1) (us 20) (dmgL k r c t w g n m xs) := hd ⟨6, .data⟩ (by simp) rfl
          clear hd hc1 hc2
          have D2 := Lib.hid d2
          obtain ⟨a2, c2, e2, _⟩ := d2.read
          rw [e2] at D2
          clear d2
          go_simp
          exact kb_same hst ⟨a2, c2, rfl, D2.out⟩
      · intro us wx hst hd
        have d21 : RasV (W.heap.size + 1 + 1 + 1) n m (dmgL k r c t w g n m xs) (us 21) wx := hd 7 (by simp)
        clear hd hc1 hc2
        obtain ⟨a2, c2, e2, ho⟩ := d21
        have hq := heap_cellR (blkK hst HQ3.out)
        obtain ⟨hcR, hfR⟩ := hq
        have hlx := hst.size
        have HO := Lib.hid ho
        have HB := Lib.hid (bt0 HB6.out hst (Nat.le_refl _))
        clear ho hst
        simp only [List.drop, List.length]
        rw [e2]
        clear e2
        go_wp2_with fail
        exact bodyPost_ret (v := .tuple #[.agg #[.int .i64 (n : Int), .int .i64 (m : Int), .slice a2 (dmgL k r c t w g n m xs).length c2], .int .i64 0]) (by simp [results, Try.results9, go_sem, hcR]) rfl (retRC_box (b0 := W.heap.size + 1 + 1 + 1) (by omega) HO.out HB.out (by omega) (by omega) _ _ _)
    · have e : RetAp W n m xs [⟨k, r, c, t, w, g⟩] = RetRC W 0 0 [] 2 := by
        rw [codeOf _ h1, if_neg h20, if_neg (by simp [Dm.ok, h2])]
      rw [e]
      have H1 := Lib.hid h1
      have H2 := Lib.hid h2
      clear h1 h2 e h20
      go_enter Try.func9, Try.ntmps9
      go_wp2_with fail
      obtain ⟨q1, q2, q3⟩ := heap3 W (.cells #[.int .i64 n, .int .i64 m, .slice a xs.length cp] 28 (0, 0)) (.cells #[.int .i64 k, .int .i64 r, .int .i64 c, .int .i64 t, .int .i64 w, .int .i64 g] 32 (0, 0)) (.cells #[.int .i64 0, .int .i64 0, .slice none 0 0] 28 (0, 0))
      have HW := Lib.hid (ba3 W (.cells #[.int .i64 n, .int .i64 m, .slice a xs.length cp] 28 (0, 0)) (.cells #[.int .i64 k, .int .i64 r, .int .i64 c, .int .i64 t, .int .i64 w, .int .i64 g] 32 (0, 0)) (.cells #[.int .i64 0, .int .i64 0, .slice none 0 0] 28 (0, 0)))
      generalize ((W.alloc (.cells #[.int .i64 n, .int .i64 m, .slice a xs.length cp] 28 (0, 0))).alloc (.cells #[.int .i64 k, .int .i64 r, .int .i64 c, .int .i64 t, .int .i64 w, .int .i64 g] 32 (0, 0))).alloc (.cells #[.int .i64 0, .int .i64 0, .slice none 0 0] 28 (0, 0)) = w4 at *
      refine (specIsRaster_val H1.out (HX.out.below HW.out) LX.out).mono ?_
      rintro e w5 ⟨rfl, hb5⟩
      replace q2 := blkK hb5 q2
      replace q3 := blkK hb5 q3
      have hc2 := (heap_cellR q2).1
      have HB5 := Lib.hid (bt0 HW.out hb5 (Nat.le_refl _))
      clear hb5 q1
      go_wp2_with fail
      refine (specIsDamage_val H2.out).mono ?_
      rintro e w6 ⟨rfl, hb6⟩
      replace q3 := blkK hb6 q3
      obtain ⟨hcR, hfR⟩ := heap_cellR q3
      have HB6 := Lib.hid (bt0 HB5.out hb6 (Nat.le_refl _))
      have l3 := blkLt q3
      clear hb6 hc2 q2 q3
      go_wp2_with fail
      exact bodyPost_ret (v := .tuple #[.agg #[.int .i64 0, .int .i64 0, .slice none 0 0], .int .i64 2]) (by simp [results, Try.results9, go_sem, hcR]) rfl (retRC_box (b0 := W.heap.size + 1 + 1 + 1) (by omega) (ownNil _ _ (by omega)) HB6.out (by omega) (by omega) _ _ _)
  · have e : RetAp W n m xs [⟨k, r, c, t, w, g⟩] = RetRC W 0 0 [] 1 := by rw [RetAp, h1]; rfl
    rw [e]
    have H1 := Lib.hid h1
    clear h1 e h20
    go_enter Try.func9, Try.ntmps9
    go_wp2_with fail
    obtain ⟨q1, q2, q3⟩ := heap3 W (.cells #[.int .i64 n, .int .i64 m, .slice a xs.length cp] 28 (0, 0)) (.cells #[.int .i64 k, .int .i64 r, .int .i64 c, .int .i64 t, .int .i64 w, .int .i64 g] 32 (0, 0)) (.cells #[.int .i64 0, .int .i64 0, .slice none 0 0] 28 (0, 0))
    have HW := Lib.hid (ba3 W (.cells #[.int .i64 n, .int .i64 m, .slice a xs.length cp] 28 (0, 0)) (.cells #[.int .i64 k, .int .i64 r, .int .i64 c, .int .i64 t, .int .i64 w, .int .i64 g] 32 (0, 0)) (.cells #[.int .i64 0, .int .i64 0, .slice none 0 0] 28 (0, 0)))
    generalize ((W.alloc (.cells #[.int .i64 n, .int .i64 m, .slice a xs.length cp] 28 (0, 0))).alloc (.cells #[.int .i64 k, .int .i64 r, .int .i64 c, .int .i64 t, .int .i64 w, .int .i64 g] 32 (0, 0))).alloc (.cells #[.int .i64 0, .int .i64 0, .slice none 0 0] 28 (0, 0)) = w4 at *
    refine (specIsRaster_val H1.out (HX.out.below HW.out) LX.out).mono ?_
    rintro e w5 ⟨rfl, hb5⟩
    replace q3 := blkK hb5 q3
    obtain ⟨hcR, hfR⟩ := heap_cellR q3
    have HB5 := Lib.hid (bt0 HW.out hb5 (Nat.le_refl _))
    have l3 := blkLt q3
    clear hb5 q1 q2 q3
    go_wp2_with fail
    exact bodyPost_ret (v := .tuple #[.agg #[.int .i64 0, .int .i64 0, .slice none 0 0], .int .i64 1]) (by simp [results, Try.results9, go_sem, hcR]) rfl (retRC_box (b0 := W.heap.size + 1 + 1 + 1) (by omega) (ownNil _ _ (by omega)) HB5.out (by omega) (by omega) _ _ _)

end Go.Proofs.Ythnjfdhijpfekaa
