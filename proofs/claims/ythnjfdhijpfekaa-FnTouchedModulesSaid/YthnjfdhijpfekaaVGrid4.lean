import Derived.Test.YthnjfdhijpfekaaVGrid3
import Derived.Test.YthnjfdhijpfekaaVApH
namespace Go.Proofs.Ythnjfdhijpfekaa
open Go.RowKit

theorem pressPixel_enter : ∀ (args : Array Value) (W : World), (callFunc 69 args).run Try.prog W = .ok (.enter 69 args) W := fun args W => by kernel_rfl

set_option maxRecDepth 100000 in
set_option maxHeartbeats 2000000 in
theorem printGrid_ok {n m H K : Nat} {xs : List Int} {a : Option Addr} {cp : Nat} {p t q b d l : Int} {W : World} (hn : 1 ≤ n ∧ n ≤ 400) (hm : 1 ≤ m ∧ m ≤ 400) (hN : n * m ≤ 40000) (hl : xs.length = n * m) (hc : ∀ x ∈ xs, 0 ≤ x ∧ x ≤ 1) (hx : IntsAt W a xs) (hp : prOk p t q b d l = true) (hps : PsIs n m p t q b d l H K 0) (hH : H ≤ 400) (hK : K ≤ 400) (hHK : H * K ≤ 40000) (e1 : psz n q t = H) (e2 : psz m q p = K) :
    Calls Try.prog 33 #[.agg #[.int .i64 (n : Int), .int .i64 (m : Int), .slice a xs.length cp], .agg #[.int .i64 p, .int .i64 t, .int .i64 q, .int .i64 b, .int .i64 d, .int .i64 l]] W (RetRC W H K (pix (pxV n m xs p t q b d l) K (H * K)) 0) := by
  have HX := Lib.hid hx
  have HP := Lib.hid hp
  have HPS := Lib.hid hps
  have HL := Lib.hid hl
  have HC := Lib.hid hc
  have HE1 := Lib.hid e1
  have HE2 := Lib.hid e2
  have hlx : xs.length ≤ 40000 := by omega
  have hmf := run_makeFunc'' Try.prog
  clear hx hp hps hl hc e1 e2
  go_enter Try.func33, Try.ntmps33
  go_wp2_with fail
  obtain ⟨q1, q2, q3⟩ := heap3 W (.cells #[.int .i64 (n : Int), .int .i64 (m : Int), .slice a xs.length cp] 68 (0, 0)) (.cells #[.int .i64 p, .int .i64 t, .int .i64 q, .int .i64 b, .int .i64 d, .int .i64 l] 54 (0, 0)) (.cells #[.int .i64 0, .int .i64 0, .slice none 0 0] 28 (0, 0))
  have HW := Lib.hid (ba3 W (.cells #[.int .i64 (n : Int), .int .i64 (m : Int), .slice a xs.length cp] 68 (0, 0)) (.cells #[.int .i64 p, .int .i64 t, .int .i64 q, .int .i64 b, .int .i64 d, .int .i64 l] 54 (0, 0)) (.cells #[.int .i64 0, .int .i64 0, .slice none 0 0] 28 (0, 0)))
  generalize ((W.alloc (.cells #[.int .i64 (n : Int), .int .i64 (m : Int), .slice a xs.length cp] 68 (0, 0))).alloc (.cells #[.int .i64 p, .int .i64 t, .int .i64 q, .int .i64 b, .int .i64 d, .int .i64 l] 54 (0, 0))).alloc (.cells #[.int .i64 0, .int .i64 0, .slice none 0 0] 28 (0, 0)) = w4 at *
  refine (isGrid_ok hn.1 hm.1 hN HL.out (fun x hx => by have := HC.out x hx; omega) (HX.out.below HW.out)).mono ?_
  rintro e w5 ⟨rfl, hb⟩
  replace q1 := blkK hb q1
  replace q2 := blkK hb q2
  replace q3 := blkK hb q3
  have HB5 := Lib.hid (bt0 HW.out hb (Nat.le_refl _))
  have hc2 := (heap_cellR q2).1
  clear hb HW
  go_wp2_with fail
  refine (isPrint_val HP.out).mono ?_
  rintro e w6 ⟨rfl, hb⟩
  replace q1 := blkK hb q1
  replace q2 := blkK hb q2
  replace q3 := blkK hb q3
  have HB6 := Lib.hid (bt0 HB5.out hb (Nat.le_refl _))
  have hc1 := (heap_cellR q1).1
  clear hb HB5 hc2
  go_wp2_with fail
  refine (known_ok (by omega) (fun x hx => (HC.out x hx).1) (HX.out.below HB6.out)).mono ?_
  rintro e w7 ⟨rfl, hb⟩
  replace q1 := blkK hb q1
  replace q2 := blkK hb q2
  replace q3 := blkK hb q3
  have HB7 := Lib.hid (bt0 HB6.out hb (Nat.le_refl _))
  have hc1' := (heap_cellR q1).1
  have hc2 := (heap_cellR q2).1
  clear hb HB6 hc1
  go_wp2_with fail
  refine (printSize_val HPS.out).mono ?_
  rintro e w8 ⟨rfl, hb⟩
  replace q1 := blkK hb q1
  replace q2 := blkK hb q2
  replace q3 := blkK hb q3
  have HB8 := Lib.hid (bt0 HB7.out hb (Nat.le_refl _))
  clear hb HB7 hc1' hc2
  have l1 := blkLt q1
  have l2 := blkLt q2
  have l3 := blkLt q3
  have hc1 := (heap_cellR q1).1
  have hc2 := (heap_cellR q2).1
  have HQ3 := Lib.hid q3
  clear q1 q2 q3
  go_wp2_with fail
  refine wp_region_rs (Keep := KB) [37, 38, 39, 40, 41, 42, 43, 44, 45, 9] (fun us => _)
    [spE (.agg #[.int .i64 p, .int .i64 t, .int .i64 q, .int .i64 b, .int .i64 d, .int .i64 l]), spE (.pointer (some ⟨W.heap.size, 0, none⟩)), spE (.int .i64 (n : Int)), spE (.pointer (some ⟨W.heap.size, 1, none⟩)), spE (.int .i64 (m : Int)), spE (.agg #[.int .i64 (H : Int), .int .i64 (K : Int)]), spE (.agg #[.int .i64 p, .int .i64 t, .int .i64 q, .int .i64 b, .int .i64 d, .int .i64 l]), spE (.agg #[.int .i64 (n : Int), .int .i64 (m : Int), .slice a xs.length cp]), spE (.agg #[.int .i64 (H : Int), .int .i64 (K : Int), .int .i64 p, .int .i64 t, .int .i64 q, .int .i64 b, .int .i64 d, .int .i64 l, .int .i64 (n : Int), .int .i64 (m : Int), .slice a xs.length cp]), spBox (W.heap.size + 1 + 1 + 1) #[.int .i64 0, .int .i64 0, .int .i64 0, .int .i64 0, .int .i64 0, .int .i64 0, .int .i64 0, .int .i64 0, .int .i64 0, .int .i64 0, .slice none 0 0] 109]
    (StX w8) (by kernel_rfl) (by kernel_rfl) (Nat.le_of_ble_eq_true rfl) (fun us => by simp [over, List.mapIdx_cons]; exact rfl) (stX0 _) kbr ?_ ?_
  · refine ⟨?_, ?_, ?_, ?_, ?_, ?_, ?_, ?_, ?_, ?_, trivial⟩
    all_goals (intro us wx hst hd; rw [if_pos (by kernel_rfl)]; dsimp only)
    · clear hd hc1
      have hB := boxB hst hc2 l2
      go_simp
      exact kb_same hst rfl
    · clear hd hc1 hc2
      go_simp
      exact kb_same hst rfl
    · have d0 : us 38 = .pointer (some ⟨W.heap.size, 0, none⟩) := hd ⟨1, .data⟩ (by simp) rfl
      clear hd hc2
      have hB := boxB hst hc1 l1
      go_simp
      exact kb_same hst rfl
    · clear hd hc1 hc2
      go_simp
      exact kb_same hst rfl
    · have d0 : us 40 = .pointer (some ⟨W.heap.size, 1, none⟩) := hd ⟨3, .data⟩ (by simp) rfl
      clear hd hc2
      have hB := boxB hst hc1 l1
      go_simp
      exact kb_same hst rfl
    · have d0 : us 37 = .agg #[.int .i64 p, .int .i64 t, .int .i64 q, .int .i64 b, .int .i64 d, .int .i64 l] := hd ⟨0, .data⟩ (by simp) rfl
      have d1 : us 39 = .int .i64 (n : Int) := hd ⟨2, .data⟩ (by simp) rfl
      have d2 : us 41 = .int .i64 (m : Int) := hd ⟨4, .data⟩ (by simp) rfl
      clear hd hc1 hc2
      go_simp
      have h := sizeOf_any (n : Int) (m : Int) p t q b d l wx (by omega) (by omega) HP.out
      rw [HE1.out, HE2.out] at h
      exact h.mono fun e w' ⟨he, hb⟩ => ⟨_, he, kb_below hst hb rfl⟩
    · clear hd hc1
      have hB := boxB hst hc2 l2
      go_simp
      exact kb_same hst rfl
    · clear hd hc2
      have hB := boxB hst hc1 l1
      go_simp
      exact kb_same hst rfl
    · have d0 : us 42 = .agg #[.int .i64 (H : Int), .int .i64 (K : Int)] := hd ⟨5, .data⟩ (by simp) rfl
      have d1 : us 43 = .agg #[.int .i64 p, .int .i64 t, .int .i64 q, .int .i64 b, .int .i64 d, .int .i64 l] := hd ⟨6, .data⟩ (by simp) rfl
      have d2 : us 44 = .agg #[.int .i64 (n : Int), .int .i64 (m : Int), .slice a xs.length cp] := hd ⟨7, .data⟩ (by simp) rfl
      clear hd hc1 hc2
      go_simp
      exact kb_same hst rfl
    · clear hd hc1 hc2
      go_simp
      exact kb_new hst (by omega)
  · intro us wx hst hd
    have d45 : us 45 = .agg #[.int .i64 (H : Int), .int .i64 (K : Int), .int .i64 p, .int .i64 t, .int .i64 q, .int .i64 b, .int .i64 d, .int .i64 l, .int .i64 (n : Int), .int .i64 (m : Int), .slice a xs.length cp] := hd 8 (by simp)
    have d9 : BoxK (W.heap.size + 1 + 1 + 1) #[.int .i64 0, .int .i64 0, .int .i64 0, .int .i64 0, .int .i64 0, .int .i64 0, .int .i64 0, .int .i64 0, .int .i64 0, .int .i64 0, .slice none 0 0] 109 (us 9) wx := hd 9 (by simp)
    clear hd hc1 hc2
    obtain ⟨BX, eb, hBX, hbx⟩ := d9
    have HB9 := Lib.hid (bt0 HB8.out hst (Nat.le_refl _))
    have HR9 := Lib.hid (blkK hst HQ3.out)
    obtain ⟨hcX, hfX⟩ := heap_cellR hbx
    have hwX := blkLt hbx
    have HBX := Lib.hid hbx
    clear hst hbx
    simp only [List.drop, List.length]
    rw [d45, eb]
    clear d45 eb
    go_wp2_with fail
    have HBz : Hid (Below W.heap.size W (((((((((((wx.setCell ⟨BX, 0, none⟩ (.int .i64 (H : Int))).setCell ⟨BX, 1, none⟩ (.int .i64 (K : Int))).setCell ⟨BX, 2, none⟩ (.int .i64 p)).setCell ⟨BX, 3, none⟩ (.int .i64 t)).setCell ⟨BX, 4, none⟩ (.int .i64 q)).setCell ⟨BX, 5, none⟩ (.int .i64 b)).setCell ⟨BX, 6, none⟩ (.int .i64 d)).setCell ⟨BX, 7, none⟩ (.int .i64 l)).setCell ⟨BX, 8, none⟩ (.int .i64 (n : Int))).setCell ⟨BX, 9, none⟩ (.int .i64 (m : Int))).setCell ⟨BX, 10, none⟩ (.slice a xs.length cp))) := by
      show Below _ _ _
      iterate 11 (refine Below.setCell ?_ (by dsimp only; omega) _)
      exact HB9.out
    have HRz : Hid ((((((((((((wx.setCell ⟨BX, 0, none⟩ (.int .i64 (H : Int))).setCell ⟨BX, 1, none⟩ (.int .i64 (K : Int))).setCell ⟨BX, 2, none⟩ (.int .i64 p)).setCell ⟨BX, 3, none⟩ (.int .i64 t)).setCell ⟨BX, 4, none⟩ (.int .i64 q)).setCell ⟨BX, 5, none⟩ (.int .i64 b)).setCell ⟨BX, 6, none⟩ (.int .i64 d)).setCell ⟨BX, 7, none⟩ (.int .i64 l)).setCell ⟨BX, 8, none⟩ (.int .i64 (n : Int))).setCell ⟨BX, 9, none⟩ (.int .i64 (m : Int))).setCell ⟨BX, 10, none⟩ (.slice a xs.length cp)).heap[W.heap.size + 1 + 1]? = some (.cells #[.int .i64 0, .int .i64 0, .slice none 0 0] 28 (0, 0))) := by
      have hg : wx.grownBy (((((((((((wx.setCell ⟨BX, 0, none⟩ (.int .i64 (H : Int))).setCell ⟨BX, 1, none⟩ (.int .i64 (K : Int))).setCell ⟨BX, 2, none⟩ (.int .i64 p)).setCell ⟨BX, 3, none⟩ (.int .i64 t)).setCell ⟨BX, 4, none⟩ (.int .i64 q)).setCell ⟨BX, 5, none⟩ (.int .i64 b)).setCell ⟨BX, 6, none⟩ (.int .i64 d)).setCell ⟨BX, 7, none⟩ (.int .i64 l)).setCell ⟨BX, 8, none⟩ (.int .i64 (n : Int))).setCell ⟨BX, 9, none⟩ (.int .i64 (m : Int))).setCell ⟨BX, 10, none⟩ (.slice a xs.length cp)) (some BX) := by
        iterate 11 (refine grownBy_trans ?_ (grownBy_set _ _ _ _))
        exact World.grownBy.refl _ _
      exact (hg.block _ (blkLt HR9.out) (fun e => by have := Option.some.inj e; omega)).trans HR9.out
    clear hcX hfX hwX HBX HB9 HR9 HB8
    generalize (((((((((((wx.setCell ⟨BX, 0, none⟩ (.int .i64 (H : Int))).setCell ⟨BX, 1, none⟩ (.int .i64 (K : Int))).setCell ⟨BX, 2, none⟩ (.int .i64 p)).setCell ⟨BX, 3, none⟩ (.int .i64 t)).setCell ⟨BX, 4, none⟩ (.int .i64 q)).setCell ⟨BX, 5, none⟩ (.int .i64 b)).setCell ⟨BX, 6, none⟩ (.int .i64 d)).setCell ⟨BX, 7, none⟩ (.int .i64 l)).setCell ⟨BX, 8, none⟩ (.int .i64 (n : Int))).setCell ⟨BX, 9, none⟩ (.int .i64 (m : Int))).setCell ⟨BX, 10, none⟩ (.slice a xs.length cp)) = wz at *
    refine (raster_any 69 #[.agg #[.int .i64 (H : Int), .int .i64 (K : Int), .int .i64 p, .int .i64 t, .int .i64 q, .int .i64 b, .int .i64 d, .int .i64 l, .int .i64 (n : Int), .int .i64 (m : Int), .slice a xs.length cp]] #[] H K (H * K) (pxV n m xs p t q b d l) wz rfl hHK hH hK pressPixel_enter (fun W' hb r c hr hc => pressPixel_val rfl HP.out (by omega) (by omega) HL.out hN ((HX.out.below HBz.out).below hb) (by omega) (by omega))).mono ?_
    rintro e w9 ⟨a9, c9, rfl, ho, hb⟩
    obtain ⟨hcR, hfR⟩ := heap_cellR (blkK hb HRz.out)
    have hw9 := blkLt (blkK hb HRz.out)
    have HO := Lib.hid ho
    have HBf := Lib.hid (bt0 HBz.out hb (Nat.le_refl _))
    have hwz := blkLt HRz.out
    clear ho hb
    go_wp2_with fail
    exact bodyPost_ret (v := .tuple #[.agg #[.int .i64 (H : Int), .int .i64 (K : Int), .slice a9 (pix (pxV n m xs p t q b d l) K (H * K)).length c9], .int .i64 0]) (by simp [results, Try.results33, go_sem, hcR]) rfl (retRC_box (b0 := wz.heap.size) (by omega) HO.out HBf.out (by omega) (by omega) _ _ _)

end Go.Proofs.Ythnjfdhijpfekaa
