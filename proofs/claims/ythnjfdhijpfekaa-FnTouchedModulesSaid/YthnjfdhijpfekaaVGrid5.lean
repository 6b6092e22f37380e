import Derived.Test.YthnjfdhijpfekaaVGrid4
import Derived.Test.YthnjfdhijpfekaaVTmL
namespace Go.Proofs.Ythnjfdhijpfekaa
open Go.RowKit

/-- a sampled module -/
def smG (q t p lim : Int) (K : Nat) (zs : List Int) (r c : Nat) : Int := if zs.getD ((smp q t r).toNat * K + (smp q p c).toNat) 0 < lim then 1 else 0
theorem ownNe {w : World} {base B : Nat} {v : Value} {zs : List Int} (h : OwnI w base v zs) (hB : w.heap.size ≤ B) : v.ownBlock ≠ some B := fun e => by have := h.hi _ e; omega
/-- while a grid is sampled -/
structure StSm (W : World) (B : Nat) (v : Value) (ras pr grd : Array Value) (ys : List Int) (wr : World) : Prop where
  own : OwnI wr (W.heap.size + 1 + 1 + 1) v ys
  ne : v.ownBlock ≠ some B
  gt : W.heap.size + 1 + 1 < B
  box : wr.heap[B]? = some (.cells grd 68 (0, 0))
  b0 : wr.heap[W.heap.size]? = some (.cells ras 28 (0, 0))
  b1 : wr.heap[W.heap.size + 1]? = some (.cells pr 54 (0, 0))
  b2 : wr.heap[W.heap.size + 1 + 1]? = some (.cells #[.int .i64 0, .int .i64 0, .slice none 0 0] 68 (0, 0))
  bel : Below W.heap.size W wr
theorem StSm.below {W wr w' : World} {B : Nat} {v : Value} {ras pr grd : Array Value} {ys : List Int} (h : StSm W B v ras pr grd ys wr) (hb : Below wr.heap.size wr w') : StSm W B v ras pr grd ys w' :=
  ⟨h.own.grown hb, h.ne, h.gt, blkK hb h.box, blkK hb h.b0, blkK hb h.b1, blkK hb h.b2, bt0 h.bel hb (Nat.le_refl _)⟩
theorem StSm.turn {W wr w' : World} {B : Nat} {v : Value} {ras pr grd : Array Value} {ys ys' : List Int} (h : StSm W B v ras pr grd ys wr) (hg : wr.grownBy w' v.ownBlock) (ho : OwnI w' (W.heap.size + 1 + 1 + 1) v ys') : StSm W B v ras pr grd ys' w' := by
  have hl := h.own.lo
  have keep : ∀ k A, wr.heap[k]? = some A → v.ownBlock ≠ some k → w'.heap[k]? = some A := fun k A hk hn => (hg.block k (blkLt hk) (fun e => hn e.symm)).trans hk
  exact ⟨ho, h.ne, h.gt, keep _ _ h.box h.ne, keep _ _ h.b0 (fun e => by have := hl _ e; omega), keep _ _ h.b1 (fun e => by have := hl _ e; omega), keep _ _ h.b2 (fun e => by have := hl _ e; omega),
    h.bel.trans (below_of_grownBy hg h.bel.size (fun k e => by have := hl k e; omega))⟩

set_option maxRecDepth 100000 in
set_option maxHeartbeats 2000000 in
theorem sampleGrid_ok {n m H K : Nat} {zs : List Int} {a : Option Addr} {cp : Nat} {p t q b d l lim : Int} {W : World} (hn : 1 ≤ n ∧ n ≤ 400) (hm : 1 ≤ m ∧ m ≤ 400) (hN : n * m ≤ 40000) (hras : rasOk H K zs = true) (hx : IntsAt W a zs) (hp : prOk p t q b d l = true) (hps : PsIs n m p t q b d l H K 0) (e1 : psz n q t = H) (e2 : psz m q p = K) :
    Calls Try.prog 34 #[.agg #[.int .i64 (H : Int), .int .i64 (K : Int), .slice a zs.length cp], .int .i64 (n : Int), .int .i64 (m : Int), .agg #[.int .i64 p, .int .i64 t, .int .i64 q, .int .i64 b, .int .i64 d, .int .i64 l], .int .i64 lim] W (RetRC W n m (pix (smG q t p lim K zs) m (n * m)) 0) := by
  obtain ⟨H', K', eH, eK, h1, h2, h3, h4, h5, h6, h7⟩ := ras_nat hras
  obtain rfl : H = H' := by omega
  obtain rfl : K = K' := by omega
  obtain ⟨b1, b2, b3, _⟩ := pr_bounds hp
  have HX := Lib.hid hx
  have HR := Lib.hid hras
  have HP := Lib.hid hp
  have HPS := Lib.hid hps
  have HL := Lib.hid h6
  have HE1 := Lib.hid e1
  have HE2 := Lib.hid e2
  have hlz : zs.length ≤ 40000 := by omega
  have HLZ : Hid (zs.length ≤ maxLen) := Lib.hid (by unfold maxLen; omega)
  have hHH : ((H : Int) != (H : Int)) = false := by simp
  have hKK : ((K : Int) != (K : Int)) = false := by simp
  clear hx hras hp hps h6 h7 e1 e2 eH eK
  obtain ⟨N, hNe⟩ : ∃ N, n * m = N := ⟨_, rfl⟩
  rw [hNe] at hN ⊢
  have HN := Lib.hid hNe
  clear hNe
  go_enter Try.func34, Try.ntmps34
  go_wp2_with fail
  obtain ⟨q1, q2, q3⟩ := heap3 W (.cells #[.int .i64 (H : Int), .int .i64 (K : Int), .slice a zs.length cp] 28 (0, 0)) (.cells #[.int .i64 p, .int .i64 t, .int .i64 q, .int .i64 b, .int .i64 d, .int .i64 l] 54 (0, 0)) (.cells #[.int .i64 0, .int .i64 0, .slice none 0 0] 68 (0, 0))
  have HW := Lib.hid (ba3 W (.cells #[.int .i64 (H : Int), .int .i64 (K : Int), .slice a zs.length cp] 28 (0, 0)) (.cells #[.int .i64 p, .int .i64 t, .int .i64 q, .int .i64 b, .int .i64 d, .int .i64 l] 54 (0, 0)) (.cells #[.int .i64 0, .int .i64 0, .slice none 0 0] 68 (0, 0)))
  generalize ((W.alloc (.cells #[.int .i64 (H : Int), .int .i64 (K : Int), .slice a zs.length cp] 28 (0, 0))).alloc (.cells #[.int .i64 p, .int .i64 t, .int .i64 q, .int .i64 b, .int .i64 d, .int .i64 l] 54 (0, 0))).alloc (.cells #[.int .i64 0, .int .i64 0, .slice none 0 0] 68 (0, 0)) = w4 at *
  refine (isRaster_val HR.out (HX.out.below HW.out) HLZ.out).mono ?_
  rintro e w5 ⟨rfl, hb⟩
  replace q1 := blkK hb q1
  replace q2 := blkK hb q2
  replace q3 := blkK hb q3
  have HB5 := Lib.hid (bt0 HW.out hb (Nat.le_refl _))
  have hc2 := (heap_cellR q2).1
  clear hb HW
  go_wp2_with fail
  refine (isPrint_val HP.out).mono ?_
  rintro e w6 ⟨rfl, hb⟩
  replace q1 := blkK hb q1
  replace q2 := blkK hb q2
  replace q3 := blkK hb q3
  have HB6 := Lib.hid (bt0 HB5.out hb (Nat.le_refl _))
  have hc2' := (heap_cellR q2).1
  clear hb HB5 hc2
  go_wp2_with fail
  refine (printSize_val HPS.out).mono ?_
  rintro e w8 ⟨rfl, hb⟩
  replace q1 := blkK hb q1
  replace q2 := blkK hb q2
  replace q3 := blkK hb q3
  have HB8 := Lib.hid (bt0 HB6.out hb (Nat.le_refl _))
  have hc1 := (heap_cellR q1).1
  clear hb HB6 hc2'
  go_wp2_with fail
  refine (blank0_any n m N w8 HN.out.symm hN (by omega) (by omega)).mono ?_
  rintro e w9 ⟨a9, c9, rfl, ho, hb⟩
  rw [List.length_replicate] at ho
  have l3 := blkLt q3
  have H0 : Hid (StSm W w9.heap.size (.slice a9 N c9) #[.int .i64 (H : Int), .int .i64 (K : Int), .slice a zs.length cp] #[.int .i64 p, .int .i64 t, .int .i64 q, .int .i64 b, .int .i64 d, .int .i64 l] #[.int .i64 (n : Int), .int .i64 (m : Int), .slice a9 N c9] (List.replicate N 0) (w9.alloc (.cells #[.int .i64 (n : Int), .int .i64 (m : Int), .slice a9 N c9] 68 (0, 0)))) := Lib.hid
    { own := (ho.grown (ba1 _ _)).weak (by omega)
      ne := ownNe ho (Nat.le_refl _)
      gt := by have := hb.size; omega
      box := push_at _ _
      b0 := push_old (blkK hb q1)
      b1 := push_old (blkK hb q2)
      b2 := push_old (blkK hb q3)
      bel := bt0 (bt0 HB8.out hb (Nat.le_refl _)) (ba1 _ _) (Nat.le_refl _) }
  clear ho hb q1 q2 q3 hc1 HB8 l3
  rw [List.length_replicate]
  go_wp2_with fail
  obtain ⟨BG, hBG⟩ : ∃ BG, w9.heap.size = BG := ⟨_, rfl⟩
  rw [hBG] at H0 ⊢
  generalize w9.alloc (.cells #[.int .i64 (n : Int), .int .i64 (m : Int), .slice a9 N c9] 68 (0, 0)) = w10 at *
  clear hBG
  go_loopw [57] (fun i wr => ∃ k : Nat, k ≤ N ∧ i = .int .i64 k ∧ StSm W BG (.slice a9 N c9) #[.int .i64 (H : Int), .int .i64 (K : Int), .slice a zs.length cp] #[.int .i64 p, .int .i64 t, .int .i64 q, .int .i64 b, .int .i64 d, .int .i64 l] #[.int .i64 (n : Int), .int .i64 (m : Int), .slice a9 N c9] (pix (smG q t p lim K zs) m k ++ (List.replicate N 0).drop k) wr) (fun i _ => N - (intOf i).toNat)
  case atStart => exact ⟨0, Nat.zero_le _, rfl, H0.out⟩
  case round =>
    clear H0
    obtain ⟨k, hk, rfl, hst⟩ := hrel
    have HST := Lib.hid hst
    by_cases hlt : k < N
    · have hkN : (k : Int) < (N : Int) := by omega
      obtain ⟨r, hr⟩ : ∃ r, k / m = r := ⟨_, rfl⟩
      obtain ⟨c, hc⟩ : ∃ c, k % m = c := ⟨_, rfl⟩
      have hty : (k : Int).tdiv (m : Int) = r := by rw [← hr]; rfl
      have htx : (k : Int).tmod (m : Int) = c := by rw [← hc]; rfl
      have hrN : r < n := by rw [← hr]; exact Nat.div_lt_of_lt_mul (by rw [Nat.mul_comm, HN.out]; exact hlt)
      have hcM : c < m := by rw [← hc]; exact Nat.mod_lt _ (by omega)
      have hm0 : (m : Int) ≠ 0 := by omega
      have hy0 := smp_bd hrN b3 b2
      have hx0 := smp_bd hcM b3 b1
      rw [HE1.out] at hy0
      rw [HE2.out] at hx0
      obtain ⟨A, hA⟩ : ∃ A, ((r : Int) + q) * t = A := ⟨_, rfl⟩
      obtain ⟨B, hB⟩ : ∃ B, ((c : Int) + q) * p = B := ⟨_, rfl⟩
      obtain ⟨Y, hY⟩ := Int.eq_ofNat_of_zero_le hy0.1
      obtain ⟨X, hX⟩ := Int.eq_ofNat_of_zero_le hx0.1
      have hAY : A + t / 2 = Y := by rw [← hA, ← hY]; rfl
      have hBX : B + p / 2 = X := by rw [← hB, ← hX]; rfl
      rw [hY] at hy0
      rw [hX] at hx0
      have wA : IntKind.i64.wrap (((r : Int) + q) * t) = A := by rw [hA]; exact IntWalk.i64_in _ (by omega)
      have wB : IntKind.i64.wrap (((c : Int) + q) * p) = B := by rw [hB]; exact IntWalk.i64_in _ (by omega)
      have wt : t.tdiv 2 = t / 2 := Int.tdiv_eq_ediv_of_nonneg (by omega)
      have wp' : p.tdiv 2 = p / 2 := Int.tdiv_eq_ediv_of_nonneg (by omega)
      have w3 : wrap64 (A + t / 2) = Y := by rw [hAY]; exact IntWalk.wrap64_in _ (by omega)
      have w4 : wrap64 (B + p / 2) = X := by rw [hBX]; exact IntWalk.wrap64_in _ (by omega)
      have hidx : Y * K + X < zs.length := by
        rw [HL.out]
        have h9 : Y * K + K = (Y + 1) * K := by rw [Nat.add_mul]; omega
        have h10 : (Y + 1) * K ≤ H * K := Nat.mul_le_mul_right K (by omega)
        omega
      obtain ⟨z, hz⟩ : ∃ z, zs[Y * K + X]? = some z := ⟨_, List.getElem?_eq_getElem hidx⟩
      have hsm : smG q t p lim K zs r c = if z < lim then 1 else 0 := by rw [smG, hY, hX, Int.toNat_natCast, Int.toNat_natCast, List.getD_eq_getElem?_getD, hz]; rfl
      have HSM := Lib.hid hsm
      have HZ := Lib.hid hz
      have HRR := Lib.hid hr
      have HCC := Lib.hid hc
      have hcB0 := (heap_cellR hst.b0).1
      have hcB1 := (heap_cellR hst.b1).1
      have lw0 := blkLt hst.b0
      have lw1 := blkLt hst.b1
      clear hst hA hB hY hX hAY hBX hidx hz hsm hr hc
      go_wp2_with fail
      go_quiet (fail)
      go_wp2_with fail
      have HST2 := Lib.hid (HST.out.below (below_drewN (Below.refl _ _) nq))
      refine (pixel_val rfl HZ.out (HX.out.below HST2.out.bel) (by omega) (by omega) (by omega)).mono ?_
      rintro e w11 ⟨rfl, hb⟩
      have HST3 := Lib.hid (HST2.out.below hb)
      clear hb hcB0 hcB1 wA wB wt wp' w3 w4 HST HST2
      have hkr : k < (List.replicate N (0 : Int)).length := by rw [List.length_replicate]; exact hlt
      by_cases hzl : z < lim
      · have hsv := HSM.out
        rw [if_pos hzl] at hsv
        have HPUT := Lib.hid (pix_put (F := smG q t p lim K zs) (m := m) (xs := List.replicate N 0) (v := 1) hkr (by rw [HRR.out, HCC.out, hsv]))
        have ho := HST3.out.own
        have hlen : (pix (smG q t p lim K zs) m k ++ (List.replicate N 0).drop k).length = N := by rw [pix_both (by rw [List.length_replicate]; omega), List.length_replicate]
        obtain ⟨g9, rfl, hg9, -, hgl⟩ := ho.block (by omega)
        obtain ⟨z0, -, hcz, hfz⟩ := ho.cellAt hlen.symm (k := k) (by omega)
        have HSS := Lib.hid (ho.stored hlen.symm k 1)
        have hcG := (heap_cellR HST3.out.box).1
        have lwG := blkLt HST3.out.box
        clear hsv ho hlen
        go_wp2_with fail
        obtain ⟨s1, s2⟩ := HSS.out
        rw [HPUT.out] at s1
        exact ⟨⟨k + 1, by omega, by go_num, HST3.out.turn s2 s1⟩, by simp [intOf]; omega⟩
      · have hsv := HSM.out
        rw [if_neg hzl] at hsv
        have HSAME := Lib.hid (pix_same (F := smG q t p lim K zs) (m := m) (xs := List.replicate N 0) hkr (by rw [HRR.out, HCC.out, hsv]; simp [List.getD_eq_getElem?_getD, hlt]))
        clear hsv
        go_wp2_with fail
        exact ⟨⟨k + 1, by omega, by go_num, by rw [← HSAME.out]; exact HST3.out⟩, by simp [intOf]; omega⟩
    · obtain rfl : k = N := by omega
      have hall := pix_all (F := smG q t p lim K zs) (m := m) (xs := List.replicate k 0) (N := k) (by simp)
      have ho := hst.own
      rw [hall] at ho
      have HO := Lib.hid ho
      have hcG := (heap_cellR hst.box).1
      have lwG := blkLt hst.box
      obtain ⟨hcR, hfR⟩ := heap_cellR hst.b2
      have lwR := blkLt hst.b2
      have HB := Lib.hid hst.bel
      clear hst HST ho hall
      go_wp2_with fail
      have hf := retRC_box (w := W) (n := n) (m := m) (xs := pix (smG q t p lim K zs) m k) (a := a9) (c := c9) (cd := 0) (b0 := W.heap.size + 1 + 1 + 1) (B := W.heap.size + 1 + 1) (by omega) (by rw [pix_len]; exact HO.out) HB.out (by omega) (by omega) (.int .i64 (n : Int)) (.int .i64 (m : Int)) (.slice a9 k c9)
      rw [pix_len] at hf
      exact bodyPost_ret (v := .tuple #[.agg #[.int .i64 (n : Int), .int .i64 (m : Int), .slice a9 k c9], .int .i64 0]) (by simp [results, Try.results34, go_sem, hcR]) rfl hf

end Go.Proofs.Ythnjfdhijpfekaa
