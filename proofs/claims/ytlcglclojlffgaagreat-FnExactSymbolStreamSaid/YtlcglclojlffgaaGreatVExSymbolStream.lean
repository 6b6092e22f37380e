import Derived.Test.YtlcglclojlffgaaGreatVSpSk
import Derived.Test.YtlcglclojlffgaaGreatVFamW
namespace Go.Proofs.YtlcglclojlffgaaGreat
open Go.RowKit

/-- a family in memory -/
def FamV (nm : ByteArray) (kd p k g : Int) (szs : List Int) (cl : Int) (lvs : List Int) (v : Value) (W : World) : Prop := ∃ b1 b2 : Nat, v = fmV nm kd p k g (.slice (some ⟨b1, 0, none⟩) szs.length szs.length) cl (.slice (some ⟨b2, 0, none⟩) lvs.length lvs.length) ∧ IntsAt W (some ⟨b1, 0, none⟩) szs ∧ IntsAt W (some ⟨b2, 0, none⟩) lvs
def spFam (nm : ByteArray) (kd p k g : Int) (szs : List Int) (cl : Int) (lvs : List Int) : Sp KB := ⟨FamV nm kd p k g szs cl lvs, fun _ _ _ hk ⟨b1, b2, e, h1, h2⟩ => ⟨b1, b2, e, h1.below hk, h2.below hk⟩⟩
abbrev fmC (nm : ByteArray) (kd p k g : Int) (s1 : Value) (cl : Int) (s2 : Value) : Array Value := #[.string nm, .int .i64 kd, .int .i64 p, .int .i64 k, .int .i64 g, s1, .int .i64 cl, s2]

theorem ordC_le (d n c : Nat) (hd : d ≤ 1500) (hn : 1 ≤ n) (hn2 : n ≤ 16) (hc2 : c ≤ 64) : (ordC (shN d n) n c).length ≤ 100000 := by
  rw [ordC, List.length_append]
  have h1 := ordD_len (shN d n) n (shN d n (n - 1))
  have h2 := shN_le d n (n - 1) hn (by omega)
  have h3 : shN d n (n - 1) * n ≤ 1500 * 16 := Nat.mul_le_mul (by omega) hn2
  have h4 := ordE_len (shN d n) n c
  have h5 : c * n ≤ 64 * 16 := Nat.mul_le_mul (by omega) hn2
  omega
theorem symE_len (f : Fam) (n lev : Int) (S : List UInt8) : (symE f n lev S).length ≤ 100000 := by
  unfold symE
  split
  · rename_i h
    have hl : layC f n lev = 0 := by
      apply Classical.byContradiction
      intro h2
      rw [symC, if_neg h2] at h
      exact h2 h
    obtain ⟨_, hlo⟩ := lay_zero hl
    rw [lay_nat hlo] at hlo
    obtain ⟨hn, hn2, -, hd2, -, hc2, -, -⟩ := lay_facts hlo
    rw [natI_len, strC, List.length_map]
    exact ordC_le _ _ _ hd2 hn hn2 hc2
  · simp

set_option maxRecDepth 100000 in
set_option maxHeartbeats 1000000 in
theorem exSymbolStream_any (nm : ByteArray) (kd p k g : Int) (a1 : Option Addr) (szs : List Int) (c1 : Nat) (cl : Int) (a2 : Option Addr) (lvs : List Int) (c2 : Nat) (n lev : Int) (s : ByteArray) (w : World) (h1 : IntsAt w a1 szs) (h2 : IntsAt w a2 lvs) (hnm : nm.size ≤ maxLen) (l1 : szs.length ≤ maxLen) (l2 : lvs.length ≤ maxLen) (hwf : ∀ x ∈ szs, (Lit.int .i64 x).wf = true) (hs : s.size ≤ maxLen) :
    Calls Tryz.prog 3 #[fmV nm kd p k g (.slice a1 szs.length c1) cl (.slice a2 lvs.length c2), .int .i64 n, .int .i64 lev, .string s] w fun e w' => e = .returned (.bool true) ∧ Below w.heap.size w w' := by
  have H1 := Lib.hid h1
  have H2 := Lib.hid h2
  have HLM1 := Lib.hid l1
  have HLM2 := Lib.hid l2
  have HWF := Lib.hid hwf
  have HNM := Lib.hid hnm
  have hsm : s.size ≤ 9223372036854775807 := by unfold maxLen at hs; omega
  clear h1 h2 hwf hnm hs
  by_cases hs1 : s.size ≤ 1048576
  · have hsi : ¬ (1048576 : Int) < (s.size : Int) := by omega
    have HSZ := Lib.hid (fun w => szFamily_any nm kd p k g a1 szs.length c1 cl a2 lvs.length c2 1048576 w HNM.out l1 l2 (by omega) (by omega))
    have HOK := Lib.hid (fun h => leftF_ok (l := 1048576) (p := nm.size) (n := szs.length) (m := lvs.length) h)
    obtain ⟨L, hL⟩ : ∃ L, L = leftF 1048576 nm.size szs.length lvs.length := ⟨_, rfl⟩
    rw [← hL] at HSZ HOK
    clear l1 l2 hL
    have HA0 := Lib.hid (push_at w (.cells (fmC nm kd p k g (.slice a1 szs.length c1) cl (.slice a2 lvs.length c2)) 26 (0, 0)))
    have HB0 := Lib.hid (ba1 w (.cells (fmC nm kd p k g (.slice a1 szs.length c1) cl (.slice a2 lvs.length c2)) 26 (0, 0)))
    obtain ⟨w0, hw0⟩ : ∃ w0, w0 = w.alloc (.cells (fmC nm kd p k g (.slice a1 szs.length c1) cl (.slice a2 lvs.length c2)) 26 (0, 0)) := ⟨_, rfl⟩
    have HW0 := Lib.hid hw0
    rw [← hw0] at HA0 HB0
    obtain ⟨hcA, hfA⟩ := heap_cellR HA0.out
    have hltA := blkLt HA0.out
    clear hw0
    go_enter Tryz.func3, Tryz.ntmps3
    go_wp2_with fail
    try rw [← HW0.out]
    refine (HSZ.out _).mono ?_
    rintro e w1 ⟨rfl, hb1⟩
    have KA1 := Lib.hid (blkK hb1 HA0.out)
    have HB1 := Lib.hid (bt0 HB0.out hb1 (Nat.le_refl _))
    clear hb1 hcA hfA hltA
    by_cases hL0 : L < 0
    · go_wp2_with fail
      go_ret
      exact ⟨rfl, HB1.out⟩
    · have hsum := HOK.out (by omega)
      have lnm : nm.size ≤ 1048576 := by omega
      have l1 : szs.length ≤ 1048576 := by omega
      have l2 : lvs.length ≤ 1048576 := by omega
      clear hsum
      have HTO := Lib.hid (fun w' (hb : Below w.heap.size w w') => toFamily_any nm kd p k g a1 szs c1 cl a2 lvs c2 w' (H1.out.below hb) (H2.out.below hb) (by omega) (by omega))
      have HZL := Lib.hid (symE_len ⟨nm, kd, p, k, g, szs, cl, lvs⟩ n lev s.data.toList)
      obtain ⟨Z, hZ⟩ : ∃ Z, Z = symE ⟨nm, kd, p, k, g, szs, cl, lvs⟩ n lev s.data.toList := ⟨_, rfl⟩
      obtain ⟨cd, hcd⟩ : ∃ cd, cd = symC ⟨nm, kd, p, k, g, szs, cl, lvs⟩ n lev s.data.toList := ⟨_, rfl⟩
      have HSP := Lib.hid (fun b1 b2 w' (h1 : IntsAt w' (some ⟨b1, 0, none⟩) szs) (h2 : IntsAt w' (some ⟨b2, 0, none⟩) lvs) => spSymbolStream_any nm kd p k g (some ⟨b1, 0, none⟩) szs szs.length cl (some ⟨b2, 0, none⟩) lvs lvs.length n lev s w' h1 h2 l1 l2 lnm hs1)
      have HIM := Lib.hid (fun b1 b2 w' (h1 : IntsAt w' (some ⟨b1, 0, none⟩) szs) (h2 : IntsAt w' (some ⟨b2, 0, none⟩) lvs) => symbolStream_any nm kd p k g (some ⟨b1, 0, none⟩) szs szs.length cl (some ⟨b2, 0, none⟩) lvs lvs.length n lev s w' h1 h2 l1 l2 lnm (fun x hx => by have h := HWF.out x hx; have e1 : IntKind.i64.min = -9223372036854775808 := rfl; have e2 : IntKind.i64.max = 9223372036854775807 := rfl; simp [Lit.wf] at h; omega) hs1)
      rw [← hZ, ← hcd] at HSP HIM
      rw [← hZ] at HZL
      have hcc : (cd != cd) = false := by simp
      clear hZ hcd
      obtain ⟨hcA, hfA⟩ := heap_cellR KA1.out
      have hltA := blkLt KA1.out
      go_wp2_with fail
      refine (HTO.out _ HB1.out).mono ?_
      rintro e w2 ⟨y1, y2, rfl, -, hy1, hy2, hb2⟩
      have KA2 := Lib.hid (blkK hb2 KA1.out)
      have HB2 := Lib.hid (bt0 HB1.out hb2 (Nat.le_refl _))
      have HSPc := Lib.hid (HSP.out y1 y2 w2 hy1.ints hy2.ints)
      clear hb2 hy1 hy2 hcA hfA hltA
      go_wp2_with fail
      refine HSPc.out.mono ?_
      rintro e w3 ⟨aS, cS, lS, hlS, rfl, hoS, hb3⟩
      have HLS := Lib.hid hlS
      have HOS := Lib.hid hoS
      have HSL := Lib.hid hoS.len
      have HhiS := Lib.hid hoS.hi
      have KA3 := Lib.hid (blkK hb3 KA2.out)
      have HB3 := Lib.hid (bt0 HB2.out hb3 (Nat.le_refl _))
      have hw2 : w.heap.size < w2.heap.size := blkLt KA2.out
      have h23 : w2.heap.size ≤ w3.heap.size := hb3.size
      obtain ⟨hcA, hfA⟩ := heap_cellR KA3.out
      have hltA := blkLt KA3.out
      clear hlS hoS hb3 HSPc
      go_wp2_with fail
      -- the argument's own copy
      refine (HTO.out _ HB3.out).mono ?_
      rintro e w4 ⟨x1, x2, rfl, hxne, hx1, hx2, hb4⟩
      have KA4 := Lib.hid (blkK hb4 KA3.out)
      have HB4 := Lib.hid (bt0 HB3.out hb4 (Nat.le_refl _))
      have HOS4 := Lib.hid (HOS.out.grown hb4)
      have HX1l := Lib.hid (hx1.lo x1 rfl)
      have HX2l := Lib.hid (hx2.lo x2 rfl)
      have HX1h := Lib.hid (hx1.hi x1 rfl)
      have HX2h := Lib.hid (hx2.hi x2 rfl)
      have h34 : w3.heap.size ≤ w4.heap.size := hb4.size
      have HX14 := Lib.hid hx1
      have HX24 := Lib.hid hx2
      clear hb4 hx1 hx2 hcA hfA hltA
      go_wp2_with fail
      have hB5 := ba1 w4 (.cells (fmC nm kd p k g (.slice (some ⟨x1, 0, none⟩) szs.length szs.length) cl (.slice (some ⟨x2, 0, none⟩) lvs.length lvs.length)) 32 (0, 0))
      have hKX := push_at w4 (.cells (fmC nm kd p k g (.slice (some ⟨x1, 0, none⟩) szs.length szs.length) cl (.slice (some ⟨x2, 0, none⟩) lvs.length lvs.length)) 32 (0, 0))
      obtain ⟨w5, hw5⟩ : ∃ w5, w5 = w4.alloc (.cells (fmC nm kd p k g (.slice (some ⟨x1, 0, none⟩) szs.length szs.length) cl (.slice (some ⟨x2, 0, none⟩) lvs.length lvs.length)) 32 (0, 0)) := ⟨_, rfl⟩
      rw [← hw5] at hB5 hKX
      try rw [← hw5]
      have HKX5 := Lib.hid hKX
      have KA5 := Lib.hid (blkK hB5 KA4.out)
      have HB5 := Lib.hid (bt0 HB4.out hB5 (Nat.le_refl _))
      have HOS5 := Lib.hid (HOS4.out.grown hB5)
      have HX15 := Lib.hid (HX14.out.grown hB5)
      have HX25 := Lib.hid (HX24.out.grown hB5)
      have HIMc := Lib.hid (HIM.out x1 x2 w5 HX15.out.ints HX25.out.ints)
      have h45 : w4.heap.size < w5.heap.size := blkLt hKX
      clear hB5 hKX hw5
      refine HIMc.out.mono ?_
      rintro e w6 ⟨aG, cG, lG, hlG, rfl, hoG, hb6⟩
      obtain rfl : lG = Z := hlG
      obtain rfl : lS = lG := HLS.out
      have HOG6 := Lib.hid hoG
      have HGl := Lib.hid hoG.lo
      have KA6 := Lib.hid (blkK hb6 KA5.out)
      have KX6 := Lib.hid (blkK hb6 HKX5.out)
      have HB6 := Lib.hid (bt0 HB5.out hb6 (Nat.le_refl _))
      have HOS6 := Lib.hid (HOS5.out.grown hb6)
      have HX16 := Lib.hid (HX15.out.grown hb6)
      have HX26 := Lib.hid (HX25.out.grown hb6)
      clear hoG hb6 HIMc
      go_wp2_with fail
      refine (eqI_val HOG6.out.ints HOS6.out.ints HSL.out).mono ?_
      rintro e w7 ⟨rfl, hb7⟩
      have KA := Lib.hid (blkK hb7 KA6.out)
      have KX := Lib.hid (blkK hb7 KX6.out)
      have HB7 := Lib.hid (bt0 HB6.out hb7 (Nat.le_refl _))
      have HOS7 := Lib.hid (HOS6.out.grown hb7)
      have HOG7 := Lib.hid (HOG6.out.grown hb7)
      have HX1 := Lib.hid (HX16.out.grown hb7)
      have HX2 := Lib.hid (HX26.out.grown hb7)
      clear hb7
      go_wp2_with fail
      refine wp_region_rt (Keep := KB) [56, 57, 58, 59, 60] (fun us => _)
        [spE (fmV nm kd p k g (.slice (some ⟨x1, 0, none⟩) szs.length szs.length) cl (.slice (some ⟨x2, 0, none⟩) lvs.length lvs.length)),
         spE (fmV nm kd p k g (.slice a1 szs.length c1) cl (.slice a2 lvs.length c2)),
         spFam nm kd p k g szs cl lvs,
         spE (.bool true),
         spE (.bool false)]
        (StX w7) (by kernel_rfl) (by kernel_rfl) (Nat.le_of_ble_eq_true rfl) (fun us => by simp [over, List.mapIdx_cons]; exact rfl) (stX0 _) kbr ?_ ?_
      · refine ⟨?_, ?_, ?_, ?_, ?_, trivial⟩
        all_goals (intro us wx hst hd; rw [if_pos (by kernel_rfl)]; dsimp only)
        · clear hd
          have hX0 := heap_cellR (blkK hst KX.out)
          obtain ⟨hcX, hfX⟩ := hX0
          have hltX := blkLt (blkK hst KX.out)
          go_simp
          exact kb_same hst rfl
        · clear hd
          have hA0 := heap_cellR (blkK hst KA.out)
          obtain ⟨hcA, hfA⟩ := hA0
          have hltA := blkLt (blkK hst KA.out)
          go_simp
          exact kb_same hst rfl
        · have d57 : us 57 = (fmV nm kd p k g (.slice a1 szs.length c1) cl (.slice a2 lvs.length c2)) := hd ⟨1, .data⟩ (by simp) rfl
          clear hd
          go_simp
          exact (HTO.out wx (bt0 HB7.out hst (Nat.le_refl _))).mono fun e w' ⟨b1, b2, he, hne, ho1, ho2, hb⟩ => ⟨_, he, kb_below hst hb ⟨b1, b2, rfl, ho1.ints, ho2.ints⟩⟩
        · have d56 : us 56 = (fmV nm kd p k g (.slice (some ⟨x1, 0, none⟩) szs.length szs.length) cl (.slice (some ⟨x2, 0, none⟩) lvs.length lvs.length)) := hd ⟨0, .data⟩ (by simp) rfl
          have d58 := hd ⟨2, .data⟩ (by simp) rfl
          clear hd
          obtain ⟨b1, b2, e58, hi1, hi2⟩ : FamV nm kd p k g szs cl lvs (us 58) wx := d58
          go_simp
          exact (eqFamily_same ((HX1.out.ints).below hst) ((HX2.out.ints).below hst) hi1 hi2 HLM1.out HLM2.out).mono fun e w' ⟨he, hb⟩ => ⟨_, he, kb_below hst hb rfl⟩
        · have d59 : us 59 = (.bool true) := hd ⟨3, .data⟩ (by simp) rfl
          clear hd
          go_simp
          exact kb_same hst rfl
      · intro us wx hst hd
        have d60 : us 60 = (.bool false) := hd 4 (by simp)
        clear hd
        simp only [List.drop, List.length]
        rw [d60]
        have KAx := Lib.hid (blkK hst KA.out)
        have HBx := Lib.hid (bt0 HB7.out hst (Nat.le_refl _))
        have HOSx := Lib.hid (HOS7.out.grown hst)
        have HOGx := Lib.hid (HOG7.out.grown hst)
        have HX1x := Lib.hid (HX1.out.grown hst)
        have HX2x := Lib.hid (HX2.out.grown hst)
        have KXx := Lib.hid (blkK hst KX.out)
        obtain ⟨hcX, hfX⟩ := heap_cellR KXx.out
        have hltX := blkLt KXx.out
        clear hst
        go_wp2_with fail
        -- the argument's memory is written over: the result must not be there
        refine (markFamily_any nm kd p k g x1 szs cl x2 lvs w3.heap.size 1 wx hxne HX1x.out HX2x.out l1 l2 (by omega) (by omega)).mono ?_
        rintro e w9 ⟨rfl, wm, hg1, hg2⟩
        have hn1 := HX1l.out
        have hn2 := HX2l.out
        have hn3 := HX1h.out
        have hn4 := HX2h.out
        have hsx := hg1.size
        have hxx := HBx.out.size
        have KA9 := Lib.hid ((hg2.block w.heap.size (by have := blkLt KAx.out; omega) (fun e => by have := Option.some.inj e; omega)).trans ((hg1.block w.heap.size (blkLt KAx.out) (fun e => by have := Option.some.inj e; omega)).trans KAx.out))
        have HB9 := Lib.hid ((HBx.out.trans (below_of_grownBy hg1 hxx (fun j e => by have := Option.some.inj e; omega))).trans (below_of_grownBy hg2 (by omega) (fun j e => by have := Option.some.inj e; omega)))
        have HOS9 := Lib.hid ((HOSx.out.other hg1 (fun j hj e => by have h := HhiS.out j hj; have := Option.some.inj e; omega)).other hg2 (fun j hj e => by have h := HhiS.out j hj; have := Option.some.inj e; omega))
        have HOG9 := Lib.hid ((HOGx.out.other hg1 (fun j hj e => by have h := HGl.out j hj; have := Option.some.inj e; omega)).other hg2 (fun j hj e => by have h := HGl.out j hj; have := Option.some.inj e; omega))
        have hge : ¬ (1 : Int) + (szs.length : Int) + (lvs.length : Int) < 0 := by omega
        clear hg1 hg2 hcX hfX hltX hn1 hn2 hn3 hn4 hsx hxx
        go_wp2_with fail
        refine (eqI_val HOG9.out.ints HOS9.out.ints HSL.out).mono ?_
        rintro e w10 ⟨rfl, hb10⟩
        have KA10 := Lib.hid (blkK hb10 KA9.out)
        have HB10 := Lib.hid (bt0 HB9.out hb10 (Nat.le_refl _))
        have HOS10 := Lib.hid (HOS9.out.grown hb10)
        have HOG10 := Lib.hid (HOG9.out.grown hb10)
        clear hb10
        go_wp2_with fail
        -- the result is written over: a second call must not change it
        have hSl : lS.length ≤ 1099511627776 := Nat.le_trans HZL.out (by decide)
        refine (markInt64S_any aG lS cG w5.heap.size 1 _ HOG10.out hSl (by omega) (by omega)).mono ?_
        rintro e w11 ⟨rfl, ho11, hg11⟩
        have hsz10 := HB10.out.size
        have KA11 := Lib.hid ((hg11.block w.heap.size (blkLt KA10.out) (fun e => by have h := HGl.out _ e.symm; omega)).trans KA10.out)
        have HB11 := Lib.hid (HB10.out.trans (below_row hg11 hsz10 (fun j hj => by have h := HGl.out j hj; omega)))
        have HOS11 := Lib.hid (HOS10.out.other hg11 (fun j hj e => by have h := HhiS.out j hj; have h2 := HGl.out _ e; omega))
        have HM11 := Lib.hid ho11.ints
        have hmm : ((1 : Int) + (lS.length : Int) != 1 + (lS.length : Int)) = false := by simp
        have hge2 : ¬ (1 : Int) + (lS.length : Int) < 0 := by omega
        clear ho11 hg11
        go_wp2_with fail
        refine (heldInt64S_marks HM11.out hSl (by omega) (by omega)).mono ?_
        rintro e w12 ⟨rfl, rfl⟩
        obtain ⟨hcA, hfA⟩ := heap_cellR KA11.out
        have hltA := blkLt KA11.out
        go_wp2_with fail
        refine (HTO.out _ HB11.out).mono ?_
        rintro e w13 ⟨z1, z2, rfl, -, hz1, hz2, hb13⟩
        have HB13 := Lib.hid (bt0 HB11.out hb13 (Nat.le_refl _))
        have HOS13 := Lib.hid (HOS11.out.grown hb13)
        have HM13 := Lib.hid (HM11.out.below hb13)
        have HIM2 := Lib.hid (HIM.out z1 z2 w13 hz1.ints hz2.ints)
        clear hb13 hz1 hz2 hcA hfA hltA
        go_wp2_with fail
        refine HIM2.out.mono ?_
        rintro e w14 ⟨aH, cH, lH, hlH, rfl, hoH, hb14⟩
        obtain rfl : lS = lH := hlH.symm
        have HB14 := Lib.hid (bt0 HB13.out hb14 (Nat.le_refl _))
        have HOS14 := Lib.hid (HOS13.out.grown hb14)
        have HM14 := Lib.hid (HM13.out.below hb14)
        have HOH := Lib.hid hoH
        clear hb14 hoH HIM2
        go_wp2_with fail
        refine (eqI_val HOH.out.ints HOS14.out.ints HSL.out).mono ?_
        rintro e w15 ⟨rfl, hb15⟩
        have HB15 := Lib.hid (bt0 HB14.out hb15 (Nat.le_refl _))
        have HM15 := Lib.hid (HM14.out.below hb15)
        clear hb15
        go_wp2_with fail
        refine (heldInt64S_marks HM15.out hSl (by omega) (by omega)).mono ?_
        rintro e w16 ⟨rfl, rfl⟩
        go_wp2_with fail
        go_ret
        exact ⟨rfl, HB15.out⟩
  · have hsi : (1048576 : Int) < (s.size : Int) := by omega
    go_enter Tryz.func3, Tryz.ntmps3
    go_wp2_with fail
    go_ret
    exact ⟨rfl, ba1 _ _⟩

end Go.Proofs.YtlcglclojlffgaaGreat
