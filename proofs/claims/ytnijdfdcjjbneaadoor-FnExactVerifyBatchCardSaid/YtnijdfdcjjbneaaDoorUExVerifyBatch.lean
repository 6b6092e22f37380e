import Derived.Test.YtnijdfdcjjbneaaDoorUVerS
import Derived.Test.YtnijdfdcjjbneaaDoorUStrL
import Derived.Test.YtnijdfdcjjbneaaDoorUSess0
import Derived.Test.YtnijdfdcjjbneaaDoorUEqI
import Derived.Test.YtnijdfdcjjbneaaDoorUMarkI
namespace Go.Proofs.YtnijdfdcjjbneaaDoor
open Go.RowKit

theorem vb_len (p : ByteArray) (x1 x2 x3 x4 : Int) (ms : List ByteArray) : (vbM p x1 x2 x3 x4 ms).length ≤ 200 ∧ (vbT p x1 x2 x3 x4 ms).length ≤ 200 := by
  rcases Bool.eq_false_or_eq_true (isBatchB p x1 x2 x3 x4) with h1 | h1
  · obtain ⟨_, _, _, b4, b5, _⟩ := batch_parts h1
    have hm := zerosL_len (fun i => occ ms (serB p x1 x2 x4 i)) x3.toNat
    have ht := manyL_len (fun i => occ ms (serB p x1 x2 x4 i)) x3.toNat
    unfold vbM vbT
    by_cases h : vbC p x1 x2 x3 x4 ms = 0
    · rw [if_pos h, if_pos h]; omega
    · rw [if_neg h, if_neg h]; simp
  · obtain ⟨_, e2, e3, _⟩ := vb_not (ms := ms) h1
    rw [e2, e3]; simp
theorem eqI_same {a b : Option Addr} {zs : List Int} {c d : Nat} {w : World} (hx : IntsAt w a zs) (hy : IntsAt w b zs) (lz : zs.length ≤ 200) :
    Calls Tryd.prog 22 #[.slice a zs.length c, .slice b zs.length d] w fun e w' => e = .returned (.bool true) ∧ Below w.heap.size w w' :=
  (eqInt64S_any a b zs zs c d w hx hy (by unfold maxLen; omega) (by unfold maxLen; omega)).mono fun _ _ ⟨he, n, hw⟩ => ⟨by rw [he]; simp, by rw [hw]; exact ⟨rfl, rfl, rfl, Nat.le_refl _, fun _ _ => rfl⟩⟩

set_option maxRecDepth 100000 in
set_option maxHeartbeats 4000000 in
theorem exVerifyBatch_any (p : ByteArray) (x1 x2 x3 x4 : Int) (a : Option Addr) (ms : List ByteArray) (c : Nat) (w : World) (hx : StrsAt w a ms) (hp : p.size ≤ maxLen) (lx : ms.length ≤ maxLen) (hsz : ∀ s ∈ ms, s.size ≤ maxLen) (ht : Tab w) :
    Calls Tryd.prog 4 #[.agg #[.string p, .int .i64 x1, .int .i64 x2, .int .i64 x3, .int .i64 x4], .slice a ms.length c] w fun e w' => e = .returned (.bool true) ∧ Below w.heap.size w w' := by
  have HX := Lib.hid hx
  have HT := Lib.hid ht
  have HP := Lib.hid hp
  have HM := Lib.hid hsz
  have HLX := Lib.hid lx
  obtain ⟨lM, lT⟩ := vb_len p x1 x2 x3 x4 ms
  obtain ⟨M, hM⟩ : ∃ M, vbM p x1 x2 x3 x4 ms = M := ⟨_, rfl⟩
  obtain ⟨T, hT⟩ : ∃ T, vbT p x1 x2 x3 x4 ms = T := ⟨_, rfl⟩
  obtain ⟨F, hF⟩ : ∃ F, vbF p x1 x2 x3 x4 ms = F := ⟨_, rfl⟩
  obtain ⟨cd, hC⟩ : ∃ cd, vbC p x1 x2 x3 x4 ms = cd := ⟨_, rfl⟩
  rw [hM] at lM
  rw [hT] at lT
  have hfm := Lib.hid hM
  have hft := Lib.hid hT
  have hff := Lib.hid hF
  have hfc := Lib.hid hC
  clear hx ht hp hsz hM hT hF hC lx
  have hff' : (F != F) = false := by simp
  have hcc' : (cd != cd) = false := by simp
  go_enter Tryd.func4, Tryd.ntmps4
  go_wp2_with fail
  refine (szBatch_any p x1 x2 x3 x4 _ _ HP.out (by omega) (by omega)).mono ?_
  rintro e w1 ⟨rfl, hb1⟩
  have hA := box1 hb1
  have HB1 := Lib.hid (bt1 hb1)
  clear hb1
  have l0 : -1 ≤ leftOf 1048576 p.size ∧ leftOf 1048576 p.size ≤ 1048576 := by unfold leftOf; split <;> omega
  generalize leftOf 1048576 p.size = l at *
  obtain ⟨l1, l2⟩ := l0
  by_cases hl : l < 0
  · go_wp2_with fail
    go_ret
    exact ⟨rfl, HB1.out⟩
  · go_wp2_with fail
    refine (szStringS_any a ms c l _ (HX.out.below HB1.out) HM.out HLX.out l1 (by omega)).mono ?_
    rintro e w' ⟨r, rfl, r1, r2, rfl⟩
    by_cases hr : r < 0
    · go_wp2_with fail
      go_ret
      exact ⟨rfl, HB1.out⟩
    · obtain ⟨r3, r4⟩ := r2 (by omega)
      have lm : ms.length ≤ 1048576 := by omega
      clear r3 r4 r1 r2
      go_wp2_with fail
      refine (toBatch_any _ _ _ _ _ _).mono ?_
      rintro e w2 ⟨rfl, hb2⟩
      replace hA := boxK hb2 hA (by simp)
      have HB2 := Lib.hid (bt0 HB1.out hb2 (Nat.le_refl _))
      clear hb2
      go_wp2_with fail
      refine (toStringS_any a ms c _ (HX.out.below HB2.out) (by omega)).mono ?_
      rintro e w3 ⟨rfl, ho3, hb3⟩
      replace hA := boxK hb3 hA (by simp)
      have HB3 := Lib.hid (bt0 HB2.out hb3 (Nat.le_refl _))
      have HO3 := Lib.hid ho3.strs
      clear hb3 ho3
      go_wp2_with fail
      refine (specVerifyBatch_any p x1 x2 x3 x4 _ ms _ _ HO3.out HP.out (by omega)).mono ?_
      rw [hfm.out, hft.out, hff.out, hfc.out]
      rintro e w4 ⟨aM, cM, aT, cT, rfl, htw⟩
      replace hA := boxK (htw.2.2.2) hA (by simp)
      have HB4 := Lib.hid (bt0 HB3.out htw.2.2.2 (Nat.le_refl _))
      have HM4 := Lib.hid htw.1
      have HT4 := Lib.hid htw.2.1
      have HMh := Lib.hid htw.1.hi
      have HTh := Lib.hid htw.2.1.hi
      have hw4 : w.heap.size < w4.heap.size := boxLt hA (by simp)
      clear htw
      go_wp2_with fail
      -- the argument's own copy
      refine (toStringS_any a ms c _ (HX.out.below HB4.out) (by omega)).mono ?_
      rintro e w5 ⟨rfl, ho5, hb5⟩
      replace hA := boxK hb5 hA (by simp)
      have HB5 := Lib.hid (bt0 HB4.out hb5 (Nat.le_refl _))
      have HM5 := Lib.hid (HM4.out.grown hb5)
      have HT5 := Lib.hid (HT4.out.grown hb5)
      have HX5 := Lib.hid ho5
      clear hb5 ho5
      go_wp2_with fail
      refine (toBatch_any _ _ _ _ _ _).mono ?_
      rintro e w6 ⟨rfl, hb6⟩
      replace hA := boxK hb6 hA (by simp)
      have HB6 := Lib.hid (bt0 HB5.out hb6 (Nat.le_refl _))
      have HM6 := Lib.hid (HM5.out.grown hb6)
      have HT6 := Lib.hid (HT5.out.grown hb6)
      have HX6 := Lib.hid (HX5.out.grown hb6)
      have hw6 : w4.heap.size < w6.heap.size := HX6.out.hi _ rfl
      clear hb6
      go_wp2_with fail
      refine (verifyBatch_any p x1 x2 x3 x4 _ ms _ _ HX6.out.strs HP.out (by omega) HM.out (HT.out.next HB6.out)).mono ?_
      rw [hfm.out, hft.out, hff.out, hfc.out]
      rintro e w7 ⟨gM, dM, gT, dT, rfl, htw⟩
      replace hA := boxK (htw.2.2.2) hA (by simp)
      have HB7 := Lib.hid (bt0 HB6.out htw.2.2.2 (Nat.le_refl _))
      have HM7 := Lib.hid (HM6.out.grown htw.2.2.2)
      have HT7 := Lib.hid (HT6.out.grown htw.2.2.2)
      have HX7 := Lib.hid (HX6.out.grown htw.2.2.2)
      have HG7 := Lib.hid htw.1
      have HK7 := Lib.hid htw.2.1
      have HGl := Lib.hid htw.1.lo
      have HKl := Lib.hid htw.2.1.lo
      have HGK := Lib.hid htw.2.2.1
      clear htw
      go_wp2_with fail
      refine (eqI_same HG7.out.ints HM7.out.ints lM).mono ?_
      rintro e w8 ⟨rfl, hb8⟩
      replace hA := boxK hb8 hA (by simp)
      have HB8 := Lib.hid (bt0 HB7.out hb8 (Nat.le_refl _))
      have HM8 := Lib.hid (HM7.out.grown hb8)
      have HT8 := Lib.hid (HT7.out.grown hb8)
      have HX8 := Lib.hid (HX7.out.grown hb8)
      have HG8 := Lib.hid (HG7.out.grown hb8)
      have HK8 := Lib.hid (HK7.out.grown hb8)
      clear hb8
      go_wp2_with fail
      refine (eqI_same HK8.out.ints HT8.out.ints lT).mono ?_
      rintro e w9 ⟨rfl, hb9⟩
      replace hA := boxK hb9 hA (by simp)
      have HB9 := Lib.hid (bt0 HB8.out hb9 (Nat.le_refl _))
      have HM9 := Lib.hid (HM8.out.grown hb9)
      have HT9 := Lib.hid (HT8.out.grown hb9)
      have HX9 := Lib.hid (HX8.out.grown hb9)
      have HG9 := Lib.hid (HG8.out.grown hb9)
      have HK9 := Lib.hid (HK8.out.grown hb9)
      clear hb9
      go_wp2_with fail
      -- the argument has not turned
      refine (toStringS_any a ms c _ (HX.out.below HB9.out) (by omega)).mono ?_
      rintro e w10 ⟨rfl, ho10, hb10⟩
      replace hA := boxK hb10 hA (by simp)
      have HB10 := Lib.hid (bt0 HB9.out hb10 (Nat.le_refl _))
      have HM10 := Lib.hid (HM9.out.grown hb10)
      have HT10 := Lib.hid (HT9.out.grown hb10)
      have HX10 := Lib.hid (HX9.out.grown hb10)
      have HG10 := Lib.hid (HG9.out.grown hb10)
      have HK10 := Lib.hid (HK9.out.grown hb10)
      have HO10 := Lib.hid ho10.strs
      clear hb10 ho10
      go_wp2_with fail
      refine (eqStringS_any _ _ ms _ _ _ HX10.out.strs HO10.out HLX.out).mono ?_
      rintro e w11 ⟨rfl, hb11⟩
      replace hA := boxK hb11 hA (by simp)
      have HB11 := Lib.hid (bt0 HB10.out hb11 (Nat.le_refl _))
      have HM11 := Lib.hid (HM10.out.grown hb11)
      have HT11 := Lib.hid (HT10.out.grown hb11)
      have HX11 := Lib.hid (HX10.out.grown hb11)
      have HG11 := Lib.hid (HG10.out.grown hb11)
      have HK11 := Lib.hid (HK10.out.grown hb11)
      clear hb11
      go_wp2_with fail
      -- the argument is written over
      refine (markStringS_any _ ms _ _ 1 _ HX11.out (by omega) (by omega) (by omega)).mono ?_
      rintro e w12 ⟨rfl, hg12'⟩
      have hg12 : w11.grownBy w12 (some w4.heap.size) := hg12'
      clear hg12'
      replace hA := boxG hg12 hA (fun e => by have := Option.some.inj e; omega) (by simp)
      have HB12 := Lib.hid (HB11.out.trans (below_of_grownBy hg12 HB11.out.size (fun k hk => by have := Option.some.inj hk; omega)))
      have HM12 := Lib.hid (HM11.out.other hg12 (fun k hk e => by have h1 := Option.some.inj e; have h2 := HMh.out k hk; omega))
      have HT12 := Lib.hid (HT11.out.other hg12 (fun k hk e => by have h1 := Option.some.inj e; have h2 := HTh.out k hk; omega))
      have HG12 := Lib.hid (HG11.out.other hg12 (fun k hk e => by have h1 := Option.some.inj e; have h2 := HGl.out k hk; omega))
      have HK12 := Lib.hid (HK11.out.other hg12 (fun k hk e => by have h1 := Option.some.inj e; have h2 := HKl.out k hk; omega))
      clear hg12
      go_wp2_with fail
      refine (eqI_same HG12.out.ints HM12.out.ints lM).mono ?_
      rintro e w13 ⟨rfl, hb13⟩
      replace hA := boxK hb13 hA (by simp)
      have HB13 := Lib.hid (bt0 HB12.out hb13 (Nat.le_refl _))
      have HM13 := Lib.hid (HM12.out.grown hb13)
      have HT13 := Lib.hid (HT12.out.grown hb13)
      have HG13 := Lib.hid (HG12.out.grown hb13)
      have HK13 := Lib.hid (HK12.out.grown hb13)
      clear hb13
      go_wp2_with fail
      refine (eqI_same HK13.out.ints HT13.out.ints lT).mono ?_
      rintro e w14 ⟨rfl, hb14⟩
      replace hA := boxK hb14 hA (by simp)
      have HB14 := Lib.hid (bt0 HB13.out hb14 (Nat.le_refl _))
      have HM14 := Lib.hid (HM13.out.grown hb14)
      have HT14 := Lib.hid (HT13.out.grown hb14)
      have HG14 := Lib.hid (HG13.out.grown hb14)
      have HK14 := Lib.hid (HK13.out.grown hb14)
      clear hb14
      go_wp2_with fail
      -- the results are written over
      refine (markInt64S_any _ M _ _ 1 _ HG14.out (by omega) (by omega) (by omega)).mono ?_
      rintro e w15 ⟨rfl, ho15, hg15⟩
      replace hA := boxG hg15 hA (fun e => by have := HGl.out _ e; omega) (by simp)
      have HB15 := Lib.hid (HB14.out.trans (below_of_grownBy hg15 HB14.out.size (fun k hk => by have := HGl.out _ hk; omega)))
      have HM15 := Lib.hid (HM14.out.other hg15 (fun k hk e => by have h1 := HGl.out _ e; have h2 := HMh.out k hk; omega))
      have HT15 := Lib.hid (HT14.out.other hg15 (fun k hk e => by have h1 := HGl.out _ e; have h2 := HTh.out k hk; omega))
      have HK15 := Lib.hid (HK14.out.other hg15 (fun k hk e => HGK.out k e hk))
      have HG15 := Lib.hid ho15
      clear hg15 ho15
      go_wp2_with fail
      refine (markInt64S_any _ T _ _ (1 + M.length) _ HK15.out (by omega) (by omega) (by omega)).mono ?_
      rintro e w16 ⟨rfl, ho16, hg16⟩
      replace hA := boxG hg16 hA (fun e => by have := HKl.out _ e; omega) (by simp)
      have HB16 := Lib.hid (HB15.out.trans (below_of_grownBy hg16 HB15.out.size (fun k hk => by have := HKl.out _ hk; omega)))
      have HM16 := Lib.hid (HM15.out.other hg16 (fun k hk e => by have h1 := HKl.out _ e; have h2 := HMh.out k hk; omega))
      have HT16 := Lib.hid (HT15.out.other hg16 (fun k hk e => by have h1 := HKl.out _ e; have h2 := HTh.out k hk; omega))
      have hlm : (marks 1 M.length).length = M.length := marks_len _ _
      have HG16 := Lib.hid (OwnI.other HG15.out hg16 (fun k hk e => HGK.out k hk e)).ints
      have HK16 := Lib.hid ho16.ints
      clear hg16 ho16 hlm
      have hmm : ((1 : Int) + ↑M.length + ↑T.length != 1 + ↑M.length + ↑T.length) = false := by simp
      go_wp2_with fail
      refine (heldInt64S_marks HG16.out (by omega) (by omega) (by omega)).mono ?_
      rintro e w17 ⟨rfl, rfl⟩
      go_wp2_with fail
      refine (heldInt64S_marks HK16.out (by omega) (by omega) (by omega)).mono ?_
      rintro e w17 ⟨rfl, rfl⟩
      go_wp2_with fail
      -- a second call
      refine (toBatch_any _ _ _ _ _ _).mono ?_
      rintro e w17 ⟨rfl, hb17⟩
      have HB17 := Lib.hid (bt0 HB16.out hb17 (Nat.le_refl _))
      have HM17 := Lib.hid (HM16.out.grown hb17)
      have HT17 := Lib.hid (HT16.out.grown hb17)
      have HG17 := Lib.hid (HG16.out.below hb17)
      have HK17 := Lib.hid (HK16.out.below hb17)
      clear hb17 hA
      go_wp2_with fail
      refine (toStringS_any a ms c _ (HX.out.below HB17.out) (by omega)).mono ?_
      rintro e w18 ⟨rfl, ho18, hb18⟩
      have HB18 := Lib.hid (bt0 HB17.out hb18 (Nat.le_refl _))
      have HM18 := Lib.hid (HM17.out.grown hb18)
      have HT18 := Lib.hid (HT17.out.grown hb18)
      have HG18 := Lib.hid (HG17.out.below hb18)
      have HK18 := Lib.hid (HK17.out.below hb18)
      have HO18 := Lib.hid ho18.strs
      clear hb18 ho18
      go_wp2_with fail
      refine (verifyBatch_any p x1 x2 x3 x4 _ ms _ _ HO18.out HP.out (by omega) HM.out (HT.out.next HB18.out)).mono ?_
      rw [hfm.out, hft.out, hff.out, hfc.out]
      rintro e w19 ⟨hM, eM, hT, eT, rfl, htw⟩
      have HB19 := Lib.hid (bt0 HB18.out htw.2.2.2 (Nat.le_refl _))
      have HM19 := Lib.hid (HM18.out.grown htw.2.2.2)
      have HT19 := Lib.hid (HT18.out.grown htw.2.2.2)
      have HG19 := Lib.hid (HG18.out.below htw.2.2.2)
      have HK19 := Lib.hid (HK18.out.below htw.2.2.2)
      have HP19 := Lib.hid htw.1.ints
      have HQ19 := Lib.hid htw.2.1.ints
      clear htw
      go_wp2_with fail
      refine (eqI_same HP19.out HM19.out.ints lM).mono ?_
      rintro e w20 ⟨rfl, hb20⟩
      have HB20 := Lib.hid (bt0 HB19.out hb20 (Nat.le_refl _))
      have HT20 := Lib.hid (HT19.out.grown hb20)
      have HG20 := Lib.hid (HG19.out.below hb20)
      have HK20 := Lib.hid (HK19.out.below hb20)
      have HQ20 := Lib.hid (HQ19.out.below hb20)
      clear hb20
      go_wp2_with fail
      refine (eqI_same HQ20.out HT20.out.ints lT).mono ?_
      rintro e w21 ⟨rfl, hb21⟩
      have HB21 := Lib.hid (bt0 HB20.out hb21 (Nat.le_refl _))
      have HG21 := Lib.hid (HG20.out.below hb21)
      have HK21 := Lib.hid (HK20.out.below hb21)
      clear hb21
      go_wp2_with fail
      refine (heldInt64S_marks HG21.out (by omega) (by omega) (by omega)).mono ?_
      rintro e w22 ⟨rfl, rfl⟩
      go_wp2_with fail
      refine (heldInt64S_marks HK21.out (by omega) (by omega) (by omega)).mono ?_
      rintro e w22 ⟨rfl, rfl⟩
      go_wp2_with fail
      go_ret
      exact ⟨rfl, HB21.out⟩

end Go.Proofs.YtnijdfdcjjbneaaDoor
