import Derived.Test.YtlcglclojlffgaaGreatVSpSi
namespace Go.Proofs.YtlcglclojlffgaaGreat
open Go.RowKit

theorem spCap_any (n : Nat) (h1 : 1 ≤ n) (h2 : n ≤ 1500) (w : World) :
    Calls Tryz.prog 55 #[.int .i64 (n : Int)] w fun e w' => e = .returned (.bool true) ∧ Below w.heap.size w w' := by
  have HI := Lib.hid (fun w => spIn_below (w := w) (show inB (n : Int) 1 1500 = true from inB_iff.2 (by omega)))
  go_enter Tryz.func55, Tryz.ntmps55
  go_wp2_with fail
  refine (HI.out _).mono ?_
  rintro e w1 ⟨rfl, hb⟩
  have HB := Lib.hid hb
  clear hb
  go_wp2_with fail
  go_ret
  exact ⟨rfl, HB.out⟩

set_option maxRecDepth 100000 in
set_option maxHeartbeats 2000000 in
theorem spPay_any {p k g : Int} {F : Fd} (h : FV p k g F) (s : ByteArray) (d : Nat) (w : World) (hs : s.size ≤ 1048576) (h1 : 1 ≤ d) (h2 : d ≤ 1500) :
    Calls Tryz.prog 26 #[fV F, .string s, .int .i64 (d : Int)] w (RetLC w (payE F.k d s.data.toList) (payC F.k d s.data.toList)) := by
  have HFI : Hid (∀ w : World, Calls Tryz.prog 54 #[fV F] w fun e w' => e = .returned (.bool true) ∧ Below w.heap.size w w') := Lib.hid (fun w => by have := spField_yes h.b w; rwa [h.v] at this)
  have HWD := Lib.hid (fun w => spWidth_any F h.r.toFdB w)
  have hk8 := h.ok.k8
  have hk3 := h.ok.k3
  have HCP := Lib.hid (fun w => spCap_any d h1 h2 w)
  have HMS := Lib.hid (fun w => spMsg_any s w hs)
  have hSl : s.data.toList.length = s.size := rfl
  obtain ⟨S, hS⟩ : ∃ S, S = s.data.toList := ⟨_, rfl⟩
  rw [← hS] at HMS hSl ⊢
  obtain ⟨kk, hkk⟩ : ∃ kk, kk = F.k := ⟨_, rfl⟩
  rw [fV, ← hkk] at HFI HWD ⊢
  rw [← hkk] at hk8 hk3
  obtain ⟨m1, m2, m3⟩ := msgB_le S
  have hdk : d * kk ≤ 1500 * 8 := Nat.mul_le_mul h2 hk8
  obtain ⟨X, hX⟩ : ∃ X, X = d * kk := ⟨_, rfl⟩
  have hXi : (d : Int) * (kk : Int) = (X : Int) := by rw [hX]; push_cast; rfl
  have HPC := Lib.hid (show payC kk d S = if S.length ≤ 400 ∧ X ≤ 8192 ∧ (hdC S).l ≤ (X : Int) then 0 else 3 by rw [payC, hX])
  have HPE := Lib.hid (show payE kk d S = if payC kk d S = 0 then elemsC kk (fillC (msgB S) X) else [] by rw [payE, hX])
  rw [← hX] at hdk
  clear h hS hkk hX
  obtain ⟨E, hE⟩ : ∃ E, E = payE kk d S := ⟨_, rfl⟩
  obtain ⟨cd, hcd⟩ : ∃ cd, cd = payC kk d S := ⟨_, rfl⟩
  rw [← hE, ← hcd] at HPE
  rw [← hcd] at HPC
  rw [← hE, ← hcd]
  clear hE hcd
  have hx := push_at w (.cells #[.int .i64 2, .int .i64 (kk : Int), .int .i64 (F.g : Int)] 30 (0, 0))
  have HB0 := Lib.hid (ba1 w (.cells #[.int .i64 2, .int .i64 (kk : Int), .int .i64 (F.g : Int)] 30 (0, 0)))
  obtain ⟨w1, hw1⟩ : ∃ w1, w1 = w.alloc (.cells #[.int .i64 2, .int .i64 (kk : Int), .int .i64 (F.g : Int)] 30 (0, 0)) := ⟨_, rfl⟩
  have HW1 := Lib.hid hw1
  rw [← hw1] at hx HB0
  have HX := Lib.hid hx
  clear hx hw1
  go_enter Tryz.func26, Tryz.ntmps26
  go_wp2_with fail
  rw [← HW1.out]
  refine (HFI.out _).mono ?_
  rintro e w2 ⟨rfl, hb2⟩
  have HB2 := Lib.hid (bt0 HB0.out hb2 (Nat.le_refl _))
  have K2 := Lib.hid (blkK hb2 HX.out)
  clear hb2
  go_wp2_with fail
  refine (HCP.out _).mono ?_
  rintro e w3 ⟨rfl, hb3⟩
  have HB3 := Lib.hid (bt0 HB2.out hb3 (Nat.le_refl _))
  have K3 := Lib.hid (blkK hb3 K2.out)
  obtain ⟨hcA, hfA⟩ := heap_cellR K3.out
  have hltA := blkLt K3.out
  clear hb3
  go_wp2_with fail
  refine (HWD.out _).mono ?_
  rintro e w4 ⟨rfl, hb4⟩
  have HB4 := Lib.hid (bt0 HB3.out hb4 (Nat.le_refl _))
  clear hb4 hcA hfA hltA
  go_wp2_with fail
  refine (HMS.out _).mono ?_
  rintro e w5 ⟨a5, c5, l5, hl5, rfl, ho5, hb5⟩
  have HL5 := Lib.hid hl5
  have HO5 := Lib.hid ho5
  have HB5 := Lib.hid (bt0 HB4.out hb5 (Nat.le_refl _))
  have hsz := HB4.out.size
  clear hl5 ho5 hb5
  by_cases hs4 : S.length ≤ 400
  · rw [wrC, if_pos hs4]
    have HL6 := Lib.hid (show l5 = msgB S by rw [HL5.out, wrB, if_pos hs4])
    have hll : (l5.length : Int) = (hdC S).l := by rw [HL6.out]; exact m1
    have hl0 : l5.length ≤ 7600 := by omega
    obtain ⟨len, hlen⟩ : ∃ len, len = l5.length := ⟨_, rfl⟩
    have HLEN := Lib.hid hlen
    rw [← hlen] at hl0 hll ⊢
    by_cases hX8 : X ≤ 8192
    · have hx8 : ¬ (8192 : Int) < (X : Int) := by omega
      by_cases hlx : len ≤ X
      · have hlxi : ¬ (X : Int) < (len : Int) := by omega
        have HC0 := Lib.hid (show cd = 0 by rw [HPC.out, if_pos ⟨hs4, hX8, by omega⟩])
        have HE0 := Lib.hid (show E = elemsC kk (fillC (msgB S) X) by rw [HPE.out, if_pos HC0.out])
        have HFL := Lib.hid (fun w' (hb : Below w5.heap.size w5 w') => spFill_any a5 l5 len c5 X w' HLEN.out (HO5.out.ints.below hb) HO5.out.slc hX8 (by rw [← HLEN.out]; exact hlx))
        have HBT := Lib.hid (show Bits (fillC l5 X) by rw [HL6.out]; exact fillC_bits (msgB_bits S) X)
        have HFLL := Lib.hid (show (fillC l5 X).length = X from fillC_len _ _ (by rw [← HLEN.out]; exact hlx))
        obtain ⟨fl, hfl⟩ : ∃ fl, fl = fillC l5 X := ⟨_, rfl⟩
        rw [← hfl] at HFL HBT HFLL
        have HFE := Lib.hid (show E = elemsC kk fl by rw [HE0.out, hfl, HL6.out])
        clear hll hlen hfl
        go_wp2_with fail
        refine (HFL.out _ (Below.refl _ _)).mono ?_
        rintro e w6 ⟨a6, c6, rfl, ho6, hb6⟩
        have HO6 := Lib.hid ho6
        have HB6 := Lib.hid (bt0 HB5.out hb6 (Nat.le_refl _))
        clear ho6 hb6
        go_wp2_with fail
        refine (spElems_any a6 fl _ c6 kk w6 rfl HO6.out.ints HBT.out (by rw [HFLL.out]; omega) (by omega) hk8).mono ?_
        rintro e w7 ⟨a7, c7, rfl, ho7, hb7⟩
        have HO7 := Lib.hid ho7
        have HB7 := Lib.hid (bt0 HB6.out hb7 (Nat.le_refl _))
        have hsz6 := HB6.out.size
        clear ho7 hb7
        rw [← HFE.out] at HO7 ⊢
        go_wp2_with fail
        go_ret2
        exact ⟨a7, c7, E, rfl, by rw [HC0.out]; rfl, HO7.out.weak hsz6, HB7.out⟩
      · have hlxi : (X : Int) < (len : Int) := by omega
        have HC0 := Lib.hid (show cd = 3 by rw [HPC.out, if_neg]; rintro ⟨-, -, h⟩; omega)
        have HE0 := Lib.hid (show E = [] by rw [HPE.out, if_neg (by rw [HC0.out]; decide)])
        clear hll hlen
        go_wp2_with fail
        go_ret2
        exact ⟨none, 0, [], HE0.out.symm, by rw [HC0.out]; rfl, OwnI.none _ _, HB5.out⟩
    · have hx8 : (8192 : Int) < (X : Int) := by omega
      have HC0 := Lib.hid (show cd = 3 by rw [HPC.out, if_neg]; rintro ⟨-, h, -⟩; omega)
      have HE0 := Lib.hid (show E = [] by rw [HPE.out, if_neg (by rw [HC0.out]; decide)])
      clear hll hlen
      go_wp2_with fail
      go_ret2
      exact ⟨none, 0, [], HE0.out.symm, by rw [HC0.out]; rfl, OwnI.none _ _, HB5.out⟩
  · rw [wrC, if_neg hs4]
    have HC0 := Lib.hid (show cd = 3 by rw [HPC.out, if_neg]; rintro ⟨h, -, -⟩; exact hs4 h)
    have HE0 := Lib.hid (show E = [] by rw [HPE.out, if_neg (by rw [HC0.out]; decide)])
    go_wp2_with fail
    go_ret2
    exact ⟨none, 0, [], HE0.out.symm, by rw [HC0.out]; rfl, OwnI.none _ _, HB5.out⟩

end Go.Proofs.YtlcglclojlffgaaGreat
