import Derived.Test.YtlcglclojlffgaaGreatDoorVSpSd
import Derived.Test.YtlcglclojlffgaaGreatDoorM5
import Derived.Test.YtlcglclojlffgaaGreatDoorM4
import Derived.Test.YtlcglclojlffgaaGreatDoorM3
namespace Go.Proofs.YtlcglclojlffgaaGreatDoor
open Go.RowKit

set_option maxRecDepth 100000 in
set_option maxHeartbeats 4000000 in
theorem spPayloadSize_any {p k g : Int} {F : Fd} (h : FV p k g F) (s : ByteArray) (w : World) (hs : s.size ≤ 1048576) :
    Calls Tryz.prog 90 #[fV F, .string s] w fun e w' => e = .returned (.tuple #[.int .i64 (payN F.k s.data.toList), .int .i64 (payD F.k s.data.toList)]) ∧ Below w.heap.size w w' := by
  have HFI : Hid (∀ w : World, Calls Tryz.prog 105 #[fV F] w fun e w' => e = .returned (.bool true) ∧ Below w.heap.size w w') := Lib.hid (fun w => by have := spField_yes h.b w; rwa [h.v] at this)
  have HWD := Lib.hid (fun w => spWidth_any F h.r.toFdB w)
  have hk3 := h.ok.k3
  have hk8 := h.ok.k8
  have HBL := Lib.hid (fun w => spBestLen_any s w hs)
  obtain ⟨S, hS⟩ : ∃ S, S = s.data.toList := ⟨_, rfl⟩
  have hSl : S.length = s.size := by rw [hS]; rfl
  obtain ⟨kk, hkk⟩ : ∃ kk, kk = F.k := ⟨_, rfl⟩
  obtain ⟨P, hP⟩ : ∃ P, P = payS kk S := ⟨_, rfl⟩
  have HP := Lib.hid hP
  rw [← hS] at HBL ⊢
  rw [fV, ← hkk] at HFI HWD ⊢
  rw [← hkk] at hk3 hk8
  clear h hP hS hkk
  obtain ⟨L, hL⟩ : ∃ L, L = (lngC S).1 := ⟨_, rfl⟩
  obtain ⟨D, hD⟩ : ∃ D, D = (lngC S).2 := ⟨_, rfl⟩
  rw [← hL, ← hD] at HBL
  have hLb : 0 ≤ L ∧ L ≤ 7600 := by
    rw [hL, lngC]
    split
    · have hbd := hdC_bd _ S (Nat.le_refl _)
      have h1 := hbd.1
      have h2 := hbd.2.1
      dsimp only
      omega
    · dsimp only; omega
  obtain ⟨K, hK⟩ : ∃ K : Int, K = (kk : Int) := ⟨_, rfl⟩
  have hKb : 3 ≤ K ∧ K ≤ 8 := by omega
  have HK := Lib.hid hK
  rw [← hK] at HFI HWD ⊢
  obtain ⟨N, hN⟩ : ∃ N, (L + K - 1) / K = N := ⟨_, rfl⟩
  have hNb : 0 ≤ N ∧ N ≤ 7607 := by
    rw [← hN]
    exact ⟨Int.ediv_nonneg (by omega) (by omega), Int.le_trans (Int.ediv_le_self _ (by omega)) (by omega)⟩
  obtain ⟨M, hM⟩ : ∃ M, (if 1 < N then N else 1) = M := ⟨_, rfl⟩
  have hMb : 1 ≤ M ∧ M ≤ 7607 := by rw [← hM]; split <;> omega
  have HPe := Lib.hid (show (D = 0 ∨ D = 3) ∧ P = if D = 0 ∧ M ≤ 1500 then some M else none by
    by_cases h4 : S.length ≤ 400
    · have e1 : L = (hdC S).l := by rw [hL, lngC, if_pos h4]
      have e2 : D = 0 := by rw [hD, lngC, if_pos h4]
      have e : needS kk S = M := by
        unfold needS
        rw [← e1, ← HK.out, hN, ← hM]
        split <;> split <;> omega
      refine ⟨.inl e2, ?_⟩
      rw [HP.out, payS, e]
      by_cases hm : M ≤ 1500
      · rw [if_pos ⟨h4, hm⟩, if_pos ⟨e2, hm⟩]
      · rw [if_neg (by omega), if_neg (by omega)]
    · have e2 : D = 3 := by rw [hD, lngC, if_neg h4]
      refine ⟨.inr e2, ?_⟩
      rw [HP.out, payS, if_neg (by omega), if_neg (by omega)])
  have hkz : (K == 0) = false := by rw [beq_eq_false_iff_ne]; omega
  clear hSl hL hD hK
  have HB0 := Lib.hid (ba1 w (.cells #[.int .i64 2, .int .i64 K, .int .i64 (F.g : Int)] 121 (0, 0)))
  have HX := Lib.hid (push_at w (.cells #[.int .i64 2, .int .i64 K, .int .i64 (F.g : Int)] 121 (0, 0)))
  rcases HPe.out.1 with rfl | rfl
  · rcases Decidable.em (M ≤ 1500) with hm | hm
    · have hm' : decide ((1500 : Int) < M) = false := by simp; omega
      have HR := Lib.hid (payYes (HP.out.symm.trans (HPe.out.2.trans (if_pos ⟨rfl, hm⟩))))
      clear hm
      go_enter Tryz.func90, Tryz.ntmps90
      go_wp2_with fail
      refine (HFI.out _).mono ?_
      rintro e w2 ⟨rfl, hb2⟩
      have HB2 := Lib.hid (bt0 HB0.out hb2 (Nat.le_refl _))
      have HX2 := Lib.hid (blkK hb2 HX.out)
      clear hb2
      obtain ⟨hcA, hfA⟩ := heap_cellR HX2.out
      have z2 := blkLt HX2.out
      go_wp2_with fail
      refine (HBL.out _).mono ?_
      rintro e w3 ⟨rfl, hb3⟩
      have HB3 := Lib.hid (bt0 HB2.out hb3 (Nat.le_refl _))
      have HX3 := Lib.hid (blkK hb3 HX2.out)
      clear hb3 hcA hfA
      obtain ⟨hcA, hfA⟩ := heap_cellR HX3.out
      have z3 := blkLt HX3.out
      go_wp2_with fail
      refine (HWD.out _).mono ?_
      rintro e w4 ⟨rfl, hb4⟩
      have HB4 := Lib.hid (bt0 HB3.out hb4 (Nat.le_refl _))
      clear hb4 hcA hfA
      go_wp2_with fail
      go_ret2
      exact ⟨by rw [HR.out.1, HR.out.2]; rfl, HB4.out⟩
    · have hm' : decide ((1500 : Int) < M) = true := by simp; omega
      have HR := Lib.hid (payNo (HP.out.symm.trans (HPe.out.2.trans (if_neg (by omega)))))
      clear hm
      go_enter Tryz.func90, Tryz.ntmps90
      go_wp2_with fail
      refine (HFI.out _).mono ?_
      rintro e w2 ⟨rfl, hb2⟩
      have HB2 := Lib.hid (bt0 HB0.out hb2 (Nat.le_refl _))
      have HX2 := Lib.hid (blkK hb2 HX.out)
      clear hb2
      obtain ⟨hcA, hfA⟩ := heap_cellR HX2.out
      have z2 := blkLt HX2.out
      go_wp2_with fail
      refine (HBL.out _).mono ?_
      rintro e w3 ⟨rfl, hb3⟩
      have HB3 := Lib.hid (bt0 HB2.out hb3 (Nat.le_refl _))
      have HX3 := Lib.hid (blkK hb3 HX2.out)
      clear hb3 hcA hfA
      obtain ⟨hcA, hfA⟩ := heap_cellR HX3.out
      have z3 := blkLt HX3.out
      go_wp2_with fail
      refine (HWD.out _).mono ?_
      rintro e w4 ⟨rfl, hb4⟩
      have HB4 := Lib.hid (bt0 HB3.out hb4 (Nat.le_refl _))
      clear hb4 hcA hfA
      go_wp2_with fail
      go_ret2
      exact ⟨by rw [HR.out.1, HR.out.2]; rfl, HB4.out⟩
  · have HR := Lib.hid (payNo (HP.out.symm.trans (HPe.out.2.trans (if_neg (by omega)))))
    go_enter Tryz.func90, Tryz.ntmps90
    go_wp2_with fail
    refine (HFI.out _).mono ?_
    rintro e w2 ⟨rfl, hb2⟩
    have HB2 := Lib.hid (bt0 HB0.out hb2 (Nat.le_refl _))
    have HX2 := Lib.hid (blkK hb2 HX.out)
    clear hb2
    obtain ⟨hcA, hfA⟩ := heap_cellR HX2.out
    have z2 := blkLt HX2.out
    go_wp2_with fail
    refine (HBL.out _).mono ?_
    rintro e w3 ⟨rfl, hb3⟩
    have HB3 := Lib.hid (bt0 HB2.out hb3 (Nat.le_refl _))
    have HX3 := Lib.hid (blkK hb3 HX2.out)
    clear hb3 hcA hfA
    obtain ⟨hcA, hfA⟩ := heap_cellR HX3.out
    have z3 := blkLt HX3.out
    go_wp2_with fail
    refine (HWD.out _).mono ?_
    rintro e w4 ⟨rfl, hb4⟩
    have HB4 := Lib.hid (bt0 HB3.out hb4 (Nat.le_refl _))
    clear hb4 hcA hfA
    go_wp2_with fail
    go_ret2
    exact ⟨by rw [HR.out.1, HR.out.2]; rfl, HB4.out⟩

end Go.Proofs.YtlcglclojlffgaaGreatDoor
