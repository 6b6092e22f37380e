import Derived.Test.YtlcglclojlffgaaGreatVNumI
import Derived.Test.YtlcglclojlffgaaGreatM4
import Derived.Test.YtlcglclojlffgaaGreatM1
namespace Go.Proofs.YtlcglclojlffgaaGreat
open Go.RowKit

theorem grpsF_any (m : Nat) : ∀ (f g : Nat) (t : List UInt8), t.length ≤ f → t.length ≤ g → grpsF m f t = grpsF m g t
  | 0, 0, _, _, _ => rfl
  | 0, g + 1, [], _, _ => rfl
  | 0, g + 1, c :: l, h, _ => by simp at h
  | f + 1, 0, [], _, _ => rfl
  | f + 1, 0, c :: l, _, h => by simp at h
  | f + 1, g + 1, [], _, _ => rfl
  | f + 1, g + 1, c :: l, hf, hg => by
    obtain ⟨h1, h2⟩ := grpM_bd m
    rw [grpsF, grpsF]
    congr 1
    apply grpsF_any <;> rw [List.length_drop] <;> simp at hf hg ⊢ <;> omega
theorem numC_snoc (m : Nat) (u : List UInt8) (b : UInt8) : numC m (u ++ [b]) = numC m u * baseM m + (valC m b.toNat).toNat := by simp [numC]
theorem baseM_le (m : Nat) : 1 ≤ baseM m ∧ baseM m ≤ 256 := by unfold baseM; split <;> omega
theorem numC_bd (m : Nat) : ∀ (n : Nat) (u : List UInt8), u.length = n → numC m u < 256 ^ n
  | 0, u, hn => by
    obtain rfl := List.eq_nil_of_length_eq_zero hn
    simp [numC]
  | n + 1, u, hn => by
    rcases List.eq_nil_or_concat u with rfl | ⟨u', b, rfl⟩
    · simp at hn
    · rw [List.concat_eq_append] at hn ⊢
      rw [List.length_append] at hn
      have h1 := numC_bd m n u' (by simpa using hn)
      have h2 := valC_le m (b.toNat : Int) (by have := b.toNat_lt; omega)
      have h3 := (baseM_le m).2
      rw [numC_snoc, Nat.pow_succ]
      have h4 : numC m u' * baseM m ≤ numC m u' * 256 := Nat.mul_le_mul_left _ h3
      omega
theorem numC_low (m : Nat) (u : List UInt8) (h : u.length ≤ 3) : numC m u < 16777216 := by
  have h1 := numC_bd m _ u rfl
  have h2 : 256 ^ u.length ≤ 256 ^ 3 := Nat.pow_le_pow_right (by decide) h
  omega
theorem wrap_two {x : Int} {P V : Nat} (e : x = (P : Int)) (hP : P ≤ 4294967296) (hV : V ≤ 1000) : wrap64 (wrap64 x + (V : Int)) = ((P + V : Nat) : Int) := by
  subst e; unfold wrap64; omega
set_option maxRecDepth 100000 in
set_option maxHeartbeats 4000000 in
theorem appendSegment_any (base : Nat) (a : Option Addr) (c : Nat) (l : List Int) (m : Nat) (s : ByteArray) (w : World) (ho : OwnI w base (.slice a l.length c) l) (hb : base ≤ w.heap.size) (hl : l.length ≤ 10000) (hs : SegOk (m, s.data.toList)) :
    Calls Tryz.prog 78 #[.slice a l.length c, .agg #[.int .i64 (m : Int), .string s]] w (RetMore base w (.slice a l.length c) (l ++ segB (m, s.data.toList))) := by
  obtain ⟨hm1, hm4, hs1, hs2, hin⟩ := hs
  dsimp only at hm1 hm4 hs1 hs2 hin
  obtain ⟨S, hS⟩ : ∃ S, S = s.data.toList := ⟨_, rfl⟩
  have hSl : S.length = s.size := by rw [hS]; rfl
  rw [← hS] at hs1 hs2 hin ⊢
  rw [hSl] at hs1 hs2
  have HS := Lib.hid hS
  have HSL := Lib.hid hSl
  have HIN := Lib.hid hin
  have HO := Lib.hid ho
  have HNE : Hid (∀ b, w.heap.size ≤ b → (Value.slice a l.length c).ownBlock ≠ some b) := Lib.hid (fun b hb e => absurd (ho.hi b e) (by omega))
  clear hS hSl hin ho
  go_enter Tryz.func78, Tryz.ntmps78
  go_wp2_with fail
  refine (modeOf_any m hm1 hm4 _).mono ?_
  rintro e w2 ⟨hb2, T, r, fv, fg, fb, fw, bk, rfl, hM, hbk⟩
  have HM := Lib.hid hM
  have HB2 := Lib.hid (bt1 hb2)
  have HX2 := Lib.hid (blkK hb2 (push_at w (.cells #[.int .i64 (m : Int), .string s] 108 (0, 0))))
  obtain ⟨hcA, hfA⟩ := heap_cellR HX2.out
  have hlt2 := blkLt HX2.out
  have HBK : Hid (∀ b, bk = some b → w.heap.size ≤ b) := Lib.hid (fun b e => Nat.le_trans (by simp) (hbk b e))
  clear hb2 hM hbk
  go_wp2_with fail
  refine (appendNumber_any base a c l m 3 w2 (HO.out.grown HB2.out) (by omega) (by omega) (by omega) (by omega)).mono ?_
  rintro e w3 ⟨a3, c3, l3, hl3, rfl, hm3⟩
  have HL3 := Lib.hid hl3
  have HM3 := Lib.hid hm3
  have hk3 : w3.heap[w.heap.size]? = w2.heap[w.heap.size]? := hm3.kept _ hlt2 (HNE.out _ (Nat.le_refl _))
  have hX3 := hk3.trans HX2.out
  have hs3 := hm3.below.size
  have hll3 : l3.length ≤ 10003 := by rw [hl3, List.length_append, bitsC_len]; omega
  clear hcA hfA hm3 hl3 hk3
  obtain ⟨hcA, hfA⟩ := heap_cellR hX3
  have HX3 := Lib.hid hX3
  have hlt3 := blkLt hX3
  have hsz : w2.heap.size ≤ w3.heap.size := hs3
  clear hX3
  go_wp2_with fail
  refine (appendNumber_any base a3 c3 l3 s.size 8 w3 HM3.out.own (by omega) (by omega) (by omega) (by omega)).mono ?_
  rintro e w4 ⟨a4, c4, l4, hl4, rfl, hm4'⟩
  have HM4 := Lib.hid (HM3.out.trans hm4')
  have HL4 := Lib.hid hl4
  clear hl4 hm4' hcA hfA
  have hfm : (w4.heap[w.heap.size]? = w2.heap[w.heap.size]?) := HM4.out.kept _ hlt2 (HNE.out _ (Nat.le_refl _))
  have HX4 := Lib.hid (hfm.trans HX2.out)
  clear hfm
  have hlen := segB_len (m, S)
  have hsw := segW_le m s.size hs1
  have HSB := Lib.hid (show segB (m, S) = bitsC m 3 ++ bitsC s.size 8 ++ grpsF m s.size S by rw [segB]; dsimp only; rw [HSL.out])
  dsimp only at hlen
  rw [HSL.out] at hlen
  have HLEN := Lib.hid hlen
  clear hlen
  obtain ⟨G1, G3⟩ := grpM_bd m
  obtain ⟨G, hG⟩ : ∃ G, G = grpM m := ⟨_, rfl⟩
  have HG := Lib.hid hG
  rw [← hG] at G1 G3
  have hmg := HM.out.mg.1
  have hmb := HM.out.mb.1
  have hmv := HM.out.mv.1
  have hmw := HM.out.mw.1
  have hcg := HM.out.mg.2.1
  have hcb := HM.out.mb.2.1
  have hcv := HM.out.mv.2.1
  have hcw := HM.out.mw.2.1
  have HCg : Hid (∀ w', Calls Tryz.prog fg #[r] w' fun e w'' => e = .returned (.int .i64 (G : Int)) ∧ Below w'.heap.size w' w'') := Lib.hid (fun w' => by rw [HG.out]; exact HM.out.cg w')
  clear hG
  go_wp2_with fail
  go_loopw [0, 7, 8, 9, 10] (fun v i _ _ _ wr => ∃ (k : Nat) (a' : Option Addr) (c' : Nat) (M : List Int), k ≤ s.size ∧ i = .int .i64 k ∧ v = .slice a' M.length c' ∧ M ++ grpsF m (s.size - k) (S.drop k) = l ++ segB (m, S) ∧ ∃ w5, MoreI base w2 (.slice a l.length c) w5 (.slice a' M.length c') M ∧ Below w5.heap.size w5 wr) (fun _ i _ _ _ _ => s.size - (intOf i).toNat)
  case atStart => exact ⟨0, a4, c4, l4, Nat.zero_le _, rfl, rfl, by rw [HSB.out, HL4.out, HL3.out, Nat.sub_zero, List.drop_zero]; simp [List.append_assoc], w4, HM4.out, Below.refl _ _⟩
  case round =>
    obtain ⟨k, a', c', M, hk, rfl, rfl, hM, w5, hm5, hb5⟩ := hrel
    obtain ⟨ws, rfl⟩ : ∃ ws : World, ws = wr := ⟨_, rfl⟩
    have HMe := Lib.hid hM
    have HM5 := Lib.hid (hm5.grown hb5 (by omega))
    have hMl : M.length ≤ 16000 := by
      have h := congrArg List.length hM
      rw [List.length_append, List.length_append, HLEN.out] at h
      have := hsw
      omega
    have HXr := Lib.hid ((HM5.out.kept _ hlt2 (HNE.out _ (Nat.le_refl _))).trans HX2.out)
    have HMr := Lib.hid (HM.out.kept HM5.out.below.size (fun b e => HM5.out.kept b (HM.out.lt b e) (HNE.out b (HBK.out b e))))
    clear hM hm5 hb5
    obtain ⟨hcA, hfA⟩ := heap_cellR HXr.out
    have hlr := blkLt HXr.out
    by_cases hlt : k < s.size
    · have hki : (k : Int) < (s.size : Int) := by omega
      obtain ⟨n, hn⟩ : ∃ n, n = min G (s.size - k) := ⟨_, rfl⟩
      have hn1 : 1 ≤ n := by omega
      have hn3 : n ≤ G := by omega
      have hnk : k + n ≤ s.size := by omega
      have hmin : (if (s.size : Int) - (k : Int) < (G : Int) then (s.size : Int) - (k : Int) else (G : Int)) = (n : Int) := by split <;> omega
      have HN := Lib.hid hn
      clear hn
      go_wp2_with fail
      refine wp_region_ext (by kernel_rfl) (by kernel_rfl) ?_
      repeat (first
        | (go_big_quiet_step (fail))
        | (refine quiet_invoke0 rfl 31 "loop.example/g00879/impl.group" _ rfl T r fg (.int .i64 (G : Int)) rfl HM.out.mg (fun _ ⟨s, hs⟩ => by subst hs; exact calls_ext s (HCg.out _)) ?_; simp only [Act.put, List.setIfInBounds_toArray, List.set_cons_zero, List.set_cons_succ]))
      refine wpQuiet_nil ?_
      rintro _ ⟨s6, rfl⟩
      have HS6 := Lib.hid s6.below
      clear hcA hfA
      go_wp2_with fail
      go_loopw [9, 10] (fun v i wx => ∃ j : Nat, j ≤ n ∧ i = .int .i64 ((k + j : Nat) : Int) ∧ v = .int .i64 (numC m ((S.drop k).take j) : Nat) ∧ Below ws.heap.size ws wx) (fun _ i _ => k + n - (intOf i).toNat)
      case atStart => exact ⟨0, Nat.zero_le _, rfl, rfl, HS6.out⟩
      case round =>
        obtain ⟨j, hj, rfl, rfl, hbx⟩ := hrel
        have HBX := Lib.hid hbx
        obtain ⟨hcA, hfA⟩ := heap_cellR (blkK hbx HXr.out)
        have hlx := blkLt (blkK hbx HXr.out)
        clear hbx
        by_cases hlj : j < n
        · obtain ⟨q, hq⟩ : ∃ q, q = k + j := ⟨_, rfl⟩
          rw [← hq]
          have hqi : (q : Int) < (k : Int) + (n : Int) := by omega
          have hqs : q < s.size := by omega
          have hqsi : (q : Int) < (s.size : Int) := by omega
          obtain ⟨N, hN⟩ : ∃ N, N = numC m ((S.drop k).take j) := ⟨_, rfl⟩
          have hNb : N < 16777216 := by rw [hN]; exact numC_low m _ (by rw [List.length_take]; omega)
          have HNe := Lib.hid hN
          have hb : S[q]? = some (s[q]'hqs) := by rw [HS.out]; exact List.getElem?_eq_getElem (by simpa using hqs)
          have hmem := HIN.out _ (List.mem_of_getElem? hb)
          have hv0 := valC_ge m ((s[q]'hqs).toNat : Int) (by omega)
          have hv1 := valC_le m ((s[q]'hqs).toNat : Int) (by have := (s[q]'hqs).toNat_lt; omega)
          simp only [inM, decide_eq_true_eq] at hmem
          obtain ⟨V, hV⟩ := Int.eq_ofNat_of_zero_le hmem
          rw [hV] at hv0 hv1
          have hw8 : wrap64 ((s[q]'hqs).toNat : Int) = ((s[q]'hqs).toNat : Int) := by have := (s[q]'hqs).toNat_lt; unfold wrap64; omega
          have HCv : Hid (∀ w', Calls Tryz.prog fv #[r, .int .i64 (wrap64 ((s[q]'hqs).toNat : Int))] w' fun e w'' => e = .returned (.int .i64 (V : Int)) ∧ Below w'.heap.size w' w'') := Lib.hid (fun w' => by rw [hw8, ← hV]; exact HM.out.cv _ w')
          clear hw8
          obtain ⟨D, hD⟩ : ∃ D, D = baseM m := ⟨_, rfl⟩
          have hDb := baseM_le m
          rw [← hD] at hDb
          have HCb : Hid (∀ w', Calls Tryz.prog fb #[r] w' fun e w'' => e = .returned (.int .i64 (D : Int)) ∧ Below w'.heap.size w' w'') := Lib.hid (fun w' => by rw [hD]; exact HM.out.cb w')
          have HNS := Lib.hid (show numC m ((S.drop k).take (j + 1)) = N * D + V by
            rw [take_snoc' (z := s[q]'hqs) (by rw [List.getElem?_drop, ← hq]; exact hb), numC_snoc, ← hN, ← hD, hV]; rfl)
          rw [← hN]
          have HQ := Lib.hid hq
          clear hb hmem hv0 hV hN hD hq
          go_wp2_with fail
          refine wp_region_ext (by kernel_rfl) (by kernel_rfl) ?_
          repeat (first
            | (go_big_quiet_step (fail))
            | (refine quiet_invoke0 rfl 48 "loop.example/g00879/impl.base" _ rfl T r fb (.int .i64 (D : Int)) rfl HM.out.mb (fun _ ⟨s, hs⟩ => by subst hs; exact calls_ext s (HCb.out _)) ?_; simp only [Act.put, List.setIfInBounds_toArray, List.set_cons_zero, List.set_cons_succ])
            | (refine quiet_nil rfl 57 "loop.example/g00879/impl.value" rfl T r fv rfl HM.out.mv ?_; simp only [Act.put, List.setIfInBounds_toArray, List.set_cons_zero, List.set_cons_succ])
            | (refine quiet_invoke1 rfl 59 56 "loop.example/g00879/impl.value" _ rfl T r _ fv (.int .i64 (V : Int)) rfl rfl HM.out.mv (fun _ ⟨s, hs⟩ => by subst hs; exact calls_ext s (HCv.out _)) ?_; simp only [Act.put, List.setIfInBounds_toArray, List.set_cons_zero, List.set_cons_succ]))
          refine wpQuiet_nil ?_
          rintro _ ⟨s7, rfl⟩
          have hP : N * D ≤ 16777216 * 256 := Nat.mul_le_mul (by omega) hDb.2
          obtain ⟨P, hPe⟩ : ∃ P, P = N * D := ⟨_, rfl⟩
          rw [← hPe] at hP HNS
          have hval : wrap64 (wrap64 ((N : Int) * (D : Int)) + (V : Int)) = ((P + V : Nat) : Int) := wrap_two (by rw [hPe]; push_cast; rfl) (Nat.le_trans hP (by decide)) (by omega)
          rw [hval]
          have HBX7 := Lib.hid (bt0 HBX.out s7.below (Nat.le_refl _))
          clear hval hPe hcA hfA
          go_wp2_with fail
          have hq := HQ.out
          exact ⟨⟨j + 1, by omega, by congr 1; push_cast; omega, by rw [HNS.out], HBX7.out⟩, by simp [intOf]; omega⟩
        · obtain rfl : j = n := by omega
          have hqi : ¬ (((k + j : Nat) : Nat) : Int) < (k : Int) + (j : Int) := by omega
          have HWd := Lib.hid (HMr.out.cw j wr hn1 (by rw [← HG.out]; exact hn3) (fun b e => HBX.out.block b (HMr.out.lt b e)))
          obtain ⟨N, hN⟩ : ∃ N, N = numC m ((S.drop k).take j) := ⟨_, rfl⟩
          have hNb : N < 16777216 := by rw [hN]; exact numC_low m _ (by rw [List.length_take]; omega)
          have hWb := widM_bd m j hn1 (by omega)
          obtain ⟨W, hW⟩ : ∃ W, W = widM m j := ⟨_, rfl⟩
          rw [← hW] at HWd hWb
          have HNX := Lib.hid (show bitsC N W ++ grpsF m (s.size - (k + j)) (S.drop (k + j)) = grpsF m (s.size - k) (S.drop k) by
            obtain ⟨f, hf⟩ : ∃ f, s.size - k = f + 1 := ⟨s.size - k - 1, by omega⟩
            have hdl : (S.drop k).length = s.size - k := by rw [List.length_drop, HSL.out]
            cases hd : S.drop k with
            | nil => rw [hd] at hdl; simp at hdl; omega
            | cons c0 l0 =>
              have htk : (c0 :: l0).take (grpM m) = (c0 :: l0).take j := by
                have h1 := HN.out
                have h2 := HG.out
                rw [← hd]
                by_cases hg : grpM m ≤ s.size - k
                · rw [show j = grpM m by omega]
                · rw [List.take_of_length_le (by omega), List.take_of_length_le (by omega)]
              have hdr : (c0 :: l0).drop (grpM m) = S.drop (k + j) := by
                have h1 := HN.out
                have h2 := HG.out
                rw [← hd, List.drop_drop]
                by_cases hg : grpM m ≤ s.size - k
                · rw [show j = grpM m by omega]
                · rw [List.drop_eq_nil_of_le (by rw [HSL.out]; omega), List.drop_eq_nil_of_le (by rw [HSL.out]; omega)]
              have htl : ((c0 :: l0).take j).length = j := by rw [← hd, List.length_take, hdl]; omega
              rw [hf, grpsF, htk, htl, hdr, hN, hW, hd]
              congr 1
              apply grpsF_any <;> rw [List.length_drop, HSL.out] <;> omega)
          rw [← hN]
          clear hN hW hcA hfA
          go_wp2_with fail
          refine HWd.out.mono ?_
          rintro e w8 ⟨rfl, hb8⟩
          have HB8 := Lib.hid (bt0 HBX.out hb8 (Nat.le_refl _))
          clear hb8
          go_wp2_with fail
          have HM8 := Lib.hid (HM5.out.grown HB8.out (by omega))
          refine (appendNumber_any base a' c' M N W w8 HM8.out.own (Nat.le_trans (Nat.le_trans hb HB2.out.size) HM8.out.below.size) (by omega) (by omega) (by omega)).mono ?_
          rintro e w9 ⟨a9, c9, l9, hl9, rfl, hm9⟩
          have HM9 := Lib.hid (HM8.out.trans hm9)
          have HL9 := Lib.hid hl9
          clear hl9 hm9
          go_wp2_with fail
          exact ⟨⟨k + j, a9, c9, l9, by omega, by congr 1, rfl, by rw [HL9.out, List.append_assoc, HNX.out, HMe.out], w9, HM9.out, Below.refl _ _⟩, by simp [intOf]; omega⟩
    · have hki : ¬ (k : Int) < (s.size : Int) := by omega
      have HF := Lib.hid (show M = l ++ segB (m, S) by
        have h := HMe.out
        rw [List.drop_eq_nil_of_le (by rw [HSL.out]; omega)] at h
        have e : grpsF m (s.size - k) [] = [] := by cases (s.size - k) <;> rfl
        rwa [e, List.append_nil] at h)
      go_wp2_with fail
      refine bodyPost_ret (v := .slice a' M.length c') (by simp [results, Tryz.results78, go_sem]) rfl ?_
      exact ⟨a', c', M, HF.out, rfl, HM5.out.since HB2.out hb⟩

end Go.Proofs.YtlcglclojlffgaaGreat
