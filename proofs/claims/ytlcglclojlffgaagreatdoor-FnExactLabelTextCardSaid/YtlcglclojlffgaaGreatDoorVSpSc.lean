import Derived.Test.YtlcglclojlffgaaGreatDoorM5
import Derived.Test.YtlcglclojlffgaaGreatDoorM3
namespace Go.Proofs.YtlcglclojlffgaaGreatDoor
open Go.RowKit

theorem infoL : (Tryz.prog.info? 183).map (fun i => (i.zero, i.size, i.bytes)) = some (some (.agg #[.int .i64 0, .int .i64 0, .int .i64 0, .int .i64 0]), 4, 32) := by kernel_rfl
theorem make_cl (n : Nat) (hn : n ≤ 100000) (w : World) :
    (Instr.makeSlice 184 (.int .i64 (n : Int)) (.int .i64 (n : Int))).run Tryz.prog w = .ok (.slice (some ⟨w.heap.size, 0, none⟩) n n) (w.alloc (.cells (madeCells #[.int .i64 0, .int .i64 0, .int .i64 0, .int .i64 0] (n * 4)) 183)) := by
  obtain ⟨i0, hi, hz0, hz1, hz2⟩ := info_parts infoL
  have := run_make (P := Tryz.prog) w 184 183 i0 _ Tryz.underlying184 hi hz0 .i64 .i64 n n (by omega) (Int.le_refl _) (by rw [hz2]; omega) (by omega)
  rw [hz1] at this
  simpa [Value.cells] using this
theorem TabAt.made (w : World) (n : Nat) : TabAt (w.alloc (.cells (madeCells #[.int .i64 0, .int .i64 0, .int .i64 0, .int .i64 0] (n * 4)) 183)) w.heap.size n (fun _ => chZ) := by
  refine ⟨_, _, push_at _ _, size_madeCells _ _, fun i hi => ⟨?_, ?_, ?_, ?_⟩⟩
  all_goals exact made_four _ _ _ (by omega)
/-- the table while the cell k is made -/
def tabS (s : List UInt8) (k : Nat) (cur : Ch) (i : Nat) : Ch := if i = k then cur else tabF s (k + 1) i
theorem tabS_start (s : List UInt8) (k i : Nat) : tabS s k chZ i = tabF s (k + 1) i := by
  unfold tabS tabF
  by_cases e : i = k
  · rw [if_pos e, if_pos (by omega)]
  · rw [if_neg e]
theorem tabS_end (s : List UInt8) (k i : Nat) : tabS s k (hdC (s.drop k)) i = tabF s k i := by
  unfold tabS tabF
  by_cases e : i = k
  · subst e; rw [if_pos rfl, if_neg (by omega)]
  · rw [if_neg e]
    by_cases h : i < k
    · rw [if_pos h, if_pos (by omega)]
    · rw [if_neg h, if_neg (by omega)]

set_option maxRecDepth 100000 in
set_option maxHeartbeats 4000000 in
theorem spTable_any (s : ByteArray) (w : World) (hs : s.size ≤ 400) :
    Calls Tryz.prog 121 #[.string s] w fun e w' => e = .returned (.slice (some ⟨w.heap.size, 0, none⟩) (s.size + 1) (s.size + 1)) ∧ TabAt w' w.heap.size (s.size + 1) (tabF s.data.toList 0) ∧ Below w.heap.size w w' := by
  have hmk := make_cl (s.size + 1) (by omega)
  push_cast at hmk
  obtain ⟨S, hS⟩ : ∃ S, S = s.data.toList := ⟨_, rfl⟩
  have hSl : S.length = s.size := by rw [hS]; rfl
  have HS := Lib.hid hS
  have HSL := Lib.hid hSl
  have HT0 : Hid (TabAt (w.alloc (.cells (madeCells #[.int .i64 0, .int .i64 0, .int .i64 0, .int .i64 0] ((s.size + 1) * 4)) 183)) w.heap.size (s.size + 1) (tabF S s.size)) := Lib.hid ((TabAt.made w (s.size + 1)).like (fun i hi => by
    unfold tabF
    by_cases h : i < s.size
    · rw [if_pos h]
    · rw [if_neg h, List.drop_eq_nil_of_le (by omega)]; rfl))
  rw [← hS]
  clear hS hSl
  go_enter Tryz.func121, Tryz.ntmps121
  go_wp2_with fail
  clear hmk
  go_loopw [5, 6, 7, 8, 9, 10] (fun a _ _ _ _ _ wr => ∃ k : Nat, k ≤ s.size ∧ a = .int .i64 ((k : Int) - 1) ∧ TabAt wr w.heap.size (s.size + 1) (tabF S k) ∧ Below w.heap.size w wr) (fun a _ _ _ _ _ _ => (intOf a + 1).toNat)
  case atStart => exact ⟨s.size, Nat.le_refl _, rfl, HT0.out, ba1 _ _⟩
  case round =>
    obtain ⟨k, hk, rfl, ht, hb⟩ := hrel
    have HT := Lib.hid ht
    have HB := Lib.hid hb
    clear ht hb
    obtain ⟨wo, rfl⟩ : ∃ wo : World, wo = wr := ⟨_, rfl⟩
    rcases k with - | k
    · have hdec : decide ((0 : Int) ≤ ((0 : Nat) : Int) - 1) = false := by decide
      go_wp2_with fail
      go_ret
      exact ⟨rfl, HT.out, HB.out⟩
    · have hdec : decide ((0 : Int) ≤ ((k + 1 : Nat) : Int) - 1) = true := by simp
      have hki : ((k + 1 : Nat) : Int) - 1 = (k : Int) := by omega
      rw [hki] at hdec ⊢
      have hkn : k < s.size := by omega
      obtain ⟨cl, hcl⟩ : ∃ cl, cl = S.drop k := ⟨_, rfl⟩
      obtain ⟨l, hl⟩ : ∃ l, l = S.drop (k + 1) := ⟨_, rfl⟩
      obtain ⟨c, hcb⟩ : ∃ c, S[k]? = some c := ⟨_, List.getElem?_eq_getElem (by rw [HSL.out]; exact hkn)⟩
      have HCL := Lib.hid (show cl = c :: l by
        rw [hcl, hl]
        obtain ⟨hk', e⟩ := List.getElem?_eq_some_iff.1 hcb
        rw [List.drop_eq_getElem_cons hk', e])
      have hcll : cl.length = s.size - k := by rw [hcl, List.length_drop, HSL.out]
      have hll : l.length = s.size - (k + 1) := by rw [hl, List.length_drop, HSL.out]
      have HCLL := Lib.hid hcll
      have HLL := Lib.hid hll
      have HCLe := Lib.hid hcl
      have HLe := Lib.hid hl
      have HT1 := Lib.hid (HT.out.like (fun i _ => tabS_start S k i))
      clear hcl hl hcb hcll hll HT
      go_wp2_with fail
      go_loopw [6, 7, 8, 9, 10] (fun fo i _ _ _ wr => ∃ m : Nat, 1 ≤ m ∧ m ≤ 5 ∧ i = .int .i64 m ∧ fo = .bool (!decide ((modC cl (tabC l) (m - 1)).c = 0)) ∧ TabAt wr w.heap.size (s.size + 1) (tabS S k (modC cl (tabC l) (m - 1))) ∧ Below w.heap.size w wr) (fun _ i _ _ _ _ => 5 - (intOf i).toNat)
      case atStart => exact ⟨1, by omega, by omega, rfl, rfl, HT1.out, HB.out⟩
      case round =>
        obtain ⟨m, hm1, hm5, rfl, rfl, ht, hb⟩ := hrel
        have HT2 := Lib.hid ht
        have HB2 := Lib.hid hb
        clear ht hb
        obtain ⟨wp, rfl⟩ : ∃ wp : World, wp = wr := ⟨_, rfl⟩
        by_cases hlt : m ≤ 4
        · have hdec : decide ((m : Int) ≤ 4) = true := by simp; omega
          go_wp2_with fail
          go_loopw [6, 8, 9, 10] (fun fo i _ _ wr => ∃ n : Nat, 1 ≤ n ∧ n ≤ runL m cl + 1 ∧ i = .int .i64 n ∧ fo = .bool (!decide ((tryC (tabC l) m (n - 1) (modC cl (tabC l) (m - 1))).c = 0)) ∧ TabAt wr w.heap.size (s.size + 1) (tabS S k (tryC (tabC l) m (n - 1) (modC cl (tabC l) (m - 1)))) ∧ Below w.heap.size w wr) (fun _ i _ _ _ => runL m cl + 1 - (intOf i).toNat)
          case atStart => exact ⟨1, by omega, by omega, rfl, rfl, HT2.out, HB2.out⟩
          case round =>
            obtain ⟨n, hn1, hnR, rfl, rfl, ht, hb⟩ := hrel
            have HT3 := Lib.hid ht
            have HB3 := Lib.hid hb
            obtain ⟨hR1, hR2⟩ := runL_le m cl
            rw [HCLL.out] at hR1
            have HRI := Lib.hid (runL_in m cl)
            have HRO := Lib.hid (runL_out m cl)
            have HMS := Lib.hid (show modC cl (tabC l) m = tryC (tabC l) m (runL m cl) (modC cl (tabC l) (m - 1)) by
              obtain ⟨j, rfl⟩ : ∃ j, m = j + 1 := ⟨m - 1, by omega⟩
              rw [modC]; rfl)
            obtain ⟨R, hRe⟩ : ∃ R, R = runL m cl := ⟨_, rfl⟩
            rw [← hRe] at hnR hR1 hR2 HRI HRO HMS
            have HRe := Lib.hid hRe
            clear ht hb hRe
            by_cases hln : n ≤ R
            · obtain ⟨q, hq⟩ : ∃ q, q = k + n := ⟨_, rfl⟩
              obtain ⟨p, hp⟩ : ∃ p, p = k + (n - 1) := ⟨_, rfl⟩
              have hqi : (k : Int) + (n : Int) = (q : Int) := by omega
              have hqp : (q : Int) - 1 = (p : Int) := by omega
              have hqs : (q : Int) ≤ (s.size : Int) := by omega
              have hn255 : (n : Int) ≤ 255 := by omega
              have hps : p < s.size := by omega
              have hpi : (p : Int) < (s.size : Int) := by omega
              obtain ⟨z, hz⟩ : ∃ z : Nat, s[p].toNat = z := ⟨_, rfl⟩
              have hz2 : z < 256 := by rw [← hz]; exact UInt8.toNat_lt _
              have hzc : cl[n - 1]? = some s[p] := by
                rw [HCLe.out, List.getElem?_drop, HS.out, ← hp]
                exact List.getElem?_eq_getElem (by simpa using hps)
              have hin := HRI.out (n - 1) s[p] (by omega) hzc
              rw [inM, decide_eq_true_eq, hz] at hin
              have HCH := Lib.hid (fun w => spChar_any m hm1 hlt (z : Int) (by omega) (by omega) w)
              obtain ⟨v, hv⟩ : ∃ v, v = valC m (z : Int) := ⟨_, rfl⟩
              rw [← hv] at HCH hin
              have hv0 : ¬ v < 0 := by omega
              obtain ⟨x1, x2, x3, x4, -⟩ := HT3.out.cell (i := q) (by omega)
              have htf : tabS S k (tryC (tabC l) m (n - 1) (modC cl (tabC l) (m - 1))) q = hdC (S.drop q) := by unfold tabS tabF; rw [if_neg (by omega), if_neg (by omega)]
              obtain ⟨⟨rl, rc, rt, rm⟩, hre⟩ : ∃ x : Ch, x = hdC (S.drop q) := ⟨_, rfl⟩
              rw [htf, ← hre] at x1 x2 x3 x4
              dsimp only at x1 x2 x3 x4
              have HRE := Lib.hid hre
              have hlt2 := HT3.out.lt
              have hqi2 : (q : Int) < (s.size : Int) + 1 := by omega
              have HQ := Lib.hid hq
              have HCRD := Lib.hid (Nat.le_trans (show n - 1 ≤ s.size - (k + 1) by omega) (Nat.le_of_eq HLL.out.symm))
              obtain ⟨⟨tl, tc, tt, tm⟩, hte⟩ : ∃ x : Ch, x = tryC (tabC l) m (n - 1) (modC cl (tabC l) (m - 1)) := ⟨_, rfl⟩
              rw [← hte] at HT3 ⊢
              have HTE := Lib.hid hte
              clear htf hre hq hp hzc hin hv hte
              go_wp2_with fail
              refine (HCH.out wr).mono ?_
              rintro e w4 ⟨rfl, hb4⟩
              have HT4 := Lib.hid (HT3.out.below hb4)
              have HB4 := Lib.hid (bt0 HB3.out hb4 (Nat.le_refl _))
              replace x1 := below_cell hb4 x1
              replace x2 := below_cell hb4 x2
              replace x3 := below_cell hb4 x3
              replace x4 := below_cell hb4 x4
              replace hlt2 := HT4.out.lt
              clear hb4 HCH hz
              go_wp2_with fail
              obtain ⟨rb, hrb⟩ : ∃ rb, rb = w4.heap.size := ⟨_, rfl⟩
              obtain ⟨w6, hw6⟩ : ∃ w6, w6 = w4.alloc (.cells #[.int .i64 rl, .int .i64 rc, .int .i64 rt, .int .i64 rm] 183 (0, 0)) := ⟨_, rfl⟩
              have HT6 := Lib.hid (show TabAt w6 w.heap.size (s.size + 1) (tabS S k ⟨tl, tc, tt, tm⟩) by rw [hw6]; exact HT4.out.below (ba1 _ _))
              have HB6 := Lib.hid (show Below w.heap.size w w6 by rw [hw6]; exact bt0 HB4.out (ba1 _ _) (Nat.le_refl _))
              have hr0 : w6.cell? ⟨rb, 0, none⟩ = some (.int .i64 rl) := by rw [hw6, hrb, (heap_cellR (push_at _ _)).1]; rfl
              have hr1 : w6.cell? ⟨rb, 1, none⟩ = some (.int .i64 rc) := by rw [hw6, hrb, (heap_cellR (push_at _ _)).1]; rfl
              have hs6 : w6.heap.size = rb + 1 := by rw [hw6, hrb]; simp
              have hBr : w.heap.size < rb := by rw [hrb]; exact hlt2
              have HLEN := Lib.hid (fun w => spLen_any m n hm1 hlt hn1 (by omega) w)
              have hVb := segW_le m n hn1
              obtain ⟨V, hV⟩ : ∃ V, V = segW m n := ⟨_, rfl⟩
              rw [← hV] at HLEN hVb
              have HV := Lib.hid hV
              have hbd := hdC_bd _ (S.drop q) (Nat.le_refl _)
              rw [← HRE.out] at hbd
              obtain ⟨hb1, hb2, hb3, hb4⟩ := hbd
              rw [List.length_drop, HSL.out] at hb2 hb4
              dsimp only at hb1 hb2 hb3 hb4
              have hbl : 0 ≤ rl ∧ rl ≤ 7600 := by omega
              have hbc : 0 ≤ rc ∧ rc ≤ 400 := by omega
              try rw [← hw6]
              try rw [← hrb]
              clear hw6 hrb hV hb1 hb2 hb3 hb4 x1 x2 x3 x4
              refine wp_region_rt (Keep := KB) [53, 54, 55, 56, 57, 58, 59, 60, 61, 62, 63, 64, 10] (fun us => _)
                [spE (.int .i64 (m : Int)),
                 spE (.int .i64 (n : Int)),
                 spE (.int .i64 (V : Int)),
                 spE (.pointer (some ⟨rb, 0, none⟩)),
                 spE (.int .i64 rl),
                 spE (.int .i64 ((V : Int) + rl)),
                 spE (.pointer (some ⟨rb, 1, none⟩)),
                 spE (.int .i64 rc),
                 spE (.int .i64 (rc + 1)),
                 spE (.int .i64 (n : Int)),
                 spE (.int .i64 (m : Int)),
                 spE (.agg #[.int .i64 ((V : Int) + rl), .int .i64 (rc + 1), .int .i64 (n : Int), .int .i64 (m : Int)]),
                 spBox (rb + 1) #[.int .i64 0, .int .i64 0, .int .i64 0, .int .i64 0] 183]
                (StX w6) (by kernel_rfl) (by kernel_rfl) (Nat.le_of_ble_eq_true rfl) (fun us => by simp [over, List.mapIdx_cons]; exact rfl) (stX0 _) kbr ?_ ?_
              · refine ⟨?_, ?_, ?_, ?_, ?_, ?_, ?_, ?_, ?_, ?_, ?_, ?_, ?_, trivial⟩
                all_goals (intro us wx hst hd; rw [if_pos (by kernel_rfl)]; dsimp only)
                · clear hd
                  go_simp
                  exact kb_same hst rfl
                · clear hd
                  go_simp
                  exact kb_same hst rfl
                · have d53 : us 53 = (.int .i64 (m : Int)) := hd ⟨0, .data⟩ (by simp) rfl
                  have d54 : us 54 = (.int .i64 (n : Int)) := hd ⟨1, .data⟩ (by simp) rfl
                  clear hd
                  go_simp
                  exact (HLEN.out wx).mono fun e w' ⟨he, hb⟩ => ⟨_, he, kb_below hst hb rfl⟩
                · clear hd
                  go_simp
                  exact kb_same hst rfl
                · have d56 : us 56 = (.pointer (some ⟨rb, 0, none⟩)) := hd ⟨3, .data⟩ (by simp) rfl
                  clear hd
                  have hW := below_cell hst hr0
                  go_simp
                  exact kb_same hst rfl
                · have d55 : us 55 = (.int .i64 (V : Int)) := hd ⟨2, .data⟩ (by simp) rfl
                  have d57 : us 57 = (.int .i64 rl) := hd ⟨4, .data⟩ (by simp) rfl
                  clear hd
                  have hw : IntKind.i64.wrap ((V : Int) + rl) = (V : Int) + rl := by rw [IntKind.wrap_i64]; omega
                  go_simp
                  exact kb_same hst rfl
                · clear hd
                  go_simp
                  exact kb_same hst rfl
                · have d59 : us 59 = (.pointer (some ⟨rb, 1, none⟩)) := hd ⟨6, .data⟩ (by simp) rfl
                  clear hd
                  have hW := below_cell hst hr1
                  go_simp
                  exact kb_same hst rfl
                · have d60 : us 60 = (.int .i64 rc) := hd ⟨7, .data⟩ (by simp) rfl
                  clear hd
                  have hw : IntKind.i64.wrap (rc + 1) = rc + 1 := by rw [IntKind.wrap_i64]; omega
                  go_simp
                  exact kb_same hst rfl
                · clear hd
                  go_simp
                  exact kb_same hst rfl
                · clear hd
                  go_simp
                  exact kb_same hst rfl
                · have d58 : us 58 = (.int .i64 ((V : Int) + rl)) := hd ⟨5, .data⟩ (by simp) rfl
                  have d61 : us 61 = (.int .i64 (rc + 1)) := hd ⟨8, .data⟩ (by simp) rfl
                  have d62 : us 62 = (.int .i64 (n : Int)) := hd ⟨9, .data⟩ (by simp) rfl
                  have d63 : us 63 = (.int .i64 (m : Int)) := hd ⟨10, .data⟩ (by simp) rfl
                  clear hd
                  go_simp
                  exact kb_same hst rfl
                · clear hd
                  go_simp
                  exact kb_new hst (by omega)
              · intro us wx hst hd
                have d10 := hd 12 (by simp)
                have d64 : us 64 = (.agg #[.int .i64 ((V : Int) + rl), .int .i64 (rc + 1), .int .i64 (n : Int), .int .i64 (m : Int)]) := hd 11 (by simp)
                clear hd
                simp only [List.drop, List.length]
                rw [d64]
                obtain ⟨xb, hxb, hxb1, hxg⟩ := d10
                rw [hxb]
                have HT7 := Lib.hid (HT6.out.below hst)
                have HB7 := Lib.hid (bt0 HB6.out hst (Nat.le_refl _))
                have HX7 : Hid (BxC wx xb chZ) := Lib.hid ⟨_, _, hxg, rfl, fun i hi => by
                  obtain rfl : i = 0 := by omega
                  exact ⟨rfl, rfl, rfl, rfl⟩⟩
                obtain ⟨z1, z2, z3, z4, z5⟩ := HX7.out.cells
                have hlx := HX7.out.lt
                have hne : w.heap.size ≠ xb := by omega
                have hne' : xb ≠ w.heap.size := by omega
                have HG1 := Lib.hid (four_grown wx xb 0 1 2 3 (.int .i64 ((V : Int) + rl)) (.int .i64 (rc + 1)) (.int .i64 (n : Int)) (.int .i64 (m : Int)))
                have HX8 := Lib.hid (HX7.out.set ⟨(V : Int) + rl, rc + 1, n, m⟩)
                have HT8 := Lib.hid (HT7.out.kept (HG1.out.block w.heap.size HT7.out.lt (fun e => by have := Option.some.inj e; omega)))
                have HB8 := Lib.hid (HB7.out.trans (below_of_grownBy HG1.out HB7.out.size (fun j e => by cases e; omega)))
                clear hxg hxb d64 hst hr0 hr1
                have HCD := Lib.hid (show candC (tabC l) m n = ⟨(V : Int) + rl, rc + 1, n, m⟩ by
                  have e : (tabC l).getD (n - 1) chZ = ⟨rl, rc, rt, rm⟩ := by
                    rw [List.getD_eq_getElem?_getD, tabC_at l (n - 1) HCRD.out, HRE.out, HLe.out, List.drop_drop, show k + 1 + (n - 1) = q by rw [HQ.out]; omega]
                    rfl
                  rw [candC, e, ← HV.out])
                have HTN := Lib.hid (show tryC (tabC l) m n (modC cl (tabC l) (m - 1)) = betC ⟨tl, tc, tt, tm⟩ ⟨(V : Int) + rl, rc + 1, n, m⟩ by
                  obtain ⟨j, rfl⟩ : ∃ j, n = j + 1 := ⟨n - 1, by omega⟩
                  rw [tryC, HCD.out, HTE.out]; rfl)
                go_wp2_with fail
                generalize hw8 : ((((wx.setCell ⟨xb, 0, none⟩ (.int .i64 ((V : Int) + rl))).setCell ⟨xb, 1, none⟩ (.int .i64 (rc + 1))).setCell ⟨xb, 2, none⟩ (.int .i64 (n : Int))).setCell ⟨xb, 3, none⟩ (.int .i64 (m : Int))) = w8 at HX8 HT8 HB8 ⊢
                clear hw8 HG1 HX7 HT7 HB7 z1 z2 z3 z4 z5 hlx
                have hrc0 : ((rc + 1 : Int) != 0) = true := by rw [bne_iff_ne]; omega
                have hki9 : (k : Int) < (s.size : Int) + 1 := by omega
                have HKeep := Lib.hid (show ∀ w9, Below w8.heap.size w8 w9 → betC ⟨tl, tc, tt, tm⟩ ⟨(V : Int) + rl, rc + 1, n, m⟩ = ⟨(V : Int) + rl, rc + 1, n, m⟩ →
                    (∃ n_1 : Nat, 1 ≤ n_1 ∧ n_1 ≤ runL m cl + 1 ∧ Value.int .i64 ((n : Int) + 1) = .int .i64 n_1 ∧ Value.bool true = .bool (!decide ((tryC (tabC l) m (n_1 - 1) (modC cl (tabC l) (m - 1))).c = 0)) ∧
                      TabAt ((((w9.setCell ⟨w.heap.size, k * 4, none⟩ (.int .i64 ((V : Int) + rl))).setCell ⟨w.heap.size, k * 4 + 1, none⟩ (.int .i64 (rc + 1))).setCell ⟨w.heap.size, k * 4 + 2, none⟩ (.int .i64 (n : Int))).setCell ⟨w.heap.size, k * 4 + 3, none⟩ (.int .i64 (m : Int))) w.heap.size (s.size + 1) (tabS S k (tryC (tabC l) m (n_1 - 1) (modC cl (tabC l) (m - 1)))) ∧
                      Below w.heap.size w ((((w9.setCell ⟨w.heap.size, k * 4, none⟩ (.int .i64 ((V : Int) + rl))).setCell ⟨w.heap.size, k * 4 + 1, none⟩ (.int .i64 (rc + 1))).setCell ⟨w.heap.size, k * 4 + 2, none⟩ (.int .i64 (n : Int))).setCell ⟨w.heap.size, k * 4 + 3, none⟩ (.int .i64 (m : Int)))) from by
                  intro w9 hb9 hbet
                  refine ⟨n + 1, by omega, by rw [← HRe.out]; omega, by push_cast; rfl, ?_, ?_, ?_⟩
                  · rw [Nat.add_sub_cancel, HTN.out, hbet]
                    have : rc + 1 ≠ 0 := by omega
                    simp [this]
                  · rw [Nat.add_sub_cancel, HTN.out, hbet]
                    refine ((HT8.out.below hb9).set (i := k) (by omega) ⟨(V : Int) + rl, rc + 1, n, m⟩).like (fun i hi => ?_)
                    unfold tabS
                    by_cases e : i = k
                    · rw [if_pos e, if_pos e]
                    · rw [if_neg e, if_neg e, if_neg e]
                  · exact (bt0 HB8.out hb9 (Nat.le_refl _) |>.trans (below_of_grownBy (four_grown w9 w.heap.size (k * 4) (k * 4 + 1) (k * 4 + 2) (k * 4 + 3) _ _ _ _) (bt0 HB8.out hb9 (Nat.le_refl _)).size (fun j e => by cases e; exact Nat.le_refl _))))
                by_cases h0 : tc = 0
                · subst h0
                  have HBET := Lib.hid (show betC ⟨tl, 0, tt, tm⟩ ⟨(V : Int) + rl, rc + 1, n, m⟩ = ⟨(V : Int) + rl, rc + 1, n, m⟩ by rw [betC, if_pos (Or.inl rfl)])
                  have hfd : decide ((0 : Int) ≠ 0) = false := by decide
                  refine wp_region_ext (by kernel_rfl) (by kernel_rfl) ?_
                  repeat (go_big_quiet_step (fail))
                  refine wpQuiet_nil ?_
                  rintro _ ⟨s9, rfl⟩
                  have hb9 := s9.below
                  generalize s9.w = w9 at hb9 ⊢
                  have HX9 := Lib.hid (HX8.out.below hb9)
                  obtain ⟨z1, z2, z3, z4, z5⟩ := HX9.out.cells
                  have hlx := HX9.out.lt
                  have HT9 := Lib.hid (HT8.out.below hb9)
                  obtain ⟨x1, x2, x3, x4, x5⟩ := HT9.out.cell (i := k) (by omega)
                  have hlt9 := HT9.out.lt
                  have HKp := Lib.hid (HKeep.out w9 hb9 HBET.out)
                  clear hb9 s9
                  go_wp2_with fail
                  exact ⟨HKp.out, by rw [← HRe.out]; simp [intOf]; omega⟩
                · have hfd : decide (tc = 0) = false := decide_eq_false h0
                  have H0 := Lib.hid h0
                  obtain ⟨z1, z2, z3, z4, z5⟩ := HX8.out.cells
                  have hlx := HX8.out.lt
                  obtain ⟨x1, x2, x3, x4, x5⟩ := HT8.out.cell (i := k) (by omega)
                  have hlt9 := HT8.out.lt
                  rw [tabS, if_pos rfl] at x1 x2 x3 x4
                  dsimp only at x1 x2 x3 x4 z1 z2 z3 z4
                  have HBTR := Lib.hid (fun w => spBetter_any ⟨(V : Int) + rl, rc + 1, n, m⟩ ⟨tl, tc, tt, tm⟩ w)
                  dsimp only [clV] at HBTR
                  obtain ⟨bb, hbb⟩ : ∃ bb, bb = chB ⟨(V : Int) + rl, rc + 1, n, m⟩ ⟨tl, tc, tt, tm⟩ := ⟨_, rfl⟩
                  rw [← hbb] at HBTR
                  have HBB := Lib.hid hbb
                  clear h0 hbb z5 x5
                  refine wp_region_ext (by kernel_rfl) (by kernel_rfl) ?_
                  repeat (go_big_quiet_step ((go_at_call 136; go_must (exact calls_ext _ (HBTR.out _)))))
                  refine wpQuiet_nil ?_
                  rintro _ ⟨s9, rfl⟩
                  have hb9 := s9.below
                  generalize s9.w = w9 at hb9 ⊢
                  have HX9 := Lib.hid (HX8.out.below hb9)
                  have HT9 := Lib.hid (HT8.out.below hb9)
                  have HB9 := Lib.hid (bt0 HB8.out hb9 (Nat.le_refl _))
                  have HKp := Lib.hid (HKeep.out w9 hb9)
                  clear hb9 s9 x1 x2 x3 x4 z1 z2 z3 z4 hlx hlt9
                  cases bb with
                  | true =>
                    obtain ⟨z1, z2, z3, z4, z5⟩ := HX9.out.cells
                    have hlx := HX9.out.lt
                    obtain ⟨x1, x2, x3, x4, x5⟩ := HT9.out.cell (i := k) (by omega)
                    have hlt9 := HT9.out.lt
                    have HKq := Lib.hid (HKp.out (by rw [betC, if_pos (Or.inr HBB.out.symm)]))
                    go_wp2_with fail
                    exact ⟨HKq.out, by rw [← HRe.out]; simp [intOf]; omega⟩
                  | false =>
                    have HTK := Lib.hid (show tryC (tabC l) m (n + 1 - 1) (modC cl (tabC l) (m - 1)) = ⟨tl, tc, tt, tm⟩ by
                      rw [Nat.add_sub_cancel, HTN.out, betC, if_neg (by rw [← HBB.out]; rintro (h | h); exact H0.out h; cases h)])
                    go_wp2_with fail
                    refine ⟨⟨n + 1, by omega, by rw [← HRe.out]; omega, by go_num, ?_, ?_, HB9.out⟩, by rw [← HRe.out]; simp [intOf]; omega⟩
                    · rw [HTK.out]
                    · rw [HTK.out]; exact HT9.out
            · obtain rfl : n = R + 1 := by omega
              rw [Nat.add_sub_cancel] at HT3 ⊢
              have HMN := Lib.hid (show modC cl (tabC l) (m + 1 - 1) = tryC (tabC l) m R (modC cl (tabC l) (m - 1)) by rw [Nat.add_sub_cancel, HMS.out])
              obtain ⟨cur, hcur⟩ : ∃ cur, cur = tryC (tabC l) m R (modC cl (tabC l) (m - 1)) := ⟨_, rfl⟩
              rw [← hcur] at HT3 HMN ⊢
              clear hcur HMS
              have HEnd := Lib.hid (show ∀ w9, Below wr.heap.size wr w9 → ∃ m_1 : Nat, 1 ≤ m_1 ∧ m_1 ≤ 5 ∧ Value.int .i64 ((m : Int) + 1) = .int .i64 m_1 ∧ Value.bool (!decide (cur.c = 0)) = .bool (!decide ((modC cl (tabC l) (m_1 - 1)).c = 0)) ∧ TabAt w9 w.heap.size (s.size + 1) (tabS S k (modC cl (tabC l) (m_1 - 1))) ∧ Below w.heap.size w w9 from
                fun w9 hb9 => ⟨m + 1, by omega, by omega, by push_cast; rfl, by rw [HMN.out], by rw [HMN.out]; exact HT3.out.below hb9, bt0 HB3.out hb9 (Nat.le_refl _)⟩)
              by_cases hR255 : R = 255
              · subst hR255
                have HEn := Lib.hid (HEnd.out wr (Below.refl _ _))
                have hdec : decide (((255 + 1 : Nat) : Int) ≤ 255) = false := by decide
                go_wp2_with fail
                exact ⟨HEn.out, by simp [intOf]; omega⟩
              · have hn255 : ((R + 1 : Nat) : Int) ≤ 255 := by omega
                obtain ⟨n, hn⟩ : ∃ n, n = R + 1 := ⟨_, rfl⟩
                obtain ⟨q, hq⟩ : ∃ q, q = k + n := ⟨_, rfl⟩
                rw [← hn] at hn255 ⊢
                have hqi : (k : Int) + (n : Int) = (q : Int) := by omega
                by_cases hend : q ≤ s.size
                · obtain ⟨p, hp⟩ : ∃ p, p = k + R := ⟨_, rfl⟩
                  have hqp : (q : Int) - 1 = (p : Int) := by omega
                  have hqs : (q : Int) ≤ (s.size : Int) := by omega
                  have hps : p < s.size := by omega
                  have hpi : (p : Int) < (s.size : Int) := by omega
                  obtain ⟨z, hz⟩ : ∃ z : Nat, s[p].toNat = z := ⟨_, rfl⟩
                  have hz2 : z < 256 := by rw [← hz]; exact UInt8.toNat_lt _
                  have hzc : cl[R]? = some s[p] := by
                    rw [HCLe.out, List.getElem?_drop, HS.out, ← hp]
                    exact List.getElem?_eq_getElem (by simpa using hps)
                  have hin := HRO.out s[p] (by omega) hzc
                  rw [inM, decide_eq_false_iff_not, hz] at hin
                  have HCH := Lib.hid (fun w => spChar_any m hm1 hlt (z : Int) (by omega) (by omega) w)
                  obtain ⟨v, hv⟩ : ∃ v, v = valC m (z : Int) := ⟨_, rfl⟩
                  rw [← hv] at HCH hin
                  have hv0 : v < 0 := by omega
                  clear hn hq hp hzc hin hv hend
                  go_wp2_with fail
                  refine (HCH.out wr).mono ?_
                  rintro e w4 ⟨rfl, hb4⟩
                  have HEn := Lib.hid (HEnd.out w4 hb4)
                  clear hb4 HCH hz HEnd
                  go_wp2_with fail
                  exact ⟨HEn.out, by simp [intOf]; omega⟩
                · have hqs : ¬ (q : Int) ≤ (s.size : Int) := by omega
                  have HEn := Lib.hid (HEnd.out wr (Below.refl _ _))
                  clear hn hq
                  go_wp2_with fail
                  exact ⟨HEn.out, by simp [intOf]; omega⟩
        · have hdec : decide ((m : Int) ≤ 4) = false := by simp; omega
          obtain rfl : m = 5 := by omega
          have HBE := Lib.hid (show modC cl (tabC l) (5 - 1) = hdC (S.drop k) by rw [← HCLe.out, HCL.out]; rfl)
          have HT4 := Lib.hid (HT2.out.like (fun i _ => show tabF S k i = _ by rw [HBE.out, tabS_end]))
          go_wp2_with fail
          exact ⟨⟨k, by omega, by go_num, HT4.out, HB2.out⟩, by simp [intOf]⟩

end Go.Proofs.YtlcglclojlffgaaGreatDoor
