import Derived.Test.YtkmfgchbfchdbaaGreatDoorVJnT
namespace Go.Proofs.YtkmfgchbfchdbaaGreatDoor
open Go.RowKit

/-- the kind with a word, among the first k -/
def kTo (p : List UInt8) (k : Nat) : Int := if kindJ p ≤ k then kindJ p else 0
theorem kindJ_range (p : List UInt8) : 0 ≤ kindJ p ∧ kindJ p ≤ 4 := by
  by_cases h : kindJ p = 0
  · omega
  · have := word_kindJ h; omega
theorem kTo_zero (p : List UInt8) : kTo p 0 = 0 := by
  have := kindJ_range p
  unfold kTo; split <;> omega
theorem kTo_four (p : List UInt8) : kTo p 4 = kindJ p := by
  have := kindJ_range p
  unfold kTo; rw [if_pos (by omega)]
theorem kTo_yes {p : List UInt8} {k : Nat} (h4 : k < 4) (h : wordJ ((k : Int) + 1) = p) : kTo p (k + 1) = (k : Int) + 1 := by
  have : kindJ p = (k : Int) + 1 := by rw [← h]; exact kindJ_word (by omega) (by omega)
  unfold kTo; rw [if_pos (by omega)]; exact this
theorem kTo_no {p : List UInt8} {k : Nat} (h : wordJ ((k : Int) + 1) ≠ p) : kTo p (k + 1) = kTo p k := by
  have hr := kindJ_range p
  unfold kTo
  by_cases h1 : kindJ p ≤ k
  · rw [if_pos h1, if_pos (by omega)]
  · rw [if_neg h1]
    by_cases h2 : kindJ p = (k : Int) + 1
    · exfalso
      have h0 : kindJ p ≠ 0 := by omega
      exact h (by rw [← h2]; exact (word_kindJ h0).1)
    · rw [if_neg (by omega)]

/-- what is read of a line -/
def RetRd (w : World) (r : Rc) (e : Ending) (w' : World) : Prop := e = .returned (.agg #[.int .i64 r.k, .int .i64 r.n]) ∧ Below w.heap.size w w'
theorem spReadJ_not4 {p : List UInt8} (h : (cut 32 p).length ≠ 4) : spReadJ p = ⟨0, 0⟩ := by
  unfold spReadJ
  split
  · rename_i a b c d he; rw [he] at h; simp at h
  · rfl

set_option maxRecDepth 100000 in
set_option maxHeartbeats 1000000 in
theorem l32Read_any (s : ByteArray) (w : World) (hs : s.size ≤ 1048576) :
    Calls Tryz.prog 82 #[.string s] w (RetRd w (spReadJ s.data.toList)) := by
  have HB0 := Lib.hid (ba1 w (.cells #[.int .i64 0, .int .i64 0] 59 (0, 0)))
  have HX0 := Lib.hid (push_at w (.cells #[.int .i64 0, .int .i64 0] 59 (0, 0)))
  go_enter Tryz.func82, Tryz.ntmps82
  go_wp2_with fail
  refine (l01Split_any s 32 _ hs).mono ?_
  rintro e w1 ⟨ss, a, cp, hss, rfl, ho, hb1⟩
  have HB1 := Lib.hid (bt0 HB0.out hb1 (Nat.le_refl _))
  have HX1 := Lib.hid (blkK hb1 HX0.out)
  have HST := Lib.hid ho.strs
  have hlen : ss.length = (cut 32 s.data.toList).length := by rw [← hss, bytesL, List.length_map]
  have hsz : ∀ b ∈ ss, b.size ≤ 1048576 := fun x hx => Nat.le_trans ((cut_len 32 s.data.toList).2 _ (by rw [← hss]; exact List.mem_map.2 ⟨x, hx, rfl⟩)) hs
  have hw1 := blkLt HX1.out
  clear ho hb1
  by_cases h4 : ss.length = 4
  · rw [h4]
    obtain ⟨b0, b1, b2, b3, rfl⟩ : ∃ b0 b1 b2 b3, ss = [b0, b1, b2, b3] := by
      match ss, h4 with
      | [b0, b1, b2, b3], _ => exact ⟨b0, b1, b2, b3, rfl⟩
    obtain ⟨bb, oo, rfl, hc1⟩ := HST.out 1 (by simp)
    obtain ⟨bb', oo', e2, hc2⟩ := HST.out 2 (by simp)
    simp only [Option.some.injEq, Addr.mk.injEq, and_true] at e2
    obtain ⟨rfl, rfl⟩ := e2
    have hc1 : w1.cell? ⟨bb, oo + 1, none⟩ = some (.string b1) := hc1
    have hc2 : w1.cell? ⟨bb, oo + 2, none⟩ = some (.string b2) := hc2
    have hz2 : b2.size ≤ 1048576 := hsz b2 (by simp)
    have hcut : cut 32 s.data.toList = [b0.data.toList, b1.data.toList, b2.data.toList, b3.data.toList] := by rw [← hss]; rfl
    have HCUT := Lib.hid hcut
    obtain ⟨p1, hp1⟩ : ∃ p1, b1 = p1 := ⟨_, rfl⟩
    rw [hp1] at hc1 HCUT
    clear hcut hss hlen hsz HST h4 hp1
    have HX2 := Lib.hid (push_old (A := .cells #[.int .i64 0, .int .i64 0] 59 (0, 0)) HX1.out)
    have HD2 := Lib.hid (push_at w1 (.cells #[.int .i64 0, .int .i64 0] 59 (0, 0)))
    have HW2 := Lib.hid (ba1 w1 (.cells #[.int .i64 0, .int .i64 0] 59 (0, 0)))
    go_wp2_with fail
    go_loopw [5] (fun i wr => ∃ k : Nat, k ≤ 4 ∧ i = .int .i64 k ∧ wr.heap[w1.heap.size]? = some (.cells #[.int .i64 (kTo p1.data.toList k), .int .i64 0] 59 (0, 0)) ∧ Below w1.heap.size w1 wr) (fun i _ => 4 - (intOf i).toNat)
    case atStart => exact ⟨0, by omega, rfl, by rw [kTo_zero]; exact HD2.out, HW2.out⟩
    case round =>
      clear HD2 HW2
      obtain ⟨k, hk, rfl, hbox, hbl⟩ := hrel
      have HBX := Lib.hid hbox
      have HBL := Lib.hid hbl
      clear hbox hbl
      by_cases hlt : k < 4
      · have hlti : (k : Int) < 4 := by omega
        obtain ⟨b0, hb0⟩ : ∃ b0, bb = b0 := ⟨_, rfl⟩
        obtain ⟨o0, ho0⟩ : ∃ o0, oo = o0 := ⟨_, rfl⟩
        rw [hb0, ho0] at hc1 ⊢
        have hwr : wr.cell? ⟨b0, o0 + 1, none⟩ = some (.string p1) := (HBL.out.cell (p := ⟨b0, o0 + 1, none⟩) (lt_of_cell hc1)).trans hc1
        have hlr : b0 < wr.heap.size := lt_of_cell hwr
        clear hc1 hc2 hb0 ho0
        go_wp2_with fail
        refine wp_region_rt (Keep := KB) [19, 20, 21, 22, 23, 24, 25, 26] (fun us => _)
          [spRow 4 (fun i => .string (wordJB ((i : Int) + 1))),
           spE (.int .i64 (k : Int)),
           spPtr (.string (wordJB ((k : Int) + 1))),
           spE (.string (wordJB ((k : Int) + 1))),
           spE (.slice (some ⟨b0, o0, none⟩) 4 cp),
           spPtr (.string p1),
           spE (.string p1),
           spE (.bool ((wordJB ((k : Int) + 1)).toList == p1.toList))]
          (StX wr) (by kernel_rfl) (by kernel_rfl) (Nat.le_of_ble_eq_true rfl) (fun us => by simp [over, List.mapIdx_cons]; exact rfl) (stX0 _) kbr ?_ ?_
        · refine ⟨?_, ?_, ?_, ?_, ?_, ?_, ?_, ?_, trivial⟩
          all_goals (intro us wx hst hd; rw [if_pos (by kernel_rfl)]; dsimp only)
          · clear hd
            go_simp
            exact (l32Words_any wx).mono fun e w' ⟨v, he, hr, hb⟩ => ⟨v, he, kb_below hst hb hr⟩
          · clear hd
            go_simp
            exact kb_same hst rfl
          · have d19 : RowF 4 (fun i => .string (wordJB ((i : Int) + 1))) (us 19) wx := hd ⟨0, .data⟩ (by simp) rfl
            have d20 : us 20 = (.int .i64 (k : Int)) := hd ⟨1, .data⟩ (by simp) rfl
            clear hd
            obtain ⟨br, er, hcr⟩ := row_at d19
            have hck := hcr k hlt
            clear hcr d19
            go_simp
            exact kb_same hst ⟨br, k, rfl, hck⟩
          · obtain ⟨bp21, op21, d21, hp21⟩ : ∃ b' o', us 21 = .pointer (some ⟨b', o', none⟩) ∧ wx.cell? ⟨b', o', none⟩ = some (.string (wordJB ((k : Int) + 1))) := hd ⟨2, .data⟩ (by simp) rfl
            clear hd
            go_simp
            exact kb_same hst rfl
          · clear hd
            go_simp
            exact kb_same hst rfl
          · have d23 : us 23 = (.slice (some ⟨b0, o0, none⟩) 4 cp) := hd ⟨4, .data⟩ (by simp) rfl
            clear hd
            have hcx : wx.cell? ⟨b0, o0 + 1, none⟩ = some (.string p1) := (hst.cell (p := ⟨b0, o0 + 1, none⟩) hlr).trans hwr
            go_simp
            exact kb_same hst ⟨b0, o0 + 1, rfl, hcx⟩
          · obtain ⟨bp24, op24, d24, hp24⟩ : ∃ b' o', us 24 = .pointer (some ⟨b', o', none⟩) ∧ wx.cell? ⟨b', o', none⟩ = some (.string p1) := hd ⟨5, .data⟩ (by simp) rfl
            clear hd
            go_simp
            exact kb_same hst rfl
          · have d22 : us 22 = (.string (wordJB ((k : Int) + 1))) := hd ⟨3, .data⟩ (by simp) rfl
            have d25 : us 25 = (.string p1) := hd ⟨6, .data⟩ (by simp) rfl
            clear hd
            go_simp
            exact kb_same hst rfl
        · intro us wx hst hd
          have d26 : us 26 = (.bool ((wordJB ((k : Int) + 1)).toList == p1.toList)) := hd 7 (by simp)
          clear hd
          simp only [List.drop, List.length]
          rw [d26]
          have HBW := Lib.hid (HBL.out.trans (hst.mono HBL.out.size))
          have HX := Lib.hid (blkK hst HBX.out)
          clear hst hwr hlr
          by_cases hkk : wordJ ((k : Int) + 1) = p1.data.toList
          · have e1 : ((wordJB ((k : Int) + 1)).toList == p1.toList) = true := by
              rw [beq_iff_eq, ByteArray.toList_eq, ByteArray.toList_eq, wordJB_list]; exact hkk
            rw [e1]
            obtain ⟨hcb, hfb⟩ := heap_cellR HX.out
            have HKK := Lib.hid (kTo_yes hlt hkk)
            have e5 : IntKind.i64.wrap ((k : Int) + 1) = (k : Int) + 1 := IntWalk.i64_in _ (by omega)
            clear e1 hkk
            go_wp2_with fail
            refine ⟨⟨k + 1, by omega, by go_num, ?_, HBW.out.setCell (Nat.le_refl _) _⟩, by simp [intOf]; omega⟩
            rw [HKK.out]
            exact src_set HX.out 0 _
          · have e1 : ((wordJB ((k : Int) + 1)).toList == p1.toList) = false := by
              rw [beq_eq_false_iff_ne, ne_eq, ByteArray.toList_eq, ByteArray.toList_eq, wordJB_list]; exact hkk
            rw [e1]
            have HKK := Lib.hid (kTo_no hkk)
            clear e1 hkk
            go_wp2_with fail
            refine ⟨⟨k + 1, by omega, by go_num, ?_, HBW.out⟩, by simp [intOf]; omega⟩
            rw [HKK.out]
            exact HX.out
      · obtain rfl : k = 4 := by omega
        have hwr : wr.cell? ⟨bb, oo + 2, none⟩ = some (.string b2) := (HBL.out.cell (p := ⟨bb, oo + 2, none⟩) (lt_of_cell hc2)).trans hc2
        have hwr' : w1.heap.size ≤ wr.heap.size := HBL.out.size
        clear hc1 hc2
        go_wp2_with fail
        refine (l01Value_any b2 _ hz2).mono ?_
        rintro e w4 ⟨v, rfl, hv, -, hb4⟩
        have HB4 := Lib.hid (HBL.out.trans (hb4.mono hwr'))
        have HXB4 := Lib.hid (blkK hb4 HBX.out)
        have HXR4 := Lib.hid (blk HB4.out HX1.out hw1)
        have hne : w.heap.size ≠ w1.heap.size := by omega
        clear hb4 hwr
        cases hvs : valS b2.data.toList with
        | none =>
          have HN : Hid (spReadJ s.data.toList = ⟨0, 0⟩) := Lib.hid (by unfold spReadJ; simp only [HCUT.out, hvs])
          simp only [Option.isSome]
          obtain ⟨hc4, hf4⟩ := heap_cellR HXR4.out
          clear hvs hv
          go_wp2_with fail
          refine bodyPost_ret (v := .agg #[.int .i64 0, .int .i64 0]) (by simp [results, Tryz.results82, go_sem, hc4]) rfl ⟨by rw [HN.out], ?_⟩
          iterate 2 (refine Below.setCell ?_ (by dsimp only; omega) _)
          exact bt0 HB1.out HB4.out (Nat.le_refl _)
        | some n =>
          obtain rfl : v = n := hv n hvs
          have HN : Hid (spReadJ s.data.toList = ⟨kindJ p1.data.toList, v⟩) := Lib.hid (by unfold spReadJ; simp only [HCUT.out, hvs])
          simp only [Option.isSome]
          obtain ⟨hc4, hf4⟩ := heap_cellR HXR4.out
          obtain ⟨hcb, hfb⟩ := heap_cellR HXB4.out
          have HK4 := Lib.hid (kTo_four p1.data.toList)
          have hwb := blkLt HXB4.out
          clear hvs hv
          rw [HK4.out] at hcb
          go_wp2_with fail
          refine bodyPost_ret (v := .agg #[.int .i64 (kindJ p1.data.toList), .int .i64 v]) (by simp [results, Tryz.results82, go_sem, hc4]) rfl ⟨by rw [HN.out], ?_⟩
          iterate 3 (refine Below.setCell ?_ (by dsimp only; omega) _)
          exact bt0 HB1.out HB4.out (Nat.le_refl _)
  · have h4i : ((ss.length : Int) != 4) = true := by simp; omega
    have HN : Hid (spReadJ s.data.toList = ⟨0, 0⟩) := Lib.hid (spReadJ_not4 (by rw [← hlen]; exact h4))
    obtain ⟨hc0, hf0⟩ := heap_cellR HX1.out
    clear h4 hlen hss hsz
    go_wp2_with fail
    refine bodyPost_ret (v := .agg #[.int .i64 0, .int .i64 0]) (by simp [results, Tryz.results82, go_sem, hc0, hw1]) rfl ⟨by rw [HN.out], ?_⟩
    refine Below.alloc ?_ (by simp; omega) _
    iterate 2 (refine Below.setCell ?_ (by dsimp only; omega) _)
    exact HB1.out

end Go.Proofs.YtkmfgchbfchdbaaGreatDoor
