import Derived.Test.YtlcglclojlffgaaGreatDoorVSpLk
namespace Go.Proofs.YtlcglclojlffgaaGreatDoor
open Go.RowKit

set_option maxRecDepth 100000 in
set_option maxHeartbeats 8000000 in
theorem spLabelText_any (l : Lb) (a : Option Addr) (c : Nat) (w : World) (hx : itE.At w a l.items) (ht : ∀ x ∈ l.items, x.text.size ≤ 1048576) (hn : l.items.length ≤ 1048576) :
    Calls Tryz.prog 7 #[lbV l a c] w fun e w' => e = .returned (.string ⟨(labT l).toArray⟩) ∧ Below w.heap.size w w' := by
  have HC := Lib.hid (fun w (hx : itE.At w a l.items) => spIsLabel_any l a c w hx ht hn)
  have HX := Lib.hid hx
  have HBD := Lib.hid (fun h => lb_bd (l := l) h)
  have HTL := Lib.hid (fun h => have hb := lb_bd (l := l) h; textP_len hb.1 (by omega) (by omega))
  have HTS := Lib.hid (fun k x h => textP_step (l := l) (k := k) (x := x) h)
  have HTF := Lib.hid (textP_full l)
  have HT0 := Lib.hid (show textP l 0 = [108, 97, 98, 101, 108] ++ wordsX [l.rows, l.cols] ++ [10] by rw [textP, List.take_zero, List.flatMap_nil])
  obtain ⟨ok, hok⟩ : ∃ ok, ok = l.ok := ⟨_, rfl⟩
  have HY := Lib.hid (show labT l = if ok = true then textL l else [] by rw [labT, hok])
  rw [← hok] at HC HBD HTL
  obtain ⟨TP, hTP⟩ : ∃ TP, TP = textP l := ⟨_, rfl⟩
  obtain ⟨TX, hTX⟩ : ∃ TX, TX = textL l := ⟨_, rfl⟩
  obtain ⟨LT, hLT⟩ : ∃ LT, LT = labT l := ⟨_, rfl⟩
  rw [← hTP] at HTL HTS HTF HT0
  rw [← hTX] at HTF HY
  rw [← hLT] at HY ⊢
  clear hx ht hok hn hTP hTX hLT
  obtain ⟨rows, cols, items⟩ := l
  dsimp only at HX HC HBD HTL HTS HTF HT0 ⊢
  have HB0 := Lib.hid (ba1 w (.cells #[.int .i64 rows, .int .i64 cols, .slice a items.length c] 29 (0, 0)))
  have K0 := Lib.hid (push_at w (.cells #[.int .i64 rows, .int .i64 cols, .slice a items.length c] 29 (0, 0)))
  go_enter Tryz.func7, Tryz.ntmps7
  go_wp2_with fail
  refine (HC.out _ (HX.out.below HB0.out)).mono ?_
  rintro e w1 ⟨rfl, hb1⟩
  have HB1 := Lib.hid (bt0 HB0.out hb1 (Nat.le_refl _))
  have K1 := Lib.hid (blkK hb1 K0.out)
  obtain ⟨hc1, hf1⟩ := heap_cellR K1.out
  have hl1 := blkLt K1.out
  clear hb1
  rcases Bool.eq_false_or_eq_true ok with rfl | rfl
  rotate_left
  · go_wp2_with fail
    go_ret
    exact ⟨ret_str (by rw [HY.out]; simp), HB1.out⟩
  obtain ⟨hib, hrc, h12⟩ := HBD.out rfl
  have HIT := Lib.hid hib
  have HTL2 := Lib.hid (HTL.out rfl)
  have HYe := Lib.hid (show LT = TX by rw [HY.out]; simp)
  clear HBD HTL HY HC hib
  have HDC := Lib.hid (fun a c w' (h : IntsAt w' a [rows, cols]) => spWords_any a [rows, cols] c w' h (by intro x hx; simp only [List.mem_cons, List.not_mem_nil, or_false] at hx; rcases hx with rfl | rfl <;> omega) (by simp))
  obtain ⟨D, hD⟩ : ∃ D, D = (⟨(wordsX [rows, cols]).toArray⟩ : ByteArray) := ⟨_, rfl⟩
  rw [← hD] at HDC
  have hDs : D.size ≤ 44 := by
    rw [hD]
    exact wordsX_bd [rows, cols] (by intro x hx; simp only [List.mem_cons, List.not_mem_nil, or_false] at hx; rcases hx with rfl | rfl <;> omega)
  have hcat0 : ¬ 9223372036854775807 < 5 + D.size := by omega
  have hcat1 : ¬ 9223372036854775807 < 5 + D.size + 1 := by omega
  have HS0 := Lib.hid (show (⟨#[108, 97, 98, 101, 108]⟩ ++ D ++ ⟨#[10]⟩ : ByteArray).data.toList = TP 0 by rw [HT0.out, hD]; simp)
  clear hD
  go_wp2_with fail
  refine (HDC.out _ _ _ (ints_lit2 (push_at _ _) rfl)).mono ?_
  rintro e w2 ⟨rfl, hb2⟩
  have HB2 := Lib.hid (bt0 (bt0 HB1.out (ba1 _ _) (Nat.le_refl _)) hb2 (Nat.le_refl _))
  have K2 := Lib.hid (blkK hb2 (blkK (ba1 _ _) K1.out))
  clear hb2 hc1 hf1
  go_wp2_with fail
  go_loopw [3, 4] (fun v i wr => ∃ (k : Nat) (V : ByteArray), k ≤ items.length ∧ i = .int .i64 (k : Int) ∧ v = .string V ∧ V.data.toList = TP k ∧ Below w.heap.size w wr ∧ wr.heap[w.heap.size]? = some (.cells #[.int .i64 rows, .int .i64 cols, .slice a items.length c] 29 (0, 0))) (fun _ i _ => items.length - (intOf i).toNat)
  case atStart => exact ⟨0, _, Nat.zero_le _, rfl, rfl, HS0.out, HB2.out, K2.out⟩
  case round =>
    obtain ⟨k, V, hk, rfl, rfl, hV, hbr, hkr⟩ := hrel
    have HV := Lib.hid hV
    have HBR := Lib.hid hbr
    have KR := Lib.hid hkr
    have hVs : V.size ≤ 60 + 701 * k := by have := HTL2.out k; rw [← hV] at this; exact this
    have HXr := Lib.hid (HX.out.below hbr)
    obtain ⟨hc1, hf1⟩ := heap_cellR hkr
    have hl2 := blkLt hkr
    clear hV hbr hkr
    by_cases hlt : k < items.length
    · have hki : (k : Int) < (items.length : Int) := by omega
      obtain ⟨x, hx⟩ : ∃ x, items[k]? = some x := by rw [List.getElem?_eq_getElem hlt]; exact ⟨_, rfl⟩
      have hib := HIT.out x (List.mem_of_getElem? hx)
      have HLE := Lib.hid (lineI_len hib)
      have HST := Lib.hid (HTS.out k x hx)
      have HLC := Lib.hid (fun w => spLine_any x hib w)
      obtain ⟨b, o, rfl, hbl, y0, y1, y2, y3, y4, y5, y6, y7, y8⟩ := it_at HXr.out hx
      obtain ⟨LN, hLN⟩ : ∃ LN, LN = (⟨(lineI x).toArray⟩ : ByteArray) := ⟨_, rfl⟩
      rw [← hLN] at HLC
      have hLs : LN.size ≤ 700 := by rw [hLN]; exact HLE.out
      have hk1 : ¬ 9223372036854775807 < V.size + LN.size := by omega
      have hk2 : ¬ 9223372036854775807 < V.size + LN.size + 1 := by omega
      have HNX := Lib.hid (show (V ++ LN ++ ⟨#[10]⟩ : ByteArray).data.toList = TP (k + 1) by rw [HST.out, ← HV.out, hLN]; simp)
      clear hx hLN hLs hib
      obtain ⟨kd, row, col, sc, tall, wide, nm, lev, tx⟩ := x
      dsimp only at y0 y1 y2 y3 y4 y5 y6 y7 y8
      unfold itV at HLC
      dsimp only at HLC
      go_wp2_with fail
      refine (HLC.out _).mono ?_
      rintro e w3 ⟨rfl, hb3⟩
      have HB3 := Lib.hid (bt0 HBR.out hb3 (Nat.le_refl _))
      have K3 := Lib.hid (blkK hb3 KR.out)
      clear hb3 hc1 hf1 y0 y1 y2 y3 y4 y5 y6 y7 y8
      go_wp2_with fail
      exact ⟨⟨k + 1, _, by omega, by go_num, rfl, HNX.out, HB3.out, K3.out⟩, by simp [intOf]; omega⟩
    · have hki : ¬ (k : Int) < (items.length : Int) := by omega
      have hke := Lib.hid (show V.data.toList = LT by have h := HV.out; rw [show k = items.length by omega, HTF.out] at h; rw [h, HYe.out])
      go_wp2_with fail
      go_ret
      exact ⟨ret_str (ba_eq hke.out), HBR.out⟩

end Go.Proofs.YtlcglclojlffgaaGreatDoor
