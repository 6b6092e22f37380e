import Derived.Test.YtlcglclojlffgaaGreatDoorVLinI
import Derived.Test.YtlcglclojlffgaaGreatDoorVLbU
namespace Go.Proofs.YtlcglclojlffgaaGreatDoor
open Go.RowKit

theorem methLine1 (kd row col sc tall wide : Int) (nm : ByteArray) (lev : Int) (tx : ByteArray) (n : Nat) (W : World) : (method (n + 1) 111 (.agg #[.int .i64 kd, .int .i64 row, .int .i64 col, .int .i64 sc, .int .i64 tall, .int .i64 wide, .string nm, .int .i64 lev, .string tx]) "loop.example/g00879/impl.line").run Tryz.prog W = .ok (165, (.agg #[.int .i64 kd, .int .i64 row, .int .i64 col, .int .i64 sc, .int .i64 tall, .int .i64 wide, .string nm, .int .i64 lev, .string tx])) W := by kernel_rfl
theorem methLine2 (kd row col sc tall wide : Int) (nm : ByteArray) (lev : Int) (tx : ByteArray) (n : Nat) (W : World) : (method (n + 1) 112 (.agg #[.int .i64 kd, .int .i64 row, .int .i64 col, .int .i64 sc, .int .i64 tall, .int .i64 wide, .string nm, .int .i64 lev, .string tx]) "loop.example/g00879/impl.line").run Tryz.prog W = .ok (169, (.agg #[.int .i64 kd, .int .i64 row, .int .i64 col, .int .i64 sc, .int .i64 tall, .int .i64 wide, .string nm, .int .i64 lev, .string tx])) W := by kernel_rfl
theorem methLine3 (kd row col sc tall wide : Int) (nm : ByteArray) (lev : Int) (tx : ByteArray) (n : Nat) (W : World) : (method (n + 1) 113 (.agg #[.int .i64 kd, .int .i64 row, .int .i64 col, .int .i64 sc, .int .i64 tall, .int .i64 wide, .string nm, .int .i64 lev, .string tx]) "loop.example/g00879/impl.line").run Tryz.prog W = .ok (172, (.agg #[.int .i64 kd, .int .i64 row, .int .i64 col, .int .i64 sc, .int .i64 tall, .int .i64 wide, .string nm, .int .i64 lev, .string tx])) W := by kernel_rfl
set_option maxRecDepth 100000 in
set_option maxHeartbeats 8000000 in
theorem labelTextIn_any (l : Lb) (a : Option Addr) (c : Nat) (w : World) (hx : itE.At w a l.items) (hok : l.ok = true) (ht : Tab w) :
    Calls Tryz.prog 26 #[lbV l a c] w fun e w' => e = .returned (.string ⟨(textL l).toArray⟩) ∧ Below w.heap.size w w' := by
  obtain ⟨hit, hrc, h12⟩ := lb_bd hok
  have HIT := Lib.hid hit
  have HX := Lib.hid hx
  have HT := Lib.hid ht
  have HTL := Lib.hid (textP_len hit (by omega) (by omega))
  have HTS := Lib.hid (fun k x h => textP_step (l := l) (k := k) (x := x) h)
  have HTF := Lib.hid (textP_full l)
  have HT0 := Lib.hid (show textP l 0 = [108, 97, 98, 101, 108] ++ wordsX [l.rows, l.cols] ++ [10] by rw [textP, List.take_zero, List.flatMap_nil])
  obtain ⟨TP, hTP⟩ : ∃ TP, TP = textP l := ⟨_, rfl⟩
  obtain ⟨TL, hTLe⟩ : ∃ TL, TL = textL l := ⟨_, rfl⟩
  rw [← hTP] at HTL HTS HTF HT0
  rw [← hTLe] at HTF ⊢
  obtain ⟨rows, cols, items⟩ := l
  dsimp only at HIT HX HTL HTS HTF HT0 hrc h12 ⊢
  have HDC := Lib.hid (fun a c w' (h : IntsAt w' a [rows, cols]) (ht : Tab w') => decimals_any a [rows, cols] c w' h (by intro x hx; simp only [List.mem_cons, List.not_mem_nil, or_false] at hx; rcases hx with rfl | rfl <;> omega) (by simp) ht)
  obtain ⟨D, hD⟩ : ∃ D, D = (⟨(decX [rows, cols]).toArray⟩ : ByteArray) := ⟨_, rfl⟩
  rw [← hD] at HDC
  have HDe := Lib.hid hD
  have hDs : D.size ≤ 44 := by
    rw [hD]
    exact decX_len [rows, cols] (by intro x hx; simp only [List.mem_cons, List.not_mem_nil, or_false] at hx; rcases hx with rfl | rfl <;> omega)
  have hcat0 : ¬ 9223372036854775807 < 6 + D.size := by omega
  have hcat1 : ¬ 9223372036854775807 < 6 + D.size + 1 := by omega
  have HS0 := Lib.hid (show (⟨#[108, 97, 98, 101, 108, 32]⟩ ++ D ++ ⟨#[10]⟩ : ByteArray).data.toList = TP 0 by rw [HT0.out, wordsX_dec, hD]; simp)
  clear hit hx ht hTP hTLe hD hok
  have HB0 := Lib.hid (ba1 w (.cells #[.int .i64 rows, .int .i64 cols, .slice a items.length c] 29 (0, 0)))
  have K0 := Lib.hid (push_at w (.cells #[.int .i64 rows, .int .i64 cols, .slice a items.length c] 29 (0, 0)))
  go_enter Tryz.func26, Tryz.ntmps26
  go_wp2_with fail
  refine (HDC.out _ _ _ (ints_lit2 (heap2 _ _ _).2 rfl) (HT.out.next (ba2 _ _ _))).mono ?_
  rintro e w1 ⟨rfl, hb1⟩
  have HB1 := Lib.hid (bt2 hb1)
  have K1 := Lib.hid (blkK hb1 (blkK (ba1 _ _) K0.out))
  clear hb1
  obtain ⟨hc1, hf1⟩ := heap_cellR K1.out
  have hl1 := blkLt K1.out
  go_wp2_with fail
  go_loopw [3, 19] (fun v i wr => ∃ (k : Nat) (V : ByteArray), k ≤ items.length ∧ i = .int .i64 (k : Int) ∧ v = .string V ∧ V.data.toList = TP k ∧ Below w.heap.size w wr) (fun _ i _ => items.length - (intOf i).toNat)
  case atStart => exact ⟨0, _, Nat.zero_le _, rfl, rfl, HS0.out, HB1.out⟩
  case round =>
    obtain ⟨k, V, hk, rfl, rfl, hV, hbr⟩ := hrel
    have HV := Lib.hid hV
    have HBR := Lib.hid hbr
    have hVs : V.size ≤ 60 + 701 * k := by have := HTL.out k; rw [← hV] at this; exact this
    have HXr := Lib.hid (HX.out.below hbr)
    clear hV hbr hc1 hf1
    by_cases hlt : k < items.length
    · have hki : (k : Int) < (items.length : Int) := by omega
      obtain ⟨x, hx⟩ : ∃ x, items[k]? = some x := by rw [List.getElem?_eq_getElem hlt]; exact ⟨_, rfl⟩
      have hib := HIT.out x (List.mem_of_getElem? hx)
      have HLE := Lib.hid (lineI_len hib)
      have HST := Lib.hid (HTS.out k x hx)
      obtain ⟨b, o, rfl, hbl, y0, y1, y2, y3, y4, y5, y6, y7, y8⟩ := it_at HXr.out hx
      obtain ⟨LN, hLN⟩ : ∃ LN, LN = (⟨(lineI x).toArray⟩ : ByteArray) := ⟨_, rfl⟩
      have hLs : LN.size ≤ 700 := by rw [hLN]; exact HLE.out
      have hk1 : ¬ 9223372036854775807 < LN.size + 1 := by omega
      have hk2 : ¬ 9223372036854775807 < V.size + (LN.size + 1) := by omega
      have HNX := Lib.hid (show (V ++ (LN ++ ⟨#[10]⟩)).data.toList = TP (k + 1) by rw [HST.out, ← HV.out, hLN]; simp)
      have HLN := Lib.hid hLN
      clear hx hLN hLs
      obtain ⟨kd, row, col, sc, tall, wide, nm, lev, tx⟩ := x
      dsimp only at y0 y1 y2 y3 y4 y5 y6 y7 y8
      obtain ⟨hkd, hrow, hcol, hsc, htall, hwide, hlev, hnm, htx⟩ := hib
      dsimp only at hkd hrow hcol hsc htall hwide hlev hnm htx
      have KI := Lib.hid (push_at wr (.cells #[.int .i64 kd, .int .i64 row, .int .i64 col, .int .i64 sc, .int .i64 tall, .int .i64 wide, .string nm, .int .i64 lev, .string tx] 49 (0, 0)))
      have HBI := Lib.hid (bt0 HBR.out (ba1 wr (.cells #[.int .i64 kd, .int .i64 row, .int .i64 col, .int .i64 sc, .int .i64 tall, .int .i64 wide, .string nm, .int .i64 lev, .string tx] 49 (0, 0))) (Nat.le_refl _))
      rcases hkd with rfl | rfl | rfl
      · have hm := methLine1 1 row col sc tall wide nm lev tx
        go_wp2_with fail
        refine (thing1 ⟨1, row, col, sc, tall, wide, nm, lev, tx⟩ rfl _).mono ?_
        rintro e w2 ⟨rfl, hb2⟩
        have HB2 := Lib.hid (bt0 HBI.out hb2 (Nat.le_refl _))
        clear hb2 y0 y1 y2 y3 y4 y5 y6 y7 y8
        unfold itV
        dsimp only
        go_wp2_with fail
        refine (textLine_any row col sc tall wide lev nm tx _ (by omega) (by omega) (by omega) (by omega) (by omega) (by omega) (HT.out.next HB2.out)).mono ?_
        rw [← HLN.out]
        rintro e w3 ⟨rfl, hb3⟩
        have HB3 := Lib.hid (bt0 HB2.out hb3 (Nat.le_refl _))
        clear hb3
        go_wp2_with fail
        exact ⟨⟨k + 1, _, by omega, by go_num, rfl, HNX.out, HB3.out⟩, by simp [intOf]; omega⟩
      · have hm := methLine2 2 row col sc tall wide nm lev tx
        go_wp2_with fail
        refine (thing2 ⟨2, row, col, sc, tall, wide, nm, lev, tx⟩ rfl _).mono ?_
        rintro e w2 ⟨rfl, hb2⟩
        have HB2 := Lib.hid (bt0 HBI.out hb2 (Nat.le_refl _))
        clear hb2 y0 y1 y2 y3 y4 y5 y6 y7 y8
        unfold itV
        dsimp only
        go_wp2_with fail
        refine (lineLine_any row col sc tall wide lev nm tx _ (by omega) (by omega) (by omega) (by omega) (HT.out.next HB2.out)).mono ?_
        rw [← HLN.out]
        rintro e w3 ⟨rfl, hb3⟩
        have HB3 := Lib.hid (bt0 HB2.out hb3 (Nat.le_refl _))
        clear hb3
        go_wp2_with fail
        exact ⟨⟨k + 1, _, by omega, by go_num, rfl, HNX.out, HB3.out⟩, by simp [intOf]; omega⟩
      · have hm := methLine3 3 row col sc tall wide nm lev tx
        go_wp2_with fail
        refine (thing3 ⟨3, row, col, sc, tall, wide, nm, lev, tx⟩ rfl _).mono ?_
        rintro e w2 ⟨rfl, hb2⟩
        have HB2 := Lib.hid (bt0 HBI.out hb2 (Nat.le_refl _))
        clear hb2 y0 y1 y2 y3 y4 y5 y6 y7 y8
        unfold itV
        dsimp only
        go_wp2_with fail
        refine (symbolLine_any row col sc tall wide lev nm tx _ (by omega) (by omega) (by omega) (by omega) (by omega) (by omega) (HT.out.next HB2.out)).mono ?_
        rw [← HLN.out]
        rintro e w3 ⟨rfl, hb3⟩
        have HB3 := Lib.hid (bt0 HB2.out hb3 (Nat.le_refl _))
        clear hb3
        go_wp2_with fail
        exact ⟨⟨k + 1, _, by omega, by go_num, rfl, HNX.out, HB3.out⟩, by simp [intOf]; omega⟩
    · have hki : ¬ (k : Int) < (items.length : Int) := by omega
      have hke := Lib.hid (show V.data.toList = TL by have h := HV.out; rwa [show k = items.length by omega, HTF.out] at h)
      go_wp2_with fail
      go_ret
      exact ⟨ret_str (ba_eq hke.out), HBR.out⟩
set_option maxRecDepth 100000 in
set_option maxHeartbeats 2000000 in
theorem labelText_any (l : Lb) (a : Option Addr) (c : Nat) (w : World) (hx : itE.At w a l.items) (ht : ∀ x ∈ l.items, x.text.size ≤ 1048576) (hn : l.items.length ≤ 1048576) (hT : Tab w) :
    Calls Tryz.prog 9 #[lbV l a c] w fun e w' => e = .returned (.string ⟨(labT l).toArray⟩) ∧ Below w.heap.size w w' := by
  have HC := Lib.hid (fun w (hx : itE.At w a l.items) => isLabel_any l a c w hx ht hn)
  have HL := Lib.hid (fun w (hx : itE.At w a l.items) hok (hT : Tab w) => labelTextIn_any l a c w hx hok hT)
  have HX := Lib.hid hx
  have HT := Lib.hid hT
  obtain ⟨ok, hok⟩ : ∃ ok, ok = l.ok := ⟨_, rfl⟩
  have HY := Lib.hid (show labT l = if ok = true then textL l else [] by rw [labT, hok])
  rw [← hok] at HC HL
  obtain ⟨TX, hTX⟩ : ∃ TX, TX = textL l := ⟨_, rfl⟩
  obtain ⟨LT, hLT⟩ : ∃ LT, LT = labT l := ⟨_, rfl⟩
  rw [← hTX] at HL HY
  rw [← hLT] at HY ⊢
  clear hx ht hok hn hT hTX hLT
  obtain ⟨rows, cols, items⟩ := l
  dsimp only at HX HC HL ⊢
  have HB0 := Lib.hid (ba1 w (.cells #[.int .i64 rows, .int .i64 cols, .slice a items.length c] 29 (0, 0)))
  have K0 := Lib.hid (push_at w (.cells #[.int .i64 rows, .int .i64 cols, .slice a items.length c] 29 (0, 0)))
  go_enter Tryz.func9, Tryz.ntmps9
  go_wp2_with fail
  refine (HC.out _ (HX.out.below HB0.out)).mono ?_
  rintro e w1 ⟨rfl, hb1⟩
  have HB1 := Lib.hid (bt0 HB0.out hb1 (Nat.le_refl _))
  have K1 := Lib.hid (blkK hb1 K0.out)
  obtain ⟨hc1, hf1⟩ := heap_cellR K1.out
  have hl1 := blkLt K1.out
  clear hb1
  rcases Bool.eq_false_or_eq_true ok with rfl | rfl
  · have HL2 := Lib.hid (HL.out w1 (HX.out.below HB1.out) rfl (HT.out.next HB1.out))
    go_wp2_with fail
    refine HL2.out.mono ?_
    rintro e w2 ⟨rfl, hb2⟩
    have HB2 := Lib.hid (bt0 HB1.out hb2 (Nat.le_refl _))
    clear hb2
    go_wp2_with fail
    go_ret
    exact ⟨ret_str (by rw [HY.out]; simp), HB2.out⟩
  · go_wp2_with fail
    go_ret
    exact ⟨ret_str (by rw [HY.out]; simp), HB1.out⟩

end Go.Proofs.YtlcglclojlffgaaGreatDoor
