import Derived.Test.YtlcglclojlffgaaGreatDoorVSpLi
import Derived.Test.YtlcglclojlffgaaGreatDoorVLblI
namespace Go.Proofs.YtlcglclojlffgaaGreatDoor
open Go.RowKit

theorem onL_in {l : Lb} {x : It} {r c : Int} (h : boxI x = some (r, c)) : onL l x = (decide (r ≤ l.rows) && decide (c ≤ l.cols) && inB x.row 0 (l.rows - r) && inB x.col 0 (l.cols - c)) := by
  unfold onL
  rw [h, Bool.eq_iff_iff]
  simp only [inB, Bool.and_eq_true, decide_eq_true_eq, and_assoc]
set_option maxRecDepth 100000 in
set_option maxHeartbeats 8000000 in
theorem spIsLabel_any (l : Lb) (a : Option Addr) (c : Nat) (w : World) (hx : itE.At w a l.items) (ht : ∀ x ∈ l.items, x.text.size ≤ 1048576) (hn : l.items.length ≤ 1048576) :
    Calls Tryz.prog 21 #[lbV l a c] w fun e w' => e = .returned (.bool l.ok) ∧ Below w.heap.size w w' := by
  have HOK := Lib.hid (lbok_parts l)
  have HX := Lib.hid hx
  have HT := Lib.hid ht
  obtain ⟨ok, hok⟩ : ∃ ok, ok = l.ok := ⟨_, rfl⟩
  rw [← hok] at HOK ⊢
  clear hx ht hok
  have HSZ := Lib.hid (fun w => l20Size_any l.rows l.cols w)
  have HLl := Lib.hid (show ∀ x r c, boxI x = some (r, c) → onL l x = (decide (r ≤ l.rows) && decide (c ≤ l.cols) && inB x.row 0 (l.rows - r) && inB x.col 0 (l.cols - c)) from fun x r c h => onL_in h)
  have HLn := Lib.hid (show ∀ x, boxI x = none → onL l x = false from fun x h => onL_none h)
  obtain ⟨ON, hON⟩ : ∃ ON, ON = onL l := ⟨_, rfl⟩
  rw [← hON] at HOK HLl HLn
  clear hON
  obtain ⟨rows, cols, items⟩ := l
  dsimp only at hn HOK HX HT HSZ HLl HLn ⊢
  have HB0 := Lib.hid (ba1 w (.cells #[.int .i64 rows, .int .i64 cols, .slice a items.length c] 29 (0, 0)))
  have K0 := Lib.hid (push_at w (.cells #[.int .i64 rows, .int .i64 cols, .slice a items.length c] 29 (0, 0)))
  go_enter Tryz.func21, Tryz.ntmps21
  go_wp2_with fail
  refine (HSZ.out _).mono ?_
  rintro e w' ⟨rfl, rfl⟩
  rcases Bool.eq_false_or_eq_true (sizeB rows cols) with h1 | h1
  rotate_left
  · have HR := Lib.hid (show ok = false by rw [HOK.out, h1]; rfl)
    rw [h1]
    clear h1
    go_wp2_with fail
    go_ret
    exact ⟨ret_bool HR.out.symm, HB0.out⟩
  rw [h1]
  by_cases h12 : items.length ≤ 12
  rotate_left
  · have HR := Lib.hid (show ok = false by rw [HOK.out, decide_eq_false h12, Bool.and_false]; rfl)
    have h12i : (12 : Int) < (items.length : Int) := by omega
    clear h1
    go_wp2_with fail
    go_ret
    exact ⟨ret_bool HR.out.symm, HB0.out⟩
  have h12i : ¬ (12 : Int) < (items.length : Int) := by omega
  have HAll := Lib.hid (show ok = items.all ON by rw [HOK.out, h1, decide_eq_true h12]; rfl)
  have hsb : (1 ≤ rows ∧ rows ≤ 400) ∧ (1 ≤ cols ∧ cols ≤ 400) := by
    rw [sizeB, Bool.and_eq_true, Bool.and_eq_true] at h1
    exact ⟨inB_iff.1 h1.1.1, inB_iff.1 h1.1.2⟩
  clear h1
  go_wp2_with fail
  go_loopw [3] (fun i wr => ∃ k : Nat, k ≤ items.length ∧ i = .int .i64 (k : Int) ∧ (items.take k).all ON = true ∧ Below w.heap.size w wr ∧ wr.heap[w.heap.size]? = some (.cells #[.int .i64 rows, .int .i64 cols, .slice a items.length c] 29 (0, 0))) (fun i _ => items.length - (intOf i).toNat)
  case atStart => exact ⟨0, Nat.zero_le _, rfl, rfl, HB0.out, K0.out⟩
  case round =>
    obtain ⟨k, hk, rfl, hall, hbr, hkr⟩ := hrel
    have HAL := Lib.hid hall
    have HBR := Lib.hid hbr
    have KR := Lib.hid hkr
    have HXr := Lib.hid (HX.out.below hbr)
    obtain ⟨hc1, hf1⟩ := heap_cellR hkr
    have hl1 := blkLt hkr
    clear hall hbr hkr
    by_cases hlt : k < items.length
    · have hki : (k : Int) < (items.length : Int) := by omega
      obtain ⟨x, hx⟩ : ∃ x, items[k]? = some x := by rw [List.getElem?_eq_getElem hlt]; exact ⟨_, rfl⟩
      have HXK := Lib.hid hx
      have htx := HT.out x (List.mem_of_getElem? hx)
      obtain ⟨b, o, rfl, hbl, y0, y1, y2, y3, y4, y5, y6, y7, y8⟩ := it_at HXr.out hx
      have HIB := Lib.hid (fun w => spItemBox_any x w htx)
      have HLl2 := Lib.hid (HLl.out x)
      have HLn2 := Lib.hid (HLn.out x)
      have HBD := Lib.hid (fun r c h => boxI_bd (x := x) (r := r) (c := c) h)
      obtain ⟨BI, hBI⟩ : ∃ BI, BI = boxI x := ⟨_, rfl⟩
      rw [← hBI] at HIB HLl2 HLn2 HBD
      clear hx htx hBI
      obtain ⟨kd, row, col, sc, tall, wide, nm, lev, tx⟩ := x
      dsimp only at y0 y1 y2 y3 y4 y5 y6 y7 y8 HIB HLl2 HLn2
      unfold itV at HIB
      go_wp2_with fail
      have KI := Lib.hid (push_at wr (.cells #[.int .i64 kd, .int .i64 row, .int .i64 col, .int .i64 sc, .int .i64 tall, .int .i64 wide, .string nm, .int .i64 lev, .string tx] 49 (0, 0)))
      have KL := Lib.hid (blkK (ba1 wr (.cells #[.int .i64 kd, .int .i64 row, .int .i64 col, .int .i64 sc, .int .i64 tall, .int .i64 wide, .string nm, .int .i64 lev, .string tx] 49 (0, 0))) KR.out)
      have HBI := Lib.hid (bt0 HBR.out (ba1 wr (.cells #[.int .i64 kd, .int .i64 row, .int .i64 col, .int .i64 sc, .int .i64 tall, .int .i64 wide, .string nm, .int .i64 lev, .string tx] 49 (0, 0))) (Nat.le_refl _))
      refine (HIB.out _).mono ?_
      rintro e w2 ⟨hb2, hr⟩
      have KI2 := Lib.hid (blkK hb2 KI.out)
      have KL2 := Lib.hid (blkK hb2 KL.out)
      have HBJ := Lib.hid (bt0 HBI.out hb2 (Nat.le_refl _))
      clear hb2 hc1 hf1 y0 y1 y2 y3 y4 y5 y6 y7 y8
      obtain ⟨hcI, hfI⟩ := heap_cellR KI2.out
      have hlI := blkLt KI2.out
      obtain ⟨hc2, hf2⟩ := heap_cellR KL2.out
      have hl3 := blkLt KL2.out
      rcases hr with ⟨r, cc, hr, rfl⟩ | ⟨hr, rfl⟩
      rotate_left
      · have HR := Lib.hid (show ok = false by rw [HAll.out]; exact all_noL HXK.out (HLn2.out hr))
        clear hr
        go_wp2_with fail
        go_ret
        exact ⟨ret_bool HR.out.symm, HBJ.out⟩
      have HONe := Lib.hid (HLl2.out r cc hr)
      have hbd := HBD.out r cc hr
      clear hr
      by_cases g1 : r ≤ rows
      rotate_left
      · have HR := Lib.hid (show ok = false by rw [HAll.out]; exact all_noL HXK.out (by rw [HONe.out, decide_eq_false g1]; rfl))
        have g1i : rows < r := by omega
        go_wp2_with fail
        go_ret
        exact ⟨ret_bool HR.out.symm, HBJ.out⟩
      have g1i : ¬ rows < r := by omega
      by_cases g2 : cc ≤ cols
      rotate_left
      · have HR := Lib.hid (show ok = false by rw [HAll.out]; exact all_noL HXK.out (by rw [HONe.out, decide_eq_false g2, Bool.and_false]; rfl))
        have g2i : cols < cc := by omega
        go_wp2_with fail
        go_ret
        exact ⟨ret_bool HR.out.symm, HBJ.out⟩
      have g2i : ¬ cols < cc := by omega
      have hw1 : wrap64 (rows - r) = rows - r := by unfold wrap64; omega
      have hw2 : wrap64 (cols - cc) = cols - cc := by unfold wrap64; omega
      rcases Bool.eq_false_or_eq_true (inB row 0 (rows - r)) with g3 | g3
      rotate_left
      · have HR := Lib.hid (show ok = false by rw [HAll.out]; exact all_noL HXK.out (by rw [HONe.out, g3, Bool.and_false]; rfl))
        go_wp2_with (go_at_call 44; refine (spIn_any _ _ _ _).mono ?_; rw [g3]; rintro e w' ⟨rfl, rfl⟩)
        go_ret
        exact ⟨ret_bool HR.out.symm, HBJ.out⟩
      rcases Bool.eq_false_or_eq_true (inB col 0 (cols - cc)) with g4 | g4
      rotate_left
      · have HR := Lib.hid (show ok = false by rw [HAll.out]; exact all_noL HXK.out (by rw [HONe.out, g4, Bool.and_false]))
        go_wp2_with (go_at_call 44; refine (spIn_any _ _ _ _).mono ?_; (first | rw [g3] | rw [g4]); rintro e w' ⟨rfl, rfl⟩)
        go_ret
        exact ⟨ret_bool HR.out.symm, HBJ.out⟩
      have HR := Lib.hid (all_snocL HXK.out HAL.out (show ON ⟨kd, row, col, sc, tall, wide, nm, lev, tx⟩ = true by rw [HONe.out, decide_eq_true g1, decide_eq_true g2, g3, g4]; rfl))
      go_wp2_with (go_at_call 44; refine (spIn_any _ _ _ _).mono ?_; (first | rw [g3] | rw [g4]); rintro e w' ⟨rfl, rfl⟩)
      exact ⟨⟨k + 1, by omega, by go_num, HR.out, HBJ.out, KL2.out⟩, by simp [intOf]; omega⟩
    · have hki : ¬ (k : Int) < (items.length : Int) := by omega
      have HR := Lib.hid (show ok = true by rw [HAll.out]; have h := HAL.out; rwa [List.take_of_length_le (by omega)] at h)
      go_wp2_with fail
      go_ret
      exact ⟨ret_bool HR.out.symm, HBR.out⟩

end Go.Proofs.YtlcglclojlffgaaGreatDoor
