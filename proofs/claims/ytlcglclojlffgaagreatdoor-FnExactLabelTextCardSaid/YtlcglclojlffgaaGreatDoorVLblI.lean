import Derived.Test.YtlcglclojlffgaaGreatDoorVLblP
namespace Go.Proofs.YtlcglclojlffgaaGreatDoor
open Go.RowKit

set_option maxRecDepth 100000 in
set_option maxHeartbeats 4000000 in
theorem contains_any (R C row col r c : Int) (hR : 1 ≤ R ∧ R ≤ 400) (hC : 1 ≤ C ∧ C ≤ 400) (w : World) :
    Calls Tryz.prog 57 #[.agg #[.int .i64 R, .int .i64 C, .slice none 0 0], .int .i64 row, .int .i64 col, .int .i64 r, .int .i64 c] w fun e w' => e = .returned (.bool (cntB R C row col r c)) ∧ Below w.heap.size w w' := by
  obtain ⟨X, hX⟩ : ∃ X, X = cntB R C row col r c := ⟨_, rfl⟩
  have HX := Lib.hid (show X = (decide (0 ≤ row) && decide (0 ≤ col) && inB r 1 R && inB c 1 C && decide (row ≤ R - r) && decide (col ≤ C - c)) by rw [hX]; rfl)
  rw [← hX]
  clear hX
  have HB := Lib.hid (ba1 w (.cells #[.int .i64 R, .int .i64 C, .slice none 0 0] 101 (0, 0)))
  go_enter Tryz.func57, Tryz.ntmps57
  rcases Bool.eq_false_or_eq_true (decide (0 ≤ row)) with h1 | h1
  rotate_left
  · have HR := Lib.hid (show X = false by rw [HX.out, h1]; rfl)
    go_wp2_with (go_at_call 71; refine (inRange_any _ _ _ _).mono ?_; rintro e w' ⟨rfl, rfl⟩)
    go_ret
    exact ⟨ret_bool HR.out.symm, HB.out⟩
  rcases Bool.eq_false_or_eq_true (decide (0 ≤ col)) with h2 | h2
  rotate_left
  · have HR := Lib.hid (show X = false by rw [HX.out, h2, Bool.and_false]; rfl)
    go_wp2_with (go_at_call 71; refine (inRange_any _ _ _ _).mono ?_; rintro e w' ⟨rfl, rfl⟩)
    go_ret
    exact ⟨ret_bool HR.out.symm, HB.out⟩
  rcases Bool.eq_false_or_eq_true (inB r 1 R) with h3 | h3
  rotate_left
  · have HR := Lib.hid (show X = false by rw [HX.out, h3, Bool.and_false]; rfl)
    go_wp2_with (go_at_call 71; refine (inRange_any _ _ _ _).mono ?_; rw [h3]; rintro e w' ⟨rfl, rfl⟩)
    go_ret
    exact ⟨ret_bool HR.out.symm, HB.out⟩
  rcases Bool.eq_false_or_eq_true (inB c 1 C) with h4 | h4
  rotate_left
  · have HR := Lib.hid (show X = false by rw [HX.out, h4, Bool.and_false]; rfl)
    go_wp2_with (go_at_call 71; refine (inRange_any _ _ _ _).mono ?_; (first | rw [h3] | rw [h4]); rintro e w' ⟨rfl, rfl⟩)
    go_ret
    exact ⟨ret_bool HR.out.symm, HB.out⟩
  have b3 := inB_iff.1 h3
  have b4 := inB_iff.1 h4
  have hw1 : wrap64 (R - r) = R - r := by unfold wrap64; omega
  have hw2 : wrap64 (C - c) = C - c := by unfold wrap64; omega
  rcases Bool.eq_false_or_eq_true (decide (row ≤ R - r)) with h5 | h5
  rotate_left
  · have HR := Lib.hid (show X = false by rw [HX.out, h5, Bool.and_false]; rfl)
    go_wp2_with (go_at_call 71; refine (inRange_any _ _ _ _).mono ?_; (first | rw [h3] | rw [h4]); rintro e w' ⟨rfl, rfl⟩)
    go_ret
    exact ⟨ret_bool HR.out.symm, HB.out⟩
  have HR := Lib.hid (show X = decide (col ≤ C - c) by rw [HX.out, h1, h2, h3, h4, h5]; rfl)
  go_wp2_with (go_at_call 71; refine (inRange_any _ _ _ _).mono ?_; (first | rw [h3] | rw [h4]); rintro e w' ⟨rfl, rfl⟩)
  go_ret
  exact ⟨ret_bool HR.out.symm, HB.out⟩

/-- the boxes of a label are handed back, or none -/
def RetBs (w : World) (ok : Bool) (bs : List Bx) (e : Ending) (w' : World) : Prop :=
  Below w.heap.size w w' ∧ ((ok = true ∧ ∃ a c out, out = bs ∧ e = .returned (.tuple #[.slice a out.length c, .bool true]) ∧ bxE.Own w' w.heap.size (.slice a out.length c) out) ∨ (ok = false ∧ e = .returned (.tuple #[.slice none 0 0, .bool false])))
theorem all_noL {α : Type} {p : α → Bool} {l : List α} {k : Nat} {x : α} (h : l[k]? = some x) (hx : p x = false) : l.all p = false := by
  rw [List.all_eq_false]; exact ⟨x, List.mem_of_getElem? h, by rw [hx]; decide⟩
theorem all_snocL {α : Type} {p : α → Bool} {l : List α} {k : Nat} {x : α} (h : l[k]? = some x) (ha : (l.take k).all p = true) (hx : p x = true) : (l.take (k + 1)).all p = true := by
  rw [take_snoc' h, List.all_append, ha]; simp [hx]
/-- a label as a value -/
abbrev lbV (l : Lb) (a : Option Addr) (c : Nat) : Value := .agg #[.int .i64 l.rows, .int .i64 l.cols, .slice a l.items.length c]
set_option maxRecDepth 100000 in
set_option maxHeartbeats 8000000 in
theorem boxes_any (l : Lb) (a : Option Addr) (c : Nat) (w : World) (hx : itE.At w a l.items) (ht : ∀ x ∈ l.items, x.text.size ≤ 1048576) (hn : l.items.length ≤ 1048576) :
    Calls Tryz.prog 34 #[lbV l a c] w (RetBs w l.ok (l.items.map bxO)) := by
  have HOK := Lib.hid (lbok_parts l)
  have HX := Lib.hid hx
  have HT := Lib.hid ht
  obtain ⟨ok, hok⟩ : ∃ ok, ok = l.ok := ⟨_, rfl⟩
  have HOKe := Lib.hid hok
  rw [← hok] at HOK ⊢
  clear hx ht hok
  have HSZ := Lib.hid (fun w => isRasterSize_any l.rows l.cols w)
  have HLl := Lib.hid (show ∀ x r c, boxI x = some (r, c) → onL l x = cntB l.rows l.cols x.row x.col r c from fun x r c h => onL_cnt h)
  have HLn := Lib.hid (show ∀ x, boxI x = none → onL l x = false from fun x h => onL_none h)
  obtain ⟨ON, hON⟩ : ∃ ON, ON = onL l := ⟨_, rfl⟩
  rw [← hON] at HOK HLl HLn
  clear hON
  obtain ⟨rows, cols, items⟩ := l
  dsimp only at hn HOK HX HT HSZ HLl HLn ⊢
  have HB0 := Lib.hid (ba1 w (.cells #[.int .i64 rows, .int .i64 cols, .slice a items.length c] 29 (0, 0)))
  go_enter Tryz.func34, Tryz.ntmps34
  go_wp2_with fail
  refine (HSZ.out _).mono ?_
  rintro e w' ⟨rfl, rfl⟩
  rcases Bool.eq_false_or_eq_true (sizeB rows cols) with h1 | h1
  rotate_left
  · have HR := Lib.hid (show ok = false by rw [HOK.out, h1]; rfl)
    rw [h1]
    clear h1
    go_wp2_with fail
    go_ret2
    exact ⟨HB0.out, .inr ⟨HR.out, rfl⟩⟩
  rw [h1]
  by_cases h12 : items.length ≤ 12
  rotate_left
  · have HR := Lib.hid (show ok = false by rw [HOK.out, decide_eq_false h12, Bool.and_false]; rfl)
    have h12i : (12 : Int) < (items.length : Int) := by omega
    clear h1
    go_wp2_with fail
    go_ret2
    exact ⟨HB0.out, .inr ⟨HR.out, rfl⟩⟩
  have h12i : ¬ (12 : Int) < (items.length : Int) := by omega
  have HAll := Lib.hid (show ok = items.all ON by rw [HOK.out, h1, decide_eq_true h12]; rfl)
  have hsb : (1 ≤ rows ∧ rows ≤ 400) ∧ (1 ≤ cols ∧ cols ≤ 400) := by
    rw [sizeB, Bool.and_eq_true, Bool.and_eq_true] at h1
    exact ⟨inB_iff.1 h1.1.1, inB_iff.1 h1.1.2⟩
  clear h1
  have e2 := heap2 w (.cells #[.int .i64 rows, .int .i64 cols, .slice a items.length c] 29 (0, 0)) (.cells #[.int .i64 rows, .int .i64 cols, .slice none 0 0] 101 (0, 0))
  have hB2 := ba2 w (.cells #[.int .i64 rows, .int .i64 cols, .slice a items.length c] 29 (0, 0)) (.cells #[.int .i64 rows, .int .i64 cols, .slice none 0 0] 101 (0, 0))
  obtain ⟨W, hW⟩ : ∃ W, W = (w.alloc (.cells #[.int .i64 rows, .int .i64 cols, .slice a items.length c] 29 (0, 0))).alloc (.cells #[.int .i64 rows, .int .i64 cols, .slice none 0 0] 101 (0, 0)) := ⟨_, rfl⟩
  have hWs : W.heap.size = w.heap.size + 1 + 1 := by rw [hW]; simp
  have HW := Lib.hid hW
  rw [← hW] at e2 hB2
  have K1 := Lib.hid e2.1
  have K2 := Lib.hid e2.2
  have HB2 := Lib.hid hB2
  clear hW e2 hB2
  go_wp2_with fail
  go_loopw [5, 32] (fun v i wr => ∃ (k : Nat) (a' : Option Addr) (c' : Nat) (out : List Bx), k ≤ items.length ∧ i = .int .i64 (k : Int) ∧ v = .slice a' out.length c' ∧ out = (items.take k).map bxO ∧ (items.take k).all ON = true ∧ bxE.Own wr W.heap.size v out ∧ Below W.heap.size W wr) (fun _ i _ => items.length - (intOf i).toNat)
  case atStart =>
    rw [← HW.out]
    refine ⟨0, _, 0, [], Nat.zero_le _, rfl, rfl, rfl, rfl, ?_, ba1 _ _⟩
    have h := Enc.Own.new bxE W
    rw [hWs] at h ⊢
    exact h
  case round =>
    have HWS := Lib.hid hWs
    clear hWs
    obtain ⟨k, a', c', out, hk, rfl, rfl, hout, hall, ho, hbr⟩ := hrel
    have HOut := Lib.hid hout
    have HAL := Lib.hid hall
    have HO := Lib.hid ho
    have HBR := Lib.hid hbr
    have hol : out.length ≤ 12 := by rw [hout, List.length_map, List.length_take]; omega
    have KR1 := Lib.hid (blkK hbr K1.out)
    have KR2 := Lib.hid (blkK hbr K2.out)
    have HXr := Lib.hid (HX.out.below (bt0 HB2.out hbr (Nat.le_refl _)))
    clear hout hall ho hbr
    obtain ⟨hc1, hf1⟩ := heap_cellR KR1.out
    obtain ⟨hc2, hf2⟩ := heap_cellR KR2.out
    have hl1 := blkLt KR1.out
    have hl2 := blkLt KR2.out
    by_cases hlt : k < items.length
    · have hki : (k : Int) < (items.length : Int) := by omega
      obtain ⟨x, hx⟩ : ∃ x, items[k]? = some x := by rw [List.getElem?_eq_getElem hlt]; exact ⟨_, rfl⟩
      have HXK := Lib.hid hx
      have htx := HT.out x (List.mem_of_getElem? hx)
      obtain ⟨b, o, rfl, hbl, y0, y1, y2, y3, y4, y5, y6, y7, y8⟩ := it_at HXr.out hx
      have HIB := Lib.hid (fun w => itemBox_any x htx w)
      have HLl2 := Lib.hid (HLl.out x)
      have HLn2 := Lib.hid (HLn.out x)
      have HBO := Lib.hid (fun r c h => bxO_some (x := x) (r := r) (c := c) h)
      have HBD := Lib.hid (fun r c h => boxI_bd (x := x) (r := r) (c := c) h)
      obtain ⟨BI, hBI⟩ : ∃ BI, BI = boxI x := ⟨_, rfl⟩
      rw [← hBI] at HIB HLl2 HLn2 HBO HBD
      clear hx htx hBI
      obtain ⟨kd, row, col, sc, tall, wide, nm, lev, tx⟩ := x
      dsimp only at y0 y1 y2 y3 y4 y5 y6 y7 y8 HIB HLl2 HLn2 HBO
      unfold itV at HIB
      go_wp2_with fail
      have KI := Lib.hid (push_at wr (.cells #[.int .i64 kd, .int .i64 row, .int .i64 col, .int .i64 sc, .int .i64 tall, .int .i64 wide, .string nm, .int .i64 lev, .string tx] 49 (0, 0)))
      have HBI := Lib.hid (bt0 HBR.out (ba1 wr (.cells #[.int .i64 kd, .int .i64 row, .int .i64 col, .int .i64 sc, .int .i64 tall, .int .i64 wide, .string nm, .int .i64 lev, .string tx] 49 (0, 0))) (Nat.le_refl _))
      have HOI := Lib.hid (HO.out.grown (ba1 wr (.cells #[.int .i64 kd, .int .i64 row, .int .i64 col, .int .i64 sc, .int .i64 tall, .int .i64 wide, .string nm, .int .i64 lev, .string tx] 49 (0, 0))))
      refine (HIB.out _).mono ?_
      rintro e w2 ⟨hb2, hr⟩
      have KI2 := Lib.hid (blkK hb2 KI.out)
      have HBJ := Lib.hid (bt0 HBI.out hb2 (Nat.le_refl _))
      have HOJ := Lib.hid (HOI.out.grown hb2)
      have KJ2 := Lib.hid (blkK HBJ.out K2.out)
      clear hb2 hc1 hf1 hc2 hf2 y0 y1 y2 y3 y4 y5 y6 y7 y8
      obtain ⟨hcI, hfI⟩ := heap_cellR KI2.out
      have hlI := blkLt KI2.out
      obtain ⟨hc2, hf2⟩ := heap_cellR KJ2.out
      have hl3 := blkLt KJ2.out
      rcases hr with ⟨r, cc, hr, rfl⟩ | ⟨hr, rfl⟩
      rotate_left
      · have HR := Lib.hid (show ok = false by rw [HAll.out]; exact all_noL HXK.out (HLn2.out hr))
        clear hr
        go_wp2_with fail
        go_ret2
        exact ⟨bt0 HB2.out HBJ.out (Nat.le_refl _), .inr ⟨HR.out, rfl⟩⟩
      have HR := Lib.hid hr
      have hbd := HBD.out r cc hr
      clear hr
      go_wp2_with fail
      refine (contains_any rows cols row col r cc hsb.1 hsb.2 _).mono ?_
      rw [← HLl2.out r cc HR.out]
      rintro e w3 ⟨rfl, hb3⟩
      have KI3 := Lib.hid (blkK hb3 KI2.out)
      have HBK := Lib.hid (bt0 HBJ.out hb3 (Nat.le_refl _))
      have HOK3 := Lib.hid (HOJ.out.grown hb3)
      clear hb3 hcI hfI hc2 hf2
      obtain ⟨hcI, hfI⟩ := heap_cellR KI3.out
      have hlI3 := blkLt KI3.out
      rcases Bool.eq_false_or_eq_true (ON ⟨kd, row, col, sc, tall, wide, nm, lev, tx⟩) with hon | hon
      rotate_left
      · have HR2 := Lib.hid (show ok = false by rw [HAll.out]; exact all_noL HXK.out hon)
        rw [hon]
        clear hon
        go_wp2_with fail
        go_ret2
        exact ⟨bt0 HB2.out HBK.out (Nat.le_refl _), .inr ⟨HR2.out, rfl⟩⟩
      have HON := Lib.hid (all_snocL HXK.out HAL.out hon)
      rw [hon]
      clear hon
      go_wp2_with (at_builtin; refine wpList_append_bx rfl (.tmp 55) (.tmp 63) rfl W.heap.size (.slice a' out.length c') out ⟨row, col, r, cc⟩ rfl (HOK3.out.grown (ba1 _ _)) w3.heap.size rfl (push_at w3 _) (by omega) (by have := HBK.out.size; simp; omega) ?h9)
      case h9 =>
      intro a4 c4 out4 w4 he4 ho4 hg4 hb4
      have HE4 := Lib.hid he4
      have HO4 := Lib.hid ho4
      have HB4 := Lib.hid ((HBK.out.alloc HBK.out.size _).trans hb4)
      clear he4 ho4 hg4 hb4 hcI hfI
      go_wp2_with fail
      refine ⟨⟨k + 1, a4, c4, out4, by omega, by go_num, rfl, ?_, HON.out, HO4.out, HB4.out⟩, by simp [intOf]; omega⟩
      rw [HE4.out, HOut.out, take_snoc' HXK.out, List.map_append, List.map_cons, List.map_nil, HBO.out r cc HR.out]
    · have hki : ¬ (k : Int) < (items.length : Int) := by omega
      have HR := Lib.hid (show ok = true by rw [HAll.out]; have h := HAL.out; rwa [List.take_of_length_le (by omega)] at h)
      have HOut2 := Lib.hid (show out = items.map bxO by have h := HOut.out; rwa [List.take_of_length_le (by omega)] at h)
      go_wp2_with fail
      go_ret2
      exact ⟨bt0 HB2.out HBR.out (Nat.le_refl _), .inl ⟨HR.out, a', c', out, HOut2.out, rfl, HO.out.weak (by have := HWS.out; omega)⟩⟩

set_option maxRecDepth 100000 in
theorem isLabel_any (l : Lb) (a : Option Addr) (c : Nat) (w : World) (hx : itE.At w a l.items) (ht : ∀ x ∈ l.items, x.text.size ≤ 1048576) (hn : l.items.length ≤ 1048576) :
    Calls Tryz.prog 25 #[lbV l a c] w fun e w' => e = .returned (.bool l.ok) ∧ Below w.heap.size w w' := by
  have HC := Lib.hid (fun w (hx : itE.At w a l.items) => boxes_any l a c w hx ht hn)
  have HX := Lib.hid hx
  obtain ⟨ok, hok⟩ : ∃ ok, ok = l.ok := ⟨_, rfl⟩
  rw [← hok] at HC ⊢
  clear hx ht hok hn
  obtain ⟨rows, cols, items⟩ := l
  dsimp only at HX HC ⊢
  have HB0 := Lib.hid (ba1 w (.cells #[.int .i64 rows, .int .i64 cols, .slice a items.length c] 29 (0, 0)))
  go_enter Tryz.func25, Tryz.ntmps25
  go_wp2_with fail
  refine (HC.out _ (HX.out.below HB0.out)).mono ?_
  rintro e w1 ⟨hb1, hr⟩
  have HB1 := Lib.hid (bt0 HB0.out hb1 (Nat.le_refl _))
  clear hb1
  rcases hr with ⟨ho, a1, c1, out, -, rfl, -⟩ | ⟨ho, rfl⟩
  · have HO := Lib.hid ho
    clear ho
    go_wp2_with fail
    go_ret
    exact ⟨ret_bool HO.out.symm, HB1.out⟩
  · have HO := Lib.hid ho
    clear ho
    go_wp2_with fail
    go_ret
    exact ⟨ret_bool HO.out.symm, HB1.out⟩

end Go.Proofs.YtlcglclojlffgaaGreatDoor
