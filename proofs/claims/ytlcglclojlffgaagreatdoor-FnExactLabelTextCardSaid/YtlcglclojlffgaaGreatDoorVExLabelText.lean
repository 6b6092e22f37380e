import Derived.Test.YtlcglclojlffgaaGreatDoorVLbX
import Derived.Test.YtlcglclojlffgaaGreatDoorVLabI
import Derived.Test.YtlcglclojlffgaaGreatDoorVSpLl
namespace Go.Proofs.YtlcglclojlffgaaGreatDoor
open Go.RowKit

/-- a label of a region's own -/
def LbV (rows cols : Int) (items : List It) (v : Value) (W : World) : Prop := ∃ b : Nat, v = .agg #[.int .i64 rows, .int .i64 cols, .slice (some ⟨b, 0, none⟩) items.length items.length] ∧ itE.At W (some ⟨b, 0, none⟩) items
def spLbv (rows cols : Int) (items : List It) : Sp KB := ⟨LbV rows cols items, fun _ _ _ hk ⟨b, e, h⟩ => ⟨b, e, h.below hk⟩⟩
set_option maxRecDepth 100000 in
set_option maxHeartbeats 8000000 in
theorem exLabelText_any (l : Lb) (a : Option Addr) (c : Nat) (w : World) (hx : itE.At w a l.items) (hl : l.items.length ≤ maxLen) (hs : ∀ y ∈ l.items, y.name.size ≤ maxLen ∧ y.text.size ≤ maxLen) (hT : Tab w) :
    Calls Tryz.prog 3 #[lbV l a c] w fun e w' => e = .returned (.bool true) ∧ Below w.heap.size w w' := by
  have HX := Lib.hid hx
  have HT := Lib.hid hT
  have HSZ := Lib.hid (fun w hx => szLabel_any l a c w hx hl hs)
  have HTO := Lib.hid (fun w hx h => toLabel_any l a c w hx h)
  have HSP := Lib.hid (fun a c w hx ht hn => spLabelText_any l a c w hx ht hn)
  have HIM := Lib.hid (fun a c w hx ht hn hT => labelText_any l a c w hx ht hn hT)
  have HEQ := Lib.hid (fun a b c d w hx hy hl => eqLabel_same l a b c d w hx hy hl)
  obtain ⟨LT, hLT⟩ : ∃ LT, LT = (⟨(labT l).toArray⟩ : ByteArray) := ⟨_, rfl⟩
  rw [← hLT] at HSP HIM
  have hcc : (LT.toList == LT.toList) = true := by simp
  clear hx hl hs hT hLT
  obtain ⟨rows, cols, items⟩ := l
  unfold RetLb at HTO
  dsimp only at HX HSZ HTO HSP HIM HEQ ⊢
  have HB0 := Lib.hid (ba1 w (.cells #[.int .i64 rows, .int .i64 cols, .slice a items.length c] 24 (0, 0)))
  have K0 := Lib.hid (push_at w (.cells #[.int .i64 rows, .int .i64 cols, .slice a items.length c] 24 (0, 0)))
  go_enter Tryz.func3, Tryz.ntmps3
  go_wp2_with fail
  refine (HSZ.out _ (HX.out.below HB0.out)).mono ?_
  rintro e w1 ⟨⟨r, rfl, hr, hbig⟩, hb1⟩
  have HB1 := Lib.hid (bt0 HB0.out hb1 (Nat.le_refl _))
  have K1 := Lib.hid (blkK hb1 K0.out)
  clear hb1
  obtain ⟨hcA, hfA⟩ := heap_cellR K1.out
  have hltA := blkLt K1.out
  by_cases h0 : r < 0
  · go_wp2_with fail
    go_ret
    exact ⟨rfl, HB1.out⟩
  obtain ⟨hn, hts⟩ := hbig (by omega)
  have HTX := Lib.hid (show ∀ x ∈ items, x.text.size ≤ 1048576 from fun x hx => (hts x hx).2)
  clear hbig hts hr
  go_wp2_with fail
  refine (HTO.out _ (HX.out.below HB1.out) hn).mono ?_
  rintro e w2 ⟨b2, rfl, hat2, hb2⟩
  have HA2 := Lib.hid hat2
  have HB2 := Lib.hid (bt0 HB1.out hb2 (Nat.le_refl _))
  have K2 := Lib.hid (blkK hb2 K1.out)
  clear hat2 hb2 hcA hfA hltA
  go_wp2_with fail
  refine (HSP.out (some ⟨b2, 0, none⟩) items.length _ HA2.out HTX.out hn).mono ?_
  rintro e w3 ⟨rfl, hb3⟩
  have HB3 := Lib.hid (bt0 HB2.out hb3 (Nat.le_refl _))
  have K3 := Lib.hid (blkK hb3 K2.out)
  clear hb3
  obtain ⟨hcA, hfA⟩ := heap_cellR K3.out
  have hltA := blkLt K3.out
  go_wp2_with fail
  refine (HTO.out _ (HX.out.below HB3.out) hn).mono ?_
  rintro e w4 ⟨b4, rfl, hat4, hb4⟩
  have HA4 := Lib.hid hat4
  have HB4 := Lib.hid (bt0 HB3.out hb4 (Nat.le_refl _))
  have K4 := Lib.hid (blkK hb4 K3.out)
  clear hat4 hb4 hcA hfA hltA
  go_wp2_with fail
  have KX := Lib.hid (push_at w4 (.cells #[.int .i64 rows, .int .i64 cols, .slice (some ⟨b4, 0, none⟩) items.length items.length] 29 (0, 0)))
  have hB5 := ba1 w4 (.cells #[.int .i64 rows, .int .i64 cols, .slice (some ⟨b4, 0, none⟩) items.length items.length] 29 (0, 0))
  have HA5 := Lib.hid (HA4.out.below hB5)
  have HB5 := Lib.hid (bt0 HB4.out hB5 (Nat.le_refl _))
  have K5 := Lib.hid (blkK hB5 K4.out)
  clear hB5
  refine (HIM.out (some ⟨b4, 0, none⟩) items.length _ HA5.out HTX.out hn (HT.out.next HB5.out)).mono ?_
  rintro e w6 ⟨rfl, hb6⟩
  have HA6 := Lib.hid (HA5.out.below hb6)
  have HB6 := Lib.hid (bt0 HB5.out hb6 (Nat.le_refl _))
  have K6 := Lib.hid (blkK hb6 K5.out)
  have KX6 := Lib.hid (blkK hb6 KX.out)
  clear hb6
  go_wp2_with fail
  refine wp_region_rt (Keep := KB) [22, 23, 24, 25, 26] (fun us => _)
    [spE (.agg #[.int .i64 rows, .int .i64 cols, .slice (some ⟨b4, 0, none⟩) items.length items.length]),
     spE (.agg #[.int .i64 rows, .int .i64 cols, .slice a items.length c]),
     spLbv rows cols items,
     spE (.bool true),
     spE (.bool false)]
    (StX w6) (by kernel_rfl) (by kernel_rfl) (Nat.le_of_ble_eq_true rfl) (fun us => by simp [over, List.mapIdx_cons]; exact rfl) (stX0 _) kbr ?_ ?_
  · refine ⟨?_, ?_, ?_, ?_, ?_, trivial⟩
    all_goals (intro us wx hst hd; rw [if_pos (by kernel_rfl)]; dsimp only)
    · clear hd
      obtain ⟨hcX, hfX⟩ := heap_cellR (blkK hst KX6.out)
      have hltX := blkLt (blkK hst KX6.out)
      go_simp
      exact kb_same hst rfl
    · clear hd
      obtain ⟨hcA, hfA⟩ := heap_cellR (blkK hst K6.out)
      have hltA := blkLt (blkK hst K6.out)
      go_simp
      exact kb_same hst rfl
    · have d23 : us 23 = .agg #[.int .i64 rows, .int .i64 cols, .slice a items.length c] := hd ⟨1, .data⟩ (by simp) rfl
      clear hd
      have h9 := HTO.out wx (HX.out.below (bt0 HB6.out hst (Nat.le_refl _))) hn
      go_simp
      exact h9.mono fun e w' ⟨b, he, hat, hb⟩ => ⟨_, he, kb_below hst hb ⟨b, rfl, hat⟩⟩
    · have d22 : us 22 = .agg #[.int .i64 rows, .int .i64 cols, .slice (some ⟨b4, 0, none⟩) items.length items.length] := hd ⟨0, .data⟩ (by simp) rfl
      have d24 := hd ⟨2, .data⟩ (by simp) rfl
      clear hd
      obtain ⟨b9, e24, hat9⟩ : LbV rows cols items (us 24) wx := d24
      have h9 := HEQ.out (some ⟨b4, 0, none⟩) (some ⟨b9, 0, none⟩) items.length items.length wx (HA6.out.below hst) hat9 hn
      go_simp
      exact h9.mono fun e w' ⟨he, hb⟩ => ⟨_, he, kb_below hst hb rfl⟩
    · have d25 : us 25 = .bool true := hd ⟨3, .data⟩ (by simp) rfl
      clear hd
      go_simp
      exact kb_same hst rfl
  · intro us wx hst hd
    have d26 : us 26 = .bool false := hd 4 (by simp)
    clear hd
    simp only [List.drop, List.length]
    rw [d26]
    have HST := Lib.hid hst
    clear hst
    go_wp2_with fail
    go_ret
    exact ⟨rfl, bt0 HB6.out HST.out (Nat.le_refl _)⟩

end Go.Proofs.YtlcglclojlffgaaGreatDoor
