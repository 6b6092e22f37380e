import Derived.Test.YtpilkgcghlfdmaaGreatDoorVPsD2
namespace Go.Proofs.YtpilkgcghlfdmaaGreatDoor
open Go.RowKit

theorem rd_zero {h : List UInt8} {t : List (List UInt8)} (hk : kindOf h = 0) : rdOne (h :: t) = none := by
  unfold rdOne
  simp only []
  split
  · rfl
  · rw [hk]; rfl
theorem word_ne {h : ByteArray} {l : List UInt8} (hn : h.data.toList ≠ l) : (h.toList == l) = false := by
  rw [Bool.eq_false_iff]
  intro e
  rw [beq_iff_eq, ByteArray.toList_eq] at e
  exact hn e
theorem kind_zero {l : List UInt8} (h : kindOf l = 0) : l ≠ dBlot ∧ l ≠ dScratch ∧ l ≠ dSkew ∧ l ≠ dNoise ∧ l ≠ dFade := by
  unfold kindOf at h
  repeat' split at h
  all_goals first | omega | (refine ⟨?_, ?_, ?_, ?_, ?_⟩ <;> assumption)

set_option maxRecDepth 100000 in
set_option maxHeartbeats 2000000 in
theorem damage_0 (q : Nat) (h : ByteArray) (t : List ByteArray) (w : World) (hp : Psr w q (h :: t)) (hk : kindOf h.data.toList = 0) :
    Calls Tryz.prog 32 #[.pointer (some ⟨q, 0, none⟩)] w fun e w' => DmgEnd (rdOne (bytesL (h :: t))) e ∧ w.grownBy w' (some q) := by
  have HP := Lib.hid hp
  have hlt := hp.lt
  have HK := Lib.hid hk
  obtain ⟨k1, k2, k3, k4, k5⟩ := kind_zero hk
  have e1 : (h.toList == [98, 108, 111, 116]) = false := word_ne k1
  have e2 : (h.toList == [115, 99, 114, 97, 116, 99, 104]) = false := word_ne k2
  have e3 : (h.toList == [115, 107, 101, 119]) = false := word_ne k3
  have e4 : (h.toList == [110, 111, 105, 115, 101]) = false := word_ne k4
  have e5 : (h.toList == [102, 97, 100, 101]) = false := word_ne k5
  clear hp hk k1 k2 k3 k4 k5
  go_enter Tryz.func32, Tryz.ntmps32
  go_wp2_with fail
  refine (next_some q _ t _ (HP.out.below (ba2 w _ _))).mono ?_
  rintro e w1 ⟨rfl, hp1, hb1⟩
  have HB1 := Lib.hid (grownBy_trans (gb_below (ba2 w _ _)) hb1)
  have HX1 := Lib.hid ((gb_cell hb1 (show w.heap.size + 1 ≠ q by omega) (by simp)).trans (heap2 w _ _).2)
  have HZ := Lib.hid (rd_zero (t := bytesL t) HK.out)
  obtain ⟨a, c, hg, hlc, hs, hne⟩ := hp1
  obtain ⟨hcq, hfq⟩ := heap_cellR hg
  obtain ⟨hcx, hfx⟩ := heap_cellR HX1.out
  clear hlc hs hne hg hb1
  cases t with
  | cons x y =>
    have hlen : (x :: y).length = y.length + 1 := rfl
    have hlen2 : (0 : Int) < (((x :: y).length : Nat) : Int) := by rw [hlen]; omega
    clear hlen
    go_wp2_with fail
    exact ⟨rfl, dmgEnd_no HZ.out, HB1.out⟩
  | nil =>
    go_wp2_with fail
    refine (isDamage_val (b := false) (by decide)).mono ?_
    rintro e w' ⟨rfl, hb⟩
    have HB := Lib.hid (gb_own HB1.out (hb.mono (Nat.le_trans (by omega) HB1.out.size)))
    clear hb
    go_wp2_with fail
    exact ⟨rfl, dmgEnd_no HZ.out, HB.out⟩

set_option maxRecDepth 100000 in
set_option maxHeartbeats 2000000 in
theorem damage_nil (q : Nat) (w : World) (hp : Psr w q []) :
    Calls Tryz.prog 32 #[.pointer (some ⟨q, 0, none⟩)] w fun e w' => DmgEnd (rdOne (bytesL [])) e ∧ w.grownBy w' (some q) := by
  have HP := Lib.hid hp
  clear hp
  go_enter Tryz.func32, Tryz.ntmps32
  go_wp2_with fail
  refine (next_none q _ (HP.out.below (ba2 w _ _))).mono ?_
  rintro e w1 ⟨⟨v, rfl⟩, rfl⟩
  exact ⟨rfl, ⟨_, rfl⟩, gb_below (ba2 w _ _)⟩

/-- the parser's damage, whatever the words -/
theorem damageP_any (q : Nat) (ws : List ByteArray) (w : World) (hp : Psr w q ws) (hh : ShortL ws) (hE2 : ∀ w', Below q w w' → Env w') :
    Calls Tryz.prog 32 #[.pointer (some ⟨q, 0, none⟩)] w fun e w' => DmgEnd (rdOne (bytesL ws)) e ∧ w.grownBy w' (some q) := by
  cases ws with
  | nil => exact damage_nil q w hp
  | cons h t =>
    have hw := kind_word h.data.toList
    have hc : kindOf h.data.toList = 0 ∨ kindOf h.data.toList = 1 ∨ kindOf h.data.toList = 2 ∨ kindOf h.data.toList = 3 ∨ kindOf h.data.toList = 4 ∨ kindOf h.data.toList = 5 := by
      unfold kindOf; repeat' split
      all_goals simp
    rcases hc with h0 | h0 | h0 | h0 | h0 | h0
    · exact damage_0 q h t w hp h0
    · exact damage_1 q h t w hp hh hE2 (hw.1 h0)
    · exact damage_2 q h t w hp hh hE2 (hw.2.1 h0)
    · exact damage_3 q h t w hp hh hE2 (hw.2.2.1 h0)
    · exact damage_4 q h t w hp hh hE2 (hw.2.2.2.1 h0)
    · exact damage_5 q h t w hp hh hE2 (hw.2.2.2.2 h0)

end Go.Proofs.YtpilkgcghlfdmaaGreatDoor
