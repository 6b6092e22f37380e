import Derived.Test.YtlcglclojlffgaaGreatDoorVDecX
import Derived.Test.YtlcglclojlffgaaGreatDoorVByB
namespace Go.Proofs.YtlcglclojlffgaaGreatDoor
open Go.RowKit

set_option maxRecDepth 100000 in
set_option maxHeartbeats 1000000 in
theorem decimals_any (a : Option Addr) (xs : List Int) (c : Nat) (w : World) (hx : IntsAt w a xs) (h64 : ∀ x ∈ xs, -9223372036854775808 ≤ x ∧ x ≤ 9223372036854775807) (lx : xs.length ≤ 1000000) (ht : Tab w) :
    Calls Tryz.prog 47 #[.slice a xs.length c] w fun e w' => e = .returned (.string ⟨(decX xs).toArray⟩) ∧ Below w.heap.size w w' := by
  have HX := Lib.hid hx
  have HT := Lib.hid ht
  have H64 := Lib.hid h64
  have hltg := ht.lt
  clear hx ht h64
  go_enter Tryz.func47, Tryz.ntmps47
  go_wp2_with fail
  go_loopw [3, 4, 5, 9] (fun v _ _ i wr => ∃ (k : Nat) (a' : Option Addr) (c' : Nat) (l : List UInt8), k ≤ xs.length ∧ i = .int .i64 k ∧ l = decX (xs.take k) ∧ v = .slice a' l.length c' ∧ OwnB wr w.heap.size (.slice a' l.length c') l ∧ Below w.heap.size w wr) (fun _ _ _ i _ => xs.length - (intOf i).toNat)
  case atStart => exact ⟨0, _, 0, [], Nat.zero_le _, rfl, rfl, rfl, World.ownsRow_lit (base := w.heap.size) (size := 1) w #[] 0 (Nat.le_refl _) (by unfold maxLen; omega) rfl, ba1 _ _⟩
  case round =>
    obtain ⟨k, a1, c1, l, hk, rfl, hl, rfl, ho, hb⟩ := hrel
    have HL := Lib.hid hl
    have HO := Lib.hid ho
    have HB := Lib.hid hb
    have hll : l.length ≤ 22 * k := by
      have := decX_len (xs.take k) (fun x hx => H64.out x (List.mem_of_mem_take hx))
      rw [List.length_take] at this
      rw [hl]; omega
    have hwz : w.heap.size ≤ wr.heap.size := hb.size
    clear hl ho hb
    by_cases hlt : k < xs.length
    · obtain ⟨b1, o1, x, rfl, hxk, hb1, hc1⟩ := (HX.out.below HB.out).at hlt
      have hx64 := H64.out x (List.mem_of_getElem? hxk)
      have HXK := Lib.hid (take_snoc' hxk)
      have HNX := Lib.hid hxk
      clear hxk
      by_cases hk0 : k = 0
      · have hki : ¬ (0 : Int) < (k : Int) := by omega
        have HNE := Lib.hid (show xs.take k = [] by rw [hk0]; rfl)
        clear hk0
        go_wp2_with fail
        refine (appendInt_b w.heap.size x _ l _ hx64.1 hx64.2 HO.out hwz (by omega) (HT.out.next HB.out) hltg).mono ?_
        rintro e w2 ⟨a2, c2, l2, he2, rfl, ho2, hb2⟩
        have HO2 := Lib.hid ho2
        have HB2 := Lib.hid (HB.out.trans hb2)
        have HE2 := Lib.hid he2
        clear ho2 hb2 he2 hc1
        go_wp2_with fail
        refine ⟨⟨k + 1, a2, c2, l2, by omega, by go_num, ?_, rfl, HO2.out, HB2.out⟩, by simp [intOf]; omega⟩
        rw [HXK.out, decX_snoc, if_pos HNE.out, HE2.out, HL.out]
        rw [HNE.out]
        simp [decX, glue]
      · have hki : (0 : Int) < (k : Int) := by omega
        have hne : xs.take k ≠ [] := by
          intro e
          have := congrArg List.length e
          rw [List.length_take, List.length_nil] at this
          omega
        have HNE := Lib.hid hne
        clear hne
        go_wp2_with (at_builtin; refine wpList_append_b1 (o := _) (s := .tmp 16) (x := .tmp 17) rfl rfl w.heap.size (.slice a1 l.length c1) l 32 rfl (HO.out.grown (ba1 _ _)) wr.heap.size rfl (push_at wr _) (by omega) (by simp; omega) ?h9)
        case h9 =>
        intro a2 c2 l2 w2 he2 ho2 hb2
        have HO2 := Lib.hid ho2
        have HB2 := Lib.hid (HB.out.trans (((ba1 wr (.cells #[.int .u8 32] 5 (0, 0))).mono hwz).trans hb2))
        have hz2 : w.heap.size ≤ w2.heap.size := HB2.out.size
        have hl2 : l2.length ≤ l.length + 1 := by rw [he2]; simp
        have HE2 := Lib.hid he2
        clear he2 ho2 hb2 hc1
        go_wp2_with fail
        refine (appendInt_b w.heap.size x _ l2 _ hx64.1 hx64.2 HO2.out hz2 (by omega) (HT.out.next HB2.out) hltg).mono ?_
        rintro e w3 ⟨a3, c3, l3, he3, rfl, ho3, hb3⟩
        have HO3 := Lib.hid ho3
        have HB3 := Lib.hid (HB2.out.trans hb3)
        have HE3 := Lib.hid he3
        clear ho3 hb3 he3
        go_wp2_with fail
        refine ⟨⟨k + 1, a3, c3, l3, by omega, by go_num, ?_, rfl, HO3.out, HB3.out⟩, by simp [intOf]; omega⟩
        rw [HXK.out, decX_snoc, if_neg HNE.out, HE3.out, HE2.out, HL.out]
    · obtain rfl : k = xs.length := by omega
      have hcv := conv_own HO.out
      have HCV := Lib.hid (show l = decX xs by rw [HL.out, List.take_length])
      go_wp2_with fail
      go_ret
      exact ⟨congrArg (fun l : List UInt8 => Ending.returned (.string ⟨l.toArray⟩)) HCV.out, HB.out⟩

end Go.Proofs.YtlcglclojlffgaaGreatDoor
