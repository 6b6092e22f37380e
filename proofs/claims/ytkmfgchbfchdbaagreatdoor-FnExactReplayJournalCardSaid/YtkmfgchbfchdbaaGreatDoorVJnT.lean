import Derived.Test.YtkmfgchbfchdbaaGreatDoorVJnS
namespace Go.Proofs.YtkmfgchbfchdbaaGreatDoor
open Go.RowKit

set_option maxRecDepth 100000 in
set_option maxHeartbeats 1000000 in
theorem l32Code_any (a : Option Addr) (l : List Rc) (c : Nat) (w : World) (hl : l.length ≤ 1000000000) (ha : rcE.At w a l) :
    Calls Tryz.prog 53 #[.slice a l.length c] w fun e w' => e = .returned (.int .i64 (codeJ l)) ∧ Below w.heap.size w w' := by
  have HA := Lib.hid ha
  clear ha
  by_cases hb : 300 < l.length
  · have h1 : (300 : Int) < (l.length : Int) := by omega
    have HC : Hid (codeJ l = 3) := Lib.hid (by rw [codeJ, if_pos hb])
    clear hb
    go_enter Tryz.func53, Tryz.ntmps53
    go_wp2_with fail
    go_ret
    exact ⟨by rw [HC.out]; rfl, Below.refl _ _⟩
  · have h1 : ¬ (300 : Int) < (l.length : Int) := by omega
    have hl3 : l.length ≤ 300 := by omega
    have HC : Hid (codeJ l = if l.all Rc.ok = true then 0 else 1) := Lib.hid (by rw [codeJ, if_neg hb])
    clear hb
    go_enter Tryz.func53, Tryz.ntmps53
    go_wp2_with fail
    go_loopw [3] (fun i wr => ∃ k : Nat, k ≤ l.length ∧ i = .int .i64 k ∧ (l.take k).all Rc.ok = true ∧ Below w.heap.size w wr) (fun i _ => l.length - (intOf i).toNat)
    case atStart => exact ⟨0, Nat.zero_le _, rfl, rfl, Below.refl _ _⟩
    case round =>
      obtain ⟨k, hk, rfl, hall, hbr⟩ := hrel
      have HALL := Lib.hid hall
      have HBR := Lib.hid hbr
      clear hall hbr
      by_cases hlt : k < l.length
      · obtain ⟨r, hr⟩ : ∃ r, l[k]? = some r := ⟨_, List.getElem?_eq_getElem hlt⟩
        obtain ⟨b, o, rfl, hbl, h0, h1'⟩ := rc_at (HA.out.below HBR.out) hr
        have HR := Lib.hid hr
        clear hr
        rcases Bool.eq_false_or_eq_true (isRecB r.k r.n) with hok | hok
        · have HOK : Hid (r.ok = true) := Lib.hid hok
          go_wp2_with fail
          refine (specIsRecord_val hok).mono ?_
          rintro e w1 ⟨rfl, hb1⟩
          have HB2 := Lib.hid (bt0 HBR.out hb1 (Nat.le_refl _))
          clear hb1
          go_wp2_with fail
          exact ⟨⟨k + 1, by omega, by go_num, all_take_step HR.out HALL.out HOK.out, HB2.out⟩, by simp [intOf]; omega⟩
        · have HOK : Hid (r.ok = false) := Lib.hid hok
          go_wp2_with fail
          refine (specIsRecord_val hok).mono ?_
          rintro e w1 ⟨rfl, hb1⟩
          have HB2 := Lib.hid (bt0 HBR.out hb1 (Nat.le_refl _))
          clear hb1
          go_wp2_with fail
          go_ret
          exact ⟨by rw [HC.out, all_bad HR.out HOK.out]; rfl, HB2.out⟩
      · obtain rfl : k = l.length := by omega
        go_wp2_with fail
        go_ret
        refine ⟨?_, HBR.out⟩
        have := HALL.out
        rw [List.take_length] at this
        rw [HC.out, this]; rfl

theorem lineB_list (n : Nat) (s : Int) (r : Rc) : (lineB n s r).data.toList = lineJ n s r := rfl
theorem ownB_new (w : World) : OwnB (w.alloc (.cells #[] 5 (0, 0))) w.heap.size (.slice (some ⟨w.heap.size, 0, none⟩) 0 0) [] :=
  World.ownsRow_lit (base := w.heap.size) (size := 1) w #[] 0 (Nat.le_refl _) (by unfold maxLen; omega) rfl

set_option maxRecDepth 100000 in
set_option maxHeartbeats 1000000 in
theorem l32Text_any (a : Option Addr) (l : List Rc) (c : Nat) (w : World) (hl : l.length ≤ 300) (hok : ∀ r ∈ l, r.ok = true) (ha : rcE.At w a l) :
    Calls Tryz.prog 54 #[.slice a l.length c] w fun e w' => e = .returned (.tuple #[.string (textB l), .int .i64 (lastJ 0 0 l)]) ∧ Below w.heap.size w w' := by
  have HA := Lib.hid ha
  have HOK := Lib.hid hok
  clear ha hok
  have HO0 := Lib.hid (ownB_new w)
  have HB0 := Lib.hid (ba1 w (.cells #[] 5 (0, 0)))
  go_enter Tryz.func54, Tryz.ntmps54
  go_wp2_with fail
  go_loopw [4, 5, 6, 7, 8] (fun v q i _ _ wr => ∃ (k : Nat) (a' : Option Addr) (c' : Nat) (t : List UInt8), k ≤ l.length ∧ i = .int .i64 k ∧ q = .int .i64 (lastJ 0 0 (l.take k)) ∧ t = textJ 0 0 (l.take k) ∧ v = .slice a' t.length c' ∧ OwnB wr w.heap.size (.slice a' t.length c') t ∧ Below w.heap.size w wr) (fun _ _ i _ _ _ => l.length - (intOf i).toNat)
  case atStart => exact ⟨0, _, 0, [], Nat.zero_le _, rfl, rfl, rfl, rfl, HO0.out, HB0.out⟩
  case round =>
    clear HO0 HB0
    obtain ⟨k, a', c', t, hk, rfl, rfl, ht, rfl, ho, hbr⟩ := hrel
    have HT := Lib.hid ht
    have HO := Lib.hid ho
    have HBR := Lib.hid hbr
    have hwr := hbr.size
    clear ht ho hbr
    by_cases hlt : k < l.length
    · obtain ⟨r, hr⟩ : ∃ r, l[k]? = some r := ⟨_, List.getElem?_eq_getElem hlt⟩
      obtain ⟨b, o, rfl, hbl, h0, h1'⟩ := rc_at (HA.out.below HBR.out) hr
      have HR := Lib.hid hr
      have hrok := HOK.out r (List.mem_of_getElem? hr)
      have hlr := lastJ_range (l.take k) 0 (s := 0) (by omega)
      have hlt2 : t.length ≤ 6000 := by
        have := textJ_len (l.take k) 0 0 (by simp; omega) (by omega) (fun r hr => HOK.out r (List.mem_of_mem_take hr))
        rw [HT.out]
        simp at this; omega
      have hll := lineJ_len (n := k) (show k < 1000 by omega) hlr hrok
      clear hr
      go_wp2_with fail
      refine (l32Line_any k r _ _ hrok (by omega) hlr).mono ?_
      rintro e w1 ⟨rfl, hb1⟩
      have HB1 := Lib.hid (bt0 HBR.out hb1 (Nat.le_refl _))
      have HO1 := Lib.hid (HO.out.grown hb1)
      have hw1 : w.heap.size ≤ w1.heap.size := HB1.out.size
      have hlb : (lineB k (lastJ 0 0 (l.take k)) r).size ≤ 19 := hll
      obtain ⟨B, hB⟩ : ∃ B, lineB k (lastJ 0 0 (l.take k)) r = B := ⟨_, rfl⟩
      rw [hB] at hlb ⊢
      have HBB := Lib.hid hB
      clear hb1 hB
      go_wp2_with (at_builtin; refine wpList_append_bs (o := _) (s := .tmp 27) (x := .tmp 28) rfl rfl w.heap.size (.slice a' t.length c') t B rfl HO1.out rfl (by omega) hw1 ?h9)
      case h9 =>
      intro a2 c2 t2 w2 ht2 ho2 hb2
      have HO2 := Lib.hid ho2
      have HT2 := Lib.hid ht2
      have HB2 := Lib.hid (HB1.out.trans hb2)
      have hw2 : w.heap.size ≤ w2.heap.size := HB2.out.size
      have hl2 : t2.length ≤ 6019 := by
        have h9 : B.data.toList.length = B.size := rfl
        rw [ht2, List.length_append]; omega
      clear ht2 ho2 hb2
      go_wp2_with (at_builtin; refine wpList_append_b1 (o := _) (s := .tmp 30) (x := .tmp 31) rfl rfl w.heap.size (.slice a2 t2.length c2) t2 10 rfl (HO2.out.grown (ba1 _ _)) w2.heap.size rfl (push_at w2 _) (by omega) (by simp; omega) ?h8)
      case h8 =>
      intro a3 c3 t3 w3 ht3 ho3 hb3
      have HO3 := Lib.hid ho3
      have HT3 : Hid (t3 = textJ 0 0 (l.take (k + 1))) := Lib.hid (by rw [ht3, HT2.out, HT.out, ← (textJ_take HR.out).1, ← HBB.out]; simp [lineB_list])
      have HB3 := Lib.hid (HB2.out.trans (((ba1 w2 _).mono hw2).trans hb3))
      have HNX := Lib.hid (textJ_take HR.out).2
      clear ht3 ho3 hb3
      go_wp2_with fail
      exact ⟨⟨k + 1, a3, c3, t3, by omega, by go_num, by rw [HNX.out], HT3.out, rfl, HO3.out, HB3.out⟩, by simp [intOf]; omega⟩
    · obtain rfl : k = l.length := by omega
      have hcv := conv_own HO.out
      have HTT : Hid ((⟨t.toArray⟩ : ByteArray) = textB l ∧ lastJ 0 0 (l.take l.length) = lastJ 0 0 l) := Lib.hid (by
        rw [HT.out, List.take_length]; exact ⟨rfl, rfl⟩)
      rw [HTT.out.1] at hcv
      rw [HTT.out.2]
      go_wp2_with fail
      go_ret2
      exact ⟨rfl, HBR.out⟩

set_option maxRecDepth 100000 in
set_option maxHeartbeats 1000000 in
theorem specJournalOf_any (a : Option Addr) (l : List Rc) (c : Nat) (w : World) (hl : l.length ≤ 1000000000) (ha : rcE.At w a l) :
    Calls Tryz.prog 23 #[.slice a l.length c] w (RetJx w (jrnS l)) := by
  have HA := Lib.hid ha
  clear ha
  by_cases hc0 : codeJ l = 0
  · have HJ : Hid (jrnS l = (textB l, 0)) := Lib.hid (by rw [jrnS, if_pos hc0])
    have HOK := Lib.hid (codeJ_ok hc0).2
    have hl3 := (codeJ_ok hc0).1
    have HC0 := Lib.hid hc0
    clear hc0
    go_enter Tryz.func23, Tryz.ntmps23
    go_wp2_with fail
    refine (l32Code_any a l c w hl HA.out).mono ?_
    rintro e w1 ⟨rfl, hb1⟩
    have HB1 := Lib.hid hb1
    rw [HC0.out]
    clear hb1
    go_wp2_with fail
    refine (l32Text_any a l c w1 hl3 HOK.out (HA.out.below HB1.out)).mono ?_
    rintro e w2 ⟨rfl, hb2⟩
    have HB2 := Lib.hid (bt0 HB1.out hb2 (Nat.le_refl _))
    clear hb2
    go_wp2_with fail
    go_ret2
    exact retJx_eq HJ.out HB2.out
  · have HJ : Hid (jrnS l = (⟨#[]⟩, codeJ l)) := Lib.hid (by rw [jrnS, if_neg hc0])
    obtain ⟨cd, hcd⟩ : ∃ cd, codeJ l = cd := ⟨_, rfl⟩
    have HCD := Lib.hid hcd
    rw [hcd] at hc0 HJ
    have h2 : (cd != 0) = true := by simpa using hc0
    clear hc0 hcd
    go_enter Tryz.func23, Tryz.ntmps23
    go_wp2_with fail
    refine (l32Code_any a l c w hl HA.out).mono ?_
    rintro e w1 ⟨rfl, hb1⟩
    have HB1 := Lib.hid hb1
    rw [HCD.out]
    clear hb1
    go_wp2_with fail
    go_ret2
    exact retJx_eq HJ.out HB1.out

end Go.Proofs.YtkmfgchbfchdbaaGreatDoor
