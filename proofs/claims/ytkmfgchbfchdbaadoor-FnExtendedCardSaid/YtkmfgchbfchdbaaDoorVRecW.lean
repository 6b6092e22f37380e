import Derived.Test.YtkmfgchbfchdbaaDoorVDrawJ
import Derived.Test.YtkmfgchbfchdbaaDoorVLikeI
namespace Go.Proofs.YtkmfgchbfchdbaaDoor
open Go.RowKit

/-- a drawn text -/
def RetDT (w : World) (e : Ending) (w' : World) : Prop := ∃ s : ByteArray, e = .returned (.string s) ∧ s.size ≤ 20001 ∧ Below w.heap.size w w'
set_option maxRecDepth 100000 in
set_option maxHeartbeats 1000000 in
theorem drawRecoverJournal_any (a : Option Addr) (n c : Nat) (w : World) (hx : BytesAt w w.heap.size a n) (hn : n ≤ 4096) :
    Calls Tryd.prog 12 #[.slice a n c] w (RetDT w) := by
  have HX := Lib.hid hx
  clear hx
  go_enter Tryd.func12, Tryd.ntmps12
  go_wp2_with fail
  refine (l01From_any a n c w HX.out hn).mono ?_
  rintro e w1 ⟨b, rfl, hb, hs1, hb1⟩
  have HS1 := Lib.hid hs1
  have HB1 := Lib.hid hb1
  clear hs1 hb1
  go_wp2_with fail
  refine (l32DrawText_any b w1 HS1.out).mono ?_
  rintro e w2 ⟨s, rfl, hz, hs2, hg2⟩
  have HB2 := Lib.hid (HB1.out.trans (below_of_grownBy hg2 HB1.out.size (fun k e => by have := Option.some.inj e; omega)))
  clear hs2 hg2
  go_wp2_with fail
  go_ret
  exact ⟨s, rfl, hz, HB2.out⟩

theorem codeJ_rec (s : ByteArray) : codeJ (recS s) = 0 := by
  obtain ⟨h1, h2, _⟩ := recS_prop s
  unfold codeJ
  rw [if_neg (by omega), if_pos (List.all_eq_true.2 h1)]
theorem textB_small {l : List Rc} (h : l.length ≤ 300) (hok : ∀ r ∈ l, r.ok = true) : (textB l).size ≤ 6000 := by
  have := textJ_len l 0 0 (by omega) (by omega) hok
  rw [textB_size]; omega
theorem recS_text {l : List Rc} (h : l.length ≤ 300) (hok : ∀ r ∈ l, r.ok = true) : recS (textB l) = l := by
  unfold recS
  rw [if_neg (by have := textB_small h hok; omega)]
  exact recJ_text l 300 0 0 hok h
theorem overS_text {l : List Rc} (h : l.length ≤ 300) (hok : ∀ r ∈ l, r.ok = true) : overS (textB l) = false := by
  have := textB_small h hok
  simp only [overS, decide_eq_false_iff_not]; omega
theorem rec_head (s : ByteArray) : s.extract 0 (textB (recS s)).size = textB (recS s) := by
  obtain ⟨_, _, t, ht⟩ := recS_prop s
  apply ByteArray.ext
  apply Array.toList_inj.1
  have e : (textB (recS s)).data.toList = textJ 0 0 (recS s) := rfl
  have e2 : (textB (recS s)).size = (textJ 0 0 (recS s)).length := rfl
  rw [e, e2]
  simp only [ByteArray.data_extract, Array.toList_extract, List.extract_eq_take_drop, List.drop_zero, Nat.sub_zero]
  rw [ht, List.take_left']
  rfl

set_option maxRecDepth 100000 in
set_option maxHeartbeats 1000000 in
theorem recovered_law (a : Option Addr) (n c : Nat) (w : World) (hx : BytesAt w w.heap.size a n) (hE : Env w) :
    Calls Tryd.prog 4 #[.slice a n c] w fun e w' => e = .returned (.bool true) ∧ Below w.heap.size w w' := by
  have HX := Lib.hid hx
  have HE := Lib.hid hE
  clear hx hE
  by_cases hbig : (4096 : Int) < n
  · go_enter Tryd.func4, Tryd.ntmps4
    go_wp2_with fail
    refine (big_any a n c _).mono ?_
    rintro e w' ⟨rfl, rfl⟩
    go_wp2_with fail
    go_ret
    exact ⟨rfl, Below.refl _ _⟩
  · go_enter Tryd.func4, Tryd.ntmps4
    go_wp2_with fail
    refine (big_any a n c _).mono ?_
    rintro e w0 ⟨rfl, rfl⟩
    go_wp2_with fail
    refine (drawRecoverJournal_any a n c w0 HX.out (by omega)).mono ?_
    rintro e w1 ⟨s, rfl, hz, hb1⟩
    have HB1 := Lib.hid hb1
    clear hb1 hbig
    go_wp2_with fail
    refine (recoverJournal_any s w1 (by omega) (HE.out.next HB1.out)).mono ?_
    rintro e w2 ⟨aA, cA, l, hl, rfl, hoA, hb2⟩
    have HL := Lib.hid hl
    have HOA := Lib.hid hoA
    have HB2 := Lib.hid (bt0 HB1.out hb2 (Nat.le_refl _))
    have HP := Lib.hid (hl ▸ recS_prop s)
    have hl3 : l.length ≤ 300 := HP.out.2.1
    have hfit : (textB l).size ≤ s.size := by rw [hl]; exact recS_len s
    have HHEAD : Hid (s.extract 0 (textB l).size = textB l) := Lib.hid (by rw [hl]; exact rec_head s)
    have HC0 : Hid (codeJ l = 0) := Lib.hid (by rw [hl]; exact codeJ_rec s)
    have HSUM : Hid (overS s = false → sumS s = (lastJ 0 0 l, 0)) := Lib.hid (fun h => by rw [sumS, h, hl]; rfl)
    have HSUM2 : Hid (sumS (textB l) = (lastJ 0 0 l, 0)) := Lib.hid (by rw [sumS, overS_text hl3 HP.out.1, recS_text hl3 HP.out.1]; rfl)
    have HTS := Lib.hid (textB_small hl3 HP.out.1)
    have ets : (textJ 0 0 l).length = (textB l).size := rfl
    rw [ets]
    obtain ⟨rv, hrv⟩ : ∃ rv, (if overS s = true then (0 : Int) else (s.size : Int) - ((textB l).size : Int)) = rv := ⟨_, rfl⟩
    obtain ⟨cd, hcd⟩ : ∃ cd, (if overS s = true then (3 : Int) else 0) = cd := ⟨_, rfl⟩
    have HRV := Lib.hid hrv
    have HCD := Lib.hid hcd
    rw [hrv, hcd]
    clear hl hoA hb2 ets hrv hcd
    go_wp2_with fail
    refine (specRecoverJournal_any s w2 (by omega)).mono ?_
    rintro e w3 ⟨aB, cB, l2, hl2, rfl, hoB, hb3⟩
    obtain rfl : l2 = l := hl2.trans HL.out.symm
    have HOB := Lib.hid hoB
    have HOA3 := Lib.hid (HOA.out.grown hb3)
    have HB3 := Lib.hid (bt0 HB2.out hb3 (Nat.le_refl _))
    have ets : (textJ 0 0 l2).length = (textB l2).size := rfl
    rw [ets, HRV.out, HCD.out]
    clear hl2 hoB hb3 ets
    obtain ⟨tb, htb⟩ : ∃ tb, textB l2 = tb := ⟨_, rfl⟩
    rw [htb] at hfit HHEAD HSUM2 HTS HRV
    have e0 : (rv != rv) = false := by simp
    have e1 : (cd != cd) = false := by simp
    have e00 : ((l2.length : Int) != (l2.length : Int)) = false := by simp
    have HTB := Lib.hid htb
    clear htb
    rcases Bool.eq_false_or_eq_true (overS s) with hov | hov
    · obtain rfl : cd = 3 := by rw [← HCD.out, if_pos hov]
      go_wp2_with fail
      go_ret
      exact ⟨rfl, HB3.out⟩
    · obtain rfl : cd = 0 := by rw [← HCD.out, hov]; rfl
      obtain rfl : rv = (s.size : Int) - (tb.size : Int) := by rw [← HRV.out, hov]; rfl
      have HSM := Lib.hid (HSUM.out hov)
      clear hov HSUM HRV HCD
      go_wp2_with fail
      go_loopw [10] (fun i wr => ∃ k : Nat, k ≤ l2.length ∧ i = .int .i64 k ∧ Below w3.heap.size w3 wr) (fun i _ => l2.length - (intOf i).toNat)
      case atStart => exact ⟨0, Nat.zero_le _, rfl, Below.refl _ _⟩
      case round =>
        obtain ⟨k, hk, rfl, hbr⟩ := hrel
        have HBR := Lib.hid hbr
        clear hbr
        by_cases hlt : k < l2.length
        · obtain ⟨r, hr⟩ : ∃ r, l2[k]? = some r := ⟨_, List.getElem?_eq_getElem hlt⟩
          obtain ⟨b, o, rfl, hbl, h0, h1⟩ := rc_at (HOA3.out.at.below HBR.out) hr
          obtain ⟨b', o', rfl, hbl', h0', h1'⟩ := rc_at (HOB.out.at.below HBR.out) hr
          have hok : isRecB r.k r.n = true := HP.out.1 r (List.mem_of_getElem? hr)
          have e2 : (r.k != r.k) = false := by simp
          have e3 : (r.n != r.n) = false := by simp
          clear hr
          go_wp2_with fail
          refine wp_region_ext (by kernel_rfl) (by kernel_rfl) ?_
          repeat (go_big_quiet_step ((go_at_call 15; go_must (apply calls_ext; apply isRecord_val; assumption))))
          refine wpQuiet_nil ?_
          rintro _ ⟨sx, rfl⟩
          have HBX := Lib.hid (HBR.out.trans (sx.below.mono HBR.out.size))
          go_wp2_with fail
          exact ⟨⟨k + 1, by omega, by go_num, HBX.out⟩, by simp [intOf]; omega⟩
        · obtain rfl : k = l2.length := by omega
          have HB4 := Lib.hid (bt0 HB3.out HBR.out (Nat.le_refl _))
          go_wp2_with fail
          refine (journalOf_any aA l2 cA wr (by omega) (HOA3.out.at.below HBR.out) (HE.out.next HB4.out)).mono ?_
          rintro e w5 ⟨rfl, hb5⟩
          rw [jrnS, if_pos HC0.out]
          have HB5 := Lib.hid (bt0 HB4.out hb5 (Nat.le_refl _))
          clear hb5
          dsimp only
          rw [HTB.out]
          go_wp2_with fail
          refine (journalSum_any s w5 (by omega) (HE.out.next HB5.out)).mono ?_
          rintro e w6 ⟨rfl, hb6⟩
          rw [HSM.out]
          have HB6 := Lib.hid (bt0 HB5.out hb6 (Nat.le_refl _))
          have hts := HTS.out
          clear hb6
          dsimp only
          go_wp2_with fail
          refine (journalSum_any tb w6 (by omega) (HE.out.next HB6.out)).mono ?_
          rintro e w7 ⟨rfl, hb7⟩
          rw [HSUM2.out]
          have HB7 := Lib.hid (bt0 HB6.out hb7 (Nat.le_refl _))
          obtain ⟨q, hq⟩ : ∃ q, lastJ 0 0 l2 = q := ⟨_, rfl⟩
          rw [hq]
          have e4 : (q == q) = true := by simp
          have e5 : ((tb.size : Int) ≤ (s.size : Int)) := by omega
          have e6 : IntKind.i64.wrap ((s.size : Int) - (tb.size : Int)) = (s.size : Int) - (tb.size : Int) := IntWalk.i64_in _ (by omega)
          have e7 : ((s.size : Int) - (tb.size : Int) == (s.size : Int) - (tb.size : Int)) = true := by simp
          have e8 : min (s.size : Int) (tb.size : Int) = (tb.size : Int) := by omega
          have hhd := HHEAD.out
          have e9 : (tb.toList == tb.toList) = true := by simp
          clear hb7 hq
          dsimp only
          go_wp2_with fail
          go_ret
          exact ⟨rfl, HB7.out⟩

end Go.Proofs.YtkmfgchbfchdbaaDoor
