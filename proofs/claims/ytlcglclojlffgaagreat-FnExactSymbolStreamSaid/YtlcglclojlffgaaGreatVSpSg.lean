import Derived.Test.YtlcglclojlffgaaGreatVSpSf
import Derived.Test.YtlcglclojlffgaaGreatVPayI
import Derived.Test.YtlcglclojlffgaaGreatVAppM
namespace Go.Proofs.YtlcglclojlffgaaGreat
open Go.RowKit

theorem spIsBits0_any (w : World) :
    Calls Tryz.prog 91 #[.slice none 0 0] w fun e w' => e = .returned (.bool true) ∧ w = w' := by
  go_enter Tryz.func91, Tryz.ntmps91
  go_wp2_with fail
  go_loop [3] (fun i => i = .int .i64 0) (fun _ => 0)
  case atStart => rfl
  case round =>
    obtain rfl := hrel
    go_wp2_with fail
    go_ret
    exact ⟨rfl, rfl⟩
/-- what a message is written as -/
def wrB (S : List UInt8) : List Int := if S.length ≤ 400 then msgB S else []
def wrC (S : List UInt8) : Int := if S.length ≤ 400 then 0 else 3
theorem msgB_le (S : List UInt8) : ((msgB S).length : Int) = (hdC S).l ∧ 0 ≤ (hdC S).l ∧ (hdC S).l ≤ 19 * S.length := by
  obtain ⟨h1, h2, -, -⟩ := hdC_bd _ S (Nat.le_refl _)
  exact ⟨msgB_len _ S (Nat.le_refl _), h1, h2⟩
set_option maxRecDepth 100000 in
set_option maxHeartbeats 2000000 in
theorem spMsg_any (s : ByteArray) (w : World) (hl : s.size ≤ 1048576) :
    Calls Tryz.prog 57 #[.slice none 0 0, .string s] w (RetLC w (wrB s.data.toList) (wrC s.data.toList)) := by
  have hSl : s.data.toList.length = s.size := rfl
  have HBL := Lib.hid (fun w => spBestLen_any s w hl)
  by_cases hs : s.size ≤ 400
  · have hB : wrB s.data.toList = msgB s.data.toList := by rw [wrB, if_pos (by omega)]
    have hC : wrC s.data.toList = 0 := by rw [wrC, if_pos (by omega)]
    have hE : lngC s.data.toList = ((hdC s.data.toList).l, 0) := by rw [lngC, if_pos (by omega)]
    rw [hE] at HBL
    rw [hB, hC]
    obtain ⟨h1, h2, h3⟩ := msgB_le s.data.toList
    have HBS := Lib.hid (fun w => spBest_any s w hs)
    have HOK := Lib.hid (segsC_ok _ s.data.toList (Nat.le_refl _))
    have hsl := segsC_le _ s.data.toList (Nat.le_refl _)
    have HMB := Lib.hid (show msgB s.data.toList = (segsC s.data.toList).flatMap segB from rfl)
    rw [hSl] at h3 hsl
    obtain ⟨n, hn⟩ : ∃ n, n = (hdC s.data.toList).l := ⟨_, rfl⟩
    rw [← hn] at HBL h1 h2 h3
    obtain ⟨T, hT⟩ : ∃ T, T = msgB s.data.toList := ⟨_, rfl⟩
    rw [← hT] at h1 HMB ⊢
    obtain ⟨segs, hsegs⟩ : ∃ segs, segs = segsC s.data.toList := ⟨_, rfl⟩
    rw [← hsegs] at HBS HOK HMB hsl
    have hTl : T.length ≤ 7600 := by omega
    have HTl := Lib.hid hTl
    have hn8 : ¬ (8192 : Int) < 0 + n := by omega
    have hn8' : ¬ (8192 : Int) < n := by omega
    clear hE hB hC hSl hn hT hsegs h1 hTl
    dsimp only at HBL
    go_enter Tryz.func57, Tryz.ntmps57
    go_wp2_with fail
    refine (spIsBits0_any _).mono ?_
    rintro e w1 ⟨rfl, rfl⟩
    go_wp2_with fail
    refine (HBL.out _).mono ?_
    rintro e w2 ⟨rfl, hb2⟩
    have HB2 := Lib.hid hb2
    clear hb2
    go_wp2_with fail
    refine (l01Own_any none [] 0 w2 (fun i h => absurd h (by simp)) (by simp) ⟨(fun _ e => by cases e), (fun _ => rfl)⟩).mono ?_
    rintro e w3 ⟨a3, c3, rfl, ho3, hb3⟩
    have HO3 := Lib.hid ho3
    have HB3 := Lib.hid (bt0 HB2.out hb3 (Nat.le_refl _))
    have hs2 : w.heap.size ≤ w2.heap.size := HB2.out.size
    clear ho3 hb3
    go_wp2_with fail
    refine (HBS.out _).mono ?_
    rintro e w4 ⟨a4, c4, rfl, ho4, hb4⟩
    have HSG := Lib.hid (Enc.Own.at ho4)
    have HO4 := Lib.hid ((HO3.out.grown hb4).weak hs2)
    have HB4 := Lib.hid (bt0 HB3.out hb4 (Nat.le_refl _))
    clear ho4 hb4
    go_wp2_with fail
    go_loopw [8, 10] (fun v i wr => ∃ (j : Nat) (a : Option Addr) (c : Nat) (l : List Int), j ≤ segs.length ∧ i = .int .i64 j ∧ l = (segs.take j).flatMap segB ∧ v = .slice a l.length c ∧ OwnI wr w.heap.size (.slice a l.length c) l ∧ Below w4.heap.size w4 wr) (fun _ i _ => segs.length - (intOf i).toNat)
    case atStart => exact ⟨0, a3, c3, [], Nat.zero_le _, rfl, rfl, rfl, HO4.out, Below.refl _ _⟩
    case round =>
      obtain ⟨j, a, c, l, hj, rfl, hl', rfl, ho, hb⟩ := hrel
      have HLe := Lib.hid hl'
      have HO := Lib.hid ho
      have HB := Lib.hid hb
      have HLL := Lib.hid (show l.length ≤ 10000 by
        have h := congrArg List.length (show (segs.take j).flatMap segB ++ (segs.drop j).flatMap segB = T by rw [← List.flatMap_append, List.take_append_drop, HMB.out])
        rw [List.length_append, ← hl'] at h
        have := HTl.out
        omega)
      clear hl' ho hb
      by_cases hlt : j < segs.length
      · have hji : (j : Int) < (segs.length : Int) := by omega
        obtain ⟨⟨m, t⟩, hx⟩ : ∃ x, x = segs[j] := ⟨_, rfl⟩
        have hx2 : segs[j]? = some (m, t) := by rw [hx]; exact List.getElem?_eq_getElem hlt
        obtain ⟨b1, o1, e1, hb1, hc1, hc2⟩ := sg_at (HSG.out.below HB.out) hx2
        dsimp only at hc1 hc2
        have HOKj := Lib.hid (HOK.out _ (List.mem_of_getElem? hx2))
        obtain ⟨tb, htb⟩ : ∃ tb : ByteArray, tb = ⟨t.toArray⟩ := ⟨_, rfl⟩
        rw [← htb] at hc2
        have HTB := Lib.hid (show tb.data.toList = t by rw [htb])
        have HST := Lib.hid (show (segs.take (j + 1)).flatMap segB = l ++ segB (m, tb.data.toList) by
          rw [take_snoc' hx2, List.flatMap_append, ← HLe.out, HTB.out]; simp)
        have HWR := Lib.hid (fun w' (hb : Below wr.heap.size wr w') => spWrite_any a l l.length c m tb w' rfl (HO.out.ints.below hb) HO.out.slc HO.out.cap0 HLL.out (by rw [HTB.out]; exact HOKj.out))
        subst e1
        clear hx hx2 htb
        go_wp2_with fail
        refine (HWR.out _ (Below.refl _ _)).mono ?_
        rintro e w9 ⟨a9, c9, rfl, ho9, hb9⟩
        obtain ⟨l9, hl9⟩ : ∃ l9, l9 = l ++ segB (m, tb.data.toList) := ⟨_, rfl⟩
        rw [← hl9] at ho9 ⊢
        have HL9 := Lib.hid hl9
        have HO9 := Lib.hid (ho9.weak (Nat.le_trans HB4.out.size HB.out.size))
        have HB9 := Lib.hid (bt0 HB.out hb9 (Nat.le_refl _))
        clear hl9 ho9 hb9
        go_wp2_with fail
        exact ⟨⟨j + 1, a9, c9, l9, by omega, by go_num, by rw [HL9.out, HST.out], rfl, HO9.out, HB9.out⟩, by simp [intOf]; omega⟩
      · obtain rfl : j = segs.length := by omega
        have hji : ¬ ((segs.length : Nat) : Int) < (segs.length : Int) := by omega
        have HEE := Lib.hid (show l = T by rw [HLe.out, List.take_length, HMB.out])
        go_wp2_with fail
        go_ret2
        exact ⟨a, c, l, HEE.out, rfl, HO.out, bt0 HB4.out HB.out (Nat.le_refl _)⟩
  · have hB : wrB s.data.toList = [] := by rw [wrB, if_neg (by omega)]
    have hC : wrC s.data.toList = 3 := by rw [wrC, if_neg (by omega)]
    have hE : lngC s.data.toList = (0, 3) := by rw [lngC, if_neg (by omega)]
    rw [hE] at HBL
    rw [hB, hC]
    clear hE hB hC hSl
    dsimp only at HBL
    go_enter Tryz.func57, Tryz.ntmps57
    go_wp2_with fail
    refine (spIsBits0_any _).mono ?_
    rintro e w1 ⟨rfl, rfl⟩
    go_wp2_with fail
    refine (HBL.out _).mono ?_
    rintro e w2 ⟨rfl, hb2⟩
    have HB2 := Lib.hid hb2
    clear hb2
    go_wp2_with fail
    go_ret2
    exact ⟨none, 0, [], rfl, rfl, OwnI.none _ _, HB2.out⟩

end Go.Proofs.YtlcglclojlffgaaGreat
