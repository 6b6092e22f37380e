import Derived.Test.YtkmfgchbfchdbaaGreatDoorM0
import Derived.Test.YtkmfgchbfchdbaaGreatDoorVRepT
import Derived.Deep.RegionHeld3
namespace Go.Proofs.YtkmfgchbfchdbaaGreatDoor
open Go.RowKit

set_option maxHeartbeats 1000000 in
theorem exReplay_core (s : ByteArray) (p : ByteArray) (x1 x2 x3 x4 : Int) (pv : ByteArray) (y1 y2 y3 y4 : Int) (zs : List Int) (cd : Int) (N : Int) (hS : ∀ w, RetRp w p x1 x2 x3 x4 s = RetS3 w pv y1 y2 y3 y4 zs N cd) (lz : zs.length ≤ 200)
    (w : World) (hp : p.size ≤ maxLen) (hsz : ¬ leftOf 1048576 p.size < 0) (hs : s.size ≤ 1048576) (hE : Env w) :
    Calls Tryz.prog 4 #[.agg #[.string p, .int .i64 x1, .int .i64 x2, .int .i64 x3, .int .i64 x4], .string s] w fun e w' => e = .returned (.bool true) ∧ Below w.heap.size w w' := by
  have HE := Lib.hid hE
  have HS := Lib.hid hS
  have hcc : (cd != cd) = false := by simp
  have hnn : (N != N) = false := by simp
  have LZ : Hid (zs.length ≤ maxLen) := by show _ ≤ _; unfold maxLen; omega
  clear hE hS
  go_enter Tryz.func4, Tryz.ntmps4
  go_wp2_with fail
  refine (szBatch_any _ _ _ _ _ _ _ hp (by omega) (by omega)).mono ?_
  rintro e w1 ⟨rfl, hb1⟩
  have hA := box1 hb1
  have HB1 := Lib.hid (bt1 hb1)
  clear hb1
  go_wp2_with fail
  refine (toBatch_any _ _ _ _ _ _).mono ?_
  rintro e w2 ⟨rfl, hb2⟩
  replace hA := boxK hb2 hA (by simp)
  have HB2 := Lib.hid (bt0 HB1.out hb2 (Nat.le_refl _))
  clear hb2
  go_wp2_with fail
  refine (specReplayJournal_any _ _ _ _ _ _ _ hp hs).mono ?_
  rw [HS.out]
  rintro e w3 ⟨aS, cS, rfl, hoS, hb3⟩
  replace hA := boxK hb3 hA (by simp)
  have hAlt : Hid (w.heap.size < w3.heap.size) := boxLt hA (by simp)
  have HB3 := Lib.hid (bt0 HB2.out hb3 (Nat.le_refl _))
  have HOS := Lib.hid hoS
  have HhiS := Lib.hid hoS.hi
  clear hb3 hoS
  have q3 := hAlt.out
  go_wp2_with fail
  refine (toBatch_any _ _ _ _ _ _).mono ?_
  rintro e w4 ⟨rfl, hb4⟩
  have hS4 := box1 hb4
  have hb4' := bt1 hb4
  replace hA := boxK hb4' hA (by simp)
  have HB4 := Lib.hid (bt0 HB3.out hb4' (Nat.le_refl _))
  have HOS4 := Lib.hid (HOS.out.grown hb4')
  have HB34 : Hid (w3.heap.size < w4.heap.size) := by show _ < _; have := hb4.size; simp at this; omega
  clear hb4 hb4'
  go_wp2_with fail
  refine (replayJournal_any _ _ _ _ _ _ _ hp hs (HE.out.next HB4.out)).mono ?_
  rw [HS.out]
  rintro e w5 ⟨aG, cG, rfl, hoG, hb5⟩
  replace hA := boxK hb5 hA (by simp)
  replace hS4 := boxK hb5 hS4 (by simp)
  have HB5 := Lib.hid (bt0 HB4.out hb5 (Nat.le_refl _))
  have HOS5 := Lib.hid (HOS4.out.grown hb5)
  have HOG := Lib.hid hoG
  have HloG := Lib.hid hoG.lo
  have HhiG := Lib.hid hoG.hi
  have HB45 : Hid (w4.heap.size ≤ w5.heap.size) := hb5.size
  clear hb5 hoG q3
  have q5 := boxLt hA (by simp)
  have q6 := boxLt hS4 (by simp)
  go_wp2_with fail
  refine (eqSession_same (HOG.out.grown (ba1 _ _)).ints (HOS5.out.grown (ba1 _ _)).ints LZ.out).mono ?_
  rintro e w6 ⟨rfl, hb6⟩
  have hG6 := box1 hb6
  have hb6' := bt1 hb6
  replace hA := boxK hb6' hA (by simp)
  replace hS4 := boxK hb6' hS4 (by simp)
  have HB6 := Lib.hid (bt0 HB5.out hb6' (Nat.le_refl _))
  have HOS6 := Lib.hid (HOS5.out.grown hb6')
  have HOG6 := Lib.hid (HOG.out.grown hb6')
  clear hb6 hb6'
  go_wp2_with fail
  refine (markSession_any _ _ _ _ _ _ _ _ _ _ _ HOG6.out (by omega) (by omega) (by omega)).mono ?_
  rintro e w7 ⟨rfl, ho7, hg7⟩
  replace hA := boxG hg7 hA (fun e => by have h1 := HloG.out _ e; have h2 := hAlt.out; have h3 := HB34.out; omega) (by simp)
  replace hS4 := boxG hg7 hS4 (fun e => by have h1 := HloG.out _ e; have h3 := HB34.out; omega) (by simp)
  replace hG6 := boxG hg7 hG6 (fun e => by have h1 := HhiG.out _ e; omega) (by simp)
  have HB7 := Lib.hid (HB6.out.trans (below_row hg7 HB6.out.size (fun k hk => by have h1 := HloG.out _ hk; have h2 := hAlt.out; have h3 := HB34.out; omega)))
  have HOS7 := Lib.hid (HOS6.out.other hg7 (apartB (T := w4.heap.size) (fun k hk => by have := HhiS.out k hk; have h3 := HB34.out; omega) HloG.out))
  have HX7 := Lib.hid ho7.ints
  clear ho7 hg7
  go_wp2_with fail
  have hmm : ((1 : Int) + ↑zs.length != 1 + ↑zs.length) = false := by simp
  refine (heldSession_marks HX7.out (by omega) (by omega) (by omega)).mono ?_
  rintro e w8 ⟨rfl, hb8⟩
  replace hA := boxK hb8 hA (by simp)
  replace hS4 := boxK hb8 hS4 (by simp)
  replace hG6 := boxK hb8 hG6 (by simp)
  have HB8 := Lib.hid (bt0 HB7.out hb8 (Nat.le_refl _))
  have HOS8 := Lib.hid (HOS7.out.grown hb8)
  have HX8 := Lib.hid (HX7.out.below hb8)
  clear hb8
  go_wp2_with fail
  refine (toBatch_any _ _ _ _ _ _).mono ?_
  rintro e w9 ⟨rfl, hb9⟩
  replace hA := boxK hb9 hA (by simp)
  replace hS4 := boxK hb9 hS4 (by simp)
  replace hG6 := boxK hb9 hG6 (by simp)
  have HB9 := Lib.hid (bt0 HB8.out hb9 (Nat.le_refl _))
  have HOS9 := Lib.hid (HOS8.out.grown hb9)
  have HX9 := Lib.hid (HX8.out.below hb9)
  clear hb9
  go_wp2_with fail
  refine (replayJournal_any _ _ _ _ _ _ _ hp hs (HE.out.next HB9.out)).mono ?_
  rw [HS.out]
  rintro e w10 ⟨aH, cH, rfl, hoH, hb10⟩
  replace hA := boxK hb10 hA (by simp)
  replace hS4 := boxK hb10 hS4 (by simp)
  replace hG6 := boxK hb10 hG6 (by simp)
  have HB10 := Lib.hid (bt0 HB9.out hb10 (Nat.le_refl _))
  have HOS10 := Lib.hid (HOS9.out.grown hb10)
  have HX10 := Lib.hid (HX9.out.below hb10)
  have HOH := Lib.hid hoH
  clear hb10 hoH q5 q6
  have q5 := boxLt hA (by simp)
  have q6 := boxLt hS4 (by simp)
  have q7 := boxLt hG6 (by simp)
  go_wp2_with fail
  refine (eqSession_same (HOH.out.grown (ba1 _ _)).ints (HOS10.out.grown (ba1 _ _)).ints LZ.out).mono ?_
  rintro e w11 ⟨rfl, hb11⟩
  have hb11' := bt1 hb11
  replace hG6 := boxK hb11' hG6 (by simp)
  have HB11 := Lib.hid (bt0 HB10.out hb11' (Nat.le_refl _))
  have HX11 := Lib.hid (HX10.out.below hb11')
  clear hb11 hb11' hA hS4
  go_wp2_with fail
  refine (heldSession_marks HX11.out (by omega) (by omega) (by omega)).mono ?_
  rintro e w12 ⟨rfl, hb12⟩
  have HB12 := Lib.hid (bt0 HB11.out hb12 (Nat.le_refl _))
  clear hb12 hG6
  go_wp2_with fail
  go_ret
  exact ⟨rfl, HB12.out⟩

set_option maxHeartbeats 400000 in
theorem exReplayJournal_any (p : ByteArray) (x1 x2 x3 x4 : Int) (s : ByteArray) (w : World) (hp : p.size ≤ maxLen) (hE : Env w) :
    Calls Tryz.prog 4 #[.agg #[.string p, .int .i64 x1, .int .i64 x2, .int .i64 x3, .int .i64 x4], .string s] w fun e w' => e = .returned (.bool true) ∧ Below w.heap.size w w' := by
  by_cases hs : s.size ≤ 1048576
  · by_cases h : leftOf 1048576 p.size < 0
    · go_enter Tryz.func4, Tryz.ntmps4
      go_wp2_with fail
      refine (szBatch_any _ _ _ _ _ _ _ hp (by omega) (by omega)).mono ?_
      rintro e w1 ⟨rfl, hb1⟩
      have HB1 := Lib.hid (bt1 hb1)
      clear hb1
      go_wp2_with fail
      go_ret
      exact ⟨rfl, HB1.out⟩
    · rcases Bool.eq_false_or_eq_true (isBatchB p x1 x2 x3 x4) with h1 | h1
      · obtain ⟨hn1, hn2⟩ := batch_count h1
        rcases Bool.eq_false_or_eq_true (overS s) with h2 | h2
        · exact exReplay_core s p x1 x2 x3 x4 ⟨#[]⟩ 0 0 0 0 [] 3 0 (fun w => by funext e w'; rw [RetRp, if_pos h1, if_pos h2]) (by simp) w hp h hs hE
        · exact exReplay_core s p x1 x2 x3 x4 p x1 x2 x3 x4 (repX x3 (List.replicate x3.toNat 0) (recS s)) 0 (repN x3 (List.replicate x3.toNat 0) (recS s)) (fun w => by funext e w'; rw [RetRp, if_pos h1, h2]; rfl) (by rw [repX_len, List.length_replicate]; omega) w hp h hs hE
      · exact exReplay_core s p x1 x2 x3 x4 ⟨#[]⟩ 0 0 0 0 [] 1 0 (fun w => by funext e w'; rw [RetRp, h1]; rfl) (by simp) w hp h hs hE
  · go_enter Tryz.func4, Tryz.ntmps4
    go_wp2_with fail
    go_ret
    exact ⟨rfl, ba1 _ _⟩

end Go.Proofs.YtkmfgchbfchdbaaGreatDoor
