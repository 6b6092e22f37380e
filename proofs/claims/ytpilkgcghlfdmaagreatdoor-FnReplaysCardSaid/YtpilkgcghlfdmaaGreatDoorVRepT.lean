import Derived.Test.YtpilkgcghlfdmaaGreatDoorVRepS
namespace Go.Proofs.YtpilkgcghlfdmaaGreatDoor
open Go.RowKit

set_option maxRecDepth 100000 in
set_option maxHeartbeats 1000000 in
theorem specReplayJournal_any (p : ByteArray) (x1 x2 x3 x4 : Int) (s : ByteArray) (w : World) (hp : p.size ≤ maxLen) (hs : s.size ≤ 1048576) :
    Calls Tryz.prog 12 #[.agg #[.string p, .int .i64 x1, .int .i64 x2, .int .i64 x3, .int .i64 x4], .string s] w (RetRp w p x1 x2 x3 x4 s) := by
  have HB0 := Lib.hid (ba2 w (.cells #[.string p, .int .i64 x1, .int .i64 x2, .int .i64 x3, .int .i64 x4] 32 (0, 0)) (.cells #[.string ⟨#[]⟩, .int .i64 0, .int .i64 0, .int .i64 0, .int .i64 0, .slice none 0 0] 37 (0, 0)))
  have HX0 := Lib.hid (heap2 w (.cells #[.string p, .int .i64 x1, .int .i64 x2, .int .i64 x3, .int .i64 x4] 32 (0, 0)) (.cells #[.string ⟨#[]⟩, .int .i64 0, .int .i64 0, .int .i64 0, .int .i64 0, .slice none 0 0] 37 (0, 0)))
  have FINB : Hid (∀ W : World, Below w.heap.size w W → Below w.heap.size w ((((((W.setCell ⟨w.heap.size + 1, 0, none⟩ (.string ⟨#[]⟩)).setCell ⟨w.heap.size + 1, 1, none⟩ (.int .i64 0)).setCell ⟨w.heap.size + 1, 2, none⟩ (.int .i64 0)).setCell ⟨w.heap.size + 1, 3, none⟩ (.int .i64 0)).setCell ⟨w.heap.size + 1, 4, none⟩ (.int .i64 0)).setCell ⟨w.heap.size + 1, 5, none⟩ (.slice none 0 0))) := Lib.hid (fun W h => by
    iterate 6 (refine Below.setCell ?_ (by dsimp only; omega) _)
    exact h)
  unfold RetRp
  rcases Bool.eq_false_or_eq_true (isBatchB p x1 x2 x3 x4) with hbt | hbt
  · rw [hbt, if_pos rfl]
    have HNS := Lib.hid (fun W => specNewSession_any p x1 x2 x3 x4 W hp)
    have HNE : Hid (∀ W, RetNew W p x1 x2 x3 x4 = RetSessC W p x1 x2 x3 x4 (List.replicate x3.toNat 0) 0) := Lib.hid (fun W => by funext e w'; unfold RetNew; rw [hbt, if_pos rfl])
    obtain ⟨hx30, hx31⟩ := batch_count hbt
    obtain ⟨n3, rfl⟩ := Int.eq_ofNat_of_zero_le (show (0 : Int) ≤ x3 by omega)
    have hn3 : n3 ≤ 200 := by omega
    rw [show ((n3 : Int)).toNat = n3 from Int.toNat_natCast n3] at HNE ⊢
    have hz3 := zeros_range n3
    have hlz : (List.replicate n3 (0 : Int)).length = n3 := List.length_replicate
    obtain ⟨zs, hzs⟩ : ∃ zs, List.replicate n3 (0 : Int) = zs := ⟨_, rfl⟩
    rw [hzs] at HNE hz3 hlz ⊢
    have HZ := Lib.hid hz3
    have HLZ := Lib.hid hlz
    clear hbt hz3 hlz hzs
    rcases Bool.eq_false_or_eq_true (overS s) with hov | hov
    · rw [hov, if_pos rfl]
      have HOV := Lib.hid hov
      clear hov
      go_enter Tryz.func12, Tryz.ntmps12
      go_wp2_with fail
      refine (HNS.out _).mono ?_
      rw [HNE.out]
      rintro e w1 ⟨a1, c1, rfl, ho1, hb1⟩
      have HO1 := Lib.hid (ho1.grown (ba1 w1 (.cells #[.string p, .int .i64 x1, .int .i64 x2, .int .i64 n3, .int .i64 x4, .slice a1 zs.length c1] 37 (0, 0))))
      have HXS := Lib.hid (push_at w1 (.cells #[.string p, .int .i64 x1, .int .i64 x2, .int .i64 n3, .int .i64 x4, .slice a1 zs.length c1] 37 (0, 0)))
      have HB1 := Lib.hid (bt0 (bt0 HB0.out hb1 (Nat.le_refl _)) (ba1 w1 (.cells #[.string p, .int .i64 x1, .int .i64 x2, .int .i64 n3, .int .i64 x4, .slice a1 zs.length c1] 37 (0, 0))) (Nat.le_refl _))
      have HX1 := Lib.hid (push_old (A := .cells #[.string p, .int .i64 x1, .int .i64 x2, .int .i64 n3, .int .i64 x4, .slice a1 zs.length c1] 37 (0, 0)) (blkK hb1 HX0.out.2))
      have hw01 : w.heap.size + 1 < w1.heap.size := by have := hb1.size; simp at this; omega
      clear ho1 hb1 HNS HNE
      go_wp2_with fail
      refine (specRecoverJournal_any s _ hs).mono ?_
      rintro e w2 ⟨a, c, l, hl, rfl, ho, hb2⟩
      have HB2 := Lib.hid (bt0 HB1.out hb2 (Nat.le_refl _))
      have HX2 := Lib.hid (blkK hb2 HX1.out)
      have HXS2 := Lib.hid (blkK hb2 HXS.out)
      have HO2 := Lib.hid (HO1.out.grown hb2)
      have HL := Lib.hid hl
      have HOL := Lib.hid ho
      have hl3 : l.length ≤ 300 := by rw [hl]; exact (recS_prop s).2.1
      have hw12 : w1.heap.size < w2.heap.size := blkLt HXS2.out
      clear hl ho hb2
      rw [HOV.out]
      obtain ⟨hc2, hf2⟩ := heap_cellR HX2.out
      simp only [if_pos]
      go_wp2_with fail
      refine bodyPost_ret (v := .tuple #[.agg #[.string ⟨#[]⟩, .int .i64 0, .int .i64 0, .int .i64 0, .int .i64 0, .slice none 0 0], .int .i64 0, .int .i64 3]) (by simp [results, Tryz.results12, go_sem, hc2]) rfl ⟨none, 0, rfl, World.ownsRow_nil _ _ _ _, FINB.out _ HB2.out⟩
    · rw [hov, if_neg (by decide)]
      have HOV := Lib.hid hov
      clear hov FINB
      go_enter Tryz.func12, Tryz.ntmps12
      go_wp2_with fail
      refine (HNS.out _).mono ?_
      rw [HNE.out]
      rintro e w1 ⟨a1, c1, rfl, ho1, hb1⟩
      have HO1 := Lib.hid (ho1.grown (ba1 w1 (.cells #[.string p, .int .i64 x1, .int .i64 x2, .int .i64 n3, .int .i64 x4, .slice a1 zs.length c1] 37 (0, 0))))
      have HXS := Lib.hid (push_at w1 (.cells #[.string p, .int .i64 x1, .int .i64 x2, .int .i64 n3, .int .i64 x4, .slice a1 zs.length c1] 37 (0, 0)))
      have HB1 := Lib.hid (bt0 (bt0 HB0.out hb1 (Nat.le_refl _)) (ba1 w1 (.cells #[.string p, .int .i64 x1, .int .i64 x2, .int .i64 n3, .int .i64 x4, .slice a1 zs.length c1] 37 (0, 0))) (Nat.le_refl _))
      have HX1 := Lib.hid (push_old (A := .cells #[.string p, .int .i64 x1, .int .i64 x2, .int .i64 n3, .int .i64 x4, .slice a1 zs.length c1] 37 (0, 0)) (blkK hb1 HX0.out.2))
      have hw01 : w.heap.size + 1 < w1.heap.size := by have := hb1.size; simp at this; omega
      clear ho1 hb1 HNS HNE
      go_wp2_with fail
      refine (specRecoverJournal_any s _ hs).mono ?_
      rintro e w2 ⟨a, c, l, hl, rfl, ho, hb2⟩
      have HB2 := Lib.hid (bt0 HB1.out hb2 (Nat.le_refl _))
      have HX2 := Lib.hid (blkK hb2 HX1.out)
      have HXS2 := Lib.hid (blkK hb2 HXS.out)
      have HO2 := Lib.hid (HO1.out.grown hb2)
      have HL := Lib.hid hl
      have HOL := Lib.hid ho
      have hl3 : l.length ≤ 300 := by rw [hl]; exact (recS_prop s).2.1
      have hw12 : w1.heap.size < w2.heap.size := blkLt HXS2.out
      clear hl ho hb2
      rw [HOV.out]
      simp only [Bool.false_eq_true, if_false]
      obtain ⟨rv, hrv⟩ : ∃ rv, (s.size : Int) - ((textJ 0 0 l).length : Int) = rv := ⟨_, rfl⟩
      rw [hrv]
      obtain ⟨hcs, hfs⟩ := heap_cellR HXS2.out
      clear hrv
      go_wp2_with fail
      refine (l33Replay_any p x1 x2 x4 n3 a1 zs c1 (w.heap.size + 1 + 1) a l c w2 (by have h := HO2.out; simpa using h) (by omega) HLZ.out hn3 HZ.out HOL.out.at hl3).mono ?_
      rintro e w3 ⟨a3, c3, rfl, ho3, hb3⟩
      have HB3 := Lib.hid (bt0 HB2.out hb3 (Nat.le_refl _))
      have HX3 := Lib.hid (blkK hb3 HX2.out)
      have hw3 := blkLt HX3.out
      obtain ⟨ys, hys⟩ : ∃ ys, repX n3 zs l = ys := ⟨_, rfl⟩
      obtain ⟨N, hN⟩ : ∃ N, repN n3 zs l = N := ⟨_, rfl⟩
      have HYS := Lib.hid hys
      have HN := Lib.hid hN
      rw [hys] at ho3 ⊢
      rw [hN]
      have HX4 := Lib.hid (push_old (A := .cells #[.string p, .int .i64 x1, .int .i64 x2, .int .i64 n3, .int .i64 x4, .slice a3 ys.length c3] 37 (0, 0)) HX3.out)
      have HO3 := Lib.hid ho3
      obtain ⟨hc3, hf3⟩ := heap_cellR HX3.out
      clear ho3 hb3 hys hN hcs hfs
      go_wp2_with fail
      refine bodyPost_ret (v := .tuple #[.agg #[.string p, .int .i64 x1, .int .i64 x2, .int .i64 n3, .int .i64 x4, .slice a3 ys.length c3], .int .i64 N, .int .i64 0]) (by simp [results, Tryz.results12, go_sem, hc3, hw3]) rfl ?_
      rw [← HL.out, HYS.out, HN.out]
      refine ⟨a3, c3, rfl, ?_, ?_⟩
      · refine OwnI.grown (w := (((((w3.setCell ⟨w.heap.size + 1, 0, none⟩ _).setCell ⟨w.heap.size + 1, 1, none⟩ _).setCell ⟨w.heap.size + 1, 2, none⟩ _).setCell ⟨w.heap.size + 1, 3, none⟩ _).setCell ⟨w.heap.size + 1, 4, none⟩ _).setCell ⟨w.heap.size + 1, 5, none⟩ _) ?_ (ba1 _ _)
        refine OwnI.weak (base := w.heap.size + 1 + 1) ?_ (by omega)
        iterate 6 (refine OwnI.setOld ?_ (by dsimp only; omega) _)
        exact HO3.out
      · refine Below.alloc ?_ (by simp; omega) _
        iterate 6 (refine Below.setCell ?_ (by dsimp only; omega) _)
        exact HB3.out
  · rw [hbt, if_neg (by decide)]
    have HNS := Lib.hid (fun W => specNewSession_any p x1 x2 x3 x4 W hp)
    have HNE : Hid (∀ W, RetNew W p x1 x2 x3 x4 = RetSessC W ⟨#[]⟩ 0 0 0 0 [] 1) := Lib.hid (fun W => by funext e w'; unfold RetNew; rw [hbt, if_neg (by decide)])
    clear hbt
    go_enter Tryz.func12, Tryz.ntmps12
    go_wp2_with fail
    refine (HNS.out _).mono ?_
    rw [HNE.out]
    rintro e w1 ⟨a1, c1, rfl, ho1, hb1⟩
    have HB1w := Lib.hid (bt0 HB0.out hb1 (Nat.le_refl _))
    have HB1 := Lib.hid (bt0 (bt0 HB0.out hb1 (Nat.le_refl _)) (ba1 w1 (.cells #[.string ⟨#[]⟩, .int .i64 0, .int .i64 0, .int .i64 0, .int .i64 0, .slice a1 0 c1] 37 (0, 0))) (Nat.le_refl _))
    have hx1 := blkK hb1 HX0.out.2
    obtain ⟨hc1, hf1⟩ := heap_cellR hx1
    have hw1 := blkLt hx1
    clear ho1 hb1 hx1 HNS HNE
    go_wp2_with fail
    refine bodyPost_ret (v := .tuple #[.agg #[.string ⟨#[]⟩, .int .i64 0, .int .i64 0, .int .i64 0, .int .i64 0, .slice none 0 0], .int .i64 0, .int .i64 1]) (by simp [results, Tryz.results12, go_sem, hc1, hw1]) rfl ⟨none, 0, rfl, World.ownsRow_nil _ _ _ _, ?_⟩
    first
    | (refine Below.alloc ?_ (by simp; omega) _
       iterate 6 (refine Below.setCell ?_ (by dsimp only; omega) _)
       exact HB1w.out)
    | (iterate 6 (refine Below.setCell ?_ (by dsimp only; omega) _)
       exact HB1.out)

end Go.Proofs.YtpilkgcghlfdmaaGreatDoor
