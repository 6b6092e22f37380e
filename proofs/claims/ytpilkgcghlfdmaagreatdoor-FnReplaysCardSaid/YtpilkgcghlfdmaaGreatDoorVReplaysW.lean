import Derived.Test.YtpilkgcghlfdmaaGreatDoorVRpW0
import Derived.Test.YtpilkgcghlfdmaaGreatDoorVLikeI
namespace Go.Proofs.YtpilkgcghlfdmaaGreatDoor
open Go.RowKit

theorem bytes_up3 {w w' : World} {a : Option Addr} {n : Nat} (h : BytesAt w w.heap.size a n) (hb : Below w.heap.size w w') : BytesAt w' w'.heap.size a n := by
  have h1 := h.kept (w' := w') (fun k hk => hb.block k hk)
  intro i hi
  obtain ⟨b, o, z, h1, h2, h3⟩ := h1 i hi
  exact ⟨b, o, z, h1, Nat.lt_of_lt_of_le h2 hb.size, h3⟩
theorem likeInts_eq {a b : Option Addr} {xs : List Int} {c d : Nat} {w : World} (hx : IntsAt w a xs) (hy : IntsAt w b xs) (lx : xs.length ≤ maxLen) :
    Calls Tryz.prog 13 #[.slice a xs.length c, .slice b xs.length d] w fun e w' => e = .returned (.bool true) ∧ Below w.heap.size w w' :=
  (likeInts_any a b xs xs c d w hx hy lx lx).mono fun _ w' ⟨he, n, hw⟩ => ⟨by rw [he]; simp, by subst hw; exact ⟨rfl, rfl, rfl, Nat.le_refl _, fun _ _ => rfl⟩⟩
set_option maxRecDepth 100000 in
set_option maxHeartbeats 2000000 in
theorem replays_law (a : Option Addr) (n c : Nat) (w : World) (hx : BytesAt w w.heap.size a n) (hE : Env w) :
    Calls Tryz.prog 4 #[.slice a n c] w fun e w' => e = .returned (.bool true) ∧ Below w.heap.size w w' := by
  have HX := Lib.hid hx
  have HE := Lib.hid hE
  clear hx hE
  by_cases hbig : (4096 : Int) < n
  · go_enter Tryz.func4, Tryz.ntmps4
    go_wp2_with fail
    refine (big_any a n c _).mono ?_
    rintro e w' ⟨rfl, rfl⟩
    go_wp2_with fail
    go_ret
    exact ⟨rfl, Below.refl _ _⟩
  · go_enter Tryz.func4, Tryz.ntmps4
    go_wp2_with fail
    refine (big_any a n c _).mono ?_
    rintro e w0 ⟨rfl, rfl⟩
    go_wp2_with fail
    have hn4 : Hid (n ≤ 4096) := Lib.hid (by omega)
    refine (drawReplayJournal_any a n c w0 HX.out hn4.out).mono ?_
    rintro e w1 ⟨p, x1, x2, x3, x4, s, rfl, hp, hz, hb1⟩
    have HP : Hid (p.size ≤ maxLen) := Lib.hid (by unfold maxLen; omega)
    have HSZ : Hid (s.size ≤ 1048576) := Lib.hid (by omega)
    have HXB := Lib.hid (push_at w1 (.cells #[.string p, .int .i64 x1, .int .i64 x2, .int .i64 x3, .int .i64 x4] 32 (0, 0)))
    have HB1 := Lib.hid (bt0 hb1 (ba1 w1 (.cells #[.string p, .int .i64 x1, .int .i64 x2, .int .i64 x3, .int .i64 x4] 32 (0, 0))) (Nat.le_refl _))
    have hw1 : Hid (w0.heap.size ≤ w1.heap.size) := Lib.hid hb1.size
    obtain ⟨pv, y1, y2, y3, y4, zs, N, cd, hR⟩ := rpIs p x1 x2 x3 x4 s
    have HR := Lib.hid hR
    clear hb1 hbig hp hz hR
    go_wp2_with fail
    refine (replayJournal_any p x1 x2 x3 x4 s _ HP.out HSZ.out (HE.out.next HB1.out)).mono ?_
    rw [HR.out.eq]
    rintro e w2 ⟨aA, cA, rfl, hoA, hb2⟩
    have HXB2 := Lib.hid (push_old (A := (.cells #[.string pv, .int .i64 y1, .int .i64 y2, .int .i64 y3, .int .i64 y4, .slice aA zs.length cA] 37 (0, 0))) (blkK hb2 HXB.out))
    have HA2 := Lib.hid (push_at w2 (.cells #[.string pv, .int .i64 y1, .int .i64 y2, .int .i64 y3, .int .i64 y4, .slice aA zs.length cA] 37 (0, 0)))
    have HB2 := Lib.hid (bt0 (bt0 HB1.out hb2 (Nat.le_refl _)) (ba1 w2 (.cells #[.string pv, .int .i64 y1, .int .i64 y2, .int .i64 y3, .int .i64 y4, .slice aA zs.length cA] 37 (0, 0))) (Nat.le_refl _))
    have HO2 := Lib.hid (hoA.grown (ba1 w2 (.cells #[.string pv, .int .i64 y1, .int .i64 y2, .int .i64 y3, .int .i64 y4, .slice aA zs.length cA] 37 (0, 0))))
    have hw2 : Hid (w1.heap.size < w2.heap.size) := Lib.hid (blkLt (blkK hb2 HXB.out))
    have hxb := (heap_cellR HXB2.out).1
    have q2 := hw2.out
    clear hoA hb2
    go_wp2_with fail
    refine (specReplayJournal_any p x1 x2 x3 x4 s _ HP.out HSZ.out).mono ?_
    rw [HR.out.eq]
    rintro e w3 ⟨aC, cC, rfl, hoC, hb3⟩
    have HXB3 := Lib.hid (push_old (A := (.cells #[.string pv, .int .i64 y1, .int .i64 y2, .int .i64 y3, .int .i64 y4, .slice aC zs.length cC] 37 (0, 0))) (blkK hb3 HXB2.out))
    have HA3 := Lib.hid (push_old (A := (.cells #[.string pv, .int .i64 y1, .int .i64 y2, .int .i64 y3, .int .i64 y4, .slice aC zs.length cC] 37 (0, 0))) (blkK hb3 HA2.out))
    have HC3 := Lib.hid (push_at w3 (.cells #[.string pv, .int .i64 y1, .int .i64 y2, .int .i64 y3, .int .i64 y4, .slice aC zs.length cC] 37 (0, 0)))
    have HB3 := Lib.hid (bt0 (bt0 HB2.out hb3 (Nat.le_refl _)) (ba1 w3 (.cells #[.string pv, .int .i64 y1, .int .i64 y2, .int .i64 y3, .int .i64 y4, .slice aC zs.length cC] 37 (0, 0))) (Nat.le_refl _))
    have HO3 := Lib.hid ((HO2.out.grown hb3).grown (ba1 w3 (.cells #[.string pv, .int .i64 y1, .int .i64 y2, .int .i64 y3, .int .i64 y4, .slice aC zs.length cC] 37 (0, 0))))
    have HOC3 := Lib.hid (hoC.grown (ba1 w3 (.cells #[.string pv, .int .i64 y1, .int .i64 y2, .int .i64 y3, .int .i64 y4, .slice aC zs.length cC] 37 (0, 0))))
    have hw3 : Hid (w2.heap.size < w3.heap.size) := Lib.hid (blkLt (blkK hb3 HA2.out))
    have HZL : Hid (zs.length ≤ maxLen) := Lib.hid (by have := HR.out.len; unfold maxLen; omega)
    clear hoC hb3 hxb q2
    have ha3 := (heap_cellR HA3.out).1
    have hc3 := (heap_cellR HC3.out).1
    have q3 := hw3.out
    have e1 : (cd != cd) = false := by simp
    have e2 : ((N : Int) != (N : Int)) = false := by simp
    go_wp2_with fail
    refine (likeInts_eq HO3.out.ints HOC3.out.ints HZL.out).mono ?_
    rintro e w4 ⟨rfl, hb4⟩
    have HXB4 := Lib.hid (blkK hb4 HXB3.out)
    have HA4 := Lib.hid (blkK hb4 HA3.out)
    have HB4 := Lib.hid (bt0 HB3.out hb4 (Nat.le_refl _))
    have HO4 := Lib.hid (HO3.out.grown hb4)
    clear hb4 ha3 hc3 q3 e1 e2 HOC3 HC3
    by_cases hc0 : cd = 0
    · subst hc0
      obtain ⟨hbt, hov, rfl, rfl, rfl, rfl, rfl, hzs, hN⟩ := HR.out.ok rfl
      obtain ⟨hx30, hx31⟩ := batch_count hbt
      obtain ⟨n3, rfl⟩ := Int.eq_ofNat_of_zero_le (show (0 : Int) ≤ x3 by omega)
      have hn3 : n3 ≤ 200 := by omega
      rw [show ((n3 : Int)).toNat = n3 from Int.toNat_natCast n3] at hzs hN
      obtain ⟨z0, hz0⟩ : ∃ z0, List.replicate n3 (0 : Int) = z0 := ⟨_, rfl⟩
      have HZ0 := Lib.hid hz0
      have HZR := Lib.hid (show ∀ x ∈ z0, 0 ≤ x ∧ x ≤ 4 by rw [← hz0]; exact zeros_range n3)
      have HZN := Lib.hid (show z0.length = n3 by rw [← hz0]; exact List.length_replicate)
      rw [hz0] at hzs hN
      have HBT := Lib.hid hbt
      have HOV := Lib.hid hov
      have HZS := Lib.hid hzs
      have HN := Lib.hid hN
      clear hbt hov hzs hN hz0 hx30 hx31
      go_wp2_with fail
      refine (specRecoverJournal_any s w4 HSZ.out).mono ?_
      rintro e w5 ⟨aL, cL, l, hl, rfl, hoL, hb5⟩
      have HXB5 := Lib.hid (blkK hb5 HXB4.out)
      have HA5 := Lib.hid (blkK hb5 HA4.out)
      have HB5 := Lib.hid (bt0 HB4.out hb5 (Nat.le_refl _))
      have HO5 := Lib.hid (HO4.out.grown hb5)
      have HOL5 := Lib.hid hoL
      have hl3 : l.length ≤ 300 := by rw [hl]; exact (recS_prop s).2.1
      have HLK := Lib.hid (show ∀ r ∈ l, r.ok = true by rw [hl]; exact (recS_prop s).1)
      have HL := Lib.hid hl
      have hw5 : Hid (w4.heap.size ≤ w5.heap.size) := Lib.hid hb5.size
      rw [HOV.out]
      simp only [Bool.false_eq_true, if_false]
      obtain ⟨rv, hrv⟩ : ∃ rv, (s.size : Int) - ((textJ 0 0 l).length : Int) = rv := ⟨_, rfl⟩
      rw [hrv]
      clear hl hoL hb5 hrv
      go_wp2_with fail
      refine (roll3301_any a n c w5 (bytes_up3 HX.out HB5.out) hn4.out).mono ?_
      rintro e w6 ⟨b, rfl, hbw, hd6, hb6⟩
      have HXB6 := Lib.hid (blkK hb6 HXB5.out)
      have HA6 := Lib.hid (blkK hb6 HA5.out)
      have HB6 := Lib.hid (bt0 HB5.out hb6 (Nat.le_refl _))
      have HO6 := Lib.hid (HO5.out.grown hb6)
      have HOL6 := Lib.hid (HOL5.out.grown hb6)
      have HOhi := Lib.hid HO5.out.hi
      have HLhi := Lib.hid HOL5.out.hi
      have hax := blkLt HA5.out
      have hbx := blkLt HXB5.out
      have hd6' := Lib.hid hd6
      have wl : IntKind.i64.wrap ((l.length : Int) + 1) = (l.length : Int) + 1 := IntWalk.i64_in _ (by omega)
      clear hd6 hb6
      go_wp2_with fail
      refine (below_any b _ w6 hd6'.out (by omega) (by omega)).mono ?_
      rintro e w7 ⟨r, rfl, r0, r1, hd7, hg7⟩
      obtain ⟨kk, rfl⟩ := Int.eq_ofNat_of_zero_le r0
      have hkk : kk ≤ l.length := by omega
      have HXB7 := Lib.hid ((hg7.block _ (blkLt HXB6.out) (fun e => by have := Option.some.inj e; omega)).trans HXB6.out)
      have HA7 := Lib.hid ((hg7.block _ (blkLt HA6.out) (fun e => by have := Option.some.inj e; omega)).trans HA6.out)
      have HO7 := Lib.hid (HO6.out.other hg7 (fun k hk e => by have := HOhi.out k hk; have := Option.some.inj e; omega))
      have HOL7 := Lib.hid (HOL6.out.other hg7 (fun k hk e => by have := HLhi.out k hk; have := Option.some.inj e; omega))
      have hb05 := HB5.out.size
      have HB7 := Lib.hid (HB6.out.trans (below_of_grownBy hg7 HB6.out.size (fun k e => by have := Option.some.inj e; omega)))
      obtain ⟨hlc, hmap⟩ := rc_shape HOL7.out
      have hkc : (kk : Int) ≤ (cL : Int) := by omega
      clear hd7 hg7 r0 r1 wl hb05 HXB5 HA5 HO5 HOL5 HB5 HXB6 HA6 HO6 HOL6 HB6 HOhi HLhi hd6'
      have hj := specJournalOf_any aL (l.take kk) cL w7 (by rw [List.length_take]; omega) (rc_take HOL7.out.at kk)
      rw [show (l.take kk).length = kk by rw [List.length_take]; omega] at hj
      obtain ⟨hj1, hj2, hj3, hj4⟩ := jrn_take hl3 HLK.out kk
      rw [hj1] at hj
      have HJ := Lib.hid hj
      have HR2 : Hid (∀ W, RetRp W p x1 x2 n3 x4 (textB (l.take kk)) = RetS3 W p x1 x2 n3 x4 (repX n3 z0 (l.take kk)) (repN n3 z0 (l.take kk)) 0) := Lib.hid (fun W => by
        funext e w'
        rw [RetRp, if_pos HBT.out, hj3, if_neg (by decide), hj2, show ((n3 : Int)).toNat = n3 from Int.toNat_natCast n3, HZ0.out])
      obtain ⟨t, ht⟩ : ∃ t, textB (l.take kk) = t := ⟨_, rfl⟩
      rw [ht] at HR2 HJ hj4
      have HTZ : Hid (t.size ≤ 1048576) := Lib.hid (by omega)
      clear hj hj1 hj2 hj3 hj4 ht
      go_wp2_with fail
      refine HJ.out.mono ?_
      rintro e w8 ⟨rfl, hb8⟩
      have HXB8 := Lib.hid (blkK hb8 HXB7.out)
      have HA8 := Lib.hid (blkK hb8 HA7.out)
      have HB8 := Lib.hid (bt0 HB7.out hb8 (Nat.le_refl _))
      have HO8 := Lib.hid (HO7.out.grown hb8)
      have HOL8 := Lib.hid (HOL7.out.grown hb8)
      have hxb := (heap_cellR HXB8.out).1
      clear hb8 HJ hlc hmap hkc hax hbx
      go_wp2_with fail
      refine (replayJournal_any p x1 x2 n3 x4 t w8 HP.out HTZ.out (HE.out.next HB8.out)).mono ?_
      rw [HR2.out]
      rintro e w9 ⟨aY, cY, rfl, hoY, hb9⟩
      obtain ⟨ys0, hys0⟩ : ∃ ys0, repX n3 z0 (l.take kk) = ys0 := ⟨_, rfl⟩
      obtain ⟨N0, hN0⟩ : ∃ N0, repN n3 z0 (l.take kk) = N0 := ⟨_, rfl⟩
      rw [hys0] at hoY ⊢
      rw [hN0]
      have HYS0 := Lib.hid hys0
      have HN0 := Lib.hid hN0
      have hb08 := HB8.out.size
      have hlt9 := blkLt (blkK hb9 HA8.out)
      have H0 : Hid (LwSt w0 w0.heap.size w9.heap.size w2.heap.size p x1 x2 n3 x4 ys0 aY cY zs aA cA l aL cL (w9.alloc (.cells #[.string p, .int .i64 x1, .int .i64 x2, .int .i64 n3, .int .i64 x4, .slice aY ys0.length cY] 37 (0, 0)))) := Lib.hid
        { box := push_at _ _
          boxX := push_old (blkK hb9 HA8.out)
          own := (hoY.grown (ba1 _ _)).weak hb08
          ownX := ((HO8.out.grown hb9).grown (ba1 _ _)).weak (by have h1 := hw1.out; have h2 := hw2.out; first | omega | (have := HB1.out.size; omega))
          lst := ((HOL8.out.grown hb9).grown (ba1 _ _)).weak (by have := HB4.out.size; omega)
          nobL := (HOL8.out.grown hb9).hi
          bel := bt0 (bt0 HB8.out hb9 (Nat.le_refl _)) (ba1 _ _) (Nat.le_refl _) }
      have hwY : Hid (w0.heap.size ≤ w9.heap.size) := Lib.hid (by have := hb9.size; omega)
      have hXY : Hid (w2.heap.size < w9.heap.size) := Lib.hid hlt9
      clear hxb hoY hb9 hys0 hN0 hb08 hlt9 HXB HXB2 HXB3 HXB4 HXB7 HXB8 HA2 HA3 HA4 HA7 HA8 HB1 HB2 HB3 HB4 HB7 HB8 HO2 HO3 HO4 HO7 HO8 HOL7 HOL8 HR2 HTZ HSZ
      go_wp2_with fail
      generalize w9.alloc (.cells #[.string p, .int .i64 x1, .int .i64 x2, .int .i64 n3, .int .i64 x4, .slice aY ys0.length cY] 37 (0, 0)) = w10 at *
      obtain ⟨bY, hbY⟩ : ∃ bY, w9.heap.size = bY := ⟨_, rfl⟩
      obtain ⟨bX, hbX⟩ : ∃ bX, w2.heap.size = bX := ⟨_, rfl⟩
      rw [hbY] at H0 hwY hXY ⊢
      rw [hbX] at H0 hXY ⊢
      have HTT := Lib.hid (show N = repN n3 z0 l by rw [HN.out, ← HL.out])
      have HXS := Lib.hid (show zs = repX n3 z0 l by rw [HZS.out, ← HL.out])
      clear hbY hbX hw1 hw2 hw3 hw5 hbw HR HOV HZ0 HN HZS HL hn4 HX
      go_loopw [18, 20, 21, 22] (fun q i _ _ wr => ∃ (k : Nat) (ys : List Int) (N : Nat) (a' : Option Addr) (c' : Nat), k ≤ l.length ∧ i = .int .i64 k ∧ ys = repX n3 z0 (l.take k) ∧ N = repN n3 z0 (l.take k) ∧ q = .int .i64 (N : Int) ∧ LwSt w0 w0.heap.size bY bX p x1 x2 n3 x4 ys a' c' zs aA cA l aL cL wr) (fun _ i _ _ _ => l.length - (intOf i).toNat)
      case atStart => exact ⟨kk, ys0, N0, aY, cY, hkk, rfl, HYS0.out.symm, HN0.out.symm, rfl, H0.out⟩
      case round =>
        clear H0 HYS0 HN0 hkk
        obtain ⟨k, ys, N1, a', c', hk, rfl, hys, hN, rfl, hst⟩ := hrel
        have HYS := Lib.hid hys
        have HN := Lib.hid hN
        have HST := Lib.hid hst
        have hNk : N1 ≤ 300 := by rw [hN]; have := repN_le n3 z0 (l.take k); have h2 := List.length_take_le k l; omega
        have hyl : ys.length = n3 := by rw [hys, repX_len, HZN.out]
        have HYL := Lib.hid hyl
        have HYR : Hid (∀ x ∈ ys, 0 ≤ x ∧ x ≤ 4) := Lib.hid (by rw [hys]; exact repX_range _ _ _ HZR.out)
        obtain ⟨hcb, hfb⟩ := heap_cellR hst.box
        have hwb := blkLt hst.box
        clear hys hN hst hyl
        by_cases hlt : k < l.length
        · obtain ⟨r, hr⟩ : ∃ r, l[k]? = some r := ⟨_, List.getElem?_eq_getElem hlt⟩
          obtain ⟨b1, o1, rfl, hbl, h0, h1⟩ := rc_at HST.out.lst.at hr
          have HT := Lib.hid (rep_take (x3 := n3) (xs := z0) hr)
          have HC0 := Lib.hid h0
          have HC1 := Lib.hid h1
          have HCB := Lib.hid hcb
          have HAC : Hid (arC p x1 x2 n3 x4 ys r.k r.n = apC r.k r.n n3 ys) := Lib.hid (by unfold arC; rw [if_pos (sess_of HBT.out HYL.out HYR.out)])
          have hlti : (k : Int) < (l.length : Int) := by omega
          clear hr h0 h1 hcb hfb
          obtain ⟨pv, y1, y2, y3, y4, zs, cd, har, hcase⟩ : ∃ (pv : ByteArray) (y1 y2 y3 y4 : Int) (zs : List Int) (cd : Int), (∀ W, RetAr W p x1 x2 n3 x4 (apXs r.k r.n n3 ys) (apC r.k r.n n3 ys) = RetSessC W pv y1 y2 y3 y4 zs cd) ∧ cd = apC r.k r.n n3 ys ∧ (cd = 0 → pv = p ∧ y1 = x1 ∧ y2 = x2 ∧ y3 = n3 ∧ y4 = x4 ∧ zs = apXs r.k r.n n3 ys) := by
            by_cases h : apC r.k r.n n3 ys = 0
            · exact ⟨p, x1, x2, n3, x4, apXs r.k r.n n3 ys, 0, fun W => by unfold RetAr; rw [if_pos h], h.symm, fun _ => ⟨rfl, rfl, rfl, rfl, rfl, rfl⟩⟩
            · exact ⟨⟨#[]⟩, 0, 0, 0, 0, [], apC r.k r.n n3 ys, fun W => by unfold RetAr; rw [if_neg h], rfl, fun h' => absurd h' h⟩
          have HAR := Lib.hid har
          have HCS := Lib.hid hcase
          clear har hcase
          go_wp2_with fail
          refine wp_region_rsF (Keep := KB) 8 [106, 107, 108, 109, 110, 111, 105, 112, 113, 21] (fun us => _)
            [spE (.agg #[.string p, .int .i64 x1, .int .i64 x2, .int .i64 n3, .int .i64 x4, .slice a' ys.length c']),
             spE (.slice (some ⟨b1, o1, none⟩) l.length cL), spE (.int .i64 (k : Int)), spE (.pointer (some ⟨b1, o1 + k * 2, none⟩)), spE (.agg #[.int .i64 r.k, .int .i64 r.n]),
             spSesT wr.heap.size pv y1 y2 y3 y4 zs cd, spSesT wr.heap.size pv y1 y2 y3 y4 zs cd, spSesV wr.heap.size pv y1 y2 y3 y4 zs, spE (.int .i64 cd),
             spBox wr.heap.size #[.string ⟨#[]⟩, .int .i64 0, .int .i64 0, .int .i64 0, .int .i64 0, .slice none 0 0] 37]
            (StX wr) _ _ 37 _ _ 113 (by kernel_rfl) (by kernel_rfl) (fun us => by simp [over, List.mapIdx_cons]; exact rfl) (stX0 _) kbr rfl rfl rfl rfl rfl rfl rfl (by kernel_rfl) (by kernel_rfl) (fun us v => by exact ⟨rfl, rfl⟩) ?_ ?_ ?_ ?_
          · refine ⟨?_, ?_, ?_, ?_, ?_, ?_, ?_, ?_, ?_, ?_, trivial⟩
            all_goals (intro us wx hst hd; rw [if_pos (by kernel_rfl)]; dsimp only)
            · clear hd
              have hB := boxB hst HCB.out (by omega)
              go_simp
              exact kb_same hst rfl
            · clear hd
              go_simp
              exact kb_same hst rfl
            · clear hd
              go_simp
              exact kb_same hst rfl
            · have d18 : us 107 = .slice (some ⟨b1, o1, none⟩) l.length cL := hd ⟨1, .data⟩ (by simp) rfl
              have d19 : us 108 = .int .i64 (k : Int) := hd ⟨2, .data⟩ (by simp) rfl
              clear hd
              go_simp
              exact kb_same hst rfl
            · have d20 : us 109 = .pointer (some ⟨b1, o1 + k * 2, none⟩) := hd ⟨3, .data⟩ (by simp) rfl
              clear hd
              have h0 := (hst.cell (p := ⟨b1, o1 + k * 2, none⟩) hbl).trans HC0.out
              have h1 := (hst.cell (p := ⟨b1, o1 + k * 2 + 1, none⟩) hbl).trans HC1.out
              go_simp
              exact kb_same hst rfl
            · have d17 : us 106 = .agg #[.string p, .int .i64 x1, .int .i64 x2, .int .i64 n3, .int .i64 x4, .slice a' ys.length c'] := hd ⟨0, .data⟩ (by simp) rfl
              have d21 : us 110 = .agg #[.int .i64 r.k, .int .i64 r.n] := hd ⟨4, .data⟩ (by simp) rfl
              clear hd
              have hox := HST.out.own.grown hst
              have h9 := applyRecord_any p x1 x2 n3 x4 a' ys c' r.k r.n wx hox.ints HP.out (by rw [HYL.out]; omega) hox.slc (HE.out.next (bt0 HST.out.bel hst (Nat.le_refl _))).tab
              rw [HAC.out, HAR.out] at h9
              go_simp
              exact h9.mono fun e w' ⟨a9, c9, he, ho, hb⟩ => ⟨_, he, kb_below hst hb ⟨a9, c9, rfl, ho.weak hst.size⟩⟩
            · have d22 : SesT wr.heap.size pv y1 y2 y3 y4 zs cd (us 111) wx := hd ⟨5, .data⟩ (by simp) rfl
              clear hd
              obtain ⟨aS, cS, eS, hoS⟩ := d22
              have HOS := Lib.hid hoS
              clear hoS
              go_simp
              exact kb_same hst ⟨aS, cS, rfl, HOS.out⟩
            · have d16 : SesT wr.heap.size pv y1 y2 y3 y4 zs cd (us 105) wx := hd ⟨6, .data⟩ (by simp) rfl
              clear hd
              obtain ⟨aS, cS, eS, hoS⟩ := d16
              have HOS := Lib.hid hoS
              clear hoS
              go_simp
              exact kb_same hst ⟨aS, cS, rfl, HOS.out⟩
            · have d16 : SesT wr.heap.size pv y1 y2 y3 y4 zs cd (us 105) wx := hd ⟨6, .data⟩ (by simp) rfl
              clear hd
              obtain ⟨aS, cS, eS, hoS⟩ := d16
              clear hoS
              go_simp
              exact kb_same hst rfl
            · clear hd
              go_simp
              exact kb_new hst (Nat.le_refl _)
          · intro us wx hst hd
            have dv : SesV wr.heap.size pv y1 y2 y3 y4 zs (us 112) wx := hd 7 (by simp) (by decide)
            have db : BoxK wr.heap.size #[.string ⟨#[]⟩, .int .i64 0, .int .i64 0, .int .i64 0, .int .i64 0, .slice none 0 0] 37 (us 21) wx := hd 9 (by simp) (by decide)
            obtain ⟨aS, cS, ev, hoS⟩ := dv
            obtain ⟨bS, eb, hbB, hgS⟩ := db
            exact ⟨bS, _, _, _, eb, ev, hgS, by kernel_rfl, rfl, by kernel_rfl⟩
          · intro us wx hst hd
            have dt : SesT wr.heap.size pv y1 y2 y3 y4 zs cd (us 105) wx := hd 6 (by simp) (by decide)
            obtain ⟨aS, cS, et, hoS⟩ := dt
            clear hoS hd
            refine ⟨.int .i64 cd, fun w' => ?_, (show upd us (some 113) (.int .i64 cd) 113 = .int .i64 cd from rfl)⟩
            go_simp
            try rfl
          · intro us wx hst hd
            have dv : SesV wr.heap.size pv y1 y2 y3 y4 zs (us 112) wx := hd 7 (by simp)
            have dc : us 113 = .int .i64 cd := hd 8 (by simp)
            have db : BoxK wr.heap.size #[.string ⟨#[]⟩, .int .i64 0, .int .i64 0, .int .i64 0, .int .i64 0, .slice none 0 0] 37 (us 21) wx := hd 9 (by simp)
            clear hd
            obtain ⟨aS, cS, eSv, hoS⟩ := dv
            obtain ⟨bS, eSb, hbSB, hgS⟩ := db
            simp only [List.drop, List.length]
            rw [eSv, dc, eSb]
            have HGS := Lib.hid hgS
            have HOS := Lib.hid hoS
            have HSTX := Lib.hid (HST.out.below hst)
            obtain ⟨hcS, hfS⟩ := heap_cellR hgS
            obtain ⟨hcX, hfX⟩ := heap_cellR HSTX.out.box
            have hbS := blkLt hgS
            have hne1 : bS ≠ bY := by omega
            have hne2 : bY ≠ bS := by omega
            have hwx : bY < wx.heap.size := blkLt HSTX.out.box
            have HBS : Hid (bY < bS) := Lib.hid (by omega)
            clear eSv dc eSb hgS hoS hst
            by_cases hc0 : cd = 0
            · obtain ⟨rfl, rfl, rfl, rfl, rfl, hzs⟩ := HCS.out.2 hc0
              subst hc0
              have HZS := Lib.hid hzs
              clear hzs
              go_wp2_with fail
              have HG1 := Lib.hid (grown6 wx bS (.string pv) (.int .i64 y1) (.int .i64 y2) (.int .i64 n3) (.int .i64 y4) (.slice aS zs.length cS))
              have hnb := own_ne_box HOS.out HGS.out (by decide)
              have ho1 := HOS.out.other HG1.out (fun k hk e => hnb (by rw [hk, ← e]))
              have h2 := HSTX.out.other HG1.out (Or.inr ⟨hbS, _, HGS.out, HBS.out⟩) hXY.out hwY.out
              generalize ((((((wx.setCell ⟨bS, 0, none⟩ (.string pv)).setCell ⟨bS, 1, none⟩ (.int .i64 y1)).setCell ⟨bS, 2, none⟩ (.int .i64 y2)).setCell ⟨bS, 3, none⟩ (.int .i64 n3)).setCell ⟨bS, 4, none⟩ (.int .i64 y4)).setCell ⟨bS, 5, none⟩ (.slice aS zs.length cS)) = W6 at *
              have h3 := h2.stored (ho1.weak (by have := HST.out.bel.size; omega)) hXY.out hwY.out
              exact ⟨⟨k + 1, zs, N1, aS, cS, by omega, by go_num, by rw [HT.out.1, ← HYS.out]; exact HZS.out, by rw [HT.out.2, ← HYS.out, ← HN.out, if_pos (HCS.out.1).symm]; rfl, rfl, h3⟩, by simp [intOf]; omega⟩
            · have hc1 : (cd != 0) = true := by simpa using hc0
              have HC9 := Lib.hid hc0
              clear hc0
              go_wp2_with fail
              have HG1 := grown6 wx bS (.string pv) (.int .i64 y1) (.int .i64 y2) (.int .i64 y3) (.int .i64 y4) (.slice aS zs.length cS)
              have h2 := HSTX.out.other HG1 (Or.inr ⟨hbS, _, HGS.out, HBS.out⟩) hXY.out hwY.out
              have hc9 : apC r.k r.n n3 ys ≠ 0 := by rw [← HCS.out.1]; exact HC9.out
              have hzz : apXs r.k r.n n3 ys = ys := by
                unfold apXs
                rw [if_neg]
                intro h
                unfold apOk at h
                rw [Bool.and_eq_true] at h
                exact hc9 (by unfold apC; rw [if_pos h.1, if_pos h.2])
              exact ⟨⟨k + 1, ys, N1 + 1, a', c', by omega, by go_num, by rw [HT.out.1, ← HYS.out, hzz], by rw [HT.out.2, ← HYS.out, ← HN.out, if_neg hc9], by go_num, h2⟩, by simp [intOf]; omega⟩
        · obtain rfl : k = l.length := by omega
          have HFX : Hid (ys = zs ∧ N1 = N) := Lib.hid (by have h1 := HYS.out; have h2 := HN.out; rw [List.take_length] at h1 h2; exact ⟨h1.trans HXS.out.symm, h2.trans HTT.out.symm⟩)
          obtain ⟨hys, hNN⟩ := HFX.out
          obtain ⟨hcx, hfx⟩ := heap_cellR HST.out.boxX
          have hlti : ¬ (l.length : Int) < (l.length : Int) := by omega
          have e5 : ((N : Int) == (N : Int)) = true := by simp
          subst hys
          subst hNN
          have HO := Lib.hid HST.out.own
          have HZL2 : Hid (ys.length ≤ maxLen) := Lib.hid (by rw [HYL.out]; unfold maxLen; omega)
          go_wp2_with fail
          refine (likeInts_eq HST.out.own.ints HST.out.ownX.ints HZL2.out).mono ?_
          rintro e w11 ⟨rfl, hb11⟩
          have HB := Lib.hid (bt0 HST.out.bel hb11 (Nat.le_refl _))
          clear hb11
          go_wp2_with fail
          go_ret
          exact ⟨rfl, HB.out⟩
    · have e3 : (cd != 0) = true := by simpa using hc0
      clear hc0
      go_wp2_with fail
      go_ret
      exact ⟨rfl, HB4.out⟩

end Go.Proofs.YtpilkgcghlfdmaaGreatDoor
