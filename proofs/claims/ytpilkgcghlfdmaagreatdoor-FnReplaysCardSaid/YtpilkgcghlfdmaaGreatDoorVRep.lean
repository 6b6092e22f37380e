import Derived.Test.YtpilkgcghlfdmaaGreatDoorVJnW
import Derived.Test.YtpilkgcghlfdmaaGreatDoorVApI
import Derived.Test.YtpilkgcghlfdmaaGreatDoorVNewS
namespace Go.Proofs.YtpilkgcghlfdmaaGreatDoor
open Go.RowKit

/-- the states behind records, and how many of these are left out -/
def repX (x3 : Int) : List Int → List Rc → List Int
  | xs, [] => xs
  | xs, r :: t => repX x3 (apXs r.k r.n x3 xs) t
def repN (x3 : Int) : List Int → List Rc → Nat
  | _, [] => 0
  | xs, r :: t => (if apC r.k r.n x3 xs = 0 then 0 else 1) + repN x3 (apXs r.k r.n x3 xs) t
theorem repX_snoc (x3 : Int) : ∀ (xs : List Int) (l : List Rc) (r : Rc), repX x3 xs (l ++ [r]) = apXs r.k r.n x3 (repX x3 xs l)
  | _, [], _ => rfl
  | xs, a :: t, r => repX_snoc x3 (apXs a.k a.n x3 xs) t r
theorem repN_snoc (x3 : Int) : ∀ (xs : List Int) (l : List Rc) (r : Rc), repN x3 xs (l ++ [r]) = repN x3 xs l + if apC r.k r.n x3 (repX x3 xs l) = 0 then 0 else 1
  | xs, [], r => by
    by_cases h : apC r.k r.n x3 xs = 0 <;> simp [repN, repX, h]
  | xs, a :: t, r => by
    rw [List.cons_append, repN, repN_snoc x3 (apXs a.k a.n x3 xs) t r, repN, repX]
    omega
theorem repX_app (x3 : Int) : ∀ (xs : List Int) (l m : List Rc), repX x3 xs (l ++ m) = repX x3 (repX x3 xs l) m
  | _, [], _ => rfl
  | xs, a :: t, m => repX_app x3 (apXs a.k a.n x3 xs) t m
theorem repN_app (x3 : Int) : ∀ (xs : List Int) (l m : List Rc), repN x3 xs (l ++ m) = repN x3 xs l + repN x3 (repX x3 xs l) m
  | _, [], _ => by simp [repN, repX]
  | xs, a :: t, m => by
    rw [List.cons_append, repN, repN_app x3 (apXs a.k a.n x3 xs) t m, repN, repX]
    omega
theorem repX_len (x3 : Int) : ∀ (xs : List Int) (l : List Rc), (repX x3 xs l).length = xs.length
  | _, [] => rfl
  | xs, a :: t => by rw [repX, repX_len, apXs_len]
theorem repN_le (x3 : Int) : ∀ (xs : List Int) (l : List Rc), repN x3 xs l ≤ l.length
  | _, [] => Nat.le_refl _
  | xs, a :: t => by
    have := repN_le x3 (apXs a.k a.n x3 xs) t
    rw [repN, List.length_cons]
    split <;> omega
theorem apXs_range {k i x3 : Int} {xs : List Int} (h : ∀ x ∈ xs, 0 ≤ x ∧ x ≤ 4) : ∀ x ∈ apXs k i x3 xs, 0 ≤ x ∧ x ≤ 4 := by
  unfold apXs
  split
  · intro x hx
    rcases List.mem_or_eq_of_mem_set hx with h1 | h1
    · exact h x h1
    · subst h1; exact nextS_bd _ _
  · exact h
theorem repX_range (x3 : Int) : ∀ (xs : List Int) (l : List Rc), (∀ x ∈ xs, 0 ≤ x ∧ x ≤ 4) → ∀ x ∈ repX x3 xs l, 0 ≤ x ∧ x ≤ 4
  | _, [], h => h
  | _, _ :: t, h => repX_range x3 _ t (apXs_range h)
theorem zeros_range (n : Nat) : ∀ x ∈ List.replicate n (0 : Int), 0 ≤ x ∧ x ≤ 4 := by
  intro x hx
  rw [List.mem_replicate] at hx
  omega
theorem rep_take {x3 : Int} {xs : List Int} {l : List Rc} {k : Nat} {r : Rc} (hr : l[k]? = some r) :
    repX x3 xs (l.take (k + 1)) = apXs r.k r.n x3 (repX x3 xs (l.take k)) ∧ repN x3 xs (l.take (k + 1)) = repN x3 xs (l.take k) + if apC r.k r.n x3 (repX x3 xs (l.take k)) = 0 then 0 else 1 := by
  rw [take_snoc' hr]; exact ⟨repX_snoc _ _ _ _, repN_snoc _ _ _ _⟩

/-- a session, a number and a code are handed back -/
def RetS3 (w : World) (p : ByteArray) (x1 x2 x3 x4 : Int) (xs : List Int) (n code : Int) (e : Ending) (w' : World) : Prop :=
  ∃ a c, e = .returned (.tuple #[.agg #[.string p, .int .i64 x1, .int .i64 x2, .int .i64 x3, .int .i64 x4, .slice a xs.length c], .int .i64 n, .int .i64 code]) ∧ OwnI w' w.heap.size (.slice a xs.length c) xs ∧ Below w.heap.size w w'
/-- what ReplayJournal answers -/
def RetRp (w : World) (p : ByteArray) (x1 x2 x3 x4 : Int) (s : ByteArray) : Ending → World → Prop :=
  if isBatchB p x1 x2 x3 x4 = true then (if overS s = true then RetS3 w ⟨#[]⟩ 0 0 0 0 [] 0 3 else RetS3 w p x1 x2 x3 x4 (repX x3 (List.replicate x3.toNat 0) (recS s)) (repN x3 (List.replicate x3.toNat 0) (recS s)) 0) else RetS3 w ⟨#[]⟩ 0 0 0 0 [] 0 1

set_option maxRecDepth 100000 in
set_option maxHeartbeats 1000000 in
theorem replayJournal_any (p : ByteArray) (x1 x2 x3 x4 : Int) (s : ByteArray) (w : World) (hp : p.size ≤ maxLen) (hs : s.size ≤ 1048576) (hE : Env w) :
    Calls Tryz.prog 11 #[.agg #[.string p, .int .i64 x1, .int .i64 x2, .int .i64 x3, .int .i64 x4], .string s] w (RetRp w p x1 x2 x3 x4 s) := by
  have HE := Lib.hid hE
  have HB0 := Lib.hid (ba2 w (.cells #[.string p, .int .i64 x1, .int .i64 x2, .int .i64 x3, .int .i64 x4] 32 (0, 0)) (.cells #[.string ⟨#[]⟩, .int .i64 0, .int .i64 0, .int .i64 0, .int .i64 0, .slice none 0 0] 37 (0, 0)))
  have HX0 := Lib.hid (heap2 w (.cells #[.string p, .int .i64 x1, .int .i64 x2, .int .i64 x3, .int .i64 x4] 32 (0, 0)) (.cells #[.string ⟨#[]⟩, .int .i64 0, .int .i64 0, .int .i64 0, .int .i64 0, .slice none 0 0] 37 (0, 0)))
  have FINB : Hid (∀ W : World, Below w.heap.size w W → Below w.heap.size w ((((((W.setCell ⟨w.heap.size + 1, 0, none⟩ (.string ⟨#[]⟩)).setCell ⟨w.heap.size + 1, 1, none⟩ (.int .i64 0)).setCell ⟨w.heap.size + 1, 2, none⟩ (.int .i64 0)).setCell ⟨w.heap.size + 1, 3, none⟩ (.int .i64 0)).setCell ⟨w.heap.size + 1, 4, none⟩ (.int .i64 0)).setCell ⟨w.heap.size + 1, 5, none⟩ (.slice none 0 0))) := Lib.hid (fun W h => by
    iterate 6 (refine Below.setCell ?_ (by dsimp only; omega) _)
    exact h)
  clear hE
  unfold RetRp
  rcases Bool.eq_false_or_eq_true (isBatchB p x1 x2 x3 x4) with hbt | hbt
  · rw [hbt, if_pos rfl]
    have HBT := Lib.hid hbt
    obtain ⟨hx30, hx31⟩ := batch_count hbt
    obtain ⟨n3, rfl⟩ := Int.eq_ofNat_of_zero_le (show (0 : Int) ≤ x3 by omega)
    have hn3 : n3 ≤ 200 := by omega
    rw [show ((n3 : Int)).toNat = n3 from Int.toNat_natCast n3]
    rcases Bool.eq_false_or_eq_true (overS s) with hov | hov
    · rw [hov, if_pos rfl]
      have HOV := Lib.hid hov
      clear hbt hov
      go_enter Tryz.func11, Tryz.ntmps11
      go_wp2_with fail
      refine (isBatch_val HBT.out hp (HE.out.next HB0.out).tab).mono ?_
      rintro e w1 ⟨rfl, hb1⟩
      have HB1 := Lib.hid (bt0 HB0.out hb1 (Nat.le_refl _))
      have HX1 := Lib.hid (blkK hb1 HX0.out.2)
      clear hb1
      go_wp2_with fail
      refine (recoverJournal_any s w1 hs (HE.out.next HB1.out)).mono ?_
      rintro e w2 ⟨a, c, l, hl, rfl, ho, hb2⟩
      have HB2 := Lib.hid (bt0 HB1.out hb2 (Nat.le_refl _))
      have hx2 := blkK hb2 HX1.out
      obtain ⟨hc2, hf2⟩ := heap_cellR hx2
      have hw2 := blkLt hx2
      rw [HOV.out]
      simp only [if_pos]
      clear hl ho hb2 hx2
      go_wp2_with fail
      refine bodyPost_ret (v := .tuple #[.agg #[.string ⟨#[]⟩, .int .i64 0, .int .i64 0, .int .i64 0, .int .i64 0, .slice none 0 0], .int .i64 0, .int .i64 3]) (by simp [results, Tryz.results11, go_sem, hc2]) rfl ⟨none, 0, rfl, World.ownsRow_nil _ _ _ _, FINB.out _ HB2.out⟩
    · rw [hov, if_neg (by decide)]
      have HOV := Lib.hid hov
      clear hbt hov FINB
      go_enter Tryz.func11, Tryz.ntmps11
      go_wp2_with fail
      refine (isBatch_val HBT.out hp (HE.out.next HB0.out).tab).mono ?_
      rintro e w1 ⟨rfl, hb1⟩
      have HB1 := Lib.hid (bt0 HB0.out hb1 (Nat.le_refl _))
      have HX1 := Lib.hid (And.intro (blkK hb1 HX0.out.1) (blkK hb1 HX0.out.2))
      clear hb1
      go_wp2_with fail
      refine (recoverJournal_any s w1 hs (HE.out.next HB1.out)).mono ?_
      rintro e w2 ⟨a, c, l, hl, rfl, ho, hb2⟩
      have HB2 := Lib.hid (bt0 HB1.out hb2 (Nat.le_refl _))
      have HX2 := Lib.hid (And.intro (blkK hb2 HX1.out.1) (blkK hb2 HX1.out.2))
      have HL := Lib.hid hl
      have HOL := Lib.hid ho
      have hl3 : l.length ≤ 300 := by rw [hl]; exact (recS_prop s).2.1
      have hw12 := hb2.size
      have hw01 : w.heap.size + 1 < w1.heap.size := blkLt HX1.out.2
      rw [← hl, HOV.out]
      simp only [Bool.false_eq_true, if_false]
      obtain ⟨rv, hrv⟩ : ∃ rv, (s.size : Int) - ((textJ 0 0 l).length : Int) = rv := ⟨_, rfl⟩
      rw [hrv]
      have hc2 := (heap_cellR HX2.out.1).1
      have hw2 := blkLt HX2.out.1
      clear hl ho hb2 hrv
      go_wp2_with fail
      refine (newSess_any p x1 x2 x4 n3 w2 (by omega)).mono ?_
      rintro e w3 ⟨a3, c3, rfl, ho3, hb3⟩
      have HB3 := Lib.hid (bt0 HB2.out hb3 (Nat.le_refl _))
      have HO3 := Lib.hid ho3
      have HX3 := Lib.hid (And.intro (blkK hb3 HX2.out.1) (blkK hb3 HX2.out.2))
      have HW23 := Lib.hid hb3
      have hz3 := zeros_range n3
      have hlz : (List.replicate n3 (0 : Int)).length = n3 := List.length_replicate
      obtain ⟨zs, hzs⟩ : ∃ zs, List.replicate n3 (0 : Int) = zs := ⟨_, rfl⟩
      have HZS := Lib.hid hzs
      rw [hzs] at HO3 hz3 hlz ⊢
      have HZ := Lib.hid hz3
      have HLZ := Lib.hid hlz
      clear hc2 hw2 ho3 hb3 hzs hz3 hlz
      go_wp2_with fail
      refine (keep_any p x1 x2 n3 x4 a3 zs c3 w3 HO3.out.ints (by rw [HLZ.out]; omega) HO3.out.slc).mono ?_
      rintro e w4 ⟨b, a4, c4, rfl, hk4, ho4, hbb, hne4, hb4⟩
      have HB4 := Lib.hid (bt0 HB3.out hb4 (Nat.le_refl _))
      have HK4 := Lib.hid hk4
      have HO4 := Lib.hid ho4
      have HX4 := Lib.hid (blkK hb4 HX3.out.2)
      have HOL3 := Lib.hid (HOL.out.grown HW23.out)
      have HBK := Lib.hid hb4
      have HNE := Lib.hid hne4
      have hw34 := hb4.size
      have hw13 : w1.heap.size ≤ w3.heap.size := by have h1 := HW23.out.size; omega
      clear hk4 ho4 hb4 hne4
      go_wp2_with fail
      go_loopw [11, 13, 33] (fun q _ i wr => ∃ (k : Nat) (ys : List Int) (N : Nat), k ≤ l.length ∧ i = .int .i64 k ∧ ys = repX n3 zs (l.take k) ∧ N = repN n3 zs (l.take k) ∧ q = .int .i64 (N : Int) ∧ wr.heap[b]? = some (.cells (kcs 0 p x1 x2 n3 x4 (.slice a4 ys.length c4)) 93 (0, 0)) ∧ OwnI wr w3.heap.size (.slice a4 ys.length c4) ys ∧ Below w3.heap.size w3 wr) (fun _ _ i _ => l.length - (intOf i).toNat)
      case atStart => exact ⟨0, zs, 0, Nat.zero_le _, rfl, rfl, rfl, rfl, HK4.out, HO4.out, (by have h := HB4; exact HBK.out)⟩
      case round =>
        obtain ⟨k, ys, N, hk, rfl, hys, hN, rfl, hkp, ho, hbr⟩ := hrel
        have HYS := Lib.hid hys
        have HN := Lib.hid hN
        have HKP := Lib.hid hkp
        have HO := Lib.hid ho
        have HBR := Lib.hid hbr
        have hNk : N ≤ 300 := by rw [hN]; have := repN_le n3 zs (l.take k); have h2 := List.length_take_le k l; omega
        have hwr := hbr.size
        have hyl : ys.length = n3 := by rw [hys, repX_len, HLZ.out]
        have HYL := Lib.hid hyl
        have HYR : Hid (∀ x ∈ ys, 0 ≤ x ∧ x ≤ 4) := Lib.hid (by rw [hys]; exact repX_range _ _ _ HZ.out)
        clear hys hN hkp ho hbr hyl
        by_cases hlt : k < l.length
        · obtain ⟨r, hr⟩ : ∃ r, l[k]? = some r := ⟨_, List.getElem?_eq_getElem hlt⟩
          obtain ⟨b1, o1, rfl, hbl, h0, h1⟩ := rc_at ((HOL3.out.at).below HBR.out) hr
          have HT := Lib.hid (rep_take (x3 := n3) (xs := zs) hr)
          have HBx := Lib.hid (ba1 wr (.cells #[.int .i64 r.k, .int .i64 r.n] 53 (0, 0)))
          have hbw := blkLt HKP.out
          clear hr
          go_wp2_with fail
          refine (apply_any w3.heap.size b w3.heap.size r.k r.n p x1 x2 n3 x4 a4 c4 ys _ (blkK HBx.out HKP.out) (HO.out.grown HBx.out) (by rw [HYL.out]; have h := HNE.out; rw [HLZ.out] at h; exact h) hbb (Nat.le_refl _) (by rw [HYL.out]) HYR.out).mono ?_
          rintro e w6 ⟨rfl, hkp6, ho6, hb6⟩
          have hl6 : (apXs r.k r.n n3 ys).length = ys.length := apXs_len _ _ _ _
          have HB6 := Lib.hid ((HBR.out.trans (HBx.out.mono hwr)).trans hb6)
          obtain ⟨zz, hzz⟩ : ∃ zz, apXs r.k r.n n3 ys = zz := ⟨_, rfl⟩
          rw [hzz] at ho6 hl6
          rw [← hl6] at hkp6 ho6
          have HKP6 := Lib.hid hkp6
          have HO6 := Lib.hid ho6
          have HZZ : Hid (zz = repX n3 zs (l.take (k + 1))) := Lib.hid (by rw [HT.out.1, ← HYS.out, hzz])
          have HNN : Hid (repN n3 zs (l.take (k + 1)) = N + if apC r.k r.n n3 ys = 0 then 0 else 1) := Lib.hid (by rw [HT.out.2, ← HYS.out, HN.out])
          clear hkp6 ho6 hb6 hl6 hzz h0 h1
          obtain ⟨cd, hcd⟩ : ∃ cd, apC r.k r.n n3 ys = cd := ⟨_, rfl⟩
          rw [hcd] at HNN ⊢
          clear hcd
          by_cases hc0 : cd = 0
          · subst hc0
            go_wp2_with fail
            exact ⟨⟨k + 1, zz, N, by omega, by go_num, HZZ.out, by rw [HNN.out]; rfl, rfl, HKP6.out, HO6.out, HB6.out⟩, by simp [intOf]; omega⟩
          · have hc1 : (cd != 0) = true := by simpa using hc0
            have HC := Lib.hid hc0
            clear hc0
            go_wp2_with fail
            exact ⟨⟨k + 1, zz, N + 1, by omega, by go_num, HZZ.out, by rw [HNN.out, if_neg HC.out], by go_num, HKP6.out, HO6.out, HB6.out⟩, by simp [intOf]; omega⟩
        · obtain rfl : k = l.length := by omega
          have HFX : Hid (ys = repX n3 zs l ∧ N = repN n3 zs l) := Lib.hid (by have h1 := HYS.out; have h2 := HN.out; rw [List.take_length] at h1 h2; exact ⟨h1, h2⟩)
          have hkb := HKP.out
          unfold kcs at hkb
          obtain ⟨hcb, hfb⟩ := heap_cellR hkb
          have hx4 := (HBR.out.block (w.heap.size + 1) (by omega)).trans HX3.out.2
          obtain ⟨hc4, hf4⟩ := heap_cellR hx4
          have hw4 := blkLt hx4
          have hwb := blkLt hkb
          have hne : b ≠ w.heap.size + 1 := by omega
          have HBF := Lib.hid (HB3.out.trans (HBR.out.mono (by have := HB3.out.size; exact this)))
          clear hkb hx4
          go_wp2_with fail
          refine bodyPost_ret (v := .tuple #[.agg #[.string p, .int .i64 x1, .int .i64 x2, .int .i64 n3, .int .i64 x4, .slice a4 ys.length c4], .int .i64 N, .int .i64 0]) (by simp [results, Tryz.results11, go_sem, hc4]) rfl ?_
          rw [HZS.out, ← HL.out, ← HFX.out.1, ← HFX.out.2]
          refine ⟨a4, c4, rfl, ?_, ?_⟩
          · refine OwnI.weak (base := w3.heap.size) ?_ (by omega)
            iterate 6 (refine OwnI.setOld ?_ (by dsimp only; omega) _)
            exact HO.out
          · iterate 6 (refine Below.setCell ?_ (by dsimp only; omega) _)
            exact HBF.out
  · rw [hbt, if_neg (by decide)]
    have HBT := Lib.hid hbt
    clear hbt
    go_enter Tryz.func11, Tryz.ntmps11
    go_wp2_with fail
    refine (isBatch_val HBT.out hp (HE.out.next HB0.out).tab).mono ?_
    rintro e w1 ⟨rfl, hb1⟩
    have HB1 := Lib.hid (bt0 HB0.out hb1 (Nat.le_refl _))
    have hx1 := blkK hb1 HX0.out.2
    obtain ⟨hc1, hf1⟩ := heap_cellR hx1
    have hw1 := blkLt hx1
    clear hb1 hx1
    go_wp2_with fail
    refine bodyPost_ret (v := .tuple #[.agg #[.string ⟨#[]⟩, .int .i64 0, .int .i64 0, .int .i64 0, .int .i64 0, .slice none 0 0], .int .i64 0, .int .i64 1]) (by simp [results, Tryz.results11, go_sem, hc1]) rfl ⟨none, 0, rfl, World.ownsRow_nil _ _ _ _, FINB.out _ HB1.out⟩

end Go.Proofs.YtpilkgcghlfdmaaGreatDoor
