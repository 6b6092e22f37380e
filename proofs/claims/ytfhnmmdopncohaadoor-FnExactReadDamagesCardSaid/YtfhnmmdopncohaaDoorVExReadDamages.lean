import Derived.Test.YtfhnmmdopncohaaDoorVSpRd
namespace Go.Proofs.YtfhnmmdopncohaaDoor
open Go.RowKit

/-- the first k damages bear the marks from m on -/
def MkCs (cs : Array Value) (m : Int) (k : Nat) : Prop := ∀ i j, i < k → j < 6 → cs[i * 6 + j]? = some (.int .i64 (m + 6 * (i : Nat) + (j : Nat)))
theorem mkCs_step {cs : Array Value} {n k : Nat} {m : Int} (hs : n * 6 ≤ cs.size) (hk : k < n) (h : MkCs cs m k) :
    MkCs (set6 cs (k * 6) (.int .i64 (m + 6 * (k : Nat))) (.int .i64 (m + 6 * (k : Nat) + 1)) (.int .i64 (m + 6 * (k : Nat) + 2)) (.int .i64 (m + 6 * (k : Nat) + 3)) (.int .i64 (m + 6 * (k : Nat) + 4)) (.int .i64 (m + 6 * (k : Nat) + 5))) m (k + 1) := by
  intro i j hi hj
  have hk6 : k * 6 + 5 < cs.size := by omega
  unfold set6
  simp only [Array.getElem?_setIfInBounds, Array.size_setIfInBounds]
  by_cases hik : i = k
  · subst hik
    have hj2 : j = 0 ∨ j = 1 ∨ j = 2 ∨ j = 3 ∨ j = 4 ∨ j = 5 := by omega
    rcases hj2 with rfl | rfl | rfl | rfl | rfl | rfl
    all_goals (repeat (first | rw [if_pos trivial] | rw [if_neg (by omega)] | rw [if_pos (by omega)]))
    all_goals simp
  · repeat (rw [if_neg (by omega)])
    exact h i j (by omega) hj
theorem at6' {cs : Array Value} {n k : Nat} (hs : n * 6 ≤ cs.size) (hk : k < n) (j : Nat) (hj : j < 6) : ∃ v, cs[k * 6 + j]? = some v := ⟨cs[k * 6 + j]'(by omega), Array.getElem?_eq_getElem _⟩
/-- while damages are marked -/
def MkSt (w wr : World) (g n k : Nat) (m : Int) : Prop := ∃ cs, wr.heap[g]? = some (.cells cs 50 (0, 0)) ∧ n * 6 ≤ cs.size ∧ MkCs cs m k ∧ w.grownBy wr (some g)
theorem heap_set6' {w : World} {g o : Nat} {cs : Array Value} {t : TypeId} (h : w.heap[g]? = some (.cells cs t (0, 0))) (v0 v1 v2 v3 v4 v5 : Value) :
    ((((((w.setCell ⟨g, o, none⟩ v0).setCell ⟨g, o + 1, none⟩ v1).setCell ⟨g, o + 2, none⟩ v2).setCell ⟨g, o + 3, none⟩ v3).setCell ⟨g, o + 4, none⟩ v4).setCell ⟨g, o + 5, none⟩ v5).heap[g]? = some (.cells (set6 cs o v0 v1 v2 v3 v4 v5) t (0, 0)) :=
  src_set (src_set (src_set (src_set (src_set (src_set h o v0) (o + 1) v1) (o + 2) v2) (o + 3) v3) (o + 4) v4) (o + 5) v5
theorem MkSt.step {w wr : World} {g n k : Nat} {m : Int} (h : MkSt w wr g n k m) (hk : k < n) :
    MkSt w ((((((wr.setCell ⟨g, k * 6, none⟩ (.int .i64 (m + 6 * (k : Nat)))).setCell ⟨g, k * 6 + 1, none⟩ (.int .i64 (m + 6 * (k : Nat) + 1))).setCell ⟨g, k * 6 + 2, none⟩ (.int .i64 (m + 6 * (k : Nat) + 2))).setCell ⟨g, k * 6 + 3, none⟩ (.int .i64 (m + 6 * (k : Nat) + 3))).setCell ⟨g, k * 6 + 4, none⟩ (.int .i64 (m + 6 * (k : Nat) + 4))).setCell ⟨g, k * 6 + 5, none⟩ (.int .i64 (m + 6 * (k : Nat) + 5))) g n (k + 1) m := by
  obtain ⟨cs, h1, h2, h3, h4⟩ := h
  refine ⟨_, heap_set6' (o := k * 6) h1 _ _ _ _ _ _, by rw [set6_size]; exact h2, mkCs_step h2 hk h3, ?_⟩
  iterate 6 (refine grownBy_trans ?_ (grownBy_set _ _ _ _))
  exact h4

set_option maxRecDepth 100000 in
set_option maxHeartbeats 1000000 in
theorem markDamageS_box (g n c : Nat) (m : Int) (w : World) (h0 : MkSt w w g n 0 m) (ln : n ≤ 1099511627776) (hm0 : 0 ≤ m) (hm : m ≤ 1099511627776) :
    Calls Tryd.prog 9 #[.slice (some ⟨g, 0, none⟩) n c, .int .i64 m] w fun e w' => e = .returned (.int .i64 (m + 6 * n)) ∧ MkSt w w' g n n m := by
  have H0 := Lib.hid h0
  clear h0
  go_enter Tryd.func9, Tryd.ntmps9
  go_wp2
  go_loopw [1, 5] (fun q i wr => ∃ k : Nat, k ≤ n ∧ i = .int .i64 k ∧ q = .int .i64 (m + 6 * k) ∧ MkSt w wr g n k m) (fun _ i _ => n - (intOf i).toNat)
  case atStart => exact ⟨0, Nat.zero_le _, rfl, by simp, H0.out⟩
  case round =>
    obtain ⟨k, hk, rfl, rfl, ht⟩ := hrel
    have HT := Lib.hid ht
    by_cases hlt : k < n
    · obtain ⟨cs, hg, hs, -, -⟩ := ht
      obtain ⟨hcc, hff⟩ := heap_cellR hg
      obtain ⟨u0, g0⟩ := at6' hs hlt 0 (by omega)
      obtain ⟨u1, g1⟩ := at6' hs hlt 1 (by omega)
      obtain ⟨u2, g2⟩ := at6' hs hlt 2 (by omega)
      obtain ⟨u3, g3⟩ := at6' hs hlt 3 (by omega)
      obtain ⟨u4, g4⟩ := at6' hs hlt 4 (by omega)
      obtain ⟨u5, g5⟩ := at6' hs hlt 5 (by omega)
      rw [← hcc] at g0 g1 g2 g3 g4 g5
      rw [Nat.add_zero] at g0
      clear hg hs hcc
      go_wp2_with fail
      refine ⟨⟨k + 1, by omega, by go_num, by go_num, ?_⟩, by simp [intOf]; omega⟩
      have q5 : m + 6 * (k : Int) + 1 + 1 + 1 + 1 + 1 = m + 6 * (k : Int) + 5 := by omega
      have q4 : m + 6 * (k : Int) + 1 + 1 + 1 + 1 = m + 6 * (k : Int) + 4 := by omega
      have q3 : m + 6 * (k : Int) + 1 + 1 + 1 = m + 6 * (k : Int) + 3 := by omega
      have q2 : m + 6 * (k : Int) + 1 + 1 = m + 6 * (k : Int) + 2 := by omega
      rw [q5, q4, q3, q2]
      exact HT.out.step hlt
    · obtain rfl : k = n := by omega
      clear ht
      go_wp2
      go_ret
      exact ⟨rfl, HT.out⟩

set_option maxHeartbeats 1000000 in
theorem markDamageS_nil (a : Option Addr) (c : Nat) (m : Int) (w : World) (_hm0 : 0 ≤ m) (_hm : m ≤ 1099511627776) :
    Calls Tryd.prog 9 #[.slice a 0 c, .int .i64 m] w fun e w' => e = .returned (.int .i64 m) ∧ w = w' := by
  go_enter Tryd.func9, Tryd.ntmps9
  go_wp2
  go_loop [1, 5] (fun q i => i = .int .i64 0 ∧ q = .int .i64 m) (fun _ _ => 0)
  case atStart => exact ⟨rfl, rfl⟩
  case round =>
    obtain ⟨rfl, rfl⟩ := hrel
    go_wp2
    go_ret
    exact ⟨rfl, rfl⟩

theorem mkCs_at {w : World} {g n k : Nat} {cs : Array Value} {t : TypeId} {m : Int} (hg : w.heap[g]? = some (.cells cs t (0, 0))) (h : MkCs cs m n) (hk : k < n) :
    w.cell? ⟨g, k * 6, none⟩ = some (.int .i64 (m + 6 * (k : Nat))) ∧ w.cell? ⟨g, k * 6 + 1, none⟩ = some (.int .i64 (m + 6 * (k : Nat) + 1)) ∧ w.cell? ⟨g, k * 6 + 2, none⟩ = some (.int .i64 (m + 6 * (k : Nat) + 1 + 1)) ∧ w.cell? ⟨g, k * 6 + 3, none⟩ = some (.int .i64 (m + 6 * (k : Nat) + 1 + 1 + 1)) ∧ w.cell? ⟨g, k * 6 + 4, none⟩ = some (.int .i64 (m + 6 * (k : Nat) + 1 + 1 + 1 + 1)) ∧ w.cell? ⟨g, k * 6 + 5, none⟩ = some (.int .i64 (m + 6 * (k : Nat) + 1 + 1 + 1 + 1 + 1)) := by
  have hc := (heap_cellR hg).1
  have q5 : m + 6 * (k : Int) + 1 + 1 + 1 + 1 + 1 = m + 6 * (k : Int) + 5 := by omega
  have q4 : m + 6 * (k : Int) + 1 + 1 + 1 + 1 = m + 6 * (k : Int) + 4 := by omega
  have q3 : m + 6 * (k : Int) + 1 + 1 + 1 = m + 6 * (k : Int) + 3 := by omega
  have q2 : m + 6 * (k : Int) + 1 + 1 = m + 6 * (k : Int) + 2 := by omega
  rw [q5, q4, q3, q2, hc, hc, hc, hc, hc, hc]
  have h0 := h k 0 hk (by omega)
  rw [Nat.add_zero] at h0
  have e0 : m + 6 * (k : Int) + ((0 : Nat) : Int) = m + 6 * (k : Int) := by omega
  rw [e0] at h0
  exact ⟨h0, h k 1 hk (by omega), h k 2 hk (by omega), h k 3 hk (by omega), h k 4 hk (by omega), h k 5 hk (by omega)⟩

set_option maxRecDepth 100000 in
set_option maxHeartbeats 1000000 in
theorem heldDamageS_box (g n c : Nat) (m : Int) (w : World) (cs : Array Value) (hg : w.heap[g]? = some (.cells cs 50 (0, 0))) (hm' : MkCs cs m n) (ln : n ≤ 1099511627776) (hm0 : 0 ≤ m) (hm : m ≤ 1099511627776) :
    Calls Tryd.prog 10 #[.slice (some ⟨g, 0, none⟩) n c, .int .i64 m] w fun e w' => e = .returned (.int .i64 (m + 6 * n)) ∧ w = w' := by
  have HG := Lib.hid hg
  have HM := Lib.hid hm'
  clear hg hm'
  go_enter Tryd.func10, Tryd.ntmps10
  go_wp2
  go_loop [1, 5] (fun q i => ∃ k : Nat, k ≤ n ∧ i = .int .i64 k ∧ q = .int .i64 (m + 6 * k)) (fun _ i => n - (intOf i).toNat)
  case atStart => exact ⟨0, Nat.zero_le _, rfl, by simp⟩
  case round =>
    obtain ⟨k, hk, rfl, rfl⟩ := hrel
    by_cases hlt : k < n
    · obtain ⟨h0, h1, h2, h3, h4, h5⟩ := mkCs_at HG.out HM.out hlt
      have e0 : (m + 6 * (k : Int) != m + 6 * (k : Int)) = false := by simp
      go_wp2_with fail
      exact ⟨⟨k + 1, by omega, by go_num, by go_num⟩, by simp [intOf]; omega⟩
    · obtain rfl : k = n := by omega
      go_wp2
      go_ret
      exact ⟨rfl, rfl⟩

set_option maxHeartbeats 1000000 in
theorem heldDamageS_nil (a : Option Addr) (c : Nat) (m : Int) (w : World) (_hm0 : 0 ≤ m) (_hm : m ≤ 1099511627776) :
    Calls Tryd.prog 10 #[.slice a 0 c, .int .i64 m] w fun e w' => e = .returned (.int .i64 m) ∧ w = w' := by
  go_enter Tryd.func10, Tryd.ntmps10
  go_wp2
  go_loop [1, 5] (fun q i => i = .int .i64 0 ∧ q = .int .i64 m) (fun _ _ => 0)
  case atStart => exact ⟨rfl, rfl⟩
  case round =>
    obtain ⟨rfl, rfl⟩ := hrel
    go_wp2
    go_ret
    exact ⟨rfl, rfl⟩

/-- what ReadDamages answers, in one form -/
theorem retRD_view {w w' : World} {o : Option (List Dm)} {e : Ending} (h : RetRD w o e w') :
    ∃ a c, e = .returned (.tuple #[.slice a (o.getD []).length c, .bool o.isSome]) ∧ OwnD w' w.heap.size (.slice a (o.getD []).length c) (o.getD []) ∧ Below w.heap.size w w' := by
  cases o with
  | none =>
    obtain ⟨hb, he⟩ := h
    exact ⟨none, 0, he, World.ownsRow_nil _ _ _ _, hb⟩
  | some ds =>
    obtain ⟨hb, a, c, he, ho⟩ := h
    exact ⟨a, c, he, ho, hb⟩
theorem rdS_len (s : ByteArray) : ((rdS s).getD []).length ≤ 20 := by
  cases h : rdS s with
  | none => simp
  | some ds =>
    unfold rdS at h
    split at h
    · cases h; simp
    · exact ((rdText_iff _ _).1 h).2.1

set_option maxRecDepth 100000 in
set_option maxHeartbeats 1000000 in
theorem exReadDamages_any (s : ByteArray) (w : World) (hE : Env w) :
    Calls Tryd.prog 3 #[.string s] w fun e w' => e = .returned (.bool true) ∧ Below w.heap.size w w' := by
  have HE := Lib.hid hE
  clear hE
  by_cases hbig : 1048576 < s.size
  · have hi : (1048576 : Int) < ((s.size : Nat) : Int) := by omega
    go_enter Tryd.func3, Tryd.ntmps3
    go_wp2_with fail
    go_ret
    exact ⟨rfl, Below.refl _ _⟩
  have hi : ¬ (1048576 : Int) < ((s.size : Nat) : Int) := by omega
  have hs : s.size ≤ 1048576 := by omega
  have HL := Lib.hid (rdS_len s)
  have HSP := Lib.hid (rdS_spS s)
  go_enter Tryd.func3, Tryd.ntmps3
  go_wp2_with fail
  refine (spReadDamages_any s _ hs).mono ?_
  intro e w1 h1
  rw [← HSP.out] at h1
  obtain ⟨a1, c1, rfl, ho1, hb1⟩ := retRD_view h1
  have HO1 := Lib.hid ho1
  have HB1 := Lib.hid hb1
  clear h1 ho1 hb1
  obtain ⟨ds, hds⟩ : ∃ ds, (rdS s).getD [] = ds := ⟨_, rfl⟩
  obtain ⟨ok, hok⟩ : ∃ ok, (rdS s).isSome = ok := ⟨_, rfl⟩
  have HDS := Lib.hid hds
  have HOK := Lib.hid hok
  rw [hds] at HO1 HL
  rw [hds, hok]
  clear hds hok
  go_wp2_with fail
  refine (readDamages_any s _ hs (HE.out.next HB1.out)).mono ?_
  intro e w2 h2
  obtain ⟨a2, c2, rfl, ho2, hb2⟩ := retRD_view h2
  rw [HDS.out, HOK.out]
  rw [HDS.out] at ho2
  have HO2 := Lib.hid ho2
  have HB2 := Lib.hid (bt0 HB1.out hb2 (Nat.le_refl _))
  have HO1b := Lib.hid (HO1.out.grown hb2)
  have HZ2 := Lib.hid hb2.size
  have hok2 : (ok != ok) = false := by simp
  clear h2 ho2 hb2
  go_wp2_with fail
  refine (eqDamageS_same a2 a1 ds c2 c1 _ HO2.out.dms HO1b.out.dms (by have := HL.out; omega)).mono ?_
  rintro e w3 ⟨rfl, hb3⟩
  have HO2c := Lib.hid (HO2.out.grown hb3)
  have HO1c := Lib.hid (HO1b.out.grown hb3)
  have HB3 := Lib.hid (bt0 HB2.out hb3 (Nat.le_refl _))
  have HZ3 := Lib.hid (Nat.le_trans HZ2.out hb3.size)
  clear hb3
  cases ds with
  | nil =>
    go_wp2_with fail
    refine (markDamageS_nil a2 c2 1 _ (by omega) (by omega)).mono ?_
    rintro e w4 ⟨rfl, rfl⟩
    go_wp2_with fail
    refine (heldDamageS_nil a2 c2 1 _ (by omega) (by omega)).mono ?_
    rintro e w4 ⟨rfl, rfl⟩
    go_wp2_with fail
    refine (readDamages_any s _ hs (HE.out.next HB3.out)).mono ?_
    intro e w5 h5
    obtain ⟨a5, c5, rfl, ho5, hb5⟩ := retRD_view h5
    rw [HDS.out, HOK.out]
    rw [HDS.out] at ho5
    have HO5 := Lib.hid ho5
    have HB5 := Lib.hid (bt0 HB3.out hb5 (Nat.le_refl _))
    have HO1d := Lib.hid (HO1c.out.grown hb5)
    clear h5 ho5 hb5
    go_wp2_with fail
    refine (eqDamageS_same a5 a1 [] c5 c1 _ HO5.out.dms HO1d.out.dms (by simp)).mono ?_
    rintro e w6 ⟨rfl, hb6⟩
    have HB6 := Lib.hid (bt0 HB5.out hb6 (Nat.le_refl _))
    clear hb6
    go_wp2_with fail
    refine (heldDamageS_nil a2 c2 1 _ (by omega) (by omega)).mono ?_
    rintro e w7 ⟨rfl, rfl⟩
    go_wp2_with fail
    go_ret
    exact ⟨rfl, HB6.out⟩
  | cons d0 dt =>
    obtain ⟨g, hga, hgb, hgx⟩ : ∃ g, a2 = some ⟨g, 0, none⟩ ∧ w1.heap.size ≤ g ∧ ∃ cs, w3.heap[g]? = some (.cells cs 50 (0, 0)) ∧ (d0 :: dt).length * 6 ≤ cs.size := by
      rcases HO2c.out.2 with ⟨_, h0⟩ | ⟨g, cap, cur, h1, hb, hg, hn, hm, hsz, ht⟩
      · simp at h0
      · simp only [Value.slice.injEq] at h1
        obtain ⟨rfl, _, rfl⟩ := h1
        exact ⟨g, rfl, hb, cur, hg, by rw [hsz]; exact Nat.mul_le_mul_right 6 hn⟩
    subst hga
    obtain ⟨cs, hgc, hgs⟩ := hgx
    have hmk : MkSt w3 w3 g (d0 :: dt).length 0 1 := ⟨cs, hgc, hgs, fun i j hi => absurd hi (by omega), World.grownBy.refl _ _⟩
    have hk1 : ∀ k, (Value.slice a1 (d0 :: dt).length c1).ownBlock = some k → some g ≠ some k := fun k hk e => by
      have h1 := OwnD.hi HO1.out k hk
      have h2 := Option.some.inj e
      omega
    have hgw : w.heap.size ≤ g := Nat.le_trans HB1.out.size hgb
    have HMK := Lib.hid hmk
    have HK1 := Lib.hid hk1
    have HLN := Lib.hid (show (d0 :: dt).length ≤ 1099511627776 by have := HL.out; omega)
    have HLV := HL.out
    clear hgc hgs hmk hk1
    obtain ⟨n, hn⟩ : ∃ n, (d0 :: dt).length = n := ⟨_, rfl⟩
    have HN := Lib.hid hn
    rw [hn] at HMK HLV ⊢
    clear hn
    go_wp2_with fail
    refine (markDamageS_box g n c2 1 _ HMK.out (by omega) (by omega) (by omega)).mono ?_
    rintro e w4 ⟨rfl, cs4, hg4, hs4, hm4, hgb4⟩
    have HG4 := Lib.hid hg4
    have HM4 := Lib.hid hm4
    have HB4 := Lib.hid (HB3.out.trans (below_of_grownBy hgb4 HB3.out.size (fun k e => by cases e; exact hgw)))
    have HO1d := Lib.hid (OwnD.other HO1c.out hgb4 HK1.out)
    clear hg4 hs4 hm4 hgb4
    go_wp2_with fail
    refine (heldDamageS_box g n c2 1 _ cs4 HG4.out HM4.out (by omega) (by omega) (by omega)).mono ?_
    rintro e w5 ⟨rfl, rfl⟩
    go_wp2_with fail
    refine (readDamages_any s _ hs (HE.out.next HB4.out)).mono ?_
    intro e w5 h5
    obtain ⟨a5, c5, rfl, ho5, hb5⟩ := retRD_view h5
    rw [HDS.out, HOK.out, HN.out]
    rw [HDS.out] at ho5
    have HO5 := Lib.hid ho5
    have HB5 := Lib.hid (bt0 HB4.out hb5 (Nat.le_refl _))
    have HO1e := Lib.hid (HO1d.out.grown hb5)
    have HG5 := Lib.hid (blkK hb5 HG4.out)
    clear h5 ho5 hb5
    go_wp2_with fail
    rw [← HN.out]
    refine (eqDamageS_same a5 a1 (d0 :: dt) c5 c1 _ HO5.out.dms HO1e.out.dms HLN.out).mono ?_
    rw [HN.out]
    rintro e w6 ⟨rfl, hb6⟩
    have HB6 := Lib.hid (bt0 HB5.out hb6 (Nat.le_refl _))
    have HG6 := Lib.hid (blkK hb6 HG5.out)
    clear hb6
    go_wp2_with fail
    refine (heldDamageS_box g n c2 1 _ cs4 HG6.out HM4.out (by omega) (by omega) (by omega)).mono ?_
    rintro e w7 ⟨rfl, rfl⟩
    go_wp2_with fail
    go_ret
    exact ⟨rfl, HB6.out⟩

end Go.Proofs.YtfhnmmdopncohaaDoor
