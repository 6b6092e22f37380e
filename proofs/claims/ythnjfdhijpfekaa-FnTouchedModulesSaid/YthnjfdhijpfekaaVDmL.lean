import Derived.Test.YthnjfdhijpfekaaVSpR
import Derived.Test.YthnjfdhijpfekaaVApH
namespace Go.Proofs.Ythnjfdhijpfekaa
open Go.RowKit

theorem infoDm : (Try.prog.info? 32).map (fun i => (i.zero, i.size, i.bytes)) = some (some (.agg #[.int .i64 0, .int .i64 0, .int .i64 0, .int .i64 0, .int .i64 0, .int .i64 0]), 6, 48) := by kernel_rfl

/-- the first k damages lie in the cells cs -/
def DmCs (cs : Array Value) (ds : List Dm) (k : Nat) : Prop := ∀ i d, i < k → ds[i]? = some d → cs[i * 6]? = some (.int .i64 d.k) ∧ cs[i * 6 + 1]? = some (.int .i64 d.r) ∧ cs[i * 6 + 2]? = some (.int .i64 d.c) ∧ cs[i * 6 + 3]? = some (.int .i64 d.t) ∧ cs[i * 6 + 4]? = some (.int .i64 d.w) ∧ cs[i * 6 + 5]? = some (.int .i64 d.g)
def set6 (cs : Array Value) (o : Nat) (v0 v1 v2 v3 v4 v5 : Value) : Array Value := (((((cs.setIfInBounds o v0).setIfInBounds (o + 1) v1).setIfInBounds (o + 2) v2).setIfInBounds (o + 3) v3).setIfInBounds (o + 4) v4).setIfInBounds (o + 5) v5
theorem set6_size (cs : Array Value) (o : Nat) (v0 v1 v2 v3 v4 v5 : Value) : (set6 cs o v0 v1 v2 v3 v4 v5).size = cs.size := by simp [set6]
theorem dmCs_step {cs : Array Value} {ds : List Dm} {k : Nat} {d : Dm} (hs : cs.size = ds.length * 6) (h : DmCs cs ds k) (hd : ds[k]? = some d) :
    DmCs (set6 cs (k * 6) (.int .i64 d.k) (.int .i64 d.r) (.int .i64 d.c) (.int .i64 d.t) (.int .i64 d.w) (.int .i64 d.g)) ds (k + 1) := by
  intro i e hi he
  have hk : k < ds.length := (List.getElem?_eq_some_iff.1 hd).1
  have hk6 : k * 6 + 5 < cs.size := by omega
  by_cases hik : i = k
  · subst hik
    obtain rfl : d = e := Option.some.inj (hd.symm.trans he)
    unfold set6
    simp only [Array.getElem?_setIfInBounds, Array.size_setIfInBounds]
    refine ⟨?_, ?_, ?_, ?_, ?_, ?_⟩
    all_goals (repeat (first | rw [if_pos trivial] | rw [if_neg (by omega)] | rw [if_pos (by omega)]))
  · have := h i e (by omega) he
    unfold set6
    simp only [Array.getElem?_setIfInBounds]
    refine ⟨?_, ?_, ?_, ?_, ?_, ?_⟩
    all_goals (repeat (rw [if_neg (by omega)]))
    · exact this.1
    · exact this.2.1
    · exact this.2.2.1
    · exact this.2.2.2.1
    · exact this.2.2.2.2.1
    · exact this.2.2.2.2.2
theorem dms_box {w : World} {b : Nat} {cs : Array Value} {t : TypeId} {ds : List Dm} (hb : w.heap[b]? = some (.cells cs t (0, 0))) (h : DmCs cs ds ds.length) : DmsAt w (some ⟨b, 0, none⟩) ds := by
  intro i hi
  obtain ⟨h0, h1, h2, h3, h4, h5⟩ := h i ds[i] hi (List.getElem?_eq_getElem hi)
  have hc := (heap_cellR hb).1
  rw [← hc] at h0 h1 h2 h3 h4 h5
  refine ⟨b, 0, rfl, ?_⟩
  rw [Nat.zero_add]
  exact ⟨h0, h1, h2, h3, h4, h5⟩

/-- damages of the call's own are handed back -/
def RetDms (w : World) (ds : List Dm) (e : Ending) (w' : World) : Prop :=
  ∃ b cs, e = .returned (.slice (some ⟨b, 0, none⟩) ds.length ds.length) ∧ w.heap.size ≤ b ∧ w'.heap[b]? = some (.cells cs 32 (0, 0)) ∧ cs.size = ds.length * 6 ∧ DmCs cs ds ds.length ∧ Below w.heap.size w w'
/-- while they are copied -/
def DmCopy (w wr : World) (ds : List Dm) (k : Nat) : Prop :=
  ∃ cs, wr.heap[w.heap.size]? = some (.cells cs 32 (0, 0)) ∧ cs.size = ds.length * 6 ∧ DmCs cs ds k ∧ Below w.heap.size w wr
theorem heap_set6 {w : World} {g o : Nat} {cs : Array Value} {t : TypeId} (h : w.heap[g]? = some (.cells cs t (0, 0))) (v0 v1 v2 v3 v4 v5 : Value) :
    ((((((w.setCell ⟨g, o, none⟩ v0).setCell ⟨g, o + 1, none⟩ v1).setCell ⟨g, o + 2, none⟩ v2).setCell ⟨g, o + 3, none⟩ v3).setCell ⟨g, o + 4, none⟩ v4).setCell ⟨g, o + 5, none⟩ v5).heap[g]? = some (.cells (set6 cs o v0 v1 v2 v3 v4 v5) t (0, 0)) :=
  src_set (src_set (src_set (src_set (src_set (src_set h o v0) (o + 1) v1) (o + 2) v2) (o + 3) v3) (o + 4) v4) (o + 5) v5
theorem DmCopy.step {w w2 : World} {cs : Array Value} {ds : List Dm} {k : Nat} {k0 r c t v g : Int} (hg : w2.heap[w.heap.size]? = some (.cells cs 32 (0, 0))) (hs : cs.size = ds.length * 6) (hc : DmCs cs ds k) (hd : ds[k]? = some ⟨k0, r, c, t, v, g⟩) (hb : Below w.heap.size w w2) :
    DmCopy w ((((((w2.setCell ⟨w.heap.size, k * 6, none⟩ (.int .i64 k0)).setCell ⟨w.heap.size, k * 6 + 1, none⟩ (.int .i64 r)).setCell ⟨w.heap.size, k * 6 + 2, none⟩ (.int .i64 c)).setCell ⟨w.heap.size, k * 6 + 3, none⟩ (.int .i64 t)).setCell ⟨w.heap.size, k * 6 + 4, none⟩ (.int .i64 v)).setCell ⟨w.heap.size, k * 6 + 5, none⟩ (.int .i64 g)) ds (k + 1) := by
  have h1 := heap_set6 (o := k * 6) hg (.int .i64 k0) (.int .i64 r) (.int .i64 c) (.int .i64 t) (.int .i64 v) (.int .i64 g)
  have h2 : DmCs (set6 cs (k * 6) (.int .i64 k0) (.int .i64 r) (.int .i64 c) (.int .i64 t) (.int .i64 v) (.int .i64 g)) ds (k + 1) := dmCs_step (d := ⟨k0, r, c, t, v, g⟩) hs hc hd
  refine ⟨_, h1, by rw [set6_size]; exact hs, h2, ?_⟩
  iterate 6 (refine Below.setCell ?_ (by dsimp only; omega) _)
  exact hb
theorem at6 {cs : Array Value} {n k : Nat} (hs : cs.size = n * 6) (hk : k < n) (j : Nat) (hj : j < 6) : ∃ v, cs[k * 6 + j]? = some v := ⟨cs[k * 6 + j]'(by omega), Array.getElem?_eq_getElem _⟩

set_option maxRecDepth 100000 in
set_option maxHeartbeats 1000000 in
theorem toDamageS_any (a : Option Addr) (ds : List Dm) (c : Nat) (w : World) (hx : DmsAt w a ds) (lx : ds.length ≤ 1099511627776) :
    Calls Try.prog 25 #[.slice a ds.length c] w (RetDms w ds) := by
  obtain ⟨i0, hi, hz0, hz1, hz2⟩ := info_parts infoDm
  have HX := Lib.hid hx
  clear hx
  go_enter Try.func25, Try.ntmps25
  go_wp2_with (at_make; refine wpList_make_full _ rfl _ _ 42 rfl w.heap.size 32 i0 (.agg #[.int .i64 0, .int .i64 0, .int .i64 0, .int .i64 0, .int .i64 0, .int .i64 0]) 6 Try.underlying42 hi hz0 hz1 _ _ _ _ ds.length rfl rfl rfl rfl ?c1 ?c2 ?c3 ?_)
  case c1 => rw [hz2]; omega
  case c2 => unfold maxLen; omega
  case c3 => omega
  intro w1 hown hg
  have H0 : Hid (DmCopy w w1 ds 0) := by
    obtain ⟨_, h2⟩ := hown
    rcases h2 with ⟨h, _⟩ | ⟨g, cap, cur, h, _, hg2, _, _, hs, _⟩
    · cases h
    · simp only [Value.slice.injEq, Option.some.injEq, Addr.mk.injEq, and_true, true_and] at h
      obtain ⟨rfl, rfl⟩ := h
      exact ⟨cur, hg2, hs, fun i d hi => absurd hi (by omega), below_of_grownBy hg (Nat.le_refl _) (fun k h => by cases h)⟩
  clear hown hg hi hz0 hz1 hz2
  go_wp2
  go_loopw [4] (fun i wr => ∃ k : Nat, k ≤ ds.length ∧ i = .int .i64 k ∧ DmCopy w wr ds k) (fun i _ => ds.length - (intOf i).toNat)
  case atStart => exact ⟨0, Nat.zero_le _, rfl, H0.out⟩
  case round =>
    clear H0
    obtain ⟨k, hk, rfl, cs, hg, hs, hcs, hb⟩ := hrel
    have HB := Lib.hid hb
    have HG := Lib.hid hg
    have HC := Lib.hid hcs
    have HS := Lib.hid hs
    by_cases hlt : k < ds.length
    · obtain ⟨b1, o1, ⟨k0, r, c0, t, w0, g⟩, rfl, hdk, hb1, hc0, hc1, hc2, hc3, hc4, hc5⟩ := (HX.out.below HB.out).at hlt
      dsimp only at hc0 hc1 hc2 hc3 hc4 hc5
      have HK := Lib.hid hdk
      clear hdk hb hg hcs hs
      go_wp2_with fail
      refine (toDamage_any k0 r c0 t g w0 _).mono ?_
      rintro e w2 ⟨rfl, hb2⟩
      have hg2 := blkK hb2 HG.out
      have HG2 := Lib.hid hg2
      have HB2 := Lib.hid (bt0 HB.out hb2 (Nat.le_refl _))
      obtain ⟨hcc, hff⟩ := heap_cellR hg2
      obtain ⟨u0, g0⟩ := at6 HS.out hlt 0 (by omega)
      obtain ⟨u1, g1⟩ := at6 HS.out hlt 1 (by omega)
      obtain ⟨u2, g2⟩ := at6 HS.out hlt 2 (by omega)
      obtain ⟨u3, g3⟩ := at6 HS.out hlt 3 (by omega)
      obtain ⟨u4, g4⟩ := at6 HS.out hlt 4 (by omega)
      obtain ⟨u5, g5⟩ := at6 HS.out hlt 5 (by omega)
      rw [← hcc] at g0 g1 g2 g3 g4 g5
      rw [Nat.add_zero] at g0
      clear hb2 hg2 hc0 hc1 hc2 hc3 hc4 hc5 hcc
      go_wp2_with fail
      exact ⟨⟨k + 1, by omega, by go_num, DmCopy.step HG2.out HS.out HC.out HK.out HB2.out⟩, by simp [intOf]; omega⟩
    · obtain rfl : k = ds.length := by omega
      clear hb hg hcs hs
      go_wp2_with fail
      go_ret
      exact ⟨w.heap.size, cs, rfl, Nat.le_refl _, HG.out, HS.out, HC.out, HB.out⟩

set_option maxHeartbeats 1000000 in
theorem szDamageS_any (a : Option Addr) (n c : Nat) (l : Int) (w : World) (hn : n ≤ maxLen) (h0 : -1 ≤ l) (hl : l ≤ 1099511627776) :
    Calls Try.prog 24 #[.slice a n c, .int .i64 l] w fun e w' => e = .returned (.int .i64 (leftOf l n)) ∧ w = w' := by
  unfold maxLen at hn
  by_cases h : l - n < 0
  · have e : leftOf l n = -1 := by rw [leftOf, if_pos h]
    have E := Lib.hid e
    clear e
    go_enter Try.func24, Try.ntmps24
    go_wp2
    go_ret
    exact ⟨ret_int E.out.symm, rfl⟩
  · have e : leftOf l n = l - n := by rw [leftOf, if_neg h]
    have E := Lib.hid e
    clear e
    go_enter Try.func24, Try.ntmps24
    go_wp2
    go_ret
    exact ⟨ret_int E.out.symm, rfl⟩

set_option maxHeartbeats 1000000 in
theorem eqDamage_same (k r c t v g : Int) (w : World) :
    Calls Try.prog 57 #[.agg #[.int .i64 k, .int .i64 r, .int .i64 c, .int .i64 t, .int .i64 v, .int .i64 g], .agg #[.int .i64 k, .int .i64 r, .int .i64 c, .int .i64 t, .int .i64 v, .int .i64 g]] w fun e w' => e = .returned (.bool true) ∧ Below w.heap.size w w' := by
  have e0 : (k != k) = false := by simp
  have e1 : (r != r) = false := by simp
  have e2 : (c != c) = false := by simp
  have e3 : (t != t) = false := by simp
  have e4 : (v != v) = false := by simp
  have e5 : (g != g) = false := by simp
  go_enter Try.func57, Try.ntmps57
  go_wp2_with fail
  go_ret
  exact ⟨rfl, ba2 _ _ _⟩

set_option maxRecDepth 100000 in
set_option maxHeartbeats 1000000 in
theorem eqDamageS_same (a b : Option Addr) (ds : List Dm) (c d : Nat) (w : World) (hx : DmsAt w a ds) (hy : DmsAt w b ds) (lx : ds.length ≤ 1099511627776) :
    Calls Try.prog 26 #[.slice a ds.length c, .slice b ds.length d] w fun e w' => e = .returned (.bool true) ∧ Below w.heap.size w w' := by
  have HX := Lib.hid hx
  have HY := Lib.hid hy
  have hll : ((ds.length : Int) != (ds.length : Int)) = false := by simp
  clear hx hy
  go_enter Try.func26, Try.ntmps26
  go_wp2_with fail
  go_loopw [5] (fun i wr => ∃ k : Nat, k ≤ ds.length ∧ i = .int .i64 k ∧ Below w.heap.size w wr) (fun i _ => ds.length - (intOf i).toNat)
  case atStart => exact ⟨0, Nat.zero_le _, rfl, Below.refl _ _⟩
  case round =>
    obtain ⟨k, hk, rfl, hb⟩ := hrel
    have HB := Lib.hid hb
    clear hb
    by_cases hlt : k < ds.length
    · obtain ⟨b1, o1, ⟨k0, r, c0, t, w0, g⟩, rfl, hdk, hb1, hc0, hc1, hc2, hc3, hc4, hc5⟩ := (HX.out.below HB.out).at hlt
      obtain ⟨b2, o2, d2, rfl, hdk2, hb2, hd0, hd1, hd2, hd3, hd4, hd5⟩ := (HY.out.below HB.out).at hlt
      obtain rfl := Option.some.inj (hdk.symm.trans hdk2)
      dsimp only at hc0 hc1 hc2 hc3 hc4 hc5 hd0 hd1 hd2 hd3 hd4 hd5
      clear hdk hdk2
      go_wp2_with fail
      refine wp_region_ext (by kernel_rfl) (by kernel_rfl) ?_
      repeat (go_big_quiet_step ((go_at_call 57; go_must (apply calls_ext; exact eqDamage_same _ _ _ _ _ _ _))))
      refine wpQuiet_nil ?_
      rintro _ ⟨s, rfl⟩
      have HB5 := Lib.hid (bt0 HB.out s.below (Nat.le_refl _))
      clear hc0 hc1 hc2 hc3 hc4 hc5 hd0 hd1 hd2 hd3 hd4 hd5
      go_wp2_with fail
      exact ⟨⟨k + 1, by omega, by go_num, HB5.out⟩, by simp [intOf]; omega⟩
    · go_wp2_with fail
      go_ret
      exact ⟨rfl, HB.out⟩

/-- while damages are marked -/
def DmMarked (w wr : World) (g n : Nat) : Prop := ∃ cs, wr.heap[g]? = some (.cells cs 32 (0, 0)) ∧ cs.size = n * 6 ∧ w.grownBy wr (some g)
theorem DmMarked.step {w wr : World} {g n o : Nat} {v0 v1 v2 v3 v4 v5 : Value} (h : DmMarked w wr g n) :
    DmMarked w ((((((wr.setCell ⟨g, o, none⟩ v0).setCell ⟨g, o + 1, none⟩ v1).setCell ⟨g, o + 2, none⟩ v2).setCell ⟨g, o + 3, none⟩ v3).setCell ⟨g, o + 4, none⟩ v4).setCell ⟨g, o + 5, none⟩ v5) g n := by
  obtain ⟨cs, h1, h2, h3⟩ := h
  have h4 := heap_set6 (o := o) h1 v0 v1 v2 v3 v4 v5
  refine ⟨_, h4, by rw [set6_size]; exact h2, ?_⟩
  iterate 6 (refine grownBy_trans ?_ (grownBy_set _ _ _ _))
  exact h3

set_option maxRecDepth 100000 in
set_option maxHeartbeats 1000000 in
theorem markDamageS_any (g n c : Nat) (m : Int) (w : World) (h0 : DmMarked w w g n) (ln : n ≤ 1099511627776) (hm0 : 0 ≤ m) (hm : m ≤ 1099511627776) :
    Calls Try.prog 27 #[.slice (some ⟨g, 0, none⟩) n c, .int .i64 m] w fun e w' => e = .returned (.int .i64 (m + 6 * n)) ∧ DmMarked w w' g n := by
  have H0 := Lib.hid h0
  clear h0
  go_enter Try.func27, Try.ntmps27
  go_wp2
  go_loopw [1, 5] (fun q i wr => ∃ k : Nat, k ≤ n ∧ i = .int .i64 k ∧ q = .int .i64 (m + 6 * k) ∧ DmMarked w wr g n) (fun _ i _ => n - (intOf i).toNat)
  case atStart => exact ⟨0, Nat.zero_le _, rfl, by simp, H0.out⟩
  case round =>
    obtain ⟨k, hk, rfl, rfl, ht⟩ := hrel
    have HT := Lib.hid ht
    by_cases hlt : k < n
    · obtain ⟨cs, hg, hs, _⟩ := ht
      obtain ⟨hcc, hff⟩ := heap_cellR hg
      obtain ⟨u0, g0⟩ := at6 hs hlt 0 (by omega)
      obtain ⟨u1, g1⟩ := at6 hs hlt 1 (by omega)
      obtain ⟨u2, g2⟩ := at6 hs hlt 2 (by omega)
      obtain ⟨u3, g3⟩ := at6 hs hlt 3 (by omega)
      obtain ⟨u4, g4⟩ := at6 hs hlt 4 (by omega)
      obtain ⟨u5, g5⟩ := at6 hs hlt 5 (by omega)
      rw [← hcc] at g0 g1 g2 g3 g4 g5
      rw [Nat.add_zero] at g0
      clear hg hs hcc
      go_wp2_with fail
      exact ⟨⟨k + 1, by omega, by go_num, by go_num, HT.out.step⟩, by simp [intOf]; omega⟩
    · obtain rfl : k = n := by omega
      clear ht
      go_wp2
      go_ret
      exact ⟨rfl, HT.out⟩

/-- damages of a region's own -/
def DmsV (B : Nat) (ds : List Dm) (v : Value) (W : World) : Prop := ∃ g cs, v = .slice (some ⟨g, 0, none⟩) ds.length ds.length ∧ B ≤ g ∧ W.heap[g]? = some (.cells cs 32 (0, 0)) ∧ cs.size = ds.length * 6 ∧ DmCs cs ds ds.length
def xDms (B : Nat) (ds : List Dm) : Sp KeepX := ⟨DmsV B ds, fun _ _ _ hk ⟨g, cs, hv, hb, hg, r⟩ => ⟨g, cs, hv, hb, blkK hk hg, r⟩⟩
theorem toDamageS_f {L : List Fact} {a : Option Addr} {ds : List Dm} {c : Nat} {w : World} (h : Facts L w) (hx : DmsAt w a ds) (lx : ds.length ≤ 1099511627776) :
    Calls Try.prog 25 #[.slice a ds.length c] w fun e w' => ∃ g cs, e = .returned (.slice (some ⟨g, 0, none⟩) ds.length ds.length) ∧ Facts (Fact.box g cs 32 :: L) w' ∧ cs.size = ds.length * 6 ∧ DmCs cs ds ds.length ∧ w.heap.size ≤ w'.heap.size :=
  (toDamageS_any a ds c w hx lx).mono fun _ _ ⟨g, cs, he, hg, hb, hs, hc, hbl⟩ => ⟨g, cs, he, h.add hbl (Fact.box g cs 32) hg (Nat.le_succ _) (blkLt hb) hb, hs, hc, hbl.size⟩
theorem markDamageS_f {L : List Fact} {g n c : Nat} {cs : Array Value} {m : Int} {w : World} (h : Facts L w) (i : Nat) (hF : L[i]? = some (Fact.box g cs 32)) (hs : cs.size = n * 6) (ln : n ≤ 1099511627776) (hm0 : 0 ≤ m) (hm : m ≤ 1099511627776) :
    Calls Try.prog 27 #[.slice (some ⟨g, 0, none⟩) n c, .int .i64 m] w fun e w' => e = .returned (.int .i64 (m + 6 * n)) ∧ ∃ cs', Facts (L.set i (Fact.box g cs' 32)) w' ∧ w.heap.size ≤ w'.heap.size :=
  (markDamageS_any g n c m w ⟨cs, h.get i hF, hs, World.grownBy.refl _ _⟩ ln hm0 hm).mono fun _ w' ⟨he, cs', h1, _, h3⟩ =>
    ⟨he, cs', h.turn i hF h3 (fun k hk => by cases hk; exact ⟨Nat.le_refl _, Nat.lt_succ_self _⟩) (Fact.box g cs' 32) rfl rfl h1, h3.size⟩
theorem eqDamageS_f {L : List Fact} {a b : Option Addr} {ds : List Dm} {c d : Nat} {w : World} (h : Facts L w) (hx : DmsAt w a ds) (hy : DmsAt w b ds) (lx : ds.length ≤ 1099511627776) :
    Calls Try.prog 26 #[.slice a ds.length c, .slice b ds.length d] w fun e w' => e = .returned (.bool true) ∧ Facts L w' ∧ w.heap.size ≤ w'.heap.size :=
  (eqDamageS_same a b ds c d w hx hy lx).mono fun _ _ ⟨he, hb⟩ => ⟨he, h.below hb, hb.size⟩

end Go.Proofs.Ythnjfdhijpfekaa
