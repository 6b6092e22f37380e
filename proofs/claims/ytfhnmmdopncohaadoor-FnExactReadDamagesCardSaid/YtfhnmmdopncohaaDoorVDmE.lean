import Derived.Test.YtfhnmmdopncohaaDoorVDmA
import Derived.Test.YtfhnmmdopncohaaDoorVRasL
namespace Go.Proofs.YtfhnmmdopncohaaDoor
open Go.RowKit

theorem infoDm : (Tryd.prog.info? 50).map (fun i => (i.zero, i.size, i.bytes)) = some (some (.agg #[.int .i64 0, .int .i64 0, .int .i64 0, .int .i64 0, .int .i64 0, .int .i64 0]), 6, 48) := by kernel_rfl

/-- the first k damages lie in the cells cs -/
def DmCs (cs : Array Value) (ds : List Dm) (k : Nat) : Prop := ∀ i d, i < k → ds[i]? = some d → cs[i * 6]? = some (.int .i64 d.k) ∧ cs[i * 6 + 1]? = some (.int .i64 d.r) ∧ cs[i * 6 + 2]? = some (.int .i64 d.c) ∧ cs[i * 6 + 3]? = some (.int .i64 d.t) ∧ cs[i * 6 + 4]? = some (.int .i64 d.w) ∧ cs[i * 6 + 5]? = some (.int .i64 d.g)
def set6 (cs : Array Value) (o : Nat) (v0 v1 v2 v3 v4 v5 : Value) : Array Value := (((((cs.setIfInBounds o v0).setIfInBounds (o + 1) v1).setIfInBounds (o + 2) v2).setIfInBounds (o + 3) v3).setIfInBounds (o + 4) v4).setIfInBounds (o + 5) v5
theorem set6_size (cs : Array Value) (o : Nat) (v0 v1 v2 v3 v4 v5 : Value) : (set6 cs o v0 v1 v2 v3 v4 v5).size = cs.size := by simp [set6]
theorem dmCs_step {cs : Array Value} {ds : List Dm} {k : Nat} {d : Dm} (hs : cs.size = ds.length * 6) (h : DmCs cs ds k) (hd : ds[k]? = some d) :
    DmCs (set6 cs (k * 6) (.int .i64 d.k) (.int .i64 d.r) (.int .i64 d.c) (.int .i64 d.t) (.int .i64 d.w) (.int .i64 d.g)) ds (k + 1) := by
  intro i e hi he
  have hk : k < ds.length := (List.getElem?_eq_some_iff.1 hd).1
  have hk6 : k * 6 + 5 < cs.size := by omega
  by_cases hik : i = k
  · subst hik
    obtain rfl : d = e := Option.some.inj (hd.symm.trans he)
    unfold set6
    simp only [Array.getElem?_setIfInBounds, Array.size_setIfInBounds]
    refine ⟨?_, ?_, ?_, ?_, ?_, ?_⟩
    all_goals (repeat (first | rw [if_pos trivial] | rw [if_neg (by omega)] | rw [if_pos (by omega)]))
  · have := h i e (by omega) he
    unfold set6
    simp only [Array.getElem?_setIfInBounds]
    refine ⟨?_, ?_, ?_, ?_, ?_, ?_⟩
    all_goals (repeat (rw [if_neg (by omega)]))
    · exact this.1
    · exact this.2.1
    · exact this.2.2.1
    · exact this.2.2.2.1
    · exact this.2.2.2.2.1
    · exact this.2.2.2.2.2
theorem dms_box {w : World} {b : Nat} {cs : Array Value} {t : TypeId} {ds : List Dm} (hb : w.heap[b]? = some (.cells cs t (0, 0))) (h : DmCs cs ds ds.length) : DmsAt w (some ⟨b, 0, none⟩) ds := by
  intro i hi
  obtain ⟨h0, h1, h2, h3, h4, h5⟩ := h i ds[i] hi (List.getElem?_eq_getElem hi)
  have hc := (heap_cellR hb).1
  rw [← hc] at h0 h1 h2 h3 h4 h5
  refine ⟨b, 0, rfl, ?_⟩
  rw [Nat.zero_add]
  exact ⟨h0, h1, h2, h3, h4, h5⟩

set_option maxHeartbeats 1000000 in
theorem eqDamage_same (k r c t v g : Int) (w : World) :
    Calls Tryd.prog 28 #[.agg #[.int .i64 k, .int .i64 r, .int .i64 c, .int .i64 t, .int .i64 v, .int .i64 g], .agg #[.int .i64 k, .int .i64 r, .int .i64 c, .int .i64 t, .int .i64 v, .int .i64 g]] w fun e w' => e = .returned (.bool true) ∧ Below w.heap.size w w' := by
  have e0 : (k != k) = false := by simp
  have e1 : (r != r) = false := by simp
  have e2 : (c != c) = false := by simp
  have e3 : (t != t) = false := by simp
  have e4 : (v != v) = false := by simp
  have e5 : (g != g) = false := by simp
  go_enter Tryd.func28, Tryd.ntmps28
  go_wp2_with fail
  go_ret
  exact ⟨rfl, ba2 _ _ _⟩

set_option maxRecDepth 100000 in
set_option maxHeartbeats 1000000 in
theorem eqDamageS_same (a b : Option Addr) (ds : List Dm) (c d : Nat) (w : World) (hx : DmsAt w a ds) (hy : DmsAt w b ds) (lx : ds.length ≤ 1099511627776) :
    Calls Tryd.prog 8 #[.slice a ds.length c, .slice b ds.length d] w fun e w' => e = .returned (.bool true) ∧ Below w.heap.size w w' := by
  have HX := Lib.hid hx
  have HY := Lib.hid hy
  have hll : ((ds.length : Int) != (ds.length : Int)) = false := by simp
  clear hx hy
  go_enter Tryd.func8, Tryd.ntmps8
  go_wp2_with fail
  go_loopw [5] (fun i wr => ∃ k : Nat, k ≤ ds.length ∧ i = .int .i64 k ∧ Below w.heap.size w wr) (fun i _ => ds.length - (intOf i).toNat)
  case atStart => exact ⟨0, Nat.zero_le _, rfl, Below.refl _ _⟩
  case round =>
    obtain ⟨k, hk, rfl, hb⟩ := hrel
    have HB := Lib.hid hb
    clear hb
    by_cases hlt : k < ds.length
    · obtain ⟨b1, o1, ⟨k0, r, c0, t, w0, g⟩, rfl, hdk, hb1, hc0, hc1, hc2, hc3, hc4, hc5⟩ := (HX.out.below HB.out).at hlt
      obtain ⟨b2, o2, d2, rfl, hdk2, hb2, hd0, hd1, hd2, hd3, hd4, hd5⟩ := (HY.out.below HB.out).at hlt
      obtain rfl := Option.some.inj (hdk.symm.trans hdk2)
      dsimp only at hc0 hc1 hc2 hc3 hc4 hc5 hd0 hd1 hd2 hd3 hd4 hd5
      clear hdk hdk2
      go_wp2_with fail
      refine wp_region_ext (by kernel_rfl) (by kernel_rfl) ?_
      repeat (go_big_quiet_step ((go_at_call 28; go_must (apply calls_ext; exact eqDamage_same _ _ _ _ _ _ _))))
      refine wpQuiet_nil ?_
      rintro _ ⟨s, rfl⟩
      have HB5 := Lib.hid (bt0 HB.out s.below (Nat.le_refl _))
      clear hc0 hc1 hc2 hc3 hc4 hc5 hd0 hd1 hd2 hd3 hd4 hd5
      go_wp2_with fail
      exact ⟨⟨k + 1, by omega, by go_num, HB5.out⟩, by simp [intOf]; omega⟩
    · go_wp2_with fail
      go_ret
      exact ⟨rfl, HB.out⟩

end Go.Proofs.YtfhnmmdopncohaaDoor
