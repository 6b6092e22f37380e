import Derived.Test.YtlgeaccjpgakbaaDoorUDraw31
import Derived.Test.YtlgeaccjpgakbaaDoorUOwn2
namespace Go.Proofs.YtlgeaccjpgakbaaDoor
open Go.RowKit

/-- a drawn session: a batch as l31Draw leaves it, a row of the call's own -/
def RetDrawn (w : World) (b : Nat) (e : Ending) (w' : World) : Prop :=
  ∃ (p : ByteArray) (x1 x2 x3 x4 : Int) (zs : List Int) (a : Option Addr) (c : Nat), e = .returned (.agg #[.string p, .int .i64 x1, .int .i64 x2, .int .i64 x3, .int .i64 x4, .slice a zs.length c]) ∧ p.size ≤ 13 ∧ (0 ≤ x1 ∧ x1 ≤ 999999999) ∧ (0 ≤ x2 ∧ x2 ≤ 999999999) ∧ (0 ≤ x3 ∧ x3 ≤ 999999999) ∧ (0 ≤ x4 ∧ x4 ≤ 999999999) ∧
    zs.length ≤ 300 ∧ (∀ z ∈ zs, -1 ≤ z ∧ z ≤ 5) ∧ IntsAt w' a zs ∧ Slc a zs ∧ (∀ ad, a = some ad → w.heap.size < ad.block) ∧ Src w' b ∧ w.grownBy w' (some b)

/-- the rows drawn so far -/
def Drawn (w0 : World) (b base : Nat) (lo hi : Int) (n : Nat) (v : Value) (wr : World) : Prop :=
  ∃ zs : List Int, zs.length = n ∧ (∀ z ∈ zs, lo ≤ z ∧ z ≤ hi) ∧ OwnI wr base v zs ∧ StB b w0 wr

theorem own_apart {w : World} {base b : Nat} {v : Value} {zs : List Int} (h : OwnI w base v zs) (hb : b < base) : v.ownBlock ≠ some b := by
  rcases h.2 with ⟨rfl, _⟩ | ⟨g, cap, cur, rfl, hg, _⟩
  · simp [Value.ownBlock]
  · simp [Value.ownBlock]; omega

theorem own_src {w w' : World} {base b : Nat} {v : Value} {zs : List Int} (h : OwnI w base v zs) (hb : b < base) (hg : w.grownBy w' (some b)) : OwnI w' base v zs :=
  h.kept (row := some b) hg (by have := own_apart h hb; cases hv : v.ownBlock <;> simp_all)

theorem own_at {w : World} {base : Nat} {v : Value} {zs : List Int} (h : OwnI w base v zs) : ∀ g, v.ownBlock = some g → base ≤ g := by
  rcases h.2 with ⟨rfl, _⟩ | ⟨g, cap, cur, rfl, hg, _⟩
  · simp [Value.ownBlock]
  · intro k e; simp [Value.ownBlock] at e; omega
theorem stB_own {b base : Nat} {w0 w wo w' : World} {v : Value} {zs : List Int} (hst : StB b w0 w) (ho : OwnI wo base v zs) (hg : w.grownBy w' v.ownBlock) (hb : b < base) (h0 : w0.heap.size ≤ base) : StB b w0 w' :=
  ⟨hst.1.kept hg (fun k e => by have := own_at ho k e; omega), hst.2.andThen hg (fun j e => Or.inl (by have := own_at ho j e; omega))⟩
theorem drawn_more {w0 w wo w' : World} {b base : Nat} {lo hi : Int} {v v0 : Value} {zs : List Int} {z : Int} (ho0 : OwnI wo base v0 zs) (hz : ∀ z ∈ zs, lo ≤ z ∧ z ≤ hi) (hl : lo ≤ z) (hh : z ≤ hi) (ho : w'.ownsRow base 2 1 v (zs.length + 1) (zs.map (Value.int .i64) ++ [.int .i64 z])) (hst : StB b w0 w) (hg : w.grownBy w' v0.ownBlock) (hb : b < base) (h0 : w0.heap.size ≤ base) :
    Drawn w0 b base lo hi (zs.length + 1) v w' := by
  have h1 : OwnI w' base v (zs ++ [z]) := by
    unfold OwnI
    rw [List.map_append, List.length_append]
    exact ho
  refine ⟨zs ++ [z], by simp, fun y hy => ?_, h1, stB_own hst ho0 hg hb h0⟩
  rcases List.mem_append.1 hy with hy | hy
  · exact hz y hy
  · simp at hy; subst hy; exact ⟨hl, hh⟩
theorem twoT {p : Value → Prop} {a b : Value} (ha : p a) (hb : p b) : ∀ i, i < 2 → ∃ u, (#[a, b] : Array Value)[i]? = some u ∧ p u
  | 0, _ => ⟨_, rfl, ha⟩
  | 1, _ => ⟨_, rfl, hb⟩
theorem sevenT {p : Value → Prop} {a b c d e f g : Value} (ha : p a) (hb : p b) (hc : p c) (hd : p d) (he : p e) (hf : p f) (hg : p g) : ∀ i, i < 7 → ∃ u, (#[a, b, c, d, e, f, g] : Array Value)[i]? = some u ∧ p u
  | 0, _ => ⟨_, rfl, ha⟩
  | 1, _ => ⟨_, rfl, hb⟩
  | 2, _ => ⟨_, rfl, hc⟩
  | 3, _ => ⟨_, rfl, hd⟩
  | 4, _ => ⟨_, rfl, he⟩
  | 5, _ => ⟨_, rfl, hf⟩
  | 6, _ => ⟨_, rfl, hg⟩

theorem intsAt_other {W : World} {a : Option Addr} {zs : List Int} (h : IntsAt W a zs) {R j : Nat} {v : Value} (hne : ∀ ad, a = some ad → ad.block ≠ R) : IntsAt (W.setCell ⟨R, j, none⟩ v) a zs := by
  intro i hi
  obtain ⟨g, o, ha, hc⟩ := h i hi
  refine ⟨g, o, ha, ?_⟩
  rw [← hc]
  exact World.cell?_of_block (a := ⟨g, o + i, none⟩) (heap_setCell_other W ⟨R, j, none⟩ g v (by have := hne _ ha; exact this))

/-- the end: the session lies in the result's box -/
theorem retDrawn_of {w W : World} {b : Nat} {v0 v1 v2 v3 v4 v5 : Value} {o : Obj} {w0 : World} (hlt : b < w.heap.size) (hw : (w.alloc o).grownBy w0 (some b)) (hst : StB b w0 W) {p : ByteArray} {x1 x2 x3 x4 : Int} (hb : p.size ≤ 13 ∧ (0 ≤ x1 ∧ x1 ≤ 999999999) ∧ (0 ≤ x2 ∧ x2 ≤ 999999999) ∧ (0 ≤ x3 ∧ x3 ≤ 999999999) ∧ (0 ≤ x4 ∧ x4 ≤ 999999999))
    {zs : List Int} {a : Option Addr} {c : Nat} (hl : zs.length ≤ 300) (hz : ∀ z ∈ zs, -1 ≤ z ∧ z ≤ 5) (hi : IntsAt W a zs) (hsl : Slc a zs) (hgt : ∀ ad, a = some ad → w.heap.size < ad.block) :
    RetDrawn w b (.returned (.agg #[.string p, .int .i64 x1, .int .i64 x2, .int .i64 x3, .int .i64 x4, .slice a zs.length c])) ((((((W.setCell ⟨w.heap.size, 0, none⟩ v0).setCell ⟨w.heap.size, 1, none⟩ v1).setCell ⟨w.heap.size, 2, none⟩ v2).setCell ⟨w.heap.size, 3, none⟩ v3).setCell ⟨w.heap.size, 4, none⟩ v4).setCell ⟨w.heap.size, 5, none⟩ v5) := by
  have hne : ∀ ad, a = some ad → ad.block ≠ w.heap.size := fun ad e => Nat.ne_of_gt (hgt ad e)
  have h0 : StB b w W := ⟨hst.1, grownBy_trans (World.grownBy_alloc _ _ _) (grownBy_trans hw hst.2)⟩
  have h5 := stB_set (v := v5) (i := 5) (stB_set (v := v4) (i := 4) (stB_set (v := v3) (i := 3) (stB_set (v := v2) (i := 2) (stB_set (v := v1) (i := 1) (stB_set (v := v0) (i := 0) h0 hlt (Nat.le_refl _)) hlt (Nat.le_refl _)) hlt (Nat.le_refl _)) hlt (Nat.le_refl _)) hlt (Nat.le_refl _)) hlt (Nat.le_refl _)
  exact ⟨p, x1, x2, x3, x4, zs, a, c, rfl, hb.1, hb.2.1, hb.2.2.1, hb.2.2.2.1, hb.2.2.2.2, hl, hz, intsAt_other (intsAt_other (intsAt_other (intsAt_other (intsAt_other (intsAt_other hi hne) hne) hne) hne) hne) hne, hsl, hgt, h5.1, h5.2⟩

theorem own_cap {w : World} {base n c : Nat} {a : Option Addr} {zs : List Int} (h : OwnI w base (.slice a n c) zs) : zs.length ≤ c := by
  rcases h.2 with ⟨h1, h2⟩ | ⟨g, cap, cur, h1, hg, _, h3, _⟩
  · omega
  · simp only [Value.slice.injEq] at h1; omega
/-- the rest behind the first -/
theorem ints_tail {w : World} {g : Nat} {zs : List Int} (h : IntsAt w (some ⟨g, 0, none⟩) zs) : IntsAt w (some ⟨g, 1, none⟩) zs.tail := by
  intro i hi
  obtain ⟨b, o, ha, hc⟩ := h (i + 1) (by simp at hi; omega)
  simp only [Option.some.injEq, Addr.mk.injEq, and_true] at ha
  obtain ⟨rfl, rfl⟩ := ha
  refine ⟨g, 1, rfl, ?_⟩
  rw [List.getElem_tail, ← hc, show (1 + i) = 0 + (i + 1) by omega]

set_option maxRecDepth 100000 in
set_option maxHeartbeats 1000000 in
theorem l33Draw_any (b : Nat) (w : World) (hs : Src w b) :
    Calls Tryd.prog 47 #[.pointer (some ⟨b, 0, none⟩)] w (RetDrawn w b) := by
  have hlt := hs.lt
  have HS := Lib.hid hs
  clear hs
  go_enter Tryd.func47, Tryd.ntmps47
  go_wp2_with fail
  refine (l31Draw_any b _ (HS.out.kept (World.grownBy_alloc _ _ none) (by simp))).mono ?_
  rintro e W1 ⟨p, x1, x2, x3, x4, rfl, hp, h1, h2, h3, h4, hs1, hg1⟩
  go_wp2_with fail
  have HG1 := Lib.hid hg1
  have HS1 := Lib.hid hs1
  have HB := Lib.hid (And.intro hp (And.intro h1 (And.intro h2 (And.intro h3 h4))))
  have hx3 := h3
  clear hg1 hs1 hp h1 h2 h3 h4
  have h0 : Drawn (W1.alloc (.cells #[.string p, .int .i64 x1, .int .i64 x2, .int .i64 x3, .int .i64 x4] 25 (0, 0))) b (W1.heap.size + 1) 0 4 0 (.slice (some ⟨W1.heap.size + 1, 0, none⟩) 0 0) ((W1.alloc (.cells #[.string p, .int .i64 x1, .int .i64 x2, .int .i64 x3, .int .i64 x4] 25 (0, 0))).alloc (.cells #[] 2 (0, 0))) := by
    refine ⟨[], rfl, by simp, ⟨rfl, Or.inr ⟨_, 0, #[], rfl, Nat.le_refl _, ?_, Nat.le_refl _, by decide, rfl, rfl⟩⟩, stB_alloc ⟨HS1.out.kept (World.grownBy_alloc _ _ none) (by simp), World.grownBy.refl _ _⟩ _⟩
    have : (W1.alloc (.cells #[.string p, .int .i64 x1, .int .i64 x2, .int .i64 x3, .int .i64 x4] 25 (0, 0))).heap.size = W1.heap.size + 1 := by simp
    rw [← this]
    exact Array.getElem?_push_size
  have H0 := Lib.hid h0
  clear h0
  have hb0 : (W1.alloc (.cells #[.string p, .int .i64 x1, .int .i64 x2, .int .i64 x3, .int .i64 x4] 25 (0, 0))).heap[W1.heap.size]? = some (.cells #[.string p, .int .i64 x1, .int .i64 x2, .int .i64 x3, .int .i64 x4] 25 (0, 0)) := Array.getElem?_push_size
  have hs0 : (W1.alloc (.cells #[.string p, .int .i64 x1, .int .i64 x2, .int .i64 x3, .int .i64 x4] 25 (0, 0))).heap.size = W1.heap.size + 1 := by simp
  have hb1 : b < W1.heap.size := HS1.out.lt
  have g0 : (w.alloc (.cells #[.string ⟨#[]⟩, .int .i64 0, .int .i64 0, .int .i64 0, .int .i64 0, .slice none 0 0] 28 (0, 0))).grownBy (W1.alloc (.cells #[.string p, .int .i64 x1, .int .i64 x2, .int .i64 x3, .int .i64 x4] 25 (0, 0))) (some b) := grownBy_trans HG1.out (World.grownBy_alloc _ _ _)
  have hws : w.heap.size < W1.heap.size := by have := HG1.out.size; simp at this; omega
  have HG0 := Lib.hid g0
  have HB0 := Lib.hid hb0
  clear g0 hb0
  generalize (W1.alloc (.cells #[.string p, .int .i64 x1, .int .i64 x2, .int .i64 x3, .int .i64 x4] 25 (0, 0))) = w0 at *
  have HBOX : Hid (∀ W, StB b w0 W → (∀ i, W.cell? ⟨W1.heap.size, i, none⟩ = (#[.string p, .int .i64 x1, .int .i64 x2, .int .i64 x3, .int .i64 x4] : Array Value)[i]?) ∧ (∀ i, W.cell? ⟨w.heap.size, i, none⟩ = (#[.string ⟨#[]⟩, .int .i64 0, .int .i64 0, .int .i64 0, .int .i64 0, .slice none 0 0] : Array Value)[i]?) ∧ (∀ i, W.frozen? ⟨w.heap.size, i, none⟩ = false)) := Lib.hid (fun W hst => by
    have h1 := (hst.2.block w.heap.size (by omega) (by simp; omega)).trans ((HG0.out.block w.heap.size (by simp) (by simp; omega)).trans Array.getElem?_push_size)
    exact ⟨heap_cell ((hst.2.block W1.heap.size (by omega) (by simp; omega)).trans HB0.out), heap_cell h1, heap_frozen h1⟩)
  go_loopw [4, 5] (fun v i wr => ∃ k : Nat, k ≤ 300 ∧ i = .int .i64 k ∧ Drawn w0 b (W1.heap.size + 1) 0 4 k v wr) (fun _ i _ => 300 - (intOf i).toNat)
  case atStart => exact ⟨0, Nat.zero_le _, rfl, H0.out⟩
  case round =>
    obtain ⟨k, hk, rfl, hd⟩ := hrel
    obtain ⟨zs, hl, hz, ho, hst⟩ := hd
    have HZ := Lib.hid hz
    have HO := Lib.hid ho
    have HST := Lib.hid hst
    have HL := Lib.hid hl
    have hc := heap_cell ((hst.2.block W1.heap.size (by omega) (by simp; omega)).trans HB0.out)
    have hr1 := hst.2.size
    clear hz ho hst hl
    by_cases q1 : (k : Int) < x3
    · by_cases q2 : (k : Int) < 300
      · go_wp2_with fail
        refine (l01Next_any b 7 _ (HST.out.1.kept (World.grownBy_alloc _ _ none) (by simp)) (by decide) (by decide)).mono ?_
        rintro e W2 ⟨r, rfl, r0, r1, hs2, hg2⟩
        obtain ⟨u, hu, z, rfl, hz0, hz4⟩ := tab_kept (n := 7) HST.out.1.lt hg2 (sevenT (numB (lo := 0) (hi := 4) _ (by decide) (by decide)) (numB (lo := 0) (hi := 4) _ (by decide) (by decide)) (numB (lo := 0) (hi := 4) _ (by decide) (by decide)) (numB (lo := 0) (hi := 4) _ (by decide) (by decide)) (numB (lo := 0) (hi := 4) _ (by decide) (by decide)) (numB (lo := 0) (hi := 4) _ (by decide) (by decide)) (numB (lo := 0) (hi := 4) _ (by decide) (by decide))) r0 (by omega)
        have hg12 := grownBy_trans (World.grownBy_alloc wr _ _) hg2
        have hst2 := stB_trans HST.out hs2 hg12
        have ho2 := own_src HO.out (by omega) hg12
        have hv : r < 7 := by omega
        have hwr2 := hg12.size
        have HZ04 := Lib.hid (And.intro hz0 hz4)
        have HST2 := Lib.hid hst2
        have HO2 := Lib.hid ho2
        clear hst2 ho2 hg12 hg2 hs2 hz0 hz4 hc H0
        obtain ⟨i0, hi, y0, y1, y2⟩ := info_parts infoI
        go_wp2_with (at_builtin; refine wpList_append_own _ rfl _ _ 26 rfl (W1.heap.size + 1) 2 i0 (.int .i64 0) 1 8 Tryd.underlying26 hi y0 y1 y2 rfl (by decide) _ _ _ rfl (World.ownsRow.alloc HO2.out _) ⟨W2.heap.size, 0, none⟩ 1 1 [.int .i64 z] rfl rfl (cell_one_new _ _ _) (ints_oneCell .i64 [z]) (by have := HL.out; unfold maxLen; omega) (by have := HL.out; omega) (by simp; omega) ?_; intro v' w3 hown3 hgrow3 _)
        have hd3 := drawn_more HO2.out HZ.out HZ04.out.1 HZ04.out.2 hown3 (stB_alloc HST2.out _) hgrow3 (by omega) (by omega)
        rw [HL.out] at hd3
        exact ⟨⟨k + 1, by omega, by go_num, hd3⟩, by simp [intOf]; omega⟩
      · obtain ⟨a, c, rfl, hi⟩ := HO.out.read
        have hao := own_at HO.out
        have hrr := heap_cell ((HST.out.2.block w.heap.size (by omega) (by simp; omega)).trans ((HG0.out.block w.heap.size (by simp) (by simp; omega)).trans Array.getElem?_push_size))
        have hrf := heap_frozen ((HST.out.2.block w.heap.size (by omega) (by simp; omega)).trans ((HG0.out.block w.heap.size (by simp) (by simp; omega)).trans Array.getElem?_push_size))
        by_cases hk0 : 0 < zs.length
        · clear hrr hrf
          go_wp2_with fail
          clear hc
          refine (l01Next_any b 30 _ HST.out.1 (by decide) (by decide)).mono ?_
          rintro e W2 ⟨r, rfl, r0, r1, hs2, hg2⟩
          have hst2 := stB_trans HST.out hs2 hg2
          have ho2 := own_src HO.out (by omega) hg2
          obtain ⟨hc2, hrr2, hrf2⟩ := HBOX.out W2 hst2
          have hr : r = 0 ∨ r = 1 ∨ r = 2 ∨ 3 ≤ r := by omega
          have HST2 := Lib.hid hst2
          have HO2 := Lib.hid ho2
          clear hst2 ho2 hs2 hg2 r0 r1 hi
          rcases hr with rfl | rfl | rfl | hr
          · go_wp2_with fail
            refine (l01Next_any b 2 _ (HST2.out.1.kept (World.grownBy_alloc _ _ none) (by simp)) (by decide) (by decide)).mono ?_
            rintro e W3 ⟨r, rfl, r0, r1, hs3, hg3⟩
            obtain ⟨u, hu, z, rfl, hz0, hz5⟩ := tab_kept (n := 2) HST2.out.1.lt hg3 (twoT (numB (lo := -1) (hi := 5) _ (by decide) (by decide)) (numB (lo := -1) (hi := 5) _ (by decide) (by decide))) r0 (by omega)
            have hg23 := grownBy_trans (World.grownBy_alloc W2 _ _) hg3
            have hst3 := stB_trans HST2.out hs3 hg23
            have ho3 := own_src HO2.out (by omega) hg23
            obtain ⟨g, rfl, hbg, hnn, hgl⟩ := ho3.block hk0
            obtain ⟨z0, hz00, hcg, hfg⟩ := ho3.cellAt rfl hk0
            obtain ⟨hc3, hrr3, hrf3⟩ := HBOX.out W3 hst3
            have hr2 : r < 2 := by omega
            have n1 : ¬ g = W1.heap.size := by omega
            have n2 : ¬ g = w.heap.size := by omega
            have n3 : ¬ w.heap.size = g := by omega
            have n4 : ¬ W1.heap.size = g := by omega
            have hk1 : (0 : Int) < (zs.length : Int) := by omega
            have HST3 := Lib.hid hst3
            have HO3 := Lib.hid ho3
            have HZ5 := Lib.hid (And.intro hz0 hz5)
            clear hst3 ho3 hs3 hg3 hg23 hz0 hz5 hz00 hc2 hrr2 hrf2
            go_wp2_with fail
            have hst4 : StB b w0 (W3.setCell ⟨g, 0, none⟩ (.int .i64 z)) := stB_set HST3.out (by omega) (by omega)
            have ho4 := (HO3.out.stored rfl 0 z).1
            have hii : IntsAt (W3.setCell ⟨g, 0, none⟩ (.int .i64 z)) (some ⟨g, 0, none⟩) (zs.set 0 z) := by
              obtain ⟨a', c', e', hx'⟩ := ho4.read
              obtain ⟨rfl, _, _⟩ := Value.slice.inj e'
              exact hx'
            have hfin := retDrawn_of (v0 := .string p) (v1 := .int .i64 x1) (v2 := .int .i64 x2) (v3 := .int .i64 x3) (v4 := .int .i64 x4) (v5 := .slice (some ⟨g, 0, none⟩) zs.length c) (c := c) hlt HG0.out hst4 HB.out (zs := zs.set 0 z) (by rw [List.length_set]; have := HL.out; omega) (fun y hy => by
              rcases List.mem_or_eq_of_mem_set hy with hy | rfl
              · have := HZ.out y hy; omega
              · exact HZ5.out) hii ⟨fun ad e => (by cases e; rfl), fun e => (by cases e)⟩ (fun ad e => by cases e; show w.heap.size < g; omega)
            rw [List.length_set] at hfin
            exact bodyPost_ret (v := .agg #[.string p, .int .i64 x1, .int .i64 x2, .int .i64 x3, .int .i64 x4, .slice (some ⟨g, 0, none⟩) zs.length c]) (by simp [results, Tryd.results47, go_sem, hrr3]) rfl hfin
          · obtain ⟨g, rfl, hbg, hnn, hgl⟩ := HO2.out.block hk0
            have hcap := own_cap HO2.out
            have hk1 : (1 : Int) ≤ (zs.length : Int) := by omega
            have hk2 : (zs.length : Int) ≤ (c : Int) := by omega
            have n2 : ¬ g = w.heap.size := by omega
            obtain ⟨a2, c2, e2, hi2⟩ := HO2.out.read
            have HI := Lib.hid hi2
            simp only [Value.slice.injEq] at e2
            obtain ⟨rfl, _, rfl⟩ := e2
            clear hi2
            by_cases hc1 : c = 1
            · have hz1 : zs.length = 1 := by omega
              have HZ1 := Lib.hid hz1
              subst hc1
              clear hz1
              go_wp2_with fail
              exact bodyPost_ret (v := .agg #[.string p, .int .i64 x1, .int .i64 x2, .int .i64 x3, .int .i64 x4, .slice (some ⟨g, 0, none⟩) 0 0]) (by simp [results, Tryd.results47, go_sem, hrr2]) rfl (retDrawn_of (zs := []) (c := 0) hlt HG0.out HST2.out HB.out (by simp) (fun z hz => by cases hz) IntsAt.nil ⟨fun ad e => (by cases e; rfl), fun e => (by cases e)⟩ (fun ad e => by cases e; show w.heap.size < g; omega))
            · go_wp2_with fail
              have hfin := retDrawn_of (v0 := .string p) (v1 := .int .i64 x1) (v2 := .int .i64 x2) (v3 := .int .i64 x3) (v4 := .int .i64 x4) (v5 := .slice (some ⟨g, 1, none⟩) (zs.length - 1) (c - 1)) (zs := zs.tail) (c := c - 1) hlt HG0.out HST2.out HB.out (by rw [List.length_tail]; have := HL.out; omega) (fun z hz => by have := HZ.out z (List.mem_of_mem_tail hz); omega) (ints_tail HI.out) ⟨fun ad e => (by cases e; rfl), fun e => (by cases e)⟩ (fun ad e => by cases e; show w.heap.size < g; omega)
              rw [List.length_tail] at hfin
              exact bodyPost_ret (v := .agg #[.string p, .int .i64 x1, .int .i64 x2, .int .i64 x3, .int .i64 x4, .slice (some ⟨g, 1, none⟩) (zs.length - 1) (c - 1)]) (by simp [results, Tryd.results47, go_sem, hrr2]) rfl hfin
          · obtain ⟨g, rfl, hbg, hnn, hgl⟩ := HO2.out.block hk0
            have HD2 : Hid (Drawn w0 b (W1.heap.size + 1) (-1) 5 zs.length (.slice (some ⟨g, 0, none⟩) zs.length c) W2) := Lib.hid ⟨zs, rfl, fun z hz => by have := HZ.out z hz; omega, HO2.out, HST2.out⟩
            have n1 : ¬ g = W1.heap.size := by omega
            have n2 : ¬ g = w.heap.size := by omega
            have hl300 : zs.length ≤ 300 := by have := HL.out; omega
            clear hc2 hrr2 hrf2
            go_wp2_with fail
            go_loopw [6] (fun i wr => ∃ m : Nat, m ≤ zs.length ∧ i = .int .i64 m ∧ Drawn w0 b (W1.heap.size + 1) (-1) 5 zs.length (.slice (some ⟨g, 0, none⟩) zs.length c) wr) (fun i _ => zs.length - (intOf i).toNat)
            case atStart => exact ⟨0, Nat.zero_le _, rfl, HD2.out⟩
            case round =>
              obtain ⟨m, hm, rfl, hdm⟩ := hrel
              obtain ⟨ys, hyl, hyz, hyo, hyst⟩ := hdm
              have HYL := Lib.hid hyl
              have HYZ := Lib.hid hyz
              have HYO := Lib.hid hyo
              have HYS := Lib.hid hyst
              clear hyl hyz hyo hyst
              by_cases hmlt : m < zs.length
              · go_wp2_with fail
                refine (l01Next_any b 2 _ HYS.out.1 (by decide) (by decide)).mono ?_
                rintro e W3 ⟨r, rfl, r0, r1, hs3, hg3⟩
                have hst3 := stB_trans HYS.out hs3 hg3
                have ho3 := own_src HYO.out (by omega) hg3
                obtain ⟨y0, hy0, hcg, hfg⟩ := ho3.cellAt HYL.out.symm (k := m) (by have := HYL.out; omega)
                have hr2 : r < 2 := by omega
                have hm0 : (0 : Int) ≤ (m : Int) := by omega
                have hm1 : (m : Int) < (zs.length : Int) := by omega
                have HST3 := Lib.hid hst3
                have HO3 := Lib.hid ho3
                clear hst3 ho3 hs3 hg3 hy0
                go_wp2_with fail
                have hd4 : Drawn w0 b (W1.heap.size + 1) (-1) 5 zs.length (.slice (some ⟨g, 0, none⟩) zs.length c) (W3.setCell ⟨g, m, none⟩ (.int .i64 (3 + r))) := ⟨ys.set m (3 + r), by rw [List.length_set]; exact HYL.out, fun y hy => by
                  rcases List.mem_or_eq_of_mem_set hy with hy | rfl
                  · exact HYZ.out y hy
                  · omega, (HO3.out.stored HYL.out.symm m (3 + r)).1, stB_set HST3.out (by omega) (by omega)⟩
                exact ⟨⟨m + 1, by omega, by go_num, hd4⟩, by simp [intOf]; omega⟩
              · obtain ⟨hc3, hrr3, hrf3⟩ := HBOX.out _ HYS.out
                go_wp2_with fail
                have hii : IntsAt wr (some ⟨g, 0, none⟩) ys := by
                  obtain ⟨a', c', e', hx'⟩ := HYO.out.read
                  obtain ⟨rfl, _, _⟩ := Value.slice.inj e'
                  exact hx'
                have hfin := retDrawn_of (v0 := .string p) (v1 := .int .i64 x1) (v2 := .int .i64 x2) (v3 := .int .i64 x3) (v4 := .int .i64 x4) (v5 := .slice (some ⟨g, 0, none⟩) zs.length c) (zs := ys) (c := c) hlt HG0.out HYS.out HB.out (by rw [HYL.out]; exact hl300) HYZ.out hii ⟨fun ad e => (by cases e; rfl), fun e => (by cases e)⟩ (fun ad e => by cases e; show w.heap.size < g; omega)
                rw [HYL.out] at hfin
                exact bodyPost_ret (v := .agg #[.string p, .int .i64 x1, .int .i64 x2, .int .i64 x3, .int .i64 x4, .slice (some ⟨g, 0, none⟩) zs.length c]) (by simp [results, Tryd.results47, go_sem, hrr3]) rfl hfin
          · have n0 : ¬ r = 0 := by omega
            have n1 : ¬ r = 1 := by omega
            have n2 : ¬ r = 2 := by omega
            clear hr
            go_wp2_with fail
            obtain ⟨a2, c2, e2, hi2⟩ := HO2.out.read
            simp only [Value.slice.injEq] at e2
            obtain ⟨rfl, _, rfl⟩ := e2
            exact bodyPost_ret (v := .agg #[.string p, .int .i64 x1, .int .i64 x2, .int .i64 x3, .int .i64 x4, .slice a zs.length c]) (by simp [results, Tryd.results47, go_sem, hrr2]) rfl (retDrawn_of hlt HG0.out HST2.out HB.out (by have := HL.out; omega) (fun z hz => by have := HZ.out z hz; omega) hi2 HO2.out.slc (fun ad e => by subst e; have := hao ad.block rfl; omega))
        · have hk1 : ¬ 0 < (zs.length : Int) := by omega
          go_wp2_with fail
          exact bodyPost_ret (v := .agg #[.string p, .int .i64 x1, .int .i64 x2, .int .i64 x3, .int .i64 x4, .slice a zs.length c]) (by simp [results, Tryd.results47, go_sem, hrr]) rfl (retDrawn_of hlt HG0.out HST.out HB.out (by omega) (fun z hz => by have := HZ.out z hz; omega) hi HO.out.slc (fun ad e => by subst e; have := hao ad.block rfl; omega))
    · obtain ⟨a, c, rfl, hi⟩ := HO.out.read
      have hao := own_at HO.out
      have hrr := heap_cell ((HST.out.2.block w.heap.size (by omega) (by simp; omega)).trans ((HG0.out.block w.heap.size (by simp) (by simp; omega)).trans Array.getElem?_push_size))
      have hrf := heap_frozen ((HST.out.2.block w.heap.size (by omega) (by simp; omega)).trans ((HG0.out.block w.heap.size (by simp) (by simp; omega)).trans Array.getElem?_push_size))
      by_cases hk0 : 0 < zs.length
      · clear hrr hrf
        go_wp2_with fail
        clear hc
        refine (l01Next_any b 30 _ HST.out.1 (by decide) (by decide)).mono ?_
        rintro e W2 ⟨r, rfl, r0, r1, hs2, hg2⟩
        have hst2 := stB_trans HST.out hs2 hg2
        have ho2 := own_src HO.out (by omega) hg2
        obtain ⟨hc2, hrr2, hrf2⟩ := HBOX.out W2 hst2
        have hr : r = 0 ∨ r = 1 ∨ r = 2 ∨ 3 ≤ r := by omega
        have HST2 := Lib.hid hst2
        have HO2 := Lib.hid ho2
        clear hst2 ho2 hs2 hg2 r0 r1 hi
        rcases hr with rfl | rfl | rfl | hr
        · go_wp2_with fail
          refine (l01Next_any b 2 _ (HST2.out.1.kept (World.grownBy_alloc _ _ none) (by simp)) (by decide) (by decide)).mono ?_
          rintro e W3 ⟨r, rfl, r0, r1, hs3, hg3⟩
          obtain ⟨u, hu, z, rfl, hz0, hz5⟩ := tab_kept (n := 2) HST2.out.1.lt hg3 (twoT (numB (lo := -1) (hi := 5) _ (by decide) (by decide)) (numB (lo := -1) (hi := 5) _ (by decide) (by decide))) r0 (by omega)
          have hg23 := grownBy_trans (World.grownBy_alloc W2 _ _) hg3
          have hst3 := stB_trans HST2.out hs3 hg23
          have ho3 := own_src HO2.out (by omega) hg23
          obtain ⟨g, rfl, hbg, hnn, hgl⟩ := ho3.block hk0
          obtain ⟨z0, hz00, hcg, hfg⟩ := ho3.cellAt rfl hk0
          obtain ⟨hc3, hrr3, hrf3⟩ := HBOX.out W3 hst3
          have hr2 : r < 2 := by omega
          have n1 : ¬ g = W1.heap.size := by omega
          have n2 : ¬ g = w.heap.size := by omega
          have n3 : ¬ w.heap.size = g := by omega
          have n4 : ¬ W1.heap.size = g := by omega
          have hk1 : (0 : Int) < (zs.length : Int) := by omega
          have HST3 := Lib.hid hst3
          have HO3 := Lib.hid ho3
          have HZ5 := Lib.hid (And.intro hz0 hz5)
          clear hst3 ho3 hs3 hg3 hg23 hz0 hz5 hz00 hc2 hrr2 hrf2
          go_wp2_with fail
          have hst4 : StB b w0 (W3.setCell ⟨g, 0, none⟩ (.int .i64 z)) := stB_set HST3.out (by omega) (by omega)
          have ho4 := (HO3.out.stored rfl 0 z).1
          have hii : IntsAt (W3.setCell ⟨g, 0, none⟩ (.int .i64 z)) (some ⟨g, 0, none⟩) (zs.set 0 z) := by
            obtain ⟨a', c', e', hx'⟩ := ho4.read
            obtain ⟨rfl, _, _⟩ := Value.slice.inj e'
            exact hx'
          have hfin := retDrawn_of (v0 := .string p) (v1 := .int .i64 x1) (v2 := .int .i64 x2) (v3 := .int .i64 x3) (v4 := .int .i64 x4) (v5 := .slice (some ⟨g, 0, none⟩) zs.length c) (c := c) hlt HG0.out hst4 HB.out (zs := zs.set 0 z) (by rw [List.length_set]; have := HL.out; omega) (fun y hy => by
            rcases List.mem_or_eq_of_mem_set hy with hy | rfl
            · have := HZ.out y hy; omega
            · exact HZ5.out) hii ⟨fun ad e => (by cases e; rfl), fun e => (by cases e)⟩ (fun ad e => by cases e; show w.heap.size < g; omega)
          rw [List.length_set] at hfin
          exact bodyPost_ret (v := .agg #[.string p, .int .i64 x1, .int .i64 x2, .int .i64 x3, .int .i64 x4, .slice (some ⟨g, 0, none⟩) zs.length c]) (by simp [results, Tryd.results47, go_sem, hrr3]) rfl hfin
        · obtain ⟨g, rfl, hbg, hnn, hgl⟩ := HO2.out.block hk0
          have hcap := own_cap HO2.out
          have hk1 : (1 : Int) ≤ (zs.length : Int) := by omega
          have hk2 : (zs.length : Int) ≤ (c : Int) := by omega
          have n2 : ¬ g = w.heap.size := by omega
          obtain ⟨a2, c2, e2, hi2⟩ := HO2.out.read
          have HI := Lib.hid hi2
          simp only [Value.slice.injEq] at e2
          obtain ⟨rfl, _, rfl⟩ := e2
          clear hi2
          by_cases hc1 : c = 1
          · have hz1 : zs.length = 1 := by omega
            have HZ1 := Lib.hid hz1
            subst hc1
            clear hz1
            go_wp2_with fail
            exact bodyPost_ret (v := .agg #[.string p, .int .i64 x1, .int .i64 x2, .int .i64 x3, .int .i64 x4, .slice (some ⟨g, 0, none⟩) 0 0]) (by simp [results, Tryd.results47, go_sem, hrr2]) rfl (retDrawn_of (zs := []) (c := 0) hlt HG0.out HST2.out HB.out (by simp) (fun z hz => by cases hz) IntsAt.nil ⟨fun ad e => (by cases e; rfl), fun e => (by cases e)⟩ (fun ad e => by cases e; show w.heap.size < g; omega))
          · go_wp2_with fail
            have hfin := retDrawn_of (v0 := .string p) (v1 := .int .i64 x1) (v2 := .int .i64 x2) (v3 := .int .i64 x3) (v4 := .int .i64 x4) (v5 := .slice (some ⟨g, 1, none⟩) (zs.length - 1) (c - 1)) (zs := zs.tail) (c := c - 1) hlt HG0.out HST2.out HB.out (by rw [List.length_tail]; have := HL.out; omega) (fun z hz => by have := HZ.out z (List.mem_of_mem_tail hz); omega) (ints_tail HI.out) ⟨fun ad e => (by cases e; rfl), fun e => (by cases e)⟩ (fun ad e => by cases e; show w.heap.size < g; omega)
            rw [List.length_tail] at hfin
            exact bodyPost_ret (v := .agg #[.string p, .int .i64 x1, .int .i64 x2, .int .i64 x3, .int .i64 x4, .slice (some ⟨g, 1, none⟩) (zs.length - 1) (c - 1)]) (by simp [results, Tryd.results47, go_sem, hrr2]) rfl hfin
        · obtain ⟨g, rfl, hbg, hnn, hgl⟩ := HO2.out.block hk0
          have HD2 : Hid (Drawn w0 b (W1.heap.size + 1) (-1) 5 zs.length (.slice (some ⟨g, 0, none⟩) zs.length c) W2) := Lib.hid ⟨zs, rfl, fun z hz => by have := HZ.out z hz; omega, HO2.out, HST2.out⟩
          have n1 : ¬ g = W1.heap.size := by omega
          have n2 : ¬ g = w.heap.size := by omega
          have hl300 : zs.length ≤ 300 := by have := HL.out; omega
          clear hc2 hrr2 hrf2
          go_wp2_with fail
          go_loopw [6] (fun i wr => ∃ m : Nat, m ≤ zs.length ∧ i = .int .i64 m ∧ Drawn w0 b (W1.heap.size + 1) (-1) 5 zs.length (.slice (some ⟨g, 0, none⟩) zs.length c) wr) (fun i _ => zs.length - (intOf i).toNat)
          case atStart => exact ⟨0, Nat.zero_le _, rfl, HD2.out⟩
          case round =>
            obtain ⟨m, hm, rfl, hdm⟩ := hrel
            obtain ⟨ys, hyl, hyz, hyo, hyst⟩ := hdm
            have HYL := Lib.hid hyl
            have HYZ := Lib.hid hyz
            have HYO := Lib.hid hyo
            have HYS := Lib.hid hyst
            clear hyl hyz hyo hyst
            by_cases hmlt : m < zs.length
            · go_wp2_with fail
              refine (l01Next_any b 2 _ HYS.out.1 (by decide) (by decide)).mono ?_
              rintro e W3 ⟨r, rfl, r0, r1, hs3, hg3⟩
              have hst3 := stB_trans HYS.out hs3 hg3
              have ho3 := own_src HYO.out (by omega) hg3
              obtain ⟨y0, hy0, hcg, hfg⟩ := ho3.cellAt HYL.out.symm (k := m) (by have := HYL.out; omega)
              have hr2 : r < 2 := by omega
              have hm0 : (0 : Int) ≤ (m : Int) := by omega
              have hm1 : (m : Int) < (zs.length : Int) := by omega
              have HST3 := Lib.hid hst3
              have HO3 := Lib.hid ho3
              clear hst3 ho3 hs3 hg3 hy0
              go_wp2_with fail
              have hd4 : Drawn w0 b (W1.heap.size + 1) (-1) 5 zs.length (.slice (some ⟨g, 0, none⟩) zs.length c) (W3.setCell ⟨g, m, none⟩ (.int .i64 (3 + r))) := ⟨ys.set m (3 + r), by rw [List.length_set]; exact HYL.out, fun y hy => by
                rcases List.mem_or_eq_of_mem_set hy with hy | rfl
                · exact HYZ.out y hy
                · omega, (HO3.out.stored HYL.out.symm m (3 + r)).1, stB_set HST3.out (by omega) (by omega)⟩
              exact ⟨⟨m + 1, by omega, by go_num, hd4⟩, by simp [intOf]; omega⟩
            · obtain ⟨hc3, hrr3, hrf3⟩ := HBOX.out _ HYS.out
              go_wp2_with fail
              have hii : IntsAt wr (some ⟨g, 0, none⟩) ys := by
                obtain ⟨a', c', e', hx'⟩ := HYO.out.read
                obtain ⟨rfl, _, _⟩ := Value.slice.inj e'
                exact hx'
              have hfin := retDrawn_of (v0 := .string p) (v1 := .int .i64 x1) (v2 := .int .i64 x2) (v3 := .int .i64 x3) (v4 := .int .i64 x4) (v5 := .slice (some ⟨g, 0, none⟩) zs.length c) (zs := ys) (c := c) hlt HG0.out HYS.out HB.out (by rw [HYL.out]; exact hl300) HYZ.out hii ⟨fun ad e => (by cases e; rfl), fun e => (by cases e)⟩ (fun ad e => by cases e; show w.heap.size < g; omega)
              rw [HYL.out] at hfin
              exact bodyPost_ret (v := .agg #[.string p, .int .i64 x1, .int .i64 x2, .int .i64 x3, .int .i64 x4, .slice (some ⟨g, 0, none⟩) zs.length c]) (by simp [results, Tryd.results47, go_sem, hrr3]) rfl hfin
        · have n0 : ¬ r = 0 := by omega
          have n1 : ¬ r = 1 := by omega
          have n2 : ¬ r = 2 := by omega
          clear hr
          go_wp2_with fail
          obtain ⟨a2, c2, e2, hi2⟩ := HO2.out.read
          simp only [Value.slice.injEq] at e2
          obtain ⟨rfl, _, rfl⟩ := e2
          exact bodyPost_ret (v := .agg #[.string p, .int .i64 x1, .int .i64 x2, .int .i64 x3, .int .i64 x4, .slice a zs.length c]) (by simp [results, Tryd.results47, go_sem, hrr2]) rfl (retDrawn_of hlt HG0.out HST2.out HB.out (by have := HL.out; omega) (fun z hz => by have := HZ.out z hz; omega) hi2 HO2.out.slc (fun ad e => by subst e; have := hao ad.block rfl; omega))
      · have hk1 : ¬ 0 < (zs.length : Int) := by omega
        go_wp2_with fail
        exact bodyPost_ret (v := .agg #[.string p, .int .i64 x1, .int .i64 x2, .int .i64 x3, .int .i64 x4, .slice a zs.length c]) (by simp [results, Tryd.results47, go_sem, hrr]) rfl (retDrawn_of hlt HG0.out HST.out HB.out (by omega) (fun z hz => by have := HZ.out z hz; omega) hi HO.out.slc (fun ad e => by subst e; have := hao ad.block rfl; omega))

end Go.Proofs.YtlgeaccjpgakbaaDoor
