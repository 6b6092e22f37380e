import Derived.Test.YtlgeaccjpgakbaaDoorUDraw32
import Derived.Test.YtlgeaccjpgakbaaDoorUBase3
import Derived.Deep.RegionWith
namespace Go.Proofs.YtlgeaccjpgakbaaDoor
open Go.RowKit

/-- a drawn session and a drawn record, in memory of the call's own -/
def RetDA (w : World) (e : Ending) (w' : World) : Prop :=
  ∃ (p : ByteArray) (x1 x2 x3 x4 : Int) (zs : List Int) (a : Option Addr) (c : Nat) (k i : Int), e = .returned (.tuple #[.agg #[.string p, .int .i64 x1, .int .i64 x2, .int .i64 x3, .int .i64 x4, .slice a zs.length c], .agg #[.int .i64 k, .int .i64 i]]) ∧ p.size ≤ 13 ∧ zs.length ≤ 300 ∧ (0 ≤ k ∧ k ≤ 5) ∧ (-1 ≤ i ∧ i ≤ 200) ∧ IntsAt w' a zs ∧ Slc a zs ∧ Below w.heap.size w w'

theorem ints_grown {W W' : World} {a : Option Addr} {zs : List Int} {b : Nat} (h : IntsAt W a zs) (hg : W.grownBy W' (some b)) (hlt : ∀ ad, a = some ad → b < ad.block) : IntsAt W' a zs := by
  intro i hi
  obtain ⟨g, o, ha, hc⟩ := h i hi
  exact ⟨g, o, ha, kept_cell hg (hlt _ ha) hc⟩

set_option maxRecDepth 100000 in
set_option maxHeartbeats 1000000 in
theorem drawApplyRecord_any (a : Option Addr) (n c : Nat) (w : World) (hx : BytesAt w w.heap.size a n) (hn : n ≤ 4096) :
    Calls Tryd.prog 11 #[.slice a n c] w (RetDA w) := by
  have HX := Lib.hid hx
  clear hx
  go_enter Tryd.func11, Tryd.ntmps11
  go_wp2_with fail
  have hx1 : BytesAt ((w.alloc (.cells #[.string ⟨#[]⟩, .int .i64 0, .int .i64 0, .int .i64 0, .int .i64 0, .slice none 0 0] 28 (0, 0))).alloc (.cells #[.int .i64 0, .int .i64 0] 30 (0, 0))) ((w.alloc (.cells #[.string ⟨#[]⟩, .int .i64 0, .int .i64 0, .int .i64 0, .int .i64 0, .slice none 0 0] 28 (0, 0))).alloc (.cells #[.int .i64 0, .int .i64 0] 30 (0, 0))).heap.size a n := by
    have h := HX.out.kept (w' := (w.alloc (.cells #[.string ⟨#[]⟩, .int .i64 0, .int .i64 0, .int .i64 0, .int .i64 0, .slice none 0 0] 28 (0, 0))).alloc (.cells #[.int .i64 0, .int .i64 0] 30 (0, 0))) (fun k hk => (ba2 w _ _).block k hk)
    intro i hi
    obtain ⟨b, o, z, h1, h2, h3⟩ := h i hi
    exact ⟨b, o, z, h1, by simp; omega, h3⟩
  refine (l01From_any a n c _ hx1 hn).mono ?_
  rintro e w1 ⟨b, rfl, hb, hs1, hb1⟩
  have hB1 := bt2 hb1
  have hz1 : w.heap.size + 1 < w1.heap.size := by have := hb1.size; simp at this; omega
  have hwb : w.heap.size + 1 < b := by simp at hb; omega
  have hA1 : w1.heap[w.heap.size]? = some (.cells #[.string ⟨#[]⟩, .int .i64 0, .int .i64 0, .int .i64 0, .int .i64 0, .slice none 0 0] 28 (0, 0)) := (hb1.block _ (by simp; omega)).trans (((ba1 (w.alloc _) _).block _ (by simp)).trans Array.getElem?_push_size)
  have hR1 : w1.heap[w.heap.size + 1]? = some (.cells #[.int .i64 0, .int .i64 0] 30 (0, 0)) := (hb1.block _ (by simp)).trans (by
    have : (w.alloc (.cells #[.string ⟨#[]⟩, .int .i64 0, .int .i64 0, .int .i64 0, .int .i64 0, .slice none 0 0] 28 (0, 0))).heap.size = w.heap.size + 1 := by simp
    rw [← this]
    exact Array.getElem?_push_size)
  have HS1 := Lib.hid hs1
  have HB1 := Lib.hid hB1
  have HA1 := Lib.hid hA1
  have HR1 := Lib.hid hR1
  clear hx1 hb hs1 hb1 hB1 hA1 hR1
  go_wp2_with fail
  refine (l33Draw_any b w1 HS1.out).mono ?_
  rintro e w2 ⟨p, x1, x2, x3, x4, zs, a2, c2, rfl, hp, _, _, _, _, hzl, _, hi2, hsl, hgt2, hs2, hg2⟩
  have HA2 := Lib.hid ((hg2.block w.heap.size (by omega) (fun e => by have := Option.some.inj e; omega)).trans HA1.out)
  have HR2 := Lib.hid ((hg2.block (w.heap.size + 1) hz1 (fun e => by have := Option.some.inj e; omega)).trans HR1.out)
  have HB2 := Lib.hid (HB1.out.trans (below_of_grownBy hg2 HB1.out.size (fun k e => by have := Option.some.inj e; omega)))
  have HI2 := Lib.hid hi2
  have HSL := Lib.hid hsl
  have hz2 : w.heap.size + 1 < w2.heap.size := by have := hg2.size; omega
  have HS2 := Lib.hid hs2
  have hb2 : b < w2.heap.size := hs2.lt
  have hb1 : b < w1.heap.size := HS1.out.lt
  have HGT : Hid (∀ ad, a2 = some ad → b < ad.block) := Lib.hid (fun ad e => Nat.lt_trans hb1 (hgt2 ad e))
  clear hi2 hsl hgt2 hs2 hg2
  go_wp2_with fail
  have hC3 := box1 (w := w2) (cs := #[.string p, .int .i64 x1, .int .i64 x2, .int .i64 x3, .int .i64 x4, .slice a2 zs.length c2]) (t := 28) (Below.refl _ _)
  have HB3 := Lib.hid (bt0 HB2.out (ba1 w2 (.cells #[.string p, .int .i64 x1, .int .i64 x2, .int .i64 x3, .int .i64 x4, .slice a2 zs.length c2] 28 (0, 0))) (Nat.le_refl _))
  have HS3 := Lib.hid (HS2.out.below (ba1 w2 (.cells #[.string p, .int .i64 x1, .int .i64 x2, .int .i64 x3, .int .i64 x4, .slice a2 zs.length c2] 28 (0, 0))))
  have HI3 := Lib.hid (HI2.out.below (ba1 w2 (.cells #[.string p, .int .i64 x1, .int .i64 x2, .int .i64 x3, .int .i64 x4, .slice a2 zs.length c2] 28 (0, 0))))
  have HA3 := Lib.hid (((ba1 w2 (.cells #[.string p, .int .i64 x1, .int .i64 x2, .int .i64 x3, .int .i64 x4, .slice a2 zs.length c2] 28 (0, 0))).block w.heap.size (by omega)).trans HA2.out)
  have HR3 := Lib.hid (((ba1 w2 (.cells #[.string p, .int .i64 x1, .int .i64 x2, .int .i64 x3, .int .i64 x4, .slice a2 zs.length c2] 28 (0, 0))).block (w.heap.size + 1) (by omega)).trans HR2.out)
  have hz3 : w2.heap.size < (w2.alloc (.cells #[.string p, .int .i64 x1, .int .i64 x2, .int .i64 x3, .int .i64 x4, .slice a2 zs.length c2] 28 (0, 0))).heap.size := by simp
  have HC3 : Hid ((w2.alloc (.cells #[.string p, .int .i64 x1, .int .i64 x2, .int .i64 x3, .int .i64 x4, .slice a2 zs.length c2] 28 (0, 0))).heap[w2.heap.size]? = some (.cells #[.string p, .int .i64 x1, .int .i64 x2, .int .i64 x3, .int .i64 x4, .slice a2 zs.length c2] 28 (0, 0))) := Lib.hid Array.getElem?_push_size
  clear HB2 HS2 HI2 HA2 HR2
  generalize w2.alloc (.cells #[.string p, .int .i64 x1, .int .i64 x2, .int .i64 x3, .int .i64 x4, .slice a2 zs.length c2] 28 (0, 0)) = w3 at *
  have HSD : Hid (Src w3.drew b) := Lib.hid (HS3.out.kept (w' := World.drew w3) (grownBy_drewN w3 1 none) (by simp))
  go_region_with (go_at_call 48; refine (l32Draw_any b _ HSD.out).mono ?_; rintro e w4 ⟨k, i, rfl, hk, hi, hs4, hg4⟩; have hC4 := heap_cell ((hg4.block w2.heap.size (by show _ < w3.heap.size; omega) (fun e => by have := Option.some.inj e; omega)).trans HC3.out); have hA4 := (hg4.block w.heap.size (by show _ < w3.heap.size; omega) (fun e => by have := Option.some.inj e; omega)).trans HA3.out; have hR4 := (hg4.block (w.heap.size + 1) (by show _ < w3.heap.size; omega) (fun e => by have := Option.some.inj e; omega)).trans HR3.out; have hAc := heap_cell hA4; have hRc := heap_cell hR4; have hAf := heap_frozen hA4; have hRf := heap_frozen hR4; have HG4 := Lib.hid hg4; clear hA4 hR4 hg4 hs4)
  all_goals
    go_wp2_with fail
    refine bodyPost_ret (v := .tuple #[.agg #[.string p, .int .i64 x1, .int .i64 x2, .int .i64 x3, .int .i64 x4, .slice a2 zs.length c2], .agg #[.int .i64 k, .int .i64 i]]) (by simp [results, Tryd.results11, go_sem, hAc, hRc]) rfl ⟨p, x1, x2, x3, x4, zs, a2, c2, k, i, rfl, hp, hzl, hk, hi, ?_, HSL.out, ?_⟩
    · iterate 2 (refine intsAt_other ?_ (fun ad e => by have := HGT.out ad e; omega))
      iterate 6 (refine intsAt_other ?_ (fun ad e => by have := HGT.out ad e; omega))
      exact ints_grown (show IntsAt w3.drew a2 zs from HI3.out) HG4.out HGT.out
    · iterate 8 (refine Below.setCell ?_ (by dsimp only; omega) _)
      exact HB3.out.drew.trans (below_of_grownBy HG4.out HB3.out.size (fun k e => by have := Option.some.inj e; omega))

end Go.Proofs.YtlgeaccjpgakbaaDoor
