import Derived.Test.YteggjpfaleeajaaDoorUDraw33
import Derived.Test.YteggjpfaleeajaaDoorUBase3
namespace Go.Proofs.YteggjpfaleeajaaDoor
open Go.RowKit

/-- a drawn session, in memory of the call's own -/
def RetDS (w : World) (e : Ending) (w' : World) : Prop :=
  ∃ (p : ByteArray) (x1 x2 x3 x4 : Int) (zs : List Int) (a : Option Addr) (c : Nat), e = .returned (.agg #[.string p, .int .i64 x1, .int .i64 x2, .int .i64 x3, .int .i64 x4, .slice a zs.length c]) ∧ p.size ≤ 13 ∧ zs.length ≤ 300 ∧ IntsAt w' a zs ∧ Slc a zs ∧ Below w.heap.size w w'

set_option maxHeartbeats 1000000 in
theorem drawStateCounts_any (a : Option Addr) (n c : Nat) (w : World) (hx : BytesAt w w.heap.size a n) (hn : n ≤ 4096) :
    Calls Tryd.prog 30 #[.slice a n c] w (RetDS w) := by
  have HX := Lib.hid hx
  clear hx
  go_enter Tryd.func30, Tryd.ntmps30
  go_wp2_with fail
  have hx1 : BytesAt (w.alloc (.cells #[.string ⟨#[]⟩, .int .i64 0, .int .i64 0, .int .i64 0, .int .i64 0, .slice none 0 0] 28 (0, 0))) (w.alloc (.cells #[.string ⟨#[]⟩, .int .i64 0, .int .i64 0, .int .i64 0, .int .i64 0, .slice none 0 0] 28 (0, 0))).heap.size a n := by
    have h := HX.out.kept (w' := w.alloc (.cells #[.string ⟨#[]⟩, .int .i64 0, .int .i64 0, .int .i64 0, .int .i64 0, .slice none 0 0] 28 (0, 0))) (fun k hk => (ba1 w _).block k hk)
    intro i hi
    obtain ⟨b, o, z, h1, h2, h3⟩ := h i hi
    exact ⟨b, o, z, h1, by simp; omega, h3⟩
  refine (l01From_any a n c _ hx1 hn).mono ?_
  rintro e w1 ⟨b, rfl, hb, hs1, hb1⟩
  have HBK := Lib.hid ((hb1.block w.heap.size (by simp)).trans Array.getElem?_push_size)
  have hB1 := bt1 hb1
  have hzs : w.heap.size < w1.heap.size := by have := hb1.size; simp at this; omega
  have hwb : w.heap.size < b := by simp at hb; omega
  have HS1 := Lib.hid hs1
  have HB1 := Lib.hid hB1
  clear hx1 hb hs1 hb1 hB1
  go_wp2_with fail
  refine (l33Draw_any b w1 HS1.out).mono ?_
  rintro e w2 ⟨p, x1, x2, x3, x4, zs, a2, c2, rfl, hp, _, _, _, _, hzl, _, hi2, hsl, hgt2, hs2, hg2⟩
  have hblk := (hg2.block w.heap.size hzs (fun e => by have := Option.some.inj e; omega)).trans HBK.out
  have hZ2 := heap_cell hblk
  have hF2 := heap_frozen hblk
  have HB2 := Lib.hid (HB1.out.trans (below_of_grownBy hg2 HB1.out.size (fun k e => by have := Option.some.inj e; omega)))
  have HI2 := Lib.hid hi2
  have HSL := Lib.hid hsl
  have hz2 : w.heap.size < w2.heap.size := by have := hg2.size; omega
  have HGT := Lib.hid (fun ad e => Nat.ne_of_gt (Nat.lt_of_le_of_lt (Nat.le_of_lt hzs) (hgt2 ad e)))
  clear hblk hi2 hsl hgt2 hs2 hg2
  go_wp2_with fail
  refine bodyPost_ret (v := .agg #[.string p, .int .i64 x1, .int .i64 x2, .int .i64 x3, .int .i64 x4, .slice a2 zs.length c2]) (by simp [results, Tryd.results30, go_sem, hZ2]) rfl ⟨p, x1, x2, x3, x4, zs, a2, c2, rfl, hp, hzl, ?_, HSL.out, ?_⟩
  · iterate 6 (refine intsAt_other ?_ HGT.out)
    exact HI2.out
  · iterate 6 (refine Below.setCell ?_ (by dsimp only; omega) _)
    exact HB2.out

end Go.Proofs.YteggjpfaleeajaaDoor
