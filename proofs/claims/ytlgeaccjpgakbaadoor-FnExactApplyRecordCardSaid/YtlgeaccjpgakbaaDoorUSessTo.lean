import Derived.Test.YtlgeaccjpgakbaaDoorUSess0
namespace Go.Proofs.YtlgeaccjpgakbaaDoor
open Go.RowKit

set_option maxHeartbeats 1000000 in
theorem toSession_any (p : ByteArray) (x1 x2 x3 x4 : Int) (a : Option Addr) (xs : List Int) (c : Nat) (w : World) (hx : IntsAt w a xs) (lx : xs.length ≤ 1099511627776) :
    Calls Tryd.prog 24 #[.agg #[.string p, .int .i64 x1, .int .i64 x2, .int .i64 x3, .int .i64 x4, .slice a xs.length c]] w (RetSess w p x1 x2 x3 x4 xs) := by
  have HX := Lib.hid hx
  clear hx
  go_enter Tryd.func24, Tryd.ntmps24
  go_wp2_with fail
  refine (toBatch_any _ _ _ _ _ _).mono ?_
  rintro e w1 ⟨rfl, hb1⟩
  obtain ⟨hc, hf⟩ := bcell hb1
  have HB1 := Lib.hid (bt3 hb1)
  have hz1 : w.heap.size + 1 + 1 < w1.heap.size := by have := hb1.size; simp at this; omega
  have hz0 : w.heap.size + 1 < w1.heap.size := by omega
  clear hb1
  go_wp2_with fail
  have HB2 : Hid (Below w.heap.size w (((((w1.setCell ⟨w.heap.size + 1 + 1, 0, none⟩ (.string p)).setCell ⟨w.heap.size + 1 + 1, 1, none⟩ (.int .i64 x1)).setCell ⟨w.heap.size + 1 + 1, 2, none⟩ (.int .i64 x2)).setCell ⟨w.heap.size + 1 + 1, 3, none⟩ (.int .i64 x3)).setCell ⟨w.heap.size + 1 + 1, 4, none⟩ (.int .i64 x4))) := by
    show Below _ _ _
    iterate 5 (refine Below.setCell ?_ (by dsimp only; omega) _)
    exact HB1.out
  refine (toInt64S_any _ _ _ _ (HX.out.below HB2.out) lx).mono ?_
  rintro e w2 ⟨rfl, ho, hb2⟩
  obtain ⟨hc2, hf2⟩ := bcell hb2
  have HB3 := Lib.hid (bt0 HB2.out hb2 (Nat.le_refl _))
  have HO : Hid (OwnI w2 w1.heap.size (.slice (some ⟨w1.heap.size, 0, none⟩) xs.length xs.length) xs) := by
    show OwnI _ _ _ _
    simpa using ho
  clear ho
  have hz2 : w.heap.size + 1 + 1 < w2.heap.size := by have := hb2.size; simp at this; omega
  go_wp2_with fail
  refine bodyPost_ret (v := .agg #[.string p, .int .i64 x1, .int .i64 x2, .int .i64 x3, .int .i64 x4, .slice (some ⟨w1.heap.size, 0, none⟩) xs.length xs.length]) (by simp [results, Tryd.results24, go_sem, hc2, hz0, hc]) rfl ⟨_, _, rfl, ?_, ?_⟩
  · refine OwnI.weak (base := w1.heap.size) ?_ (by omega)
    iterate 7 (refine OwnI.setOld ?_ (by dsimp only; omega) _)
    exact HO.out
  · iterate 7 (refine Below.setCell ?_ (by dsimp only; omega) _)
    exact HB3.out

end Go.Proofs.YtlgeaccjpgakbaaDoor
