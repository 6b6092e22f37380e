import Derived.Test.YtlgeaccjpgakbaaDoorUDraw33
namespace Go.Proofs.YtlgeaccjpgakbaaDoor
open Go.RowKit

/-- a drawn record -/
def RetRec (w : World) (b : Nat) (e : Ending) (w' : World) : Prop :=
  ∃ k i : Int, e = .returned (.agg #[.int .i64 k, .int .i64 i]) ∧ (0 ≤ k ∧ k ≤ 5) ∧ (-1 ≤ i ∧ i ≤ 200) ∧ Src w' b ∧ w.grownBy w' (some b)

/-- the end: the record lies in the result's box -/
theorem retRec_of {w W : World} {b : Nat} {v0 v1 : Value} (hlt : b < w.heap.size) (hst : StB b w W) {k i : Int} (hk : 0 ≤ k ∧ k ≤ 5) (hi : -1 ≤ i ∧ i ≤ 200) :
    RetRec w b (.returned (.agg #[.int .i64 k, .int .i64 i])) ((W.setCell ⟨w.heap.size, 0, none⟩ v0).setCell ⟨w.heap.size, 1, none⟩ v1) := by
  have h0 := hst
  have h5 := stB_set (v := v1) (i := 1) (stB_set (v := v0) (i := 0) h0 hlt (Nat.le_refl _)) hlt (Nat.le_refl _)
  exact ⟨k, i, rfl, hk, hi, h5.1, h5.2⟩

theorem stB_up {w W w0 : World} {b : Nat} {o : Obj} (hw : (w.alloc o).grownBy w0 (some b)) (hst : StB b w0 W) : StB b w W := ⟨hst.1, grownBy_trans (World.grownBy_alloc _ _ _) (grownBy_trans hw hst.2)⟩

set_option maxRecDepth 100000 in
set_option maxHeartbeats 1000000 in
theorem l32Draw_any (b : Nat) (w : World) (hs : Src w b) :
    Calls Tryd.prog 48 #[.pointer (some ⟨b, 0, none⟩)] w (RetRec w b) := by
  have hlt := hs.lt
  have HS := Lib.hid hs
  clear hs
  go_enter Tryd.func48, Tryd.ntmps48
  go_wp2_with fail
  refine (l01Next_any b 4 _ (HS.out.kept (World.grownBy_alloc _ _ none) (by simp)) (by decide) (by decide)).mono ?_
  rintro e W1 ⟨r1, rfl, r10, r11, hs1, hg1⟩
  have hr1 : r1 < 4 := by omega
  have HS1 := Lib.hid hs1
  have HG1 := Lib.hid hg1
  clear hs1 hg1 r11
  go_wp2_with fail
  refine (l01Next_any b 5 _ HS1.out (by decide) (by decide)).mono ?_
  rintro e W2 ⟨r2, rfl, r20, r21, hs2, hg2⟩
  have hr2 : r2 < 5 := by omega
  have hg12 := grownBy_trans HG1.out hg2
  have hws : w.heap.size < W2.heap.size := by have := hg12.size; simp at this; omega
  have HS2 := Lib.hid hs2
  have HG2 := Lib.hid hg12
  clear hs2 hg2 hg12 r21
  go_wp2_with fail
  have HG0 := Lib.hid (grownBy_trans HG2.out (World.grownBy_alloc W2 (.cells #[.int .i64 (1 + r1), .int .i64 r2] 30 (0, 0)) _))
  have hb2 : b < W2.heap.size := HS2.out.lt
  have HB0 : Hid ((W2.alloc (.cells #[.int .i64 (1 + r1), .int .i64 r2] 30 (0, 0))).heap[W2.heap.size]? = some (.cells #[.int .i64 (1 + r1), .int .i64 r2] 30 (0, 0))) := Lib.hid Array.getElem?_push_size
  have H0 : Hid (StB b (W2.alloc (.cells #[.int .i64 (1 + r1), .int .i64 r2] 30 (0, 0))) (W2.alloc (.cells #[.int .i64 (1 + r1), .int .i64 r2] 30 (0, 0)))) := Lib.hid ⟨HS2.out.kept (World.grownBy_alloc _ _ none) (by simp), World.grownBy.refl _ _⟩
  have hs0 : (W2.alloc (.cells #[.int .i64 (1 + r1), .int .i64 r2] 30 (0, 0))).heap.size = W2.heap.size + 1 := by simp
  generalize (W2.alloc (.cells #[.int .i64 (1 + r1), .int .i64 r2] 30 (0, 0))) = w0 at *
  have HBOX : Hid (∀ W, StB b w0 W → (∀ i, W.cell? ⟨W2.heap.size, i, none⟩ = (#[.int .i64 (1 + r1), .int .i64 r2] : Array Value)[i]?) ∧ (∀ i, W.frozen? ⟨W2.heap.size, i, none⟩ = false) ∧ (∀ i, W.cell? ⟨w.heap.size, i, none⟩ = (#[.int .i64 0, .int .i64 0] : Array Value)[i]?) ∧ (∀ i, W.frozen? ⟨w.heap.size, i, none⟩ = false)) := Lib.hid (fun W hst => by
    have h1 := (hst.2.block w.heap.size (by omega) (by simp; omega)).trans ((HG0.out.block w.heap.size (by simp) (by simp; omega)).trans Array.getElem?_push_size)
    have h2 := (hst.2.block W2.heap.size (by omega) (by simp; omega)).trans HB0.out
    exact ⟨heap_cell h2, heap_frozen h2, heap_cell h1, heap_frozen h1⟩)
  have n1 : ¬ W2.heap.size = w.heap.size := by omega
  have n2 : ¬ w.heap.size = W2.heap.size := by omega
  refine (l01Next_any b 40 _ H0.out.1 (by decide) (by decide)).mono ?_
  rintro e W3 ⟨r, rfl, r0, r1', hs3, hg3⟩
  have hst3 := stB_trans H0.out hs3 hg3
  obtain ⟨hc3, hf3, hrr3, hrf3⟩ := HBOX.out W3 hst3
  have HST3 := Lib.hid hst3
  clear hst3 hs3 hg3
  have hr : r = 0 ∨ r = 1 ∨ 2 ≤ r := by omega
  clear r1' r0
  rcases hr with rfl | rfl | hr
  · go_wp2_with fail
    refine (l01Next_any b 2 _ (HST3.out.1.kept (World.grownBy_alloc _ _ none) (by simp)) (by decide) (by decide)).mono ?_
    rintro e W4 ⟨r, rfl, r0, r1', hs4, hg4⟩
    obtain ⟨u, hu, z, rfl, hz0, hz5⟩ := tab_kept (n := 2) HST3.out.1.lt hg4 (twoT (numB (lo := 0) (hi := 5) _ (by decide) (by decide)) (numB (lo := 0) (hi := 5) _ (by decide) (by decide))) r0 (by omega)
    have hst4 := stB_trans HST3.out hs4 (grownBy_trans (World.grownBy_alloc W3 _ _) hg4)
    obtain ⟨hc4, hf4, hrr4, hrf4⟩ := HBOX.out W4 hst4
    have HST4 := Lib.hid hst4
    have hr2' : r < 2 := by omega
    clear hst4 hs4 hg4 hc3 hf3 hrr3 hrf3 r1'
    go_wp2_with fail
    exact bodyPost_ret (v := .agg #[.int .i64 z, .int .i64 r2]) (by simp [results, Tryd.results48, go_sem, hrr4]) rfl (retRec_of hlt (stB_set (stB_up HG0.out HST4.out) (by omega) (by omega)) ⟨by omega, by omega⟩ ⟨by omega, by omega⟩)
  · go_wp2_with fail
    refine (l01Next_any b 3 _ (HST3.out.1.kept (World.grownBy_alloc _ _ none) (by simp)) (by decide) (by decide)).mono ?_
    rintro e W4 ⟨r, rfl, r0, r1', hs4, hg4⟩
    obtain ⟨u, hu, z, rfl, hz0, hz5⟩ := tab_kept (n := 3) HST3.out.1.lt hg4 (threeT (numB (lo := -1) (hi := 200) _ (by decide) (by decide)) (numB (lo := -1) (hi := 200) _ (by decide) (by decide)) (numB (lo := -1) (hi := 200) _ (by decide) (by decide))) r0 (by omega)
    have hst4 := stB_trans HST3.out hs4 (grownBy_trans (World.grownBy_alloc W3 _ _) hg4)
    obtain ⟨hc4, hf4, hrr4, hrf4⟩ := HBOX.out W4 hst4
    have HST4 := Lib.hid hst4
    have hr2' : r < 3 := by omega
    clear hst4 hs4 hg4 hc3 hf3 hrr3 hrf3 r1'
    go_wp2_with fail
    exact bodyPost_ret (v := .agg #[.int .i64 (1 + r1), .int .i64 z]) (by simp [results, Tryd.results48, go_sem, hrr4]) rfl (retRec_of hlt (stB_set (stB_up HG0.out HST4.out) (by omega) (by omega)) ⟨by omega, by omega⟩ ⟨by omega, by omega⟩)
  · have q0 : ¬ r = 0 := by omega
    have q1 : ¬ r = 1 := by omega
    clear hr
    go_wp2_with fail
    exact bodyPost_ret (v := .agg #[.int .i64 (1 + r1), .int .i64 r2]) (by simp [results, Tryd.results48, go_sem, hrr3]) rfl (retRec_of hlt (stB_up HG0.out HST3.out) ⟨by omega, by omega⟩ ⟨by omega, by omega⟩)

end Go.Proofs.YtlgeaccjpgakbaaDoor
