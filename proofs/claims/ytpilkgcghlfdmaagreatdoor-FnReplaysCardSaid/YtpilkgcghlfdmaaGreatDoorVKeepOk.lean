import Derived.Test.YtpilkgcghlfdmaaGreatDoorVKeep
import Derived.StillTailTactics
namespace Go.Proofs.YtpilkgcghlfdmaaGreatDoor
open Go.RowKit

set_option maxRecDepth 100000 in
set_option maxHeartbeats 1000000 in
theorem apply_ok (B b base : Nat) (k i : Int) (p : ByteArray) (x1 x2 x3 x4 : Int) (a : Option Addr) (c : Nat) (xs : List Int) (w : World) (hb : w.heap[b]? = some (.cells (kcs 0 p x1 x2 x3 x4 (.slice a xs.length c)) 93 (0, 0))) (ho : OwnI w base (.slice a xs.length c) xs)
    (hne : ∀ g, Value.ownBlock (.slice a xs.length c) = some g → g ≠ b) (hB1 : B ≤ b) (hB2 : B ≤ base) (h1 : isRecB k i = true) (h2 : i < x3) (hl : (xs.length : Int) = x3) (hx : ∀ x ∈ xs, 0 ≤ x ∧ x ≤ 4) (t : Int) (ht : nextS k (xs.getD i.toNat 0) = t) (t0 : (t != 0) = true) :
    Calls Tryz.prog 39 #[.pointer (some ⟨b, 0, none⟩), .agg #[.int .i64 k, .int .i64 i]] w (RetApply B b base w p x1 x2 x3 x4 (.slice a xs.length c) (xs.set i.toNat t) 0) := by
  have hlt : b < w.heap.size := (Array.getElem?_eq_some_iff.1 hb).1
  have h1 : (w.alloc (.cells #[.int .i64 k, .int .i64 i] 53 (0, 0))).heap[b]? = some (.cells (kcs 0 p x1 x2 x3 x4 (.slice a xs.length c)) 93 (0, 0)) := ((World.grownBy_alloc w _ none).block b hlt (by simp)).trans hb
  have hc0 : (w.alloc (.cells #[.int .i64 k, .int .i64 i] 53 (0, 0))).cell? ⟨b, 0, none⟩ = some (.int .i32 0) := by unfold World.cell?; rw [h1]; rfl
  have hf0 : (w.alloc (.cells #[.int .i64 k, .int .i64 i] 53 (0, 0))).frozen? ⟨b, 0, none⟩ = false := by unfold World.frozen?; rw [h1]; rfl
  have HC0 := Lib.hid hc0
  have HF0 := Lib.hid hf0
  clear h1 hc0 hf0
  have HBk := Lib.hid hb
  have HO := Lib.hid ho
  have HN := Lib.hid hne
  clear hb ho hne
  obtain ⟨k0, i0⟩ : (1 ≤ k ∧ k ≤ 4) ∧ (0 ≤ i ∧ i ≤ 199) := by
    have h := h1; unfold isRecB at h; rw [Bool.and_eq_true, inB_iff, inB_iff] at h; exact h
  obtain ⟨k1, k4⟩ := k0
  obtain ⟨i1, i2⟩ := i0
  obtain ⟨j, rfl⟩ := Int.eq_ofNat_of_zero_le i1
  have hj : j < xs.length := by omega
  obtain ⟨g, rfl, hbg, _, hgl⟩ := HO.out.block (by omega)
  obtain ⟨x, hxj⟩ : ∃ x, xs[j]? = some x := ⟨_, List.getElem?_eq_getElem hj⟩
  have hxd : xs.getD j 0 = x := by rw [List.getD_eq_getElem?_getD, hxj]; rfl
  obtain ⟨x0, x4'⟩ := hx x (List.mem_of_getElem? hxj)
  rw [Int.toNat_natCast, hxd] at ht
  have hgb : g ≠ b := HN.out g rfl
  have h2' : decide (x3 ≤ (j : Int)) = false := by simp; omega
  have HXJ := Lib.hid hxj
  have HT := Lib.hid ht
  have HL := Lib.hid hl
  have HT0 := Lib.hid t0
  rw [Int.toNat_natCast]
  clear hx hxj hxd ht i1 hl h2 t0
  go_enter_defers Tryz.func39, Tryz.ntmps39
  go_wp2_with fail
  refine (lock_any ⟨b, 0, none⟩ _ HC0.out HF0.out).mono ?_
  rintro e W ⟨rfl, hW⟩
  obtain ⟨g1, g2, g3, _, g5, hr, hk⟩ := locked HBk.out HO.out HN.out hB1 hW
  have G1 := Lib.hid g1
  have G2 := Lib.hid g2
  have G3 := Lib.hid g3
  have hlt' : b < W.heap.size := by omega
  obtain ⟨x', hx', hcg, hfg⟩ := g2.cellAt rfl hj
  obtain rfl : x' = x := Option.some.inj (hx'.symm.trans HXJ.out)
  have hgl' : g < W.heap.size := by omega
  have hj1 : (j : Int) < (xs.length : Int) := by omega
  have hj0 : (0 : Int) ≤ (j : Int) := by omega
  clear g1 g2 g3 hW hx'
  go_wp2_with fail
  refine wp_region_ext (by kernel_rfl) (by kernel_rfl) ?_
  repeat (go_big_quiet_step ((go_at_call 67; go_must (apply calls_ext; apply isRecord_val; assumption))))
  refine wpQuiet_nil ?_
  rintro _ ⟨s0, rfl⟩
  have hs0 := s0.below.size
  have hs1 : b < s0.w.heap.size := by omega
  have hs2 : w.heap.size < s0.w.heap.size := by omega
  have hs3 : g < s0.w.heap.size := by omega
  go_wp2_with fail
  refine wp_region_ext (by kernel_rfl) (by kernel_rfl) ?_
  repeat (go_big_quiet_step ((go_at_call 68; go_must (apply calls_ext; refine transition_val HT.out HT0.out ?_ ?_ ?_ ?_ <;> omega))))
  refine wpQuiet_nil ?_
  rintro _ ⟨s, rfl⟩
  go_wp2_with fail
  have hs4 := s.below.size
  have hs5 : b < s.w.heap.size := by omega
  have hs6 : g < s.w.heap.size := by omega
  go_region
  go_wp2_with fail
  have W2 : ∀ X : World, X = (s.w.setCell ⟨g, j, none⟩ (.int .i64 t)).drew → X.heap[b]? = some (.cells (kcs 1 p x1 x2 x3 x4 (.slice (some ⟨g, 0, none⟩) xs.length c)) 93 (0, 0)) ∧ OwnI X base (.slice (some ⟨g, 0, none⟩) xs.length c) (xs.set j t) ∧ Below B w X := fun X hX => by
    subst hX
    have hO2 := (((G2.out.grown s0.below).grown s.below).stored rfl j t)
    refine ⟨?_, OwnI.drew hO2.1, Below.drew (((G3.out.trans (s0.below.mono (by omega))).trans (s.below.mono (by omega))).setCell (show B ≤ g by omega) _)⟩
    exact (heap_setCell_other _ ⟨g, j, none⟩ b _ (fun e => hgb e.symm)).trans ((s.below.block b hs1).trans ((s0.below.block b hlt').trans G1.out))
  obtain ⟨v1, v2, v3⟩ := W2 _ rfl
  refine leaves_cons (f := 66) (args := #[.pointer (some ⟨b, 0, none⟩)]) (by simp) (by simp [go_sem]) ?_
  refine (unlock_def ⟨b, 0, none⟩ .returning _ (by unfold World.cell?; rw [v1]; rfl) (by unfold World.frozen?; rw [v1]; rfl)).mono ?_
  rintro e u' w'' ⟨rfl, rfl, rfl⟩
  exact ⟨_, results_tmp rfl _ _ _, unlocked v1 v2 HN.out hB1 v3⟩

end Go.Proofs.YtpilkgcghlfdmaaGreatDoor
