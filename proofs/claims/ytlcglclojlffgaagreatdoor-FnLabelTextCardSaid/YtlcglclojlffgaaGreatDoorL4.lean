import Derived.Test.YtlcglclojlffgaaGreatDoorL3
import Derived.Test.YtlcglclojlffgaaGreatDoorL1
import Derived.Test.YtlcglclojlffgaaGreatDoorL0
import Derived.RangeFuncNested
import Derived.RangeFuncBound
import Derived.RangeFuncCalls
import Derived.RangeFuncLeaves
import Derived.RangeFuncFrom
import Derived.RangeFuncKeeps
import Derived.Shelf.Abstract
import Derived.Shelf.RegionOpen
import Derived.OwnWalkIn
import Derived.TacticsInMore
import Derived.LoopNIn
import Derived.LoopIn
import Derived.Test.YtlcglclojlffgaaGreatDoorL2
import Derived.Conc.LoneCalls
import Derived.Maps.AppendAt
import Derived.Lib.SplitLaws
import Derived.Lib.ParseIntBCases
import Derived.Lib.ItoaLen
import Derived.Conc.MuLone
import Derived.Tactics
import Derived.Tactics2
import Derived.Defers
import Derived.Laws.Pointers
import Derived.Laws.LoneSync
import Derived.RegionTactic
import Derived.RegionCalls
import Derived.ChangeAlike
namespace Go.Proofs.YtlcglclojlffgaaGreatDoor
open Go.RowKit

set_option maxRecDepth 100000 in
set_option maxHeartbeats 2000000 in
theorem textWidth_any (m n : Nat) (T : TypeId) (r : Value) (fv fg fb fw : FuncId) (bk : Option Nat) (w : World) (hn : n ≤ 100000) (hM : ModeM w m T r fv fg fb fw bk) :
    Calls Tryz.prog 236 #[.iface T r, .int .i64 (n : Int)] w fun e w' => e = .returned (.int .i64 (txtW m n : Nat)) ∧ Below w.heap.size w w' := by
  obtain ⟨g1, g3⟩ := grpM_bd m
  have HT := Lib.hid (show txtW m n = n / grpM m * widM m (grpM m) + if n % grpM m > 0 then widM m (n % grpM m) else 0 from rfl)
  obtain ⟨G, hG⟩ : ∃ G, G = grpM m := ⟨_, rfl⟩
  have HG := Lib.hid hG
  rw [← hG] at g1 g3 HT
  obtain ⟨Q, hQ⟩ : ∃ Q, Q = n / G := ⟨_, rfl⟩
  obtain ⟨R, hR⟩ : ∃ R, R = n % G := ⟨_, rfl⟩
  have hQb : Q ≤ n := by rw [hQ]; exact Nat.div_le_self _ _
  have hRb : R < G := by rw [hR]; exact Nat.mod_lt _ (by omega)
  have hq : (n : Int) / (G : Int) = (Q : Int) := by rw [hQ]; push_cast; rfl
  have hr : (n : Int) % (G : Int) = (R : Int) := by rw [hR]; push_cast; rfl
  have hW := widM_bd m G g1 g3
  obtain ⟨W, hWe⟩ : ∃ W, W = widM m G := ⟨_, rfl⟩
  rw [← hQ, ← hR, ← hWe] at HT
  rw [← hWe] at hW
  have hP : Q * W ≤ 100000 * 24 := Nat.mul_le_mul (by omega) (by omega)
  obtain ⟨P, hPe⟩ : ∃ P, P = Q * W := ⟨_, rfl⟩
  rw [← hPe] at hP HT
  have hw : wrap64 ((Q : Int) * (W : Int)) = (P : Int) := by
    have : (Q : Int) * (W : Int) = (P : Int) := by rw [hPe]; push_cast; rfl
    rw [this]; unfold wrap64; omega
  have HM := Lib.hid hM
  have hmg := hM.mg.1
  have hmw := hM.mw.1
  have hcg := hM.mg.2.1
  have hcw := hM.mw.2.1
  have HWe := Lib.hid hWe
  clear hQ hR hWe hPe hG hM
  have HCg : Hid (∀ w', Below w.heap.size w w' → Calls Tryz.prog fg #[r] w' fun e w'' => e = .returned (.int .i64 (G : Int)) ∧ Below w'.heap.size w' w'') := Lib.hid (fun w' _ => by rw [HG.out]; exact HM.out.cg w')
  have HCw : Hid (∀ w', Below w.heap.size w w' → Calls Tryz.prog fw #[r, .int .i64 (G : Int)] w' fun e w'' => e = .returned (.int .i64 (W : Int)) ∧ Below w'.heap.size w' w'') := Lib.hid (fun w' hb => by rw [HWe.out]; exact HM.out.cw G w' g1 (by rw [HG.out]; exact Nat.le_refl _) (fun b e => hb.block b (HM.out.lt b e)))
  go_enter Tryz.func236, Tryz.ntmps236
  go_wp2_with fail
  refine wp_region_ext (by kernel_rfl) (by kernel_rfl) ?_
  repeat (first
    | (go_big_quiet_step (fail))
    | (refine quiet_nil rfl 14 "loop.example/g00879/impl.width" rfl T r fw rfl HM.out.mw ?_; simp only [Act.put, List.setIfInBounds_toArray, List.set_cons_zero, List.set_cons_succ])
    | (refine quiet_invoke0 rfl 8 "loop.example/g00879/impl.group" _ rfl T r fg (.int .i64 (G : Int)) rfl HM.out.mg (fun _ ⟨s, hs⟩ => by subst hs; exact calls_ext s (HCg.out _ s.below)) ?_; simp only [Act.put, List.setIfInBounds_toArray, List.set_cons_zero, List.set_cons_succ])
    | (refine quiet_invoke0 rfl 12 "loop.example/g00879/impl.group" _ rfl T r fg (.int .i64 (G : Int)) rfl HM.out.mg (fun _ ⟨s, hs⟩ => by subst hs; exact calls_ext s (HCg.out _ s.below)) ?_; simp only [Act.put, List.setIfInBounds_toArray, List.set_cons_zero, List.set_cons_succ])
    | (refine quiet_invoke1 rfl 16 13 "loop.example/g00879/impl.width" _ rfl T r _ fw (.int .i64 (W : Int)) rfl rfl HM.out.mw (fun _ ⟨s, hs⟩ => by subst hs; exact calls_ext s (HCw.out _ s.below)) ?_; simp only [Act.put, List.setIfInBounds_toArray, List.set_cons_zero, List.set_cons_succ]))
  refine wpQuiet_nil ?_
  rintro _ ⟨s, rfl⟩
  have HS := Lib.hid s.below
  go_wp2_with fail
  refine (HCg.out _ HS.out).mono ?_
  rintro e w2 ⟨rfl, hb2⟩
  have HB2 := Lib.hid (bt0 HS.out hb2 (Nat.le_refl _))
  clear hb2
  by_cases h0 : 0 < R
  · have hRi : (0 : Int) < (R : Int) := by omega
    have HCr := Lib.hid (HM.out.cw R w2 h0 (by rw [← HG.out]; omega) (fun b e => HB2.out.block b (HM.out.lt b e)))
    have hWr := widM_bd m R h0 (by omega)
    obtain ⟨V, hV⟩ : ∃ V, V = widM m R := ⟨_, rfl⟩
    rw [← hV] at HCr hWr HT
    rw [if_pos h0] at HT
    clear hV h0
    go_wp2_with fail
    refine HCr.out.mono ?_
    rintro e w3 ⟨rfl, hb3⟩
    have HB3 := Lib.hid (bt0 HB2.out hb3 (Nat.le_refl _))
    clear hb3
    go_wp2_with fail
    go_ret
    exact ⟨ret_int (by rw [HT.out]; push_cast; rfl), HB3.out⟩
  · obtain rfl : R = 0 := by omega
    rw [if_neg (by omega), Nat.add_zero] at HT
    go_wp2_with fail
    go_ret
    exact ⟨ret_int (by rw [HT.out]), HB2.out⟩
set_option maxRecDepth 100000 in
set_option maxHeartbeats 1000000 in
theorem segmentWidth_any (m n : Nat) (T : TypeId) (r : Value) (fv fg fb fw : FuncId) (bk : Option Nat) (w : World) (hn : n ≤ 100000) (hM : ModeM w m T r fv fg fb fw bk) :
    Calls Tryz.prog 226 #[.iface T r, .int .i64 (n : Int)] w fun e w' => e = .returned (.int .i64 (segW m n : Nat)) ∧ Below w.heap.size w w' := by
  have h1 := txtW_le m n
  have HS := Lib.hid (show segW m n = 11 + txtW m n from rfl)
  have HM := Lib.hid hM
  obtain ⟨V, hV⟩ : ∃ V, V = txtW m n := ⟨_, rfl⟩
  rw [← hV] at h1 HS
  have HV := Lib.hid hV
  clear hM hV
  go_enter Tryz.func226, Tryz.ntmps226
  go_wp2_with fail
  refine (textWidth_any m n T r fv fg fb fw bk _ hn HM.out).mono ?_
  rw [← HV.out]
  rintro e w2 ⟨rfl, hb2⟩
  have HB2 := Lib.hid hb2
  clear hb2
  go_wp2_with fail
  go_ret
  exact ⟨ret_int (by rw [HS.out]; push_cast; rfl), HB2.out⟩

end Go.Proofs.YtlcglclojlffgaaGreatDoor
namespace Go.Proofs.YtlcglclojlffgaaGreatDoor
open Go.RowKit

theorem grownBy_below {w w' : World} (hb : Below w.heap.size w w') (row : Option Nat) : w.grownBy w' row := ⟨hb.os, hb.tape, hb.output, hb.size, fun k hk _ => hb.block k hk⟩
theorem setCell_blk {w : World} {b : Nat} {C : Array Value} {t : TypeId} (h : w.heap[b]? = some (.cells C t (0, 0))) (i : Nat) (v : Value) : (w.setCell ⟨b, i, none⟩ v).heap[b]? = some (.cells (C.setIfInBounds i v) t (0, 0)) := by
  rw [setCell_eq_setRow w b _ C t (0, 0) _ h]
  exact setRow_heap w b _ _ t _ h
theorem wid_zero : Tryz.zeroCells290.size = 1280 := by kernel_rfl
/-- the widths of segments, filled up to mode m, length n -/
structure WidTo (m n : Nat) (C : Array Value) : Prop where
  size : C.size = 1280
  at' : ∀ i j, 1 ≤ i → i ≤ 4 → 1 ≤ j → j ≤ 255 → (i < m ∨ (i = m ∧ j < n)) → C[i * 256 + j]? = some (.int .i64 (segW i j : Nat))
theorem WidTo.step {m n : Nat} {C : Array Value} (h : WidTo m n C) (_hm : 1 ≤ m) (hm4 : m ≤ 4) (hn : n ≤ 255) : WidTo m (n + 1) (C.setIfInBounds (m * 256 + n) (.int .i64 (segW m n : Nat))) := by
  have hs := h.size
  refine ⟨by simp [hs], fun i j h1 h2 h3 h4 h5 => ?_⟩
  by_cases e : i = m ∧ j = n
  · obtain ⟨rfl, rfl⟩ := e
    rw [Array.getElem?_setIfInBounds_self_of_lt (by omega)]
  · rw [Array.getElem?_setIfInBounds_ne (by omega)]
    exact h.at' i j h1 h2 h3 h4 (by omega)
theorem WidTo.next {m : Nat} {C : Array Value} (h : WidTo m 256 C) : WidTo (m + 1) 1 C := ⟨h.size, fun i j h1 h2 h3 h4 h5 => h.at' i j h1 h2 h3 h4 (by omega)⟩
/-- the widths at a block -/
def WidAt (w : World) (b : Nat) : Prop := ∃ C t, w.heap[b]? = some (.cells C t (0, 0)) ∧ WidTo 5 1 C
theorem WidAt.below {w w' : World} {b : Nat} (h : WidAt w b) (hb : Below w.heap.size w w') : WidAt w' b := by
  obtain ⟨C, t, h1, h2⟩ := h
  exact ⟨C, t, blkK hb h1, h2⟩
theorem WidAt.cell {w : World} {b : Nat} (h : WidAt w b) {m n : Nat} (h1 : 1 ≤ m) (h2 : m ≤ 4) (h3 : 1 ≤ n) (h4 : n ≤ 255) : w.cell? ⟨b, m * 256 + n, none⟩ = some (.int .i64 (segW m n : Nat)) ∧ b < w.heap.size := by
  obtain ⟨C, t, k1, k2⟩ := h
  exact ⟨by rw [(heap_cellR k1).1]; exact k2.at' m n h1 h2 h3 h4 (by omega), blkLt k1⟩
set_option maxRecDepth 100000 in
set_option maxHeartbeats 2000000 in
theorem widths_any (w : World) :
    Calls Tryz.prog 217 #[] w fun e w' => e = .returned (.pointer (some ⟨w.heap.size, 0, none⟩)) ∧ WidAt w' w.heap.size ∧ Below w.heap.size w w' := by
  go_enter Tryz.func217, Tryz.ntmps217
  go_wp2_with fail
  go_loopw [2, 3, 4, 5] (fun i _ _ _ wr => ∃ (m : Nat) (C : Array Value), 1 ≤ m ∧ m ≤ 5 ∧ i = .int .i64 m ∧ wr.heap[w.heap.size]? = some (.cells C 290 (0, 0)) ∧ WidTo m 1 C ∧ Below w.heap.size w wr) (fun i _ _ _ _ => 5 - (intOf i).toNat)
  case atStart => exact ⟨1, _, by omega, by omega, rfl, push_at _ _, ⟨wid_zero, fun i j h1 h2 h3 h4 h5 => by omega⟩, ba1 _ _⟩
  case round =>
    obtain ⟨m, C, hm1, hm5, rfl, hC, hW, hb⟩ := hrel
    have HC := Lib.hid hC
    have HW := Lib.hid hW
    have HB := Lib.hid hb
    clear hC hW hb
    by_cases hlt : m ≤ 4
    · have hdec : decide ((m : Int) ≤ 4) = true := by simp; omega
      go_wp2_with fail
      refine (modeOf_any m hm1 hlt _).mono ?_
      rintro e w2 ⟨hb2, T, r, fv, fg, fb, fw, bk, rfl, hM, hbk⟩
      have HM := Lib.hid hM
      have HC2 := Lib.hid (blkK hb2 HC.out)
      have HB2 := Lib.hid (bt0 HB.out hb2 (Nat.le_refl _))
      have HBK := Lib.hid (fun b (e : bk = some b) => Nat.lt_of_lt_of_le (blkLt HC.out) (hbk b e))
      clear hb2 hM hbk
      go_wp2_with fail
      go_loopw [5] (fun j wr => ∃ (n : Nat) (C : Array Value), 1 ≤ n ∧ n ≤ 256 ∧ j = .int .i64 n ∧ wr.heap[w.heap.size]? = some (.cells C 290 (0, 0)) ∧ WidTo m n C ∧ Below w.heap.size w wr ∧ w2.grownBy wr (some w.heap.size)) (fun j _ => 256 - (intOf j).toNat)
      case atStart => exact ⟨1, _, by omega, by omega, rfl, HC2.out, HW.out, HB2.out, grownBy_refl _ _⟩
      case round =>
        obtain ⟨n, C', hn1, hn2, rfl, hC, hW, hb, hk⟩ := hrel
        have HC3 := Lib.hid hC
        have HW3 := Lib.hid hW
        have HB3 := Lib.hid hb
        have HK3 := Lib.hid hk
        have hlb := blkLt hC
        clear hC hW hb hk
        by_cases hln : n ≤ 255
        · have hdec : decide ((n : Int) ≤ 255) = true := by simp; omega
          have hsz : C'.size = 1280 := HW3.out.size
          obtain ⟨hcc, hff⟩ := heap_cellR HC3.out
          obtain ⟨v0, hv0⟩ : ∃ v, wr.cell? ⟨w.heap.size, m * 256 + n, none⟩ = some v := ⟨_, by rw [hcc]; exact Array.getElem?_eq_getElem (by omega)⟩
          have HM3 := Lib.hid (HM.out.kept HK3.out.size (fun b e => HK3.out.block b (HM.out.lt b e) (fun h => by cases h; exact absurd (HBK.out _ e) (Nat.lt_irrefl _))))
          go_wp2_with fail
          refine wp_region_ext_tail 9 (by kernel_rfl) (by kernel_rfl) ?_
          simp only [List.take_succ_cons, List.take_zero, List.drop_succ_cons, List.drop_zero]
          repeat (go_big_quiet_step ((go_at_call 226; go_must (exact calls_ext _ (segmentWidth_any m n T r fv fg fb fw bk _ (by omega) (HM3.out.below (Ext.below _)))))))
          refine wpQuiet_nil ?_
          rintro _ ⟨s, rfl⟩
          have hv1 := below_cell s.below hv0
          have hf1 := (s.below.frozen (p := ⟨w.heap.size, m * 256 + n, none⟩) hlb).trans (hff _)
          have HC4 := Lib.hid (blkK s.below HC3.out)
          clear hcc hff hv0
          go_wp2_with fail
          refine ⟨⟨n + 1, _, by omega, by omega, by go_num, ?_, HW3.out.step hm1 hlt hln, ?_, ?_⟩, by simp [intOf]; omega⟩
          · exact setCell_blk HC4.out _ _
          · exact (bt0 HB3.out s.below (Nat.le_refl _)).setCell (Nat.le_refl _) _
          · exact grownBy_trans (grownBy_trans HK3.out (grownBy_below s.below _)) (grownBy_set _ _ _ _)
        · have hdec : decide ((n : Int) ≤ 255) = false := by simp; omega
          obtain rfl : n = 256 := by omega
          go_wp2_with fail
          exact ⟨⟨m + 1, C', by omega, by omega, by go_num, HC3.out, HW3.out.next, HB3.out⟩, by simp [intOf]; omega⟩
    · have hdec : decide ((m : Int) ≤ 4) = false := by simp; omega
      obtain rfl : m = 5 := by omega
      go_wp2_with fail
      go_ret
      exact ⟨rfl, ⟨C, _, HC.out, HW.out⟩, HB.out⟩

end Go.Proofs.YtlcglclojlffgaaGreatDoor
namespace Go.Proofs.YtlcglclojlffgaaGreatDoor
open Go.RowKit

/-- how many bytes in a row each mode has had, in an array -/
def RchAt (w : World) (b : Nat) (f : Nat → Nat) : Prop := ∃ C t, w.heap[b]? = some (.cells C t (0, 0)) ∧ C.size = 5 ∧ ∀ i, 1 ≤ i → i ≤ 4 → C[i]? = some (.int .i64 (f i : Nat))
theorem RchAt.kept {w w' : World} {b : Nat} {f : Nat → Nat} (h : RchAt w b f) (hk : w'.heap[b]? = w.heap[b]?) : RchAt w' b f := by
  obtain ⟨C, t, h1, h2, h3⟩ := h
  exact ⟨C, t, hk.trans h1, h2, h3⟩
theorem RchAt.lt {w : World} {b : Nat} {f : Nat → Nat} (h : RchAt w b f) : b < w.heap.size := by
  obtain ⟨C, t, h1, h2, h3⟩ := h
  exact blkLt h1
theorem RchAt.below {w w' : World} {b : Nat} {f : Nat → Nat} (h : RchAt w b f) (hb : Below w.heap.size w w') : RchAt w' b f := h.kept (hb.block b h.lt)
theorem RchAt.cell {w : World} {b : Nat} {f : Nat → Nat} (h : RchAt w b f) {i : Nat} (h1 : 1 ≤ i) (h4 : i ≤ 4) : w.cell? ⟨b, i, none⟩ = some (.int .i64 (f i : Nat)) ∧ w.frozen? ⟨b, i, none⟩ = false := by
  obtain ⟨C, t, k1, k2, k3⟩ := h
  exact ⟨by rw [(heap_cellR k1).1]; exact k3 i h1 h4, (heap_cellR k1).2 i⟩
theorem RchAt.set {w : World} {b : Nat} {f g : Nat → Nat} (h : RchAt w b f) {i : Nat} (h1 : 1 ≤ i) (h4 : i ≤ 4) (z : Int) (hz : z = (g i : Nat)) (hg : ∀ j, j ≠ i → g j = f j) : RchAt (w.setCell ⟨b, i, none⟩ (.int .i64 z)) b g := by
  subst hz
  obtain ⟨C, t, k1, k2, k3⟩ := h
  refine ⟨_, t, setCell_blk k1 _ _, by simp [k2], fun j j1 j4 => ?_⟩
  by_cases e : j = i
  · subst e
    rw [Array.getElem?_setIfInBounds_self_of_lt (by omega)]
  · rw [Array.getElem?_setIfInBounds_ne (by omega), k3 j j1 j4, hg j e]
theorem RchAt.like {w : World} {b : Nat} {f g : Nat → Nat} (h : RchAt w b f) (hg : ∀ i, 1 ≤ i → i ≤ 4 → g i = f i) : RchAt w b g := by
  obtain ⟨C, t, k1, k2, k3⟩ := h
  exact ⟨C, t, k1, k2, fun i h1 h4 => by rw [k3 i h1 h4, hg i h1 h4]⟩
/-- a byte more -/
def tkN (f : Nat → Nat) (c : UInt8) (i : Nat) : Nat := if inM i c then min (f i + 1) 255 else 0
def tkTo (f : Nat → Nat) (c : UInt8) (m i : Nat) : Nat := if i < m then tkN f c i else f i
theorem tkTo_ne (f : Nat → Nat) (c : UInt8) {m j : Nat} (h : j ≠ m) : tkTo f c (m + 1) j = tkTo f c m j := by
  unfold tkTo
  by_cases h1 : j < m
  · rw [if_pos h1, if_pos (by omega)]
  · rw [if_neg h1, if_neg (by omega)]
theorem tkTo_at (f : Nat → Nat) (c : UInt8) (m : Nat) : tkTo f c (m + 1) m = tkN f c m := by unfold tkTo; rw [if_pos (by omega)]
theorem tkTo_old (f : Nat → Nat) (c : UInt8) (m : Nat) : tkTo f c m m = f m := by unfold tkTo; rw [if_neg (by omega)]
set_option maxRecDepth 100000 in
set_option maxHeartbeats 2000000 in
theorem take_any (b : Nat) (f : Nat → Nat) (hf : ∀ i, f i ≤ 255) (c : UInt8) (z : Nat) (hz : z = c.toNat) (w : World) (hR : RchAt w b f) :
    Calls Tryz.prog 218 #[.pointer (some ⟨b, 0, none⟩), .int .u8 (z : Int)] w fun e w' => e = .returned (.tuple #[]) ∧ RchAt w' b (tkN f c) ∧ w.grownBy w' (some b) := by
  have HR := Lib.hid hR
  have HF := Lib.hid hf
  have HZ := Lib.hid hz
  have hz255 : z ≤ 255 := by rw [hz]; have := c.toNat_lt; omega
  clear hR hf hz
  go_enter Tryz.func218, Tryz.ntmps218
  go_wp2_with fail
  go_loopw [4, 5, 6] (fun i _ _ wr => ∃ m : Nat, 1 ≤ m ∧ m ≤ 5 ∧ i = .int .i64 m ∧ RchAt wr b (tkTo f c m) ∧ w.grownBy wr (some b)) (fun i _ _ _ => 5 - (intOf i).toNat)
  case atStart => exact ⟨1, by omega, by omega, rfl, HR.out.like (fun i h1 h4 => by unfold tkTo; rw [if_neg (by omega)]), grownBy_refl _ _⟩
  case round =>
    obtain ⟨m, hm1, hm5, rfl, hr, hg⟩ := hrel
    have HRr := Lib.hid hr
    have HG := Lib.hid hg
    clear hr hg
    by_cases hlt : m ≤ 4
    · have hdec : decide ((m : Int) ≤ 4) = true := by simp; omega
      go_wp2_with fail
      refine (modeOf_any m hm1 hlt _).mono ?_
      rintro e w2 ⟨hb2, T, r, fv, fg, fb, fw, bk, rfl, hM, -⟩
      have HM := Lib.hid hM
      have HR2 := Lib.hid (HRr.out.below hb2)
      have HG2 := Lib.hid (grownBy_trans HG.out (grownBy_below hb2 (some b)))
      have hmv := hM.mv.1
      have hcv := hM.mv.2.1
      clear hb2 hM
      go_wp2_with fail
      refine (HM.out.cv _ _).mono ?_
      rintro e w3 ⟨rfl, hb3⟩
      have HV := Lib.hid (show (decide (0 ≤ valC m (z : Int))) = inM m c by rw [HZ.out]; rfl)
      have hv1 := valC_ge m (z : Int) (by omega)
      have hv2 := valC_le m (z : Int) (by omega)
      have HR3 := Lib.hid (HR2.out.below hb3)
      have HG3 := Lib.hid (grownBy_trans HG2.out (grownBy_below hb3 (some b)))
      obtain ⟨V, hV⟩ : ∃ V, V = valC m (z : Int) := ⟨_, rfl⟩
      rw [← hV] at HV hv1 hv2 ⊢
      obtain ⟨hc1, hf1⟩ := HR3.out.cell hm1 hlt
      rw [tkTo_old] at hc1
      have hlb := HR3.out.lt
      have hfm := HF.out m
      clear hb3 hV hmv hcv
      by_cases h0 : V < 0
      · have HN := Lib.hid (show tkN f c m = 0 by unfold tkN; rw [← HV.out, if_neg (by simp; omega)])
        go_wp2_with fail
        exact ⟨⟨m + 1, by omega, by omega, by go_num, HR3.out.set hm1 hlt _ (by rw [tkTo_at, HN.out]; rfl) (fun j hj => tkTo_ne f c hj), grownBy_trans HG3.out (grownBy_set _ _ _ _)⟩, by simp [intOf]; omega⟩
      · have HN := Lib.hid (show tkN f c m = min (f m + 1) 255 by unfold tkN; rw [← HV.out, if_pos (by simp; omega)])
        go_wp2_with fail
        refine wp_region_ext_tail 11 (by kernel_rfl) (by kernel_rfl) ?_
        simp only [List.take_succ_cons, List.take_zero, List.drop_succ_cons, List.drop_zero]
        repeat (go_big_quiet_step (fail))
        refine wpQuiet_nil ?_
        rintro _ ⟨s, rfl⟩
        have hv1 := below_cell s.below hc1
        have hf1' := (s.below.frozen (p := ⟨b, m, none⟩) hlb).trans hf1
        have HR4 := Lib.hid (HR3.out.below s.below)
        have HG4 := Lib.hid (grownBy_trans HG3.out (grownBy_below s.below (some b)))
        clear hc1 hf1
        go_wp2_with fail
        refine ⟨⟨m + 1, by omega, by omega, by go_num, HR4.out.set hm1 hlt _ ?_ (fun j hj => tkTo_ne f c hj), grownBy_trans HG4.out (grownBy_set _ _ _ _)⟩, by simp [intOf]; omega⟩
        rw [tkTo_at, HN.out]
        split <;> omega
    · have hdec : decide ((m : Int) ≤ 4) = false := by simp; omega
      obtain rfl : m = 5 := by omega
      go_wp2_with fail
      refine bodyPost_end (results_none rfl _ _ _) rfl ?_
      exact ⟨rfl, HRr.out.like (fun i h1 h4 => by unfold tkTo; rw [if_pos (by omega)]), HG.out⟩

end Go.Proofs.YtlcglclojlffgaaGreatDoor
namespace Go.Proofs.YtlcglclojlffgaaGreatDoor
open Go.RowKit

/-- a choice as a value -/
def chV (x : Ch) : Value := .agg #[.int .i64 x.l, .int .i64 x.c, .int .i64 x.t, .int .i64 x.m]
theorem bq_ne {a b : Int} (h : a ≠ b) : (a != b) = true := by rw [bne_iff_ne]; exact h
theorem bq_eq (a : Int) : (a != a) = false := by simp
set_option maxRecDepth 100000 in
set_option maxHeartbeats 1000000 in
theorem better_any (x y : Ch) (w : World) : Calls Tryz.prog 219 #[chV x, chV y] w fun e w' => e = .returned (.bool (chB x y)) ∧ Below w.heap.size w w' := by
  obtain ⟨a1, a2, a3, a4⟩ := x
  obtain ⟨b1, b2, b3, b4⟩ := y
  unfold chV
  have HD := Lib.hid (show chB ⟨a1, a2, a3, a4⟩ ⟨b1, b2, b3, b4⟩ = if (a1 != b1) then decide (a1 < b1) else if (a2 != b2) then decide (a2 < b2) else if (a3 != b3) then decide (b3 < a3) else decide (a4 < b4) from rfl)
  obtain ⟨R, hR⟩ : ∃ R, R = chB ⟨a1, a2, a3, a4⟩ ⟨b1, b2, b3, b4⟩ := ⟨_, rfl⟩
  rw [← hR] at HD ⊢
  clear hR
  dsimp only
  by_cases e1 : a1 = b1
  · subst e1
    by_cases e2 : a2 = b2
    · subst e2
      by_cases e3 : a3 = b3
      · subst e3
        rw [bq_eq, bq_eq, bq_eq] at HD
        go_enter Tryz.func219, Tryz.ntmps219
        go_wp2_with fail
        go_ret
        exact ⟨ret_bool HD.out.symm, ba2 _ _ _⟩
      · have h3 := bq_ne e3
        rw [bq_eq, bq_eq, h3] at HD
        clear e3
        go_enter Tryz.func219, Tryz.ntmps219
        go_wp2_with fail
        go_ret
        exact ⟨ret_bool HD.out.symm, ba2 _ _ _⟩
    · have h2 := bq_ne e2
      rw [bq_eq, h2] at HD
      clear e2
      go_enter Tryz.func219, Tryz.ntmps219
      go_wp2_with fail
      go_ret
      exact ⟨ret_bool HD.out.symm, ba2 _ _ _⟩
  · have h1 := bq_ne e1
    rw [h1] at HD
    clear e1
    go_enter Tryz.func219, Tryz.ntmps219
    go_wp2_with fail
    go_ret
    exact ⟨ret_bool HD.out.symm, ba2 _ _ _⟩

end Go.Proofs.YtlcglclojlffgaaGreatDoor
namespace Go.Proofs.YtlcglclojlffgaaGreatDoor
open Go.RowKit

theorem infoC : (Tryz.prog.info? 265).map (fun i => (i.zero, i.size, i.bytes)) = some (some (.agg #[.int .i64 0, .int .i64 0, .int .i64 0, .int .i64 0]), 4, 32) := by kernel_rfl
theorem make_ch (n : Nat) (hn : n ≤ 100000) (w : World) :
    (Instr.makeSlice 266 (.int .i64 (n : Int)) (.int .i64 (n : Int))).run Tryz.prog w = .ok (.slice (some ⟨w.heap.size, 0, none⟩) n n) (w.alloc (.cells (madeCells #[.int .i64 0, .int .i64 0, .int .i64 0, .int .i64 0] (n * 4)) 265)) := by
  obtain ⟨i0, hi, hz0, hz1, hz2⟩ := info_parts infoC
  have := run_make (P := Tryz.prog) w 266 265 i0 _ Tryz.underlying266 hi hz0 .i64 .i64 n n (by omega) (Int.le_refl _) (by rw [hz2]; omega) (by omega)
  rw [hz1] at this
  simpa [Value.cells] using this
theorem made_four (z : Value) (N j : Nat) (hj : j < N) : (madeCells #[z, z, z, z] N)[j]? = some z := by
  unfold madeCells
  rw [Array.getElem?_map, Array.getElem?_range]
  have h4 : j % 4 = 0 ∨ j % 4 = 1 ∨ j % 4 = 2 ∨ j % 4 = 3 := by omega
  rw [if_pos hj]
  rcases h4 with h | h | h | h <;> simp [h]
/-- a row of choices -/
def TabAt (w : World) (g n : Nat) (f : Nat → Ch) : Prop := ∃ C t, w.heap[g]? = some (.cells C t (0, 0)) ∧ C.size = n * 4 ∧
  ∀ i, i < n → C[i * 4]? = some (.int .i64 (f i).l) ∧ C[i * 4 + 1]? = some (.int .i64 (f i).c) ∧ C[i * 4 + 2]? = some (.int .i64 (f i).t) ∧ C[i * 4 + 3]? = some (.int .i64 (f i).m)
theorem TabAt.kept {w w' : World} {g n : Nat} {f : Nat → Ch} (h : TabAt w g n f) (hk : w'.heap[g]? = w.heap[g]?) : TabAt w' g n f := by
  obtain ⟨C, t, h1, h2, h3⟩ := h
  exact ⟨C, t, hk.trans h1, h2, h3⟩
theorem TabAt.lt {w : World} {g n : Nat} {f : Nat → Ch} (h : TabAt w g n f) : g < w.heap.size := by
  obtain ⟨C, t, h1, h2, h3⟩ := h
  exact blkLt h1
theorem TabAt.below {w w' : World} {g n : Nat} {f : Nat → Ch} (h : TabAt w g n f) (hb : Below w.heap.size w w') : TabAt w' g n f := h.kept (hb.block g h.lt)
theorem TabAt.like {w : World} {g n : Nat} {f f' : Nat → Ch} (h : TabAt w g n f) (e : ∀ i, i < n → f' i = f i) : TabAt w g n f' := by
  obtain ⟨C, t, h1, h2, h3⟩ := h
  exact ⟨C, t, h1, h2, fun i hi => by rw [e i hi]; exact h3 i hi⟩
theorem TabAt.cell {w : World} {g n : Nat} {f : Nat → Ch} (h : TabAt w g n f) {i : Nat} (hi : i < n) :
    w.cell? ⟨g, i * 4, none⟩ = some (.int .i64 (f i).l) ∧ w.cell? ⟨g, i * 4 + 1, none⟩ = some (.int .i64 (f i).c) ∧ w.cell? ⟨g, i * 4 + 2, none⟩ = some (.int .i64 (f i).t) ∧ w.cell? ⟨g, i * 4 + 3, none⟩ = some (.int .i64 (f i).m) ∧ (∀ j, w.frozen? ⟨g, j, none⟩ = false) := by
  obtain ⟨C, t, h1, h2, h3⟩ := h
  obtain ⟨hc, hf⟩ := heap_cellR h1
  obtain ⟨k1, k2, k3, k4⟩ := h3 i hi
  exact ⟨by rw [hc]; exact k1, by rw [hc]; exact k2, by rw [hc]; exact k3, by rw [hc]; exact k4, hf⟩
theorem TabAt.new (w : World) (n : Nat) : TabAt (w.alloc (.cells (madeCells #[.int .i64 0, .int .i64 0, .int .i64 0, .int .i64 0] (n * 4)) 265)) w.heap.size n (fun _ => chZ) := by
  refine ⟨_, _, push_at _ _, size_madeCells _ _, fun i hi => ⟨?_, ?_, ?_, ?_⟩⟩
  all_goals exact made_four _ _ _ (by omega)
/-- a choice is laid into the row -/
theorem TabAt.set {w : World} {g n : Nat} {f : Nat → Ch} (h : TabAt w g n f) {i : Nat} (_hi : i < n) (x : Ch) :
    TabAt ((((w.setCell ⟨g, i * 4, none⟩ (.int .i64 x.l)).setCell ⟨g, i * 4 + 1, none⟩ (.int .i64 x.c)).setCell ⟨g, i * 4 + 2, none⟩ (.int .i64 x.t)).setCell ⟨g, i * 4 + 3, none⟩ (.int .i64 x.m)) g n (fun j => if j = i then x else f j) := by
  obtain ⟨C, t, h1, h2, h3⟩ := h
  refine ⟨_, t, setCell_blk (setCell_blk (setCell_blk (setCell_blk h1 _ _) _ _) _ _) _ _, by simp [h2], fun j hj => ?_⟩
  dsimp only
  by_cases e : j = i
  · subst e
    rw [if_pos rfl]
    refine ⟨?_, ?_, ?_, ?_⟩
    · rw [Array.getElem?_setIfInBounds_ne (by omega), Array.getElem?_setIfInBounds_ne (by omega), Array.getElem?_setIfInBounds_ne (by omega), Array.getElem?_setIfInBounds_self_of_lt (by omega)]
    · rw [Array.getElem?_setIfInBounds_ne (by omega), Array.getElem?_setIfInBounds_ne (by omega), Array.getElem?_setIfInBounds_self_of_lt (by simp; omega)]
    · rw [Array.getElem?_setIfInBounds_ne (by omega), Array.getElem?_setIfInBounds_self_of_lt (by simp; omega)]
    · rw [Array.getElem?_setIfInBounds_self_of_lt (by simp; omega)]
  · rw [if_neg e]
    obtain ⟨k1, k2, k3, k4⟩ := h3 j hj
    refine ⟨?_, ?_, ?_, ?_⟩
    all_goals
      rw [Array.getElem?_setIfInBounds_ne (by omega), Array.getElem?_setIfInBounds_ne (by omega), Array.getElem?_setIfInBounds_ne (by omega), Array.getElem?_setIfInBounds_ne (by omega)]
      assumption
theorem four_grown (w : World) (g a b c d : Nat) (x y z u : Value) : w.grownBy ((((w.setCell ⟨g, a, none⟩ x).setCell ⟨g, b, none⟩ y).setCell ⟨g, c, none⟩ z).setCell ⟨g, d, none⟩ u) (some g) :=
  grownBy_trans (grownBy_trans (grownBy_trans (grownBy_set _ _ _ _) (grownBy_set _ _ _ _)) (grownBy_set _ _ _ _)) (grownBy_set _ _ _ _)
/-- one choice in a box -/
def BxC (w : World) (g : Nat) (x : Ch) : Prop := TabAt w g 1 (fun _ => x)
theorem BxC.new (w : World) (x : Ch) (t : TypeId) : BxC (w.alloc (.cells #[.int .i64 x.l, .int .i64 x.c, .int .i64 x.t, .int .i64 x.m] t)) w.heap.size x :=
  ⟨_, _, push_at _ _, rfl, fun i hi => by obtain rfl : i = 0 := by omega
                                          exact ⟨rfl, rfl, rfl, rfl⟩⟩
theorem BxC.cells {w : World} {g : Nat} {x : Ch} (h : BxC w g x) : w.cell? ⟨g, 0, none⟩ = some (.int .i64 x.l) ∧ w.cell? ⟨g, 1, none⟩ = some (.int .i64 x.c) ∧ w.cell? ⟨g, 2, none⟩ = some (.int .i64 x.t) ∧ w.cell? ⟨g, 3, none⟩ = some (.int .i64 x.m) ∧ (∀ j, w.frozen? ⟨g, j, none⟩ = false) := by
  have := TabAt.cell h (i := 0) (by omega)
  simpa using this
theorem BxC.set {w : World} {g : Nat} {x : Ch} (h : BxC w g x) (y : Ch) : BxC ((((w.setCell ⟨g, 0, none⟩ (.int .i64 y.l)).setCell ⟨g, 1, none⟩ (.int .i64 y.c)).setCell ⟨g, 2, none⟩ (.int .i64 y.t)).setCell ⟨g, 3, none⟩ (.int .i64 y.m)) g y := by
  have := TabAt.set h (i := 0) (by omega) y
  simp only [Nat.zero_mul, Nat.zero_add] at this
  exact this.like (fun i hi => by obtain rfl : i = 0 := by omega
                                  rfl)

end Go.Proofs.YtlcglclojlffgaaGreatDoor
namespace Go.Proofs.YtlcglclojlffgaaGreatDoor
open Go.RowKit

theorem infoSl : (Tryz.prog.info? 67).map (fun i => (i.zero, i.size, i.bytes)) = some (some (.slice none 0 0), 1, 24) := by kernel_rfl
/-- a word in a cell of the row g -/
def WdV (g : Nat) (wd : List Nat) (v : Value) (W : World) : Prop := ∃ a c, v = .slice a wd.length c ∧ IntsAt W a (natI wd) ∧ ∀ ad, a = some ad → ad.block ≠ g
/-- a row of words: the first k are laid -/
def WsAt (W : World) (g n k : Nat) (wd : Nat → List Nat) : Prop := ∃ C t, W.heap[g]? = some (.cells C t (0, 0)) ∧ C.size = n ∧ ∀ i, i < k → ∃ v, C[i]? = some v ∧ WdV g (wd i) v W
theorem WdV.below {g : Nat} {wd : List Nat} {v : Value} {W W' : World} (h : WdV g wd v W) (hb : Below W.heap.size W W') : WdV g wd v W' := by
  obtain ⟨a, c, e, hi, hne⟩ := h
  exact ⟨a, c, e, hi.below hb, hne⟩
theorem WsAt.below {W W' : World} {g n k : Nat} {wd : Nat → List Nat} (h : WsAt W g n k wd) (hb : Below W.heap.size W W') : WsAt W' g n k wd := by
  obtain ⟨C, t, h1, h2, h3⟩ := h
  exact ⟨C, t, blkK hb h1, h2, fun i hi => by obtain ⟨v, e, hv⟩ := h3 i hi; exact ⟨v, e, hv.below hb⟩⟩
theorem WsAt.new (w : World) (n : Nat) (wd : Nat → List Nat) : WsAt (w.alloc (.cells (madeCells #[.slice none 0 0] n) 67)) w.heap.size n 0 wd :=
  ⟨_, _, push_at _ _, size_madeCells _ _, fun i hi => absurd hi (by omega)⟩
theorem WsAt.lt {W : World} {g n k : Nat} {wd : Nat → List Nat} (h : WsAt W g n k wd) : g < W.heap.size := by
  obtain ⟨C, t, h1, h2, h3⟩ := h
  exact blkLt h1
theorem WdV.store {g : Nat} {wd : List Nat} {v u : Value} {W : World} {i : Nat} (h : WdV g wd v W) : WdV g wd v (W.setCell ⟨g, i, none⟩ u) := by
  obtain ⟨a, c, e, hi, hne⟩ := h
  refine ⟨a, c, e, fun j hj => ?_, hne⟩
  obtain ⟨b, o, ha, hc⟩ := hi j hj
  refine ⟨b, o, ha, ?_⟩
  rw [World.cell?_setCell_other _ _ _ _ (by have := hne _ ha; intro e; rw [Addr.mk.injEq] at e; exact this e.1.symm)]
  exact hc
theorem WsAt.store {W : World} {g n k : Nat} {wd : Nat → List Nat} {v : Value} (h : WsAt W g n k wd) (hk : k < n) (hv : WdV g (wd k) v W) : WsAt (W.setCell ⟨g, k, none⟩ v) g n (k + 1) wd := by
  obtain ⟨C, t, h1, h2, h3⟩ := h
  refine ⟨_, t, setCell_blk h1 _ _, by simp [h2], fun i hi => ?_⟩
  by_cases e : i = k
  · subst e
    exact ⟨v, by rw [Array.getElem?_setIfInBounds_self_of_lt (by omega)], hv.store⟩
  · obtain ⟨v', e', hv'⟩ := h3 i (by omega)
    exact ⟨v', by rw [Array.getElem?_setIfInBounds_ne (by omega)]; exact e', hv'.store⟩
/-- a place of the row is there -/
theorem WsAt.place {W : World} {g n k : Nat} {wd : Nat → List Nat} (h : WsAt W g n k wd) {i : Nat} (hi : i < n) : ∃ v, W.cell? ⟨g, i, none⟩ = some v ∧ W.frozen? ⟨g, i, none⟩ = false := by
  obtain ⟨C, t, h1, h2, h3⟩ := h
  obtain ⟨hc, hf⟩ := heap_cellR h1
  exact ⟨C[i]'(by omega), by rw [hc]; exact Array.getElem?_eq_getElem (by omega), hf i⟩
theorem IntsAt.grownBy {W W' : World} {a : Option Addr} {zs : List Int} {row : Option Nat} (h : IntsAt W a zs) (hg : W.grownBy W' row) (hr : ∀ r, row = some r → ∃ o : Obj, W.heap[r]? = some o ∧ o.isCells = false) : IntsAt W' a zs := by
  intro i hi
  obtain ⟨b, o, ha, hc⟩ := h i hi
  exact ⟨b, o, ha, cell_kept hc hg hr⟩
theorem blk_grownBy {W W' : World} {row : Option Nat} {b : Nat} {C : Array Value} {t : TypeId} {fz : Nat × Nat} (h : W.heap[b]? = some (.cells C t fz)) (hg : W.grownBy W' row) (hr : ∀ r, row = some r → ∃ o : Obj, W.heap[r]? = some o ∧ o.isCells = false) : W'.heap[b]? = some (.cells C t fz) := by
  refine (hg.block b (blkLt h) fun e => ?_).trans h
  obtain ⟨o, h1, h2⟩ := hr b e.symm
  rw [h] at h1
  cases h1
  cases h2
theorem WsAt.grownBy {W W' : World} {g n k : Nat} {wd : Nat → List Nat} {row : Option Nat} (h : WsAt W g n k wd) (hg : W.grownBy W' row) (hr : ∀ r, row = some r → ∃ o : Obj, W.heap[r]? = some o ∧ o.isCells = false) : WsAt W' g n k wd := by
  obtain ⟨C, t, h1, h2, h3⟩ := h
  refine ⟨C, t, blk_grownBy h1 hg hr, h2, fun i hi => ?_⟩
  obtain ⟨v, e, a, c, e2, hI, hne⟩ := h3 i hi
  exact ⟨v, e, a, c, e2, hI.grownBy hg hr, hne⟩
theorem OwnI.grownBy {W W' : World} {base : Nat} {v : Value} {zs : List Int} {row : Option Nat} (h : OwnI W base v zs) (hg : W.grownBy W' row) (hr : ∀ r, row = some r → ∃ o : Obj, W.heap[r]? = some o ∧ o.isCells = false) : OwnI W' base v zs := by
  refine h.other hg fun k hk e => ?_
  obtain ⟨o, h1, h2⟩ := hr k e
  rcases h.2 with ⟨rfl, _⟩ | ⟨g, cap, cur, rfl, _, hgc, _⟩
  · cases hk
  · cases hk
    rw [hgc] at h1
    cases h1
    cases h2
end Go.Proofs.YtlcglclojlffgaaGreatDoor
namespace Go.Proofs.YtlcglclojlffgaaGreatDoor
open Go.RowKit

/-- a block and an element, in a slice of two -/
def PrAt (W : World) (x : Nat × Nat) (v : Value) : Prop := ∃ b, v = .slice (some ⟨b, 0, none⟩) 2 2 ∧ W.heap[b]? = some (.cells #[.int .i64 (x.1 : Int), .int .i64 (x.2 : Int)] 2 (0, 0))
/-- rows of pairs of the call's own -/
def PrsOwn (W : World) (base : Nat) (v : Value) (ps : List (Nat × Nat)) : Prop := ∃ vs : List Value, vs.length = ps.length ∧ W.ownsRow base 67 1 v ps.length vs ∧ ∀ (i : Nat) (x : Nat × Nat), ps[i]? = some x → ∃ u, vs[i]? = some u ∧ PrAt W x u
theorem PrAt.below {W W' : World} {x : Nat × Nat} {v : Value} (h : PrAt W x v) (hb : Below W.heap.size W W') : PrAt W' x v := by
  obtain ⟨b, e, hg⟩ := h
  exact ⟨b, e, blkK hb hg⟩
theorem owns_type {W : World} {base : Nat} {t : TypeId} {k n : Nat} {v : Value} {vs : List Value} (h : W.ownsRow base t k v n vs) {b : Nat} {C : Array Value} {t' : TypeId} {fz : Nat × Nat} (hg : W.heap[b]? = some (.cells C t' fz)) (ht : t' ≠ t) : v.ownBlock ≠ some b := by
  rcases h.2 with ⟨rfl, h0⟩ | ⟨g, cap, cur, rfl, hb, hg2, r⟩
  · intro e; cases e
  · intro e
    obtain rfl := Option.some.inj e
    rw [hg] at hg2
    injection hg2 with hc
    injection hc with _ hc
    exact ht hc
theorem PrAt.grownBy {W W' : World} {base : Nat} {t : TypeId} {k n : Nat} {s v : Value} {vs : List Value} {x : Nat × Nat} (h : PrAt W x v) (ho : W.ownsRow base t k s n vs) (hg : W.grownBy W' s.ownBlock) (ht : 2 ≠ t) : PrAt W' x v := by
  obtain ⟨b, e, hb⟩ := h
  exact ⟨b, e, (hg.block b (blkLt hb) (fun e' => owns_type ho hb ht e'.symm)).trans hb⟩
theorem PrsOwn.grown {W W' : World} {base : Nat} {v : Value} {ps : List (Nat × Nat)} (h : PrsOwn W base v ps) (hb : Below W.heap.size W W') : PrsOwn W' base v ps := by
  obtain ⟨vs, h1, h2, h3⟩ := h
  exact ⟨vs, h1, h2.kept (row := none) ⟨hb.os, hb.tape, hb.output, hb.size, fun k hk _ => hb.block k hk⟩ (by
    cases hv : v.ownBlock with
    | none => exact Or.inl rfl
    | some k => exact Or.inr (fun e => by cases e)), fun i x hx => by
    obtain ⟨u, hu, hp⟩ := h3 i x hx
    exact ⟨u, hu, hp.below hb⟩⟩
theorem PrsOwn.weak {W : World} {base base' : Nat} {v : Value} {ps : List (Nat × Nat)} (h : PrsOwn W base v ps) (hb : base' ≤ base) : PrsOwn W base' v ps := by
  obtain ⟨vs, h1, ⟨h2, h4⟩, h3⟩ := h
  refine ⟨vs, h1, ⟨h2, ?_⟩, h3⟩
  rcases h4 with h4 | ⟨g, cap, cur, e1, hb', r⟩
  · exact Or.inl h4
  · exact Or.inr ⟨g, cap, cur, e1, by omega, r⟩
theorem PrsOwn.new {w : World} {base g : Nat} (hB : base ≤ w.heap.size) (hg : g = w.heap.size) : PrsOwn (w.alloc (.cells #[] 67 (0, 0))) base (.slice (some ⟨g, 0, none⟩) 0 0) [] := by
  subst hg
  exact ⟨[], rfl, World.ownsRow_lit (base := base) (size := 1) w #[] 0 hB (by unfold maxLen; omega) rfl, fun i x hx => by simp at hx⟩
theorem PrsOwn.read {W : World} {base : Nat} {v : Value} {ps : List (Nat × Nat)} (h : PrsOwn W base v ps) : ∃ a c, v = .slice a ps.length c := by
  obtain ⟨vs, h1, h2, h3⟩ := h
  rcases h2.2 with ⟨rfl, h0⟩ | ⟨g, cap, cur, rfl, _⟩
  · exact ⟨none, 0, by rw [h0]⟩
  · exact ⟨_, _, rfl⟩
/-- a pair is read out of the row -/
theorem PrsOwn.at {W : World} {base : Nat} {a : Option Addr} {n c : Nat} {ps : List (Nat × Nat)} (h : PrsOwn W base (.slice a n c) ps) {i : Nat} {x : Nat × Nat} (hx : ps[i]? = some x) :
    ∃ g b, a = some ⟨g, 0, none⟩ ∧ W.cell? ⟨g, i, none⟩ = some (.slice (some ⟨b, 0, none⟩) 2 2) ∧ W.heap[b]? = some (.cells #[.int .i64 (x.1 : Int), .int .i64 (x.2 : Int)] 2 (0, 0)) ∧ g < W.heap.size := by
  obtain ⟨vs, h1, h2, h3⟩ := h
  obtain ⟨u, hu, b, rfl, hg⟩ := h3 i x hx
  have hi : i < ps.length := (List.getElem?_eq_some_iff.1 hx).1
  rcases h2.2 with ⟨e1, h0⟩ | ⟨g, cap, cur, e1, hb, hgc, q1, q2, q3, q4⟩
  · omega
  · simp only [Value.slice.injEq] at e1
    obtain ⟨rfl, rfl, rfl⟩ := e1
    have hc := World.ownsRow.cellAt h2 i (by omega)
    exact ⟨g, b, rfl, hc.trans hu, hg, blkLt hgc⟩
end Go.Proofs.YtlcglclojlffgaaGreatDoor
namespace Go.Proofs.YtlcglclojlffgaaGreatDoor
open Go.RowKit

/-- rows of lists of the call's own -/
def RwsOwn (W : World) (base : Nat) (v : Value) (ws : List (List Int)) : Prop := ∃ vs : List Value, vs.length = ws.length ∧ W.ownsRow base 67 1 v ws.length vs ∧ ∀ (i : Nat) (x : List Int), ws[i]? = some x → ∃ u, vs[i]? = some u ∧ OwnI W 0 u x
theorem OwnI.grownRow {W W' : World} {base b0 : Nat} {t : TypeId} {k n : Nat} {s u : Value} {vs : List Value} {x : List Int} (h : OwnI W b0 u x) (ho : W.ownsRow base t k s n vs) (hg : W.grownBy W' s.ownBlock) (ht : 2 ≠ t) : OwnI W' b0 u x := by
  refine h.other hg fun k hk e => ?_
  rcases h.2 with ⟨rfl, _⟩ | ⟨g, cap, cur, rfl, _, hgc, _⟩
  · cases hk
  · cases hk
    exact owns_type ho hgc ht e
theorem RwsOwn.grown {W W' : World} {base : Nat} {v : Value} {ws : List (List Int)} (h : RwsOwn W base v ws) (hb : Below W.heap.size W W') : RwsOwn W' base v ws := by
  obtain ⟨vs, h1, h2, h3⟩ := h
  exact ⟨vs, h1, h2.kept (row := none) ⟨hb.os, hb.tape, hb.output, hb.size, fun k hk _ => hb.block k hk⟩ (by
    cases hv : v.ownBlock with
    | none => exact Or.inl rfl
    | some k => exact Or.inr (fun e => by cases e)), fun i x hx => by
    obtain ⟨u, hu, hp⟩ := h3 i x hx
    exact ⟨u, hu, hp.grown hb⟩⟩
theorem RwsOwn.new {w : World} {base g : Nat} (hB : base ≤ w.heap.size) (hg : g = w.heap.size) : RwsOwn (w.alloc (.cells #[] 67 (0, 0))) base (.slice (some ⟨g, 0, none⟩) 0 0) [] := by
  subst hg
  exact ⟨[], rfl, World.ownsRow_lit (base := base) (size := 1) w #[] 0 hB (by unfold maxLen; omega) rfl, fun i x hx => by simp at hx⟩
theorem RwsOwn.read {W : World} {base : Nat} {v : Value} {ws : List (List Int)} (h : RwsOwn W base v ws) : ∃ a c, v = .slice a ws.length c := by
  obtain ⟨vs, h1, h2, h3⟩ := h
  rcases h2.2 with ⟨rfl, h0⟩ | ⟨g, cap, cur, rfl, _⟩
  · exact ⟨none, 0, by rw [h0]⟩
  · exact ⟨_, _, rfl⟩
/-- a list is read out of the row -/
theorem RwsOwn.at {W : World} {base : Nat} {a : Option Addr} {n c : Nat} {ws : List (List Int)} (h : RwsOwn W base (.slice a n c) ws) {i : Nat} {x : List Int} (hx : ws[i]? = some x) :
    ∃ g a' c', a = some ⟨g, 0, none⟩ ∧ W.cell? ⟨g, i, none⟩ = some (.slice a' x.length c') ∧ IntsAt W a' x ∧ g < W.heap.size := by
  obtain ⟨vs, h1, h2, h3⟩ := h
  obtain ⟨u, hu, ho⟩ := h3 i x hx
  have hi : i < ws.length := (List.getElem?_eq_some_iff.1 hx).1
  obtain ⟨a', c', rfl, hI⟩ := ho.read
  rcases h2.2 with ⟨e1, h0⟩ | ⟨g, cap, cur, e1, hb, hgc, q1, q2, q3, q4⟩
  · omega
  · simp only [Value.slice.injEq] at e1
    obtain ⟨rfl, rfl, rfl⟩ := e1
    have hc := World.ownsRow.cellAt h2 i (by omega)
    exact ⟨g, a', c', rfl, hc.trans hu, hI, blkLt hgc⟩
theorem wpList_append_rw {ops : Array Oper} {rest : List Oper} {o : Oper} {a : Act} {Q : Exit → Act → World → Prop} {W : World} (hgd : o.guard = none) (s x : Operand)
    (ho : o.op = .call { callee := .builtin .append, args := #[s, x], argTypes := #[38, 38] })
    (base : Nat) (v : Value) (ws : List (List Int)) (y : List Int) (hs : a.eval s = v) (hown : RwsOwn W base v ws) (g : Nat) (u : Value) (hx : a.eval x = .slice (some ⟨g, 0, none⟩) 1 1)
    (hg : W.heap[g]? = some (.cells #[u] 67 (0, 0))) (hu : OwnI W 0 u y) (hl : ws.length ≤ 1000000000) (hb : base ≤ W.heap.size)
    (h : ∀ a' c' ws' w', ws' = ws ++ [y] → RwsOwn w' base (.slice a' ws'.length c') ws' → Below base W w' → wpList Tryz.prog ops Q rest (a.put o.dst (.slice a' ws'.length c')) w') : wpList Tryz.prog ops Q (o :: rest) a W := by
  obtain ⟨i0, hi, y0, y1, y2⟩ := info_parts infoSl
  obtain ⟨vs, h1, h2, h3⟩ := hown
  obtain ⟨au, cu, rfl, -⟩ := hu.read
  refine wpList_append_own _ hgd s x 38 ho base 67 i0 _ 1 24 Tryz.underlying38 hi y0 y1 y2 rfl (by decide) v ws.length vs hs h2 ⟨g, 0, none⟩ 1 1 [.slice au y.length cu] hx rfl ?_ ?_ (by unfold maxLen; omega) (by omega) hb
    (fun v' w' k1 k2 _ => ?_)
  · intro j u hu
    rw [Addr.add_lit, Nat.zero_add, (heap_cellR hg).1, ← hu]
    simp
  · intro u hu
    simp only [List.mem_singleton] at hu
    subst hu; rfl
  · have ho' : RwsOwn w' base v' (ws ++ [y]) := by
      refine ⟨vs ++ [.slice au y.length cu], by simp [h1], by rw [List.length_append]; exact k1, fun i z hz => ?_⟩
      by_cases hi : i < ws.length
      · rw [List.getElem?_append_left hi] at hz
        obtain ⟨u, hu, hp⟩ := h3 i z hz
        exact ⟨u, by rw [List.getElem?_append_left (by omega)]; exact hu, hp.grownRow h2 k2 (by decide)⟩
      · rw [List.getElem?_append_right (by omega)] at hz
        have hi0 : i - ws.length = 0 := by
          have := (List.getElem?_eq_some_iff.1 hz).1
          simp at this; omega
        rw [hi0] at hz
        simp at hz
        subst hz
        refine ⟨_, by rw [List.getElem?_append_right (by omega), h1, hi0]; rfl, hu.grownRow h2 k2 (by decide)⟩
    obtain ⟨a', c', e⟩ := ho'.read
    rw [e] at ho' ⊢
    exact h a' c' _ w' rfl ho' (below_of_grownBy k2 hb (fun k hk => (World.ownsRow.lt h2 k hk).1))
/-- a list of the call's own, or an empty one without room -/
def OwnE (W : World) (base : Nat) (v : Value) (l : List Int) : Prop := OwnI W base v l ∨ (l = [] ∧ ∃ b, v = .slice (some ⟨b, 0, none⟩) 0 0)
theorem OwnE.grown {W W' : World} {base : Nat} {v : Value} {l : List Int} (h : OwnE W base v l) (hb : Below W.heap.size W W') : OwnE W' base v l := h.imp (fun h => h.grown hb) id
end Go.Proofs.YtlcglclojlffgaaGreatDoor
namespace Go.Proofs.YtlcglclojlffgaaGreatDoor
open Go.RowKit

theorem spSet_any (m : Nat) (h1 : 1 ≤ m) (h3 : m ≤ 3) (w : World) :
    Calls Tryz.prog 77 #[.int .i64 (m : Int)] w fun e w' => e = .returned (.string (charS m)) ∧ w = w' := by
  obtain rfl | rfl | rfl : m = 1 ∨ m = 2 ∨ m = 3 := by omega
  all_goals
    go_enter Tryz.func77, Tryz.ntmps77
    go_wp2_with fail
    go_ret
    exact ⟨rfl, rfl⟩
set_option maxHeartbeats 1000000 in
theorem spChar_any (m : Nat) (h1 : 1 ≤ m) (h4 : m ≤ 4) (x : Int) (x0 : 0 ≤ x) (x1 : x ≤ 255) (w : World) :
    Calls Tryz.prog 134 #[.int .i64 (m : Int), .int .i64 x] w fun e w' => e = .returned (.int .i64 (valC m x)) ∧ Below w.heap.size w w' := by
  have HI1 := Lib.hid (fun w => spIn_below (w := w) (show inB x 0 255 = true from inB_iff.2 ⟨x0, x1⟩))
  have HI2 := Lib.hid (fun w => spIn_below (w := w) (show inB (m : Int) 1 4 = true from inB_iff.2 (by omega)))
  go_enter Tryz.func134, Tryz.ntmps134
  go_wp2_with fail
  refine (HI1.out _).mono ?_
  rintro e w1 ⟨rfl, hb1⟩
  have HB1 := Lib.hid hb1
  clear hb1
  go_wp2_with fail
  refine (HI2.out _).mono ?_
  rintro e w2 ⟨rfl, hb2⟩
  have HB2 := Lib.hid (bt0 HB1.out hb2 (Nat.le_refl _))
  clear hb2
  by_cases hm : m = 4
  · subst hm
    have HV := Lib.hid (show valC 4 x = x by simp [valC])
    go_wp2_with fail
    go_ret
    exact ⟨ret_int HV.out.symm, HB2.out⟩
  · have hmi : ((m : Int) == 4) = false := by rw [beq_eq_false_iff_ne]; omega
    have HV := Lib.hid (show valC m x = idxC (chars m) x 0 by unfold valC; rw [if_neg hm])
    have hl := chars_le m
    go_wp2_with fail
    refine (spSet_any m h1 (by omega) w2).mono ?_
    rintro e w3 ⟨rfl, rfl⟩
    have hsz := charS_size m
    obtain ⟨S, hS⟩ : ∃ S, S = charS m := ⟨_, rfl⟩
    rw [← hS] at hsz ⊢
    have HS := Lib.hid hS
    have hSl : S.size ≤ 45 := by omega
    have HSZ := Lib.hid hsz
    clear hS hsz
    go_wp2_with fail
    go_loop [6] (fun i => ∃ k : Nat, k ≤ S.size ∧ i = .int .i64 k ∧ ∀ i c, i < k → (chars m)[i]? = some c → (c.toNat : Int) ≠ x) (fun i => S.size - (intOf i).toNat)
    case atStart => exact ⟨0, Nat.zero_le _, rfl, fun i c h => by omega⟩
    case round =>
      obtain ⟨k, hk, rfl, hall⟩ := hrel
      have HA := Lib.hid hall
      clear hall
      by_cases hlt : k < S.size
      · have hki : (k : Int) < (S.size : Int) := by omega
        obtain ⟨z, hz⟩ : ∃ z : Nat, S[k].toNat = z := ⟨_, rfl⟩
        have hz2 : z < 256 := by rw [← hz]; exact UInt8.toNat_lt _
        have HC := Lib.hid (show ∃ c, (chars m)[k]? = some c ∧ (c.toNat : Int) = z by
          have e := HS.out
          subst e
          have hk2 : k < (chars m).length := by rw [← charS_size]; exact hlt
          refine ⟨(chars m)[k], List.getElem?_eq_getElem hk2, ?_⟩
          rw [← hz]; rfl)
        by_cases hx : (z : Int) = x
        · have hx' : ((z : Int) == x) = true := by rw [beq_iff_eq]; exact hx
          have HX := Lib.hid hx
          clear hx
          go_wp2_with fail
          go_ret
          refine ⟨ret_int ?_, HB2.out⟩
          obtain ⟨c, hc, hcz⟩ := HC.out
          rw [HV.out, idxC_at _ x 0 k HA.out ⟨c, hc, by rw [hcz, HX.out]⟩]; omega
        · have hx' : ((z : Int) == x) = false := by rw [beq_eq_false_iff_ne]; exact hx
          have HX := Lib.hid hx
          clear hx
          go_wp2_with fail
          refine ⟨⟨k + 1, by omega, by go_num, fun i c hi he => ?_⟩, by simp [intOf]; omega⟩
          by_cases hik : i = k
          · subst hik
            obtain ⟨c', hc, hcz⟩ := HC.out
            rw [hc] at he
            cases he
            rw [hcz]; exact HX.out
          · exact HA.out i c (by omega) he
      · have hki : ¬ (k : Int) < (S.size : Int) := by omega
        go_wp2_with fail
        go_ret
        refine ⟨ret_int ?_, HB2.out⟩
        rw [HV.out, idxC_none]
        intro c hc
        obtain ⟨i, hi, rfl⟩ := List.mem_iff_getElem.1 hc
        exact HA.out i _ (by have := HSZ.out; omega) (List.getElem?_eq_getElem hi)
/-- the bytes of a group and the base of a mode -/
theorem spGroup_any (m : Nat) (h1 : 1 ≤ m) (h4 : m ≤ 4) (w : World) :
    Calls Tryz.prog 141 #[.int .i64 (m : Int)] w fun e w' => e = .returned (.tuple #[.int .i64 (grpM m : Nat), .int .i64 (if m = 3 then 256 else (baseM m : Nat))]) ∧ w = w' := by
  obtain rfl | rfl | rfl | rfl : m = 1 ∨ m = 2 ∨ m = 3 ∨ m = 4 := by omega
  all_goals
    go_enter Tryz.func141, Tryz.ntmps141
    go_wp2_with fail
    go_ret2
    exact ⟨rfl, rfl⟩
/-- the bits of a group -/
theorem spWid_any (m n : Nat) (h1 : 1 ≤ m) (h4 : m ≤ 4) (hn : 1 ≤ n) (hg : n ≤ grpM m) (w : World) :
    Calls Tryz.prog 142 #[.int .i64 (m : Int), .int .i64 (n : Int)] w fun e w' => e = .returned (.int .i64 (widM m n : Nat)) ∧ Below w.heap.size w w' := by
  obtain rfl | rfl | rfl | rfl : m = 1 ∨ m = 2 ∨ m = 3 ∨ m = 4 := by omega
  · obtain rfl | rfl | rfl : n = 1 ∨ n = 2 ∨ n = 3 := by have : grpM 1 = 3 := rfl; omega
    all_goals
      go_enter Tryz.func142, Tryz.ntmps142
      go_wp2_with fail
      go_ret
      exact ⟨rfl, ba1 _ _⟩
  · obtain rfl | rfl : n = 1 ∨ n = 2 := by have : grpM 2 = 2 := rfl; omega
    all_goals
      go_enter Tryz.func142, Tryz.ntmps142
      go_wp2_with fail
      go_ret
      exact ⟨rfl, ba1 _ _⟩
  all_goals
    go_enter Tryz.func142, Tryz.ntmps142
    go_wp2_with fail
    go_ret
    exact ⟨rfl, Below.refl _ _⟩

end Go.Proofs.YtlcglclojlffgaaGreatDoor
namespace Go.Proofs.YtlcglclojlffgaaGreatDoor

/-- the built-in families -/
def libF : List Fam :=
  [⟨⟨#[116, 105, 108, 101]⟩, 1, 2, 4, 19, [17, 21, 25], 0, [20, 40]⟩,
   ⟨⟨#[112, 97, 110, 101, 108]⟩, 1, 2, 6, 67, [17, 21, 25, 29, 33], 0, [15, 30, 60]⟩,
   ⟨⟨#[112, 108, 97, 116, 101]⟩, 1, 2, 8, 285, [17, 21, 25, 29, 33, 37, 41], 0, [10, 20, 30, 50]⟩,
   ⟨⟨#[115, 116, 97, 99, 107]⟩, 2, 2, 5, 37, [4, 6, 8, 12, 16, 24], 4, [25, 50]⟩,
   ⟨⟨#[114, 105, 98, 98, 111, 110]⟩, 2, 2, 5, 37, [3, 4, 5], 8, [30]⟩]
/-- the family with a name -/
def famN (nm : ByteArray) : Option Fam := libF.find? fun f => decide (f.name = nm)
/-- the elements that a message needs, if it has a payload at all -/
def needS (k : Nat) (S : List UInt8) : Int := if 1 ≤ ((hdC S).l + k - 1) / k then ((hdC S).l + k - 1) / k else 1
def payS (k : Nat) (S : List UInt8) : Option Int := if S.length ≤ 400 ∧ needS k S ≤ 1500 then some (needS k S) else none
/-- the smallest size of a symbol with a message -/
def smS (f : Fam) (lev : Int) (S : List UInt8) : Option Int :=
  if 0 ≤ lev ∧ lev < f.levels.length then
    match payS f.fk.toNat S with
    | some need => f.sizes.find? fun n => (f.lay n lev).ok ((2 ^ f.fk.toNat : Nat) : Int) && decide (need ≤ (f.lay n lev).data)
    | none => none
  else none
/-- an item of a label -/
structure It where
  kind : Int
  row : Int
  col : Int
  scale : Int
  tall : Int
  wide : Int
  name : ByteArray
  level : Int
  text : ByteArray
/-- a byte has a glyph -/
def glyB (b : Int) : Bool := decide (b = 32) || (decide (48 ≤ b) && decide (b ≤ 57)) || (decide (65 ≤ b) && decide (b ≤ 90))
def colsF (f : Fam) (n : Int) : Int := if f.kind = 1 then n else 15 + 11 * (f.cols + 2)
def scaledI (x : It) : Bool := decide (1 ≤ x.scale) && decide (x.scale ≤ 8) && decide (x.tall = 0) && decide (x.wide = 0)
def plainI (x : It) : Bool := decide (x.name = ⟨#[]⟩) && decide (x.level = 0)
/-- the rows and columns of the box of an item -/
def boxI (x : It) : Option (Int × Int) :=
  if x.kind = 1 then
    if plainI x = true ∧ scaledI x = true ∧ 1 ≤ x.text.size ∧ x.text.size ≤ 40 ∧ (x.text.data.toList.all fun b => glyB b.toNat) = true then some (5 * x.scale, (4 * x.text.size - 1) * x.scale) else none
  else if x.kind = 2 then
    if plainI x = true ∧ x.scale = 0 ∧ x.text = ⟨#[]⟩ ∧ (1 ≤ x.tall ∧ x.tall ≤ 400) ∧ 1 ≤ x.wide ∧ x.wide ≤ 400 then some (x.tall, x.wide) else none
  else if x.kind = 3 then
    if scaledI x = true ∧ (x.text.data.toList.contains 10) = false then
      match famN x.name with
      | some f => (smS f x.level x.text.data.toList).map fun n => (n * x.scale, colsF f n * x.scale)
      | none => none
    else none
  else none
structure Lb where
  rows : Int
  cols : Int
  items : List It
/-- an item lies on a label -/
def onL (l : Lb) (x : It) : Bool :=
  match boxI x with
  | some (r, c) => decide (r ≤ l.rows) && decide (c ≤ l.cols) && decide (0 ≤ x.row) && decide (x.row ≤ l.rows - r) && decide (0 ≤ x.col) && decide (x.col ≤ l.cols - c)
  | none => false
def Lb.ok (l : Lb) : Bool := decide (1 ≤ l.rows) && decide (l.rows ≤ 400) && decide (1 ≤ l.cols) && decide (l.cols ≤ 400) && decide (l.rows * l.cols ≤ 40000) && decide (l.items.length ≤ 12) && l.items.all (onL l)

end Go.Proofs.YtlcglclojlffgaaGreatDoor
namespace Go.Proofs.YtlcglclojlffgaaGreatDoor
open Go.RowKit

/-- five numbers as a value -/
abbrev ar5 (x0 x1 x2 x3 x4 : Int) : Value := .agg #[.int .i64 x0, .int .i64 x1, .int .i64 x2, .int .i64 x3, .int .i64 x4]
/-- the rows of a glyph and whether there is one are handed back -/
def RetGl (b : Int) (w : World) (e : Ending) (w' : World) : Prop := (∃ x0 x1 x2 x3 x4 : Int, e = .returned (.tuple #[ar5 x0 x1 x2 x3 x4, .bool (glyB b)])) ∧ Below w.heap.size w w'
theorem glyB_eq (b : Int) : glyB b = (decide (b = 32) || inB b 48 57 || inB b 65 90) := by
  rw [glyB, Bool.eq_iff_iff]
  simp [inB]

/-- the rows while they are read -/
def GlySt (w : World) (wr : World) : Prop :=
  (∃ x0 x1 x2 x3 x4 : Int, wr.heap[w.heap.size + 1]? = some (.cells #[.int .i64 x0, .int .i64 x1, .int .i64 x2, .int .i64 x3, .int .i64 x4] 224 (0, 0))) ∧
    wr.heap[w.heap.size]? = some (.cells #[.int .i64 0, .int .i64 0, .int .i64 0, .int .i64 0, .int .i64 0] 224 (0, 0)) ∧ Below w.heap.size w wr
set_option maxRecDepth 100000 in
set_option maxHeartbeats 4000000 in
theorem glyph_any (b : Int) (w : World) :
    Calls Tryz.prog 166 #[.int .i64 b] w (RetGl b w) := by
  have HG := Lib.hid (glyB_eq b)
  obtain ⟨R, hR⟩ : ∃ R, R = glyB b := ⟨_, rfl⟩
  unfold RetGl
  rw [← hR] at HG ⊢
  clear hR
  by_cases h32 : b = 32
  · subst h32
    obtain rfl : R = true := by rw [HG.out]; rfl
    go_enter Tryz.func166, Tryz.ntmps166
    go_wp2_with fail
    refine bodyPost_ret (v := .tuple #[ar5 0 0 0 0 0, .bool true]) (by simp [results, Tryz.results166, go_sem]) rfl ⟨⟨0, 0, 0, 0, 0, rfl⟩, ?_⟩
    first
      | exact ba2 _ _ _
      | (iterate 5 (refine Below.setCell ?_ (by dsimp only; omega) _)
         exact ba2 _ _ _)
  · have h32b : (b == 32) = false := by rw [beq_eq_false_iff_ne]; exact h32
    have HE2 := heap2 w (.cells #[.int .i64 0, .int .i64 0, .int .i64 0, .int .i64 0, .int .i64 0] 224 (0, 0)) (.cells #[.int .i64 0, .int .i64 0, .int .i64 0, .int .i64 0, .int .i64 0] 224 (0, 0))
    have HH := Lib.hid HE2
    clear HE2
    rcases Bool.eq_false_or_eq_true (inB b 48 57 || inB b 65 90) with hd | hd
    · obtain rfl : R = true := by rw [HG.out, Bool.or_assoc, hd, Bool.or_true]
      go_enter Tryz.func166, Tryz.ntmps166
      rcases Bool.eq_false_or_eq_true (inB b 48 57) with h1 | h1
      rotate_left
      rcases Bool.eq_false_or_eq_true (inB b 65 90) with h2 | h2
      rotate_left
      · rw [h1, h2] at hd; cases hd
      all_goals
        have hbd : (48 ≤ b ∧ b ≤ 57) ∨ (65 ≤ b ∧ b ≤ 90) := by
          first
            | exact .inl (inB_iff.1 h1)
            | exact .inr (inB_iff.1 h2)
        clear hd
        go_wp2_with (go_at_call 71; refine (inRange_any _ _ _ _).mono ?_; (first | rw [h1] | rw [h2]); rintro e w' ⟨rfl, rfl⟩)
        generalize hS : ByteArray.mk _ = S
        first
          | (obtain ⟨A, hA, hA1, hAS⟩ : ∃ A : Nat, b - 48 = (A : Int) ∧ A ≤ 100 ∧ 5 * A + 5 ≤ S.size :=
              ⟨(b - 48).toNat, by have := inB_iff.1 h1; omega, by have := inB_iff.1 h1; omega, by have := inB_iff.1 h1; rw [← hS]; show 5 * (b - 48).toNat + 5 ≤ 50; omega⟩
             rw [hA])
          | (obtain ⟨A, hA, hA1, hAS⟩ : ∃ A : Nat, b - 65 = (A : Int) ∧ A ≤ 100 ∧ 5 * A + 5 ≤ S.size :=
              ⟨(b - 65).toNat, by have := inB_iff.1 h2; omega, by have := inB_iff.1 h2; omega, by have := inB_iff.1 h2; rw [← hS]; show 5 * (b - 65).toNat + 5 ≤ 130; omega⟩
             rw [hA])
        clear hS
        go_loopw [24] (fun i wr => ∃ j : Nat, j ≤ 5 ∧ i = .int .i64 (j : Int) ∧ GlySt w wr) (fun i _ => 5 - (intOf i).toNat)
        case atStart => exact ⟨0, by omega, rfl, ⟨_, _, _, _, _, HH.out.2⟩, HH.out.1, ba2 _ _ _⟩
        case round =>
          obtain ⟨j, hj, rfl, ⟨x0, x1, x2, x3, x4, hx⟩, h0, hbr⟩ := hrel
          have H0 := Lib.hid h0
          have HX := Lib.hid hx
          have HBR := Lib.hid hbr
          obtain ⟨hcX, hfX⟩ := heap_cellR hx
          obtain ⟨hcR, hfR⟩ := heap_cellR h0
          have hlX := blkLt hx
          have hlR := blkLt h0
          clear h0 hx hbr
          by_cases hlt : j < 5
          · have hji : (j : Int) < 5 := by omega
            obtain ⟨m, hm⟩ : ∃ m : Nat, m = 5 * A + j := ⟨_, rfl⟩
            have hmi : 5 * (A : Int) + (j : Int) = (m : Int) := by omega
            have hms : m < S.size := by omega
            clear hm
            go_wp2_with fail
            generalize (((S[m].toNat : Nat) : Int) - 48) % 256 = z
            have hs := src_set HX.out j (.int .i64 z)
            refine ⟨⟨j + 1, by omega, rfl, ?_, (heap_setCell_other _ ⟨w.heap.size + 1, j, none⟩ _ _ (by dsimp only; omega)).trans H0.out, HBR.out.setCell (by dsimp only; omega) _⟩, by simp [intOf]; omega⟩
            obtain rfl | rfl | rfl | rfl | rfl : j = 0 ∨ j = 1 ∨ j = 2 ∨ j = 3 ∨ j = 4 := by omega
            · exact ⟨z, x1, x2, x3, x4, hs⟩
            · exact ⟨x0, z, x2, x3, x4, hs⟩
            · exact ⟨x0, x1, z, x3, x4, hs⟩
            · exact ⟨x0, x1, x2, z, x4, hs⟩
            · exact ⟨x0, x1, x2, x3, z, hs⟩
          · have hji : ¬ (j : Int) < 5 := by omega
            go_wp2_with fail
            refine bodyPost_ret (v := .tuple #[ar5 x0 x1 x2 x3 x4, .bool true]) (by simp [results, Tryz.results166, go_sem, hcR]) rfl ⟨⟨x0, x1, x2, x3, x4, rfl⟩, ?_⟩
            iterate 5 (refine Below.setCell ?_ (by dsimp only; omega) _)
            exact HBR.out
    · obtain rfl : R = false := by rw [HG.out, Bool.or_assoc, hd, decide_eq_false h32]; rfl
      have h1 : inB b 48 57 = false := by revert hd; cases inB b 48 57 <;> simp
      have h2 : inB b 65 90 = false := by revert hd; cases inB b 65 90 <;> simp
      clear hd
      go_enter Tryz.func166, Tryz.ntmps166
      go_wp2_with (go_at_call 71; refine (inRange_any _ _ _ _).mono ?_; (first | rw [h1] | rw [h2]); rintro e w' ⟨rfl, rfl⟩)
      refine bodyPost_ret (v := .tuple #[ar5 0 0 0 0 0, .bool false]) (by simp [results, Tryz.results166, go_sem]) rfl ⟨⟨0, 0, 0, 0, 0, rfl⟩, ?_⟩
      first
        | exact ba2 _ _ _
        | (iterate 5 (refine Below.setCell ?_ (by dsimp only; omega) _)
           exact ba2 _ _ _)

end Go.Proofs.YtlcglclojlffgaaGreatDoor
namespace Go.Proofs.YtlcglclojlffgaaGreatDoor
open Go.RowKit

/-- an item as a value -/
abbrev itV (x : It) : Value := .agg #[.int .i64 x.kind, .int .i64 x.row, .int .i64 x.col, .int .i64 x.scale, .int .i64 x.tall, .int .i64 x.wide, .string x.name, .int .i64 x.level, .string x.text]
/-- the rows and columns of a box are handed back -/
def RetBx (w : World) (o : Option (Int × Int)) (e : Ending) (w' : World) : Prop :=
  Below w.heap.size w w' ∧ ((∃ r c, o = some (r, c) ∧ e = .returned (.tuple #[.int .i64 r, .int .i64 c, .bool true])) ∨ (o = none ∧ e = .returned (.tuple #[.int .i64 0, .int .i64 0, .bool false])))
theorem below_dn {B n : Nat} {a b : World} (h : Below B a b) : Below B a (b.drewN n) := h.trans ⟨rfl, rfl, rfl, Nat.le_refl _, fun _ _ => rfl⟩
theorem bytes_ne {nm : ByteArray} (h : nm ≠ ⟨#[]⟩) : (nm.toList == []) = false := by
  rw [beq_eq_false_iff_ne, ne_eq, ByteArray.toList_eq]
  intro e
  exact h (ByteArray.ext (Array.toList_inj.1 e))
theorem plainI_iff {x : It} : plainI x = true ↔ x.name = ⟨#[]⟩ ∧ x.level = 0 := by simp [plainI]
theorem scaledI_iff {x : It} : scaledI x = true ↔ ((1 ≤ x.scale ∧ x.scale ≤ 8) ∧ x.tall = 0) ∧ x.wide = 0 := by simp [scaledI]
theorem boxI_line {x : It} (hk : x.kind = 2) : boxI x = if plainI x = true ∧ x.scale = 0 ∧ x.text = ⟨#[]⟩ ∧ (1 ≤ x.tall ∧ x.tall ≤ 400) ∧ 1 ≤ x.wide ∧ x.wide ≤ 400 then some (x.tall, x.wide) else none := by
  rw [boxI, if_neg (by rw [hk]; decide), if_pos hk]
theorem boxI_text {x : It} (hk : x.kind = 1) : boxI x = if plainI x = true ∧ scaledI x = true ∧ 1 ≤ x.text.size ∧ x.text.size ≤ 40 ∧ (x.text.data.toList.all fun b => glyB b.toNat) = true then some (5 * x.scale, (4 * x.text.size - 1) * x.scale) else none := by
  rw [boxI, if_pos hk]

set_option maxRecDepth 100000 in
set_option maxHeartbeats 4000000 in
theorem lineBox_any (x : It) (w : World) (hk : x.kind = 2) :
    Calls Tryz.prog 167 #[itV x] w (RetBx w (boxI x)) := by
  have HN := Lib.hid (fun h => (boxI_line hk).trans (if_neg h))
  have HY := Lib.hid (fun h => (boxI_line hk).trans (if_pos h))
  obtain ⟨O, hO⟩ : ∃ O, O = boxI x := ⟨_, rfl⟩
  rw [← hO] at HN HY ⊢
  rw [plainI_iff] at HN HY
  obtain ⟨kd, row, col, sc, tall, wide, nm, lev, tx⟩ := x
  dsimp only at hk HN HY ⊢
  subst hk
  clear hO
  have HB := Lib.hid (ba1 w (.cells #[.int .i64 2, .int .i64 row, .int .i64 col, .int .i64 sc, .int .i64 tall, .int .i64 wide, .string nm, .int .i64 lev, .string tx] 112 (0, 0)))
  go_enter Tryz.func167, Tryz.ntmps167
  rcases Bool.eq_false_or_eq_true (inB tall 1 400) with h1 | h1
  rotate_left
  · have HR := Lib.hid (HN.out (fun h => by rw [inB_iff.2 (by omega)] at h1; cases h1))
    go_wp2_with (go_at_call 71; refine (inRange_any _ _ _ _).mono ?_; rw [h1]; rintro e w' ⟨rfl, rfl⟩)
    exact bodyPost_ret (v := .tuple #[.int .i64 0, .int .i64 0, .bool false]) (by simp [results, Tryz.results167, go_sem]) rfl ⟨HB.out, .inr ⟨HR.out, rfl⟩⟩
  rcases Bool.eq_false_or_eq_true (inB wide 1 400) with h2 | h2
  rotate_left
  · have HR := Lib.hid (HN.out (fun h => by rw [inB_iff.2 (by omega)] at h2; cases h2))
    go_wp2_with (go_at_call 71; refine (inRange_any _ _ _ _).mono ?_; (first | rw [h1] | rw [h2]); rintro e w' ⟨rfl, rfl⟩)
    exact bodyPost_ret (v := .tuple #[.int .i64 0, .int .i64 0, .bool false]) (by simp [results, Tryz.results167, go_sem]) rfl ⟨HB.out, .inr ⟨HR.out, rfl⟩⟩
  by_cases h3 : sc = 0
  rotate_left
  · have HR := Lib.hid (HN.out (fun h => h3 h.2.1))
    have h3b : (sc == 0) = false := by rw [beq_eq_false_iff_ne]; exact h3
    go_wp2_with (go_at_call 71; refine (inRange_any _ _ _ _).mono ?_; (first | rw [h1] | rw [h2]); rintro e w' ⟨rfl, rfl⟩)
    exact bodyPost_ret (v := .tuple #[.int .i64 0, .int .i64 0, .bool false]) (by simp [results, Tryz.results167, go_sem]) rfl ⟨HB.out, .inr ⟨HR.out, rfl⟩⟩
  subst h3
  by_cases h4 : nm = ⟨#[]⟩
  rotate_left
  · have HR := Lib.hid (HN.out (fun h => h4 h.1.1))
    have h4b := bytes_ne h4
    clear h4
    go_wp2_with (go_at_call 71; refine (inRange_any _ _ _ _).mono ?_; (first | rw [h1] | rw [h2]); rintro e w' ⟨rfl, rfl⟩)
    exact bodyPost_ret (v := .tuple #[.int .i64 0, .int .i64 0, .bool false]) (by simp [results, Tryz.results167, go_sem]) rfl ⟨HB.out, .inr ⟨HR.out, rfl⟩⟩
  subst h4
  by_cases h5 : lev = 0
  rotate_left
  · have HR := Lib.hid (HN.out (fun h => h5 h.1.2))
    have h5b : (lev == 0) = false := by rw [beq_eq_false_iff_ne]; exact h5
    go_wp2_with (go_at_call 71; refine (inRange_any _ _ _ _).mono ?_; (first | rw [h1] | rw [h2]); rintro e w' ⟨rfl, rfl⟩)
    exact bodyPost_ret (v := .tuple #[.int .i64 0, .int .i64 0, .bool false]) (by simp [results, Tryz.results167, go_sem]) rfl ⟨HB.out, .inr ⟨HR.out, rfl⟩⟩
  subst h5
  by_cases h6 : tx = ⟨#[]⟩
  rotate_left
  · have HR := Lib.hid (HN.out (fun h => h6 h.2.2.1))
    have h6b := bytes_ne h6
    clear h6
    go_wp2_with (go_at_call 71; refine (inRange_any _ _ _ _).mono ?_; (first | rw [h1] | rw [h2]); rintro e w' ⟨rfl, rfl⟩)
    exact bodyPost_ret (v := .tuple #[.int .i64 0, .int .i64 0, .bool false]) (by simp [results, Tryz.results167, go_sem]) rfl ⟨HB.out, .inr ⟨HR.out, rfl⟩⟩
  subst h6
  have HR := Lib.hid (HY.out ⟨⟨rfl, rfl⟩, rfl, rfl, inB_iff.1 h1, inB_iff.1 h2⟩)
  go_wp2_with (go_at_call 71; refine (inRange_any _ _ _ _).mono ?_; (first | rw [h1] | rw [h2]); rintro e w' ⟨rfl, rfl⟩)
  go_quiet (fail)
  go_wp2_with fail
  exact bodyPost_ret (v := .tuple #[.int .i64 tall, .int .i64 wide, .bool true]) (by simp [results, Tryz.results167, go_sem]) rfl ⟨below_dn HB.out, .inl ⟨_, _, HR.out, rfl⟩⟩

theorem all_gly_no {l : List UInt8} {k : Nat} {x : UInt8} (h : l[k]? = some x) (hx : glyB x.toNat = false) : (l.all fun b => glyB b.toNat) = false := by
  rw [List.all_eq_false]; exact ⟨x, List.mem_of_getElem? h, by rw [hx]; decide⟩
set_option maxRecDepth 100000 in
set_option maxHeartbeats 4000000 in
theorem textBox_any (x : It) (w : World) (hk : x.kind = 1) :
    Calls Tryz.prog 163 #[itV x] w (RetBx w (boxI x)) := by
  have HN := Lib.hid (fun h => (boxI_text hk).trans (if_neg h))
  have HY := Lib.hid (fun h => (boxI_text hk).trans (if_pos h))
  obtain ⟨O, hO⟩ : ∃ O, O = boxI x := ⟨_, rfl⟩
  rw [← hO] at HN HY ⊢
  rw [plainI_iff, scaledI_iff] at HN HY
  obtain ⟨kd, row, col, sc, tall, wide, nm, lev, tx⟩ := x
  dsimp only at hk HN HY ⊢
  subst hk
  clear hO
  have HK := Lib.hid (push_at w (.cells #[.int .i64 1, .int .i64 row, .int .i64 col, .int .i64 sc, .int .i64 tall, .int .i64 wide, .string nm, .int .i64 lev, .string tx] 111 (0, 0)))
  have HB := Lib.hid (ba1 w (.cells #[.int .i64 1, .int .i64 row, .int .i64 col, .int .i64 sc, .int .i64 tall, .int .i64 wide, .string nm, .int .i64 lev, .string tx] 111 (0, 0)))
  go_enter Tryz.func163, Tryz.ntmps163
  rcases Bool.eq_false_or_eq_true (inB (tx.size : Int) 1 40) with h1 | h1
  rotate_left
  · have HR := Lib.hid (HN.out (fun h => by rw [inB_iff.2 (by omega)] at h1; cases h1))
    go_wp2_with (go_at_call 71; refine (inRange_any _ _ _ _).mono ?_; rw [h1]; rintro e w' ⟨rfl, rfl⟩)
    exact bodyPost_ret (v := .tuple #[.int .i64 0, .int .i64 0, .bool false]) (by simp [results, Tryz.results163, go_sem]) rfl ⟨HB.out, .inr ⟨HR.out, rfl⟩⟩
  rcases Bool.eq_false_or_eq_true (inB sc 1 8) with h2 | h2
  rotate_left
  · have HR := Lib.hid (HN.out (fun h => by rw [inB_iff.2 (by omega)] at h2; cases h2))
    go_wp2_with (go_at_call 71; refine (inRange_any _ _ _ _).mono ?_; (first | rw [h1] | rw [h2]); rintro e w' ⟨rfl, rfl⟩)
    exact bodyPost_ret (v := .tuple #[.int .i64 0, .int .i64 0, .bool false]) (by simp [results, Tryz.results163, go_sem]) rfl ⟨HB.out, .inr ⟨HR.out, rfl⟩⟩
  by_cases h3 : tall = 0
  rotate_left
  · have HR := Lib.hid (HN.out (fun h => h3 h.2.1.1.2))
    have h3b : (tall == 0) = false := by rw [beq_eq_false_iff_ne]; exact h3
    go_wp2_with (go_at_call 71; refine (inRange_any _ _ _ _).mono ?_; (first | rw [h1] | rw [h2]); rintro e w' ⟨rfl, rfl⟩)
    exact bodyPost_ret (v := .tuple #[.int .i64 0, .int .i64 0, .bool false]) (by simp [results, Tryz.results163, go_sem]) rfl ⟨HB.out, .inr ⟨HR.out, rfl⟩⟩
  subst h3
  by_cases h4 : wide = 0
  rotate_left
  · have HR := Lib.hid (HN.out (fun h => h4 h.2.1.2))
    have h4b : (wide == 0) = false := by rw [beq_eq_false_iff_ne]; exact h4
    go_wp2_with (go_at_call 71; refine (inRange_any _ _ _ _).mono ?_; (first | rw [h1] | rw [h2]); rintro e w' ⟨rfl, rfl⟩)
    exact bodyPost_ret (v := .tuple #[.int .i64 0, .int .i64 0, .bool false]) (by simp [results, Tryz.results163, go_sem]) rfl ⟨HB.out, .inr ⟨HR.out, rfl⟩⟩
  subst h4
  by_cases h5 : nm = ⟨#[]⟩
  rotate_left
  · have HR := Lib.hid (HN.out (fun h => h5 h.1.1))
    have h5b := bytes_ne h5
    clear h5
    go_wp2_with (go_at_call 71; refine (inRange_any _ _ _ _).mono ?_; (first | rw [h1] | rw [h2]); rintro e w' ⟨rfl, rfl⟩)
    exact bodyPost_ret (v := .tuple #[.int .i64 0, .int .i64 0, .bool false]) (by simp [results, Tryz.results163, go_sem]) rfl ⟨HB.out, .inr ⟨HR.out, rfl⟩⟩
  subst h5
  by_cases h6 : lev = 0
  rotate_left
  · have HR := Lib.hid (HN.out (fun h => h6 h.1.2))
    have h6b : (lev == 0) = false := by rw [beq_eq_false_iff_ne]; exact h6
    go_wp2_with (go_at_call 71; refine (inRange_any _ _ _ _).mono ?_; (first | rw [h1] | rw [h2]); rintro e w' ⟨rfl, rfl⟩)
    exact bodyPost_ret (v := .tuple #[.int .i64 0, .int .i64 0, .bool false]) (by simp [results, Tryz.results163, go_sem]) rfl ⟨HB.out, .inr ⟨HR.out, rfl⟩⟩
  subst h6
  have HL := Lib.hid (inB_iff.1 h1)
  have HSC := Lib.hid (inB_iff.1 h2)
  have hsz : tx.data.toList.length = tx.size := rfl
  have HSZ := Lib.hid hsz
  clear hsz
  go_wp2_with (go_at_call 71; refine (inRange_any _ _ _ _).mono ?_; (first | rw [h1] | rw [h2]); rintro e w' ⟨rfl, rfl⟩)
  clear h1 h2
  have htl : tx.size ≤ 40 := by have := HL.out; omega
  go_loopw [6] (fun i wr => ∃ j : Nat, j ≤ tx.size ∧ i = .int .i64 (j : Int) ∧ ((tx.data.toList.take j).all fun b => glyB b.toNat) = true ∧ Below (w.heap.size + 1) (w.alloc (.cells #[.int .i64 1, .int .i64 row, .int .i64 col, .int .i64 sc, .int .i64 0, .int .i64 0, .string ⟨#[]⟩, .int .i64 0, .string tx] 111 (0, 0))) wr) (fun i _ => tx.size - (intOf i).toNat)
  case atStart => exact ⟨0, Nat.zero_le _, rfl, rfl, Below.refl _ _⟩
  case round =>
    obtain ⟨j, hj, rfl, hall, hbr⟩ := hrel
    have HA := Lib.hid hall
    have hk := blkK (hbr.mono (by simp)) HK.out
    have HBR := Lib.hid (bt0 HB.out (hbr.mono (by simp)) (Nat.le_refl _))
    have HB0 := Lib.hid hbr
    obtain ⟨hcA, hfA⟩ := heap_cellR hk
    have hlA := blkLt hk
    clear hall hbr hk
    by_cases hlt : j < tx.size
    · have hji : (j : Int) < (tx.size : Int) := by omega
      have HXK := Lib.hid (show tx.data.toList[j]? = some tx[j] by rw [List.getElem?_eq_getElem (by rw [HSZ.out]; exact hlt)]; rfl)
      obtain ⟨x, hx⟩ : ∃ x, x = tx[j] := ⟨_, rfl⟩
      rw [← hx] at HXK
      go_wp2_with fail
      rw [← hx]
      have hwx : wrap64 ((x.toNat : Nat) : Int) = (x.toNat : Int) := by have := x.toNat_lt; unfold wrap64; omega
      rw [hwx]
      refine (glyph_any _ _).mono ?_
      rintro e w2 ⟨⟨y0, y1, y2, y3, y4, rfl⟩, hb2⟩
      have HB2 := Lib.hid (bt0 HBR.out hb2 (Nat.le_refl _))
      have HB3 := Lib.hid (HB0.out.trans (hb2.mono (by have := HB0.out.size; simpa using this)))
      have hz2 : w.heap.size < w2.heap.size := by have := hb2.size; omega
      clear hb2 hx hwx
      rcases Bool.eq_false_or_eq_true (glyB x.toNat) with hg | hg
      · have HG := Lib.hid hg
        rw [hg]
        clear hg
        go_wp2_with fail
        refine ⟨⟨j + 1, by omega, by go_num, ?_, HB3.out.alloc (by have := HB3.out.size; simpa using this) _⟩, by simp [intOf]; omega⟩
        rw [take_snoc' HXK.out, List.all_append, HA.out]
        simp [HG.out]
      · have HR := Lib.hid (HN.out (fun h => by have h2 := all_gly_no HXK.out hg; rw [h2] at h; cases h.2.2.2.2))
        rw [hg]
        clear hg
        go_wp2_with fail
        exact bodyPost_ret (v := .tuple #[.int .i64 0, .int .i64 0, .bool false]) (by simp [results, Tryz.results163, go_sem]) rfl ⟨bt0 HB2.out (ba1 _ _) (Nat.le_refl _), .inr ⟨HR.out, rfl⟩⟩
    · have hji : ¬ (j : Int) < (tx.size : Int) := by omega
      have hall : (tx.data.toList.all fun b => glyB b.toNat) = true := by
        have h := HA.out
        rwa [List.take_of_length_le (by rw [HSZ.out]; omega)] at h
      have HL' := HL.out
      have HR := Lib.hid (HY.out ⟨by simp, by simp only [and_true]; exact HSC.out, by omega, by omega, hall⟩)
      have hs := HSC.out
      have hb : 3 * 1 ≤ (4 * (tx.size : Int) - 1) * sc ∧ (4 * (tx.size : Int) - 1) * sc ≤ 159 * 8 := ⟨Int.mul_le_mul (by omega) (by omega) (by omega) (by omega), Int.mul_le_mul (by omega) (by omega) (by omega) (by omega)⟩
      obtain ⟨Z, hZ⟩ : ∃ Z, (4 * (tx.size : Int) - 1) * sc = Z := ⟨_, rfl⟩
      rw [hZ] at hb HR
      have hwz : wrap64 ((4 * (tx.size : Int) - 1) * sc) = Z := by rw [hZ]; unfold wrap64; omega
      clear hall
      go_wp2_with fail
      go_quiet (fail)
      go_wp2_with fail
      exact bodyPost_ret (v := .tuple #[.int .i64 (5 * sc), .int .i64 Z, .bool true]) (by simp [results, Tryz.results163, go_sem]) rfl ⟨below_dn HBR.out, .inl ⟨_, _, HR.out, rfl⟩⟩

end Go.Proofs.YtlcglclojlffgaaGreatDoor
namespace Go.Proofs.YtlcglclojlffgaaGreatDoor

def Bits (l : List Int) : Prop := ∀ b ∈ l, b = 0 ∨ b = 1
theorem Bits.app {l m : List Int} (h : Bits l) (k : Bits m) : Bits (l ++ m) := fun b hb => by
  rcases List.mem_append.1 hb with h1 | h1
  · exact h b h1
  · exact k b h1
end Go.Proofs.YtlcglclojlffgaaGreatDoor
namespace Go.Proofs.YtlcglclojlffgaaGreatDoor
open Go.RowKit Go.Conc

/-- a channel with room for n numbers holds l -/
def ChAt (w : World) (b n : Nat) (l : List Int) (cl : Bool) : Prop := ∃ s r, w.heap[b]? = some (.chan n (l.map (Value.int .i64)).toArray cl s r false)
theorem ChAt.lt {w : World} {b n : Nat} {l : List Int} {cl : Bool} (h : ChAt w b n l cl) : b < w.heap.size := by
  obtain ⟨s, r, h⟩ := h
  exact (Array.getElem?_eq_some_iff.1 h).1
theorem ChAt.below {w w' : World} {b n : Nat} {l : List Int} {cl : Bool} (h : ChAt w b n l cl) (hb : Below w.heap.size w w') : ChAt w' b n l cl := by
  have hl := h.lt
  obtain ⟨s, r, h⟩ := h
  exact ⟨s, r, (hb.block b hl).trans h⟩
end Go.Proofs.YtlcglclojlffgaaGreatDoor
namespace Go.Proofs.YtlcglclojlffgaaGreatDoor
open Go.RowKit

/-- a row of the call's own goes on: nothing else has turned -/
structure MoreI (base : Nat) (w : World) (v : Value) (w' : World) (v' : Value) (l' : List Int) : Prop where
  own : OwnI w' base v' l'
  below : Below base w w'
  ob : ∀ b, v'.ownBlock = some b → v.ownBlock = some b ∨ w.heap.size ≤ b
  kept : ∀ b, b < w.heap.size → v.ownBlock ≠ some b → w'.heap[b]? = w.heap[b]?
theorem MoreI.refl {base : Nat} {w : World} {v : Value} {l : List Int} (h : OwnI w base v l) : MoreI base w v w v l := ⟨h, Below.refl _ _, fun _ e => Or.inl e, fun _ _ _ => rfl⟩
theorem MoreI.trans {base : Nat} {w w1 w2 : World} {v v1 v2 : Value} {l1 l2 : List Int} (h : MoreI base w v w1 v1 l1) (k : MoreI base w1 v1 w2 v2 l2) : MoreI base w v w2 v2 l2 := by
  have hs := h.below.size
  refine ⟨k.own, h.below.trans k.below, fun b e => ?_, fun b hb hne => ?_⟩
  · rcases k.ob b e with h1 | h1
    · exact h.ob b h1
    · exact Or.inr (by omega)
  · have h1 : v1.ownBlock ≠ some b := fun e => by
      rcases h.ob b e with h2 | h2
      · exact hne h2
      · omega
    exact (k.kept b (by omega) h1).trans (h.kept b hb hne)
theorem MoreI.grown {base : Nat} {w w1 w2 : World} {v v1 : Value} {l1 : List Int} (h : MoreI base w v w1 v1 l1) (hb : Below w1.heap.size w1 w2) (hB : base ≤ w.heap.size) : MoreI base w v w2 v1 l1 :=
  ⟨h.own.grown hb, bt0 h.below hb hB, h.ob, fun b hlt hne => (hb.block b (Nat.lt_of_lt_of_le hlt h.below.size)).trans (h.kept b hlt hne)⟩
end Go.Proofs.YtlcglclojlffgaaGreatDoor
namespace Go.Proofs.YtlcglclojlffgaaGreatDoor
open Go.RowKit Go.Conc

theorem ChAt.low {B : Nat} {w w' : World} {b n : Nat} {l : List Int} {cl : Bool} (h : ChAt w b n l cl) (hb : Below B w w') (hlt : b < B) : ChAt w' b n l cl := by
  obtain ⟨s, r, h⟩ := h
  exact ⟨s, r, (hb.block b hlt).trans h⟩
end Go.Proofs.YtlcglclojlffgaaGreatDoor
namespace Go.Proofs.YtlcglclojlffgaaGreatDoor
open Go.RowKit

/-- a new box of the region's own -/
def BoxK (B : Nat) (cs : Array Value) (t : TypeId) (v : Value) (W : World) : Prop := ∃ b, v = .pointer (some ⟨b, 0, none⟩) ∧ B ≤ b ∧ W.heap[b]? = some (.cells cs t (0, 0))
def spBox (B : Nat) (cs : Array Value) (t : TypeId) : Sp KB := ⟨BoxK B cs t, fun _ _ _ hk ⟨b, hv, hb, hg⟩ => ⟨b, hv, hb, blkK hk hg⟩⟩
theorem kb_new {w0 W : World} {B : Nat} {cs : Array Value} {t : TypeId} (hst : StX w0 W) (hB : B ≤ w0.heap.size) : RsR (StX w0) (spBox B cs t) W (.pointer (some ⟨W.heap.size, 0, none⟩)) (W.alloc (.cells cs t (0, 0))) :=
  kb_below hst (ba1 _ _) ⟨W.heap.size, rfl, Nat.le_trans hB hst.size, push_at _ _⟩
end Go.Proofs.YtlcglclojlffgaaGreatDoor
namespace Go.Proofs.YtlcglclojlffgaaGreatDoor
open Go.RowKit

/-- the table when the choices from k on are known -/
def tabF (s : List UInt8) (k : Nat) (i : Nat) : Ch := if i < k then chZ else hdC (s.drop i)
/-- what stands while choices are made -/
structure ChoW (w0 wr : World) (g wb fb : Nat) (s : List UInt8) (k : Nat) (f : Nat → Nat) : Prop where
  tab : TabAt wr g (s.length + 1) (tabF s k)
  wid : WidAt wr wb
  rch : RchAt wr fb f
  gw : g < wb
  wf : wb < fb
  base : w0.heap.size ≤ g
  below : Below w0.heap.size w0 wr
theorem ChoW.grown {w0 wr w' : World} {g wb fb : Nat} {s : List UInt8} {k : Nat} {f : Nat → Nat} (h : ChoW w0 wr g wb fb s k f) (hb : Below wr.heap.size wr w') : ChoW w0 w' g wb fb s k f :=
  ⟨h.tab.below hb, h.wid.below hb, h.rch.below hb, h.gw, h.wf, h.base, bt0 h.below hb (Nat.le_refl _)⟩
theorem ChoW.other {w0 wr w' : World} {g wb fb B : Nat} {s : List UInt8} {k : Nat} {f : Nat → Nat} (h : ChoW w0 wr g wb fb s k f) (hg : wr.grownBy w' (some B)) (hB : fb < B) : ChoW w0 w' g wb fb s k f := by
  have h1 := h.gw
  have h2 := h.wf
  have h3 := h.base
  obtain ⟨C, t, k1, k2⟩ := h.wid
  have hk : ∀ b, b < B → b < wr.heap.size → w'.heap[b]? = wr.heap[b]? := fun b hb hl => hg.block b hl (fun e => by cases e; omega)
  refine ⟨h.tab.kept (hk _ (by omega) h.tab.lt), ⟨C, t, (hk _ (by omega) (blkLt k1)).trans k1, k2⟩, h.rch.kept (hk _ hB h.rch.lt), h1, h2, h3, h.below.trans (below_of_grownBy hg (h.below.size) (fun j e => by cases e; omega))⟩
theorem ChoW.took {w0 wr w' : World} {g wb fb : Nat} {s : List UInt8} {k : Nat} {f f' : Nat → Nat} (h : ChoW w0 wr g wb fb s k f) (hg : wr.grownBy w' (some fb)) (hr : RchAt w' fb f') : ChoW w0 w' g wb fb s k f' := by
  have h1 := h.gw
  have h2 := h.wf
  have h3 := h.base
  obtain ⟨C, t, k1, k2⟩ := h.wid
  have hk : ∀ b, b < fb → b < wr.heap.size → w'.heap[b]? = wr.heap[b]? := fun b hb hl => hg.block b hl (fun e => by cases e; omega)
  exact ⟨h.tab.kept (hk _ (by omega) h.tab.lt), ⟨C, t, (hk _ (by omega) (blkLt k1)).trans k1, k2⟩, hr, h1, h2, h3, h.below.trans (below_of_grownBy hg (h.below.size) (fun j e => by cases e; omega))⟩
theorem ChoW.like {w0 wr : World} {g wb fb : Nat} {s : List UInt8} {k : Nat} {f f' : Nat → Nat} (h : ChoW w0 wr g wb fb s k f) (e : ∀ i, 1 ≤ i → i ≤ 4 → f' i = f i) : ChoW w0 wr g wb fb s k f' :=
  ⟨h.tab, h.wid, h.rch.like e, h.gw, h.wf, h.base, h.below⟩
theorem BxC.kept {w w' : World} {g : Nat} {x : Ch} (h : BxC w g x) (hk : w'.heap[g]? = w.heap[g]?) : BxC w' g x := TabAt.kept h hk
theorem BxC.below {w w' : World} {g : Nat} {x : Ch} (h : BxC w g x) (hb : Below w.heap.size w w') : BxC w' g x := TabAt.below h hb
theorem BxC.lt {w : World} {g : Nat} {x : Ch} (h : BxC w g x) : g < w.heap.size := TabAt.lt h
theorem runL_take (f : Nat → Nat) (c : UInt8) (l : List UInt8) (h : ∀ m, f m = runL m l) (m : Nat) : runL m (c :: l) = tkN f c m := by rw [runL, tkN, h]
set_option maxRecDepth 100000 in
set_option maxHeartbeats 4000000 in
theorem choices_any (s : ByteArray) (w : World) (hs : s.size ≤ 400) :
    Calls Tryz.prog 207 #[.string s] w fun e w' => e = .returned (.slice (some ⟨w.heap.size, 0, none⟩) (s.size + 1) (s.size + 1)) ∧ TabAt w' w.heap.size (s.size + 1) (tabF s.data.toList 0) ∧ Below w.heap.size w w' := by
  have hmk := make_ch (s.size + 1) (by omega)
  push_cast at hmk
  go_enter Tryz.func207, Tryz.ntmps207
  go_wp2_with fail
  refine (widths_any _).mono ?_
  rintro e w2 ⟨rfl, hw2, hb2⟩
  have HT2 := Lib.hid ((TabAt.new w (s.size + 1)).below hb2)
  have HB2 := Lib.hid (bt1 hb2)
  have HW2 := Lib.hid (show WidAt w2 (w.heap.size + 1) by simpa using hw2)
  clear hw2 hb2 hmk
  go_wp2_with fail
  obtain ⟨S, hS⟩ : ∃ S, S = s.data.toList := ⟨_, rfl⟩
  have hSl : S.length = s.size := by rw [hS]; rfl
  have HS := Lib.hid hS
  have HSL := Lib.hid hSl
  have HC0 : Hid (ChoW w (w2.alloc (.cells #[.int .i64 0, .int .i64 0, .int .i64 0, .int .i64 0, .int .i64 0] 278 (0, 0))) w.heap.size (w.heap.size + 1) w2.heap.size S S.length (fun m => runL m (S.drop S.length))) := Lib.hid (by
    refine ⟨?_, HW2.out.below (ba1 _ _), ?_, by omega, ?_, Nat.le_refl _, bt0 HB2.out (ba1 _ _) (Nat.le_refl _)⟩
    · rw [hSl]
      exact (HT2.out.below (ba1 _ _)).like (fun i hi => by
        unfold tabF
        by_cases h : i < s.size
        · rw [if_pos (by omega)]
        · rw [if_neg (by omega), List.drop_eq_nil_of_le (by omega)]; rfl)
    · refine ⟨_, _, push_at _ _, rfl, fun i h1 h4 => ?_⟩
      obtain rfl | rfl | rfl | rfl : i = 1 ∨ i = 2 ∨ i = 3 ∨ i = 4 := by omega
      all_goals (rw [List.drop_eq_nil_of_le (Nat.le_refl _)]; rfl)
    · obtain ⟨C, t, k1, k2⟩ := HW2.out
      simpa using blkLt k1)
  clear hS hSl
  go_loopw [6, 7, 8, 9, 10, 11] (fun a _ _ _ _ _ wr => ∃ k : Nat, k ≤ s.size ∧ a = .int .i64 ((k : Int) - 1) ∧ ChoW w wr w.heap.size (w.heap.size + 1) w2.heap.size S k (fun m => runL m (S.drop k))) (fun a _ _ _ _ _ _ => (intOf a + 1).toNat)
  case atStart => exact ⟨s.size, Nat.le_refl _, rfl, by rw [← HSL.out]; exact HC0.out⟩
  case round =>
    obtain ⟨k, hk, rfl, hc⟩ := hrel
    have HC := Lib.hid hc
    clear hc
    rcases k with - | k
    · have hdec : decide ((0 : Int) ≤ ((0 : Nat) : Int) - 1) = false := by decide
      go_wp2_with fail
      go_ret
      exact ⟨rfl, by rw [← HS.out, ← HSL.out]; exact HC.out.tab, HC.out.below⟩
    · have hdec : decide ((0 : Int) ≤ ((k + 1 : Nat) : Int) - 1) = true := by simp
      have hki : ((k + 1 : Nat) : Int) - 1 = (k : Int) := by omega
      rw [hki] at hdec ⊢
      have hkn : k < s.size := by omega
      have hki2 : (k : Int) < (s.size : Int) := by omega
      obtain ⟨c, hcb⟩ : ∃ c, c = s[k] := ⟨_, rfl⟩
      have HCB := Lib.hid (show S[k]? = some c by rw [HS.out, hcb]; exact List.getElem?_eq_getElem (by simpa using hkn))
      have hfl := fun m => (runL_le m (S.drop (k + 1))).2
      have HFL := Lib.hid hfl
      clear hfl
      go_wp2_with fail
      refine (take_any w2.heap.size _ HFL.out c _ (by rw [hcb]) _ (HC.out.rch.below (ba1 _ _))).mono ?_
      rintro e w3 ⟨rfl, hr3, hg3⟩
      obtain ⟨cl, hcl⟩ : ∃ cl, cl = S.drop k := ⟨_, rfl⟩
      obtain ⟨l, hl⟩ : ∃ l, l = S.drop (k + 1) := ⟨_, rfl⟩
      have HCL := Lib.hid (show cl = c :: l by
        rw [hcl, hl]
        have h := HCB.out
        obtain ⟨hk', e⟩ := List.getElem?_eq_some_iff.1 h
        rw [List.drop_eq_getElem_cons hk', e])
      have hB0 : w2.heap.size < wr.heap.size := HC.out.rch.lt
      have hBx : BxC w3 wr.heap.size chZ := (BxC.new wr chZ 265).kept (hg3.block _ (by simp) (fun e => by have := Option.some.inj e; omega))
      have HX0 := Lib.hid hBx
      have HC3 := Lib.hid (show ChoW w w3 w.heap.size (w.heap.size + 1) w2.heap.size S (k + 1) (fun m => runL m cl) from
        ((HC.out.grown (ba1 _ _)).took hg3 hr3).like (fun i _ _ => by rw [HCL.out]; exact runL_take _ c l (fun m => by rw [hl]) i))
      have hcll : cl.length = s.size - k := by rw [hcl, List.length_drop, HSL.out]
      have HCLe := Lib.hid hcl
      have HLe := Lib.hid hl
      have hB : w2.heap.size < wr.heap.size := hB0
      obtain ⟨B, hBe⟩ : ∃ B, B = wr.heap.size := ⟨_, rfl⟩
      rw [← hBe] at HX0 hB
      clear hr3 hg3 hBx hcl hl hB0 HFL hcb
      go_wp2_with fail
      try rw [← hBe]
      clear hBe
      go_loopw [8, 9, 10, 11] (fun i _ _ _ wx => ∃ m : Nat, 1 ≤ m ∧ m ≤ 5 ∧ i = .int .i64 m ∧ ChoW w wx w.heap.size (w.heap.size + 1) w2.heap.size S (k + 1) (fun m => runL m cl) ∧ BxC wx B (modC cl (tabC l) (m - 1))) (fun i _ _ _ _ => 5 - (intOf i).toNat)
      case atStart => exact ⟨1, by omega, by omega, rfl, HC3.out, HX0.out⟩
      case round =>
        obtain ⟨m, hm1, hm5, rfl, hc, hx⟩ := hrel
        have HCm := Lib.hid hc
        have HXm := Lib.hid hx
        clear hc hx
        by_cases hlt : m ≤ 4
        · have hdec : decide ((m : Int) ≤ 4) = true := by simp; omega
          go_wp2_with fail
          go_loopw [9, 10, 11] (fun i _ _ wx => ∃ n : Nat, 1 ≤ n ∧ n ≤ runL m cl + 1 ∧ i = .int .i64 n ∧ ChoW w wx w.heap.size (w.heap.size + 1) w2.heap.size S (k + 1) (fun m => runL m cl) ∧ BxC wx B (tryC (tabC l) m (n - 1) (modC cl (tabC l) (m - 1)))) (fun i _ _ _ => runL m cl + 1 - (intOf i).toNat)
          case atStart => exact ⟨1, by omega, by omega, rfl, HCm.out, HXm.out⟩
          case round =>
            obtain ⟨n, hn1, hnR, rfl, hc, hx⟩ := hrel
            have HCn := Lib.hid hc
            have HXn := Lib.hid hx
            obtain ⟨hR1, hR2⟩ := runL_le m cl
            obtain ⟨hcf, -⟩ := hc.rch.cell hm1 hlt
            have hlf := hc.rch.lt
            obtain ⟨R, hRe⟩ : ∃ R, R = runL m cl := ⟨_, rfl⟩
            rw [← hRe] at hnR hR1 hR2 hcf
            have HRe := Lib.hid hRe
            clear hc hx hRe
            by_cases hln : n ≤ R
            · have hdec : decide ((n : Int) ≤ (R : Int)) = true := by simp; omega
              obtain ⟨x1, x2, x3, x4, -⟩ := HCn.out.tab.cell (i := k + n) (by rw [HSL.out]; omega)
              have htf : tabF S (k + 1) (k + n) = hdC (S.drop (k + n)) := by unfold tabF; rw [if_neg (by omega)]
              obtain ⟨⟨rl, rc, rt, rm⟩, hre⟩ : ∃ x : Ch, x = hdC (S.drop (k + n)) := ⟨_, rfl⟩
              rw [htf, ← hre] at x1 x2 x3 x4
              dsimp only at x1 x2 x3 x4
              have HRE := Lib.hid hre
              have hlt2 := HCn.out.tab.lt
              obtain ⟨q, hq⟩ : ∃ q, q = k + n := ⟨_, rfl⟩
              have hqi : (k : Int) + (n : Int) = (q : Int) := by omega
              have hqi2 : (q : Int) < (s.size : Int) + 1 := by omega
              rw [← hq] at x1 x2 x3 x4
              have HQ := Lib.hid hq
              clear htf hre hq
              go_wp2_with fail
              obtain ⟨rb, hrb⟩ : ∃ rb, rb = wr.heap.size := ⟨_, rfl⟩
              obtain ⟨w6, hw6⟩ : ∃ w6, w6 = wr.alloc (.cells #[.int .i64 rl, .int .i64 rc, .int .i64 rt, .int .i64 rm] 265 (0, 0)) := ⟨_, rfl⟩
              have HC6 := Lib.hid (show ChoW w w6 w.heap.size (w.heap.size + 1) w2.heap.size S (k + 1) (fun m => runL m cl) by rw [hw6]; exact HCn.out.grown (ba1 _ _))
              have HX6 := Lib.hid (show BxC w6 B (tryC (tabC l) m (n - 1) (modC cl (tabC l) (m - 1))) by rw [hw6]; exact HXn.out.below (ba1 _ _))
              have hr0 : w6.cell? ⟨rb, 0, none⟩ = some (.int .i64 rl) := by rw [hw6, hrb, (heap_cellR (push_at _ _)).1]; rfl
              have hr1 : w6.cell? ⟨rb, 1, none⟩ = some (.int .i64 rc) := by rw [hw6, hrb, (heap_cellR (push_at _ _)).1]; rfl
              have hs6 : w6.heap.size = rb + 1 := by rw [hw6, hrb]; simp
              have hBr : B < rb := by rw [hrb]; exact HXn.out.lt
              obtain ⟨hcw, -⟩ := HC6.out.wid.cell hm1 hlt hn1 (show n ≤ 255 by omega)
              have hVb := segW_le m n hn1
              obtain ⟨V, hV⟩ : ∃ V, V = segW m n := ⟨_, rfl⟩
              rw [← hV] at hcw hVb
              have HV := Lib.hid hV
              have hbd := hdC_bd _ (S.drop (k + n)) (Nat.le_refl _)
              rw [← HRE.out] at hbd
              obtain ⟨hb1, hb2, hb3, hb4⟩ := hbd
              rw [List.length_drop, HSL.out] at hb2 hb4
              dsimp only at hb1 hb2 hb3 hb4
              have hbl : 0 ≤ rl ∧ rl ≤ 7600 := by omega
              have hbc : 0 ≤ rc ∧ rc ≤ 400 := by omega
              try rw [← hw6]
              try rw [← hrb]
              clear hw6 hrb hV hb1 hb2 hb3 hb4 x1 x2 x3 x4 hcf
              refine wp_region_rt (Keep := KB) [51, 52, 53, 54, 55, 56, 57, 58, 59, 60, 61, 62, 63, 64, 65, 66, 11] (fun us => _)
                [spE (.pointer (some ⟨w.heap.size + 1, 0, none⟩)),
                 spE (.int .i64 (m : Int)),
                 spE (.int .i64 (n : Int)),
                 spE (.pointer (some ⟨w.heap.size + 1, 0, none⟩)),
                 spE (.pointer (some ⟨w.heap.size + 1, m * 256, none⟩)),
                 spE (.pointer (some ⟨w.heap.size + 1, m * 256 + n, none⟩)),
                 spE (.int .i64 (V : Int)),
                 spE (.pointer (some ⟨rb, 0, none⟩)),
                 spE (.int .i64 rl),
                 spE (.int .i64 ((V : Int) + rl)),
                 spE (.pointer (some ⟨rb, 1, none⟩)),
                 spE (.int .i64 rc),
                 spE (.int .i64 (rc + 1)),
                 spE (.int .i64 (n : Int)),
                 spE (.int .i64 (m : Int)),
                 spE (.agg #[.int .i64 ((V : Int) + rl), .int .i64 (rc + 1), .int .i64 (n : Int), .int .i64 (m : Int)]),
                 spBox (rb + 1) #[.int .i64 0, .int .i64 0, .int .i64 0, .int .i64 0] 265]
                (StX w6) (by kernel_rfl) (by kernel_rfl) (Nat.le_of_ble_eq_true rfl) (fun us => by simp [over, List.mapIdx_cons]; exact rfl) (stX0 _) kbr ?_ ?_
              · refine ⟨?_, ?_, ?_, ?_, ?_, ?_, ?_, ?_, ?_, ?_, ?_, ?_, ?_, ?_, ?_, ?_, ?_, trivial⟩
                all_goals (intro us wx hst hd; rw [if_pos (by kernel_rfl)]; dsimp only)
                · clear hd
                  go_simp
                  exact kb_same hst rfl
                · clear hd
                  go_simp
                  exact kb_same hst rfl
                · clear hd
                  go_simp
                  exact kb_same hst rfl
                · have d51 : us 51 = (.pointer (some ⟨w.heap.size + 1, 0, none⟩)) := hd ⟨0, .data⟩ (by simp) rfl
                  clear hd
                  go_simp
                  exact kb_same hst rfl
                · have d54 : us 54 = (.pointer (some ⟨w.heap.size + 1, 0, none⟩)) := hd ⟨3, .data⟩ (by simp) rfl
                  have d52 : us 52 = (.int .i64 (m : Int)) := hd ⟨1, .data⟩ (by simp) rfl
                  clear hd
                  have hi5 : (m : Int) < 5 := by omega
                  go_simp
                  exact kb_same hst rfl
                · have d55 : us 55 = (.pointer (some ⟨w.heap.size + 1, m * 256, none⟩)) := hd ⟨4, .data⟩ (by simp) rfl
                  have d53 : us 53 = (.int .i64 (n : Int)) := hd ⟨2, .data⟩ (by simp) rfl
                  clear hd
                  have hi5 : (n : Int) < 256 := by omega
                  go_simp
                  exact kb_same hst rfl
                · have d56 : us 56 = (.pointer (some ⟨w.heap.size + 1, m * 256 + n, none⟩)) := hd ⟨5, .data⟩ (by simp) rfl
                  clear hd
                  have hW := below_cell hst hcw
                  go_simp
                  exact kb_same hst rfl
                · clear hd
                  go_simp
                  exact kb_same hst rfl
                · have d58 : us 58 = (.pointer (some ⟨rb, 0, none⟩)) := hd ⟨7, .data⟩ (by simp) rfl
                  clear hd
                  have hW := below_cell hst hr0
                  go_simp
                  exact kb_same hst rfl
                · have d57 : us 57 = (.int .i64 (V : Int)) := hd ⟨6, .data⟩ (by simp) rfl
                  have d59 : us 59 = (.int .i64 rl) := hd ⟨8, .data⟩ (by simp) rfl
                  clear hd
                  have hw : IntKind.i64.wrap ((V : Int) + rl) = (V : Int) + rl := by rw [IntKind.wrap_i64]; omega
                  go_simp
                  exact kb_same hst rfl
                · clear hd
                  go_simp
                  exact kb_same hst rfl
                · have d61 : us 61 = (.pointer (some ⟨rb, 1, none⟩)) := hd ⟨10, .data⟩ (by simp) rfl
                  clear hd
                  have hW := below_cell hst hr1
                  go_simp
                  exact kb_same hst rfl
                · have d62 : us 62 = (.int .i64 rc) := hd ⟨11, .data⟩ (by simp) rfl
                  clear hd
                  have hw : IntKind.i64.wrap (rc + 1) = rc + 1 := by rw [IntKind.wrap_i64]; omega
                  go_simp
                  exact kb_same hst rfl
                · clear hd
                  go_simp
                  exact kb_same hst rfl
                · clear hd
                  go_simp
                  exact kb_same hst rfl
                · have d60 : us 60 = (.int .i64 ((V : Int) + rl)) := hd ⟨9, .data⟩ (by simp) rfl
                  have d63 : us 63 = (.int .i64 (rc + 1)) := hd ⟨12, .data⟩ (by simp) rfl
                  have d64 : us 64 = (.int .i64 (n : Int)) := hd ⟨13, .data⟩ (by simp) rfl
                  have d65 : us 65 = (.int .i64 (m : Int)) := hd ⟨14, .data⟩ (by simp) rfl
                  clear hd
                  go_simp
                  exact kb_same hst rfl
                · clear hd
                  go_simp
                  exact kb_new hst (by omega)
              · intro us wx hst hd
                have d11 := hd 16 (by simp)
                have d66 : us 66 = (.agg #[.int .i64 ((V : Int) + rl), .int .i64 (rc + 1), .int .i64 (n : Int), .int .i64 (m : Int)]) := hd 15 (by simp)
                clear hd
                simp only [List.drop, List.length]
                rw [d66]
                obtain ⟨xb, hxb, hxb1, hxg⟩ := d11
                rw [hxb]
                have HC7 := Lib.hid (HC6.out.grown hst)
                have HB7 := Lib.hid (HX6.out.below hst)
                have HX7 : Hid (BxC wx xb chZ) := Lib.hid ⟨_, _, hxg, rfl, fun i hi => by
                  obtain rfl : i = 0 := by omega
                  exact ⟨rfl, rfl, rfl, rfl⟩⟩
                obtain ⟨z1, z2, z3, z4, z5⟩ := HX7.out.cells
                have hlx := HX7.out.lt
                have hlB := HB7.out.lt
                obtain ⟨⟨tl, tc, tt, tm⟩, hte⟩ : ∃ x : Ch, x = tryC (tabC l) m (n - 1) (modC cl (tabC l) (m - 1)) := ⟨_, rfl⟩
                rw [← hte] at HB7
                obtain ⟨v1, v2, v3, v4, v5⟩ := HB7.out.cells
                have HTE := Lib.hid hte
                have hne : B ≠ xb := by omega
                have hne' : xb ≠ B := by omega
                clear hxg hxb d66 hte hr0 hr1 hcw
                have HCD := Lib.hid (show candC (tabC l) m n = ⟨(V : Int) + rl, rc + 1, n, m⟩ by
                  have hll : l.length = s.size - (k + 1) := by rw [HLe.out, List.length_drop, HSL.out]
                  have e : (tabC l).getD (n - 1) chZ = ⟨rl, rc, rt, rm⟩ := by
                    rw [List.getD_eq_getElem?_getD, tabC_at l (n - 1) (by omega), HRE.out, HLe.out, List.drop_drop, show k + 1 + (n - 1) = k + n by omega]
                    rfl
                  rw [candC, e, ← HV.out])
                have HTN := Lib.hid (show tryC (tabC l) m n (modC cl (tabC l) (m - 1)) = betC ⟨tl, tc, tt, tm⟩ ⟨(V : Int) + rl, rc + 1, n, m⟩ by
                  obtain ⟨j, rfl⟩ : ∃ j, n = j + 1 := ⟨n - 1, by omega⟩
                  rw [tryC, HCD.out, HTE.out]; rfl)
                have HG1 := Lib.hid (four_grown wx xb 0 1 2 3 (.int .i64 ((V : Int) + rl)) (.int .i64 (rc + 1)) (.int .i64 (n : Int)) (.int .i64 (m : Int)))
                have HC8 := Lib.hid (HC7.out.other HG1.out (by omega))
                have HB8 := Lib.hid (HB7.out.kept (HG1.out.block B hlB (fun e => by have := Option.some.inj e; omega)))
                have HCase := Lib.hid (show ∀ wy, ChoW w wy w.heap.size (w.heap.size + 1) w2.heap.size S (k + 1) (fun m => runL m cl) → BxC wy B ⟨tl, tc, tt, tm⟩ → betC ⟨tl, tc, tt, tm⟩ ⟨(V : Int) + rl, rc + 1, n, m⟩ = ⟨(V : Int) + rl, rc + 1, n, m⟩ →
                    (∃ n_1 : Nat, 1 ≤ n_1 ∧ n_1 ≤ runL m cl + 1 ∧ Value.int .i64 ((n : Int) + 1) = .int .i64 n_1 ∧ ChoW w ((((wy.setCell ⟨B, 0, none⟩ (.int .i64 ((V : Int) + rl))).setCell ⟨B, 1, none⟩ (.int .i64 (rc + 1))).setCell ⟨B, 2, none⟩ (.int .i64 (n : Int))).setCell ⟨B, 3, none⟩ (.int .i64 (m : Int))) w.heap.size (w.heap.size + 1) w2.heap.size S (k + 1) (fun m => runL m cl) ∧
                      BxC ((((wy.setCell ⟨B, 0, none⟩ (.int .i64 ((V : Int) + rl))).setCell ⟨B, 1, none⟩ (.int .i64 (rc + 1))).setCell ⟨B, 2, none⟩ (.int .i64 (n : Int))).setCell ⟨B, 3, none⟩ (.int .i64 (m : Int))) B (tryC (tabC l) m (n_1 - 1) (modC cl (tabC l) (m - 1)))) from
                  fun wy hcy hby hbet => ⟨n + 1, by omega, by rw [← HRe.out]; omega, by push_cast; rfl, hcy.other (four_grown wy B 0 1 2 3 _ _ _ _) (by omega), by
                    rw [Nat.add_sub_cancel, HTN.out, hbet]
                    exact hby.set ⟨(V : Int) + rl, rc + 1, n, m⟩⟩)
                by_cases h0 : tc = 0
                · subst h0
                  go_wp2_with fail
                  exact ⟨HCase.out _ HC8.out HB8.out (by rw [betC, if_pos (Or.inl rfl)]), by rw [← HRe.out]; simp [intOf]; omega⟩
                · have h0' : (tc == 0) = false := by rw [beq_eq_false_iff_ne]; exact h0
                  have H0 := Lib.hid h0
                  clear h0
                  go_wp2_with fail
                  refine (better_any ⟨(V : Int) + rl, rc + 1, n, m⟩ ⟨tl, tc, tt, tm⟩ _).mono ?_
                  rintro e w9 ⟨rfl, hb9⟩
                  have HC9 := Lib.hid (HC8.out.grown hb9)
                  have HB9 := Lib.hid (HB8.out.below hb9)
                  have HX9 := Lib.hid ((HX7.out.set ⟨(V : Int) + rl, rc + 1, n, m⟩).below hb9)
                  obtain ⟨z1, z2, z3, z4, z5⟩ := HX9.out.cells
                  obtain ⟨v1, v2, v3, v4, v5⟩ := HB9.out.cells
                  have hl9 := HX9.out.lt
                  have hl8 := HB9.out.lt
                  clear hb9
                  rcases Bool.eq_false_or_eq_true (chB ⟨(V : Int) + rl, rc + 1, n, m⟩ ⟨tl, tc, tt, tm⟩) with hb | hb
                  · rw [hb]
                    have HBe := Lib.hid hb
                    clear hb
                    go_wp2_with fail
                    exact ⟨HCase.out _ HC9.out HB9.out (by rw [betC, if_pos (Or.inr HBe.out)]), by rw [← HRe.out]; simp [intOf]; omega⟩
                  · rw [hb]
                    have HBe := Lib.hid hb
                    clear hb
                    go_wp2_with fail
                    refine ⟨⟨n + 1, by omega, by rw [← HRe.out]; omega, by push_cast; rfl, HC9.out, ?_⟩, by rw [← HRe.out]; simp [intOf]; omega⟩
                    rw [Nat.add_sub_cancel, HTN.out, betC, if_neg (by rw [HBe.out]; rintro (h | h); exact H0.out h; cases h)]
                    exact HB9.out
            · have hdec : decide ((n : Int) ≤ (R : Int)) = false := by simp; omega
              obtain rfl : n = R + 1 := by omega
              have HMS := Lib.hid (show modC cl (tabC l) m = tryC (tabC l) m R (modC cl (tabC l) (m - 1)) by
                obtain ⟨j, rfl⟩ : ∃ j, m = j + 1 := ⟨m - 1, by omega⟩
                rw [modC, HRe.out]; rfl)
              go_wp2_with fail
              exact ⟨⟨m + 1, by omega, by omega, by go_num, HCn.out, by rw [Nat.add_sub_cancel, HMS.out]; exact HXn.out⟩, by simp [intOf]; omega⟩
        · have hdec : decide ((m : Int) ≤ 4) = false := by simp; omega
          obtain rfl : m = 5 := by omega
          obtain ⟨⟨bl, bc, bt, bm⟩, hbe⟩ : ∃ x : Ch, x = modC cl (tabC l) (5 - 1) := ⟨_, rfl⟩
          rw [← hbe] at HXm
          have HBE := Lib.hid (show hdC (S.drop k) = ⟨bl, bc, bt, bm⟩ by rw [hbe, ← HCLe.out, HCL.out]; rfl)
          obtain ⟨y1, y2, y3, y4, -⟩ := HXm.out.cells
          obtain ⟨x1, x2, x3, x4, x5⟩ := HCm.out.tab.cell (i := k) (by rw [HSL.out]; omega)
          have hki3 : (k : Int) < (s.size : Int) + 1 := by omega
          have hlb := HXm.out.lt
          have hlt2 := HCm.out.tab.lt
          clear hbe
          go_wp2_with fail
          refine ⟨⟨k, by omega, by go_num, ?_⟩, by simp [intOf]⟩
          have hg := four_grown wr w.heap.size (k * 4) (k * 4 + 1) (k * 4 + 2) (k * 4 + 3) (.int .i64 bl) (.int .i64 bc) (.int .i64 bt) (.int .i64 bm)
          have h1 := HCm.out.gw
          have h2 := HCm.out.wf
          obtain ⟨C, t, k1, k2⟩ := HCm.out.wid
          have ht := HCm.out.tab.set (i := k) (by rw [HSL.out]; omega) ⟨bl, bc, bt, bm⟩
          refine ⟨ht.like (fun i hi => ?_), ⟨C, t, (hg.block _ (blkLt k1) (fun e => by have := Option.some.inj e; omega)).trans k1, k2⟩, (HCm.out.rch.kept (hg.block _ HCm.out.rch.lt (fun e => by have := Option.some.inj e; omega))).like (fun i _ _ => by rw [HCLe.out]), h1, h2, Nat.le_refl _, HCm.out.below.trans (below_of_grownBy hg HCm.out.below.size (fun j e => by have := Option.some.inj e; omega))⟩
          unfold tabF
          by_cases e : i = k
          · subst e; rw [if_neg (by omega), if_pos rfl, HBE.out]
          · rw [if_neg e]
            by_cases h : i < k
            · rw [if_pos h, if_pos (by omega)]
            · rw [if_neg h, if_neg (by omega)]

end Go.Proofs.YtlcglclojlffgaaGreatDoor
namespace Go.Proofs.YtlcglclojlffgaaGreatDoor
open Go.RowKit

set_option maxRecDepth 100000 in
set_option maxHeartbeats 1000000 in
theorem bestLength_any (s : ByteArray) (w : World) (hs : s.size ≤ 400) :
    Calls Tryz.prog 193 #[.string s] w fun e w' => e = .returned (.int .i64 (hdC s.data.toList).l) ∧ Below w.heap.size w w' := by
  go_enter Tryz.func193, Tryz.ntmps193
  go_wp2_with fail
  refine (choices_any s _ hs).mono ?_
  rintro e w1 ⟨rfl, ht, hb⟩
  obtain ⟨x1, -, -, -, -⟩ := ht.cell (i := 0) (by omega)
  rw [Nat.zero_mul] at x1
  have e0 : tabF s.data.toList 0 0 = hdC s.data.toList := by simp [tabF]
  rw [e0] at x1
  obtain ⟨X, hX⟩ : ∃ X, X = (hdC s.data.toList).l := ⟨_, rfl⟩
  rw [← hX] at x1
  have HX := Lib.hid hX
  have hlt := ht.lt
  have HB := Lib.hid hb
  have h0 : (0 : Int) < (s.size : Int) + 1 := by omega
  clear ht hb e0 hX
  go_wp2_with fail
  go_ret
  exact ⟨ret_int HX.out, HB.out⟩
end Go.Proofs.YtlcglclojlffgaaGreatDoor
namespace Go.Proofs.YtlcglclojlffgaaGreatDoor
open Go.RowKit

theorem Enc.At.kept {α : Type} {E : Enc α} {w w' : World} {a : Option Addr} {xs : List α} (h : E.At w a xs) (hk : ∀ b o, a = some ⟨b, o, none⟩ → w'.heap[b]? = w.heap[b]?) : E.At w' a xs := fun i x hx => by
  obtain ⟨b, o, e, hc⟩ := h i x hx
  exact ⟨b, o, e, fun j u hu => by rw [← hc j u hu]; simp [World.cell?, hk b o e]⟩
end Go.Proofs.YtlcglclojlffgaaGreatDoor
namespace Go.Proofs.YtlcglclojlffgaaGreatDoor
open Go.RowKit

theorem OwnI.none (w : World) (base : Nat) : OwnI w base (.slice none 0 0) [] := ⟨by simp, Or.inl ⟨rfl, rfl⟩⟩
set_option maxRecDepth 100000 in
theorem isMessage_any (s : ByteArray) (w : World) (hs : s.size ≤ 1048576) :
    Calls Tryz.prog 181 #[.string s] w fun e w' => e = .returned (.bool (decide (s.size ≤ 400))) ∧ w = w' := by
  have HD := Lib.hid (show decide ((s.size : Int) ≤ 400) = decide (s.size ≤ 400) by rw [decide_eq_decide]; omega)
  go_enter Tryz.func181, Tryz.ntmps181
  go_wp2_with fail
  go_ret
  exact ⟨ret_bool HD.out, rfl⟩
end Go.Proofs.YtlcglclojlffgaaGreatDoor
namespace Go.Proofs.YtlcglclojlffgaaGreatDoor
open Go.RowKit

/-- the least capacity of a message; its code -/
def payN (k : Nat) (S : List UInt8) : Int := (payS k S).getD 0
def payD (k : Nat) (S : List UInt8) : Int := if (payS k S).isSome = true then 0 else 3
theorem payNo {k : Nat} {S : List UInt8} (h : payS k S = none) : payN k S = 0 ∧ payD k S = 3 := by simp [payN, payD, h]
theorem payYes {k : Nat} {S : List UInt8} {n : Int} (h : payS k S = some n) : payN k S = n ∧ payD k S = 0 := by simp [payN, payD, h]
set_option maxRecDepth 100000 in
set_option maxHeartbeats 4000000 in
theorem payloadSize_any {p k g : Int} {F : Fd} (h : FV p k g F) (s : ByteArray) (w : World) (hs : s.size ≤ 1048576) :
    Calls Tryz.prog 182 #[.agg #[.int .i64 p, .int .i64 k, .int .i64 g], .string s] w fun e w' => e = .returned (.tuple #[.int .i64 (payN F.k s.data.toList), .int .i64 (payD F.k s.data.toList)]) ∧ Below w.heap.size w w' := by
  have H := Lib.hid h
  have hk3 := h.ok.k3
  have hk8 := h.ok.k8
  obtain ⟨S, hS⟩ : ∃ S, S = s.data.toList := ⟨_, rfl⟩
  have hSl : S.length = s.size := by rw [hS]; rfl
  obtain ⟨P, hP⟩ : ∃ P, P = payS F.k S := ⟨_, rfl⟩
  have HP := Lib.hid hP
  have HS := Lib.hid hS
  rw [← hS]
  clear h hP hS
  by_cases h400 : s.size ≤ 400
  · have hbd := hdC_bd _ S (Nat.le_refl _)
    obtain ⟨L, hL⟩ : ∃ L, L = (hdC S).l := ⟨_, rfl⟩
    have hLb : 0 ≤ L ∧ L ≤ 7600 := by
      rw [hL]
      have h1 := hbd.1
      have h2 := hbd.2.1
      omega
    have HLe := Lib.hid hL
    obtain ⟨K, hK⟩ : ∃ K : Int, K = (F.k : Int) := ⟨_, rfl⟩
    have hKb : 3 ≤ K ∧ K ≤ 8 := by omega
    have HK := Lib.hid hK
    obtain ⟨N, hN⟩ : ∃ N, (L + K - 1) / K = N := ⟨_, rfl⟩
    have hNb : 0 ≤ N ∧ N ≤ 7607 := by
      rw [← hN]
      exact ⟨Int.ediv_nonneg (by omega) (by omega), Int.le_trans (Int.ediv_le_self _ (by omega)) (by omega)⟩
    obtain ⟨M, hM⟩ : ∃ M, (if 1 < N then N else 1) = M := ⟨_, rfl⟩
    have hMb : 1 ≤ M ∧ M ≤ 7607 := by rw [← hM]; split <;> omega
    have HPe := Lib.hid (show P = if M ≤ 1500 then some M else none by
      have e : needS F.k S = M := by
        unfold needS
        rw [← HLe.out, ← HK.out, hN, ← hM]
        split <;> split <;> omega
      rw [HP.out, payS, e]
      by_cases hm : M ≤ 1500
      · rw [if_pos ⟨by omega, hm⟩, if_pos hm]
      · rw [if_neg (by omega), if_neg hm])
    have hkz : (K == 0) = false := by rw [beq_eq_false_iff_ne]; omega
    have h1 : decide (s.size ≤ 400) = true := decide_eq_true h400
    clear hbd hL hSl hK
    rcases Decidable.em (M ≤ 1500) with hm | hm
    · have hm' : decide ((1500 : Int) < M) = false := by simp; omega
      have HR := Lib.hid (payYes (HP.out.symm.trans (HPe.out.trans (if_pos hm))))
      clear hm
      go_enter Tryz.func182, Tryz.ntmps182
      go_wp2_with fail
      refine (calc_fv H.out _).mono ?_
      rintro e w1 ⟨hb1, a1, rfl, ha⟩
      obtain ⟨b, rfl, -, hA⟩ := ha rfl
      have HA := Lib.hid hA
      have HB1 := Lib.hid (bt1 hb1)
      clear hb1 ha hA
      go_wp2_with fail
      refine (isMessage_any s _ hs).mono ?_
      rw [h1]
      rintro e w' ⟨rfl, rfl⟩
      go_wp2_with fail
      refine (bestLength_any s _ h400).mono ?_
      rw [← HS.out, ← HLe.out]
      rintro e w3 ⟨rfl, hb3⟩
      have HB3 := Lib.hid (bt0 HB1.out hb3 (Nat.le_refl _))
      have HA3 := Lib.hid (HA.out.below hb3)
      clear hb3
      go_wp2_with fail
      refine (width_any F H.out.fd b _ HA3.out).mono ?_
      rw [← HK.out]
      rintro e w2 hq2
      obtain ⟨rfl, hb2⟩ := hq2.below
      have HB2 := Lib.hid (bt0 HB3.out hb2 (Nat.le_refl _))
      have HA2 := Lib.hid (HA3.out.below hb2)
      clear hq2 hb2
      go_wp2_with fail
      refine (width_any F H.out.fd b _ HA2.out).mono ?_
      rw [← HK.out]
      rintro e w4 hq4
      obtain ⟨rfl, hb4⟩ := hq4.below
      have HB4 := Lib.hid (bt0 HB2.out hb4 (Nat.le_refl _))
      clear hq4 hb4
      go_wp2_with fail
      go_ret2
      exact ⟨by rw [HR.out.1, HR.out.2]; rfl, HB4.out⟩
    · have hm' : decide ((1500 : Int) < M) = true := by simp; omega
      have HR := Lib.hid (payNo (HP.out.symm.trans (HPe.out.trans (if_neg hm))))
      clear hm
      go_enter Tryz.func182, Tryz.ntmps182
      go_wp2_with fail
      refine (calc_fv H.out _).mono ?_
      rintro e w1 ⟨hb1, a1, rfl, ha⟩
      obtain ⟨b, rfl, -, hA⟩ := ha rfl
      have HA := Lib.hid hA
      have HB1 := Lib.hid (bt1 hb1)
      clear hb1 ha hA
      go_wp2_with fail
      refine (isMessage_any s _ hs).mono ?_
      rw [h1]
      rintro e w' ⟨rfl, rfl⟩
      go_wp2_with fail
      refine (bestLength_any s _ h400).mono ?_
      rw [← HS.out, ← HLe.out]
      rintro e w3 ⟨rfl, hb3⟩
      have HB3 := Lib.hid (bt0 HB1.out hb3 (Nat.le_refl _))
      have HA3 := Lib.hid (HA.out.below hb3)
      clear hb3
      go_wp2_with fail
      refine (width_any F H.out.fd b _ HA3.out).mono ?_
      rw [← HK.out]
      rintro e w2 hq2
      obtain ⟨rfl, hb2⟩ := hq2.below
      have HB2 := Lib.hid (bt0 HB3.out hb2 (Nat.le_refl _))
      have HA2 := Lib.hid (HA3.out.below hb2)
      clear hq2 hb2
      go_wp2_with fail
      refine (width_any F H.out.fd b _ HA2.out).mono ?_
      rw [← HK.out]
      rintro e w4 hq4
      obtain ⟨rfl, hb4⟩ := hq4.below
      have HB4 := Lib.hid (bt0 HB2.out hb4 (Nat.le_refl _))
      clear hq4 hb4
      go_wp2_with fail
      go_ret2
      exact ⟨by rw [HR.out.1, HR.out.2]; rfl, HB4.out⟩
  · have HR := Lib.hid (payNo (HP.out.symm.trans (show P = none by rw [HP.out, payS, if_neg (by omega)])))
    have h1 : decide (s.size ≤ 400) = false := decide_eq_false h400
    go_enter Tryz.func182, Tryz.ntmps182
    go_wp2_with fail
    refine (calc_fv H.out _).mono ?_
    rintro e w1 ⟨hb1, a1, rfl, ha⟩
    have HB1 := Lib.hid (bt1 hb1)
    clear hb1 ha
    go_wp2_with fail
    refine (isMessage_any s _ hs).mono ?_
    rw [h1]
    rintro e w' ⟨rfl, rfl⟩
    go_wp2_with fail
    go_ret2
    exact ⟨by rw [HR.out.1, HR.out.2]; rfl, HB1.out⟩

end Go.Proofs.YtlcglclojlffgaaGreatDoor
namespace Go.Proofs.YtlcglclojlffgaaGreatDoor
open Go.RowKit

/-- a text cut at every byte c -/
def cut (c : UInt8) : List UInt8 → List (List UInt8)
  | [] => [[]]
  | x :: r => if x = c then [] :: cut c r else match cut c r with
    | [] => [[x]]
    | h :: t => (x :: h) :: t

theorem cut_ne (c : UInt8) (l : List UInt8) : cut c l ≠ [] := by
  cases l with
  | nil => simp [cut]
  | cons x r => rw [cut]; split; · simp
                split <;> simp

theorem index1_cases (c : UInt8) : ∀ l : List UInt8, Lib.index l [c] = -1 ∨ ∃ i : Nat, Lib.index l [c] = i
  | [] => by left; rw [Lib.index.eq_1]; simp
  | x :: r => by
    rw [Lib.index.eq_2]
    split
    · exact .inr ⟨0, rfl⟩
    · split
      · exact .inl rfl
      · rename_i _ h
        rcases index1_cases c r with h2 | ⟨i, h2⟩
        · simp [h2] at h
        · exact .inr ⟨i + 1, by rw [h2]; rfl⟩

theorem splitK_cut (c : UInt8) : ∀ l : List UInt8, Lib.splitK [c] 0 (Lib.count l [c]) l = cut c l
  | [] => by rw [Lib.count_one]; simp [Lib.splitK.eq_1, cut]
  | x :: r => by
    have ih := splitK_cut c r
    by_cases hx : x = c
    · subst hx
      rw [Lib.count_cons_eq, Nat.add_comm, Lib.splitK.eq_2, Lib.index.eq_2]
      simp [cut, ih]
    · rw [Lib.count_cons_ne _ _ _ hx, cut, if_neg hx, ← ih]
      generalize Lib.count r [c] = k
      cases k with
      | zero => simp [Lib.splitK.eq_1]
      | succ k =>
        rw [Lib.splitK.eq_2, Lib.splitK.eq_2, Lib.index.eq_2]
        have hp : ([c] : List UInt8).isPrefixOf (x :: r) = false := by
          simp [List.isPrefixOf]; exact fun h => hx h.symm
        rw [hp]
        rcases index1_cases c r with h2 | ⟨i, h2⟩
        · simp [h2]
        · have h3 : ¬ ((i : Int) == -1) = true := by simp <;> omega
          have h4 : ¬ (((i : Int) + 1) == -1) = true := by simp <;> omega
          simp only [h2, if_neg h3, Bool.false_eq_true, if_false, if_neg h4]
          have h5 : ((i : Int) + 1).toNat = i + 1 := by omega
          have h6 : ((i : Int)).toNat = i := by omega
          simp [h5, h6]

theorem splitB_cut (s : ByteArray) (c : UInt8) :
    (Lib.splitB ⟨#[c]⟩ 0 (Lib.countB s ⟨#[c]⟩) s).map (fun x => x.data.toList) = cut c s.data.toList := by
  rw [Lib.splitB_data]; exact splitK_cut c _

/-- texts put together with a byte between them -/
def glue (c : UInt8) : List (List UInt8) → List UInt8
  | [] => []
  | [h] => h
  | h :: t => h ++ c :: glue c t

theorem glue_cons (c : UInt8) (h : List UInt8) (t : List (List UInt8)) (ht : t ≠ []) : glue c (h :: t) = h ++ c :: glue c t := by
  cases t with
  | nil => exact absurd rfl ht
  | cons => rfl

theorem cut_piece (c : UInt8) : ∀ l : List UInt8, c ∉ l → cut c l = [l]
  | [] => fun _ => rfl
  | x :: r => fun h => by
    simp at h
    rw [cut, if_neg (fun e => h.1 e.symm), cut_piece c r h.2]

theorem cut_app (c : UInt8) : ∀ (p l : List UInt8), c ∉ p → cut c (p ++ c :: l) = p :: cut c l
  | [], l => fun _ => by simp [cut]
  | x :: r, l => fun h => by
    simp at h
    rw [List.cons_append, cut, if_neg (fun e => h.1 e.symm), cut_app c r l h.2]

/-- the library's reading of a decimal -/
theorem parseUintM_dec (M : Nat) (hM : M ≤ 18446744073709551615) : ∀ (u : Nat), u ≤ M → ∀ r, Lib.parseUintM M 0 (Lib.decDigits u ++ r) = Lib.parseUintM M u r := by
  intro u
  induction u using Nat.strongRecOn with
  | _ u ih =>
    intro hu r
    rw [Lib.decDigits.eq_1]
    split
    · rename_i h
      have h1 : (UInt8.ofNat (48 + u)).toNat = 48 + u := by simp; omega
      rw [List.singleton_append, Lib.parseUintM.eq_2, h1, if_pos (by omega), if_neg (by omega), if_neg (by omega)]
      congr 1; omega
    · rename_i h
      have h1 : (UInt8.ofNat (48 + u % 10)).toNat = 48 + u % 10 := by simp; omega
      rw [List.append_assoc, ih (u / 10) (by omega) (by omega), List.singleton_append, Lib.parseUintM.eq_2, h1, if_pos (by omega), if_neg (by omega), if_neg (by omega)]
      congr 1; omega

theorem decDigits_ne (u : Nat) : Lib.decDigits u ≠ [] := by
  rw [Lib.decDigits.eq_1]; split <;> simp

theorem dec_digit : ∀ (u : Nat), ∀ x ∈ Lib.decDigits u, 48 ≤ x.toNat ∧ x.toNat ≤ 57 := by
  intro u
  induction u using Nat.strongRecOn with
  | _ u ih =>
    rw [Lib.decDigits.eq_1]
    split
    · intro x hx; simp at hx; subst hx; simp; omega
    · intro x hx
      rcases List.mem_append.1 hx with hx | hx
      · exact ih (u / 10) (by omega) x hx
      · simp at hx; subst hx; simp; omega

theorem parseUintB_dec (u : Nat) (hu : u ≤ 18446744073709551615) : Lib.parseUintB 64 (Lib.decDigits u) = .ok u := by
  have h := parseUintM_dec (2 ^ 64 - 1) (by omega) u (by omega) []
  rw [List.append_nil] at h
  rw [Lib.parseUintB, if_neg (decDigits_ne u), h, Lib.parseUintM.eq_1]

theorem parseIntB_itoa (n : Int) (h0 : -9223372036854775808 ≤ n) (h1 : n ≤ 9223372036854775807) : Lib.parseIntB 64 (Lib.itoa n) = .ok n := by
  by_cases hn : n < 0
  · have e : Lib.itoa n = 45 :: Lib.decDigits n.natAbs := by rw [Lib.itoa, if_pos hn]
    rw [e, Lib.parseIntB_minus, parseUintB_dec _ (by omega), Lib.signedC, if_neg (by omega)]
    congr 1; omega
  · have e : Lib.itoa n = Lib.decDigits n.toNat := by rw [Lib.itoa, if_neg hn]
    rw [e]
    have hd := dec_digit n.toNat
    have hp := parseUintB_dec n.toNat (by omega)
    cases he : Lib.decDigits n.toNat with
    | nil => exact absurd he (decDigits_ne _)
    | cons c r =>
      rw [he] at hd hp
      have := hd c (by simp)
      rw [Lib.parseIntB_plain _ _ _ (by omega) (by omega), hp, Lib.signlessC, if_neg (by omega)]
      congr 1; omega

end Go.Proofs.YtlcglclojlffgaaGreatDoor
namespace Go.Proofs.YtlcglclojlffgaaGreatDoor
open Go.RowKit

theorem itoa_mem (n : Int) : ∀ x ∈ Lib.itoa n, x.toNat = 45 ∨ (48 ≤ x.toNat ∧ x.toNat ≤ 57) := by
  intro x hx
  unfold Lib.itoa at hx
  split at hx
  · rcases List.mem_cons.1 hx with rfl | hx
    · exact .inl rfl
    · exact .inr (dec_digit _ x hx)
  · exact .inr (dec_digit _ x hx)

theorem itoa_no (n : Int) (c : UInt8) (hc : c.toNat ≠ 45) (hd : ¬ (48 ≤ c.toNat ∧ c.toNat ≤ 57)) : c ∉ Lib.itoa n := by
  intro hx
  rcases itoa_mem n c hx with h | h
  · exact hc h
  · exact hd h

end Go.Proofs.YtlcglclojlffgaaGreatDoor
namespace Go.Proofs.YtlcglclojlffgaaGreatDoor
open Go.RowKit

/-- a record in two numbers -/
structure Rc where
  k : Int
  n : Int
def Rc.ok (r : Rc) : Bool := inB r.k 1 4 && inB r.n 0 199
/-- the program's reading of a number that is not negative -/
def rdec (l : List UInt8) : Option Int :=
  if l = [] ∨ (1 < l.length ∧ l[0]? = some 48) ∨ l[0]? = some 43 ∨ l[0]? = some 45 then none
  else match Lib.parseIntB 64 l with | .ok n => some n | _ => none
theorem dec_head : ∀ u : Nat, 10 ≤ u → (Lib.decDigits u)[0]? ≠ some 48 := by
  intro u
  induction u using Nat.strongRecOn with
  | _ u ih =>
    intro h
    rw [Lib.decDigits.eq_1, dif_neg (by omega)]
    by_cases h2 : u / 10 < 10
    · rw [Lib.decDigits.eq_1, dif_pos h2]
      intro e
      have h3 : UInt8.ofNat (48 + u / 10) = 48 := by
        rw [List.singleton_append, List.getElem?_cons_zero] at e
        exact Option.some.inj e
      have : (UInt8.ofNat (48 + u / 10)).toNat = 48 := by rw [h3]; rfl
      rw [UInt8.toNat_ofNat'] at this
      omega
    · have := ih (u / 10) (by omega) (by omega)
      rw [List.getElem?_append_left]
      · exact this
      · cases he : Lib.decDigits (u / 10) with
        | nil => exact absurd he (decDigits_ne _)
        | cons => simp
theorem rdec_itoa {n : Int} (h0 : 0 ≤ n) (h1 : n ≤ 9223372036854775807) : rdec (Lib.itoa n) = some n := by
  unfold rdec
  rw [if_neg, parseIntB_itoa n (by omega) h1]
  obtain ⟨u, rfl⟩ := Int.eq_ofNat_of_zero_le h0
  rw [Lib.itoa_nonneg]
  have hd := dec_digit u
  have hh := dec_head u
  rintro (h | ⟨h, h2⟩ | h | h)
  · exact decDigits_ne _ h
  · by_cases hu : 10 ≤ u
    · exact hh hu h2
    · rw [Lib.decDigits.eq_1, dif_pos (by omega)] at h; simp at h
  · have := hd 43 (List.mem_of_getElem? h); simp at this
  · have := hd 45 (List.mem_of_getElem? h); simp at this

end Go.Proofs.YtlcglclojlffgaaGreatDoor
namespace Go.Proofs.YtlcglclojlffgaaGreatDoor
open Go.RowKit

/-- a family in memory: what it holds, and the blocks of its sizes and levels -/
structure FmR where
  f : Fam
  b1 : Nat
  b2 : Nat
/-- rows of families -/
def fmE : Enc FmR where
  enc r := [.string r.f.name, .int .i64 r.f.kind, .int .i64 r.f.fp, .int .i64 r.f.fk, .int .i64 r.f.fg, .slice (some ⟨r.b1, 0, none⟩) r.f.sizes.length r.f.sizes.length, .int .i64 r.f.cols, .slice (some ⟨r.b2, 0, none⟩) r.f.levels.length r.f.levels.length]
  k := 8
  t := 123
  bytes := 104
  len _ := rfl
  one := by
    intro r u hu
    simp only [List.mem_cons, List.not_mem_nil, or_false] at hu
    rcases hu with rfl | rfl | rfl | rfl | rfl | rfl | rfl | rfl <;> rfl
  pos := by decide
theorem infoFm : (Tryz.prog.info? 123).map (fun i => (i.zero, i.size, i.bytes)) = some (some (.agg #[.string ⟨#[]⟩, .int .i64 0, .int .i64 0, .int .i64 0, .int .i64 0, .slice none 0 0, .int .i64 0, .slice none 0 0]), 8, 104) := by kernel_rfl
end Go.Proofs.YtlcglclojlffgaaGreatDoor
namespace Go.Proofs.YtlcglclojlffgaaGreatDoor
open Go.RowKit

/-- the library's lock in this program -/
def muLink : Go.Conc.Locks.MuLink := { lock := 213, unlock := 214, ilock := 221, iunlock := 222, lockSlow := 232, unlockSlow := 235, disable := 228, enable := 230, acquire := 231, relMerge := 233, cas32 := 229, add32 := 234, tMutex := 243, tIMutex := 241, tPMutex := 286, tPIMutex := 300, tPI32 := 302, tUP := 304, tNoCopy := 236, tU32 := 173 }
theorem muLib : Go.Conc.Locks.MuLib Tryz.prog muLink :=
  ⟨Tryz.func213, Tryz.func214, Tryz.func221, Tryz.func222, Tryz.func228, Tryz.func230, Tryz.func231, Tryz.func233, Tryz.func229, Tryz.func234,
    Tryz.underlying241, Tryz.runUnderlying241, Tryz.sizeOf241, Tryz.isAgg241, Tryz.zeroValue241,
    Tryz.underlying243, Tryz.runUnderlying243, Tryz.sizeOf243, Tryz.isAgg243, Tryz.zeroValue243,
    Tryz.underlying286, Tryz.runUnderlying286, Tryz.sizeOf286, Tryz.isAgg286, Tryz.zeroValue286,
    Tryz.underlying300, Tryz.runUnderlying300, Tryz.sizeOf300, Tryz.isAgg300, Tryz.zeroValue300,
    Tryz.underlying302, Tryz.runUnderlying302, Tryz.sizeOf302, Tryz.isAgg302, Tryz.zeroValue302,
    Tryz.underlying304, Tryz.runUnderlying304, Tryz.sizeOf304, Tryz.isAgg304, Tryz.zeroValue304,
    Tryz.underlying236, Tryz.runUnderlying236, Tryz.sizeOf236, Tryz.isAgg236, Tryz.zeroValue236,
    Tryz.underlying21, Tryz.runUnderlying21, Tryz.sizeOf21, Tryz.isAgg21, Tryz.zeroValue21, (by kernel_rfl)⟩

theorem lock_any (a : Addr) (w : World) (hc : w.cell? a = some (.int .i32 0)) (hz : w.frozen? a = false) :
    Calls Tryz.prog 213 #[.pointer (some a)] w fun e w' => e = .returned (.tuple #[]) ∧ w' = w.setCell a (.int .i32 1) :=
  Go.MuLone.lock_free muLib a w hc hz
theorem unlock_def (a : Addr) (u : FrameMode) (w : World) (hc : w.cell? a = some (.int .i32 1)) (hz : w.frozen? a = false) :
    CallsD Tryz.prog 214 #[.pointer (some a)] u w fun e u' w' => u' = u ∧ (e = .returned (.tuple #[]) ∧ w' = w.setCell a (.int .i32 0)) :=
  Go.MuLone.unlock_deferred muLib a u w hc hz

end Go.Proofs.YtlcglclojlffgaaGreatDoor
namespace Go.Proofs.YtlcglclojlffgaaGreatDoor
open Go.RowKit

/-- '(*sync/atomic.Bool).Load': the cell tells. -/
theorem boolLoad_any (a : Addr) (d : Int) (w : World) (hc : w.cell? a = some (.int .u32 d)) :
    Calls Tryz.prog 200 #[.pointer (some a)] w fun e w' => e = .returned (.bool (d != 0)) ∧ w = w' := by
  have hl := run_call_load (P := Tryz.prog) Tryz.func212 (by kernel_rfl) (by kernel_rfl) (by kernel_rfl) .u32 (by kernel_rfl) hc
  go_enter Tryz.func200, Tryz.ntmps200
  go_wp2
  go_ret
  exact ⟨rfl, rfl⟩
/-- '(*sync/atomic.Bool).Store(true)', entered as a deferred call: the cell holds 1. -/
theorem boolStore_def (a : Addr) (x : Value) (u : FrameMode) (w : World) (hc : w.cell? a = some x) (hz : w.frozen? a = false) :
    CallsD Tryz.prog 215 #[.pointer (some a), .bool true] u w fun e u' w' => u' = u ∧ (e = .returned (.tuple #[]) ∧ w' = w.drew.setCell a (.int .u32 1)) := by
  have hc' : w.drew.cell? a = some x := by go_simp
  have hz' : w.drew.frozen? a = false := by go_simp
  have hst := run_call_store (P := Tryz.prog) Tryz.func223 (by kernel_rfl) (by kernel_rfl) (by kernel_rfl) (by kernel_rfl) (k := .u32) (y := 1) hc' hz'
  go_enter_d Tryz.func215, Tryz.ntmps215
  go_wp2
  go_region_calls
  all_goals (go_end0; exact ⟨rfl, rfl⟩)
/-- a once's cells in the block b, and what follows them -/
def OnceAt (w : World) (b : Nat) (d m : Int) (x : Value) (T : TypeId) : Prop := w.heap[b]? = some (.cells #[.int .u32 d, .int .i32 m, .int .u32 0, x] T (0, 0))
theorem OnceAt.cells {w : World} {b : Nat} {d m : Int} {x : Value} {T : TypeId} (h : OnceAt w b d m x T) : w.cell? ⟨b, 0, none⟩ = some (.int .u32 d) ∧ w.cell? ⟨b, 1, none⟩ = some (.int .i32 m) ∧ w.cell? ⟨b, 3, none⟩ = some x ∧ (∀ i, w.frozen? ⟨b, i, none⟩ = false) ∧ b < w.heap.size := by
  obtain ⟨hc, hf⟩ := heap_cellR h
  exact ⟨hc 0, hc 1, hc 3, hf, blkLt h⟩
set_option maxRecDepth 100000 in
set_option maxHeartbeats 1600000 in
/-- '(*sync.Once).doSlow', not yet done, the lock free: the function is called with the lock held. -/
theorem doSlow_any (b : Nat) (K : FuncId) (p : Value) (x : Value) (T : TypeId) (w : World) (R : Value → World → Prop) (h : OnceAt w b 0 0 x T) (hK : ∀ (args : Array Value) (W : World), (callFunc K args).run Tryz.prog W = .ok (.enter K args) W)
    (HF : Calls Tryz.prog K #[p] (w.setCell ⟨b, 1, none⟩ (.int .i32 1)) fun e w' => e = .returned (.tuple #[]) ∧ ∃ y, OnceAt w' b 0 1 y T ∧ R y w') :
    Calls Tryz.prog 201 #[.pointer (some ⟨b, 0, none⟩), .func (.func K) #[p] #[]] w fun e w' => e = .returned (.tuple #[]) ∧ ∃ y w2, R y w2 ∧ OnceAt w2 b 0 1 y T ∧ w' = (w2.drew.setCell ⟨b, 0, none⟩ (.int .u32 1)).setCell ⟨b, 1, none⟩ (.int .i32 0) := by
  obtain ⟨h0, h1, h3, hf, hlt⟩ := h.cells
  have HFh := Lib.hid HF
  have HK := Lib.hid hK
  clear HF hK h
  have h0' : (w.setCell ⟨b, 1, none⟩ (.int .i32 1)).cell? ⟨b, 0, none⟩ = some (.int .u32 0) := (World.cell?_setCell_other _ ⟨b, 1, none⟩ ⟨b, 0, none⟩ _ (by simp)).trans h0
  have HLd := Lib.hid (boolLoad_any ⟨b, 0, none⟩ 0 (w.setCell ⟨b, 1, none⟩ (.int .i32 1)) h0')
  have HLk := Lib.hid (lock_any ⟨b, 1, none⟩ w h1 (hf 1))
  go_enter_defers Tryz.func201, Tryz.ntmps201
  go_wp2_with fail
  refine HLk.out.mono ?_
  rintro e w' ⟨rfl, rfl⟩
  go_wp2_with fail
  refine HLd.out.mono ?_
  rintro e w' ⟨rfl, rfl⟩
  go_wp2_with fail
  rw [HK.out]
  refine HFh.out.mono ?_
  rintro e w2 ⟨rfl, y, hO, hR⟩
  obtain ⟨g0, g1, g3, gf, glt⟩ := hO.cells
  go_wp2_with fail
  refine leaves_cons (f := 215) (args := #[.pointer (some ⟨b, 0, none⟩), .bool true]) (by simp) (by simp [go_sem]) ?_
  refine (boolStore_def ⟨b, 0, none⟩ (.int .u32 0) .returning w2 g0 (gf 0)).mono ?_
  rintro e u' w'' ⟨rfl, rfl, rfl⟩
  refine leaves_cons (f := 214) (args := #[.pointer (some ⟨b, 1, none⟩)]) (by simp [settle]) (by simp [go_sem]) ?_
  refine (unlock_def ⟨b, 1, none⟩ _ _ ?_ ?_).mono ?_
  · exact (World.cell?_setCell_other _ ⟨b, 0, none⟩ ⟨b, 1, none⟩ _ (by simp)).trans (by rw [World.cell?_drew]; exact g1)
  · simp [gf 1]
  rintro e u' w'' ⟨rfl, rfl, rfl⟩
  exact ⟨.tuple #[], by simp [results, Tryz.results201, go_sem], rfl, y, w2, hR, hO, rfl⟩

/-- '(*sync.Once).Do', not yet done. -/
theorem do_first (b : Nat) (K : FuncId) (p : Value) (x : Value) (T : TypeId) (w : World) (R : Value → World → Prop) (h : OnceAt w b 0 0 x T) (hK : ∀ (args : Array Value) (W : World), (callFunc K args).run Tryz.prog W = .ok (.enter K args) W)
    (HF : Calls Tryz.prog K #[p] (w.setCell ⟨b, 1, none⟩ (.int .i32 1)) fun e w' => e = .returned (.tuple #[]) ∧ ∃ y, OnceAt w' b 0 1 y T ∧ R y w') :
    Calls Tryz.prog 185 #[.pointer (some ⟨b, 0, none⟩), .func (.func K) #[p] #[]] w fun e w' => e = .returned (.tuple #[]) ∧ ∃ y w2, R y w2 ∧ OnceAt w2 b 0 1 y T ∧ w' = (w2.drew.setCell ⟨b, 0, none⟩ (.int .u32 1)).setCell ⟨b, 1, none⟩ (.int .i32 0) := by
  have HLd := Lib.hid (boolLoad_any ⟨b, 0, none⟩ 0 w h.cells.1)
  have HS := Lib.hid (doSlow_any b K p x T w R h hK HF)
  clear HF hK h
  go_enter Tryz.func185, Tryz.ntmps185
  go_wp2_with fail
  refine HLd.out.mono ?_
  rintro e w' ⟨rfl, rfl⟩
  go_wp2_with fail
  refine HS.out.mono ?_
  rintro e w' ⟨rfl, y, w2, hR, hO, rfl⟩
  go_wp2_with fail
  go_end0
  exact ⟨rfl, y, w2, hR, hO, rfl⟩

end Go.Proofs.YtlcglclojlffgaaGreatDoor
