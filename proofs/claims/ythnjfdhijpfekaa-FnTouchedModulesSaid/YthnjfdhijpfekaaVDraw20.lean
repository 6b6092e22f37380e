import Derived.Test.YthnjfdhijpfekaaM0
import Derived.Test.YthnjfdhijpfekaaVDmL
namespace Go.Proofs.Ythnjfdhijpfekaa
open Go.RowKit

/-- a drawn raster: any numbers, pixels of the call's own -/
def RetRasD (w : World) (b : Nat) (e : Ending) (w' : World) : Prop :=
  ∃ (x1 x2 : Int) (xs : List Int) (a : Option Addr) (c : Nat), e = .returned (.agg #[.int .i64 x1, .int .i64 x2, .slice a xs.length c]) ∧ xs.length ≤ 50 ∧ OwnI w' (w.heap.size + 1) (.slice a xs.length c) xs ∧ Src w' b ∧ w.grownBy w' (some b)
theorem retRasD_of {w W : World} {b : Nat} {o : Obj} {x1 x2 : Int} {xs : List Int} {a : Option Addr} {c : Nat} {v0 v1 v2 : Value} (hlt : b < w.heap.size) (hw : (w.alloc o).grownBy W (some b)) (hs : Src W b) (ho : OwnI W (w.heap.size + 1) (.slice a xs.length c) xs) (hl : xs.length ≤ 50) :
    RetRasD w b (.returned (.agg #[.int .i64 x1, .int .i64 x2, .slice a xs.length c])) (((W.setCell ⟨w.heap.size, 0, none⟩ v0).setCell ⟨w.heap.size, 1, none⟩ v1).setCell ⟨w.heap.size, 2, none⟩ v2) := by
  have h0 : StB b w W := ⟨hs, grownBy_trans (World.grownBy_alloc _ _ _) hw⟩
  have h3 := stB_set (v := v2) (i := 2) (stB_set (v := v1) (i := 1) (stB_set (v := v0) (i := 0) h0 hlt (Nat.le_refl _)) hlt (Nat.le_refl _)) hlt (Nat.le_refl _)
  refine ⟨x1, x2, xs, a, c, rfl, hl, ?_, h3.1, h3.2⟩
  iterate 3 (refine OwnI.setOld ?_ (by dsimp only; omega) _)
  exact ho
theorem fiveT {p : Value → Prop} {a b c d e : Value} (ha : p a) (hb : p b) (hc : p c) (hd : p d) (he : p e) : ∀ i, i < 5 → ∃ u, (#[a, b, c, d, e] : Array Value)[i]? = some u ∧ p u
  | 0, _ => ⟨_, rfl, ha⟩
  | 1, _ => ⟨_, rfl, hb⟩
  | 2, _ => ⟨_, rfl, hc⟩
  | 3, _ => ⟨_, rfl, hd⟩
  | 4, _ => ⟨_, rfl, he⟩
theorem own_snoc {w : World} {base : Nat} {v : Value} {zs : List Int} {z : Int} (ho : w.ownsRow base 2 1 v (zs.length + 1) (zs.map (Value.int .i64) ++ [.int .i64 z])) : OwnI w base v (zs ++ [z]) := by
  unfold OwnI
  rw [List.map_append, List.length_append]
  exact ho
theorem own_snoc' {w : World} {base : Nat} {v : Value} {zs : List Int} {z : Int} (ho : w.ownsRow base 2 1 v (zs.length + 1) (zs.map (Value.int .i64) ++ [.int .i64 z])) : ∃ a c ys, v = .slice a (List.length ys) c ∧ ys.length = zs.length + 1 ∧ OwnI w base (.slice a ys.length c) ys := by
  have h := own_snoc ho
  obtain ⟨a, c, rfl, _⟩ := h.read
  exact ⟨a, c, zs ++ [z], rfl, by simp, h⟩
theorem stB_up {b : Nat} {w w0 W : World} {o : Obj} (hg : (w.alloc o).grownBy w0 (some b)) (h : StB b w0 W) : StB b (w.alloc o) W := ⟨h.1, grownBy_trans hg h.2⟩
theorem nB {lo hi r : Int} (h : lo ≤ r) (h' : r ≤ hi) : NumB lo hi (.int .i64 r) := ⟨r, rfl, h, h'⟩
theorem prod7 {r s : Int} (h0 : 0 ≤ r) (h1 : r ≤ 6) (h2 : 0 ≤ s) (h3 : s ≤ 6) : 1 ≤ (1 + r) * (1 + s) ∧ (1 + r) * (1 + s) ≤ 49 := by
  rcases (show r = 0 ∨ r = 1 ∨ r = 2 ∨ r = 3 ∨ r = 4 ∨ r = 5 ∨ r = 6 by omega) with rfl | rfl | rfl | rfl | rfl | rfl | rfl <;> omega

set_option maxRecDepth 100000 in
set_option maxHeartbeats 1000000 in
theorem l20Draw_any (b : Nat) (w : World) (hs : Src w b) :
    Calls Try.prog 44 #[.pointer (some ⟨b, 0, none⟩)] w (RetRasD w b) := by
  have hlt := hs.lt
  have HS := Lib.hid hs
  clear hs
  go_enter Try.func44, Try.ntmps44
  go_wp2_with fail
  refine (l01Next_any b 7 _ (HS.out.kept (World.grownBy_alloc _ _ none) (by simp)) (by decide) (by decide)).mono ?_
  rintro e W1 ⟨r1, rfl, p0, p1, hs1, hg1⟩
  have HS1 := Lib.hid hs1
  have HG1 := Lib.hid hg1
  replace p1 : r1 ≤ 6 := by omega
  clear hs1 hg1
  go_wp2_with fail
  refine (l01Next_any b 7 _ HS1.out (by decide) (by decide)).mono ?_
  rintro e W2 ⟨r2, rfl, q0, q1, hs2, hg2⟩
  have HS2 := Lib.hid hs2
  have HG2 := Lib.hid (grownBy_trans HG1.out hg2)
  replace q1 : r2 ≤ 6 := by omega
  clear hs2 hg2
  go_wp2_with fail
  have hP := prod7 p0 p1 q0 q1
  obtain ⟨P, hPe⟩ : ∃ P, (1 + r1) * (1 + r2) = P := ⟨_, rfl⟩
  rw [hPe] at hP
  obtain ⟨hP1, hP2⟩ := hP
  have hwr : IntKind.i64.wrap ((1 + r1) * (1 + r2)) = P := by rw [hPe]; exact IntWalk.i64_in _ (by omega)
  have h0 : Drawn (W2.alloc (.cells #[.int .i64 (1 + r1), .int .i64 (1 + r2), .slice none 0 0] 28 (0, 0))) b (W2.heap.size + 1) 0 256 0 (.slice (some ⟨W2.heap.size + 1, 0, none⟩) 0 0) ((W2.alloc (.cells #[.int .i64 (1 + r1), .int .i64 (1 + r2), .slice none 0 0] 28 (0, 0))).alloc (.cells #[] 2 (0, 0))) := by
    refine ⟨[], rfl, by simp, ⟨rfl, Or.inr ⟨_, 0, #[], rfl, Nat.le_refl _, ?_, Nat.le_refl _, by decide, rfl, rfl⟩⟩, stB_alloc ⟨HS2.out.kept (World.grownBy_alloc _ _ none) (by simp), World.grownBy.refl _ _⟩ _⟩
    have : (W2.alloc (.cells #[.int .i64 (1 + r1), .int .i64 (1 + r2), .slice none 0 0] 28 (0, 0))).heap.size = W2.heap.size + 1 := by simp
    rw [← this]
    exact Array.getElem?_push_size
  have H0 := Lib.hid h0
  clear h0
  have hb0 : (W2.alloc (.cells #[.int .i64 (1 + r1), .int .i64 (1 + r2), .slice none 0 0] 28 (0, 0))).heap[W2.heap.size]? = some (.cells #[.int .i64 (1 + r1), .int .i64 (1 + r2), .slice none 0 0] 28 (0, 0)) := Array.getElem?_push_size
  have hs0 : (W2.alloc (.cells #[.int .i64 (1 + r1), .int .i64 (1 + r2), .slice none 0 0] 28 (0, 0))).heap.size = W2.heap.size + 1 := by simp
  have hb1 : b < W2.heap.size := HS2.out.lt
  have g0 : (w.alloc (.cells #[.int .i64 0, .int .i64 0, .slice none 0 0] 28 (0, 0))).grownBy (W2.alloc (.cells #[.int .i64 (1 + r1), .int .i64 (1 + r2), .slice none 0 0] 28 (0, 0))) (some b) := grownBy_trans HG2.out (World.grownBy_alloc _ _ _)
  have hws : w.heap.size < W2.heap.size := by have := HG2.out.size; simp at this; omega
  have HG0 := Lib.hid g0
  have HB0 := Lib.hid hb0
  clear g0 hb0
  generalize (W2.alloc (.cells #[.int .i64 (1 + r1), .int .i64 (1 + r2), .slice none 0 0] 28 (0, 0))) = w0 at *
  have HBOX : Hid (∀ W, StB b w0 W → W.heap[W2.heap.size]? = some (.cells #[.int .i64 (1 + r1), .int .i64 (1 + r2), .slice none 0 0] 28 (0, 0)) ∧ W.heap[w.heap.size]? = some (.cells #[.int .i64 0, .int .i64 0, .slice none 0 0] 28 (0, 0))) := Lib.hid (fun W hst => by
    have h1 := (hst.2.block w.heap.size (by omega) (by simp; omega)).trans ((HG0.out.block w.heap.size (by simp) (by simp; omega)).trans Array.getElem?_push_size)
    exact ⟨(hst.2.block W2.heap.size (by omega) (by simp; omega)).trans HB0.out, h1⟩)
  go_loopw [4, 5] (fun v i wr => ∃ k : Nat, (k : Int) ≤ P ∧ i = .int .i64 k ∧ Drawn w0 b (W2.heap.size + 1) 0 256 k v wr) (fun _ i _ => P.toNat - (intOf i).toNat)
  case atStart => exact ⟨0, by omega, rfl, H0.out⟩
  case round =>
    clear H0
    obtain ⟨k, hk, rfl, hd⟩ := hrel
    obtain ⟨zs, hl, hz, ho, hst⟩ := hd
    have HZ := Lib.hid hz
    have HO := Lib.hid ho
    have HST := Lib.hid hst
    have HL := Lib.hid hl
    have hc := (heap_cellR (HBOX.out _ hst).1).1
    have hr1 := hst.2.size
    clear hz ho hst hl
    by_cases q2 : (k : Int) < P
    · go_wp2_with fail
      refine (l01Next_any b 256 _ HST.out.1 (by decide) (by decide)).mono ?_
      rintro e W3 ⟨r, rfl, u0, u1, hs3, hg3⟩
      have hst3 := stB_trans HST.out hs3 hg3
      have ho3 := own_src HO.out (by omega) hg3
      have hsz3 := hg3.size
      replace u1 : r ≤ 255 := by omega
      have HST3 := Lib.hid hst3
      have HO3 := Lib.hid ho3
      clear hst3 ho3 hs3 hg3 hc
      go_wp2_with fail
      refine (l01Next_any b 5 _ (HST3.out.1.kept (World.grownBy_alloc _ _ none) (by simp)) (by decide) (by decide)).mono ?_
      rintro e W4 ⟨r', rfl, v0, v1, hs4, hg4⟩
      obtain ⟨u, hu, z, rfl, hz0, hz4⟩ := tab_kept (n := 5) HST3.out.1.lt hg4 (fiveT (nB (lo := 0) (hi := 256) (r := 0) (by decide) (by decide)) (nB (lo := 0) (hi := 256) (r := 255) (by decide) (by decide)) (nB (lo := 0) (hi := 256) u0 (by omega)) (nB (lo := 0) (hi := 256) (r := 30) (by decide) (by decide)) (nB (lo := 0) (hi := 256) (r := 220) (by decide) (by decide))) v0 (by omega)
      have hg12 := grownBy_trans (World.grownBy_alloc W3 _ _) hg4
      have hst4 := stB_trans HST3.out hs4 hg12
      have ho4 := own_src HO3.out (by omega) hg12
      have hv : r' < 5 := by omega
      have hsz4 := hg12.size
      have HZ04 := Lib.hid (And.intro hz0 hz4)
      have HST4 := Lib.hid hst4
      have HO4 := Lib.hid ho4
      clear hst4 ho4 hg12 hg4 hs4 hz0 hz4
      obtain ⟨i0, hi, y0, y1, y2⟩ := info_parts infoI
      go_wp2_with (at_builtin; refine wpList_append_own _ rfl _ _ 22 rfl (W2.heap.size + 1) 2 i0 (.int .i64 0) 1 8 Try.underlying22 hi y0 y1 y2 rfl (by decide) _ _ _ rfl (World.ownsRow.alloc HO4.out _) ⟨W4.heap.size, 0, none⟩ 1 1 [.int .i64 z] rfl rfl (cell_one_new _ _ _) (ints_oneCell .i64 [z]) (by have := HL.out; unfold maxLen; omega) (by have := HL.out; omega) (by simp; omega) ?_; intro v' w3 hown3 hgrow3 _)
      have hd3 := drawn_more HO4.out HZ.out HZ04.out.1 HZ04.out.2 hown3 (stB_alloc HST4.out _) hgrow3 (by omega) (by omega)
      rw [HL.out] at hd3
      exact ⟨⟨k + 1, by omega, by go_num, hd3⟩, by simp [intOf]; omega⟩
    · go_wp2_with fail
      refine (l01Next_any b 30 _ HST.out.1 (by decide) (by decide)).mono ?_
      rintro e W3 ⟨r, rfl, u0, u1, hs3, hg3⟩
      have hst3 := stB_trans HST.out hs3 hg3
      have ho3 := own_src HO.out (by omega) hg3
      have hsz3 := hg3.size
      obtain ⟨hbx, hbr⟩ := HBOX.out _ hst3
      have HST3 := Lib.hid hst3
      have HO3 := Lib.hid ho3
      have hr : r = 0 ∨ r = 1 ∨ r = 2 ∨ 3 ≤ r := by omega
      clear hst3 ho3 hs3 hg3 hc u0 u1
      rcases hr with rfl | rfl | rfl | hr
      · obtain ⟨i0, hi, y0, y1, y2⟩ := info_parts infoI
        clear hbx hbr
        go_wp2_with (at_builtin; refine wpList_append_own _ rfl _ _ 22 rfl (W2.heap.size + 1) 2 i0 (.int .i64 0) 1 8 Try.underlying22 hi y0 y1 y2 rfl (by decide) _ _ _ rfl (World.ownsRow.alloc HO3.out _) ⟨W3.heap.size, 0, none⟩ 1 1 [.int .i64 0] rfl rfl (cell_one_new _ _ _) (ints_oneCell .i64 [0]) (by have := HL.out; unfold maxLen; omega) (by have := HL.out; omega) (by simp; omega) ?_; intro v' w3 hown3 hgrow3 _; have hst4 := stB_own (stB_alloc HST3.out _) HO3.out hgrow3 (by omega) (by omega); have HST4 := Lib.hid hst4; obtain ⟨hbx, hbr⟩ := HBOX.out _ hst4; have hwx := blkLt hbx; obtain ⟨a4, c4, ys, rfl, hyl, hys⟩ := own_snoc' hown3; have HYS := Lib.hid hys; have HYL := Lib.hid hyl; have hc := (heap_cellR hbx).1; have hcr := (heap_cellR hbr).1; have hfr := (heap_cellR hbr).2; clear hown3 hgrow3 hst4 hbx hbr hys hyl hi y0 y1 y2)
        exact bodyPost_ret (v := .agg #[.int .i64 (1 + r1), .int .i64 (1 + r2), .slice a4 ys.length c4]) (by simp [results, Try.results44, go_sem, hcr]) rfl (retRasD_of hlt (stB_up HG0.out HST4.out).2 HST4.out.1 (HYS.out.weak (by omega)) (by have := HYL.out; have := HL.out; omega))
      · go_wp2_with fail
        refine (l01Next_any b 2 _ (HST3.out.1.kept (World.grownBy_alloc _ _ none) (by simp)) (by decide) (by decide)).mono ?_
        rintro e W4 ⟨r', rfl, v0, v1, hs4, hg4⟩
        obtain ⟨u, hu, z, rfl, _, _⟩ := tab_kept (n := 2) HST3.out.1.lt hg4 (twoT (nB (lo := -1) (hi := 256) (r := -1) (by decide) (by decide)) (nB (lo := -1) (hi := 256) (r := 256) (by decide) (by decide))) v0 (by omega)
        have hg12 := grownBy_trans (World.grownBy_alloc W3 _ _) hg4
        have hst4 := stB_trans HST3.out hs4 hg12
        have ho4 := own_src HO3.out (by omega) hg12
        have hzl : 0 < zs.length := by have := HL.out; omega
        obtain ⟨a4, c4, rfl, _⟩ := ho4.read
        obtain ⟨g, rfl, hbg, hnn, hgl⟩ := ho4.block hzl
        obtain ⟨z0, hz00, hcg, hfg⟩ := ho4.cellAt rfl hzl
        obtain ⟨hbx4, hbr4⟩ := HBOX.out _ hst4
        have hc := (heap_cellR hbx4).1
        have hcr := (heap_cellR hbr4).1
        have hfr := (heap_cellR hbr4).2
        have hv : r' < 2 := by omega
        have n1 : ¬ g = W2.heap.size := by omega
        have n2 : ¬ g = w.heap.size := by omega
        have n3 : ¬ w.heap.size = g := by omega
        have n4 : ¬ W2.heap.size = g := by omega
        have hk1 : (0 : Int) < (zs.length : Int) := by omega
        have HST4 := Lib.hid hst4
        have HO4 := Lib.hid ho4
        clear hst4 ho4 hs4 hg4 hg12 hbx hbr hbx4 hbr4 hz00
        go_wp2_with fail
        have ho5 := (HO4.out.stored rfl 0 z).1
        rw [show zs.length = (zs.set 0 z).length by simp] at ho5 ⊢
        exact bodyPost_ret (v := .agg #[.int .i64 (1 + r1), .int .i64 (1 + r2), .slice (some ⟨g, 0, none⟩) (zs.set 0 z).length c4]) (by simp [results, Try.results44, go_sem, hcr]) rfl (retRasD_of hlt (stB_set (stB_up HG0.out HST4.out) (by omega) (by simp; omega)).2 (stB_set HST4.out (by omega) (by omega)).1 (ho5.weak (by omega)) (by have := HL.out; simp; omega))
      · go_wp2_with fail
        refine (l01Next_any b 2 _ (HST3.out.1.kept (World.grownBy_alloc _ _ none) (by simp)) (by decide) (by decide)).mono ?_
        rintro e W4 ⟨r', rfl, v0, v1, hs4, hg4⟩
        obtain ⟨u, hu, z, rfl, _, _⟩ := tab_kept (n := 2) HST3.out.1.lt hg4 (twoT (nB (lo := 0) (hi := 401) (r := 0) (by decide) (by decide)) (nB (lo := 0) (hi := 401) (r := 401) (by decide) (by decide))) v0 (by omega)
        have hg12 := grownBy_trans (World.grownBy_alloc W3 _ _) hg4
        have hst4 := stB_trans HST3.out hs4 hg12
        have ho4 := own_src HO3.out (by omega) hg12
        obtain ⟨a4, c4, rfl, _⟩ := ho4.read
        obtain ⟨hbx4, hbr4⟩ := HBOX.out _ hst4
        have hwx := blkLt hbx4
        have hc := (heap_cellR hbx4).1
        have hf := (heap_cellR hbx4).2
        have hcr := (heap_cellR hbr4).1
        have hfr := (heap_cellR hbr4).2
        have hv : r' < 2 := by omega
        have n3 : ¬ w.heap.size = W2.heap.size := by omega
        have n4 : ¬ W2.heap.size = w.heap.size := by omega
        have HST4 := Lib.hid hst4
        have HO4 := Lib.hid ho4
        clear hst4 ho4 hs4 hg4 hg12 hbx hbr hbx4 hbr4
        go_wp2_with fail
        exact bodyPost_ret (v := .agg #[.int .i64 z, .int .i64 (1 + r2), .slice a4 zs.length c4]) (by simp [results, Try.results44, go_sem, hcr]) rfl (retRasD_of hlt (stB_set (stB_up HG0.out HST4.out) (by omega) (by simp; omega)).2 (stB_set (stB_up HG0.out HST4.out) (by omega) (by simp; omega)).1 ((HO4.out.setOld (by dsimp only; omega) _).weak (by omega)) (by have := HL.out; omega))
      · have hc := (heap_cellR hbx).1
        have hcr := (heap_cellR hbr).1
        have hfr := (heap_cellR hbr).2
        obtain ⟨a4, c4, rfl, _⟩ := HO3.out.read
        clear hbx hbr
        go_wp2_with fail
        exact bodyPost_ret (v := .agg #[.int .i64 (1 + r1), .int .i64 (1 + r2), .slice a4 zs.length c4]) (by simp [results, Try.results44, go_sem, hcr]) rfl (retRasD_of hlt (stB_up HG0.out HST3.out).2 HST3.out.1 (HO3.out.weak (by omega)) (by have := HL.out; omega))

end Go.Proofs.Ythnjfdhijpfekaa
