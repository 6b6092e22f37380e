import Derived.Test.YtpilkgcghlfdmaaGreatDoorVDrwH
import Derived.Deep.DeepCutAuto
import Derived.Deep.CutBlock
namespace Go.Proofs.YtpilkgcghlfdmaaGreatDoor
open Go.RowKit

/-- a drawn damage: any numbers -/
def RetDmD (w : World) (b : Nat) (e : Ending) (w' : World) : Prop :=
  ∃ (k r c t v g : Int), e = .returned (.agg #[.int .i64 k, .int .i64 r, .int .i64 c, .int .i64 t, .int .i64 v, .int .i64 g]) ∧ Src w' b ∧ w.grownBy w' (some b)
/-- while a damage is drawn: it lies in box g -/
def StG (w0 : World) (b g : Nat) (cs : Array Value) (W : World) : Prop := StB b w0 W ∧ W.heap[g]? = some (.cells cs 30 (0, 0))
theorem StG.draw {w0 W W' : World} {b g : Nat} {cs : Array Value} (h : StG w0 b g cs W) (hbg : b < g) (hs : Src W' b) (hg : W.grownBy W' (some b)) : StG w0 b g cs W' :=
  ⟨stB_trans h.1 hs hg, (hg.block g (blkLt h.2) (fun e => by have := Option.some.inj e; omega)).trans h.2⟩
theorem StG.alloc {w0 W : World} {b g : Nat} {cs : Array Value} (h : StG w0 b g cs W) (o : Obj) : StG w0 b g cs (W.alloc o) := ⟨stB_alloc h.1 o, push_old h.2⟩
theorem StG.set {w0 W : World} {b g : Nat} {cs : Array Value} (h : StG w0 b g cs W) (hbg : b < g) (hwg : w0.heap.size ≤ g) (i : Nat) (v : Value) : StG w0 b g (cs.setIfInBounds i v) (W.setCell ⟨g, i, none⟩ v) :=
  ⟨stB_set h.1 hbg hwg, src_set h.2 i v⟩
theorem StG.cells {w0 W : World} {b g : Nat} {cs : Array Value} (h : StG w0 b g cs W) : (∀ i, W.cell? ⟨g, i, none⟩ = cs[i]?) ∧ (∀ i, W.frozen? ⟨g, i, none⟩ = false) := heap_cellR h.2
/-- six numbers in box g -/
def StG6 (w0 : World) (b g : Nat) (W : World) : Prop := ∃ k r c t v q : Int, StG w0 b g #[.int .i64 k, .int .i64 r, .int .i64 c, .int .i64 t, .int .i64 v, .int .i64 q] W
theorem stG_res {w W : World} {b g : Nat} {cs ds : Array Value} {t : TypeId} (h : StG (w.alloc (.cells ds t (0, 0))) b g cs W) (hlt : b < w.heap.size) : W.heap[w.heap.size]? = some (.cells ds t (0, 0)) :=
  (h.1.2.block w.heap.size (by simp) (fun e => by have := Option.some.inj e; omega)).trans (push_at _ _)
theorem retDmD_of {w W : World} {b g : Nat} {o : Obj} {cs : Array Value} {k r c t v q : Int} {v0 v1 v2 v3 v4 v5 : Value} (hlt : b < w.heap.size) (h : StG (w.alloc o) b g cs W) :
    RetDmD w b (.returned (.agg #[.int .i64 k, .int .i64 r, .int .i64 c, .int .i64 t, .int .i64 v, .int .i64 q])) ((((((W.setCell ⟨w.heap.size, 0, none⟩ v0).setCell ⟨w.heap.size, 1, none⟩ v1).setCell ⟨w.heap.size, 2, none⟩ v2).setCell ⟨w.heap.size, 3, none⟩ v3).setCell ⟨w.heap.size, 4, none⟩ v4).setCell ⟨w.heap.size, 5, none⟩ v5) := by
  have h0 : StB b w W := ⟨h.1.1, grownBy_trans (World.grownBy_alloc _ _ _) h.1.2⟩
  have h5 := stB_set (v := v5) (i := 5) (stB_set (v := v4) (i := 4) (stB_set (v := v3) (i := 3) (stB_set (v := v2) (i := 2) (stB_set (v := v1) (i := 1) (stB_set (v := v0) (i := 0) h0 hlt (Nat.le_refl _)) hlt (Nat.le_refl _)) hlt (Nat.le_refl _)) hlt (Nat.le_refl _)) hlt (Nat.le_refl _)) hlt (Nat.le_refl _)
  exact ⟨k, r, c, t, v, q, rfl, h5.1, h5.2⟩
theorem threeN {a b c : Int} : ∀ i, i < 3 → ∃ u, (#[.int .i64 a, .int .i64 b, .int .i64 c] : Array Value)[i]? = some u ∧ ∃ z : Int, u = .int .i64 z
  | 0, _ => ⟨_, rfl, _, rfl⟩
  | 1, _ => ⟨_, rfl, _, rfl⟩
  | 2, _ => ⟨_, rfl, _, rfl⟩
theorem twoN {a b : Int} : ∀ i, i < 2 → ∃ u, (#[.int .i64 a, .int .i64 b] : Array Value)[i]? = some u ∧ ∃ z : Int, u = .int .i64 z
  | 0, _ => ⟨_, rfl, _, rfl⟩
  | 1, _ => ⟨_, rfl, _, rfl⟩
theorem fourN {a b c d : Int} : ∀ i, i < 4 → ∃ u, (#[.int .i64 a, .int .i64 b, .int .i64 c, .int .i64 d] : Array Value)[i]? = some u ∧ ∃ z : Int, u = .int .i64 z
  | 0, _ => ⟨_, rfl, _, rfl⟩
  | 1, _ => ⟨_, rfl, _, rfl⟩
  | 2, _ => ⟨_, rfl, _, rfl⟩
  | 3, _ => ⟨_, rfl, _, rfl⟩

set_option maxRecDepth 100000 in
set_option maxHeartbeats 1000000 in
theorem l27Draw_any (b : Nat) (w : World) (hs : Src w b) :
    Calls Tryz.prog 47 #[.pointer (some ⟨b, 0, none⟩)] w (RetDmD w b) := by
  have hlt := hs.lt
  have HS := Lib.hid hs
  clear hs
  go_enter Tryz.func47, Tryz.ntmps47
  go_wp2_with fail
  refine (l01Next_any b 5 _ (HS.out.kept (World.grownBy_alloc _ _ none) (by simp)) (by decide) (by decide)).mono ?_
  rintro e W1 ⟨r1, rfl, p0, p1, hs, hg⟩
  have HS1 := Lib.hid hs
  have HG1 := Lib.hid hg
  replace p1 : r1 ≤ 4 := by omega
  clear hs hg
  go_wp2_with fail
  refine (l01Next_any b 30 _ HS1.out (by decide) (by decide)).mono ?_
  rintro e W2 ⟨r2, rfl, p2, p3, hs, hg⟩
  have HS2 := Lib.hid hs
  have HG2 := Lib.hid (grownBy_trans HG1.out hg)
  replace p3 : r2 ≤ 29 := by omega
  clear hs hg HS1 HG1
  go_wp2_with fail
  refine (l01Next_any b 30 _ HS2.out (by decide) (by decide)).mono ?_
  rintro e W3 ⟨r3, rfl, p4, p5, hs, hg⟩
  have HS3 := Lib.hid hs
  have HG3 := Lib.hid (grownBy_trans HG2.out hg)
  replace p5 : r3 ≤ 29 := by omega
  clear hs hg HS2 HG2
  go_wp2_with fail
  refine (l01Next_any b 9 _ HS3.out (by decide) (by decide)).mono ?_
  rintro e W4 ⟨r4, rfl, p6, p7, hs, hg⟩
  have HS4 := Lib.hid hs
  have HG4 := Lib.hid (grownBy_trans HG3.out hg)
  replace p7 : r4 ≤ 8 := by omega
  clear hs hg HS3 HG3
  go_wp2_with fail
  refine (l01Next_any b 9 _ HS4.out (by decide) (by decide)).mono ?_
  rintro e W5 ⟨r5, rfl, p8, p9, hs, hg⟩
  have HS5 := Lib.hid hs
  have HG5 := Lib.hid (grownBy_trans HG4.out hg)
  replace p9 : r5 ≤ 8 := by omega
  clear hs hg HS4 HG4
  go_wp2_with fail
  refine (l01Next_any b 256 _ HS5.out (by decide) (by decide)).mono ?_
  rintro e W6 ⟨r6, rfl, p10, p11, hs, hg⟩
  have HS6 := Lib.hid hs
  have HG6 := Lib.hid (grownBy_trans HG5.out hg)
  replace p11 : r6 ≤ 255 := by omega
  clear hs hg HS5 HG5
  go_wp2_with fail
  refine (l01Next_any b 3 _ (HS6.out.kept (World.grownBy_alloc _ _ none) (by simp)) (by decide) (by decide)).mono ?_
  rintro e W7 ⟨r7, rfl, p12, p13, hs, hg⟩
  obtain ⟨u, hu, q, rfl⟩ := tab_kept (n := 3) HS6.out.lt hg threeN p12 (by omega)
  have HS7 := Lib.hid hs
  have HG7 := Lib.hid (grownBy_trans HG6.out (grownBy_trans (World.grownBy_alloc _ _ _) hg))
  replace p13 : r7 ≤ 2 := by omega
  have hsz7 := HG7.out.size
  have hb7 := hs.lt
  rw [World.size_alloc] at hsz7
  clear hs hg HS6 HG6
  go_upto_block 0 with fail
  have H0 : Hid (StG (w.alloc (.cells #[.int .i64 0, .int .i64 0, .int .i64 0, .int .i64 0, .int .i64 0, .int .i64 0] 30 (0, 0))) b W7.heap.size #[.int .i64 (1 + r1), .int .i64 r2, .int .i64 r3, .int .i64 (1 + r4), .int .i64 (1 + r5), .int .i64 q] (W7.alloc (.cells #[.int .i64 (1 + r1), .int .i64 r2, .int .i64 r3, .int .i64 (1 + r4), .int .i64 (1 + r5), .int .i64 q] 30 (0, 0)))) :=
    Lib.hid ⟨stB_alloc ⟨HS7.out, HG7.out⟩ _, push_at _ _⟩
  have hgb : b < W7.heap.size := hb7
  have hgw : (w.alloc (.cells #[.int .i64 0, .int .i64 0, .int .i64 0, .int .i64 0, .int .i64 0, .int .i64 0] 30 (0, 0))).heap.size ≤ W7.heap.size := by rw [World.size_alloc]; omega
  generalize W7.alloc (.cells #[.int .i64 (1 + r1), .int .i64 r2, .int .i64 r3, .int .i64 (1 + r4), .int .i64 (1 + r5), .int .i64 q] 30 (0, 0)) = W8 at *
  obtain ⟨g, hge⟩ : ∃ g, W7.heap.size = g := ⟨_, rfl⟩
  rw [hge] at H0 hgb hgw ⊢
  clear hge hb7 hsz7 HS7 HG7
  go_cut [] (fun wx => StG6 (w.alloc (.cells #[.int .i64 0, .int .i64 0, .int .i64 0, .int .i64 0, .int .i64 0, .int .i64 0] 30 (0, 0))) b g wx)
  case first =>
    obtain ⟨hc, hf⟩ := H0.out.cells
    have hgl := blkLt H0.out.2
    rcases (show r1 = 0 ∨ r1 = 1 ∨ r1 = 2 ∨ r1 = 3 ∨ r1 = 4 by omega) with rfl | rfl | rfl | rfl | rfl
    · go_wp2_with fail
      go_meet
      exact ⟨_, _, _, _, _, _, H0.out.set hgb hgw 4 _⟩
    · go_wp2_with fail
      go_meet
      exact ⟨_, _, _, _, _, _, H0.out⟩
    · go_wp2_with fail
      go_meet
      exact ⟨_, _, _, _, _, _, (((((H0.out.set hgb hgw 0 (.int .i64 _)).set hgb hgw 1 (.int .i64 _)).set hgb hgw 2 (.int .i64 _)).set hgb hgw 3 (.int .i64 _)).set hgb hgw 4 (.int .i64 _)).set hgb hgw 5 (.int .i64 _)⟩
    · go_wp2_with fail
      go_meet
      exact ⟨_, _, _, _, _, _, (H0.out.set hgb hgw 2 _).set hgb hgw 4 _⟩
    · go_wp2_with fail
      clear hc hf
      refine wp_region_rs (Keep := KeepB b) [49, 50, 51, 52, 53, 54, 55] (fun us => _)
        [spEq b (.pointer (some ⟨g, 0, none⟩)), spEq b (.int .i64 (1 + 4)), spEq b (.pointer (some ⟨b, 0, none⟩)), spV b (NumB 0 256), spEq b (.pointer (some ⟨g, 5, none⟩)), spEq b (.int .i64 q), spV b (fun v => ∃ z : Int, v = .agg #[.int .i64 (1 + 4), .int .i64 0, .int .i64 0, .int .i64 z, .int .i64 0, .int .i64 q])]
        (StG (w.alloc (.cells #[.int .i64 0, .int .i64 0, .int .i64 0, .int .i64 0, .int .i64 0, .int .i64 0] 30 (0, 0))) b g #[.int .i64 (1 + 4), .int .i64 r2, .int .i64 r3, .int .i64 (1 + r4), .int .i64 (1 + r5), .int .i64 q]) (by kernel_rfl) (by kernel_rfl) (Nat.le_of_ble_eq_true rfl) (fun us => by simp [over, List.mapIdx_cons]; exact rfl) ?_ (fun w => World.grownBy.refl _ _) ?_ ?_
      · exact H0.out.draw hgb (H0.out.1.1.kept (grownBy_drewN _ 1 none) (by simp)) (grownBy_drewN _ 1 _)
      · refine ⟨?_, ?_, ?_, ?_, ?_, ?_, ?_, trivial⟩
        all_goals (intro us wr hst hd; rw [if_pos (by kernel_rfl)]; dsimp only)
        · clear hd
          go_simp
          exact ⟨hst, World.grownBy.refl _ _, rfl⟩
        · have d0 : us 49 = .pointer (some ⟨g, 0, none⟩) := hd ⟨0, .data⟩ (by simp) rfl
          clear hd
          have hB := hst.cells.1
          go_simp
          exact ⟨hst, World.grownBy.refl _ _, rfl⟩
        · clear hd
          go_simp
          exact ⟨hst, World.grownBy.refl _ _, rfl⟩
        · have d0 : us 51 = .pointer (some ⟨b, 0, none⟩) := hd ⟨2, .data⟩ (by simp) rfl
          clear hd
          go_simp
          exact (l01Next_any b 257 _ hst.1.1 (by decide) (by decide)).mono fun e w' ⟨r, he, h0, h1, hs, hg⟩ => ⟨_, he, hst.draw hgb hs hg, hg, r, rfl, h0, by omega⟩
        · clear hd
          go_simp
          exact ⟨hst, World.grownBy.refl _ _, rfl⟩
        · have d0 : us 53 = .pointer (some ⟨g, 5, none⟩) := hd ⟨4, .data⟩ (by simp) rfl
          clear hd
          have hB := hst.cells.1
          go_simp
          exact ⟨hst, World.grownBy.refl _ _, rfl⟩
        · have d0 : us 50 = .int .i64 (1 + 4) := hd ⟨1, .data⟩ (by simp) rfl
          have d1 : NumB 0 256 (us 52) := hd ⟨3, .data⟩ (by simp) rfl
          have d2 : us 54 = .int .i64 q := hd ⟨5, .data⟩ (by simp) rfl
          clear hd
          obtain ⟨z, ez, _, _⟩ := d1
          go_simp
          exact ⟨hst, World.grownBy.refl _ _, z, rfl⟩
      · intro us wr hst hd
        have d55 : ∃ z : Int, us 55 = .agg #[.int .i64 (1 + 4), .int .i64 0, .int .i64 0, .int .i64 z, .int .i64 0, .int .i64 q] := hd 6 (by simp)
        clear hd
        obtain ⟨z, ez⟩ := d55
        obtain ⟨hc, hf⟩ := hst.cells
        have HST := Lib.hid hst
        clear hst
        simp only [List.drop, List.length]
        rw [ez]
        clear ez
        go_wp2_with fail
        go_meet
        exact ⟨_, _, _, _, _, _, (((((HST.out.set hgb hgw 0 (.int .i64 _)).set hgb hgw 1 (.int .i64 _)).set hgb hgw 2 (.int .i64 _)).set hgb hgw 3 (.int .i64 _)).set hgb hgw 4 (.int .i64 _)).set hgb hgw 5 (.int .i64 _)⟩
  case rest =>
    clear H0
    obtain ⟨k2, r2', c2, t2, v2, q2, hst⟩ := hcut
    have HST := Lib.hid hst
    clear hst
    go_wp2_with fail
    refine (l01Next_any b 30 _ HST.out.1.1 (by decide) (by decide)).mono ?_
    rintro e W9 ⟨r9, rfl, s0, s1, hs, hg⟩
    have HST9 := Lib.hid (HST.out.draw hgb hs hg)
    have hr : r9 = 0 ∨ r9 = 1 ∨ r9 = 2 ∨ r9 = 3 ∨ r9 = 4 ∨ 5 ≤ r9 := by omega
    clear hs hg HST
    go_upto_block 1 with fail
    go_cut [] (fun wx => StG6 (w.alloc (.cells #[.int .i64 0, .int .i64 0, .int .i64 0, .int .i64 0, .int .i64 0, .int .i64 0] 30 (0, 0))) b g wx)
    case first =>
     rcases hr with rfl | rfl | rfl | rfl | rfl | hr
     · go_wp2_with fail
       refine (l01Next_any b 2 _ (HST9.out.1.1.kept (World.grownBy_alloc _ _ none) (by simp)) (by decide) (by decide)).mono ?_
       rintro e W10 ⟨r10, rfl, z0, z1, hs, hg⟩
       obtain ⟨u, hu, z, rfl⟩ := tab_kept (n := 2) HST9.out.1.1.lt hg twoN z0 (by omega)
       have hst10 := (HST9.out.alloc _).draw hgb hs hg
       obtain ⟨hc, hf⟩ := hst10.cells
       have hv : r10 < 2 := by omega
       have HST10 := Lib.hid hst10
       clear hs hg hst10
       go_wp2_with fail
       go_meet
       exact ⟨_, _, _, _, _, _, HST10.out.set hgb hgw 0 _⟩
     · go_wp2_with fail
       refine (l01Next_any b 4 _ (HST9.out.1.1.kept (World.grownBy_alloc _ _ none) (by simp)) (by decide) (by decide)).mono ?_
       rintro e W10 ⟨r10, rfl, z0, z1, hs, hg⟩
       obtain ⟨u, hu, z, rfl⟩ := tab_kept (n := 4) HST9.out.1.1.lt hg fourN z0 (by omega)
       have hst10 := (HST9.out.alloc _).draw hgb hs hg
       obtain ⟨hc, hf⟩ := hst10.cells
       have hv : r10 < 4 := by omega
       have HST10 := Lib.hid hst10
       clear hs hg hst10
       go_wp2_with fail
       go_meet
       exact ⟨_, _, _, _, _, _, HST10.out.set hgb hgw 3 _⟩
     · go_wp2_with fail
       refine (l01Next_any b 4 _ (HST9.out.1.1.kept (World.grownBy_alloc _ _ none) (by simp)) (by decide) (by decide)).mono ?_
       rintro e W10 ⟨r10, rfl, z0, z1, hs, hg⟩
       obtain ⟨u, hu, z, rfl⟩ := tab_kept (n := 4) HST9.out.1.1.lt hg fourN z0 (by omega)
       have hst10 := (HST9.out.alloc _).draw hgb hs hg
       obtain ⟨hc, hf⟩ := hst10.cells
       have hv : r10 < 4 := by omega
       have HST10 := Lib.hid hst10
       clear hs hg hst10
       go_wp2_with fail
       go_meet
       exact ⟨_, _, _, _, _, _, HST10.out.set hgb hgw 4 _⟩
     · go_wp2_with fail
       refine (l01Next_any b 2 _ (HST9.out.1.1.kept (World.grownBy_alloc _ _ none) (by simp)) (by decide) (by decide)).mono ?_
       rintro e W10 ⟨r10, rfl, z0, z1, hs, hg⟩
       obtain ⟨u, hu, z, rfl⟩ := tab_kept (n := 2) HST9.out.1.1.lt hg twoN z0 (by omega)
       have hst10 := (HST9.out.alloc _).draw hgb hs hg
       obtain ⟨hc, hf⟩ := hst10.cells
       have hv : r10 < 2 := by omega
       have HST10 := Lib.hid hst10
       clear hs hg hst10
       go_wp2_with fail
       go_meet
       exact ⟨_, _, _, _, _, _, HST10.out.set hgb hgw 5 _⟩
     · go_wp2_with fail
       refine (l01Next_any b 4 _ (HST9.out.1.1.kept (World.grownBy_alloc _ _ none) (by simp)) (by decide) (by decide)).mono ?_
       rintro e W10 ⟨r10, rfl, z0, z1, hs, hg⟩
       obtain ⟨u, hu, z, rfl⟩ := tab_kept (n := 4) HST9.out.1.1.lt hg fourN z0 (by omega)
       have hst10 := (HST9.out.alloc _).draw hgb hs hg
       obtain ⟨hc, hf⟩ := hst10.cells
       have hv : r10 < 4 := by omega
       have HST10 := Lib.hid hst10
       clear hs hg hst10
       go_wp2_with fail
       go_meet
       exact ⟨_, _, _, _, _, _, HST10.out.set hgb hgw 1 _⟩
     · go_wp2_with fail
       go_meet
       exact ⟨_, _, _, _, _, _, HST9.out⟩
    case rest =>
      clear HST9
      obtain ⟨k3, r3', c3, t3, v3, q3, hst⟩ := hcut
      obtain ⟨hc, hf⟩ := hst.cells
      have hres := stG_res hst hlt
      obtain ⟨hcr, hfr⟩ := heap_cellR hres
      have HST := Lib.hid hst
      clear hst hres
      go_wp2_with fail
      exact bodyPost_ret (v := .agg #[.int .i64 k3, .int .i64 r3', .int .i64 c3, .int .i64 t3, .int .i64 v3, .int .i64 q3]) (by simp [results, Tryz.results47, go_sem, hcr]) rfl (retDmD_of hlt HST.out)

end Go.Proofs.YtpilkgcghlfdmaaGreatDoor
