import Derived.Test.YthnjfdhijpfekaaVDraw27
namespace Go.Proofs.Ythnjfdhijpfekaa
open Go.RowKit

/-- a drawn print: any numbers -/
def RetPrD (w : World) (b : Nat) (e : Ending) (w' : World) : Prop :=
  ∃ (k r c t v g : Int), e = .returned (.agg #[.int .i64 k, .int .i64 r, .int .i64 c, .int .i64 t, .int .i64 v, .int .i64 g]) ∧ Src w' b ∧ w.grownBy w' (some b)
/-- while a print is drawn: it lies in box g -/
def StP (w0 : World) (b g : Nat) (cs : Array Value) (W : World) : Prop := StB b w0 W ∧ W.heap[g]? = some (.cells cs 54 (0, 0))
theorem StP.draw {w0 W W' : World} {b g : Nat} {cs : Array Value} (h : StP w0 b g cs W) (hbg : b < g) (hs : Src W' b) (hg : W.grownBy W' (some b)) : StP w0 b g cs W' :=
  ⟨stB_trans h.1 hs hg, (hg.block g (blkLt h.2) (fun e => by have := Option.some.inj e; omega)).trans h.2⟩
theorem StP.alloc {w0 W : World} {b g : Nat} {cs : Array Value} (h : StP w0 b g cs W) (o : Obj) : StP w0 b g cs (W.alloc o) := ⟨stB_alloc h.1 o, push_old h.2⟩
theorem StP.set {w0 W : World} {b g : Nat} {cs : Array Value} (h : StP w0 b g cs W) (hbg : b < g) (hwg : w0.heap.size ≤ g) (i : Nat) (v : Value) : StP w0 b g (cs.setIfInBounds i v) (W.setCell ⟨g, i, none⟩ v) :=
  ⟨stB_set h.1 hbg hwg, src_set h.2 i v⟩
theorem StP.cells {w0 W : World} {b g : Nat} {cs : Array Value} (h : StP w0 b g cs W) : (∀ i, W.cell? ⟨g, i, none⟩ = cs[i]?) ∧ (∀ i, W.frozen? ⟨g, i, none⟩ = false) := heap_cellR h.2
/-- six numbers in box g -/
def StP6 (w0 : World) (b g : Nat) (W : World) : Prop := ∃ k r c t v q : Int, StP w0 b g #[.int .i64 k, .int .i64 r, .int .i64 c, .int .i64 t, .int .i64 v, .int .i64 q] W
theorem stP_res {w W : World} {b g : Nat} {cs ds : Array Value} {t : TypeId} (h : StP (w.alloc (.cells ds t (0, 0))) b g cs W) (hlt : b < w.heap.size) : W.heap[w.heap.size]? = some (.cells ds t (0, 0)) :=
  (h.1.2.block w.heap.size (by simp) (fun e => by have := Option.some.inj e; omega)).trans (push_at _ _)
theorem retPrD_of {w W : World} {b g : Nat} {o : Obj} {cs : Array Value} {k r c t v q : Int} {v0 v1 v2 v3 v4 v5 : Value} (hlt : b < w.heap.size) (h : StP (w.alloc o) b g cs W) :
    RetPrD w b (.returned (.agg #[.int .i64 k, .int .i64 r, .int .i64 c, .int .i64 t, .int .i64 v, .int .i64 q])) ((((((W.setCell ⟨w.heap.size, 0, none⟩ v0).setCell ⟨w.heap.size, 1, none⟩ v1).setCell ⟨w.heap.size, 2, none⟩ v2).setCell ⟨w.heap.size, 3, none⟩ v3).setCell ⟨w.heap.size, 4, none⟩ v4).setCell ⟨w.heap.size, 5, none⟩ v5) := by
  have h0 : StB b w W := ⟨h.1.1, grownBy_trans (World.grownBy_alloc _ _ _) h.1.2⟩
  have h5 := stB_set (v := v5) (i := 5) (stB_set (v := v4) (i := 4) (stB_set (v := v3) (i := 3) (stB_set (v := v2) (i := 2) (stB_set (v := v1) (i := 1) (stB_set (v := v0) (i := 0) h0 hlt (Nat.le_refl _)) hlt (Nat.le_refl _)) hlt (Nat.le_refl _)) hlt (Nat.le_refl _)) hlt (Nat.le_refl _)) hlt (Nat.le_refl _)
  exact ⟨k, r, c, t, v, q, rfl, h5.1, h5.2⟩

theorem sp_same {w0 W : World} {b g : Nat} {cs : Array Value} {s : Sp (KeepB b)} {v : Value} (hst : StP w0 b g cs W) (h : s.holds v W) : RsR (StP w0 b g cs) s W v W := ⟨hst, World.grownBy.refl _ _, h⟩
theorem sp_next {w0 W : World} {b g : Nat} {cs : Array Value} {n : Int} (hst : StP w0 b g cs W) (hbg : b < g) (h1 : 1 ≤ n) (h2 : n ≤ 1152921504606846976) :
    Calls Try.prog 58 #[.pointer (some ⟨b, 0, none⟩), .int .i64 n] W fun e W' => ∃ v, e = .returned v ∧ RsR (StP w0 b g cs) (spV b (NumB 0 (n - 1))) W v W' :=
  (l01Next_any b n W hst.1.1 (by omega) h2).mono fun e w' ⟨r, he, r0, r1, hs, hg⟩ => ⟨_, he, hst.draw hbg hs hg, hg, r, rfl, r0, by omega⟩
theorem sp_tab {w0 W : World} {b g n : Nat} {cs : Array Value} {p : Value → Prop} {C : Array Value} {t : TypeId} (hst : StP w0 b g cs W) (hn : ∀ i, i < n → ∃ u, C[i]? = some u ∧ p u) :
    RsR (StP w0 b g cs) (spTab b n p) W (.slice (some ⟨W.heap.size, 0, none⟩) n n) (W.alloc (.cells C t (0, 0))) :=
  ⟨hst.alloc _, World.grownBy_alloc _ _ _, _, rfl, hst.1.1.lt, fun i hi => by
    obtain ⟨u, h1, h2⟩ := hn i hi
    exact ⟨u, by rw [box1 (Below.refl _ _)]; exact h1, h2⟩⟩

set_option maxRecDepth 100000 in
set_option maxHeartbeats 1000000 in
theorem l21Draw_any (b : Nat) (w : World) (hs : Src w b) :
    Calls Try.prog 59 #[.pointer (some ⟨b, 0, none⟩)] w (RetPrD w b) := by
  have hlt := hs.lt
  have HS := Lib.hid hs
  clear hs
  go_enter Try.func59, Try.ntmps59
  go_wp2_with fail
  refine (l01Next_any b 4 _ (HS.out.kept (World.grownBy_alloc _ _ none) (by simp)) (by decide) (by decide)).mono ?_
  rintro e W1 ⟨r1, rfl, p0, p1, hs, hg⟩
  have HS1 := Lib.hid hs
  have HG1 := Lib.hid hg
  replace p1 : r1 ≤ 3 := by omega
  clear hs hg
  go_wp2_with fail
  refine (l01Next_any b 4 _ HS1.out (by decide) (by decide)).mono ?_
  rintro e W2 ⟨r2, rfl, q2, v2, hs, hg⟩
  have HS2 := Lib.hid hs
  have HG2 := Lib.hid (grownBy_trans HG1.out hg)
  replace v2 : r2 ≤ 3 := by omega
  clear hs hg HS1 HG1
  go_wp2_with fail
  refine (l01Next_any b 4 _ HS2.out (by decide) (by decide)).mono ?_
  rintro e W3 ⟨r3, rfl, q3, v3, hs, hg⟩
  have HS3 := Lib.hid hs
  have HG3 := Lib.hid (grownBy_trans HG2.out hg)
  replace v3 : r3 ≤ 3 := by omega
  clear hs hg HS2 HG2
  go_wp2_with fail
  refine (l01Next_any b 60 _ HS3.out (by decide) (by decide)).mono ?_
  rintro e W4 ⟨r4, rfl, q4, v4, hs, hg⟩
  have HS4 := Lib.hid hs
  have HG4 := Lib.hid (grownBy_trans HG3.out hg)
  replace v4 : r4 ≤ 59 := by omega
  clear hs hg HS3 HG3
  go_wp2_with fail
  refine (l01Next_any b 106 _ HS4.out (by decide) (by decide)).mono ?_
  rintro e W5 ⟨r5, rfl, q5, v5, hs, hg⟩
  have HS5 := Lib.hid hs
  have HG5 := Lib.hid (grownBy_trans HG4.out hg)
  replace v5 : r5 ≤ 105 := by omega
  have hsz7 := HG5.out.size
  have hb7 := hs.lt
  rw [World.size_alloc] at hsz7
  clear hs hg HS4 HG4
  go_wp2_with fail
  have H0 : Hid (StP (w.alloc (.cells #[.int .i64 0, .int .i64 0, .int .i64 0, .int .i64 0, .int .i64 0, .int .i64 0] 54 (0, 0))) b W5.heap.size #[.int .i64 (1 + r1), .int .i64 (1 + r2), .int .i64 r3, .int .i64 0, .int .i64 r4, .int .i64 (150 + r5)] (W5.alloc (.cells #[.int .i64 (1 + r1), .int .i64 (1 + r2), .int .i64 r3, .int .i64 0, .int .i64 r4, .int .i64 (150 + r5)] 54 (0, 0)))) :=
    Lib.hid ⟨stB_alloc ⟨HS5.out, HG5.out⟩ _, push_at _ _⟩
  have hgb : b < W5.heap.size := hb7
  have hgw : (w.alloc (.cells #[.int .i64 0, .int .i64 0, .int .i64 0, .int .i64 0, .int .i64 0, .int .i64 0] 54 (0, 0))).heap.size ≤ W5.heap.size := by rw [World.size_alloc]; omega
  generalize W5.alloc (.cells #[.int .i64 (1 + r1), .int .i64 (1 + r2), .int .i64 r3, .int .i64 0, .int .i64 r4, .int .i64 (150 + r5)] 54 (0, 0)) = W8 at *
  obtain ⟨g, hge⟩ : ∃ g, W5.heap.size = g := ⟨_, rfl⟩
  rw [hge] at H0 hgb hgw ⊢
  clear hge hb7 hsz7 HS5 HG5
  refine wp_region_rs (Keep := KeepB b) [18, 19, 20, 21, 22, 23, 24, 25, 26, 27, 28] (fun us => _)
    [spEq b (.pointer (some ⟨b, 0, none⟩)), spEq b (.pointer (some ⟨g, 0, none⟩)), spEq b (.int .i64 (1 + r1)), spEq b (.int .i64 (2 * (1 + r1))), spEq b (.int .i64 (2 * (1 + r1) - 1)), spV b (NumB 0 (2 * (1 + r1) - 1 - 1)), spEq b (.pointer (some ⟨g, 0, none⟩)), spEq b (.int .i64 (1 + r1)), spV b (NumB (-10) 10), spV b (NumB (-10) 11), spEq b (.pointer (some ⟨g, 3, none⟩))]
    (StP (w.alloc (.cells #[.int .i64 0, .int .i64 0, .int .i64 0, .int .i64 0, .int .i64 0, .int .i64 0] 54 (0, 0))) b g #[.int .i64 (1 + r1), .int .i64 (1 + r2), .int .i64 r3, .int .i64 0, .int .i64 r4, .int .i64 (150 + r5)]) (by kernel_rfl) (by kernel_rfl) (Nat.le_of_ble_eq_true rfl) (fun us => by simp [over, List.mapIdx_cons]; exact rfl) ?_ (fun w => World.grownBy.refl _ _) ?_ ?_
  · exact H0.out.draw hgb (H0.out.1.1.kept (grownBy_drewN _ 1 none) (by simp)) (grownBy_drewN _ 1 _)
  · refine ⟨?_, ?_, ?_, ?_, ?_, ?_, ?_, ?_, ?_, ?_, ?_, trivial⟩
    all_goals (intro us wr hst hd; rw [if_pos (by kernel_rfl)]; dsimp only)
    · clear hd
      go_simp
      exact sp_same hst rfl
    · clear hd
      go_simp
      exact sp_same hst rfl
    · have d0 : us 19 = .pointer (some ⟨g, 0, none⟩) := hd ⟨1, .data⟩ (by simp) rfl
      clear hd
      have hB := hst.cells.1
      go_simp
      exact sp_same hst rfl
    · have d0 : us 20 = .int .i64 (1 + r1) := hd ⟨2, .data⟩ (by simp) rfl
      clear hd
      have hw1 : IntKind.i64.wrap (2 * (1 + r1)) = 2 * (1 + r1) := IntWalk.i64_in _ (by omega)
      go_simp
      exact sp_same hst rfl
    · have d0 : us 21 = .int .i64 (2 * (1 + r1)) := hd ⟨3, .data⟩ (by simp) rfl
      clear hd
      have hw1 : IntKind.i64.wrap (2 * (1 + r1) - 1) = 2 * (1 + r1) - 1 := IntWalk.i64_in _ (by omega)
      go_simp
      exact sp_same hst rfl
    · have d0 : us 18 = .pointer (some ⟨b, 0, none⟩) := hd ⟨0, .data⟩ (by simp) rfl
      have d1 : us 22 = .int .i64 (2 * (1 + r1) - 1) := hd ⟨4, .data⟩ (by simp) rfl
      clear hd
      go_simp
      exact sp_next hst hgb (by omega) (by omega)
    · clear hd
      go_simp
      exact sp_same hst rfl
    · have d0 : us 24 = .pointer (some ⟨g, 0, none⟩) := hd ⟨6, .data⟩ (by simp) rfl
      clear hd
      have hB := hst.cells.1
      go_simp
      exact sp_same hst rfl
    · have d0 : NumB 0 (2 * (1 + r1) - 1 - 1) (us 23) := hd ⟨5, .data⟩ (by simp) rfl
      have d1 : us 25 = .int .i64 (1 + r1) := hd ⟨7, .data⟩ (by simp) rfl
      clear hd
      obtain ⟨z, ez, z0, z1⟩ := d0
      have hw1 : IntKind.i64.wrap (z - (1 + r1)) = z - (1 + r1) := IntWalk.i64_in _ (by omega)
      go_simp
      exact sp_same hst ⟨_, rfl, by omega, by omega⟩
    · have d0 : NumB (-10) 10 (us 26) := hd ⟨8, .data⟩ (by simp) rfl
      clear hd
      obtain ⟨z, ez, z0, z1⟩ := d0
      have hw1 : IntKind.i64.wrap (z + 1) = z + 1 := IntWalk.i64_in _ (by omega)
      go_simp
      exact sp_same hst ⟨_, rfl, by omega, by omega⟩
    · clear hd
      go_simp
      exact sp_same hst rfl
  intro us wr hst hd
  have d27 : NumB (-10) 11 (us 27) := hd 9 (by simp)
  have d28 : us 28 = .pointer (some ⟨g, 3, none⟩) := hd 10 (by simp)
  clear hd H0
  obtain ⟨z3, ez, _, _⟩ := d27
  obtain ⟨hc, hf⟩ := hst.cells
  have HST := Lib.hid hst
  clear hst
  simp only [List.drop, List.length]
  rw [ez, d28]
  go_wp2_with fail
  have HST2 := Lib.hid (HST.out.set hgb hgw 3 (.int .i64 z3))
  refine (l01Next_any b 30 _ HST2.out.1.1 (by decide) (by decide)).mono ?_
  rintro e W9 ⟨r9, rfl, s0, s1, hs, hg⟩
  have h9 : StP (w.alloc (.cells #[.int .i64 0, .int .i64 0, .int .i64 0, .int .i64 0, .int .i64 0, .int .i64 0] 54 (0, 0))) b g #[.int .i64 (1 + r1), .int .i64 (1 + r2), .int .i64 r3, .int .i64 z3, .int .i64 r4, .int .i64 (150 + r5)] W9 := HST2.out.draw hgb hs hg
  have HST9 := Lib.hid h9
  have hr : r9 = 0 ∨ r9 = 1 ∨ r9 = 2 ∨ r9 = 3 ∨ 4 ≤ r9 := by omega
  clear hs hg HST HST2 h9 hc hf ez d28
  go_upto_block 0 with fail
  go_cut [] (fun wx => StP6 (w.alloc (.cells #[.int .i64 0, .int .i64 0, .int .i64 0, .int .i64 0, .int .i64 0, .int .i64 0] 54 (0, 0))) b g wx)
  case first =>
    rcases hr with rfl | rfl | rfl | rfl | hr
    · go_wp2_with fail
      refine (l01Next_any b 3 _ (HST9.out.1.1.kept (World.grownBy_alloc _ _ none) (by simp)) (by decide) (by decide)).mono ?_
      rintro e W10 ⟨r10, rfl, z0, z1, hs, hg⟩
      obtain ⟨u, hu, z, rfl⟩ := tab_kept (n := 3) HST9.out.1.1.lt hg threeN z0 (by omega)
      have hst10 := (HST9.out.alloc _).draw hgb hs hg
      obtain ⟨hc, hf⟩ := hst10.cells
      have hv : r10 < 3 := by omega
      have HST10 := Lib.hid hst10
      clear hs hg hst10
      go_wp2_with fail
      go_meet
      exact ⟨_, _, _, _, _, _, HST10.out.set hgb hgw 0 _⟩
    · go_wp2_with fail
      refine wp_region_rs (Keep := KeepB b) [41, 42, 43, 44, 45, 46, 47, 48, 49, 50, 51] (fun us => _)
        [spEq b (.pointer (some ⟨g, 0, none⟩)), spEq b (.int .i64 (1 + r1)), spEq b (.pointer (some ⟨g, 0, none⟩)), spEq b (.int .i64 (1 + r1)), spV b (fun u => ∃ z : Int, u = .int .i64 z), spTab b 2 (fun u => ∃ z : Int, u = .int .i64 z), spEq b (.pointer (some ⟨b, 0, none⟩)), spV b (NumB 0 (2 - 1)), spAt b (fun u => ∃ z : Int, u = .int .i64 z), spV b (fun u => ∃ z : Int, u = .int .i64 z), spEq b (.pointer (some ⟨g, 3, none⟩))]
        (StP (w.alloc (.cells #[.int .i64 0, .int .i64 0, .int .i64 0, .int .i64 0, .int .i64 0, .int .i64 0] 54 (0, 0))) b g #[.int .i64 (1 + r1), .int .i64 (1 + r2), .int .i64 r3, .int .i64 z3, .int .i64 r4, .int .i64 (150 + r5)]) (by kernel_rfl) (by kernel_rfl) (Nat.le_of_ble_eq_true rfl) (fun us => by simp [over, List.mapIdx_cons]; exact rfl) ?_ (fun w => World.grownBy.refl _ _) ?_ ?_
      · exact HST9.out.draw hgb (HST9.out.1.1.kept (grownBy_drewN _ 1 none) (by simp)) (grownBy_drewN _ 1 _)
      · refine ⟨?_, ?_, ?_, ?_, ?_, ?_, ?_, ?_, ?_, ?_, ?_, trivial⟩
        all_goals (intro us wr hst hd; rw [if_pos (by kernel_rfl)]; dsimp only)
        · clear hd
          go_simp
          exact sp_same hst rfl
        · have d0 : us 41 = .pointer (some ⟨g, 0, none⟩) := hd ⟨0, .data⟩ (by simp) rfl
          clear hd
          have hB := hst.cells.1
          go_simp
          exact sp_same hst rfl
        · clear hd
          go_simp
          exact sp_same hst rfl
        · have d0 : us 43 = .pointer (some ⟨g, 0, none⟩) := hd ⟨2, .data⟩ (by simp) rfl
          clear hd
          have hB := hst.cells.1
          go_simp
          exact sp_same hst rfl
        · have d0 : us 44 = .int .i64 (1 + r1) := hd ⟨3, .data⟩ (by simp) rfl
          clear hd
          go_simp
          exact sp_same hst ⟨_, rfl⟩
        · have d0 : us 42 = .int .i64 (1 + r1) := hd ⟨1, .data⟩ (by simp) rfl
          have d1 : ∃ z : Int, us 45 = .int .i64 z := hd ⟨4, .data⟩ (by simp) rfl
          clear hd
          obtain ⟨z, ez⟩ := d1
          go_simp
          exact sp_tab hst twoN
        · clear hd
          go_simp
          exact sp_same hst rfl
        · have d0 : us 47 = .pointer (some ⟨b, 0, none⟩) := hd ⟨6, .data⟩ (by simp) rfl
          clear hd
          go_simp
          exact sp_next hst hgb (by decide) (by decide)
        · have d0 : TabP b 2 (fun u => ∃ z : Int, u = .int .i64 z) (us 46) wr := hd ⟨5, .data⟩ (by simp) rfl
          have d1 : NumB 0 (2 - 1) (us 48) := hd ⟨7, .data⟩ (by simp) rfl
          clear hd
          obtain ⟨gt, et, hgt, htab⟩ := d0
          obtain ⟨y, ey, y0, y1⟩ := d1
          obtain ⟨u, hu, hp⟩ := htab y.toNat (by omega)
          have hy2 : y < 2 := by omega
          go_simp
          exact sp_same hst ⟨gt, y.toNat, u, rfl, hgt, hu, hp⟩
        · have d0 : AtP b (fun u => ∃ z : Int, u = .int .i64 z) (us 49) wr := hd ⟨8, .data⟩ (by simp) rfl
          clear hd
          obtain ⟨gt, j, u, et, hgt, hu, z, rfl⟩ := d0
          go_simp
          exact sp_same hst ⟨_, rfl⟩
        · clear hd
          go_simp
          exact sp_same hst rfl
      · intro us wr hst hd
        have dz : ∃ z : Int, us 50 = .int .i64 z := hd 9 (by simp)
        have dp : us 51 = .pointer (some ⟨g, 3, none⟩) := hd 10 (by simp)
        clear hd
        obtain ⟨z, ez⟩ := dz
        obtain ⟨hc, hf⟩ := hst.cells
        have HST := Lib.hid hst
        clear hst
        simp only [List.drop, List.length]
        rw [ez, dp]
        clear ez
        go_wp2_with fail
        go_meet
        exact ⟨_, _, _, _, _, _, HST.out.set hgb hgw 3 _⟩
    · go_wp2_with fail
      refine wp_region_rs (Keep := KeepB b) [54, 55, 56, 57, 58, 59, 60, 61] (fun us => _)
        [spEq b (.pointer (some ⟨g, 4, none⟩)), spEq b (.int .i64 r4), spTab b 2 (fun u => ∃ z : Int, u = .int .i64 z), spEq b (.pointer (some ⟨b, 0, none⟩)), spV b (NumB 0 (2 - 1)), spAt b (fun u => ∃ z : Int, u = .int .i64 z), spV b (fun u => ∃ z : Int, u = .int .i64 z), spEq b (.pointer (some ⟨g, 5, none⟩))]
        (StP (w.alloc (.cells #[.int .i64 0, .int .i64 0, .int .i64 0, .int .i64 0, .int .i64 0, .int .i64 0] 54 (0, 0))) b g #[.int .i64 (1 + r1), .int .i64 (1 + r2), .int .i64 r3, .int .i64 z3, .int .i64 r4, .int .i64 (150 + r5)]) (by kernel_rfl) (by kernel_rfl) (Nat.le_of_ble_eq_true rfl) (fun us => by simp [over, List.mapIdx_cons]; exact rfl) ?_ (fun w => World.grownBy.refl _ _) ?_ ?_
      · exact HST9.out.draw hgb (HST9.out.1.1.kept (grownBy_drewN _ 1 none) (by simp)) (grownBy_drewN _ 1 _)
      · refine ⟨?_, ?_, ?_, ?_, ?_, ?_, ?_, ?_, trivial⟩
        all_goals (intro us wr hst hd; rw [if_pos (by kernel_rfl)]; dsimp only)
        · clear hd
          go_simp
          exact sp_same hst rfl
        · have d0 : us 54 = .pointer (some ⟨g, 4, none⟩) := hd ⟨0, .data⟩ (by simp) rfl
          clear hd
          have hB := hst.cells.1
          go_simp
          exact sp_same hst rfl
        · have d0 : us 55 = .int .i64 r4 := hd ⟨1, .data⟩ (by simp) rfl
          clear hd
          go_simp
          exact sp_tab hst twoN
        · clear hd
          go_simp
          exact sp_same hst rfl
        · have d0 : us 57 = .pointer (some ⟨b, 0, none⟩) := hd ⟨3, .data⟩ (by simp) rfl
          clear hd
          go_simp
          exact sp_next hst hgb (by decide) (by decide)
        · have d0 : TabP b 2 (fun u => ∃ z : Int, u = .int .i64 z) (us 56) wr := hd ⟨2, .data⟩ (by simp) rfl
          have d1 : NumB 0 (2 - 1) (us 58) := hd ⟨4, .data⟩ (by simp) rfl
          clear hd
          obtain ⟨gt, et, hgt, htab⟩ := d0
          obtain ⟨y, ey, y0, y1⟩ := d1
          obtain ⟨u, hu, hp⟩ := htab y.toNat (by omega)
          have hy2 : y < 2 := by omega
          go_simp
          exact sp_same hst ⟨gt, y.toNat, u, rfl, hgt, hu, hp⟩
        · have d0 : AtP b (fun u => ∃ z : Int, u = .int .i64 z) (us 59) wr := hd ⟨5, .data⟩ (by simp) rfl
          clear hd
          obtain ⟨gt, j, u, et, hgt, hu, z, rfl⟩ := d0
          go_simp
          exact sp_same hst ⟨_, rfl⟩
        · clear hd
          go_simp
          exact sp_same hst rfl
      · intro us wr hst hd
        have dz : ∃ z : Int, us 60 = .int .i64 z := hd 6 (by simp)
        have dp : us 61 = .pointer (some ⟨g, 5, none⟩) := hd 7 (by simp)
        clear hd
        obtain ⟨z, ez⟩ := dz
        obtain ⟨hc, hf⟩ := hst.cells
        have HST := Lib.hid hst
        clear hst
        simp only [List.drop, List.length]
        rw [ez, dp]
        clear ez
        go_wp2_with fail
        go_meet
        exact ⟨_, _, _, _, _, _, HST.out.set hgb hgw 5 _⟩
    · go_wp2_with fail
      refine (l01Next_any b 3 _ (HST9.out.1.1.kept (World.grownBy_alloc _ _ none) (by simp)) (by decide) (by decide)).mono ?_
      rintro e W10 ⟨r10, rfl, z0, z1, hs, hg⟩
      obtain ⟨u, hu, z, rfl⟩ := tab_kept (n := 3) HST9.out.1.1.lt hg threeN z0 (by omega)
      have hst10 := (HST9.out.alloc _).draw hgb hs hg
      obtain ⟨hc, hf⟩ := hst10.cells
      have hv : r10 < 3 := by omega
      have HST10 := Lib.hid hst10
      clear hs hg hst10
      go_wp2_with fail
      go_meet
      exact ⟨_, _, _, _, _, _, HST10.out.set hgb hgw 2 _⟩
    · go_wp2_with fail
      go_meet
      exact ⟨_, _, _, _, _, _, HST9.out⟩
  case rest =>
    clear HST9
    obtain ⟨k3, r3', c3, t3, v3', q3', hst⟩ := hcut
    obtain ⟨hc, hf⟩ := hst.cells
    have hres := stP_res hst hlt
    obtain ⟨hcr, hfr⟩ := heap_cellR hres
    have HST := Lib.hid hst
    clear hst hres
    go_wp2_with fail
    exact bodyPost_ret (v := .agg #[.int .i64 k3, .int .i64 r3', .int .i64 c3, .int .i64 t3, .int .i64 v3', .int .i64 q3']) (by simp [results, Try.results59, go_sem, hcr]) rfl (retPrD_of hlt HST.out)

end Go.Proofs.Ythnjfdhijpfekaa
