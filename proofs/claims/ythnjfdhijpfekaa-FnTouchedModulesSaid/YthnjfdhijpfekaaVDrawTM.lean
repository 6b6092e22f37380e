import Derived.Test.YthnjfdhijpfekaaVDraw21
import Derived.Test.YthnjfdhijpfekaaVDrawADs
namespace Go.Proofs.Ythnjfdhijpfekaa
open Go.RowKit

/-- drawn damages, a drawn print and two drawn numbers -/
def RetDTM (w : World) (e : Ending) (w' : World) : Prop :=
  ∃ (ds : List Dm) (a : Option Addr) (c : Nat) (p t q b d l n m : Int), e = .returned (.tuple #[.slice a ds.length c, .agg #[.int .i64 p, .int .i64 t, .int .i64 q, .int .i64 b, .int .i64 d, .int .i64 l], .int .i64 n, .int .i64 m]) ∧ ds.length ≤ 21 ∧ OwnD w' w.heap.size (.slice a ds.length c) ds ∧ Below w.heap.size w w'
def PrBox (D : Nat) (W : World) : Prop := ∃ (k r l t v g : Int), W.heap[D]? = some (.cells #[.int .i64 k, .int .i64 r, .int .i64 l, .int .i64 t, .int .i64 v, .int .i64 g] 54 (0, 0))
/-- while the numbers are drawn -/
structure StTM (w : World) (b g : Nat) (cs : Array Value) (v : Value) (ds : List Dm) (W : World) : Prop where
  src : Src W b
  pr : PrBox w.heap.size W
  box : W.heap[g]? = some (.cells cs 54 (0, 0))
  own : OwnD W (b + 1) v ds
  bel : Below w.heap.size w W
theorem StTM.draw {w W W' : World} {b g : Nat} {cs : Array Value} {v : Value} {ds : List Dm} (h : StTM w b g cs v ds W) (hwb : w.heap.size < b) (hbg : b < g) (hs : Src W' b) (hg : W.grownBy W' (some b)) : StTM w b g cs v ds W' := by
  obtain ⟨h1, ⟨k, r, l, t, v', q, h2⟩, h3, h4, h5⟩ := h
  exact ⟨hs, ⟨k, r, l, t, v', q, (hg.block _ (blkLt h2) (fun e => by have := Option.some.inj e; omega)).trans h2⟩, (hg.block g (blkLt h3) (fun e => by have := Option.some.inj e; omega)).trans h3, h4.src (by omega) hg, h5.trans (below_of_grownBy hg h5.size (fun k e => by have := Option.some.inj e; omega))⟩
theorem ta_same {w W : World} {b g : Nat} {cs : Array Value} {u : Value} {ds : List Dm} {p : Value → Prop} {v : Value} (h : StTM w b g cs u ds W) (hp : p v) : RsR (StTM w b g cs u ds) (spA p) W v W := ⟨h, trivial, hp⟩
theorem ta_next {w W : World} {b g : Nat} {cs : Array Value} {u : Value} {ds : List Dm} {n : Int} (h : StTM w b g cs u ds W) (hwb : w.heap.size < b) (hbg : b < g) (h1 : 1 ≤ n) (h2 : n ≤ 1152921504606846976) :
    Calls Try.prog 58 #[.pointer (some ⟨b, 0, none⟩), .int .i64 n] W fun e W' => ∃ v, e = .returned v ∧ RsR (StTM w b g cs u ds) (spA (NumB 0 (n - 1))) W v W' :=
  (l01Next_any b n W h.src (by omega) h2).mono fun e w' ⟨r, he, r0, r1, hs, hg⟩ => ⟨_, he, h.draw hwb hbg hs hg, trivial, r, rfl, r0, by omega⟩

set_option maxRecDepth 100000 in
set_option maxHeartbeats 1000000 in
theorem drawTouchedModules_any (a : Option Addr) (n c : Nat) (w : World) (hx : BytesAt w w.heap.size a n) (hn : n ≤ 4096) :
    Calls Try.prog 28 #[.slice a n c] w (RetDTM w) := by
  have HX := Lib.hid hx
  clear hx
  go_enter Try.func28, Try.ntmps28
  go_wp2_with fail
  refine (l01From_any a n c _ (bytes_up HX.out (ba1 w _)) hn).mono ?_
  rintro e w1 ⟨b, rfl, hb, hs1, hb1⟩
  have hA := push_at w (.cells #[.int .i64 0, .int .i64 0, .int .i64 0, .int .i64 0, .int .i64 0, .int .i64 0] 54 (0, 0))
  have HA1 := Lib.hid (blkK hb1 hA)
  have HB1 := Lib.hid (bt1 hb1)
  have HS1 := Lib.hid hs1
  have hwb : w.heap.size < b := by rw [World.size_alloc] at hb; omega
  clear hb hs1 hb1 hA
  go_wp2_with fail
  refine (l01Next_any b 8 _ HS1.out (by decide) (by decide)).mono ?_
  rintro e w2 ⟨r2, rfl, z0, z1, hs, hg⟩
  have HA2 := Lib.hid ((hg.block _ (blkLt HA1.out) (fun e => by have := Option.some.inj e; omega)).trans HA1.out)
  have HB2 := Lib.hid (HB1.out.trans (below_of_grownBy hg HB1.out.size (fun k e => by have := Option.some.inj e; omega)))
  have HS2 := Lib.hid hs
  clear hs hg HA1 HB1 HS1 z1
  go_wp2_with fail
  refine (l27DrawList_any b _ w2 HS2.out).mono ?_
  rintro e w3 ⟨ds, a3, c3, rfl, hl3, ho3, hs, hg⟩
  have HA3 := Lib.hid ((hg.block _ (blkLt HA2.out) (fun e => by have := Option.some.inj e; omega)).trans HA2.out)
  have HB3 := Lib.hid (HB2.out.trans (below_of_grownBy hg HB2.out.size (fun k e => by have := Option.some.inj e; omega)))
  have HO3 := Lib.hid (ho3.weak (base' := b + 1) HS2.out.lt)
  have HS3 := Lib.hid hs
  clear hs hg ho3 HA2 HB2 HS2
  go_wp2_with fail
  refine (l21Draw_any b w3 HS3.out).mono ?_
  rintro e w4 ⟨p, t, q, bl, d, l, rfl, hs, hg⟩
  have hA4 := (hg.block _ (blkLt HA3.out) (fun e => by have := Option.some.inj e; omega)).trans HA3.out
  have hB4 := HB3.out.trans (below_of_grownBy hg HB3.out.size (fun k e => by have := Option.some.inj e; omega))
  have hst0 : Hid (StTM w b w4.heap.size #[.int .i64 p, .int .i64 t, .int .i64 q, .int .i64 bl, .int .i64 d, .int .i64 l] (.slice a3 ds.length c3) ds (w4.alloc (.cells #[.int .i64 p, .int .i64 t, .int .i64 q, .int .i64 bl, .int .i64 d, .int .i64 l] 54 (0, 0)))) := Lib.hid
    { src := hs.kept (World.grownBy_alloc _ _ none) (by simp)
      pr := ⟨_, _, _, _, _, _, push_old hA4⟩
      box := push_at _ _
      own := (HO3.out.src (by omega) hg).grown (ba1 _ _)
      bel := bt0 hB4 (ba1 _ _) (Nat.le_refl _) }
  have hbg : b < w4.heap.size := hs.lt
  clear hs hg hA4 hB4 HA3 HB3 HO3 HS3
  go_wp2_with fail
  generalize w4.alloc (.cells #[.int .i64 p, .int .i64 t, .int .i64 q, .int .i64 bl, .int .i64 d, .int .i64 l] 54 (0, 0)) = w5 at *
  obtain ⟨g, hge⟩ : ∃ g, w4.heap.size = g := ⟨_, rfl⟩
  rw [hge] at hst0 hbg ⊢
  clear hge
  refine wp_region_rs (Keep := KeepA) [18, 19, 20, 21, 22, 23, 24, 25, 26, 27, 28, 29, 2, 4, 5] (fun us => _)
    [spA (· = .slice a3 ds.length c3), spA (· = .agg #[.int .i64 p, .int .i64 t, .int .i64 q, .int .i64 bl, .int .i64 d, .int .i64 l]), spA (· = .pointer (some ⟨b, 0, none⟩)), spA (NumB 0 (9 - 1)), spA (NumB 1 9), spA (· = .pointer (some ⟨b, 0, none⟩)), spA (NumB 0 (24 - 1)), spA (NumB 0 1), spA (NumB 0 9), spA (· = .pointer (some ⟨b, 0, none⟩)), spA (NumB 0 (9 - 1)), spA (NumB 1 9), spA (· = .slice a3 ds.length c3), spA (fun _ => True), spA (NumB 0 9), spA (NumB 1 9)]
    (StTM w b g #[.int .i64 p, .int .i64 t, .int .i64 q, .int .i64 bl, .int .i64 d, .int .i64 l] (.slice a3 ds.length c3) ds) (by kernel_rfl) (by kernel_rfl) (Nat.le_of_ble_eq_true rfl) (fun us => by simp [over, List.mapIdx_cons]; exact rfl) ?_ (fun w => trivial) ?_ ?_
  · exact hst0.out.draw hwb hbg (hst0.out.src.kept (grownBy_drewN _ 1 none) (by simp)) (grownBy_drewN _ 1 _)
  · refine ⟨?_, ?_, ?_, ?_, ?_, ?_, ?_, ?_, ?_, ?_, ?_, ?_, ?_, ?_, ?_, ?_, trivial⟩
    all_goals (intro us wr hst hd; rw [if_pos (by kernel_rfl)]; dsimp only)
    · clear hd
      go_simp
      exact ta_same hst rfl
    · clear hd
      have hc := (heap_cellR hst.box).1
      go_simp
      exact ta_same hst rfl
    · clear hd
      go_simp
      exact ta_same hst rfl
    · have e0 : us 20 = .pointer (some ⟨b, 0, none⟩) := hd ⟨2, .data⟩ (by simp) rfl
      clear hd
      go_simp
      exact ta_next hst hwb hbg (by decide) (by decide)
    · have e0 : NumB 0 (9 - 1) (us 21) := hd ⟨3, .data⟩ (by simp) rfl
      clear hd
      obtain ⟨z, ez, y0, y1⟩ := e0
      have hw1 : IntKind.i64.wrap (1 + z) = 1 + z := IntWalk.i64_in _ (by omega)
      go_simp
      exact ta_same hst ⟨_, rfl, by omega, by omega⟩
    · clear hd
      go_simp
      exact ta_same hst rfl
    · have e0 : us 23 = .pointer (some ⟨b, 0, none⟩) := hd ⟨5, .data⟩ (by simp) rfl
      clear hd
      go_simp
      exact ta_next hst hwb hbg (by decide) (by decide)
    · have e0 : NumB 0 (24 - 1) (us 24) := hd ⟨6, .data⟩ (by simp) rfl
      clear hd
      obtain ⟨z, ez, y0, y1⟩ := e0
      have hq : z.tdiv 23 = z / 23 := Int.tdiv_eq_ediv_of_nonneg y0
      have hq2 : IntKind.i64.wrap (z / 23) = z / 23 := IntWalk.i64_in _ (by omega)
      go_simp
      exact ta_same hst ⟨_, rfl, by omega, by omega⟩
    · have e0 : NumB 1 9 (us 22) := hd ⟨4, .data⟩ (by simp) rfl
      have e1 : NumB 0 1 (us 25) := hd ⟨7, .data⟩ (by simp) rfl
      clear hd
      obtain ⟨z, ez, y0, y1⟩ := e0
      obtain ⟨z', ez', y0', y1'⟩ := e1
      have hw1 : IntKind.i64.wrap (z - z') = z - z' := IntWalk.i64_in _ (by omega)
      go_simp
      exact ta_same hst ⟨_, rfl, by omega, by omega⟩
    · clear hd
      go_simp
      exact ta_same hst rfl
    · have e0 : us 27 = .pointer (some ⟨b, 0, none⟩) := hd ⟨9, .data⟩ (by simp) rfl
      clear hd
      go_simp
      exact ta_next hst hwb hbg (by decide) (by decide)
    · have e0 : NumB 0 (9 - 1) (us 28) := hd ⟨10, .data⟩ (by simp) rfl
      clear hd
      obtain ⟨z, ez, y0, y1⟩ := e0
      have hw1 : IntKind.i64.wrap (1 + z) = 1 + z := IntWalk.i64_in _ (by omega)
      go_simp
      exact ta_same hst ⟨_, rfl, by omega, by omega⟩
    · have e0 : us 18 = .slice a3 ds.length c3 := hd ⟨0, .data⟩ (by simp) rfl
      clear hd
      go_simp
      exact ta_same hst rfl
    · have e0 : us 19 = .agg #[.int .i64 p, .int .i64 t, .int .i64 q, .int .i64 bl, .int .i64 d, .int .i64 l] := hd ⟨1, .data⟩ (by simp) rfl
      clear hd
      obtain ⟨k0, r0, l0, t0, v0, q0, hA⟩ := hst.pr
      have hc := (heap_cellR hA).1
      have hf := (heap_cellR hA).2
      have H := Lib.hid hst
      have HA := Lib.hid hA
      clear hst hA
      go_simp
      have h6 := heap_set6 (o := 0) HA.out (.int .i64 p) (.int .i64 t) (.int .i64 q) (.int .i64 bl) (.int .i64 d) (.int .i64 l)
      have hgr : wr.grownBy ((((((wr.setCell ⟨w.heap.size, 0, none⟩ (.int .i64 p)).setCell ⟨w.heap.size, 1, none⟩ (.int .i64 t)).setCell ⟨w.heap.size, 2, none⟩ (.int .i64 q)).setCell ⟨w.heap.size, 3, none⟩ (.int .i64 bl)).setCell ⟨w.heap.size, 4, none⟩ (.int .i64 d)).setCell ⟨w.heap.size, 5, none⟩ (.int .i64 l)) (some w.heap.size) := by
        iterate 6 (refine grownBy_trans ?_ (grownBy_set _ _ _ _))
        exact World.grownBy.refl _ _
      refine ⟨⟨src_box' H.out.src HA.out no8_6 (by omega) hgr, ⟨p, t, q, bl, d, l, h6⟩, (hgr.block g (blkLt H.out.box) (fun e => by have := Option.some.inj e; omega)).trans H.out.box, H.out.own.other hgr (fun k hk e => by have := H.out.own.at k hk; have := Option.some.inj e; omega), ?_⟩, trivial, trivial⟩
      iterate 6 (refine Below.setCell ?_ (by dsimp only; omega) _)
      exact H.out.bel
    · have e0 : NumB 0 9 (us 26) := hd ⟨8, .data⟩ (by simp) rfl
      clear hd
      obtain ⟨z, ez, y0, y1⟩ := e0
      go_simp
      exact ta_same hst ⟨_, rfl, by omega, by omega⟩
    · have e0 : NumB 1 9 (us 29) := hd ⟨11, .data⟩ (by simp) rfl
      clear hd
      obtain ⟨z, ez, y0, y1⟩ := e0
      go_simp
      exact ta_same hst ⟨_, rfl, by omega, by omega⟩
  · intro us wr hst hd
    have d2 : us 2 = .slice a3 ds.length c3 := hd 12 (by simp)
    have d4 : NumB 0 9 (us 4) := hd 14 (by simp)
    have d5 : NumB 1 9 (us 5) := hd 15 (by simp)
    clear hd
    obtain ⟨z4, e4, _, _⟩ := d4
    obtain ⟨z5, e5, _, _⟩ := d5
    obtain ⟨k0, r0, l0, t0, v0, q0, hA⟩ := hst.pr
    have hc := (heap_cellR hA).1
    have HO := Lib.hid hst.own
    have HB := Lib.hid hst.bel
    clear hst hA
    refine wpList_nil ?_
    rw [d2, e4, e5]
    go_wp2_with fail
    exact bodyPost_ret (v := .tuple #[.slice a3 ds.length c3, .agg #[.int .i64 k0, .int .i64 r0, .int .i64 l0, .int .i64 t0, .int .i64 v0, .int .i64 q0], .int .i64 z4, .int .i64 z5]) (by simp [results, Try.results28, go_sem, hc]) rfl ⟨_, _, _, _, _, _, _, _, _, _, _, rfl, hl3, HO.out.weak (by omega), HB.out⟩

end Go.Proofs.Ythnjfdhijpfekaa
