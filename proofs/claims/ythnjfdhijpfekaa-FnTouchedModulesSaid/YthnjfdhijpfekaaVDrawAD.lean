import Derived.Test.YthnjfdhijpfekaaVDraw27
namespace Go.Proofs.Ythnjfdhijpfekaa
open Go.RowKit

/-- a drawn raster and a drawn damage -/
def RetDA (w : World) (e : Ending) (w' : World) : Prop :=
  ∃ (x1 x2 : Int) (xs : List Int) (a : Option Addr) (c : Nat) (k r l t v g : Int), e = .returned (.tuple #[.agg #[.int .i64 x1, .int .i64 x2, .slice a xs.length c], .agg #[.int .i64 k, .int .i64 r, .int .i64 l, .int .i64 t, .int .i64 v, .int .i64 g]]) ∧ xs.length ≤ 50 ∧ OwnI w' w.heap.size (.slice a xs.length c) xs ∧ Below w.heap.size w w'

/-- some raster lies in box R, its pixels from B on -/
def RasBox (R B : Nat) (W : World) : Prop := ∃ (x1 x2 : Int) (xs : List Int) (a : Option Addr) (c : Nat), W.heap[R]? = some (.cells #[.int .i64 x1, .int .i64 x2, .slice a xs.length c] 28 (0, 0)) ∧ xs.length ≤ 50 ∧ OwnI W B (.slice a xs.length c) xs
def DmBox (D : Nat) (W : World) : Prop := ∃ (k r l t v g : Int), W.heap[D]? = some (.cells #[.int .i64 k, .int .i64 r, .int .i64 l, .int .i64 t, .int .i64 v, .int .i64 g] 32 (0, 0))
theorem RasBox.grown {W W' : World} {R B b : Nat} (h : RasBox R B W) (hg : W.grownBy W' (some b)) (hR : R ≠ b) (hB : b < B) : RasBox R B W' := by
  obtain ⟨x1, x2, xs, a, c, hb, hl, ho⟩ := h
  exact ⟨x1, x2, xs, a, c, (hg.block R (blkLt hb) (fun e => hR (Option.some.inj e))).trans hb, hl, own_src ho hB hg⟩
theorem DmBox.grown {W W' : World} {D b : Nat} (h : DmBox D W) (hg : W.grownBy W' (some b)) (hD : D ≠ b) : DmBox D W' := by
  obtain ⟨k, r, l, t, v, g, hb⟩ := h
  exact ⟨k, r, l, t, v, g, (hg.block D (blkLt hb) (fun e => hD (Option.some.inj e))).trans hb⟩
/-- a source's bytes lie in no such box: it stays when one is written -/
theorem src_box' {W W' : World} {b g : Nat} {cs : Array Value} {t : TypeId} (h : Src W b) (hg : W.heap[g]? = some (.cells cs t (0, 0))) (hcs : ∀ (i : Nat) (z : Int), cs[i]? ≠ some (Value.int .u8 z)) (hne : g ≠ b) (hw : W.grownBy W' (some g)) : Src W' b := by
  have hlt := h.lt
  obtain ⟨a, n, c, at_, seed, base, h1, h2, h3, h4⟩ := h
  refine ⟨a, n, c, at_, seed, base, h1, fun i hi => ?_, (hw.block b hlt (fun e => hne (Option.some.inj e.symm))).trans h3, h4⟩
  obtain ⟨b1, o, z, ha, hb1, hc, hz⟩ := h2 i hi
  refine ⟨b1, o, z, ha, hb1, ?_, hz⟩
  have hn : g ≠ b1 := by
    intro e
    subst e
    rw [heap_cell hg] at hc
    exact hcs _ _ hc
  rw [World.cell?_of_block (w := W) (a := ⟨b1, o + i, none⟩) (hw.block b1 (by omega) (fun e => hn (Option.some.inj e.symm)))]
  exact hc
theorem no8_3 {a b : Int} {s : Option Addr} {n c : Nat} : ∀ (i : Nat) (z : Int), (#[.int .i64 a, .int .i64 b, .slice s n c] : Array Value)[i]? ≠ some (Value.int .u8 z) := fun i z => by
  match i with
  | 0 => intro h; cases h
  | 1 => intro h; cases h
  | 2 => intro h; cases h
  | _ + 3 => intro h; cases h
theorem no8_6 {a b c d e f : Int} : ∀ (i : Nat) (z : Int), (#[.int .i64 a, .int .i64 b, .int .i64 c, .int .i64 d, .int .i64 e, .int .i64 f] : Array Value)[i]? ≠ some (Value.int .u8 z) := fun i z => by
  match i with
  | 0 => intro h; cases h
  | 1 => intro h; cases h
  | 2 => intro h; cases h
  | 3 => intro h; cases h
  | 4 => intro h; cases h
  | 5 => intro h; cases h
  | _ + 6 => intro h; cases h

/-- while the damage is drawn -/
structure StDA (w : World) (b g : Nat) (x1 x2 : Int) (xs : List Int) (a : Option Addr) (c : Nat) (W : World) : Prop where
  src : Src W b
  ras : RasBox w.heap.size (b + 1) W
  dm : DmBox (w.heap.size + 1) W
  box : W.heap[g]? = some (.cells #[.int .i64 x1, .int .i64 x2, .slice a xs.length c] 28 (0, 0))
  own : OwnI W (b + 1) (.slice a xs.length c) xs
  bel : Below w.heap.size w W
def KeepA (_ _ : World) : Prop := True
def spA (p : Value → Prop) : Sp KeepA := ⟨fun v _ => p v, fun _ _ _ _ h => h⟩

theorem bytes_up {w w' : World} {a : Option Addr} {n : Nat} (h : BytesAt w w.heap.size a n) (hb : Below w.heap.size w w') : BytesAt w' w'.heap.size a n := by
  have h1 := h.kept (w' := w') (fun k hk => hb.block k hk)
  intro i hi
  obtain ⟨b, o, z, h1, h2, h3⟩ := h1 i hi
  exact ⟨b, o, z, h1, Nat.lt_of_lt_of_le h2 hb.size, h3⟩

set_option maxRecDepth 100000 in
set_option maxHeartbeats 1000000 in
theorem drawApplyDamage_any (a : Option Addr) (n c : Nat) (w : World) (hx : BytesAt w w.heap.size a n) (hn : n ≤ 4096) :
    Calls Try.prog 17 #[.slice a n c] w (RetDA w) := by
  have HX := Lib.hid hx
  clear hx
  go_enter Try.func17, Try.ntmps17
  go_wp2_with fail
  refine (l01From_any a n c _ (bytes_up HX.out (ba2 w _ _)) hn).mono ?_
  rintro e w1 ⟨b, rfl, hb, hs1, hb1⟩
  obtain ⟨hA, hD⟩ := heap2 w (.cells #[.int .i64 0, .int .i64 0, .slice none 0 0] 28 (0, 0)) (.cells #[.int .i64 0, .int .i64 0, .int .i64 0, .int .i64 0, .int .i64 0, .int .i64 0] 32 (0, 0))
  have HA1 := Lib.hid (blkK hb1 hA)
  have HD1 := Lib.hid (blkK hb1 hD)
  have HB1 := Lib.hid (bt2 hb1)
  have HS1 := Lib.hid hs1
  have hwb : w.heap.size + 1 < b := by rw [World.size_alloc, World.size_alloc] at hb; omega
  clear hb hs1 hb1 hA hD
  go_wp2_with fail
  refine (l20Draw_any b _ HS1.out).mono ?_
  rintro e w2 ⟨x1, x2, xs, a2, c2, rfl, hl2, ho2, hs2, hg2⟩
  have hb1 := HS1.out.lt
  have hsz2 := hg2.size
  have HA2 := Lib.hid ((hg2.block _ (blkLt HA1.out) (fun e => by have := Option.some.inj e; omega)).trans HA1.out)
  have HD2 := Lib.hid ((hg2.block _ (blkLt HD1.out) (fun e => by have := Option.some.inj e; omega)).trans HD1.out)
  have HB2 := Lib.hid (HB1.out.trans (below_of_grownBy hg2 HB1.out.size (fun k e => by have := Option.some.inj e; omega)))
  have hst0 : Hid (StDA w b w2.heap.size x1 x2 xs a2 c2 (w2.alloc (.cells #[.int .i64 x1, .int .i64 x2, .slice a2 xs.length c2] 28 (0, 0)))) := Lib.hid
    { src := hs2.kept (World.grownBy_alloc _ _ none) (by simp)
      ras := ⟨0, 0, [], none, 0, push_old HA2.out, by simp, ownNil _ _ (by rw [World.size_alloc]; omega)⟩
      dm := ⟨0, 0, 0, 0, 0, 0, push_old HD2.out⟩
      box := push_at _ _
      own := (ho2.weak (by omega)).grown (ba1 _ _)
      bel := bt0 HB2.out (ba1 _ _) (Nat.le_refl _) }
  have hbg : b < w2.heap.size := hs2.lt
  clear hs2 hg2 ho2 HA1 HD1 HB1 HA2 HD2 HB2 HS1
  go_wp2_with fail
  generalize w2.alloc (.cells #[.int .i64 x1, .int .i64 x2, .slice a2 xs.length c2] 28 (0, 0)) = w3 at *
  obtain ⟨g, hge⟩ : ∃ g, w2.heap.size = g := ⟨_, rfl⟩
  rw [hge] at hst0 hbg ⊢
  clear hge hb1 hsz2
  refine wp_region_rs (Keep := KeepA) [10, 11, 12] (fun us => _)
    [spA (· = .agg #[.int .i64 x1, .int .i64 x2, .slice a2 xs.length c2]), spA (· = .pointer (some ⟨b, 0, none⟩)), spA (fun v => ∃ (k r l t v' g : Int), v = .agg #[.int .i64 k, .int .i64 r, .int .i64 l, .int .i64 t, .int .i64 v', .int .i64 g]), spA (fun _ => True), spA (fun _ => True)]
    (StDA w b g x1 x2 xs a2 c2) (by kernel_rfl) (by kernel_rfl) (Nat.le_of_ble_eq_true rfl) (fun us => by simp [over, List.mapIdx_cons]; exact rfl) ?_ (fun w => trivial) ?_ ?_
  · have h := hst0.out
    exact ⟨h.src.kept (grownBy_drewN _ 1 none) (by simp), h.ras.grown (b := b) (grownBy_drewN _ 1 _) (by omega) (by omega), h.dm.grown (b := b) (grownBy_drewN _ 1 _) (by omega), h.box, h.own.drew, h.bel.drew⟩
  · refine ⟨?_, ?_, ?_, ?_, ?_, trivial⟩
    all_goals (intro us wr hst hd; rw [if_pos (by kernel_rfl)]; dsimp only)
    · clear hd
      have hc := (heap_cellR hst.box).1
      go_simp
      exact ⟨hst, trivial, rfl⟩
    · clear hd
      go_simp
      exact ⟨hst, trivial, rfl⟩
    · have d11 : us 11 = .pointer (some ⟨b, 0, none⟩) := hd ⟨1, .data⟩ (by simp) rfl
      clear hd
      go_simp
      exact (l27Draw_any b wr hst.src).mono fun e w' ⟨k, r, l, t, v, q, he, hs, hg⟩ => ⟨_, he, ⟨hs, hst.ras.grown hg (by omega) (by omega), hst.dm.grown hg (by omega), (hg.block g (blkLt hst.box) (fun e => by have := Option.some.inj e; omega)).trans hst.box, own_src hst.own (by omega) hg, hst.bel.trans (below_of_grownBy hg hst.bel.size (fun k e => by have := Option.some.inj e; omega))⟩, trivial, k, r, l, t, v, q, rfl⟩
    · have d10 : us 10 = .agg #[.int .i64 x1, .int .i64 x2, .slice a2 xs.length c2] := hd ⟨0, .data⟩ (by simp) rfl
      clear hd
      obtain ⟨y1, y2, ys, ay, cy, hA, hyl, hyo⟩ := hst.ras
      have hc := (heap_cellR hA).1
      have hf := (heap_cellR hA).2
      have H := Lib.hid hst
      have HA := Lib.hid hA
      clear hst hA hyo
      go_simp
      have hgr := box3grown wr w.heap.size (.int .i64 x1) (.int .i64 x2) (.slice a2 xs.length c2)
      have hO : OwnI (((wr.setCell ⟨w.heap.size, 0, none⟩ (.int .i64 x1)).setCell ⟨w.heap.size, 1, none⟩ (.int .i64 x2)).setCell ⟨w.heap.size, 2, none⟩ (.slice a2 xs.length c2)) (b + 1) (.slice a2 xs.length c2) xs := by
        iterate 3 (refine OwnI.setOld ?_ (by dsimp only; omega) _)
        exact H.out.own
      refine ⟨⟨src_box' H.out.src HA.out no8_3 (by omega) hgr, ⟨x1, x2, xs, a2, c2, box3set HA.out, hl2, hO⟩, H.out.dm.grown hgr (by omega), (hgr.block g (blkLt H.out.box) (fun e => by have := Option.some.inj e; omega)).trans H.out.box, hO, ?_⟩, trivial, trivial⟩
      iterate 3 (refine Below.setCell ?_ (by dsimp only; omega) _)
      exact H.out.bel
    · have d12 : ∃ (k r l t v' g : Int), us 12 = .agg #[.int .i64 k, .int .i64 r, .int .i64 l, .int .i64 t, .int .i64 v', .int .i64 g] := hd ⟨2, .data⟩ (by simp) rfl
      clear hd
      obtain ⟨k, r, l, t, v, q, e12⟩ := d12
      obtain ⟨k0, r0, l0, t0, v0, q0, hA⟩ := hst.dm
      have hc := (heap_cellR hA).1
      have hf := (heap_cellR hA).2
      have H := Lib.hid hst
      have HA := Lib.hid hA
      clear hst hA
      go_simp
      have h6 := heap_set6 (o := 0) HA.out (.int .i64 k) (.int .i64 r) (.int .i64 l) (.int .i64 t) (.int .i64 v) (.int .i64 q)
      have hgr : wr.grownBy ((((((wr.setCell ⟨w.heap.size + 1, 0, none⟩ (.int .i64 k)).setCell ⟨w.heap.size + 1, 1, none⟩ (.int .i64 r)).setCell ⟨w.heap.size + 1, 2, none⟩ (.int .i64 l)).setCell ⟨w.heap.size + 1, 3, none⟩ (.int .i64 t)).setCell ⟨w.heap.size + 1, 4, none⟩ (.int .i64 v)).setCell ⟨w.heap.size + 1, 5, none⟩ (.int .i64 q)) (some (w.heap.size + 1)) := by
        iterate 6 (refine grownBy_trans ?_ (grownBy_set _ _ _ _))
        exact World.grownBy.refl _ _
      have hO : OwnI ((((((wr.setCell ⟨w.heap.size + 1, 0, none⟩ (.int .i64 k)).setCell ⟨w.heap.size + 1, 1, none⟩ (.int .i64 r)).setCell ⟨w.heap.size + 1, 2, none⟩ (.int .i64 l)).setCell ⟨w.heap.size + 1, 3, none⟩ (.int .i64 t)).setCell ⟨w.heap.size + 1, 4, none⟩ (.int .i64 v)).setCell ⟨w.heap.size + 1, 5, none⟩ (.int .i64 q)) (b + 1) (.slice a2 xs.length c2) xs := by
        iterate 6 (refine OwnI.setOld ?_ (by dsimp only; omega) _)
        exact H.out.own
      refine ⟨⟨src_box' H.out.src HA.out no8_6 (by omega) hgr, H.out.ras.grown hgr (by omega) (by omega), ⟨k, r, l, t, v, q, h6⟩, (hgr.block g (blkLt H.out.box) (fun e => by have := Option.some.inj e; omega)).trans H.out.box, hO, ?_⟩, trivial, trivial⟩
      iterate 6 (refine Below.setCell ?_ (by dsimp only; omega) _)
      exact H.out.bel
  · intro us wr hst hd
    clear hd
    obtain ⟨y1, y2, ys, ay, cy, hA, hyl, hyo⟩ := hst.ras
    obtain ⟨k0, r0, l0, t0, v0, q0, hD⟩ := hst.dm
    have hc := (heap_cellR hA).1
    have hcd := (heap_cellR hD).1
    have HO := Lib.hid hyo
    have HB := Lib.hid hst.bel
    clear hst hA hD hyo
    refine wpList_nil ?_
    go_wp2_with fail
    exact bodyPost_ret (v := .tuple #[.agg #[.int .i64 y1, .int .i64 y2, .slice ay ys.length cy], .agg #[.int .i64 k0, .int .i64 r0, .int .i64 l0, .int .i64 t0, .int .i64 v0, .int .i64 q0]]) (by simp [results, Try.results17, go_sem, hc, hcd]) rfl ⟨_, _, _, _, _, _, _, _, _, _, _, rfl, hyl, HO.out.weak (by omega), HB.out⟩

end Go.Proofs.Ythnjfdhijpfekaa
