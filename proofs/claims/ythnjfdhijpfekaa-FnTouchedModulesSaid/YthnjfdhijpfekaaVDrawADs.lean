import Derived.Test.YthnjfdhijpfekaaVDrawDL2
namespace Go.Proofs.Ythnjfdhijpfekaa
open Go.RowKit

/-- a drawn raster and drawn damages -/
def RetDAs (w : World) (e : Ending) (w' : World) : Prop :=
  ∃ (x1 x2 : Int) (xs : List Int) (a : Option Addr) (c : Nat) (ds : List Dm) (a2 : Option Addr) (c2 : Nat), e = .returned (.tuple #[.agg #[.int .i64 x1, .int .i64 x2, .slice a xs.length c], .slice a2 ds.length c2]) ∧ xs.length ≤ 50 ∧ ds.length ≤ 21 ∧ OwnI w' w.heap.size (.slice a xs.length c) xs ∧ OwnD w' w.heap.size (.slice a2 ds.length c2) ds ∧ Below w.heap.size w w'

/-- blocks from B on stay -/
def KeepV (B : Nat) (W W' : World) : Prop := W.heap.size ≤ W'.heap.size ∧ ∀ k, B ≤ k → k < W.heap.size → W'.heap[k]? = W.heap[k]?
theorem keepV_grown {B b : Nat} {W W' : World} (hg : W.grownBy W' (some b)) (h : b < B) : KeepV B W W' := ⟨hg.size, fun k h1 h2 => hg.block k h2 (fun e => by have := Option.some.inj e; omega)⟩
theorem keepV_refl (B : Nat) (W : World) : KeepV B W W := ⟨Nat.le_refl _, fun _ _ _ => rfl⟩
theorem OwnD.keepV {B : Nat} {W W' : World} {v : Value} {ds : List Dm} (h : OwnD W B v ds) (hk : KeepV B W W') : OwnD W' B v ds := by
  refine ⟨h.1, ?_⟩
  rcases h.2 with h2 | ⟨g, cap, cur, h1, hb, hg, r⟩
  · exact Or.inl h2
  · exact Or.inr ⟨g, cap, cur, h1, hb, (hk.2 g hb (Array.getElem?_eq_some_iff.1 hg).1).trans hg, r⟩
def spVV (B : Nat) (p : Value → Prop) : Sp (KeepV B) := ⟨fun v _ => p v, fun _ _ _ _ h => h⟩
def DsV (B : Nat) (v : Value) (W : World) : Prop := ∃ (ds : List Dm) (a : Option Addr) (c : Nat), v = .slice a ds.length c ∧ ds.length ≤ 21 ∧ OwnD W B (.slice a ds.length c) ds
def spDs (B : Nat) : Sp (KeepV B) := ⟨DsV B, fun _ _ _ hk ⟨ds, a, c, e, hl, ho⟩ => ⟨ds, a, c, e, hl, ho.keepV hk⟩⟩

/-- while the damages are drawn -/
structure StDAs (w : World) (b g : Nat) (x1 x2 : Int) (xs : List Int) (a : Option Addr) (c : Nat) (W : World) : Prop where
  src : Src W b
  ras : RasBox w.heap.size (b + 1) W
  box : W.heap[g]? = some (.cells #[.int .i64 x1, .int .i64 x2, .slice a xs.length c] 28 (0, 0))
  own : OwnI W (b + 1) (.slice a xs.length c) xs
  bel : Below w.heap.size w W

set_option maxRecDepth 100000 in
set_option maxHeartbeats 1000000 in
theorem drawApplyDamages_any (a : Option Addr) (n c : Nat) (w : World) (hx : BytesAt w w.heap.size a n) (hn : n ≤ 4096) :
    Calls Try.prog 20 #[.slice a n c] w (RetDAs w) := by
  have HX := Lib.hid hx
  clear hx
  go_enter Try.func20, Try.ntmps20
  go_wp2_with fail
  refine (l01From_any a n c _ (bytes_up HX.out (ba1 w _)) hn).mono ?_
  rintro e w1 ⟨b, rfl, hb, hs1, hb1⟩
  have hA := push_at w (.cells #[.int .i64 0, .int .i64 0, .slice none 0 0] 28 (0, 0))
  have HA1 := Lib.hid (blkK hb1 hA)
  have HB1 := Lib.hid (bt1 hb1)
  have HS1 := Lib.hid hs1
  have hwb : w.heap.size < b := by rw [World.size_alloc] at hb; omega
  clear hb hs1 hb1 hA
  go_wp2_with fail
  refine (l20Draw_any b _ HS1.out).mono ?_
  rintro e w2 ⟨x1, x2, xs, a2, c2, rfl, hl2, ho2, hs2, hg2⟩
  have hb1 := HS1.out.lt
  have hsz2 := hg2.size
  have HA2 := Lib.hid ((hg2.block _ (blkLt HA1.out) (fun e => by have := Option.some.inj e; omega)).trans HA1.out)
  have HB2 := Lib.hid (HB1.out.trans (below_of_grownBy hg2 HB1.out.size (fun k e => by have := Option.some.inj e; omega)))
  have hst0 : Hid (StDAs w b w2.heap.size x1 x2 xs a2 c2 (w2.alloc (.cells #[.int .i64 x1, .int .i64 x2, .slice a2 xs.length c2] 28 (0, 0)))) := Lib.hid
    { src := hs2.kept (World.grownBy_alloc _ _ none) (by simp)
      ras := ⟨0, 0, [], none, 0, push_old HA2.out, by simp, ownNil _ _ (by rw [World.size_alloc]; omega)⟩
      box := push_at _ _
      own := (ho2.weak (by omega)).grown (ba1 _ _)
      bel := bt0 HB2.out (ba1 _ _) (Nat.le_refl _) }
  have hbg : b < w2.heap.size := hs2.lt
  clear hs2 hg2 ho2 HA1 HB1 HA2 HB2 HS1
  go_wp2_with fail
  generalize w2.alloc (.cells #[.int .i64 x1, .int .i64 x2, .slice a2 xs.length c2] 28 (0, 0)) = w3 at *
  obtain ⟨g, hge⟩ : ∃ g, w2.heap.size = g := ⟨_, rfl⟩
  rw [hge] at hst0 hbg ⊢
  clear hge hb1 hsz2
  refine wp_region_rs (Keep := KeepV (b + 1)) [10, 11, 12, 3] (fun us => _)
    [spVV (b + 1) (· = .agg #[.int .i64 x1, .int .i64 x2, .slice a2 xs.length c2]), spVV (b + 1) (· = .pointer (some ⟨b, 0, none⟩)), spDs (b + 1), spVV (b + 1) (fun _ => True), spDs (b + 1)]
    (StDAs w b g x1 x2 xs a2 c2) (by kernel_rfl) (by kernel_rfl) (Nat.le_of_ble_eq_true rfl) (fun us => by simp [over, List.mapIdx_cons]; exact rfl) ?_ (keepV_refl _) ?_ ?_
  · have h := hst0.out
    exact ⟨h.src.kept (grownBy_drewN _ 1 none) (by simp), h.ras.grown (b := b) (grownBy_drewN _ 1 _) (by omega) (by omega), h.box, h.own.drew, h.bel.drew⟩
  · refine ⟨?_, ?_, ?_, ?_, ?_, trivial⟩
    all_goals (intro us wr hst hd; rw [if_pos (by kernel_rfl)]; dsimp only)
    · clear hd
      have hc := (heap_cellR hst.box).1
      go_simp
      exact ⟨hst, keepV_refl _ _, rfl⟩
    · clear hd
      go_simp
      exact ⟨hst, keepV_refl _ _, rfl⟩
    · have d11 : us 11 = .pointer (some ⟨b, 0, none⟩) := hd ⟨1, .data⟩ (by simp) rfl
      clear hd
      have hlb := hst.src.lt
      go_simp
      exact (l27DrawList_any b false wr hst.src).mono fun e w' ⟨ds, a, c, he, hl, ho, hs, hg⟩ => ⟨_, he, ⟨hs, hst.ras.grown hg (by omega) (by omega), (hg.block g (blkLt hst.box) (fun e => by have := Option.some.inj e; omega)).trans hst.box, own_src hst.own (by omega) hg, hst.bel.trans (below_of_grownBy hg hst.bel.size (fun k e => by have := Option.some.inj e; omega))⟩, keepV_grown hg (by omega), ds, a, c, rfl, hl, ho.weak (by omega)⟩
    · have d10 : us 10 = .agg #[.int .i64 x1, .int .i64 x2, .slice a2 xs.length c2] := hd ⟨0, .data⟩ (by simp) rfl
      clear hd
      obtain ⟨y1, y2, ys, ay, cy, hA, hyl, hyo⟩ := hst.ras
      have hc := (heap_cellR hA).1
      have hf := (heap_cellR hA).2
      have H := Lib.hid hst
      have HA := Lib.hid hA
      clear hst hA hyo
      go_simp
      have hgr := box3grown wr w.heap.size (.int .i64 x1) (.int .i64 x2) (.slice a2 xs.length c2)
      have hO : OwnI (((wr.setCell ⟨w.heap.size, 0, none⟩ (.int .i64 x1)).setCell ⟨w.heap.size, 1, none⟩ (.int .i64 x2)).setCell ⟨w.heap.size, 2, none⟩ (.slice a2 xs.length c2)) (b + 1) (.slice a2 xs.length c2) xs := by
        iterate 3 (refine OwnI.setOld ?_ (by dsimp only; omega) _)
        exact H.out.own
      refine ⟨⟨src_box' H.out.src HA.out no8_3 (by omega) hgr, ⟨x1, x2, xs, a2, c2, box3set HA.out, hl2, hO⟩, (hgr.block g (blkLt H.out.box) (fun e => by have := Option.some.inj e; omega)).trans H.out.box, hO, ?_⟩, keepV_grown hgr (by omega), trivial⟩
      iterate 3 (refine Below.setCell ?_ (by dsimp only; omega) _)
      exact H.out.bel
    · have d12 : DsV (b + 1) (us 12) wr := hd ⟨2, .data⟩ (by simp) rfl
      clear hd
      obtain ⟨ds, a5, c5, e12, hl5, ho5⟩ := d12
      have HO5 := Lib.hid ho5
      clear ho5
      go_simp
      exact ⟨hst, keepV_refl _ _, ds, a5, c5, rfl, hl5, HO5.out⟩
  · intro us wr hst hd
    have d3 : DsV (b + 1) (us 3) wr := hd 4 (by simp)
    clear hd
    obtain ⟨ds, a5, c5, e3, hl5, ho5⟩ := d3
    obtain ⟨y1, y2, ys, ay, cy, hA, hyl, hyo⟩ := hst.ras
    have hc := (heap_cellR hA).1
    have HO := Lib.hid hyo
    have HO5 := Lib.hid ho5
    have HB := Lib.hid hst.bel
    clear hst hA hyo ho5
    refine wpList_nil ?_
    rw [e3]
    go_wp2_with fail
    exact bodyPost_ret (v := .tuple #[.agg #[.int .i64 y1, .int .i64 y2, .slice ay ys.length cy], .slice a5 ds.length c5]) (by simp [results, Try.results20, go_sem, hc]) rfl ⟨_, _, _, _, _, _, _, _, rfl, hyl, hl5, HO.out.weak (by omega), HO5.out.weak (by omega), HB.out⟩

end Go.Proofs.Ythnjfdhijpfekaa
