import Derived.Test.YtnijdfdcjjbneaaDoorUDraw31
import Derived.Test.YtnijdfdcjjbneaaDoorUBase3
namespace Go.Proofs.YtnijdfdcjjbneaaDoor
open Go.RowKit

/-- a drawn batch and a drawn number -/
def RetSO (w : World) (e : Ending) (w' : World) : Prop :=
  ∃ (p : ByteArray) (x1 x2 x3 x4 k : Int), e = .returned (.tuple #[.agg #[.string p, .int .i64 x1, .int .i64 x2, .int .i64 x3, .int .i64 x4], .int .i64 k]) ∧ p.size ≤ 13 ∧ (-1 ≤ k ∧ k ≤ 999999999) ∧ Below w.heap.size w w'

def KeepN (w w' : World) : Prop := w.heap.size ≤ w'.heap.size
def spN (p : Value → Prop) : Sp KeepN := ⟨fun v _ => p v, fun _ _ _ _ h => h⟩
/-- while the results are drawn: the source, the batch's box, the result's box -/
def StSO (b g : Nat) (w : World) (cs : Array Value) (W : World) : Prop :=
  Src W b ∧ W.heap[g]? = some (.cells cs 25 (0, 0)) ∧ (∃ (p : ByteArray) (x1 x2 x3 x4 : Int), W.heap[w.heap.size]? = some (.cells #[.string p, .int .i64 x1, .int .i64 x2, .int .i64 x3, .int .i64 x4] 25 (0, 0)) ∧ p.size ≤ 13) ∧ Below w.heap.size w W
theorem so_same {b g : Nat} {w W : World} {cs : Array Value} {s : Sp KeepN} {v : Value} (h : StSO b g w cs W) (hs : s.holds v W) : RsR (StSO b g w cs) s W v W := ⟨h, Nat.le_refl _, hs⟩
theorem so_next {b g : Nat} {w W : World} {cs : Array Value} {n lo hi : Int} (h : StSO b g w cs W) (hbg : w.heap.size < b) (hgb : g ≠ b) (hn : 1 ≤ n) (hn2 : n ≤ 1152921504606846976) (h0 : lo ≤ 0) (h1 : n - 1 ≤ hi) :
    Calls Tryd.prog 32 #[.pointer (some ⟨b, 0, none⟩), .int .i64 n] W fun e W' => ∃ v, e = .returned v ∧ RsR (StSO b g w cs) (spN (NumB lo hi)) W v W' :=
  (l01Next_any b n W h.1 (by omega) hn2).mono fun e W' ⟨r, he, r0, r1, hs, hg⟩ => ⟨_, he, ⟨hs, (hg.block g (Array.getElem?_eq_some_iff.1 h.2.1).1 (fun e => hgb (Option.some.inj e))).trans h.2.1, by
    obtain ⟨p, x1, x2, x3, x4, hb, hp⟩ := h.2.2.1
    exact ⟨p, x1, x2, x3, x4, (hg.block _ (Array.getElem?_eq_some_iff.1 hb).1 (fun e => by have := Option.some.inj e; omega)).trans hb, hp⟩, h.2.2.2.trans (below_of_grownBy hg h.2.2.2.size (fun k e => by have := Option.some.inj e; omega))⟩, hg.size, r, rfl, by omega, by omega⟩

/-- a source's bytes lie in no batch's box: it stays when one is written -/
theorem src_box {W W' : World} {b g : Nat} {p : ByteArray} {x1 x2 x3 x4 : Int} (h : Src W b) (hg : W.heap[g]? = some (.cells #[.string p, .int .i64 x1, .int .i64 x2, .int .i64 x3, .int .i64 x4] 25 (0, 0))) (hne : g ≠ b) (hw : W.grownBy W' (some g)) : Src W' b := by
  have hlt := h.lt
  obtain ⟨a, n, c, at_, seed, base, h1, h2, h3, h4⟩ := h
  refine ⟨a, n, c, at_, seed, base, h1, fun i hi => ?_, (hw.block b hlt (fun e => hne (Option.some.inj e.symm))).trans h3, h4⟩
  obtain ⟨b1, o, z, ha, hb1, hc, hz⟩ := h2 i hi
  refine ⟨b1, o, z, ha, hb1, ?_, hz⟩
  have hn : g ≠ b1 := by
    intro e
    subst e
    rw [heap_cell hg] at hc
    match o + i, hc with
    | 0, hc => cases hc
    | 1, hc => cases hc
    | 2, hc => cases hc
    | 3, hc => cases hc
    | 4, hc => cases hc
    | _ + 5, hc => cases hc
  rw [World.cell?_of_block (w := W) (a := ⟨b1, o + i, none⟩) (hw.block b1 (by omega) (fun e => hn (Option.some.inj e.symm)))]
  exact hc

set_option maxRecDepth 100000 in
set_option maxHeartbeats 1000000 in
theorem drawSerialOf_any (a : Option Addr) (n c : Nat) (w : World) (hx : BytesAt w w.heap.size a n) (hn : n ≤ 4096) :
    Calls Tryd.prog 7 #[.slice a n c] w (RetSO w) := by
  have HX := Lib.hid hx
  clear hx
  go_enter Tryd.func7, Tryd.ntmps7
  go_wp2_with fail
  have hx1 : BytesAt (w.alloc (.cells #[.string ⟨#[]⟩, .int .i64 0, .int .i64 0, .int .i64 0, .int .i64 0] 25 (0, 0))) (w.alloc (.cells #[.string ⟨#[]⟩, .int .i64 0, .int .i64 0, .int .i64 0, .int .i64 0] 25 (0, 0))).heap.size a n := by
    have h := HX.out.kept (w' := w.alloc (.cells #[.string ⟨#[]⟩, .int .i64 0, .int .i64 0, .int .i64 0, .int .i64 0] 25 (0, 0))) (fun k hk => (ba1 w _).block k hk)
    intro i hi
    obtain ⟨b, o, z, h1, h2, h3⟩ := h i hi
    exact ⟨b, o, z, h1, by simp; omega, h3⟩
  refine (l01From_any a n c _ hx1 hn).mono ?_
  rintro e w1 ⟨b, rfl, hb, hs1, hb1⟩
  have hB1 := bt1 hb1
  have hz1 : w.heap.size < w1.heap.size := by have := hb1.size; simp at this; omega
  have hwb : w.heap.size < b := by simp at hb; omega
  have hA1 : w1.heap[w.heap.size]? = some (.cells #[.string ⟨#[]⟩, .int .i64 0, .int .i64 0, .int .i64 0, .int .i64 0] 25 (0, 0)) := (hb1.block _ (by simp)).trans Array.getElem?_push_size
  have HS1 := Lib.hid hs1
  have HB1 := Lib.hid hB1
  have HA1 := Lib.hid hA1
  clear hx1 hb hs1 hb1 hB1 hA1
  go_wp2_with fail
  refine (l31Draw_any b w1 HS1.out).mono ?_
  rintro e w2 ⟨p, x1, x2, x3, x4, rfl, hp, _, _, hx3, _, hs2, hg2⟩
  have HA2 := Lib.hid ((hg2.block w.heap.size (by omega) (fun e => by have := Option.some.inj e; omega)).trans HA1.out)
  have HB2 := Lib.hid (HB1.out.trans (below_of_grownBy hg2 HB1.out.size (fun k e => by have := Option.some.inj e; omega)))
  have hz2 : w.heap.size < w2.heap.size := by have := hg2.size; omega
  have HS2 := Lib.hid hs2
  have hb2 : b < w2.heap.size := hs2.lt
  clear hs2 hg2
  go_wp2_with fail
  have hC3 := box1 (w := w2) (cs := #[.string p, .int .i64 x1, .int .i64 x2, .int .i64 x3, .int .i64 x4]) (t := 25) (Below.refl _ _)
  have HB3 := Lib.hid (bt0 HB2.out (ba1 w2 (.cells #[.string p, .int .i64 x1, .int .i64 x2, .int .i64 x3, .int .i64 x4] 25 (0, 0))) (Nat.le_refl _))
  have HS3 := Lib.hid (HS2.out.below (ba1 w2 (.cells #[.string p, .int .i64 x1, .int .i64 x2, .int .i64 x3, .int .i64 x4] 25 (0, 0))))
  have HA3 := Lib.hid (((ba1 w2 (.cells #[.string p, .int .i64 x1, .int .i64 x2, .int .i64 x3, .int .i64 x4] 25 (0, 0))).block w.heap.size (by omega)).trans HA2.out)
  have hz3 : w2.heap.size < (w2.alloc (.cells #[.string p, .int .i64 x1, .int .i64 x2, .int .i64 x3, .int .i64 x4] 25 (0, 0))).heap.size := by simp
  have HC3 : Hid ((w2.alloc (.cells #[.string p, .int .i64 x1, .int .i64 x2, .int .i64 x3, .int .i64 x4] 25 (0, 0))).heap[w2.heap.size]? = some (.cells #[.string p, .int .i64 x1, .int .i64 x2, .int .i64 x3, .int .i64 x4] 25 (0, 0))) := Lib.hid Array.getElem?_push_size
  clear HB2 HS2 HA2
  generalize w2.alloc (.cells #[.string p, .int .i64 x1, .int .i64 x2, .int .i64 x3, .int .i64 x4] 25 (0, 0)) = w3 at *
  have hgb : ¬ w2.heap.size = b := by omega
  refine wp_region_rs (Keep := KeepN) [10, 11, 12, 13, 14, 15, 16, 17, 18, 19, 3] (fun us => _)
    [spN (· = .agg #[.string p, .int .i64 x1, .int .i64 x2, .int .i64 x3, .int .i64 x4]), spN (· = .pointer (some ⟨b, 0, none⟩)), spN (· = .pointer (some ⟨w2.heap.size, 3, none⟩)), spN (· = .int .i64 x3), spN (· = .int .i64 (x3 + 1)),
     spN (NumB 0 999999999), spN (· = .pointer (some ⟨b, 0, none⟩)), spN (NumB 0 19), spN (NumB 0 1), spN (NumB (-1) 999999999), spN (fun _ => True), spN (NumB (-1) 999999999)]
    (StSO b w2.heap.size w #[.string p, .int .i64 x1, .int .i64 x2, .int .i64 x3, .int .i64 x4]) (by kernel_rfl) (by kernel_rfl) (Nat.le_of_ble_eq_true rfl) (fun us => by simp [over, List.mapIdx_cons]; exact rfl) ?_ (fun w => Nat.le_refl _) ?_ ?_
  · exact ⟨HS3.out.kept (w' := World.drew w3) (grownBy_drewN w3 1 none) (by simp), HC3.out, ⟨_, _, _, _, _, HA3.out, by decide⟩, HB3.out.drew⟩
  · refine ⟨?_, ?_, ?_, ?_, ?_, ?_, ?_, ?_, ?_, ?_, ?_, ?_, trivial⟩
    all_goals (intro us wr hst hd; rw [if_pos (by kernel_rfl)]; dsimp only)
    · clear hd
      have hc := heap_cell hst.2.1
      go_simp
      exact so_same hst rfl
    · clear hd
      go_simp
      exact so_same hst rfl
    · clear hd
      go_simp
      exact so_same hst rfl
    · have d12 : us 12 = .pointer (some ⟨w2.heap.size, 3, none⟩) := hd ⟨2, .data⟩ (by simp) rfl
      clear hd
      have hc := heap_cell hst.2.1
      go_simp
      exact so_same hst rfl
    · have d13 : us 13 = .int .i64 x3 := hd ⟨3, .data⟩ (by simp) rfl
      clear hd
      have hw : IntKind.i64.wrap (x3 + 1) = x3 + 1 := IntWalk.i64_in _ (by omega)
      go_simp
      exact so_same hst rfl
    · have d11 : us 11 = .pointer (some ⟨b, 0, none⟩) := hd ⟨1, .data⟩ (by simp) rfl
      have d14 : us 14 = .int .i64 (x3 + 1) := hd ⟨4, .data⟩ (by simp) rfl
      clear hd
      go_simp
      exact so_next hst hwb hgb (by omega) (by omega) (by omega) (by omega)
    · clear hd
      go_simp
      exact so_same hst rfl
    · have d16 : us 16 = .pointer (some ⟨b, 0, none⟩) := hd ⟨6, .data⟩ (by simp) rfl
      clear hd
      go_simp
      exact so_next hst hwb hgb (by decide) (by decide) (by decide) (by decide)
    · have d17 : NumB 0 19 (us 17) := hd ⟨7, .data⟩ (by simp) rfl
      clear hd
      obtain ⟨r, e17, l17, u17⟩ := d17
      have hq : r.tdiv 19 = r / 19 := Int.tdiv_eq_ediv_of_nonneg l17
      have hq2 : IntKind.i64.wrap (r / 19) = r / 19 := IntWalk.i64_in _ (by omega)
      go_simp
      exact so_same hst ⟨_, rfl, by omega, by omega⟩
    · have d15 : NumB 0 999999999 (us 15) := hd ⟨5, .data⟩ (by simp) rfl
      have d18 : NumB 0 1 (us 18) := hd ⟨8, .data⟩ (by simp) rfl
      clear hd
      obtain ⟨r, e15, l15, u15⟩ := d15
      obtain ⟨r', e18, l18, u18⟩ := d18
      have hw : IntKind.i64.wrap (r - r') = r - r' := IntWalk.i64_in _ (by omega)
      go_simp
      exact so_same hst ⟨_, rfl, by omega, by omega⟩
    · have d10 : us 10 = .agg #[.string p, .int .i64 x1, .int .i64 x2, .int .i64 x3, .int .i64 x4] := hd ⟨0, .data⟩ (by simp) rfl
      clear hd
      obtain ⟨h1, h2, ⟨q, y1, y2, y3, y4, h3, h4⟩, h5⟩ := hst
      have hc := heap_cell h3
      have hf := heap_frozen h3
      have H := Lib.hid (And.intro h1 (And.intro h2 (And.intro h3 h5)))
      clear h1 h2 h3 h5
      go_simp
      have hgr := grownBy_trans (grownBy_trans (grownBy_trans (grownBy_trans (grownBy_set wr w.heap.size 0 (.string p)) (grownBy_set _ w.heap.size 1 (.int .i64 x1))) (grownBy_set _ w.heap.size 2 (.int .i64 x2))) (grownBy_set _ w.heap.size 3 (.int .i64 x3))) (grownBy_set _ w.heap.size 4 (.int .i64 x4))
      obtain ⟨h1, h2, h3, h5⟩ := H.out
      refine ⟨⟨src_box h1 h3 (by omega) hgr, (hgr.block _ (Array.getElem?_eq_some_iff.1 h2).1 (fun e => by have := Option.some.inj e; omega)).trans h2, ⟨p, x1, x2, x3, x4, src_set (src_set (src_set (src_set (src_set h3 0 _) 1 _) 2 _) 3 _) 4 _, hp⟩, ?_⟩, hgr.size, trivial⟩
      iterate 5 (refine Below.setCell ?_ (by dsimp only; omega) _)
      exact h5
    · have d19 : NumB (-1) 999999999 (us 19) := hd ⟨9, .data⟩ (by simp) rfl
      clear hd
      obtain ⟨r, e19, l19, u19⟩ := d19
      go_simp
      exact so_same hst ⟨_, rfl, by omega, by omega⟩
  · intro us wr hst hd
    have d3 : NumB (-1) 999999999 (us 3) := hd 11 (by simp)
    clear hd
    obtain ⟨r, e3, l3, u3⟩ := d3
    obtain ⟨h1, h2, ⟨q, y1, y2, y3, y4, h3, h4⟩, h5⟩ := hst
    have hc := heap_cell h3
    refine wpList_nil ?_
    rw [e3]
    go_wp2_with fail
    exact bodyPost_ret (v := .tuple #[.agg #[.string q, .int .i64 y1, .int .i64 y2, .int .i64 y3, .int .i64 y4], .int .i64 r]) (by simp [results, Tryd.results7, go_sem, hc]) rfl ⟨q, y1, y2, y3, y4, r, rfl, h4, ⟨l3, u3⟩, h5⟩

end Go.Proofs.YtnijdfdcjjbneaaDoor
