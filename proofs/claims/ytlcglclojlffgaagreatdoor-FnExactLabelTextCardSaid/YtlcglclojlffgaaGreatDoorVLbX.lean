import Derived.Test.YtlcglclojlffgaaGreatDoorVLbW
namespace Go.Proofs.YtlcglclojlffgaaGreatDoor
open Go.RowKit

/-- so many items lie in cells -/
def ItCs (cs : Array Value) (xs : List It) (k : Nat) : Prop := ∀ i x, xs[i]? = some x → i < k → ∀ j u, (itE.enc x)[j]? = some u → cs[i * 9 + j]? = some u
theorem infoIt : (Tryz.prog.info? 49).map (fun i => (i.zero, i.size, i.bytes)) = some (some (.agg #[.int .i64 0, .int .i64 0, .int .i64 0, .int .i64 0, .int .i64 0, .int .i64 0, .string ⟨#[]⟩, .int .i64 0, .string ⟨#[]⟩]), 9, 88) := by kernel_rfl
abbrev set9 (cs : Array Value) (o : Nat) (v0 v1 v2 v3 v4 v5 v6 v7 v8 : Value) : Array Value :=
  ((((((((cs.setIfInBounds o v0).setIfInBounds (o + 1) v1).setIfInBounds (o + 2) v2).setIfInBounds (o + 3) v3).setIfInBounds (o + 4) v4).setIfInBounds (o + 5) v5).setIfInBounds (o + 6) v6).setIfInBounds (o + 7) v7).setIfInBounds (o + 8) v8
theorem set_other {cs : Array Value} {a m : Nat} {v : Value} (h : a ≠ m) : (cs.setIfInBounds a v)[m]? = cs[m]? := by rw [Array.getElem?_setIfInBounds, if_neg h]
theorem set_same {cs : Array Value} {a : Nat} {v : Value} (h : a < cs.size) : (cs.setIfInBounds a v)[a]? = some v := by rw [Array.getElem?_setIfInBounds, if_pos rfl, if_pos h]
theorem itCs_step {cs : Array Value} {xs : List It} {k : Nat} {x : It} (hs : cs.size = xs.length * 9) (hc : ItCs cs xs k) (hx : xs[k]? = some x) :
    ItCs (set9 cs (k * 9) (.int .i64 x.kind) (.int .i64 x.row) (.int .i64 x.col) (.int .i64 x.scale) (.int .i64 x.tall) (.int .i64 x.wide) (.string x.name) (.int .i64 x.level) (.string x.text)) xs (k + 1) := by
  have hk : k < xs.length := (List.getElem?_eq_some_iff.1 hx).1
  intro i y hy hi j u hu
  have hj : j < 9 := by
    have h1 := (List.getElem?_eq_some_iff.1 hu).1
    rwa [itE.len] at h1
  by_cases hik : i = k
  · subst hik
    obtain rfl : x = y := by rw [hx] at hy; exact Option.some.inj hy
    have hj9 : j = 0 ∨ j = 1 ∨ j = 2 ∨ j = 3 ∨ j = 4 ∨ j = 5 ∨ j = 6 ∨ j = 7 ∨ j = 8 := by omega
    unfold set9
    rcases hj9 with rfl | rfl | rfl | rfl | rfl | rfl | rfl | rfl | rfl
    all_goals
      obtain rfl := Option.some.inj hu
      repeat rw [set_other (by omega)]
      exact set_same (by first | omega | (simp only [Array.size_setIfInBounds]; omega))
  · have h1 := hc i y hy (by omega) j u hu
    unfold set9
    repeat rw [set_other (by omega)]
    exact h1
theorem heap_set9 {w : World} {g o : Nat} {cs : Array Value} {t : TypeId} (h : w.heap[g]? = some (.cells cs t (0, 0))) (v0 v1 v2 v3 v4 v5 v6 v7 v8 : Value) :
    (((((((((w.setCell ⟨g, o, none⟩ v0).setCell ⟨g, o + 1, none⟩ v1).setCell ⟨g, o + 2, none⟩ v2).setCell ⟨g, o + 3, none⟩ v3).setCell ⟨g, o + 4, none⟩ v4).setCell ⟨g, o + 5, none⟩ v5).setCell ⟨g, o + 6, none⟩ v6).setCell ⟨g, o + 7, none⟩ v7).setCell ⟨g, o + 8, none⟩ v8).heap[g]? = some (.cells (set9 cs o v0 v1 v2 v3 v4 v5 v6 v7 v8) t (0, 0)) :=
  src_set (src_set (src_set (src_set (src_set (src_set (src_set (src_set (src_set h o v0) (o + 1) v1) (o + 2) v2) (o + 3) v3) (o + 4) v4) (o + 5) v5) (o + 6) v6) (o + 7) v7) (o + 8) v8
/-- while they are copied -/
def ItCopy (w wr : World) (xs : List It) (k : Nat) : Prop :=
  ∃ cs, wr.heap[w.heap.size]? = some (.cells cs 49 (0, 0)) ∧ cs.size = xs.length * 9 ∧ ItCs cs xs k ∧ Below w.heap.size w wr
theorem at9 {cs : Array Value} {n k : Nat} (hs : cs.size = n * 9) (hk : k < n) (j : Nat) (hj : j < 9) : ∃ v, cs[k * 9 + j]? = some v := ⟨cs[k * 9 + j]'(by omega), Array.getElem?_eq_getElem _⟩
/-- items of the call's own are handed back -/
def RetIts (w : World) (xs : List It) (e : Ending) (w' : World) : Prop := ∃ b : Nat, e = .returned (.slice (some ⟨b, 0, none⟩) xs.length xs.length) ∧ itE.At w' (some ⟨b, 0, none⟩) xs ∧ w.heap.size ≤ b ∧ Below w.heap.size w w'
theorem itAt_same {w w' : World} {b : Nat} {xs : List It} (h : itE.At w (some ⟨b, 0, none⟩) xs) (hk : w'.heap[b]? = w.heap[b]?) : itE.At w' (some ⟨b, 0, none⟩) xs := by
  intro i x hx
  obtain ⟨b1, o1, e, hc⟩ := h i x hx
  refine ⟨b1, o1, e, fun j u hu => ?_⟩
  cases e
  rw [← hc j u hu]
  simp [World.cell?, hk]
set_option maxRecDepth 100000 in
set_option maxHeartbeats 4000000 in
theorem toItemS_any (a : Option Addr) (xs : List It) (c : Nat) (w : World) (hx : itE.At w a xs) (lx : xs.length ≤ 1048576) :
    Calls Tryz.prog 24 #[.slice a xs.length c] w (RetIts w xs) := by
  obtain ⟨i0, hi, hz0, hz1, hz2⟩ := info_parts infoIt
  have HX := Lib.hid hx
  clear hx
  go_enter Tryz.func24, Tryz.ntmps24
  go_wp2_with (at_make; refine wpList_make_full _ rfl _ _ 27 rfl w.heap.size 49 i0 (.agg #[.int .i64 0, .int .i64 0, .int .i64 0, .int .i64 0, .int .i64 0, .int .i64 0, .string ⟨#[]⟩, .int .i64 0, .string ⟨#[]⟩]) 9 Tryz.underlying27 hi hz0 hz1 _ _ _ _ xs.length rfl rfl rfl rfl ?c1 ?c2 ?c3 ?_)
  case c1 => rw [hz2]; omega
  case c2 => unfold maxLen; omega
  case c3 => omega
  intro w1 hown hg
  have H0 : Hid (ItCopy w w1 xs 0) := by
    obtain ⟨_, h2⟩ := hown
    rcases h2 with ⟨h, _⟩ | ⟨g, cap, cur, h, _, hg2, _, _, hs, _⟩
    · cases h
    · simp only [Value.slice.injEq, Option.some.injEq, Addr.mk.injEq, and_true, true_and] at h
      obtain ⟨rfl, rfl⟩ := h
      exact ⟨cur, hg2, hs, fun i d hi h => absurd h (by omega), below_of_grownBy hg (Nat.le_refl _) (fun k h => by cases h)⟩
  clear hown hg hi hz0 hz1 hz2
  go_wp2_with fail
  go_loopw [4] (fun i wr => ∃ k : Nat, k ≤ xs.length ∧ i = .int .i64 k ∧ ItCopy w wr xs k) (fun i _ => xs.length - (intOf i).toNat)
  case atStart => exact ⟨0, Nat.zero_le _, rfl, H0.out⟩
  case round =>
    clear H0
    obtain ⟨k, hk, rfl, cs, hg, hs, hcs, hb⟩ := hrel
    have HB := Lib.hid hb
    have HG := Lib.hid hg
    have HC := Lib.hid hcs
    have HS := Lib.hid hs
    clear hg hs hcs hb
    by_cases hlt : k < xs.length
    · have hki : (k : Int) < (xs.length : Int) := by omega
      obtain ⟨x, hx⟩ : ∃ x, xs[k]? = some x := by rw [List.getElem?_eq_getElem hlt]; exact ⟨_, rfl⟩
      have HST := Lib.hid (itCs_step HS.out HC.out hx)
      have HTI := Lib.hid (fun w => toItem_any x w)
      obtain ⟨b1, o1, rfl, hbl, y0, y1, y2, y3, y4, y5, y6, y7, y8⟩ := it_at (HX.out.below HB.out) hx
      clear hx
      obtain ⟨kd, row, col, sc, tall, wide, nm, lev, tx⟩ := x
      dsimp only at y0 y1 y2 y3 y4 y5 y6 y7 y8 HTI HST
      unfold itV at HTI
      dsimp only at HTI
      go_wp2_with fail
      refine (HTI.out _).mono ?_
      rintro e w2 ⟨rfl, hb2⟩
      have hg2 := blkK hb2 HG.out
      have HG2 := Lib.hid hg2
      have HB2 := Lib.hid (bt0 HB.out hb2 (Nat.le_refl _))
      obtain ⟨hcc, hff⟩ := heap_cellR hg2
      obtain ⟨u0, g0⟩ := at9 HS.out hlt 0 (by omega)
      obtain ⟨u1, g1⟩ := at9 HS.out hlt 1 (by omega)
      obtain ⟨u2, g2⟩ := at9 HS.out hlt 2 (by omega)
      obtain ⟨u3, g3⟩ := at9 HS.out hlt 3 (by omega)
      obtain ⟨u4, g4⟩ := at9 HS.out hlt 4 (by omega)
      obtain ⟨u5, g5⟩ := at9 HS.out hlt 5 (by omega)
      obtain ⟨u6, g6⟩ := at9 HS.out hlt 6 (by omega)
      obtain ⟨u7, g7⟩ := at9 HS.out hlt 7 (by omega)
      obtain ⟨u8, g8⟩ := at9 HS.out hlt 8 (by omega)
      rw [← hcc] at g0 g1 g2 g3 g4 g5 g6 g7 g8
      rw [Nat.add_zero] at g0
      clear hb2 hg2 y0 y1 y2 y3 y4 y5 y6 y7 y8 hcc
      go_wp2_with fail
      refine ⟨⟨k + 1, by omega, by go_num, _, heap_set9 HG2.out (.int .i64 kd) (.int .i64 row) (.int .i64 col) (.int .i64 sc) (.int .i64 tall) (.int .i64 wide) (.string nm) (.int .i64 lev) (.string tx), ?_, HST.out, ?_⟩, by simp [intOf]; omega⟩
      · simp only [set9, Array.size_setIfInBounds]; exact HS.out
      · iterate 9 (refine Below.setCell ?_ (by dsimp only; omega) _)
        exact HB2.out
    · obtain rfl : k = xs.length := by omega
      have hki : ¬ ((xs.length : Nat) : Int) < (xs.length : Int) := by omega
      go_wp2_with fail
      go_ret
      refine ⟨w.heap.size, rfl, ?_, Nat.le_refl _, HB.out⟩
      intro i x hx
      have hix := (List.getElem?_eq_some_iff.1 hx).1
      refine ⟨w.heap.size, 0, rfl, fun j u hu => ?_⟩
      rw [Nat.zero_add, (heap_cellR HG.out).1]
      exact HC.out i x hx hix j u hu
/-- a label with items of the call's own is handed back -/
def RetLb (w : World) (l : Lb) (e : Ending) (w' : World) : Prop := ∃ b : Nat, e = .returned (lbV l (some ⟨b, 0, none⟩) l.items.length) ∧ itE.At w' (some ⟨b, 0, none⟩) l.items ∧ Below w.heap.size w w'
set_option maxRecDepth 100000 in
set_option maxHeartbeats 2000000 in
theorem toLabel_any (l : Lb) (a : Option Addr) (c : Nat) (w : World) (hx : itE.At w a l.items) (lx : l.items.length ≤ 1048576) :
    Calls Tryz.prog 8 #[lbV l a c] w (RetLb w l) := by
  obtain ⟨rows, cols, items⟩ := l
  dsimp only at hx lx
  have HX := Lib.hid hx
  clear hx
  go_enter Tryz.func8, Tryz.ntmps8
  go_wp2_with fail
  have HB0 := Lib.hid (ba3 w (.cells #[.int .i64 rows, .int .i64 cols, .slice a items.length c] 24 (0, 0)) (.cells #[.int .i64 0, .int .i64 0, .slice none 0 0] 29 (0, 0)) (.cells #[.int .i64 rows, .int .i64 cols, .slice none 0 0] 29 (0, 0)))
  have K1 := Lib.hid (blkK (ba1 ((w.alloc (.cells #[.int .i64 rows, .int .i64 cols, .slice a items.length c] 24 (0, 0))).alloc (.cells #[.int .i64 0, .int .i64 0, .slice none 0 0] 29 (0, 0))) (.cells #[.int .i64 rows, .int .i64 cols, .slice none 0 0] 29 (0, 0))) (heap2 w (.cells #[.int .i64 rows, .int .i64 cols, .slice a items.length c] 24 (0, 0)) (.cells #[.int .i64 0, .int .i64 0, .slice none 0 0] 29 (0, 0))).2)
  have K2 := Lib.hid ((heap2 (w.alloc (.cells #[.int .i64 rows, .int .i64 cols, .slice a items.length c] 24 (0, 0))) (.cells #[.int .i64 0, .int .i64 0, .slice none 0 0] 29 (0, 0)) (.cells #[.int .i64 rows, .int .i64 cols, .slice none 0 0] 29 (0, 0))).2)
  refine (toItemS_any a items c _ (HX.out.below HB0.out) lx).mono ?_
  rintro e w1 ⟨b, rfl, hat, hbb, hb1⟩
  have hbb2 : w.heap.size + 1 + 1 + 1 ≤ b := by simpa using hbb
  have HAT := Lib.hid hat
  have HB1 := Lib.hid (bt0 HB0.out hb1 (Nat.le_refl _))
  have KK1 := Lib.hid (blkK hb1 K1.out)
  have KK2 := Lib.hid (blkK hb1 K2.out)
  have hK2 := KK2.out
  rw [show (w.alloc (.cells #[.int .i64 rows, .int .i64 cols, .slice a items.length c] 24 (0, 0))).heap.size = w.heap.size + 1 by simp] at hK2
  obtain ⟨hc1, hf1⟩ := heap_cellR KK1.out
  obtain ⟨hc2, hf2⟩ := heap_cellR hK2
  have hl1 := blkLt KK1.out
  have hl2 := blkLt hK2
  clear hat hb1 hK2 hbb
  go_wp2_with fail
  refine bodyPost_ret (v := .agg #[.int .i64 rows, .int .i64 cols, .slice (some ⟨b, 0, none⟩) items.length items.length]) (by simp [results, Tryz.results8, go_sem, hc1]) rfl ⟨b, rfl, ?_, ?_⟩
  · refine itAt_same HAT.out ?_
    rw [heap_setCell_other _ ⟨w.heap.size + 1, 2, none⟩ b _ (by dsimp only; omega), heap_setCell_other _ ⟨w.heap.size + 1, 1, none⟩ b _ (by dsimp only; omega), heap_setCell_other _ ⟨w.heap.size + 1, 0, none⟩ b _ (by dsimp only; omega), heap_setCell_other _ ⟨w.heap.size + 1 + 1, 2, none⟩ b _ (by dsimp only; omega)]
  · iterate 4 (refine Below.setCell ?_ (by dsimp only; omega) _)
    exact HB1.out

end Go.Proofs.YtlcglclojlffgaaGreatDoor
