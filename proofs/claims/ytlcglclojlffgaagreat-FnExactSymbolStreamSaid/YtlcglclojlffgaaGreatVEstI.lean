import Derived.Test.YtlcglclojlffgaaGreatM4
import Derived.Test.YtlcglclojlffgaaGreatM2
import Derived.Test.YtlcglclojlffgaaGreatVTabI
import Derived.Test.YtlcglclojlffgaaGreatVOrdJ
namespace Go.Proofs.YtlcglclojlffgaaGreat
open Go.RowKit

/-- what a valid layout's numbers are -/
theorem lay_facts {d c n q : Nat} (h : Lay.ok ⟨d, c, n⟩ q = true) : 1 ≤ n ∧ n ≤ 16 ∧ n ≤ d ∧ d ≤ 1500 ∧ 1 ≤ c ∧ c ≤ 64 ∧ d + n * c ≤ 1500 ∧ ∀ b, b < n → shN d n b + c ≤ 255 ∧ shN d n b + c < q ∧ 1 ≤ shN d n b ∧ frN d n b + shN d n b ≤ d := by
  simp only [Lay.ok, Bool.and_eq_true, decide_eq_true_eq, Lay.total, codB] at h
  obtain ⟨⟨⟨⟨⟨⟨⟨⟨h1, h2⟩, h3⟩, h4⟩, h5⟩, h6⟩, h7⟩, h8⟩, h9⟩ := h
  have hn : 1 ≤ n := by omega
  rw [show (n : Int) - 1 = ((n - 1 : Nat) : Int) by omega, share_nat d c n (n - 1) hn] at h9
  refine ⟨hn, by omega, by omega, by omega, by omega, by omega, ?_, fun b hb => ?_⟩
  · have : ((d + n * c : Nat) : Int) ≤ 1500 := by push_cast; exact of_decide_eq_true h7
    omega
  · have hm := shN_mono d n (show b ≤ n - 1 by omega)
    have hp := shN_pos d n b hn (by omega)
    have hs := frN_step d n b
    have hf := frN_mono d n (b + 1) n hb
    rw [frN_all d n hn] at hf
    omega

theorem infoSl : (Tryz.prog.info? 24).map (fun i => (i.zero, i.size, i.bytes)) = some (some (.slice none 0 0), 1, 24) := by kernel_rfl
theorem make_ws (n : Nat) (hn : n ≤ 100000) (w : World) :
    (Instr.makeSlice 68 (.int .i64 (n : Int)) (.int .i64 (n : Int))).run Tryz.prog w = .ok (.slice (some ⟨w.heap.size, 0, none⟩) n n) (w.alloc (.cells (madeCells #[.slice none 0 0] n) 24)) := by
  obtain ⟨i0, hi, hz0, hz1, hz2⟩ := info_parts infoSl
  have := run_make (P := Tryz.prog) w 68 24 i0 _ Tryz.underlying68 hi hz0 .i64 .i64 n n (by omega) (Int.le_refl _) (by rw [hz2]; omega) (by omega)
  rw [hz1] at this
  simpa [Value.cells] using this

/-- a word in a cell of the row g -/
def WdV (g : Nat) (wd : List Nat) (v : Value) (W : World) : Prop := ∃ a c, v = .slice a wd.length c ∧ IntsAt W a (natI wd) ∧ ∀ ad, a = some ad → ad.block ≠ g
/-- a row of words: the first k are laid -/
def WsAt (W : World) (g n k : Nat) (wd : Nat → List Nat) : Prop := ∃ C t, W.heap[g]? = some (.cells C t (0, 0)) ∧ C.size = n ∧ ∀ i, i < k → ∃ v, C[i]? = some v ∧ WdV g (wd i) v W
theorem WdV.below {g : Nat} {wd : List Nat} {v : Value} {W W' : World} (h : WdV g wd v W) (hb : Below W.heap.size W W') : WdV g wd v W' := by
  obtain ⟨a, c, e, hi, hne⟩ := h
  exact ⟨a, c, e, hi.below hb, hne⟩
theorem WsAt.below {W W' : World} {g n k : Nat} {wd : Nat → List Nat} (h : WsAt W g n k wd) (hb : Below W.heap.size W W') : WsAt W' g n k wd := by
  obtain ⟨C, t, h1, h2, h3⟩ := h
  exact ⟨C, t, blkK hb h1, h2, fun i hi => by obtain ⟨v, e, hv⟩ := h3 i hi; exact ⟨v, e, hv.below hb⟩⟩
theorem WsAt.new (w : World) (n : Nat) (wd : Nat → List Nat) : WsAt (w.alloc (.cells (madeCells #[.slice none 0 0] n) 24)) w.heap.size n 0 wd :=
  ⟨_, _, push_at _ _, size_madeCells _ _, fun i hi => absurd hi (by omega)⟩
theorem WsAt.lt {W : World} {g n k : Nat} {wd : Nat → List Nat} (h : WsAt W g n k wd) : g < W.heap.size := by
  obtain ⟨C, t, h1, h2, h3⟩ := h
  exact blkLt h1
theorem WdV.store {g : Nat} {wd : List Nat} {v u : Value} {W : World} {i : Nat} (h : WdV g wd v W) : WdV g wd v (W.setCell ⟨g, i, none⟩ u) := by
  obtain ⟨a, c, e, hi, hne⟩ := h
  refine ⟨a, c, e, fun j hj => ?_, hne⟩
  obtain ⟨b, o, ha, hc⟩ := hi j hj
  refine ⟨b, o, ha, ?_⟩
  rw [World.cell?_setCell_other _ _ _ _ (by have := hne _ ha; intro e; rw [Addr.mk.injEq] at e; exact this e.1.symm)]
  exact hc
theorem WsAt.store {W : World} {g n k : Nat} {wd : Nat → List Nat} {v : Value} (h : WsAt W g n k wd) (hk : k < n) (hv : WdV g (wd k) v W) : WsAt (W.setCell ⟨g, k, none⟩ v) g n (k + 1) wd := by
  obtain ⟨C, t, h1, h2, h3⟩ := h
  refine ⟨_, t, setCell_blk h1 _ _, by simp [h2], fun i hi => ?_⟩
  by_cases e : i = k
  · subst e
    exact ⟨v, by rw [Array.getElem?_setIfInBounds_self_of_lt (by omega)], hv.store⟩
  · obtain ⟨v', e', hv'⟩ := h3 i (by omega)
    exact ⟨v', by rw [Array.getElem?_setIfInBounds_ne (by omega)]; exact e', hv'.store⟩
/-- a place of the row is there -/
theorem WsAt.place {W : World} {g n k : Nat} {wd : Nat → List Nat} (h : WsAt W g n k wd) {i : Nat} (hi : i < n) : ∃ v, W.cell? ⟨g, i, none⟩ = some v ∧ W.frozen? ⟨g, i, none⟩ = false := by
  obtain ⟨C, t, h1, h2, h3⟩ := h
  obtain ⟨hc, hf⟩ := heap_cellR h1
  exact ⟨C[i]'(by omega), by rw [hc]; exact Array.getElem?_eq_getElem (by omega), hf i⟩
/-- a word is read -/
theorem WsAt.word {W : World} {g n k : Nat} {wd : Nat → List Nat} (h : WsAt W g n k wd) {i : Nat} (hi : i < k) : ∃ a c, W.cell? ⟨g, i, none⟩ = some (.slice a (wd i).length c) ∧ IntsAt W a (natI (wd i)) := by
  obtain ⟨C, t, h1, h2, h3⟩ := h
  obtain ⟨hc, hf⟩ := heap_cellR h1
  obtain ⟨v, e, a, c, rfl, hI, _⟩ := h3 i hi
  exact ⟨a, c, by rw [hc]; exact e, hI⟩
theorem IntsAt.grownBy {W W' : World} {a : Option Addr} {zs : List Int} {row : Option Nat} (h : IntsAt W a zs) (hg : W.grownBy W' row) (hr : ∀ r, row = some r → ∃ o : Obj, W.heap[r]? = some o ∧ o.isCells = false) : IntsAt W' a zs := by
  intro i hi
  obtain ⟨b, o, ha, hc⟩ := h i hi
  exact ⟨b, o, ha, cell_kept hc hg hr⟩
theorem blk_grownBy {W W' : World} {row : Option Nat} {b : Nat} {C : Array Value} {t : TypeId} {fz : Nat × Nat} (h : W.heap[b]? = some (.cells C t fz)) (hg : W.grownBy W' row) (hr : ∀ r, row = some r → ∃ o : Obj, W.heap[r]? = some o ∧ o.isCells = false) : W'.heap[b]? = some (.cells C t fz) := by
  refine (hg.block b (blkLt h) fun e => ?_).trans h
  obtain ⟨o, h1, h2⟩ := hr b e.symm
  rw [h] at h1
  cases h1
  cases h2
theorem WsAt.grownBy {W W' : World} {g n k : Nat} {wd : Nat → List Nat} {row : Option Nat} (h : WsAt W g n k wd) (hg : W.grownBy W' row) (hr : ∀ r, row = some r → ∃ o : Obj, W.heap[r]? = some o ∧ o.isCells = false) : WsAt W' g n k wd := by
  obtain ⟨C, t, h1, h2, h3⟩ := h
  refine ⟨C, t, blk_grownBy h1 hg hr, h2, fun i hi => ?_⟩
  obtain ⟨v, e, a, c, e2, hI, hne⟩ := h3 i hi
  exact ⟨v, e, a, c, e2, hI.grownBy hg hr, hne⟩
theorem IntsAt.dropN {w : World} {b o : Nat} {zs : List Nat} (h : IntsAt w (some ⟨b, o, none⟩) (natI zs)) (k : Nat) : IntsAt w (some ⟨b, o + k, none⟩) (natI (zs.drop k)) := by
  intro i hi
  have hl : k + i < (natI zs).length := by simp [natI] at hi ⊢; omega
  obtain ⟨b', o', ha, hc⟩ := h (k + i) hl
  cases ha
  refine ⟨b, o + k, rfl, ?_⟩
  rw [Nat.add_assoc, hc]
  simp [natI]
theorem OwnI.grownBy {W W' : World} {base : Nat} {v : Value} {zs : List Int} {row : Option Nat} (h : OwnI W base v zs) (hg : W.grownBy W' row) (hr : ∀ r, row = some r → ∃ o : Obj, W.heap[r]? = some o ∧ o.isCells = false) : OwnI W' base v zs := by
  refine h.other hg fun k hk e => ?_
  obtain ⟨o, h1, h2⟩ := hr k e
  rcases h.2 with ⟨rfl, _⟩ | ⟨g, cap, cur, rfl, _, hgc, _⟩
  · cases hk
  · cases hk
    rw [hgc] at h1
    cases h1
    cases h2
theorem OwnI.notAt {w : World} {base g n c : Nat} {a : Option Addr} {zs : List Int} (h : OwnI w base (.slice a n c) zs) (hg : g < base) : ∀ ad, a = some ad → ad.block ≠ g := fun ad e => by
  subst e
  have := h.lo ad.block rfl
  omega

theorem own_cap {w : World} {base n c : Nat} {a : Option Addr} {zs : List Int} (h : OwnI w base (.slice a n c) zs) : zs.length ≤ c := by
  rcases h.2 with ⟨h1, h2⟩ | ⟨g, cap, cur, h1, hg, _, h3, _⟩
  · omega
  · simp only [Value.slice.injEq] at h1; omega

end Go.Proofs.YtlcglclojlffgaaGreat
