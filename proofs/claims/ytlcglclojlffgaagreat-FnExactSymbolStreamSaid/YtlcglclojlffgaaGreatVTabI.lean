import Derived.Test.YtlcglclojlffgaaGreatM4
namespace Go.Proofs.YtlcglclojlffgaaGreat
open Go.RowKit

theorem infoC : (Tryz.prog.info? 100).map (fun i => (i.zero, i.size, i.bytes)) = some (some (.agg #[.int .i64 0, .int .i64 0, .int .i64 0, .int .i64 0]), 4, 32) := by kernel_rfl
theorem make_ch (n : Nat) (hn : n ≤ 100000) (w : World) :
    (Instr.makeSlice 101 (.int .i64 (n : Int)) (.int .i64 (n : Int))).run Tryz.prog w = .ok (.slice (some ⟨w.heap.size, 0, none⟩) n n) (w.alloc (.cells (madeCells #[.int .i64 0, .int .i64 0, .int .i64 0, .int .i64 0] (n * 4)) 100)) := by
  obtain ⟨i0, hi, hz0, hz1, hz2⟩ := info_parts infoC
  have := run_make (P := Tryz.prog) w 101 100 i0 _ Tryz.underlying101 hi hz0 .i64 .i64 n n (by omega) (Int.le_refl _) (by rw [hz2]; omega) (by omega)
  rw [hz1] at this
  simpa [Value.cells] using this
theorem made_four (z : Value) (N j : Nat) (hj : j < N) : (madeCells #[z, z, z, z] N)[j]? = some z := by
  unfold madeCells
  rw [Array.getElem?_map, Array.getElem?_range]
  have h4 : j % 4 = 0 ∨ j % 4 = 1 ∨ j % 4 = 2 ∨ j % 4 = 3 := by omega
  rw [if_pos hj]
  rcases h4 with h | h | h | h <;> simp [h]
/-- a row of choices -/
def TabAt (w : World) (g n : Nat) (f : Nat → Ch) : Prop := ∃ C t, w.heap[g]? = some (.cells C t (0, 0)) ∧ C.size = n * 4 ∧
  ∀ i, i < n → C[i * 4]? = some (.int .i64 (f i).l) ∧ C[i * 4 + 1]? = some (.int .i64 (f i).c) ∧ C[i * 4 + 2]? = some (.int .i64 (f i).t) ∧ C[i * 4 + 3]? = some (.int .i64 (f i).m)
theorem TabAt.kept {w w' : World} {g n : Nat} {f : Nat → Ch} (h : TabAt w g n f) (hk : w'.heap[g]? = w.heap[g]?) : TabAt w' g n f := by
  obtain ⟨C, t, h1, h2, h3⟩ := h
  exact ⟨C, t, hk.trans h1, h2, h3⟩
theorem TabAt.lt {w : World} {g n : Nat} {f : Nat → Ch} (h : TabAt w g n f) : g < w.heap.size := by
  obtain ⟨C, t, h1, h2, h3⟩ := h
  exact blkLt h1
theorem TabAt.below {w w' : World} {g n : Nat} {f : Nat → Ch} (h : TabAt w g n f) (hb : Below w.heap.size w w') : TabAt w' g n f := h.kept (hb.block g h.lt)
theorem TabAt.like {w : World} {g n : Nat} {f f' : Nat → Ch} (h : TabAt w g n f) (e : ∀ i, i < n → f' i = f i) : TabAt w g n f' := by
  obtain ⟨C, t, h1, h2, h3⟩ := h
  exact ⟨C, t, h1, h2, fun i hi => by rw [e i hi]; exact h3 i hi⟩
theorem TabAt.cell {w : World} {g n : Nat} {f : Nat → Ch} (h : TabAt w g n f) {i : Nat} (hi : i < n) :
    w.cell? ⟨g, i * 4, none⟩ = some (.int .i64 (f i).l) ∧ w.cell? ⟨g, i * 4 + 1, none⟩ = some (.int .i64 (f i).c) ∧ w.cell? ⟨g, i * 4 + 2, none⟩ = some (.int .i64 (f i).t) ∧ w.cell? ⟨g, i * 4 + 3, none⟩ = some (.int .i64 (f i).m) ∧ (∀ j, w.frozen? ⟨g, j, none⟩ = false) := by
  obtain ⟨C, t, h1, h2, h3⟩ := h
  obtain ⟨hc, hf⟩ := heap_cellR h1
  obtain ⟨k1, k2, k3, k4⟩ := h3 i hi
  exact ⟨by rw [hc]; exact k1, by rw [hc]; exact k2, by rw [hc]; exact k3, by rw [hc]; exact k4, hf⟩
theorem TabAt.new (w : World) (n : Nat) : TabAt (w.alloc (.cells (madeCells #[.int .i64 0, .int .i64 0, .int .i64 0, .int .i64 0] (n * 4)) 100)) w.heap.size n (fun _ => chZ) := by
  refine ⟨_, _, push_at _ _, size_madeCells _ _, fun i hi => ⟨?_, ?_, ?_, ?_⟩⟩
  all_goals exact made_four _ _ _ (by omega)
/-- a choice is laid into the row -/
theorem TabAt.set {w : World} {g n : Nat} {f : Nat → Ch} (h : TabAt w g n f) {i : Nat} (_hi : i < n) (x : Ch) :
    TabAt ((((w.setCell ⟨g, i * 4, none⟩ (.int .i64 x.l)).setCell ⟨g, i * 4 + 1, none⟩ (.int .i64 x.c)).setCell ⟨g, i * 4 + 2, none⟩ (.int .i64 x.t)).setCell ⟨g, i * 4 + 3, none⟩ (.int .i64 x.m)) g n (fun j => if j = i then x else f j) := by
  obtain ⟨C, t, h1, h2, h3⟩ := h
  refine ⟨_, t, setCell_blk (setCell_blk (setCell_blk (setCell_blk h1 _ _) _ _) _ _) _ _, by simp [h2], fun j hj => ?_⟩
  dsimp only
  by_cases e : j = i
  · subst e
    rw [if_pos rfl]
    refine ⟨?_, ?_, ?_, ?_⟩
    · rw [Array.getElem?_setIfInBounds_ne (by omega), Array.getElem?_setIfInBounds_ne (by omega), Array.getElem?_setIfInBounds_ne (by omega), Array.getElem?_setIfInBounds_self_of_lt (by omega)]
    · rw [Array.getElem?_setIfInBounds_ne (by omega), Array.getElem?_setIfInBounds_ne (by omega), Array.getElem?_setIfInBounds_self_of_lt (by simp; omega)]
    · rw [Array.getElem?_setIfInBounds_ne (by omega), Array.getElem?_setIfInBounds_self_of_lt (by simp; omega)]
    · rw [Array.getElem?_setIfInBounds_self_of_lt (by simp; omega)]
  · rw [if_neg e]
    obtain ⟨k1, k2, k3, k4⟩ := h3 j hj
    refine ⟨?_, ?_, ?_, ?_⟩
    all_goals
      rw [Array.getElem?_setIfInBounds_ne (by omega), Array.getElem?_setIfInBounds_ne (by omega), Array.getElem?_setIfInBounds_ne (by omega), Array.getElem?_setIfInBounds_ne (by omega)]
      assumption
theorem four_grown (w : World) (g a b c d : Nat) (x y z u : Value) : w.grownBy ((((w.setCell ⟨g, a, none⟩ x).setCell ⟨g, b, none⟩ y).setCell ⟨g, c, none⟩ z).setCell ⟨g, d, none⟩ u) (some g) :=
  grownBy_trans (grownBy_trans (grownBy_trans (grownBy_set _ _ _ _) (grownBy_set _ _ _ _)) (grownBy_set _ _ _ _)) (grownBy_set _ _ _ _)
/-- one choice in a box -/
def BxC (w : World) (g : Nat) (x : Ch) : Prop := TabAt w g 1 (fun _ => x)
theorem BxC.new (w : World) (x : Ch) (t : TypeId) : BxC (w.alloc (.cells #[.int .i64 x.l, .int .i64 x.c, .int .i64 x.t, .int .i64 x.m] t)) w.heap.size x :=
  ⟨_, _, push_at _ _, rfl, fun i hi => by obtain rfl : i = 0 := by omega
                                          exact ⟨rfl, rfl, rfl, rfl⟩⟩
theorem BxC.cells {w : World} {g : Nat} {x : Ch} (h : BxC w g x) : w.cell? ⟨g, 0, none⟩ = some (.int .i64 x.l) ∧ w.cell? ⟨g, 1, none⟩ = some (.int .i64 x.c) ∧ w.cell? ⟨g, 2, none⟩ = some (.int .i64 x.t) ∧ w.cell? ⟨g, 3, none⟩ = some (.int .i64 x.m) ∧ (∀ j, w.frozen? ⟨g, j, none⟩ = false) := by
  have := TabAt.cell h (i := 0) (by omega)
  simpa using this
theorem BxC.set {w : World} {g : Nat} {x : Ch} (h : BxC w g x) (y : Ch) : BxC ((((w.setCell ⟨g, 0, none⟩ (.int .i64 y.l)).setCell ⟨g, 1, none⟩ (.int .i64 y.c)).setCell ⟨g, 2, none⟩ (.int .i64 y.t)).setCell ⟨g, 3, none⟩ (.int .i64 y.m)) g y := by
  have := TabAt.set h (i := 0) (by omega) y
  simp only [Nat.zero_mul, Nat.zero_add] at this
  exact this.like (fun i hi => by obtain rfl : i = 0 := by omega
                                  rfl)

end Go.Proofs.YtlcglclojlffgaaGreat
