import Derived.Test.YtlcglclojlffgaaGreatM4
import Derived.Test.YtlcglclojlffgaaGreatVEstI
import Derived.Test.YtlcglclojlffgaaGreatM3
namespace Go.Proofs.YtlcglclojlffgaaGreat
open Go.RowKit

/-- a block and an element, in a slice of two -/
def PrAt (W : World) (x : Nat × Nat) (v : Value) : Prop := ∃ b, v = .slice (some ⟨b, 0, none⟩) 2 2 ∧ W.heap[b]? = some (.cells #[.int .i64 (x.1 : Int), .int .i64 (x.2 : Int)] 2 (0, 0))
/-- rows of pairs of the call's own -/
def PrsOwn (W : World) (base : Nat) (v : Value) (ps : List (Nat × Nat)) : Prop := ∃ vs : List Value, vs.length = ps.length ∧ W.ownsRow base 24 1 v ps.length vs ∧ ∀ (i : Nat) (x : Nat × Nat), ps[i]? = some x → ∃ u, vs[i]? = some u ∧ PrAt W x u
theorem PrAt.below {W W' : World} {x : Nat × Nat} {v : Value} (h : PrAt W x v) (hb : Below W.heap.size W W') : PrAt W' x v := by
  obtain ⟨b, e, hg⟩ := h
  exact ⟨b, e, blkK hb hg⟩
theorem owns_type {W : World} {base : Nat} {t : TypeId} {k n : Nat} {v : Value} {vs : List Value} (h : W.ownsRow base t k v n vs) {b : Nat} {C : Array Value} {t' : TypeId} {fz : Nat × Nat} (hg : W.heap[b]? = some (.cells C t' fz)) (ht : t' ≠ t) : v.ownBlock ≠ some b := by
  rcases h.2 with ⟨rfl, h0⟩ | ⟨g, cap, cur, rfl, hb, hg2, r⟩
  · intro e; cases e
  · intro e
    obtain rfl := Option.some.inj e
    rw [hg] at hg2
    injection hg2 with hc
    injection hc with _ hc
    exact ht hc
theorem PrAt.grownBy {W W' : World} {base : Nat} {t : TypeId} {k n : Nat} {s v : Value} {vs : List Value} {x : Nat × Nat} (h : PrAt W x v) (ho : W.ownsRow base t k s n vs) (hg : W.grownBy W' s.ownBlock) (ht : 2 ≠ t) : PrAt W' x v := by
  obtain ⟨b, e, hb⟩ := h
  exact ⟨b, e, (hg.block b (blkLt hb) (fun e' => owns_type ho hb ht e'.symm)).trans hb⟩
theorem PrsOwn.grown {W W' : World} {base : Nat} {v : Value} {ps : List (Nat × Nat)} (h : PrsOwn W base v ps) (hb : Below W.heap.size W W') : PrsOwn W' base v ps := by
  obtain ⟨vs, h1, h2, h3⟩ := h
  exact ⟨vs, h1, h2.kept (row := none) ⟨hb.os, hb.tape, hb.output, hb.size, fun k hk _ => hb.block k hk⟩ (by
    cases hv : v.ownBlock with
    | none => exact Or.inl rfl
    | some k => exact Or.inr (fun e => by cases e)), fun i x hx => by
    obtain ⟨u, hu, hp⟩ := h3 i x hx
    exact ⟨u, hu, hp.below hb⟩⟩
theorem PrsOwn.weak {W : World} {base base' : Nat} {v : Value} {ps : List (Nat × Nat)} (h : PrsOwn W base v ps) (hb : base' ≤ base) : PrsOwn W base' v ps := by
  obtain ⟨vs, h1, ⟨h2, h4⟩, h3⟩ := h
  refine ⟨vs, h1, ⟨h2, ?_⟩, h3⟩
  rcases h4 with h4 | ⟨g, cap, cur, e1, hb', r⟩
  · exact Or.inl h4
  · exact Or.inr ⟨g, cap, cur, e1, by omega, r⟩
theorem PrsOwn.new {w : World} {base g : Nat} (hB : base ≤ w.heap.size) (hg : g = w.heap.size) : PrsOwn (w.alloc (.cells #[] 24 (0, 0))) base (.slice (some ⟨g, 0, none⟩) 0 0) [] := by
  subst hg
  exact ⟨[], rfl, World.ownsRow_lit (base := base) (size := 1) w #[] 0 hB (by unfold maxLen; omega) rfl, fun i x hx => by simp at hx⟩
theorem PrsOwn.read {W : World} {base : Nat} {v : Value} {ps : List (Nat × Nat)} (h : PrsOwn W base v ps) : ∃ a c, v = .slice a ps.length c := by
  obtain ⟨vs, h1, h2, h3⟩ := h
  rcases h2.2 with ⟨rfl, h0⟩ | ⟨g, cap, cur, rfl, _⟩
  · exact ⟨none, 0, by rw [h0]⟩
  · exact ⟨_, _, rfl⟩
/-- a pair is read out of the row -/
theorem PrsOwn.at {W : World} {base : Nat} {a : Option Addr} {n c : Nat} {ps : List (Nat × Nat)} (h : PrsOwn W base (.slice a n c) ps) {i : Nat} {x : Nat × Nat} (hx : ps[i]? = some x) :
    ∃ g b, a = some ⟨g, 0, none⟩ ∧ W.cell? ⟨g, i, none⟩ = some (.slice (some ⟨b, 0, none⟩) 2 2) ∧ W.heap[b]? = some (.cells #[.int .i64 (x.1 : Int), .int .i64 (x.2 : Int)] 2 (0, 0)) ∧ g < W.heap.size := by
  obtain ⟨vs, h1, h2, h3⟩ := h
  obtain ⟨u, hu, b, rfl, hg⟩ := h3 i x hx
  have hi : i < ps.length := (List.getElem?_eq_some_iff.1 hx).1
  rcases h2.2 with ⟨e1, h0⟩ | ⟨g, cap, cur, e1, hb, hgc, q1, q2, q3, q4⟩
  · omega
  · simp only [Value.slice.injEq] at e1
    obtain ⟨rfl, rfl, rfl⟩ := e1
    have hc := World.ownsRow.cellAt h2 i (by omega)
    exact ⟨g, b, rfl, hc.trans hu, hg, blkLt hgc⟩
theorem wpList_append_pr {ops : Array Oper} {rest : List Oper} {o : Oper} {a : Act} {Q : Exit → Act → World → Prop} {W : World} (hgd : o.guard = none) (s x : Operand)
    (ho : o.op = .call { callee := .builtin .append, args := #[s, x], argTypes := #[68, 68] })
    (base : Nat) (v : Value) (ps : List (Nat × Nat)) (y : Nat × Nat) (hs : a.eval s = v) (hown : PrsOwn W base v ps) (g g1 : Nat) (hx : a.eval x = .slice (some ⟨g, 0, none⟩) 1 1)
    (hg : W.heap[g]? = some (.cells #[.slice (some ⟨g1, 0, none⟩) 2 2] 24 (0, 0))) (hg1 : W.heap[g1]? = some (.cells #[.int .i64 (y.1 : Int), .int .i64 (y.2 : Int)] 2 (0, 0))) (hl : ps.length ≤ 1000000000) (hb : base ≤ W.heap.size)
    (h : ∀ a' c' ps' w', ps' = ps ++ [y] → PrsOwn w' base (.slice a' ps'.length c') ps' → Below base W w' → wpList Tryz.prog ops Q rest (a.put o.dst (.slice a' ps'.length c')) w') : wpList Tryz.prog ops Q (o :: rest) a W := by
  obtain ⟨i0, hi, y0, y1, y2⟩ := info_parts infoSl
  obtain ⟨vs, h1, h2, h3⟩ := hown
  refine wpList_append_own _ hgd s x 68 ho base 24 i0 _ 1 24 Tryz.underlying68 hi y0 y1 y2 rfl (by decide) v ps.length vs hs h2 ⟨g, 0, none⟩ 1 1 [.slice (some ⟨g1, 0, none⟩) 2 2] hx rfl ?_ ?_ (by unfold maxLen; omega) (by omega) hb
    (fun v' w' k1 k2 _ => ?_)
  · intro j u hu
    rw [Addr.add_lit, Nat.zero_add, (heap_cellR hg).1, ← hu]
    simp
  · intro u hu
    simp only [List.mem_singleton] at hu
    subst hu; rfl
  · have ho' : PrsOwn w' base v' (ps ++ [y]) := by
      refine ⟨vs ++ [.slice (some ⟨g1, 0, none⟩) 2 2], by simp [h1], by rw [List.length_append]; exact k1, fun i z hz => ?_⟩
      by_cases hi : i < ps.length
      · rw [List.getElem?_append_left hi] at hz
        obtain ⟨u, hu, hp⟩ := h3 i z hz
        exact ⟨u, by rw [List.getElem?_append_left (by omega)]; exact hu, hp.grownBy h2 k2 (by decide)⟩
      · rw [List.getElem?_append_right (by omega)] at hz
        have hi0 : i - ps.length = 0 := by
          have := (List.getElem?_eq_some_iff.1 hz).1
          simp at this; omega
        rw [hi0] at hz
        simp at hz
        subst hz
        refine ⟨_, by rw [List.getElem?_append_right (by omega), h1, hi0]; rfl, PrAt.grownBy ⟨g1, rfl, hg1⟩ h2 k2 (by decide)⟩
    obtain ⟨a', c', e⟩ := ho'.read
    rw [e] at ho' ⊢
    exact h a' c' _ w' rfl ho' (below_of_grownBy k2 hb (fun k hk => (World.ownsRow.lt h2 k hk).1))

end Go.Proofs.YtlcglclojlffgaaGreat
