import Derived.Test.YtlcglclojlffgaaGreatM0
namespace Go.Proofs.YtlcglclojlffgaaGreat
open Go.RowKit

/-! Rows of things that take k cells each. -/
structure Enc (α : Type) where
  enc : α → List Value
  k : Nat
  t : TypeId
  bytes : Nat
  len : ∀ x, (enc x).length = k
  one : ∀ x, ∀ u ∈ enc x, u.oneCell' = true
  pos : 0 < k
variable {α : Type} {E : Enc α}

/-- the slice v is the call's own and holds the things xs -/
def Enc.Own (E : Enc α) (w : World) (base : Nat) (v : Value) (xs : List α) : Prop := w.ownsRow base E.t E.k v xs.length (xs.flatMap E.enc)
/-- the things xs lie at a -/
def Enc.At (E : Enc α) (w : World) (a : Option Addr) (xs : List α) : Prop := ∀ i x, xs[i]? = some x → ∃ b o, a = some ⟨b, o, none⟩ ∧ ∀ j u, (E.enc x)[j]? = some u → w.cell? ⟨b, o + (i * E.k + j), none⟩ = some u
theorem Enc.At.below {w w' : World} {a : Option Addr} {xs : List α} (h : E.At w a xs) (hb : Below w.heap.size w w') : E.At w' a xs := fun i x hx => by
  obtain ⟨b, o, e, hc⟩ := h i x hx
  exact ⟨b, o, e, fun j u hu => by rw [hb.cell (p := ⟨b, _, none⟩) (lt_of_cell (hc j u hu))]; exact hc j u hu⟩
theorem Enc.At.nil {w : World} {a : Option Addr} : E.At w a [] := fun i x hx => by simp at hx
theorem Enc.flat (E : Enc α) : ∀ (xs : List α) (i : Nat) (x : α), xs[i]? = some x → ∀ j u, (E.enc x)[j]? = some u → (xs.flatMap E.enc)[i * E.k + j]? = some u
  | [], i, x, h, _, _, _ => by simp at h
  | y :: xs, 0, x, h, j, u, hu => by
    simp at h
    subst h
    rw [List.flatMap_cons, Nat.zero_mul, Nat.zero_add, List.getElem?_append_left (List.getElem?_eq_some_iff.1 hu).1, hu]
  | y :: xs, i + 1, x, h, j, u, hu => by
    have ih := E.flat xs i x (by simpa using h) j u hu
    have hl := E.len y
    have e : (i + 1) * E.k = i * E.k + E.k := Nat.succ_mul i E.k
    rw [List.flatMap_cons, List.getElem?_append_right (by omega), ← ih]
    congr 1
    omega
theorem Enc.flat_len (E : Enc α) : ∀ xs : List α, (xs.flatMap E.enc).length = xs.length * E.k
  | [] => by simp
  | x :: xs => by rw [List.flatMap_cons, List.length_append, E.flat_len xs, E.len, List.length_cons, Nat.succ_mul]; omega
theorem Enc.Own.at {w : World} {base : Nat} {a : Option Addr} {n c : Nat} {xs : List α} (h : E.Own w base (.slice a n c) xs) : E.At w a xs := by
  intro i x hx
  have hi : i < xs.length := (List.getElem?_eq_some_iff.1 hx).1
  rcases h.2 with ⟨h1, h0⟩ | ⟨g, cap, cur, h1, hb, hg, q1, q2, q3, q4⟩
  · omega
  · simp only [Value.slice.injEq] at h1
    obtain ⟨rfl, rfl, rfl⟩ := h1
    refine ⟨g, 0, rfl, fun j u hu => ?_⟩
    have hj : j < E.k := by rw [← E.len x]; exact (List.getElem?_eq_some_iff.1 hu).1
    have hlt : i * E.k + j < xs.length * E.k := by
      have := Nat.mul_le_mul_right E.k (show i + 1 ≤ xs.length from hi)
      rw [Nat.succ_mul] at this; omega
    rw [Nat.zero_add, World.ownsRow.cellAt h (i * E.k + j) hlt]
    exact E.flat xs i x hx j u hu
theorem Enc.Own.read {w : World} {base : Nat} {v : Value} {xs : List α} (h : E.Own w base v xs) : ∃ a c, v = .slice a xs.length c := by
  rcases h.2 with ⟨rfl, h0⟩ | ⟨g, cap, cur, rfl, _⟩
  · exact ⟨none, 0, by rw [h0]⟩
  · exact ⟨_, _, rfl⟩
theorem Enc.Own.lo {w : World} {base : Nat} {v : Value} {xs : List α} (h : E.Own w base v xs) : ∀ k, v.ownBlock = some k → base ≤ k := fun k hk => (World.ownsRow.lt h k hk).1
theorem Enc.Own.hi {w : World} {base : Nat} {v : Value} {xs : List α} (h : E.Own w base v xs) : ∀ k, v.ownBlock = some k → k < w.heap.size := fun k hk => (World.ownsRow.lt h k hk).2
theorem Enc.Own.other {w w' : World} {base : Nat} {v : Value} {xs : List α} {row : Option Nat} (h : E.Own w base v xs) (hg : w.grownBy w' row) (hne : ∀ k, v.ownBlock = some k → row ≠ some k) : E.Own w' base v xs :=
  h.kept hg (by
    cases hv : v.ownBlock with
    | none => exact Or.inl rfl
    | some k => exact Or.inr (fun e => hne k hv e.symm))
theorem Enc.Own.src {w w' : World} {base b : Nat} {v : Value} {xs : List α} (h : E.Own w base v xs) (hb : b < base) (hg : w.grownBy w' (some b)) : E.Own w' base v xs :=
  h.other hg (fun k hk e => by have := h.lo k hk; have := Option.some.inj e; omega)
theorem Enc.Own.grown {w w' : World} {base : Nat} {v : Value} {xs : List α} (h : E.Own w base v xs) (hb : Below w.heap.size w w') : E.Own w' base v xs :=
  h.other (row := none) ⟨hb.os, hb.tape, hb.output, hb.size, fun k hk _ => hb.block k hk⟩ (fun k _ e => by cases e)
theorem Enc.Own.weak {w : World} {base base' : Nat} {v : Value} {xs : List α} (h : E.Own w base v xs) (hb : base' ≤ base) : E.Own w base' v xs := by
  refine ⟨h.1, ?_⟩
  rcases h.2 with h2 | ⟨g, cap, cur, h1, hb', r⟩
  · exact Or.inl h2
  · exact Or.inr ⟨g, cap, cur, h1, by omega, r⟩
theorem Enc.Own.snoc {w : World} {base : Nat} {v : Value} {xs : List α} {x : α} (h : w.ownsRow base E.t E.k v (xs.length + 1) (xs.flatMap E.enc ++ E.enc x)) : E.Own w base v (xs ++ [x]) := by
  unfold Enc.Own
  rw [List.length_append, List.flatMap_append]
  simpa using h
theorem Enc.Own.nil (E : Enc α) (w : World) (base : Nat) : E.Own w base (.slice none 0 0) [] := World.ownsRow_nil _ _ _ _
theorem Enc.Own.new (E : Enc α) (w : World) : E.Own (w.alloc (.cells #[] E.t (0, 0))) w.heap.size (.slice (some ⟨w.heap.size, 0, none⟩) 0 0) [] :=
  World.ownsRow_lit (base := w.heap.size) (size := E.k) w #[] 0 (Nat.le_refl _) (by unfold maxLen; omega) (by simp)
/-- a block with one thing -/
theorem Enc.new_at (E : Enc α) {w : World} {g : Nat} {x : α} {C : Array Value} {t : TypeId} (h : w.heap[g]? = some (.cells C t (0, 0))) (hC : C.toList = E.enc x) : ∀ j u, (E.enc x)[j]? = some u → w.cell? ((⟨g, 0, none⟩ : Addr).add j) = some u := by
  intro j u hu
  rw [Addr.add_lit, Nat.zero_add, (heap_cellR h).1, ← hu, ← hC]
  simp

/-- append of one thing to things of the call's own -/
theorem wpList_append_e (E : Enc α) {P : Program} {ops : Array Oper} {rest : List Oper} {o : Oper} {a : Act} {Q : Exit → Act → World → Prop} {W : World} (hgd : o.guard = none) (s x : Operand) (T : TypeId)
    (ho : o.op = .call { callee := .builtin .append, args := #[s, x], argTypes := #[T, T] }) (hT : P.underlying T = some (.slice E.t)) (i0 : TypeInfo) (z : Value) (hi : P.info? E.t = some i0) (y0 : i0.zero = some z) (y1 : i0.size = E.k) (y2 : i0.bytes = E.bytes) (y3 : z.cells.size = E.k) (hby : E.bytes ≤ 4096)
    (base : Nat) (v : Value) (xs : List α) (y : α) (hs : a.eval s = v) (hown : E.Own W base v xs) (g : Nat) (C : Array Value) (hx : a.eval x = .slice (some ⟨g, 0, none⟩) 1 1)
    (hg : W.heap[g]? = some (.cells C E.t (0, 0))) (hC : C.toList = E.enc y) (hl : xs.length ≤ 1000000000) (hb : base ≤ W.heap.size)
    (h : ∀ a' c' xs' w', xs' = xs ++ [y] → E.Own w' base (.slice a' xs'.length c') xs' → W.grownBy w' v.ownBlock → Below base W w' → wpList P ops Q rest (a.put o.dst (.slice a' xs'.length c')) w') : wpList P ops Q (o :: rest) a W := by
  refine wpList_append_own _ hgd s x T ho base E.t i0 z E.k E.bytes hT hi y0 y1 y2 y3 E.pos v xs.length (xs.flatMap E.enc) hs hown ⟨g, 0, none⟩ 1 1 (E.enc y) hx (by rw [E.len, Nat.one_mul]) (E.new_at hg hC) (E.one y) (by unfold maxLen; omega) ?_ hb ?_
  · calc (xs.length + 1) * E.bytes ≤ (xs.length + 1) * 4096 := Nat.mul_le_mul_left _ hby
      _ ≤ 140737488355328 := by omega
  · intro v' w' h1 h2 _
    have h3 := Enc.Own.snoc h1
    obtain ⟨a', c', rfl⟩ := h3.read
    exact h a' c' _ w' rfl h3 h2 (below_of_grownBy h2 hb (fun k hk => hown.lo k hk))

end Go.Proofs.YtlcglclojlffgaaGreat
