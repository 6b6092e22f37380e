import Derived.Test.YtpilkgcghlfdmaaGreatDoorVDmE
namespace Go.Proofs.YtpilkgcghlfdmaaGreatDoor
open Go.RowKit

/-- a damage's cells -/
def dmVs (d : Dm) : List Value := [.int .i64 d.k, .int .i64 d.r, .int .i64 d.c, .int .i64 d.t, .int .i64 d.w, .int .i64 d.g]
/-- the slice v is the call's own and holds the damages ds -/
def OwnD (w : World) (base : Nat) (v : Value) (ds : List Dm) : Prop := w.ownsRow base 30 6 v ds.length (ds.flatMap dmVs)
theorem flat_at : ∀ (ds : List Dm) (i : Nat) (d : Dm), ds[i]? = some d → ∀ j, j < 6 → (ds.flatMap dmVs)[i * 6 + j]? = (dmVs d)[j]?
  | [], i, d, h, _, _ => by simp at h
  | e :: ds, 0, d, h, j, hj => by
    simp at h
    subst h
    rw [List.flatMap_cons, Nat.zero_mul, Nat.zero_add, List.getElem?_append_left (by simpa [dmVs] using hj)]
  | e :: ds, i + 1, d, h, j, hj => by
    have ih := flat_at ds i d (by simpa using h) j hj
    rw [List.flatMap_cons, List.getElem?_append_right (by simp [dmVs]; omega), ← ih]
    congr 1
    simp [dmVs]; omega
theorem OwnD.dms {w : World} {base : Nat} {a : Option Addr} {n c : Nat} {ds : List Dm} (h : OwnD w base (.slice a n c) ds) : DmsAt w a ds := by
  intro i hi
  have hn : a ≠ none := by
    rintro rfl
    rcases h.2 with ⟨_, h0⟩ | ⟨g, cap, cur, h1, _⟩
    · omega
    · cases h1
  have hd := List.getElem?_eq_getElem hi
  rcases h.2 with ⟨h1, h0⟩ | ⟨g, cap, cur, h1, hb, hg, q1, q2, q3, q4⟩
  · omega
  · simp only [Value.slice.injEq] at h1
    obtain ⟨rfl, rfl, rfl⟩ := h1
    have hc : ∀ j, j < 6 → w.cell? ⟨g, i * 6 + j, none⟩ = (dmVs ds[i])[j]? := fun j hj => by
      have h2 := World.ownsRow.cellAt h (i * 6 + j) (by omega)
      rw [h2, flat_at ds i _ hd j hj]
    refine ⟨g, 0, rfl, ?_⟩
    rw [Nat.zero_add]
    exact ⟨hc 0 (by omega), hc 1 (by omega), hc 2 (by omega), hc 3 (by omega), hc 4 (by omega), hc 5 (by omega)⟩
theorem OwnD.read {w : World} {base : Nat} {v : Value} {ds : List Dm} (h : OwnD w base v ds) : ∃ a c, v = .slice a ds.length c := by
  rcases h.2 with ⟨rfl, h0⟩ | ⟨g, cap, cur, rfl, _⟩
  · exact ⟨none, 0, by rw [h0]⟩
  · exact ⟨_, _, rfl⟩
theorem OwnD.at {w : World} {base : Nat} {v : Value} {ds : List Dm} (h : OwnD w base v ds) : ∀ g, v.ownBlock = some g → base ≤ g := by
  rcases h.2 with ⟨rfl, _⟩ | ⟨g, cap, cur, rfl, hg, _⟩
  · simp [Value.ownBlock]
  · intro k e; simp [Value.ownBlock] at e; omega
theorem OwnD.hi {w : World} {base : Nat} {v : Value} {ds : List Dm} (h : OwnD w base v ds) : ∀ k, v.ownBlock = some k → k < w.heap.size := fun k hk => (World.ownsRow.lt h k hk).2
theorem OwnD.other {w w' : World} {base : Nat} {v : Value} {ds : List Dm} {row : Option Nat} (h : OwnD w base v ds) (hg : w.grownBy w' row) (hne : ∀ k, v.ownBlock = some k → row ≠ some k) : OwnD w' base v ds :=
  h.kept hg (by
    cases hv : v.ownBlock with
    | none => exact Or.inl rfl
    | some k => exact Or.inr (fun e => hne k hv e.symm))
theorem OwnD.src {w w' : World} {base b : Nat} {v : Value} {ds : List Dm} (h : OwnD w base v ds) (hb : b < base) (hg : w.grownBy w' (some b)) : OwnD w' base v ds :=
  h.other hg (fun k hk e => by have := h.at k hk; have := Option.some.inj e; omega)
theorem OwnD.grown {w w' : World} {base : Nat} {v : Value} {ds : List Dm} (h : OwnD w base v ds) (hb : Below w.heap.size w w') : OwnD w' base v ds :=
  h.other (row := none) ⟨hb.os, hb.tape, hb.output, hb.size, fun k hk _ => hb.block k hk⟩ (fun k _ e => by cases e)
theorem OwnD.weak {w : World} {base base' : Nat} {v : Value} {ds : List Dm} (h : OwnD w base v ds) (hb : base' ≤ base) : OwnD w base' v ds := by
  refine ⟨h.1, ?_⟩
  rcases h.2 with h2 | ⟨g, cap, cur, h1, hb', r⟩
  · exact Or.inl h2
  · exact Or.inr ⟨g, cap, cur, h1, by omega, r⟩
theorem OwnD.snoc {w : World} {base : Nat} {v : Value} {ds : List Dm} {d : Dm} (h : w.ownsRow base 30 6 v (ds.length + 1) (ds.flatMap dmVs ++ dmVs d)) : OwnD w base v (ds ++ [d]) := by
  unfold OwnD
  rw [List.length_append, List.flatMap_append]
  simpa using h
theorem OwnD.new (w : World) : OwnD (w.alloc (.cells #[] 30 (0, 0))) w.heap.size (.slice (some ⟨w.heap.size, 0, none⟩) 0 0) [] :=
  World.ownsRow_lit (base := w.heap.size) (size := 6) w #[] 0 (Nat.le_refl _) (by unfold maxLen; omega) rfl
theorem six_new (w : World) (d : Dm) : ∀ j u, (dmVs d)[j]? = some u → (w.alloc (.cells #[.int .i64 d.k, .int .i64 d.r, .int .i64 d.c, .int .i64 d.t, .int .i64 d.w, .int .i64 d.g] 30 (0, 0))).cell? ((⟨w.heap.size, 0, none⟩ : Addr).add j) = some u := by
  intro j u hu
  rw [Addr.add_lit, Nat.zero_add, boxF0, ← hu]
  simp [dmVs]
theorem six_one (d : Dm) : ∀ u ∈ dmVs d, u.oneCell' = true := by
  intro u hu
  simp only [dmVs, List.mem_cons, List.not_mem_nil, or_false] at hu
  rcases hu with rfl | rfl | rfl | rfl | rfl | rfl <;> rfl

theorem six_at {W : World} {g : Nat} {d : Dm} (h : W.heap[g]? = some (.cells #[.int .i64 d.k, .int .i64 d.r, .int .i64 d.c, .int .i64 d.t, .int .i64 d.w, .int .i64 d.g] 30 (0, 0))) : ∀ j u, (dmVs d)[j]? = some u → W.cell? ((⟨g, 0, none⟩ : Addr).add j) = some u := by
  intro j u hu
  rw [Addr.add_lit, Nat.zero_add, (heap_cellR h).1, ← hu]
  simp [dmVs]

/-- append of one damage to damages of the call's own -/
theorem wpList_append_dm {ops : Array Oper} {rest : List Oper} {o : Oper} {a : Act} {Q : Exit → Act → World → Prop} {W : World} (hgd : o.guard = none) (s x : Operand)
    (ho : o.op = .call { callee := .builtin .append, args := #[s, x], argTypes := #[24, 24] })
    (base : Nat) (v : Value) (ds : List Dm) (d : Dm) (hs : a.eval s = v) (hown : OwnD W base v ds) (g : Nat) (hx : a.eval x = .slice (some ⟨g, 0, none⟩) 1 1)
    (hg : W.heap[g]? = some (.cells #[.int .i64 d.k, .int .i64 d.r, .int .i64 d.c, .int .i64 d.t, .int .i64 d.w, .int .i64 d.g] 30 (0, 0))) (hl : ds.length ≤ 2000000) (hb : base ≤ W.heap.size)
    (h : ∀ v' w', OwnD w' base v' (ds ++ [d]) → W.grownBy w' v.ownBlock → wpList Tryz.prog ops Q rest (a.put o.dst v') w') : wpList Tryz.prog ops Q (o :: rest) a W := by
  obtain ⟨i0, hi, y0, y1, y2⟩ := info_parts infoDm
  exact wpList_append_own _ hgd s x 24 ho base 30 i0 _ 6 48 Tryz.underlying24 hi y0 y1 y2 rfl (by decide) v ds.length (ds.flatMap dmVs) hs hown ⟨g, 0, none⟩ 1 1 (dmVs d) hx rfl (six_at hg) (six_one _) (by unfold maxLen; omega) (by omega) hb
    (fun v' w' h1 h2 _ => h v' w' (OwnD.snoc h1) h2)

end Go.Proofs.YtpilkgcghlfdmaaGreatDoor
