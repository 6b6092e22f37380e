import Derived.Test.YthnjfdhijpfekaaVDrawAD
namespace Go.Proofs.Ythnjfdhijpfekaa
open Go.RowKit

/-- a damage's cells -/
def dmVs (d : Dm) : List Value := [.int .i64 d.k, .int .i64 d.r, .int .i64 d.c, .int .i64 d.t, .int .i64 d.w, .int .i64 d.g]
/-- the slice v is the call's own and holds the damages ds -/
def OwnD (w : World) (base : Nat) (v : Value) (ds : List Dm) : Prop := w.ownsRow base 32 6 v ds.length (ds.flatMap dmVs)
theorem flat_at : ∀ (ds : List Dm) (i : Nat) (d : Dm), ds[i]? = some d → ∀ j, j < 6 → (ds.flatMap dmVs)[i * 6 + j]? = (dmVs d)[j]?
  | [], i, d, h, _, _ => by simp at h
  | e :: ds, 0, d, h, j, hj => by
    simp at h
    subst h
    rw [List.flatMap_cons, Nat.zero_mul, Nat.zero_add, List.getElem?_append_left (by simpa [dmVs] using hj)]
  | e :: ds, i + 1, d, h, j, hj => by
    have ih := flat_at ds i d (by simpa using h) j hj
    rw [List.flatMap_cons, List.getElem?_append_right (by simp [dmVs]; omega), ← ih]
    congr 1
    simp [dmVs]; omega
theorem OwnD.dms {w : World} {base : Nat} {a : Option Addr} {n c : Nat} {ds : List Dm} (h : OwnD w base (.slice a n c) ds) : DmsAt w a ds := by
  intro i hi
  have hn : a ≠ none := by
    rintro rfl
    rcases h.2 with ⟨_, h0⟩ | ⟨g, cap, cur, h1, _⟩
    · omega
    · cases h1
  have hd := List.getElem?_eq_getElem hi
  rcases h.2 with ⟨h1, h0⟩ | ⟨g, cap, cur, h1, hb, hg, q1, q2, q3, q4⟩
  · omega
  · simp only [Value.slice.injEq] at h1
    obtain ⟨rfl, rfl, rfl⟩ := h1
    have hc : ∀ j, j < 6 → w.cell? ⟨g, i * 6 + j, none⟩ = (dmVs ds[i])[j]? := fun j hj => by
      have h2 := World.ownsRow.cellAt h (i * 6 + j) (by omega)
      rw [h2, flat_at ds i _ hd j hj]
    refine ⟨g, 0, rfl, ?_⟩
    rw [Nat.zero_add]
    exact ⟨hc 0 (by omega), hc 1 (by omega), hc 2 (by omega), hc 3 (by omega), hc 4 (by omega), hc 5 (by omega)⟩
theorem OwnD.read {w : World} {base : Nat} {v : Value} {ds : List Dm} (h : OwnD w base v ds) : ∃ a c, v = .slice a ds.length c := by
  rcases h.2 with ⟨rfl, h0⟩ | ⟨g, cap, cur, rfl, _⟩
  · exact ⟨none, 0, by rw [h0]⟩
  · exact ⟨_, _, rfl⟩
theorem OwnD.at {w : World} {base : Nat} {v : Value} {ds : List Dm} (h : OwnD w base v ds) : ∀ g, v.ownBlock = some g → base ≤ g := by
  rcases h.2 with ⟨rfl, _⟩ | ⟨g, cap, cur, rfl, hg, _⟩
  · simp [Value.ownBlock]
  · intro k e; simp [Value.ownBlock] at e; omega
theorem OwnD.hi {w : World} {base : Nat} {v : Value} {ds : List Dm} (h : OwnD w base v ds) : ∀ k, v.ownBlock = some k → k < w.heap.size := fun k hk => (World.ownsRow.lt h k hk).2
theorem OwnD.other {w w' : World} {base : Nat} {v : Value} {ds : List Dm} {row : Option Nat} (h : OwnD w base v ds) (hg : w.grownBy w' row) (hne : ∀ k, v.ownBlock = some k → row ≠ some k) : OwnD w' base v ds :=
  h.kept hg (by
    cases hv : v.ownBlock with
    | none => exact Or.inl rfl
    | some k => exact Or.inr (fun e => hne k hv e.symm))
theorem OwnD.src {w w' : World} {base b : Nat} {v : Value} {ds : List Dm} (h : OwnD w base v ds) (hb : b < base) (hg : w.grownBy w' (some b)) : OwnD w' base v ds :=
  h.other hg (fun k hk e => by have := h.at k hk; have := Option.some.inj e; omega)
theorem OwnD.grown {w w' : World} {base : Nat} {v : Value} {ds : List Dm} (h : OwnD w base v ds) (hb : Below w.heap.size w w') : OwnD w' base v ds :=
  h.other (row := none) ⟨hb.os, hb.tape, hb.output, hb.size, fun k hk _ => hb.block k hk⟩ (fun k _ e => by cases e)
theorem OwnD.weak {w : World} {base base' : Nat} {v : Value} {ds : List Dm} (h : OwnD w base v ds) (hb : base' ≤ base) : OwnD w base' v ds := by
  refine ⟨h.1, ?_⟩
  rcases h.2 with h2 | ⟨g, cap, cur, h1, hb', r⟩
  · exact Or.inl h2
  · exact Or.inr ⟨g, cap, cur, h1, by omega, r⟩
theorem OwnD.snoc {w : World} {base : Nat} {v : Value} {ds : List Dm} {d : Dm} (h : w.ownsRow base 32 6 v (ds.length + 1) (ds.flatMap dmVs ++ dmVs d)) : OwnD w base v (ds ++ [d]) := by
  unfold OwnD
  rw [List.length_append, List.flatMap_append]
  simpa using h
theorem OwnD.new (w : World) : OwnD (w.alloc (.cells #[] 32 (0, 0))) w.heap.size (.slice (some ⟨w.heap.size, 0, none⟩) 0 0) [] :=
  World.ownsRow_lit (base := w.heap.size) (size := 6) w #[] 0 (Nat.le_refl _) (by unfold maxLen; omega) rfl
theorem stB_ownD {b base : Nat} {w0 w wo w' : World} {v : Value} {ds : List Dm} (hst : StB b w0 w) (ho : OwnD wo base v ds) (hg : w.grownBy w' v.ownBlock) (hb : b < base) (h0 : w0.heap.size ≤ base) : StB b w0 w' :=
  ⟨hst.1.kept hg (fun k e => by have := ho.at k e; omega), hst.2.andThen hg (fun j e => Or.inl (by have := ho.at j e; omega))⟩
theorem six_new (w : World) (d : Dm) : ∀ j u, (dmVs d)[j]? = some u → (w.alloc (.cells #[.int .i64 d.k, .int .i64 d.r, .int .i64 d.c, .int .i64 d.t, .int .i64 d.w, .int .i64 d.g] 32 (0, 0))).cell? ((⟨w.heap.size, 0, none⟩ : Addr).add j) = some u := by
  intro j u hu
  rw [Addr.add_lit, Nat.zero_add, boxF0, ← hu]
  simp [dmVs]
theorem six_one (d : Dm) : ∀ u ∈ dmVs d, u.oneCell' = true := by
  intro u hu
  simp only [dmVs, List.mem_cons, List.not_mem_nil, or_false] at hu
  rcases hu with rfl | rfl | rfl | rfl | rfl | rfl <;> rfl

/-- drawn damages -/
def RetDL (w : World) (b : Nat) (e : Ending) (w' : World) : Prop :=
  ∃ (ds : List Dm) (a : Option Addr) (c : Nat), e = .returned (.slice a ds.length c) ∧ ds.length ≤ 21 ∧ OwnD w' w.heap.size (.slice a ds.length c) ds ∧ Src w' b ∧ w.grownBy w' (some b)
/-- while they are drawn -/
def StDL (w : World) (b : Nat) (v : Value) (ds : List Dm) (W : World) : Prop := StB b w W ∧ OwnD W w.heap.size v ds
theorem StDL.draw {w W W' : World} {b : Nat} {v : Value} {ds : List Dm} (h : StDL w b v ds W) (hlt : b < w.heap.size) (hs : Src W' b) (hg : W.grownBy W' (some b)) : StDL w b v ds W' := ⟨stB_trans h.1 hs hg, h.2.src hlt hg⟩
theorem StDL.below {w W W' : World} {b : Nat} {v : Value} {ds : List Dm} (h : StDL w b v ds W) (hlt : b < w.heap.size) (hb : Below W.heap.size W W') : StDL w b v ds W' :=
  h.draw hlt (h.1.1.below hb) ⟨hb.os, hb.tape, hb.output, hb.size, fun k hk _ => hb.block k hk⟩
/-- and box g, of this round, holds six numbers -/
def StDG (w : World) (b g : Nat) (v : Value) (ds : List Dm) (W : World) : Prop := StDL w b v ds W ∧ v.ownBlock ≠ some g ∧ w.heap.size ≤ g ∧ ∃ k r c t v' q : Int, W.heap[g]? = some (.cells #[.int .i64 k, .int .i64 r, .int .i64 c, .int .i64 t, .int .i64 v', .int .i64 q] 32 (0, 0))
theorem StDL.set {w W : World} {b g i : Nat} {v u : Value} {ds : List Dm} (h : StDL w b v ds W) (hlt : b < w.heap.size) (hg : w.heap.size ≤ g) (hne : v.ownBlock ≠ some g) : StDL w b v ds (W.setCell ⟨g, i, none⟩ u) :=
  ⟨stB_set h.1 (by omega) hg, h.2.other (grownBy_set _ _ _ _) (fun k hk e => hne (by rw [hk, ← e]))⟩

end Go.Proofs.Ythnjfdhijpfekaa
