import Derived.Test.YthnjfdhijpfekaaVPrn2
import Derived.Test.YthnjfdhijpfekaaVTouchP
import Derived.Test.YthnjfdhijpfekaaVDrawDL
namespace Go.Proofs.Ythnjfdhijpfekaa
open Go.RowKit

/-! Touched modules: the plain law, and slices of places. -/
/-- the sampled pixel of a module, in one direction -/
def smp (q t : Int) (r : Nat) : Int := ((r : Int) + q) * t + t / 2
theorem smp_bd {n : Nat} {q t : Int} {r : Nat} (hr : r < n) (hq : 0 ≤ q ∧ q ≤ 16) (ht : 1 ≤ t ∧ t ≤ 12) : 0 ≤ smp q t r ∧ smp q t r < psz n q t := by
  unfold smp psz
  have h0 : 0 ≤ ((r : Int) + q) * t := Int.mul_nonneg (by omega) (by omega)
  have h1 : ((r : Int) + q) * t + t = ((r : Int) + q + 1) * t := by rw [Int.add_mul ((r : Int) + q) 1 t, Int.one_mul]
  have h2 : ((r : Int) + q + 1) * t ≤ ((n : Int) + 2 * q) * t := Int.mul_le_mul_of_nonneg_right (by omega) (by omega)
  omega
/-- is a pixel touched -/
def tch (ds : List Dm) (y x : Int) : Bool := ds.any fun d => touchB d.k d.r d.c d.t d.w y x
/-- the places of the first N modules that are touched -/
def plL (T : Nat → Nat → Bool) (m N : Nat) : List (Nat × Nat) := ((List.range N).filter fun i => T (i / m) (i % m)).map fun i => (i / m, i % m)
theorem plL_step {T : Nat → Nat → Bool} {m k j : Nat} (hj : j < m) : plL T m (k * m + j + 1) = plL T m (k * m + j) ++ (if T k j = true then [(k, j)] else []) := by
  have h1 : (k * m + j) / m = k := by rw [Nat.add_comm, Nat.add_mul_div_right _ _ (by omega), Nat.div_eq_of_lt hj, Nat.zero_add]
  have h2 : (k * m + j) % m = j := by rw [Nat.add_comm, Nat.add_mul_mod_self_right, Nat.mod_eq_of_lt hj]
  unfold plL
  rw [List.range_succ, List.filter_append, List.map_append]
  simp only [List.filter_cons, List.filter_nil, h1, h2]
  split <;> simp [h1, h2]
theorem plL_yes {T : Nat → Nat → Bool} {m k j : Nat} (hj : j < m) (h : T k j = true) : plL T m (k * m + j + 1) = plL T m (k * m + j) ++ [(k, j)] := by rw [plL_step hj, if_pos h]
theorem plL_no {T : Nat → Nat → Bool} {m k j : Nat} (hj : j < m) (h : T k j = false) : plL T m (k * m + j + 1) = plL T m (k * m + j) := by rw [plL_step hj, if_neg (by rw [h]; decide), List.append_nil]
theorem plL_len {T : Nat → Nat → Bool} {m N : Nat} : (plL T m N).length ≤ N := by
  unfold plL
  rw [List.length_map]
  exact Nat.le_trans (List.length_filter_le _ _) (by simp)
theorem plL_mem {T : Nat → Nat → Bool} {m N i : Nat} (hi : i < N) (h : T (i / m) (i % m) = true) : (i / m, i % m) ∈ plL T m N :=
  List.mem_map.2 ⟨i, List.mem_filter.2 ⟨List.mem_range.2 hi, h⟩, rfl⟩
theorem plL_in {T : Nat → Nat → Bool} {m N : Nat} {p : Nat × Nat} (h : p ∈ plL T m N) : ∃ i, i < N ∧ p = (i / m, i % m) := by
  obtain ⟨i, hi, rfl⟩ := List.mem_map.1 h
  exact ⟨i, List.mem_range.1 (List.mem_filter.1 hi).1, rfl⟩

/-- a place's cells -/
def plVs (p : Nat × Nat) : List Value := [.int .i64 (p.1 : Int), .int .i64 (p.2 : Int)]
/-- the slice v is the call's own and holds the places ps -/
def OwnP (w : World) (base : Nat) (v : Value) (ps : List (Nat × Nat)) : Prop := w.ownsRow base 61 2 v ps.length (ps.flatMap plVs)
/-- places at an address -/
def PlAt (w : World) (a : Option Addr) (ps : List (Nat × Nat)) : Prop := ∀ i (h : i < ps.length), ∃ b o, a = some ⟨b, o, none⟩ ∧ w.cell? ⟨b, o + i * 2, none⟩ = some (.int .i64 ((ps[i]).1 : Int)) ∧ w.cell? ⟨b, o + i * 2 + 1, none⟩ = some (.int .i64 ((ps[i]).2 : Int))
theorem PlAt.below {w w' : World} {a : Option Addr} {ps : List (Nat × Nat)} (H : PlAt w a ps) (hb : Below w.heap.size w w') : PlAt w' a ps := fun i h => by
  obtain ⟨b, o, ha, h0, h1⟩ := H i h
  have hl := lt_of_cell h0
  exact ⟨b, o, ha, ((bcell hb).1 b _ hl).trans h0, ((bcell hb).1 b _ hl).trans h1⟩
theorem pflat_at : ∀ (ps : List (Nat × Nat)) (i : Nat) (p : Nat × Nat), ps[i]? = some p → ∀ j, j < 2 → (ps.flatMap plVs)[i * 2 + j]? = (plVs p)[j]?
  | [], i, d, h, _, _ => by simp at h
  | e :: ds, 0, d, h, j, hj => by
    simp at h
    subst h
    rw [List.flatMap_cons, Nat.zero_mul, Nat.zero_add, List.getElem?_append_left (by simpa [plVs] using hj)]
  | e :: ds, i + 1, d, h, j, hj => by
    have ih := pflat_at ds i d (by simpa using h) j hj
    rw [List.flatMap_cons, List.getElem?_append_right (by simp [plVs]; omega), ← ih]
    congr 1
    simp [plVs]; omega
theorem OwnP.pls {w : World} {base : Nat} {a : Option Addr} {n c : Nat} {ps : List (Nat × Nat)} (h : OwnP w base (.slice a n c) ps) : PlAt w a ps := by
  intro i hi
  have hd := List.getElem?_eq_getElem hi
  rcases h.2 with ⟨h1, h0⟩ | ⟨g, cap, cur, h1, hb, hg, q1, q2, q3, q4⟩
  · omega
  · simp only [Value.slice.injEq] at h1
    obtain ⟨rfl, rfl, rfl⟩ := h1
    have hc : ∀ j, j < 2 → w.cell? ⟨g, i * 2 + j, none⟩ = (plVs ps[i])[j]? := fun j hj => by
      have h2 := World.ownsRow.cellAt h (i * 2 + j) (by omega)
      rw [h2, pflat_at ps i _ hd j hj]
    refine ⟨g, 0, rfl, ?_, ?_⟩
    · rw [Nat.zero_add]; exact hc 0 (by omega)
    · rw [Nat.zero_add]; exact hc 1 (by omega)
theorem OwnP.read {w : World} {base : Nat} {v : Value} {ps : List (Nat × Nat)} (h : OwnP w base v ps) : ∃ a c, v = .slice a ps.length c := by
  rcases h.2 with ⟨rfl, h0⟩ | ⟨g, cap, cur, rfl, _⟩
  · exact ⟨none, 0, by rw [h0]⟩
  · exact ⟨_, _, rfl⟩
theorem OwnP.at {w : World} {base : Nat} {v : Value} {ps : List (Nat × Nat)} (h : OwnP w base v ps) : ∀ g, v.ownBlock = some g → base ≤ g := by
  rcases h.2 with ⟨rfl, _⟩ | ⟨g, cap, cur, rfl, hg, _⟩
  · simp [Value.ownBlock]
  · intro k e; simp [Value.ownBlock] at e; omega
theorem OwnP.other {w w' : World} {base : Nat} {v : Value} {ps : List (Nat × Nat)} {row : Option Nat} (h : OwnP w base v ps) (hg : w.grownBy w' row) (hne : ∀ k, v.ownBlock = some k → row ≠ some k) : OwnP w' base v ps :=
  h.kept hg (by
    cases hv : v.ownBlock with
    | none => exact Or.inl rfl
    | some k => exact Or.inr (fun e => hne k hv e.symm))
theorem OwnP.grown {w w' : World} {base : Nat} {v : Value} {ps : List (Nat × Nat)} (h : OwnP w base v ps) (hb : Below w.heap.size w w') : OwnP w' base v ps :=
  h.other (row := none) ⟨hb.os, hb.tape, hb.output, hb.size, fun k hk _ => hb.block k hk⟩ (fun k _ e => by cases e)
theorem OwnP.weak {w : World} {base base' : Nat} {v : Value} {ps : List (Nat × Nat)} (h : OwnP w base v ps) (hb : base' ≤ base) : OwnP w base' v ps := by
  refine ⟨h.1, ?_⟩
  rcases h.2 with h2 | ⟨g, cap, cur, h1, hb', r⟩
  · exact Or.inl h2
  · exact Or.inr ⟨g, cap, cur, h1, by omega, r⟩
theorem OwnP.snoc {w : World} {base : Nat} {v : Value} {ps : List (Nat × Nat)} {p : Nat × Nat} (h : w.ownsRow base 61 2 v (ps.length + 1) (ps.flatMap plVs ++ plVs p)) : OwnP w base v (ps ++ [p]) := by
  unfold OwnP
  rw [List.length_append, List.flatMap_append]
  simpa using h
theorem OwnP.new (w : World) : OwnP (w.alloc (.cells #[] 61 (0, 0))) w.heap.size (.slice (some ⟨w.heap.size, 0, none⟩) 0 0) [] :=
  World.ownsRow_lit (base := w.heap.size) (size := 2) w #[] 0 (Nat.le_refl _) (by unfold maxLen; omega) rfl
theorem OwnP.nil (w : World) (base : Nat) : OwnP w base (.slice none 0 0) [] := ⟨by simp, Or.inl ⟨rfl, rfl⟩⟩
theorem two_new (w : World) (p : Nat × Nat) : ∀ j u, (plVs p)[j]? = some u → (w.alloc (.cells #[.int .i64 (p.1 : Int), .int .i64 (p.2 : Int)] 61 (0, 0))).cell? ((⟨w.heap.size, 0, none⟩ : Addr).add j) = some u := by
  intro j u hu
  rw [Addr.add_lit, Nat.zero_add, boxF0, ← hu]
  simp [plVs]
theorem two_one (p : Nat × Nat) : ∀ u ∈ plVs p, u.oneCell' = true := by
  intro u hu
  simp only [plVs, List.mem_cons, List.not_mem_nil, or_false] at hu
  rcases hu with rfl | rfl <;> rfl
theorem infoPl : (Try.prog.info? 61).map (fun i => (i.zero, i.size, i.bytes)) = some (some (.agg #[.int .i64 0, .int .i64 0]), 2, 16) := by kernel_rfl

/-- is a damage a valid blot or scratch -/
def Dm.loc (d : Dm) : Bool := d.ok && (d.k == 1 || d.k == 2)
theorem loc_ok {d : Dm} (h : d.loc = true) : d.ok = true ∧ (d.k = 1 ∨ d.k = 2) := by
  simp only [Dm.loc, Bool.and_eq_true, Bool.or_eq_true, beq_iff_eq] at h
  exact h
/-- places and a code are handed back -/
def RetPC (w : World) (ps : List (Nat × Nat)) (cd : Int) (e : Ending) (w' : World) : Prop :=
  ∃ a c, e = .returned (.tuple #[.slice a ps.length c, .int .i64 cd]) ∧ OwnP w' w.heap.size (.slice a ps.length c) ps ∧ Below w.heap.size w w'
/-- what TouchedModules comes to -/
inductive TmIs (ds : List Dm) (n m p t q b d l : Int) : List (Nat × Nat) → Int → Prop
  | size (x y z : Int) : PsIs n m p t q b d l x y z → z ≠ 0 → TmIs ds n m p t q b d l [] z
  | many (x y : Int) : PsIs n m p t q b d l x y 0 → 20 < ds.length → TmIs ds n m p t q b d l [] 3
  | state (x y : Int) : PsIs n m p t q b d l x y 0 → ¬ 20 < ds.length → ds.all Dm.loc = false → TmIs ds n m p t q b d l [] 5
  | fit (x y : Int) : PsIs n m p t q b d l x y 0 → ¬ 20 < ds.length → ds.all Dm.loc = true → TmIs ds n m p t q b d l (plL (fun r c => tch ds (smp q t r) (smp q p c)) m.toNat (n.toNat * m.toNat)) 0
theorem tmIs_any (ds : List Dm) (n m p t q b d l : Int) : ∃ ps cd, TmIs ds n m p t q b d l ps cd := by
  obtain ⟨x, y, z, h⟩ := psIs_any n m p t q b d l
  by_cases hz : z = 0
  · subst hz
    by_cases h2 : 20 < ds.length
    · exact ⟨_, _, .many x y h h2⟩
    · rcases Bool.eq_false_or_eq_true (ds.all Dm.loc) with h3 | h3
      · exact ⟨_, _, .fit x y h h2 h3⟩
      · exact ⟨_, _, .state x y h h2 h3⟩
  · exact ⟨_, _, .size x y z h hz⟩
theorem psIs_zero {n m p t q b d l x y : Int} (h : PsIs n m p t q b d l x y 0) : prOk p t q b d l = true ∧ inB n 1 400 = true ∧ inB m 1 400 = true ∧ sizeB (psz n q t) (psz m q p) = true ∧ x = psz n q t ∧ y = psz m q p := by
  cases h with
  | fit h1 h2 h3 h4 => exact ⟨h1, h2, h3, h4, rfl, rfl⟩

end Go.Proofs.Ythnjfdhijpfekaa
