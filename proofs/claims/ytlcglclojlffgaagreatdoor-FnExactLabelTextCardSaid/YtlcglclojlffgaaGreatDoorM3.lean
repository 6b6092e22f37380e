import Derived.Test.YtlcglclojlffgaaGreatDoorM2
import Derived.Test.YtlcglclojlffgaaGreatDoorM0
import Derived.Lib.SplitLaws
import Derived.Lib.ParseIntBCases
import Derived.Lib.ItoaLen
import Derived.Conc.MuLone
import Derived.Tactics
import Derived.Tactics2
import Derived.Defers
import Derived.Laws.Pointers
import Derived.Laws.LoneSync
import Derived.RegionTactic
import Derived.RegionCalls
import Derived.ChangeAlike
import Derived.Test.YtlcglclojlffgaaGreatDoorM1
namespace Go.Proofs.YtlcglclojlffgaaGreatDoor
open Go.RowKit

theorem infoC : (Tryz.prog.info? 265).map (fun i => (i.zero, i.size, i.bytes)) = some (some (.agg #[.int .i64 0, .int .i64 0, .int .i64 0, .int .i64 0]), 4, 32) := by kernel_rfl
theorem make_ch (n : Nat) (hn : n ≤ 100000) (w : World) :
    (Instr.makeSlice 266 (.int .i64 (n : Int)) (.int .i64 (n : Int))).run Tryz.prog w = .ok (.slice (some ⟨w.heap.size, 0, none⟩) n n) (w.alloc (.cells (madeCells #[.int .i64 0, .int .i64 0, .int .i64 0, .int .i64 0] (n * 4)) 265)) := by
  obtain ⟨i0, hi, hz0, hz1, hz2⟩ := info_parts infoC
  have := run_make (P := Tryz.prog) w 266 265 i0 _ Tryz.underlying266 hi hz0 .i64 .i64 n n (by omega) (Int.le_refl _) (by rw [hz2]; omega) (by omega)
  rw [hz1] at this
  simpa [Value.cells] using this
theorem made_four (z : Value) (N j : Nat) (hj : j < N) : (madeCells #[z, z, z, z] N)[j]? = some z := by
  unfold madeCells
  rw [Array.getElem?_map, Array.getElem?_range]
  have h4 : j % 4 = 0 ∨ j % 4 = 1 ∨ j % 4 = 2 ∨ j % 4 = 3 := by omega
  rw [if_pos hj]
  rcases h4 with h | h | h | h <;> simp [h]
/-- a row of choices -/
def TabAt (w : World) (g n : Nat) (f : Nat → Ch) : Prop := ∃ C t, w.heap[g]? = some (.cells C t (0, 0)) ∧ C.size = n * 4 ∧
  ∀ i, i < n → C[i * 4]? = some (.int .i64 (f i).l) ∧ C[i * 4 + 1]? = some (.int .i64 (f i).c) ∧ C[i * 4 + 2]? = some (.int .i64 (f i).t) ∧ C[i * 4 + 3]? = some (.int .i64 (f i).m)
theorem TabAt.kept {w w' : World} {g n : Nat} {f : Nat → Ch} (h : TabAt w g n f) (hk : w'.heap[g]? = w.heap[g]?) : TabAt w' g n f := by
  obtain ⟨C, t, h1, h2, h3⟩ := h
  exact ⟨C, t, hk.trans h1, h2, h3⟩
theorem TabAt.lt {w : World} {g n : Nat} {f : Nat → Ch} (h : TabAt w g n f) : g < w.heap.size := by
  obtain ⟨C, t, h1, h2, h3⟩ := h
  exact blkLt h1
theorem TabAt.below {w w' : World} {g n : Nat} {f : Nat → Ch} (h : TabAt w g n f) (hb : Below w.heap.size w w') : TabAt w' g n f := h.kept (hb.block g h.lt)
theorem TabAt.like {w : World} {g n : Nat} {f f' : Nat → Ch} (h : TabAt w g n f) (e : ∀ i, i < n → f' i = f i) : TabAt w g n f' := by
  obtain ⟨C, t, h1, h2, h3⟩ := h
  exact ⟨C, t, h1, h2, fun i hi => by rw [e i hi]; exact h3 i hi⟩
theorem TabAt.cell {w : World} {g n : Nat} {f : Nat → Ch} (h : TabAt w g n f) {i : Nat} (hi : i < n) :
    w.cell? ⟨g, i * 4, none⟩ = some (.int .i64 (f i).l) ∧ w.cell? ⟨g, i * 4 + 1, none⟩ = some (.int .i64 (f i).c) ∧ w.cell? ⟨g, i * 4 + 2, none⟩ = some (.int .i64 (f i).t) ∧ w.cell? ⟨g, i * 4 + 3, none⟩ = some (.int .i64 (f i).m) ∧ (∀ j, w.frozen? ⟨g, j, none⟩ = false) := by
  obtain ⟨C, t, h1, h2, h3⟩ := h
  obtain ⟨hc, hf⟩ := heap_cellR h1
  obtain ⟨k1, k2, k3, k4⟩ := h3 i hi
  exact ⟨by rw [hc]; exact k1, by rw [hc]; exact k2, by rw [hc]; exact k3, by rw [hc]; exact k4, hf⟩
theorem TabAt.new (w : World) (n : Nat) : TabAt (w.alloc (.cells (madeCells #[.int .i64 0, .int .i64 0, .int .i64 0, .int .i64 0] (n * 4)) 265)) w.heap.size n (fun _ => chZ) := by
  refine ⟨_, _, push_at _ _, size_madeCells _ _, fun i hi => ⟨?_, ?_, ?_, ?_⟩⟩
  all_goals exact made_four _ _ _ (by omega)
/-- a choice is laid into the row -/
theorem TabAt.set {w : World} {g n : Nat} {f : Nat → Ch} (h : TabAt w g n f) {i : Nat} (_hi : i < n) (x : Ch) :
    TabAt ((((w.setCell ⟨g, i * 4, none⟩ (.int .i64 x.l)).setCell ⟨g, i * 4 + 1, none⟩ (.int .i64 x.c)).setCell ⟨g, i * 4 + 2, none⟩ (.int .i64 x.t)).setCell ⟨g, i * 4 + 3, none⟩ (.int .i64 x.m)) g n (fun j => if j = i then x else f j) := by
  obtain ⟨C, t, h1, h2, h3⟩ := h
  refine ⟨_, t, setCell_blk (setCell_blk (setCell_blk (setCell_blk h1 _ _) _ _) _ _) _ _, by simp [h2], fun j hj => ?_⟩
  dsimp only
  by_cases e : j = i
  · subst e
    rw [if_pos rfl]
    refine ⟨?_, ?_, ?_, ?_⟩
    · rw [Array.getElem?_setIfInBounds_ne (by omega), Array.getElem?_setIfInBounds_ne (by omega), Array.getElem?_setIfInBounds_ne (by omega), Array.getElem?_setIfInBounds_self_of_lt (by omega)]
    · rw [Array.getElem?_setIfInBounds_ne (by omega), Array.getElem?_setIfInBounds_ne (by omega), Array.getElem?_setIfInBounds_self_of_lt (by simp; omega)]
    · rw [Array.getElem?_setIfInBounds_ne (by omega), Array.getElem?_setIfInBounds_self_of_lt (by simp; omega)]
    · rw [Array.getElem?_setIfInBounds_self_of_lt (by simp; omega)]
  · rw [if_neg e]
    obtain ⟨k1, k2, k3, k4⟩ := h3 j hj
    refine ⟨?_, ?_, ?_, ?_⟩
    all_goals
      rw [Array.getElem?_setIfInBounds_ne (by omega), Array.getElem?_setIfInBounds_ne (by omega), Array.getElem?_setIfInBounds_ne (by omega), Array.getElem?_setIfInBounds_ne (by omega)]
      assumption
theorem four_grown (w : World) (g a b c d : Nat) (x y z u : Value) : w.grownBy ((((w.setCell ⟨g, a, none⟩ x).setCell ⟨g, b, none⟩ y).setCell ⟨g, c, none⟩ z).setCell ⟨g, d, none⟩ u) (some g) :=
  grownBy_trans (grownBy_trans (grownBy_trans (grownBy_set _ _ _ _) (grownBy_set _ _ _ _)) (grownBy_set _ _ _ _)) (grownBy_set _ _ _ _)
/-- one choice in a box -/
def BxC (w : World) (g : Nat) (x : Ch) : Prop := TabAt w g 1 (fun _ => x)
theorem BxC.new (w : World) (x : Ch) (t : TypeId) : BxC (w.alloc (.cells #[.int .i64 x.l, .int .i64 x.c, .int .i64 x.t, .int .i64 x.m] t)) w.heap.size x :=
  ⟨_, _, push_at _ _, rfl, fun i hi => by obtain rfl : i = 0 := by omega
                                          exact ⟨rfl, rfl, rfl, rfl⟩⟩
theorem BxC.cells {w : World} {g : Nat} {x : Ch} (h : BxC w g x) : w.cell? ⟨g, 0, none⟩ = some (.int .i64 x.l) ∧ w.cell? ⟨g, 1, none⟩ = some (.int .i64 x.c) ∧ w.cell? ⟨g, 2, none⟩ = some (.int .i64 x.t) ∧ w.cell? ⟨g, 3, none⟩ = some (.int .i64 x.m) ∧ (∀ j, w.frozen? ⟨g, j, none⟩ = false) := by
  have := TabAt.cell h (i := 0) (by omega)
  simpa using this
theorem BxC.set {w : World} {g : Nat} {x : Ch} (h : BxC w g x) (y : Ch) : BxC ((((w.setCell ⟨g, 0, none⟩ (.int .i64 y.l)).setCell ⟨g, 1, none⟩ (.int .i64 y.c)).setCell ⟨g, 2, none⟩ (.int .i64 y.t)).setCell ⟨g, 3, none⟩ (.int .i64 y.m)) g y := by
  have := TabAt.set h (i := 0) (by omega) y
  simp only [Nat.zero_mul, Nat.zero_add] at this
  exact this.like (fun i hi => by obtain rfl : i = 0 := by omega
                                  rfl)

end Go.Proofs.YtlcglclojlffgaaGreatDoor
namespace Go.Proofs.YtlcglclojlffgaaGreatDoor
open Go.RowKit

/-! A region that draws its order and holds one operation (number c) that changes what is said of the world: it is met once. It may leave by a panic. -/
variable {P : Program} {ops : Array Oper} {Q : Exit → Act → World → Prop}

/-- operation i waits for operation j, perhaps by way of others -/
def waits (ops : Array Oper) : Nat → Nat → Nat → Bool
  | 0, _, _ => false
  | f + 1, i, j => match ops[i]? with
    | none => false
    | some o => o.after.any fun e => Region.binds .any e && (e.on == j || waits ops f e.on j)
def rgOkO (ops : Array Oper) (m : Nat) (ds : List Nat) (sup : Nat → List Nat) : Bool :=
  (List.range ops.size).all fun j => match ops[j]? with
    | none => true
    | some o =>
      (decide (m ≤ j) || ((match o.dst with | some d => ds.contains d | none => true) &&
        (sup j).all fun t => (List.range ops.size).all fun i => match ops[i]? with
          | none => true
          | some oi => oi.dst != some t || i == j || o.after.any fun e => Region.binds .any e && e.on == i)) &&
      (decide (j < m) || (List.range j).all (fun i => waits ops ops.size j i)) && o.after.all fun e => !Region.binds .any e || decide (e.on < j)
theorem waits_first {f i j : Nat} {o : Oper} (ho : ops[i]? = some o) (h : waits ops f i j = true) : ∃ e ∈ o.after, Region.binds .any e = true ∧ (e.on = j ∨ ∃ f', waits ops f' e.on j = true) := by
  cases f with
  | zero => simp [waits] at h
  | succ f =>
    rw [waits, ho] at h
    obtain ⟨e, he, hee⟩ := Array.any_eq_true'.1 h
    simp only [Bool.and_eq_true, Bool.or_eq_true, beq_iff_eq] at hee
    exact ⟨e, he, hee.1, hee.2.imp id (fun h => ⟨f, h⟩)⟩
theorem waits_lt {m : Nat} {ds : List Nat} {sup : Nat → List Nat} (hB : rgOkO ops m ds sup = true) : ∀ (f i j : Nat), waits ops f i j = true → j < i
  | 0, i, j, h => by simp [waits] at h
  | f + 1, i, j, h => by
    cases ho : ops[i]? with
    | none => rw [waits, ho] at h; cases h
    | some o =>
      rw [waits, ho] at h
      obtain ⟨e, he, hee⟩ := Array.any_eq_true'.1 h
      simp only [Bool.and_eq_true, Bool.or_eq_true, beq_iff_eq] at hee
      have hlt : i < ops.size := (Array.getElem?_eq_some_iff.1 ho).1
      have := List.all_eq_true.1 hB i (List.mem_range.2 hlt)
      simp only [ho, Bool.and_eq_true] at this
      have h2 := Array.all_eq_true'.1 this.2 e he
      simp only [hee.1, Bool.not_true, Bool.or_eq_true, Bool.false_eq_true, false_or, decide_eq_true_eq] at h2
      rcases hee.2 with h3 | h3
      · omega
      · have := waits_lt hB f e.on j h3
        omega
theorem waits_listed {L : Nat → Bool} (hc : ∀ j o, ops[j]? = some o → L j = true → ∀ e ∈ o.after, Region.binds .any e = true → L e.on = true) : ∀ (f i j : Nat), waits ops f i j = true → L i = true → L j = true
  | 0, i, j, h, _ => by simp [waits] at h
  | f + 1, i, j, h, hi => by
    cases ho : ops[i]? with
    | none => rw [waits, ho] at h; cases h
    | some o =>
      rw [waits, ho] at h
      obtain ⟨e, he, hee⟩ := Array.any_eq_true'.1 h
      simp only [Bool.and_eq_true, Bool.or_eq_true, beq_iff_eq] at hee
      have h1 := hc i o ho hi e he hee.1
      rcases hee.2 with h3 | h3
      · rw [← h3]; exact h1
      · exact waits_listed hc f e.on j h3 h1

/-- the tail, in its one order -/
theorem wpAny_tailO {m : Nat} {ds : List Nat} {sup : Nat → List Nat} (hB : rgOkO ops m ds sup = true) : ∀ (r k : Nat) (listed : Array Bool) (a : Act) (w : World), m ≤ k → k + r = ops.size →
    (∀ j, j < ops.size → listed.getD j true = decide (j < k)) → listed.size = ops.size → ∀ fuel, r ≤ fuel → wpOps P ops Q (List.range' k r) a w → wpAny P .any ops Q fuel listed a w
  | 0, k, listed, a, w, hm, hk, hl, hs, fuel, hf, h => by
    have hr : Region.ready .any ops listed = [] := by
      rw [List.eq_nil_iff_forall_not_mem]
      intro j hj
      obtain ⟨h1, o, ho, _⟩ := mem_ready.1 hj
      have hlt : j < ops.size := (Array.getElem?_eq_some_iff.1 ho).1
      rw [hl j hlt] at h1
      simp at h1; omega
    have hq : Q .normal a w := h
    cases fuel with
    | zero => exact ⟨hr, hq⟩
    | succ f => exact ⟨fun _ => hq, fun i hi => by rw [hr] at hi; cases hi⟩
  | r + 1, k, listed, a, w, hm, hk, hl, hs, fuel, hf, h => by
    have hkn : k < ops.size := by omega
    have hready : ∀ j ∈ Region.ready .any ops listed, j = k := by
      intro j hj
      obtain ⟨h1, o, ho, hdep⟩ := mem_ready.1 hj
      have hlt : j < ops.size := (Array.getElem?_eq_some_iff.1 ho).1
      rw [hl j hlt] at h1
      have hjk : k ≤ j := by simpa using h1
      rcases Nat.lt_or_ge k j with hlt' | hge
      · exfalso
        have hb := List.all_eq_true.1 hB j (List.mem_range.2 hlt)
        simp only [ho, Bool.and_eq_true, Bool.or_eq_true, decide_eq_true_eq] at hb
        rcases hb.1.2 with hb2 | hb2
        · omega
        · have := List.all_eq_true.1 hb2 k (List.mem_range.2 hlt')
          obtain ⟨e, he, hbind, hee⟩ := waits_first ho this
          have hd := hdep e he hbind
          have hek : e.on = k := by
            rcases hee with h | ⟨f', h⟩
            · exact h
            · exfalso
              have h4 := waits_lt hB f' e.on k h
              have h5 : e.on < ops.size := by
                have := List.all_eq_true.1 hB j (List.mem_range.2 hlt)
                simp only [ho, Bool.and_eq_true] at this
                have h2 := Array.all_eq_true'.1 this.2 e he
                simp only [hbind, Bool.not_true, Bool.or_eq_true, Bool.false_eq_true, false_or, decide_eq_true_eq] at h2
                omega
              have h6 := hl e.on h5
              rw [getD_toList] at h6 hd
              rw [List.getD_eq_getElem?_getD] at h6 hd
              cases hx : listed.toList[e.on]? with
              | none => rw [hx] at hd; simp at hd
              | some b => rw [hx] at h6 hd; simp at h6 hd; rw [hd] at h6; simp at h6; omega
          rw [hek] at hd
          have := hl k hkn
          rw [getD_toList] at this hd
          rw [List.getD_eq_getElem?_getD] at this hd
          cases hx : listed.toList[k]? with
          | none => rw [hx] at hd; simp at hd
          | some b => rw [hx] at this hd; simp at this hd; rw [this] at hd; cases hd
      · omega
    cases fuel with
    | zero => omega
    | succ f =>
      refine ⟨fun h0 => ?_, fun i hi => ?_⟩
      · exfalso
        obtain ⟨o, ho⟩ : ∃ o, ops[k]? = some o := ⟨ops[k], Array.getElem?_eq_getElem hkn⟩
        have : k ∈ Region.ready .any ops listed := by
          refine mem_ready.2 ⟨?_, o, ho, ?_⟩
          · rw [hl k hkn]; simp
          · intro e he hbind
            have hb := List.all_eq_true.1 hB k (List.mem_range.2 hkn)
            simp only [ho, Bool.and_eq_true, Bool.or_eq_true, decide_eq_true_eq] at hb
            · have h2 := Array.all_eq_true'.1 hb.2 e he
              simp only [hbind, Bool.not_true, Bool.or_eq_true, Bool.false_eq_true, false_or, decide_eq_true_eq] at h2
              have := hl e.on (by omega)
              rw [getD_toList, List.getD_eq_getElem?_getD] at this ⊢
              cases hx : listed.toList[e.on]? with
              | none =>
                have := List.getElem?_eq_none_iff.1 hx
                simp [hs] at this; omega
              | some b => rw [hx] at this; simp at this; simp [this]; exact h2
        rw [h0] at this; cases this
      · obtain rfl := hready i hi
        rw [List.range'_succ, wpOps_cons] at h
        refine wpOp_mono (fun a' w' h' => ?_) h
        refine wpAny_tailO hB r (i + 1) _ a' w' (by omega) (by omega) ?_ (by simpa using hs) f (by omega) h'
        intro j hj
        by_cases e : i = j
        · subst e
          rw [getD_toList, Array.toList_setIfInBounds, List.getD_eq_getElem?_getD, List.getElem?_set]
          simp [hs, hj]
        · rw [getD_toList, Array.toList_setIfInBounds, List.getD_eq_getElem?_getD, List.getElem?_set, if_neg e, ← List.getD_eq_getElem?_getD, ← getD_toList, hl j hj]
          simp; omega


/-- what stands while the head is under way -/
structure UnderO (ops : Array Oper) (m : Nat) (a0 : Act) (ds : List Nat) (G : Nat → (Nat → Value) → World → Prop) (St : (Nat → Bool) → World → Prop) (listed : Array Bool) (a : Act) (w : World) : Prop where
  size : listed.size = ops.size
  tail : ∀ j, m ≤ j → j < ops.size → listed.getD j true = false
  closed : ∀ j o, ops[j]? = some o → listed.getD j false = true → ∀ e ∈ o.after, Region.binds .any e = true → listed.getD e.on false = true
  st : St (fun j => listed.getD j false) w
  left : ∃ us, a = over a0 ds us ∧ ∀ j, j < m → listed.getD j false = true → G j us w

/-- what one operation of the head owes: IN EVERY FRAME AND WORLD in which what it waits for stands, it leaves what is said of it, and does away with nothing -/
def OwesO (P : Program) (ops : Array Oper) (Q : Exit → Act → World → Prop) (a0 : Act) (ds : List Nat) (G : Nat → (Nat → Value) → World → Prop) (St : (Nat → Bool) → World → Prop) (Keep : World → World → Prop) (i : Nat) (o : Oper) : Prop :=
  ∀ (us : Nat → Value) (w : World) (L : Nat → Bool), L i = false → St L w → (∀ e ∈ o.after, Region.binds .any e = true → L e.on = true ∧ G e.on us w) →
    if Region.wanted o (yielded ops (over a0 ds us).tmps) then o.wp P (over a0 ds us) w (fun a' w' => ∃ v, a' = (over a0 ds us).put o.dst v ∧ St (fun j => L j || i == j) w' ∧ Keep w w' ∧ G i (upd us o.dst v) w') Q
    else St (fun j => L j || i == j) w ∧ G i (upd us o.dst undef) w

theorem wpAny_headO {m : Nat} {a0 : Act} {ds : List Nat} {sup : Nat → List Nat} {G : Nat → (Nat → Value) → World → Prop} {St : (Nat → Bool) → World → Prop} {Keep : World → World → Prop} (hB : rgOkO ops m ds sup = true) (hm : m ≤ ops.size)
    (hkeep : ∀ j us w w', j < m → Keep w w' → G j us w → G j us w') (hrefl : ∀ w, Keep w w) (hsup : ∀ j us us' w, j < m → (∀ t ∈ sup j, us t = us' t) → G j us w → G j us' w)
    (howe : ∀ i o, i < m → ops[i]? = some o → OwesO P ops Q a0 ds G St Keep i o)
    (hend : ∀ us w L, (∀ j, j < m → L j = true) → St L w → (∀ j, j < m → G j us w) → wpOps P ops Q (List.range' m (ops.size - m)) (over a0 ds us) w) :
    ∀ (fuel : Nat) (listed : Array Bool) (a : Act) (w : World), unl listed.toList ≤ fuel → UnderO ops m a0 ds G St listed a w → wpAny P .any ops Q fuel listed a w := by
  have hdepOk : ∀ j o, j < m → ops[j]? = some o → (∀ d, o.dst = some d → ds.contains d = true) ∧ ∀ t ∈ sup j, ∀ i oi, ops[i]? = some oi → oi.dst = some t → i = j ∨ ∃ e ∈ o.after, Region.binds .any e = true ∧ e.on = i := by
    intro j o hj ho
    have hlt : j < ops.size := (Array.getElem?_eq_some_iff.1 ho).1
    have hb := List.all_eq_true.1 hB j (List.mem_range.2 hlt)
    simp only [ho, Bool.and_eq_true, Bool.or_eq_true, decide_eq_true_eq] at hb
    rcases hb.1.1 with h | h
    · omega
    · refine ⟨?_, ?_⟩
      · intro d hd
        have := h.1
        rw [hd] at this
        exact this
      · intro t ht i oi hi hd
        have h2 := List.all_eq_true.1 (List.all_eq_true.1 h.2 t ht) i (List.mem_range.2 (Array.getElem?_eq_some_iff.1 hi).1)
        simp only [hi, Bool.or_eq_true, bne_iff_ne, beq_iff_eq, hd] at h2
        rcases h2 with (h2 | h2) | h2
        · exact absurd rfl h2
        · exact Or.inl h2
        · obtain ⟨e, he, hee⟩ := Array.any_eq_true'.1 h2
          simp only [Bool.and_eq_true, beq_iff_eq] at hee
          exact Or.inr ⟨e, he, hee.1, hee.2⟩
  have step : ∀ (fuel : Nat) (listed : Array Bool) (a : Act) (w : World), unl listed.toList ≤ fuel → UnderO ops m a0 ds G St listed a w →
      (∀ j, j < m → listed.getD j true = true) → wpAny P .any ops Q fuel listed a w := by
    intro fuel listed a w hf U hall
    obtain ⟨us, rfl, hG⟩ := U.left
    have hx : ∀ j, j < m → listed.getD j false = true := by
      intro j hj
      have := hall j hj
      rw [getD_toList, List.getD_eq_getElem?_getD] at this ⊢
      cases hy : listed.toList[j]? with
      | none =>
        have h1 := List.getElem?_eq_none_iff.1 hy
        have := U.size
        simp at h1; omega
      | some b => rw [hy] at this; simpa using this
    have hr : ops.size - m ≤ fuel := by
      refine Nat.le_trans ?_ hf
      have : ∀ (n : Nat) (l : List Bool), (∀ j, n ≤ j → j < l.length → l.getD j true = false) → l.length - n ≤ unl l := by
        intro n l
        induction l generalizing n with
        | nil => intro _; simp
        | cons b r ih =>
          intro hb
          cases n with
          | zero =>
            have h0 := hb 0 (Nat.le_refl _) (by simp)
            have h1 := ih 0 (fun j _ hj => by have := hb (j + 1) (by omega) (by simpa using hj); simpa using this)
            simp at h0
            subst h0
            simp [unl] at h1 ⊢; omega
          | succ n =>
            have h1 := ih n (fun j hj hj' => by have := hb (j + 1) (by omega) (by simpa using hj'); simpa using this)
            simp only [unl, List.length_cons]; omega
      have h2 := this m listed.toList (fun j hj hj' => by rw [← getD_toList]; exact U.tail j hj (by have := U.size; simp at hj'; omega))
      have := U.size
      simp at h2; omega
    refine wpAny_tailO hB (ops.size - m) m listed _ w (Nat.le_refl _) (by omega) ?_ U.size fuel hr (hend us w _ hx U.st (fun j hj => hG j hj (hx j hj)))
    intro j hj
    rcases Nat.lt_or_ge j m with h | h
    · rw [hall j h]; simp [h]
    · rw [U.tail j h hj]; simp; omega
  intro fuel
  induction fuel with
  | zero =>
    intro listed a w hf U
    exact step 0 listed a w hf U (fun j _ => by rw [getD_toList]; exact unl_zero _ (by omega) j)
  | succ fuel ih =>
    intro listed a w hf U
    by_cases hall : ∀ j, j < m → listed.getD j true = true
    · exact step _ listed a w hf U hall
    · obtain ⟨us, rfl, hG⟩ := U.left
      have hnot : ∃ j, j < m ∧ listed.getD j true = false := by
        apply Classical.byContradiction
        intro hn
        apply hall
        intro j hj
        cases hx : listed.getD j true with
        | true => rfl
        | false => exact absurd ⟨j, hj, hx⟩ hn
      refine ⟨fun h0 => ?_, fun i hi => ?_⟩
      · -- the least that is not listed may come up
        have least : ∀ n j, j ≤ n → j < m → listed.getD j true = false → False := by
          intro n
          induction n with
          | zero =>
            intro j hj hjm hjl
            obtain rfl : j = 0 := by omega
            obtain ⟨oj, hoj⟩ : ∃ oj, ops[0]? = some oj := ⟨ops[0], Array.getElem?_eq_getElem (by omega)⟩
            have : 0 ∈ Region.ready .any ops listed := mem_ready.2 ⟨hjl, oj, hoj, fun e he hbind => by
              have hb := List.all_eq_true.1 hB 0 (List.mem_range.2 (by omega))
              simp only [hoj, Bool.and_eq_true] at hb
              have h2 := Array.all_eq_true'.1 hb.2 e he
              simp only [hbind, Bool.not_true, Bool.or_eq_true, Bool.false_eq_true, false_or, decide_eq_true_eq] at h2
              omega⟩
            rw [h0] at this; cases this
          | succ n ihn =>
            intro j hj hjm hjl
            obtain ⟨oj, hoj⟩ : ∃ oj, ops[j]? = some oj := ⟨ops[j], Array.getElem?_eq_getElem (by omega)⟩
            have : j ∈ Region.ready .any ops listed := mem_ready.2 ⟨hjl, oj, hoj, fun e he hbind => by
              have hb := List.all_eq_true.1 hB j (List.mem_range.2 (by omega))
              simp only [hoj, Bool.and_eq_true] at hb
              have h2 := Array.all_eq_true'.1 hb.2 e he
              simp only [hbind, Bool.not_true, Bool.or_eq_true, Bool.false_eq_true, false_or, decide_eq_true_eq] at h2
              cases hx : listed.getD e.on true with
              | false => exact (ihn e.on (by omega) (by omega) hx).elim
              | true =>
                rw [getD_toList, List.getD_eq_getElem?_getD] at hx ⊢
                cases hy : listed.toList[e.on]? with
                | none =>
                  have h4 := List.getElem?_eq_none_iff.1 hy
                  have := U.size
                  simp at h4; omega
                | some b => rw [hy] at hx; simpa using hx⟩
            rw [h0] at this; cases this
        obtain ⟨j, hj, hjl⟩ := hnot
        exact (least j j (Nat.le_refl _) hj hjl).elim
      · obtain ⟨h1, o, ho, hdep⟩ := mem_ready.1 hi
        have hlt : i < ops.size := (Array.getElem?_eq_some_iff.1 ho).1
        have him : i < m := by
          rcases Nat.lt_or_ge i m with h | h
          · exact h
          · exfalso
            obtain ⟨j, hj, hjl⟩ := hnot
            have hb := List.all_eq_true.1 hB i (List.mem_range.2 hlt)
            simp only [ho, Bool.and_eq_true, Bool.or_eq_true, decide_eq_true_eq] at hb
            rcases hb.1.2 with hb2 | hb2
            · omega
            · have := List.all_eq_true.1 hb2 j (List.mem_range.2 (by omega))
              obtain ⟨e, he, hbind, hee⟩ := waits_first ho this
              have hd0 := hdep e he hbind
              have hd : listed.getD j false = true := by
                rcases hee with h | ⟨f', h⟩
                · rw [← h]; exact hd0
                · exact waits_listed (L := fun j => listed.getD j false) U.closed f' e.on j h hd0
              rw [getD_toList, List.getD_eq_getElem?_getD] at hd hjl
              cases hx : listed.toList[j]? with
              | none => rw [hx] at hd; simp at hd
              | some b => rw [hx] at hd hjl; simp at hd hjl; rw [hd] at hjl; cases hjl
        obtain ⟨hds, hdp⟩ := hdepOk i o him ho
        have hil : listed.toList[i]? = some false := by
          rw [getD_toList, List.getD_eq_getElem?_getD] at h1
          cases hx : listed.toList[i]? with
          | none => rw [hx] at h1; simp at h1
          | some b => rw [hx] at h1; simp at h1; rw [h1]
        have hdm : ∀ e ∈ o.after, Region.binds .any e = true → e.on < m := by
          intro e he hbind
          have hd := hdep e he hbind
          rcases Nat.lt_or_ge e.on m with h | h
          · exact h
          · exfalso
            rcases Nat.lt_or_ge e.on ops.size with h2 | h2
            · have := U.tail e.on h h2
              rw [getD_toList, List.getD_eq_getElem?_getD] at this hd
              cases hx : listed.toList[e.on]? with
              | none => rw [hx] at hd; simp at hd
              | some b => rw [hx] at hd this; simp at hd this; rw [hd] at this; cases this
            · rw [getD_toList, List.getD_eq_getElem?_getD, List.getElem?_eq_none (by have := U.size; simp; omega)] at hd
              simp at hd
        have hcb : (fun j => (listed.setIfInBounds i true).getD j false) = (fun j => listed.getD j false || i == j) := by
          funext c
          by_cases ec : i = c
          · subst ec
            rw [getD_toList, Array.toList_setIfInBounds, List.getD_eq_getElem?_getD, List.getElem?_set, if_pos rfl]
            have := (List.getElem?_eq_some_iff.1 hil).1
            rw [if_pos this]; simp
          · rw [getD_set_other ec]; simp [ec]
        have next : ∀ v w', St (fun j => listed.getD j false || i == j) w' → Keep w w' → G i (upd us o.dst v) w' → wpAny P .any ops Q fuel (listed.setIfInBounds i true) ((over a0 ds us).put o.dst v) w' := by
          intro v w' hst hk hg
          refine ih _ _ _ ?_ ⟨by simpa using U.size, ?_, ?_, by rw [hcb]; exact hst, upd us o.dst v, over_put hds, ?_⟩
          · have := unl_set listed.toList i hil
            rw [Array.toList_setIfInBounds]; omega
          · intro j hj hj'
            rw [getD_set_other (by omega)]; exact U.tail j hj hj'
          · intro j oj hoj hlj e he hbind
            by_cases ej : i = j
            · subst ej
              rw [ho] at hoj
              cases hoj
              exact getD_set_true (hdep e he hbind)
            · rw [getD_set_other ej] at hlj
              exact getD_set_true (U.closed j oj hoj hlj e he hbind)
          · intro j hj hlj
            by_cases ej : i = j
            · subst ej; exact hg
            · rw [getD_set_other ej] at hlj
              refine hsup j us _ w' hj (fun t ht => ?_) (hkeep j us w w' hj hk (hG j hj hlj))
              symm
              refine upd_ne (fun hd => ?_)
              have hjs : j < ops.size := by omega
              obtain ⟨oj, hoj⟩ : ∃ oj, ops[j]? = some oj := ⟨ops[j], Array.getElem?_eq_getElem hjs⟩
              rcases (hdepOk j oj hj hoj).2 t ht i o ho hd with h | ⟨e, he, hbind, heq⟩
              · exact ej h
              · have := U.closed j oj hoj hlj e he hbind
                rw [heq, getD_toList, List.getD_eq_getElem?_getD, hil] at this
                simp at this
        have howes := howe i o him ho us w (fun j => listed.getD j false) (by rw [getD_toList, List.getD_eq_getElem?_getD, hil]; rfl) U.st (fun e he hbind => ⟨hdep e he hbind, hG e.on (hdm e he hbind) (hdep e he hbind)⟩)
        unfold wpOp
        rw [ho]
        simp only
        by_cases hw : Region.wanted o (yielded ops (over a0 ds us).tmps) = true
        · rw [if_pos hw] at howes ⊢
          refine Or.inl (Oper.wp_mono (fun a' w' h => ?_) howes)
          obtain ⟨v, rfl, hst, hk, hg⟩ := h
          exact next v w' hst hk hg
        · rw [if_neg hw] at howes ⊢
          exact next undef w howes.1 (hrefl w) howes.2


/-- the head's operations, one by one, each by its own walk -/
def rsAllO (P : Program) (l : List Oper) (Q : Exit → Act → World → Prop) (A : (Nat → Value) → Act) {Keep : World → World → Prop} (sp : List (Sp Keep)) (St : (Nat → Bool) → World → Prop) : Nat → List Oper → List (Sp Keep) → Prop
  | i, o :: r, s :: t => (∀ (us : Nat → Value) (w : World) (L : Nat → Bool), L i = false → St L w → (∀ e ∈ o.after, Region.binds .any e = true → L e.on = true ∧ depHolds l sp us w e.on) →
      Region.wanted o (yielded l.toArray (A us).tmps) = true ∧ o.wp P (A us) w (fun a' w' => ∃ v, a' = (A us).put o.dst v ∧ St (fun j => L j || i == j) w' ∧ Keep w w' ∧ s.holds v w') Q) ∧ rsAllO P l Q A sp St (i + 1) r t
  | _, _, _ => True

theorem rsAllO_at {P : Program} {l : List Oper} {Q : Exit → Act → World → Prop} {A : (Nat → Value) → Act} {Keep : World → World → Prop} {sp : List (Sp Keep)} {St : (Nat → Bool) → World → Prop} : ∀ (r : List Oper) (t : List (Sp Keep)) (k : Nat), rsAllO P l Q A sp St k r t → ∀ (i : Nat) (o : Oper) (s : Sp Keep), r[i]? = some o → t[i]? = some s →
    ∀ (us : Nat → Value) (w : World) (L : Nat → Bool), L (k + i) = false → St L w → (∀ e ∈ o.after, Region.binds .any e = true → L e.on = true ∧ depHolds l sp us w e.on) →
      Region.wanted o (yielded l.toArray (A us).tmps) = true ∧ o.wp P (A us) w (fun a' w' => ∃ v, a' = (A us).put o.dst v ∧ St (fun j => L j || (k + i) == j) w' ∧ Keep w w' ∧ s.holds v w') Q
  | [], _, _, _, i, o, s, h, _ => by simp at h
  | o' :: r, [], _, _, i, o, s, _, h => by simp at h
  | o' :: r, s' :: t, k, hall, 0, o, s, h, h2 => by
    simp at h h2; subst h; subst h2; exact hall.1
  | o' :: r, s' :: t, k, hall, i + 1, o, s, h, h2 => by
    have := rsAllO_at r t (k + 1) hall.2 i o s (by simpa using h) (by simpa using h2)
    rw [show k + 1 + i = k + (i + 1) by omega] at this
    exact this

/-- **A REGION THAT DRAWS ITS ORDER, one operation of which (number c) is met once and may panic.** -/
theorem wp_region_once {P : Program} {id : Nat} {l : List Oper} {Q : Exit → Act → World → Prop} {a0 : Act} {w0 : World} (ds : List Nat) (A : (Nat → Value) → Act) {Keep : World → World → Prop} (sp : List (Sp Keep)) (St : (Nat → Bool) → World → Prop)
    (hmix : P.follows .mixedOrders = true) (hB : rgOkO l.toArray sp.length ds (supOf l) = true) (hm : sp.length ≤ l.length) (hA : ∀ us, over a0 ds us = A us) (h0 : St (fun _ => false) w0.drew) (hrefl : ∀ w, Keep w w)
    (hall : rsAllO P l Q A sp St 0 (l.take sp.length) sp)
    (hend : ∀ us w L, (∀ j, j < sp.length → L j = true) → St L w → (∀ j, j < sp.length → depHolds l sp us w j) → wpList P l.toArray Q (l.drop sp.length) (A us) w) : (Code.region id l.toArray true).wp P Q a0 w0 := by
  refine wp_region_any hmix ?_
  refine wpAny_headO (a0 := a0) (ds := ds) (G := fun i us w => depHolds l sp us w i) (St := St) (Keep := Keep) hB (by simpa using hm) (fun j us w w' _ hk h => depHolds_kept hk h) hrefl (fun j us us' w _ he h => depHolds_sup he h) ?_ ?_ _ _ _ _ (by rw [Array.toList_replicate, unl_replicate]; exact Nat.le_refl _) ?_
  · intro i o hi ho us w L hb hst hd
    have ho1 : l[i]? = some o := by simpa using ho
    have ho' : (l.take sp.length)[i]? = some o := by rw [List.getElem?_take, if_pos hi]; exact ho1
    have hs : sp[i]? = some sp[i] := List.getElem?_eq_getElem hi
    have := rsAllO_at _ _ 0 hall i o sp[i] ho' hs us w L (by simpa using hb) hst hd
    rw [Nat.zero_add] at this
    rw [hA, if_pos this.1]
    refine Oper.wp_mono (fun a' w' h => ?_) this.2
    obtain ⟨v, ha, h1, h2, h3⟩ := h
    refine ⟨v, ha, h1, h2, ?_⟩
    unfold depHolds
    simp only [ho1, hs]
    cases hdst : o.dst with
    | none => trivial
    | some d => simpa [upd] using h3
  · intro us w L hL hst hg
    have := hend us w L hL hst hg
    rw [hA]
    have e := wpOps_eq_wpList (P := P) (ops := l.toArray) (Q := Q) (l.drop sp.length) sp.length (fun j => by simp [List.getElem?_drop])
    rw [List.length_drop] at e
    have e2 : l.toArray.size - sp.length = l.length - sp.length := by simp
    rw [e2, e]
    exact this
  · refine ⟨by simp, ?_, ?_, ?_, fun t => a0.tmps.getD t undef, ?_, ?_⟩
    · intro j _ hj
      rw [getD_toList, Array.toList_replicate, List.getD_eq_getElem?_getD, List.getElem?_replicate]
      simp at hj
      simp [hj]
    · intro j o _ hj
      rw [getD_toList, Array.toList_replicate, List.getD_eq_getElem?_getD, List.getElem?_replicate] at hj
      split at hj <;> simp at hj
    · have e : (fun j => (Array.replicate l.toArray.size false).getD j false) = (fun _ => false) := by
        funext c
        rw [getD_toList, Array.toList_replicate, List.getD_eq_getElem?_getD, List.getElem?_replicate]
        split <;> rfl
      rw [e]; exact h0
    · unfold over
      cases a0 with
      | mk tmps defers =>
        congr 1
        apply Array.ext_getElem?
        intro i
        rw [Array.getElem?_mapIdx]
        cases hx : tmps[i]? with
        | none => rfl
        | some v =>
          simp only [Option.map_some, Array.getD_eq_getD_getElem?, hx, Option.getD_some]
          split <;> rfl
    · intro j _ hj
      rw [getD_toList, Array.toList_replicate, List.getD_eq_getElem?_getD, List.getElem?_replicate] at hj
      split at hj <;> simp at hj

end Go.Proofs.YtlcglclojlffgaaGreatDoor
namespace Go.Proofs.YtlcglclojlffgaaGreatDoor
open Go.RowKit

/-- **A REGION THAT DRAWS ITS ORDER, as wp_region_rs; the tail may wait for the head by way of others.** -/
theorem wp_region_rt {P : Program} {id : Nat} {l : List Oper} {Q : Exit → Act → World → Prop} {a0 : Act} {w0 : World} (ds : List Nat) (A : (Nat → Value) → Act) {Keep : World → World → Prop} (sp : List (Sp Keep)) (St : World → Prop)
    (hmix : P.follows .mixedOrders = true) (hB : rgOkO l.toArray sp.length ds (supOf l) = true) (hm : sp.length ≤ l.length) (hA : ∀ us, over a0 ds us = A us) (h0 : St w0.drew) (hrefl : ∀ w, Keep w w)
    (hall : rsAll P l A sp St (l.take sp.length) sp)
    (hend : ∀ us w, St w → (∀ j, j < sp.length → depHolds l sp us w j) → wpList P l.toArray Q (l.drop sp.length) (A us) w) : (Code.region id l.toArray true).wp P Q a0 w0 := by
  have hrg := rg_of_rs (P := P) (l := l) (A := A) (sp := sp) (St := St) (l.take sp.length) sp 0 (by rw [List.length_take]; omega) (fun j hj => by
      have : j < (l.take sp.length).length := by
        apply Classical.byContradiction
        intro h
        rw [List.getElem?_eq_none (by omega)] at hj; cases hj
      rw [List.length_take] at this
      rw [Nat.zero_add, List.getElem?_take, if_pos (by omega)]) (fun j hj => by
      rw [List.length_take] at hj
      rw [Nat.zero_add, List.getElem?_take, if_pos (by omega)]) (fun j _ => by simp) hall
  refine wp_region_any hmix ?_
  refine wpAny_headO (a0 := a0) (ds := ds) (G := fun i us w => depHolds l sp us w i) (St := fun _ => St) (Keep := Keep) hB (by simpa using hm) (fun j us w w' _ hk h => depHolds_kept hk h) hrefl (fun j us us' w _ he h => depHolds_sup he h) ?_ ?_ _ _ _ _ (by rw [Array.toList_replicate, unl_replicate]; exact Nat.le_refl _) ?_
  · intro i o hi ho us w L hb hst hd
    have ho' : (l.take sp.length)[i]? = some o := by rw [List.getElem?_take, if_pos hi]; simpa using ho
    have := rgAll_at _ 0 hrg i o ho' us w hst (fun e he hb => (hd e he hb).2)
    rw [Nat.zero_add] at this
    rw [hA]
    by_cases hw : Region.wanted o (yielded l.toArray (A us).tmps) = true
    · rw [if_pos hw] at this ⊢
      exact wp_of_leaves (fun v w' h => ⟨v, rfl, h.1, h.2.1, h.2.2⟩) this
    · rw [if_neg hw] at this ⊢
      exact ⟨hst, this⟩
  · intro us w L hL hst hg
    have := hend us w hst hg
    rw [hA]
    have e := wpOps_eq_wpList (P := P) (ops := l.toArray) (Q := Q) (l.drop sp.length) sp.length (fun j => by simp [List.getElem?_drop])
    rw [List.length_drop] at e
    have e2 : l.toArray.size - sp.length = l.length - sp.length := by simp
    rw [e2, e]
    exact this
  · refine ⟨by simp, ?_, ?_, h0, fun t => a0.tmps.getD t undef, ?_, ?_⟩
    · intro j _ hj
      rw [getD_toList, Array.toList_replicate, List.getD_eq_getElem?_getD, List.getElem?_replicate]
      simp at hj
      simp [hj]
    · intro j o _ hj
      rw [getD_toList, Array.toList_replicate, List.getD_eq_getElem?_getD, List.getElem?_replicate] at hj
      split at hj <;> simp at hj
    · unfold over
      cases a0 with
      | mk tmps defers =>
        congr 1
        apply Array.ext_getElem?
        intro i
        rw [Array.getElem?_mapIdx]
        cases hx : tmps[i]? with
        | none => rfl
        | some v =>
          simp only [Option.map_some, Array.getD_eq_getD_getElem?, hx, Option.getD_some]
          split <;> rfl
    · intro j _ hj
      rw [getD_toList, Array.toList_replicate, List.getD_eq_getElem?_getD, List.getElem?_replicate] at hj
      split at hj <;> simp at hj

end Go.Proofs.YtlcglclojlffgaaGreatDoor
namespace Go.Proofs.YtlcglclojlffgaaGreatDoor
open Go.RowKit

/-- a new box of the region's own -/
def BoxK (B : Nat) (cs : Array Value) (t : TypeId) (v : Value) (W : World) : Prop := ∃ b, v = .pointer (some ⟨b, 0, none⟩) ∧ B ≤ b ∧ W.heap[b]? = some (.cells cs t (0, 0))
def spBox (B : Nat) (cs : Array Value) (t : TypeId) : Sp KB := ⟨BoxK B cs t, fun _ _ _ hk ⟨b, hv, hb, hg⟩ => ⟨b, hv, hb, blkK hk hg⟩⟩
theorem kb_new {w0 W : World} {B : Nat} {cs : Array Value} {t : TypeId} (hst : StX w0 W) (hB : B ≤ w0.heap.size) : RsR (StX w0) (spBox B cs t) W (.pointer (some ⟨W.heap.size, 0, none⟩)) (W.alloc (.cells cs t (0, 0))) :=
  kb_below hst (ba1 _ _) ⟨W.heap.size, rfl, Nat.le_trans hB hst.size, push_at _ _⟩
theorem own_ne_box {w : World} {B b : Nat} {v : Value} {zs : List Int} {cs : Array Value} {t : TypeId} (ho : OwnI w B v zs) (hg : w.heap[b]? = some (.cells cs t (0, 0))) (ht : t ≠ 2) : v.ownBlock ≠ some b := by
  rcases ho.2 with ⟨rfl, h0⟩ | ⟨g, cap, cur, rfl, hb, hg2, r⟩
  · intro e; cases e
  · intro e
    obtain rfl := Option.some.inj e
    rw [hg] at hg2
    injection hg2 with hc
    injection hc with _ hc
    exact ht hc

end Go.Proofs.YtlcglclojlffgaaGreatDoor
namespace Go.Proofs.YtlcglclojlffgaaGreatDoor
open Go.RowKit

/-- the table when the choices from k on are known -/
def tabF (s : List UInt8) (k : Nat) (i : Nat) : Ch := if i < k then chZ else hdC (s.drop i)
/-- what stands while choices are made -/
structure ChoW (w0 wr : World) (g wb fb : Nat) (s : List UInt8) (k : Nat) (f : Nat → Nat) : Prop where
  tab : TabAt wr g (s.length + 1) (tabF s k)
  wid : WidAt wr wb
  rch : RchAt wr fb f
  gw : g < wb
  wf : wb < fb
  base : w0.heap.size ≤ g
  below : Below w0.heap.size w0 wr
theorem ChoW.grown {w0 wr w' : World} {g wb fb : Nat} {s : List UInt8} {k : Nat} {f : Nat → Nat} (h : ChoW w0 wr g wb fb s k f) (hb : Below wr.heap.size wr w') : ChoW w0 w' g wb fb s k f :=
  ⟨h.tab.below hb, h.wid.below hb, h.rch.below hb, h.gw, h.wf, h.base, bt0 h.below hb (Nat.le_refl _)⟩
theorem ChoW.other {w0 wr w' : World} {g wb fb B : Nat} {s : List UInt8} {k : Nat} {f : Nat → Nat} (h : ChoW w0 wr g wb fb s k f) (hg : wr.grownBy w' (some B)) (hB : fb < B) : ChoW w0 w' g wb fb s k f := by
  have h1 := h.gw
  have h2 := h.wf
  have h3 := h.base
  obtain ⟨C, t, k1, k2⟩ := h.wid
  have hk : ∀ b, b < B → b < wr.heap.size → w'.heap[b]? = wr.heap[b]? := fun b hb hl => hg.block b hl (fun e => by cases e; omega)
  refine ⟨h.tab.kept (hk _ (by omega) h.tab.lt), ⟨C, t, (hk _ (by omega) (blkLt k1)).trans k1, k2⟩, h.rch.kept (hk _ hB h.rch.lt), h1, h2, h3, h.below.trans (below_of_grownBy hg (h.below.size) (fun j e => by cases e; omega))⟩
theorem ChoW.took {w0 wr w' : World} {g wb fb : Nat} {s : List UInt8} {k : Nat} {f f' : Nat → Nat} (h : ChoW w0 wr g wb fb s k f) (hg : wr.grownBy w' (some fb)) (hr : RchAt w' fb f') : ChoW w0 w' g wb fb s k f' := by
  have h1 := h.gw
  have h2 := h.wf
  have h3 := h.base
  obtain ⟨C, t, k1, k2⟩ := h.wid
  have hk : ∀ b, b < fb → b < wr.heap.size → w'.heap[b]? = wr.heap[b]? := fun b hb hl => hg.block b hl (fun e => by cases e; omega)
  exact ⟨h.tab.kept (hk _ (by omega) h.tab.lt), ⟨C, t, (hk _ (by omega) (blkLt k1)).trans k1, k2⟩, hr, h1, h2, h3, h.below.trans (below_of_grownBy hg (h.below.size) (fun j e => by cases e; omega))⟩
theorem ChoW.like {w0 wr : World} {g wb fb : Nat} {s : List UInt8} {k : Nat} {f f' : Nat → Nat} (h : ChoW w0 wr g wb fb s k f) (e : ∀ i, 1 ≤ i → i ≤ 4 → f' i = f i) : ChoW w0 wr g wb fb s k f' :=
  ⟨h.tab, h.wid, h.rch.like e, h.gw, h.wf, h.base, h.below⟩
theorem BxC.kept {w w' : World} {g : Nat} {x : Ch} (h : BxC w g x) (hk : w'.heap[g]? = w.heap[g]?) : BxC w' g x := TabAt.kept h hk
theorem BxC.below {w w' : World} {g : Nat} {x : Ch} (h : BxC w g x) (hb : Below w.heap.size w w') : BxC w' g x := TabAt.below h hb
theorem BxC.lt {w : World} {g : Nat} {x : Ch} (h : BxC w g x) : g < w.heap.size := TabAt.lt h
theorem runL_take (f : Nat → Nat) (c : UInt8) (l : List UInt8) (h : ∀ m, f m = runL m l) (m : Nat) : runL m (c :: l) = tkN f c m := by rw [runL, tkN, h]
set_option maxRecDepth 100000 in
set_option maxHeartbeats 4000000 in
theorem choices_any (s : ByteArray) (w : World) (hs : s.size ≤ 400) :
    Calls Tryz.prog 207 #[.string s] w fun e w' => e = .returned (.slice (some ⟨w.heap.size, 0, none⟩) (s.size + 1) (s.size + 1)) ∧ TabAt w' w.heap.size (s.size + 1) (tabF s.data.toList 0) ∧ Below w.heap.size w w' := by
  have hmk := make_ch (s.size + 1) (by omega)
  push_cast at hmk
  go_enter Tryz.func207, Tryz.ntmps207
  go_wp2_with fail
  refine (widths_any _).mono ?_
  rintro e w2 ⟨rfl, hw2, hb2⟩
  have HT2 := Lib.hid ((TabAt.new w (s.size + 1)).below hb2)
  have HB2 := Lib.hid (bt1 hb2)
  have HW2 := Lib.hid (show WidAt w2 (w.heap.size + 1) by simpa using hw2)
  clear hw2 hb2 hmk
  go_wp2_with fail
  obtain ⟨S, hS⟩ : ∃ S, S = s.data.toList := ⟨_, rfl⟩
  have hSl : S.length = s.size := by rw [hS]; rfl
  have HS := Lib.hid hS
  have HSL := Lib.hid hSl
  have HC0 : Hid (ChoW w (w2.alloc (.cells #[.int .i64 0, .int .i64 0, .int .i64 0, .int .i64 0, .int .i64 0] 278 (0, 0))) w.heap.size (w.heap.size + 1) w2.heap.size S S.length (fun m => runL m (S.drop S.length))) := Lib.hid (by
    refine ⟨?_, HW2.out.below (ba1 _ _), ?_, by omega, ?_, Nat.le_refl _, bt0 HB2.out (ba1 _ _) (Nat.le_refl _)⟩
    · rw [hSl]
      exact (HT2.out.below (ba1 _ _)).like (fun i hi => by
        unfold tabF
        by_cases h : i < s.size
        · rw [if_pos (by omega)]
        · rw [if_neg (by omega), List.drop_eq_nil_of_le (by omega)]; rfl)
    · refine ⟨_, _, push_at _ _, rfl, fun i h1 h4 => ?_⟩
      obtain rfl | rfl | rfl | rfl : i = 1 ∨ i = 2 ∨ i = 3 ∨ i = 4 := by omega
      all_goals (rw [List.drop_eq_nil_of_le (Nat.le_refl _)]; rfl)
    · obtain ⟨C, t, k1, k2⟩ := HW2.out
      simpa using blkLt k1)
  clear hS hSl
  go_loopw [6, 7, 8, 9, 10, 11] (fun a _ _ _ _ _ wr => ∃ k : Nat, k ≤ s.size ∧ a = .int .i64 ((k : Int) - 1) ∧ ChoW w wr w.heap.size (w.heap.size + 1) w2.heap.size S k (fun m => runL m (S.drop k))) (fun a _ _ _ _ _ _ => (intOf a + 1).toNat)
  case atStart => exact ⟨s.size, Nat.le_refl _, rfl, by rw [← HSL.out]; exact HC0.out⟩
  case round =>
    obtain ⟨k, hk, rfl, hc⟩ := hrel
    have HC := Lib.hid hc
    clear hc
    rcases k with - | k
    · have hdec : decide ((0 : Int) ≤ ((0 : Nat) : Int) - 1) = false := by decide
      go_wp2_with fail
      go_ret
      exact ⟨rfl, by rw [← HS.out, ← HSL.out]; exact HC.out.tab, HC.out.below⟩
    · have hdec : decide ((0 : Int) ≤ ((k + 1 : Nat) : Int) - 1) = true := by simp
      have hki : ((k + 1 : Nat) : Int) - 1 = (k : Int) := by omega
      rw [hki] at hdec ⊢
      have hkn : k < s.size := by omega
      have hki2 : (k : Int) < (s.size : Int) := by omega
      obtain ⟨c, hcb⟩ : ∃ c, c = s[k] := ⟨_, rfl⟩
      have HCB := Lib.hid (show S[k]? = some c by rw [HS.out, hcb]; exact List.getElem?_eq_getElem (by simpa using hkn))
      have hfl := fun m => (runL_le m (S.drop (k + 1))).2
      have HFL := Lib.hid hfl
      clear hfl
      go_wp2_with fail
      refine (take_any w2.heap.size _ HFL.out c _ (by rw [hcb]) _ (HC.out.rch.below (ba1 _ _))).mono ?_
      rintro e w3 ⟨rfl, hr3, hg3⟩
      obtain ⟨cl, hcl⟩ : ∃ cl, cl = S.drop k := ⟨_, rfl⟩
      obtain ⟨l, hl⟩ : ∃ l, l = S.drop (k + 1) := ⟨_, rfl⟩
      have HCL := Lib.hid (show cl = c :: l by
        rw [hcl, hl]
        have h := HCB.out
        obtain ⟨hk', e⟩ := List.getElem?_eq_some_iff.1 h
        rw [List.drop_eq_getElem_cons hk', e])
      have hB0 : w2.heap.size < wr.heap.size := HC.out.rch.lt
      have hBx : BxC w3 wr.heap.size chZ := (BxC.new wr chZ 265).kept (hg3.block _ (by simp) (fun e => by have := Option.some.inj e; omega))
      have HX0 := Lib.hid hBx
      have HC3 := Lib.hid (show ChoW w w3 w.heap.size (w.heap.size + 1) w2.heap.size S (k + 1) (fun m => runL m cl) from
        ((HC.out.grown (ba1 _ _)).took hg3 hr3).like (fun i _ _ => by rw [HCL.out]; exact runL_take _ c l (fun m => by rw [hl]) i))
      have hcll : cl.length = s.size - k := by rw [hcl, List.length_drop, HSL.out]
      have HCLe := Lib.hid hcl
      have HLe := Lib.hid hl
      have hB : w2.heap.size < wr.heap.size := hB0
      obtain ⟨B, hBe⟩ : ∃ B, B = wr.heap.size := ⟨_, rfl⟩
      rw [← hBe] at HX0 hB
      clear hr3 hg3 hBx hcl hl hB0 HFL hcb
      go_wp2_with fail
      try rw [← hBe]
      clear hBe
      go_loopw [8, 9, 10, 11] (fun i _ _ _ wx => ∃ m : Nat, 1 ≤ m ∧ m ≤ 5 ∧ i = .int .i64 m ∧ ChoW w wx w.heap.size (w.heap.size + 1) w2.heap.size S (k + 1) (fun m => runL m cl) ∧ BxC wx B (modC cl (tabC l) (m - 1))) (fun i _ _ _ _ => 5 - (intOf i).toNat)
      case atStart => exact ⟨1, by omega, by omega, rfl, HC3.out, HX0.out⟩
      case round =>
        obtain ⟨m, hm1, hm5, rfl, hc, hx⟩ := hrel
        have HCm := Lib.hid hc
        have HXm := Lib.hid hx
        clear hc hx
        by_cases hlt : m ≤ 4
        · have hdec : decide ((m : Int) ≤ 4) = true := by simp; omega
          go_wp2_with fail
          go_loopw [9, 10, 11] (fun i _ _ wx => ∃ n : Nat, 1 ≤ n ∧ n ≤ runL m cl + 1 ∧ i = .int .i64 n ∧ ChoW w wx w.heap.size (w.heap.size + 1) w2.heap.size S (k + 1) (fun m => runL m cl) ∧ BxC wx B (tryC (tabC l) m (n - 1) (modC cl (tabC l) (m - 1)))) (fun i _ _ _ => runL m cl + 1 - (intOf i).toNat)
          case atStart => exact ⟨1, by omega, by omega, rfl, HCm.out, HXm.out⟩
          case round =>
            obtain ⟨n, hn1, hnR, rfl, hc, hx⟩ := hrel
            have HCn := Lib.hid hc
            have HXn := Lib.hid hx
            obtain ⟨hR1, hR2⟩ := runL_le m cl
            obtain ⟨hcf, -⟩ := hc.rch.cell hm1 hlt
            have hlf := hc.rch.lt
            obtain ⟨R, hRe⟩ : ∃ R, R = runL m cl := ⟨_, rfl⟩
            rw [← hRe] at hnR hR1 hR2 hcf
            have HRe := Lib.hid hRe
            clear hc hx hRe
            by_cases hln : n ≤ R
            · have hdec : decide ((n : Int) ≤ (R : Int)) = true := by simp; omega
              obtain ⟨x1, x2, x3, x4, -⟩ := HCn.out.tab.cell (i := k + n) (by rw [HSL.out]; omega)
              have htf : tabF S (k + 1) (k + n) = hdC (S.drop (k + n)) := by unfold tabF; rw [if_neg (by omega)]
              obtain ⟨⟨rl, rc, rt, rm⟩, hre⟩ : ∃ x : Ch, x = hdC (S.drop (k + n)) := ⟨_, rfl⟩
              rw [htf, ← hre] at x1 x2 x3 x4
              dsimp only at x1 x2 x3 x4
              have HRE := Lib.hid hre
              have hlt2 := HCn.out.tab.lt
              obtain ⟨q, hq⟩ : ∃ q, q = k + n := ⟨_, rfl⟩
              have hqi : (k : Int) + (n : Int) = (q : Int) := by omega
              have hqi2 : (q : Int) < (s.size : Int) + 1 := by omega
              rw [← hq] at x1 x2 x3 x4
              have HQ := Lib.hid hq
              clear htf hre hq
              go_wp2_with fail
              obtain ⟨rb, hrb⟩ : ∃ rb, rb = wr.heap.size := ⟨_, rfl⟩
              obtain ⟨w6, hw6⟩ : ∃ w6, w6 = wr.alloc (.cells #[.int .i64 rl, .int .i64 rc, .int .i64 rt, .int .i64 rm] 265 (0, 0)) := ⟨_, rfl⟩
              have HC6 := Lib.hid (show ChoW w w6 w.heap.size (w.heap.size + 1) w2.heap.size S (k + 1) (fun m => runL m cl) by rw [hw6]; exact HCn.out.grown (ba1 _ _))
              have HX6 := Lib.hid (show BxC w6 B (tryC (tabC l) m (n - 1) (modC cl (tabC l) (m - 1))) by rw [hw6]; exact HXn.out.below (ba1 _ _))
              have hr0 : w6.cell? ⟨rb, 0, none⟩ = some (.int .i64 rl) := by rw [hw6, hrb, (heap_cellR (push_at _ _)).1]; rfl
              have hr1 : w6.cell? ⟨rb, 1, none⟩ = some (.int .i64 rc) := by rw [hw6, hrb, (heap_cellR (push_at _ _)).1]; rfl
              have hs6 : w6.heap.size = rb + 1 := by rw [hw6, hrb]; simp
              have hBr : B < rb := by rw [hrb]; exact HXn.out.lt
              obtain ⟨hcw, -⟩ := HC6.out.wid.cell hm1 hlt hn1 (show n ≤ 255 by omega)
              have hVb := segW_le m n hn1
              obtain ⟨V, hV⟩ : ∃ V, V = segW m n := ⟨_, rfl⟩
              rw [← hV] at hcw hVb
              have HV := Lib.hid hV
              have hbd := hdC_bd _ (S.drop (k + n)) (Nat.le_refl _)
              rw [← HRE.out] at hbd
              obtain ⟨hb1, hb2, hb3, hb4⟩ := hbd
              rw [List.length_drop, HSL.out] at hb2 hb4
              dsimp only at hb1 hb2 hb3 hb4
              have hbl : 0 ≤ rl ∧ rl ≤ 7600 := by omega
              have hbc : 0 ≤ rc ∧ rc ≤ 400 := by omega
              try rw [← hw6]
              try rw [← hrb]
              clear hw6 hrb hV hb1 hb2 hb3 hb4 x1 x2 x3 x4 hcf
              refine wp_region_rt (Keep := KB) [51, 52, 53, 54, 55, 56, 57, 58, 59, 60, 61, 62, 63, 64, 65, 66, 11] (fun us => _)
                [spE (.pointer (some ⟨w.heap.size + 1, 0, none⟩)),
                 spE (.int .i64 (m : Int)),
                 spE (.int .i64 (n : Int)),
                 spE (.pointer (some ⟨w.heap.size + 1, 0, none⟩)),
                 spE (.pointer (some ⟨w.heap.size + 1, m * 256, none⟩)),
                 spE (.pointer (some ⟨w.heap.size + 1, m * 256 + n, none⟩)),
                 spE (.int .i64 (V : Int)),
                 spE (.pointer (some ⟨rb, 0, none⟩)),
                 spE (.int .i64 rl),
                 spE (.int .i64 ((V : Int) + rl)),
                 spE (.pointer (some ⟨rb, 1, none⟩)),
                 spE (.int .i64 rc),
                 spE (.int .i64 (rc + 1)),
                 spE (.int .i64 (n : Int)),
                 spE (.int .i64 (m : Int)),
                 spE (.agg #[.int .i64 ((V : Int) + rl), .int .i64 (rc + 1), .int .i64 (n : Int), .int .i64 (m : Int)]),
                 spBox (rb + 1) #[.int .i64 0, .int .i64 0, .int .i64 0, .int .i64 0] 265]
                (StX w6) (by kernel_rfl) (by kernel_rfl) (Nat.le_of_ble_eq_true rfl) (fun us => by simp [over, List.mapIdx_cons]; exact rfl) (stX0 _) kbr ?_ ?_
              · refine ⟨?_, ?_, ?_, ?_, ?_, ?_, ?_, ?_, ?_, ?_, ?_, ?_, ?_, ?_, ?_, ?_, ?_, trivial⟩
                all_goals (intro us wx hst hd; rw [if_pos (by kernel_rfl)]; dsimp only)
                · clear hd
                  go_simp
                  exact kb_same hst rfl
                · clear hd
                  go_simp
                  exact kb_same hst rfl
                · clear hd
                  go_simp
                  exact kb_same hst rfl
                · have d51 : us 51 = (.pointer (some ⟨w.heap.size + 1, 0, none⟩)) := hd ⟨0, .data⟩ (by simp) rfl
                  clear hd
                  go_simp
                  exact kb_same hst rfl
                · have d54 : us 54 = (.pointer (some ⟨w.heap.size + 1, 0, none⟩)) := hd ⟨3, .data⟩ (by simp) rfl
                  have d52 : us 52 = (.int .i64 (m : Int)) := hd ⟨1, .data⟩ (by simp) rfl
                  clear hd
                  have hi5 : (m : Int) < 5 := by omega
                  go_simp
                  exact kb_same hst rfl
                · have d55 : us 55 = (.pointer (some ⟨w.heap.size + 1, m * 256, none⟩)) := hd ⟨4, .data⟩ (by simp) rfl
                  have d53 : us 53 = (.int .i64 (n : Int)) := hd ⟨2, .data⟩ (by simp) rfl
                  clear hd
                  have hi5 : (n : Int) < 256 := by omega
                  go_simp
                  exact kb_same hst rfl
                · have d56 : us 56 = (.pointer (some ⟨w.heap.size + 1, m * 256 + n, none⟩)) := hd ⟨5, .data⟩ (by simp) rfl
                  clear hd
                  have hW := below_cell hst hcw
                  go_simp
                  exact kb_same hst rfl
                · clear hd
                  go_simp
                  exact kb_same hst rfl
                · have d58 : us 58 = (.pointer (some ⟨rb, 0, none⟩)) := hd ⟨7, .data⟩ (by simp) rfl
                  clear hd
                  have hW := below_cell hst hr0
                  go_simp
                  exact kb_same hst rfl
                · have d57 : us 57 = (.int .i64 (V : Int)) := hd ⟨6, .data⟩ (by simp) rfl
                  have d59 : us 59 = (.int .i64 rl) := hd ⟨8, .data⟩ (by simp) rfl
                  clear hd
                  have hw : IntKind.i64.wrap ((V : Int) + rl) = (V : Int) + rl := by rw [IntKind.wrap_i64]; omega
                  go_simp
                  exact kb_same hst rfl
                · clear hd
                  go_simp
                  exact kb_same hst rfl
                · have d61 : us 61 = (.pointer (some ⟨rb, 1, none⟩)) := hd ⟨10, .data⟩ (by simp) rfl
                  clear hd
                  have hW := below_cell hst hr1
                  go_simp
                  exact kb_same hst rfl
                · have d62 : us 62 = (.int .i64 rc) := hd ⟨11, .data⟩ (by simp) rfl
                  clear hd
                  have hw : IntKind.i64.wrap (rc + 1) = rc + 1 := by rw [IntKind.wrap_i64]; omega
                  go_simp
                  exact kb_same hst rfl
                · clear hd
                  go_simp
                  exact kb_same hst rfl
                · clear hd
                  go_simp
                  exact kb_same hst rfl
                · have d60 : us 60 = (.int .i64 ((V : Int) + rl)) := hd ⟨9, .data⟩ (by simp) rfl
                  have d63 : us 63 = (.int .i64 (rc + 1)) := hd ⟨12, .data⟩ (by simp) rfl
                  have d64 : us 64 = (.int .i64 (n : Int)) := hd ⟨13, .data⟩ (by simp) rfl
                  have d65 : us 65 = (.int .i64 (m : Int)) := hd ⟨14, .data⟩ (by simp) rfl
                  clear hd
                  go_simp
                  exact kb_same hst rfl
                · clear hd
                  go_simp
                  exact kb_new hst (by omega)
              · intro us wx hst hd
                have d11 := hd 16 (by simp)
                have d66 : us 66 = (.agg #[.int .i64 ((V : Int) + rl), .int .i64 (rc + 1), .int .i64 (n : Int), .int .i64 (m : Int)]) := hd 15 (by simp)
                clear hd
                simp only [List.drop, List.length]
                rw [d66]
                obtain ⟨xb, hxb, hxb1, hxg⟩ := d11
                rw [hxb]
                have HC7 := Lib.hid (HC6.out.grown hst)
                have HB7 := Lib.hid (HX6.out.below hst)
                have HX7 : Hid (BxC wx xb chZ) := Lib.hid ⟨_, _, hxg, rfl, fun i hi => by
                  obtain rfl : i = 0 := by omega
                  exact ⟨rfl, rfl, rfl, rfl⟩⟩
                obtain ⟨z1, z2, z3, z4, z5⟩ := HX7.out.cells
                have hlx := HX7.out.lt
                have hlB := HB7.out.lt
                obtain ⟨⟨tl, tc, tt, tm⟩, hte⟩ : ∃ x : Ch, x = tryC (tabC l) m (n - 1) (modC cl (tabC l) (m - 1)) := ⟨_, rfl⟩
                rw [← hte] at HB7
                obtain ⟨v1, v2, v3, v4, v5⟩ := HB7.out.cells
                have HTE := Lib.hid hte
                have hne : B ≠ xb := by omega
                have hne' : xb ≠ B := by omega
                clear hxg hxb d66 hte hr0 hr1 hcw
                have HCD := Lib.hid (show candC (tabC l) m n = ⟨(V : Int) + rl, rc + 1, n, m⟩ by
                  have hll : l.length = s.size - (k + 1) := by rw [HLe.out, List.length_drop, HSL.out]
                  have e : (tabC l).getD (n - 1) chZ = ⟨rl, rc, rt, rm⟩ := by
                    rw [List.getD_eq_getElem?_getD, tabC_at l (n - 1) (by omega), HRE.out, HLe.out, List.drop_drop, show k + 1 + (n - 1) = k + n by omega]
                    rfl
                  rw [candC, e, ← HV.out])
                have HTN := Lib.hid (show tryC (tabC l) m n (modC cl (tabC l) (m - 1)) = betC ⟨tl, tc, tt, tm⟩ ⟨(V : Int) + rl, rc + 1, n, m⟩ by
                  obtain ⟨j, rfl⟩ : ∃ j, n = j + 1 := ⟨n - 1, by omega⟩
                  rw [tryC, HCD.out, HTE.out]; rfl)
                have HG1 := Lib.hid (four_grown wx xb 0 1 2 3 (.int .i64 ((V : Int) + rl)) (.int .i64 (rc + 1)) (.int .i64 (n : Int)) (.int .i64 (m : Int)))
                have HC8 := Lib.hid (HC7.out.other HG1.out (by omega))
                have HB8 := Lib.hid (HB7.out.kept (HG1.out.block B hlB (fun e => by have := Option.some.inj e; omega)))
                have HCase := Lib.hid (show ∀ wy, ChoW w wy w.heap.size (w.heap.size + 1) w2.heap.size S (k + 1) (fun m => runL m cl) → BxC wy B ⟨tl, tc, tt, tm⟩ → betC ⟨tl, tc, tt, tm⟩ ⟨(V : Int) + rl, rc + 1, n, m⟩ = ⟨(V : Int) + rl, rc + 1, n, m⟩ →
                    (∃ n_1 : Nat, 1 ≤ n_1 ∧ n_1 ≤ runL m cl + 1 ∧ Value.int .i64 ((n : Int) + 1) = .int .i64 n_1 ∧ ChoW w ((((wy.setCell ⟨B, 0, none⟩ (.int .i64 ((V : Int) + rl))).setCell ⟨B, 1, none⟩ (.int .i64 (rc + 1))).setCell ⟨B, 2, none⟩ (.int .i64 (n : Int))).setCell ⟨B, 3, none⟩ (.int .i64 (m : Int))) w.heap.size (w.heap.size + 1) w2.heap.size S (k + 1) (fun m => runL m cl) ∧
                      BxC ((((wy.setCell ⟨B, 0, none⟩ (.int .i64 ((V : Int) + rl))).setCell ⟨B, 1, none⟩ (.int .i64 (rc + 1))).setCell ⟨B, 2, none⟩ (.int .i64 (n : Int))).setCell ⟨B, 3, none⟩ (.int .i64 (m : Int))) B (tryC (tabC l) m (n_1 - 1) (modC cl (tabC l) (m - 1)))) from
                  fun wy hcy hby hbet => ⟨n + 1, by omega, by rw [← HRe.out]; omega, by push_cast; rfl, hcy.other (four_grown wy B 0 1 2 3 _ _ _ _) (by omega), by
                    rw [Nat.add_sub_cancel, HTN.out, hbet]
                    exact hby.set ⟨(V : Int) + rl, rc + 1, n, m⟩⟩)
                by_cases h0 : tc = 0
                · subst h0
                  go_wp2_with fail
                  exact ⟨HCase.out _ HC8.out HB8.out (by rw [betC, if_pos (Or.inl rfl)]), by rw [← HRe.out]; simp [intOf]; omega⟩
                · have h0' : (tc == 0) = false := by rw [beq_eq_false_iff_ne]; exact h0
                  have H0 := Lib.hid h0
                  clear h0
                  go_wp2_with fail
                  refine (better_any ⟨(V : Int) + rl, rc + 1, n, m⟩ ⟨tl, tc, tt, tm⟩ _).mono ?_
                  rintro e w9 ⟨rfl, hb9⟩
                  have HC9 := Lib.hid (HC8.out.grown hb9)
                  have HB9 := Lib.hid (HB8.out.below hb9)
                  have HX9 := Lib.hid ((HX7.out.set ⟨(V : Int) + rl, rc + 1, n, m⟩).below hb9)
                  obtain ⟨z1, z2, z3, z4, z5⟩ := HX9.out.cells
                  obtain ⟨v1, v2, v3, v4, v5⟩ := HB9.out.cells
                  have hl9 := HX9.out.lt
                  have hl8 := HB9.out.lt
                  clear hb9
                  rcases Bool.eq_false_or_eq_true (chB ⟨(V : Int) + rl, rc + 1, n, m⟩ ⟨tl, tc, tt, tm⟩) with hb | hb
                  · rw [hb]
                    have HBe := Lib.hid hb
                    clear hb
                    go_wp2_with fail
                    exact ⟨HCase.out _ HC9.out HB9.out (by rw [betC, if_pos (Or.inr HBe.out)]), by rw [← HRe.out]; simp [intOf]; omega⟩
                  · rw [hb]
                    have HBe := Lib.hid hb
                    clear hb
                    go_wp2_with fail
                    refine ⟨⟨n + 1, by omega, by rw [← HRe.out]; omega, by push_cast; rfl, HC9.out, ?_⟩, by rw [← HRe.out]; simp [intOf]; omega⟩
                    rw [Nat.add_sub_cancel, HTN.out, betC, if_neg (by rw [HBe.out]; rintro (h | h); exact H0.out h; cases h)]
                    exact HB9.out
            · have hdec : decide ((n : Int) ≤ (R : Int)) = false := by simp; omega
              obtain rfl : n = R + 1 := by omega
              have HMS := Lib.hid (show modC cl (tabC l) m = tryC (tabC l) m R (modC cl (tabC l) (m - 1)) by
                obtain ⟨j, rfl⟩ : ∃ j, m = j + 1 := ⟨m - 1, by omega⟩
                rw [modC, HRe.out]; rfl)
              go_wp2_with fail
              exact ⟨⟨m + 1, by omega, by omega, by go_num, HCn.out, by rw [Nat.add_sub_cancel, HMS.out]; exact HXn.out⟩, by simp [intOf]; omega⟩
        · have hdec : decide ((m : Int) ≤ 4) = false := by simp; omega
          obtain rfl : m = 5 := by omega
          obtain ⟨⟨bl, bc, bt, bm⟩, hbe⟩ : ∃ x : Ch, x = modC cl (tabC l) (5 - 1) := ⟨_, rfl⟩
          rw [← hbe] at HXm
          have HBE := Lib.hid (show hdC (S.drop k) = ⟨bl, bc, bt, bm⟩ by rw [hbe, ← HCLe.out, HCL.out]; rfl)
          obtain ⟨y1, y2, y3, y4, -⟩ := HXm.out.cells
          obtain ⟨x1, x2, x3, x4, x5⟩ := HCm.out.tab.cell (i := k) (by rw [HSL.out]; omega)
          have hki3 : (k : Int) < (s.size : Int) + 1 := by omega
          have hlb := HXm.out.lt
          have hlt2 := HCm.out.tab.lt
          clear hbe
          go_wp2_with fail
          refine ⟨⟨k, by omega, by go_num, ?_⟩, by simp [intOf]⟩
          have hg := four_grown wr w.heap.size (k * 4) (k * 4 + 1) (k * 4 + 2) (k * 4 + 3) (.int .i64 bl) (.int .i64 bc) (.int .i64 bt) (.int .i64 bm)
          have h1 := HCm.out.gw
          have h2 := HCm.out.wf
          obtain ⟨C, t, k1, k2⟩ := HCm.out.wid
          have ht := HCm.out.tab.set (i := k) (by rw [HSL.out]; omega) ⟨bl, bc, bt, bm⟩
          refine ⟨ht.like (fun i hi => ?_), ⟨C, t, (hg.block _ (blkLt k1) (fun e => by have := Option.some.inj e; omega)).trans k1, k2⟩, (HCm.out.rch.kept (hg.block _ HCm.out.rch.lt (fun e => by have := Option.some.inj e; omega))).like (fun i _ _ => by rw [HCLe.out]), h1, h2, Nat.le_refl _, HCm.out.below.trans (below_of_grownBy hg HCm.out.below.size (fun j e => by have := Option.some.inj e; omega))⟩
          unfold tabF
          by_cases e : i = k
          · subst e; rw [if_neg (by omega), if_pos rfl, HBE.out]
          · rw [if_neg e]
            by_cases h : i < k
            · rw [if_pos h, if_pos (by omega)]
            · rw [if_neg h, if_neg (by omega)]

end Go.Proofs.YtlcglclojlffgaaGreatDoor
namespace Go.Proofs.YtlcglclojlffgaaGreatDoor
open Go.RowKit

/-! Rows of things that take k cells each. -/
structure Enc (α : Type) where
  enc : α → List Value
  k : Nat
  t : TypeId
  bytes : Nat
  len : ∀ x, (enc x).length = k
  one : ∀ x, ∀ u ∈ enc x, u.oneCell' = true
  pos : 0 < k
variable {α : Type} {E : Enc α}

/-- the slice v is the call's own and holds the things xs -/
def Enc.Own (E : Enc α) (w : World) (base : Nat) (v : Value) (xs : List α) : Prop := w.ownsRow base E.t E.k v xs.length (xs.flatMap E.enc)
/-- the things xs lie at a -/
def Enc.At (E : Enc α) (w : World) (a : Option Addr) (xs : List α) : Prop := ∀ i x, xs[i]? = some x → ∃ b o, a = some ⟨b, o, none⟩ ∧ ∀ j u, (E.enc x)[j]? = some u → w.cell? ⟨b, o + (i * E.k + j), none⟩ = some u
theorem Enc.At.below {w w' : World} {a : Option Addr} {xs : List α} (h : E.At w a xs) (hb : Below w.heap.size w w') : E.At w' a xs := fun i x hx => by
  obtain ⟨b, o, e, hc⟩ := h i x hx
  exact ⟨b, o, e, fun j u hu => by rw [hb.cell (p := ⟨b, _, none⟩) (lt_of_cell (hc j u hu))]; exact hc j u hu⟩
theorem Enc.At.nil {w : World} {a : Option Addr} : E.At w a [] := fun i x hx => by simp at hx
theorem Enc.flat (E : Enc α) : ∀ (xs : List α) (i : Nat) (x : α), xs[i]? = some x → ∀ j u, (E.enc x)[j]? = some u → (xs.flatMap E.enc)[i * E.k + j]? = some u
  | [], i, x, h, _, _, _ => by simp at h
  | y :: xs, 0, x, h, j, u, hu => by
    simp at h
    subst h
    rw [List.flatMap_cons, Nat.zero_mul, Nat.zero_add, List.getElem?_append_left (List.getElem?_eq_some_iff.1 hu).1, hu]
  | y :: xs, i + 1, x, h, j, u, hu => by
    have ih := E.flat xs i x (by simpa using h) j u hu
    have hl := E.len y
    have e : (i + 1) * E.k = i * E.k + E.k := Nat.succ_mul i E.k
    rw [List.flatMap_cons, List.getElem?_append_right (by omega), ← ih]
    congr 1
    omega
theorem Enc.flat_len (E : Enc α) : ∀ xs : List α, (xs.flatMap E.enc).length = xs.length * E.k
  | [] => by simp
  | x :: xs => by rw [List.flatMap_cons, List.length_append, E.flat_len xs, E.len, List.length_cons, Nat.succ_mul]; omega
theorem Enc.Own.at {w : World} {base : Nat} {a : Option Addr} {n c : Nat} {xs : List α} (h : E.Own w base (.slice a n c) xs) : E.At w a xs := by
  intro i x hx
  have hi : i < xs.length := (List.getElem?_eq_some_iff.1 hx).1
  rcases h.2 with ⟨h1, h0⟩ | ⟨g, cap, cur, h1, hb, hg, q1, q2, q3, q4⟩
  · omega
  · simp only [Value.slice.injEq] at h1
    obtain ⟨rfl, rfl, rfl⟩ := h1
    refine ⟨g, 0, rfl, fun j u hu => ?_⟩
    have hj : j < E.k := by rw [← E.len x]; exact (List.getElem?_eq_some_iff.1 hu).1
    have hlt : i * E.k + j < xs.length * E.k := by
      have := Nat.mul_le_mul_right E.k (show i + 1 ≤ xs.length from hi)
      rw [Nat.succ_mul] at this; omega
    rw [Nat.zero_add, World.ownsRow.cellAt h (i * E.k + j) hlt]
    exact E.flat xs i x hx j u hu
theorem Enc.Own.read {w : World} {base : Nat} {v : Value} {xs : List α} (h : E.Own w base v xs) : ∃ a c, v = .slice a xs.length c := by
  rcases h.2 with ⟨rfl, h0⟩ | ⟨g, cap, cur, rfl, _⟩
  · exact ⟨none, 0, by rw [h0]⟩
  · exact ⟨_, _, rfl⟩
theorem Enc.Own.lo {w : World} {base : Nat} {v : Value} {xs : List α} (h : E.Own w base v xs) : ∀ k, v.ownBlock = some k → base ≤ k := fun k hk => (World.ownsRow.lt h k hk).1
theorem Enc.Own.hi {w : World} {base : Nat} {v : Value} {xs : List α} (h : E.Own w base v xs) : ∀ k, v.ownBlock = some k → k < w.heap.size := fun k hk => (World.ownsRow.lt h k hk).2
theorem Enc.Own.other {w w' : World} {base : Nat} {v : Value} {xs : List α} {row : Option Nat} (h : E.Own w base v xs) (hg : w.grownBy w' row) (hne : ∀ k, v.ownBlock = some k → row ≠ some k) : E.Own w' base v xs :=
  h.kept hg (by
    cases hv : v.ownBlock with
    | none => exact Or.inl rfl
    | some k => exact Or.inr (fun e => hne k hv e.symm))
theorem Enc.Own.src {w w' : World} {base b : Nat} {v : Value} {xs : List α} (h : E.Own w base v xs) (hb : b < base) (hg : w.grownBy w' (some b)) : E.Own w' base v xs :=
  h.other hg (fun k hk e => by have := h.lo k hk; have := Option.some.inj e; omega)
theorem Enc.Own.grown {w w' : World} {base : Nat} {v : Value} {xs : List α} (h : E.Own w base v xs) (hb : Below w.heap.size w w') : E.Own w' base v xs :=
  h.other (row := none) ⟨hb.os, hb.tape, hb.output, hb.size, fun k hk _ => hb.block k hk⟩ (fun k _ e => by cases e)
theorem Enc.Own.weak {w : World} {base base' : Nat} {v : Value} {xs : List α} (h : E.Own w base v xs) (hb : base' ≤ base) : E.Own w base' v xs := by
  refine ⟨h.1, ?_⟩
  rcases h.2 with h2 | ⟨g, cap, cur, h1, hb', r⟩
  · exact Or.inl h2
  · exact Or.inr ⟨g, cap, cur, h1, by omega, r⟩
theorem Enc.Own.snoc {w : World} {base : Nat} {v : Value} {xs : List α} {x : α} (h : w.ownsRow base E.t E.k v (xs.length + 1) (xs.flatMap E.enc ++ E.enc x)) : E.Own w base v (xs ++ [x]) := by
  unfold Enc.Own
  rw [List.length_append, List.flatMap_append]
  simpa using h
theorem Enc.Own.nil (E : Enc α) (w : World) (base : Nat) : E.Own w base (.slice none 0 0) [] := World.ownsRow_nil _ _ _ _
theorem Enc.Own.new (E : Enc α) (w : World) : E.Own (w.alloc (.cells #[] E.t (0, 0))) w.heap.size (.slice (some ⟨w.heap.size, 0, none⟩) 0 0) [] :=
  World.ownsRow_lit (base := w.heap.size) (size := E.k) w #[] 0 (Nat.le_refl _) (by unfold maxLen; omega) (by simp)
/-- a block with one thing -/
theorem Enc.new_at (E : Enc α) {w : World} {g : Nat} {x : α} {C : Array Value} {t : TypeId} (h : w.heap[g]? = some (.cells C t (0, 0))) (hC : C.toList = E.enc x) : ∀ j u, (E.enc x)[j]? = some u → w.cell? ((⟨g, 0, none⟩ : Addr).add j) = some u := by
  intro j u hu
  rw [Addr.add_lit, Nat.zero_add, (heap_cellR h).1, ← hu, ← hC]
  simp

/-- append of one thing to things of the call's own -/
theorem wpList_append_e (E : Enc α) {P : Program} {ops : Array Oper} {rest : List Oper} {o : Oper} {a : Act} {Q : Exit → Act → World → Prop} {W : World} (hgd : o.guard = none) (s x : Operand) (T : TypeId)
    (ho : o.op = .call { callee := .builtin .append, args := #[s, x], argTypes := #[T, T] }) (hT : P.underlying T = some (.slice E.t)) (i0 : TypeInfo) (z : Value) (hi : P.info? E.t = some i0) (y0 : i0.zero = some z) (y1 : i0.size = E.k) (y2 : i0.bytes = E.bytes) (y3 : z.cells.size = E.k) (hby : E.bytes ≤ 4096)
    (base : Nat) (v : Value) (xs : List α) (y : α) (hs : a.eval s = v) (hown : E.Own W base v xs) (g : Nat) (C : Array Value) (hx : a.eval x = .slice (some ⟨g, 0, none⟩) 1 1)
    (hg : W.heap[g]? = some (.cells C E.t (0, 0))) (hC : C.toList = E.enc y) (hl : xs.length ≤ 1000000000) (hb : base ≤ W.heap.size)
    (h : ∀ a' c' xs' w', xs' = xs ++ [y] → E.Own w' base (.slice a' xs'.length c') xs' → W.grownBy w' v.ownBlock → Below base W w' → wpList P ops Q rest (a.put o.dst (.slice a' xs'.length c')) w') : wpList P ops Q (o :: rest) a W := by
  refine wpList_append_own _ hgd s x T ho base E.t i0 z E.k E.bytes hT hi y0 y1 y2 y3 E.pos v xs.length (xs.flatMap E.enc) hs hown ⟨g, 0, none⟩ 1 1 (E.enc y) hx (by rw [E.len, Nat.one_mul]) (E.new_at hg hC) (E.one y) (by unfold maxLen; omega) ?_ hb ?_
  · calc (xs.length + 1) * E.bytes ≤ (xs.length + 1) * 4096 := Nat.mul_le_mul_left _ hby
      _ ≤ 140737488355328 := by omega
  · intro v' w' h1 h2 _
    have h3 := Enc.Own.snoc h1
    obtain ⟨a', c', rfl⟩ := h3.read
    exact h a' c' _ w' rfl h3 h2 (below_of_grownBy h2 hb (fun k hk => hown.lo k hk))

end Go.Proofs.YtlcglclojlffgaaGreatDoor
namespace Go.Proofs.YtlcglclojlffgaaGreatDoor
open Go.RowKit

theorem ext_bytes (s : ByteArray) (f k : Nat) : s.extract f k = ⟨((s.data.toList.drop f).take (k - f)).toArray⟩ := by
  have h : (s.extract f k).data.toList = (s.data.toList.drop f).take (k - f) := by simp [Array.toList_extract]
  rw [← h]
/-- a new slice of one thing, of the region's own -/
def SlcK (B : Nat) (cs : Array Value) (t : TypeId) (v : Value) (W : World) : Prop := ∃ b, v = .slice (some ⟨b, 0, none⟩) 1 1 ∧ B ≤ b ∧ W.heap[b]? = some (.cells cs t (0, 0))
def spSlc (B : Nat) (cs : Array Value) (t : TypeId) : Sp KB := ⟨SlcK B cs t, fun _ _ _ hk ⟨b, hv, hb, hg⟩ => ⟨b, hv, hb, blkK hk hg⟩⟩
theorem slc_new {w0 W : World} {B : Nat} {cs : Array Value} {t : TypeId} (hst : StX w0 W) (hB : B ≤ w0.heap.size) : RsR (StX w0) (spSlc B cs t) W (.slice (some ⟨W.heap.size, 0, none⟩) 1 1) (W.alloc (.cells cs t (0, 0))) :=
  kb_below hst (ba1 _ _) ⟨W.heap.size, rfl, Nat.le_trans hB hst.size, push_at _ _⟩
set_option maxRecDepth 100000 in
set_option maxHeartbeats 1000000 in
theorem bestLength_any (s : ByteArray) (w : World) (hs : s.size ≤ 400) :
    Calls Tryz.prog 193 #[.string s] w fun e w' => e = .returned (.int .i64 (hdC s.data.toList).l) ∧ Below w.heap.size w w' := by
  go_enter Tryz.func193, Tryz.ntmps193
  go_wp2_with fail
  refine (choices_any s _ hs).mono ?_
  rintro e w1 ⟨rfl, ht, hb⟩
  obtain ⟨x1, -, -, -, -⟩ := ht.cell (i := 0) (by omega)
  rw [Nat.zero_mul] at x1
  have e0 : tabF s.data.toList 0 0 = hdC s.data.toList := by simp [tabF]
  rw [e0] at x1
  obtain ⟨X, hX⟩ : ∃ X, X = (hdC s.data.toList).l := ⟨_, rfl⟩
  rw [← hX] at x1
  have HX := Lib.hid hX
  have hlt := ht.lt
  have HB := Lib.hid hb
  have h0 : (0 : Int) < (s.size : Int) + 1 := by omega
  clear ht hb e0 hX
  go_wp2_with fail
  go_ret
  exact ⟨ret_int HX.out, HB.out⟩
end Go.Proofs.YtlcglclojlffgaaGreatDoor
namespace Go.Proofs.YtlcglclojlffgaaGreatDoor
open Go.RowKit

theorem Enc.At.kept {α : Type} {E : Enc α} {w w' : World} {a : Option Addr} {xs : List α} (h : E.At w a xs) (hk : ∀ b o, a = some ⟨b, o, none⟩ → w'.heap[b]? = w.heap[b]?) : E.At w' a xs := fun i x hx => by
  obtain ⟨b, o, e, hc⟩ := h i x hx
  exact ⟨b, o, e, fun j u hu => by rw [← hc j u hu]; simp [World.cell?, hk b o e]⟩
theorem flat_le (xs : List (Nat × List UInt8)) (k : Nat) : ((xs.take k).flatMap segB).length ≤ (xs.flatMap segB).length := by
  have h : xs.flatMap segB = (xs.take k).flatMap segB ++ (xs.drop k).flatMap segB := by rw [← List.flatMap_append, List.take_append_drop]
  rw [h, List.length_append]; omega
theorem segsC_le : ∀ (n : Nat) (s : List UInt8), s.length ≤ n → (segsC s).length ≤ s.length
  | n, [], _ => by simp [segsC, segsF]
  | 0, c :: l, h => by simp at h
  | n + 1, c :: l, h => by
    obtain ⟨k, m, h1, h2, h3, h4, h5, h6, h7, h8, h9, h10⟩ := (hdC_ok (s := c :: l) (by simp)).t
    have h11 := segsC_le n ((c :: l).drop k) (by rw [List.length_drop]; simp at h ⊢; omega)
    rw [segsC_cons, h1, List.length_cons, Int.toNat_natCast]
    rw [List.length_drop] at h11
    omega
end Go.Proofs.YtlcglclojlffgaaGreatDoor
namespace Go.Proofs.YtlcglclojlffgaaGreatDoor
open Go.RowKit

/-- the code of a payload; its elements -/
def payC (k cap : Nat) (S : List UInt8) : Int := if S.length ≤ 400 ∧ cap * k ≤ 8192 ∧ (hdC S).l ≤ ((cap * k : Nat) : Int) then 0 else 3
def payE (k cap : Nat) (S : List UInt8) : List Int := if payC k cap S = 0 then elemsC k (fillC (msgB S) (cap * k)) else []
/-- a list of the call's own and a code are handed back -/
def RetLC (w : World) (l : List Int) (cd : Int) (e : Ending) (w' : World) : Prop := ∃ a c l', l' = l ∧ e = .returned (.tuple #[.slice a l'.length c, .int .i64 cd]) ∧ OwnI w' w.heap.size (.slice a l'.length c) l' ∧ Below w.heap.size w w'
theorem OwnI.none (w : World) (base : Nat) : OwnI w base (.slice none 0 0) [] := ⟨by simp, Or.inl ⟨rfl, rfl⟩⟩
set_option maxRecDepth 100000 in
theorem isMessage_any (s : ByteArray) (w : World) (hs : s.size ≤ 1048576) :
    Calls Tryz.prog 181 #[.string s] w fun e w' => e = .returned (.bool (decide (s.size ≤ 400))) ∧ w = w' := by
  have HD := Lib.hid (show decide ((s.size : Int) ≤ 400) = decide (s.size ≤ 400) by rw [decide_eq_decide]; omega)
  go_enter Tryz.func181, Tryz.ntmps181
  go_wp2_with fail
  go_ret
  exact ⟨ret_bool HD.out, rfl⟩
end Go.Proofs.YtlcglclojlffgaaGreatDoor
namespace Go.Proofs.YtlcglclojlffgaaGreatDoor
open Go.RowKit

/-- the least capacity of a message; its code -/
def payN (k : Nat) (S : List UInt8) : Int := (payS k S).getD 0
def payD (k : Nat) (S : List UInt8) : Int := if (payS k S).isSome = true then 0 else 3
theorem payNo {k : Nat} {S : List UInt8} (h : payS k S = none) : payN k S = 0 ∧ payD k S = 3 := by simp [payN, payD, h]
theorem payYes {k : Nat} {S : List UInt8} {n : Int} (h : payS k S = some n) : payN k S = n ∧ payD k S = 0 := by simp [payN, payD, h]
set_option maxRecDepth 100000 in
set_option maxHeartbeats 4000000 in
theorem payloadSize_any {p k g : Int} {F : Fd} (h : FV p k g F) (s : ByteArray) (w : World) (hs : s.size ≤ 1048576) :
    Calls Tryz.prog 182 #[.agg #[.int .i64 p, .int .i64 k, .int .i64 g], .string s] w fun e w' => e = .returned (.tuple #[.int .i64 (payN F.k s.data.toList), .int .i64 (payD F.k s.data.toList)]) ∧ Below w.heap.size w w' := by
  have H := Lib.hid h
  have hk3 := h.ok.k3
  have hk8 := h.ok.k8
  obtain ⟨S, hS⟩ : ∃ S, S = s.data.toList := ⟨_, rfl⟩
  have hSl : S.length = s.size := by rw [hS]; rfl
  obtain ⟨P, hP⟩ : ∃ P, P = payS F.k S := ⟨_, rfl⟩
  have HP := Lib.hid hP
  have HS := Lib.hid hS
  rw [← hS]
  clear h hP hS
  by_cases h400 : s.size ≤ 400
  · have hbd := hdC_bd _ S (Nat.le_refl _)
    obtain ⟨L, hL⟩ : ∃ L, L = (hdC S).l := ⟨_, rfl⟩
    have hLb : 0 ≤ L ∧ L ≤ 7600 := by
      rw [hL]
      have h1 := hbd.1
      have h2 := hbd.2.1
      omega
    have HLe := Lib.hid hL
    obtain ⟨K, hK⟩ : ∃ K : Int, K = (F.k : Int) := ⟨_, rfl⟩
    have hKb : 3 ≤ K ∧ K ≤ 8 := by omega
    have HK := Lib.hid hK
    obtain ⟨N, hN⟩ : ∃ N, (L + K - 1) / K = N := ⟨_, rfl⟩
    have hNb : 0 ≤ N ∧ N ≤ 7607 := by
      rw [← hN]
      exact ⟨Int.ediv_nonneg (by omega) (by omega), Int.le_trans (Int.ediv_le_self _ (by omega)) (by omega)⟩
    obtain ⟨M, hM⟩ : ∃ M, (if 1 < N then N else 1) = M := ⟨_, rfl⟩
    have hMb : 1 ≤ M ∧ M ≤ 7607 := by rw [← hM]; split <;> omega
    have HPe := Lib.hid (show P = if M ≤ 1500 then some M else none by
      have e : needS F.k S = M := by
        unfold needS
        rw [← HLe.out, ← HK.out, hN, ← hM]
        split <;> split <;> omega
      rw [HP.out, payS, e]
      by_cases hm : M ≤ 1500
      · rw [if_pos ⟨by omega, hm⟩, if_pos hm]
      · rw [if_neg (by omega), if_neg hm])
    have hkz : (K == 0) = false := by rw [beq_eq_false_iff_ne]; omega
    have h1 : decide (s.size ≤ 400) = true := decide_eq_true h400
    clear hbd hL hSl hK
    rcases Decidable.em (M ≤ 1500) with hm | hm
    · have hm' : decide ((1500 : Int) < M) = false := by simp; omega
      have HR := Lib.hid (payYes (HP.out.symm.trans (HPe.out.trans (if_pos hm))))
      clear hm
      go_enter Tryz.func182, Tryz.ntmps182
      go_wp2_with fail
      refine (calc_fv H.out _).mono ?_
      rintro e w1 ⟨hb1, a1, rfl, ha⟩
      obtain ⟨b, rfl, -, hA⟩ := ha rfl
      have HA := Lib.hid hA
      have HB1 := Lib.hid (bt1 hb1)
      clear hb1 ha hA
      go_wp2_with fail
      refine (isMessage_any s _ hs).mono ?_
      rw [h1]
      rintro e w' ⟨rfl, rfl⟩
      go_wp2_with fail
      refine (bestLength_any s _ h400).mono ?_
      rw [← HS.out, ← HLe.out]
      rintro e w3 ⟨rfl, hb3⟩
      have HB3 := Lib.hid (bt0 HB1.out hb3 (Nat.le_refl _))
      have HA3 := Lib.hid (HA.out.below hb3)
      clear hb3
      go_wp2_with fail
      refine (width_any F H.out.fd b _ HA3.out).mono ?_
      rw [← HK.out]
      rintro e w2 hq2
      obtain ⟨rfl, hb2⟩ := hq2.below
      have HB2 := Lib.hid (bt0 HB3.out hb2 (Nat.le_refl _))
      have HA2 := Lib.hid (HA3.out.below hb2)
      clear hq2 hb2
      go_wp2_with fail
      refine (width_any F H.out.fd b _ HA2.out).mono ?_
      rw [← HK.out]
      rintro e w4 hq4
      obtain ⟨rfl, hb4⟩ := hq4.below
      have HB4 := Lib.hid (bt0 HB2.out hb4 (Nat.le_refl _))
      clear hq4 hb4
      go_wp2_with fail
      go_ret2
      exact ⟨by rw [HR.out.1, HR.out.2]; rfl, HB4.out⟩
    · have hm' : decide ((1500 : Int) < M) = true := by simp; omega
      have HR := Lib.hid (payNo (HP.out.symm.trans (HPe.out.trans (if_neg hm))))
      clear hm
      go_enter Tryz.func182, Tryz.ntmps182
      go_wp2_with fail
      refine (calc_fv H.out _).mono ?_
      rintro e w1 ⟨hb1, a1, rfl, ha⟩
      obtain ⟨b, rfl, -, hA⟩ := ha rfl
      have HA := Lib.hid hA
      have HB1 := Lib.hid (bt1 hb1)
      clear hb1 ha hA
      go_wp2_with fail
      refine (isMessage_any s _ hs).mono ?_
      rw [h1]
      rintro e w' ⟨rfl, rfl⟩
      go_wp2_with fail
      refine (bestLength_any s _ h400).mono ?_
      rw [← HS.out, ← HLe.out]
      rintro e w3 ⟨rfl, hb3⟩
      have HB3 := Lib.hid (bt0 HB1.out hb3 (Nat.le_refl _))
      have HA3 := Lib.hid (HA.out.below hb3)
      clear hb3
      go_wp2_with fail
      refine (width_any F H.out.fd b _ HA3.out).mono ?_
      rw [← HK.out]
      rintro e w2 hq2
      obtain ⟨rfl, hb2⟩ := hq2.below
      have HB2 := Lib.hid (bt0 HB3.out hb2 (Nat.le_refl _))
      have HA2 := Lib.hid (HA3.out.below hb2)
      clear hq2 hb2
      go_wp2_with fail
      refine (width_any F H.out.fd b _ HA2.out).mono ?_
      rw [← HK.out]
      rintro e w4 hq4
      obtain ⟨rfl, hb4⟩ := hq4.below
      have HB4 := Lib.hid (bt0 HB2.out hb4 (Nat.le_refl _))
      clear hq4 hb4
      go_wp2_with fail
      go_ret2
      exact ⟨by rw [HR.out.1, HR.out.2]; rfl, HB4.out⟩
  · have HR := Lib.hid (payNo (HP.out.symm.trans (show P = none by rw [HP.out, payS, if_neg (by omega)])))
    have h1 : decide (s.size ≤ 400) = false := decide_eq_false h400
    go_enter Tryz.func182, Tryz.ntmps182
    go_wp2_with fail
    refine (calc_fv H.out _).mono ?_
    rintro e w1 ⟨hb1, a1, rfl, ha⟩
    have HB1 := Lib.hid (bt1 hb1)
    clear hb1 ha
    go_wp2_with fail
    refine (isMessage_any s _ hs).mono ?_
    rw [h1]
    rintro e w' ⟨rfl, rfl⟩
    go_wp2_with fail
    go_ret2
    exact ⟨by rw [HR.out.1, HR.out.2]; rfl, HB1.out⟩

end Go.Proofs.YtlcglclojlffgaaGreatDoor
namespace Go.Proofs.YtlcglclojlffgaaGreatDoor
open Go.RowKit

/-- a text cut at every byte c -/
def cut (c : UInt8) : List UInt8 → List (List UInt8)
  | [] => [[]]
  | x :: r => if x = c then [] :: cut c r else match cut c r with
    | [] => [[x]]
    | h :: t => (x :: h) :: t

theorem cut_ne (c : UInt8) (l : List UInt8) : cut c l ≠ [] := by
  cases l with
  | nil => simp [cut]
  | cons x r => rw [cut]; split; · simp
                split <;> simp

theorem index1_cases (c : UInt8) : ∀ l : List UInt8, Lib.index l [c] = -1 ∨ ∃ i : Nat, Lib.index l [c] = i
  | [] => by left; rw [Lib.index.eq_1]; simp
  | x :: r => by
    rw [Lib.index.eq_2]
    split
    · exact .inr ⟨0, rfl⟩
    · split
      · exact .inl rfl
      · rename_i _ h
        rcases index1_cases c r with h2 | ⟨i, h2⟩
        · simp [h2] at h
        · exact .inr ⟨i + 1, by rw [h2]; rfl⟩

theorem splitK_cut (c : UInt8) : ∀ l : List UInt8, Lib.splitK [c] 0 (Lib.count l [c]) l = cut c l
  | [] => by rw [Lib.count_one]; simp [Lib.splitK.eq_1, cut]
  | x :: r => by
    have ih := splitK_cut c r
    by_cases hx : x = c
    · subst hx
      rw [Lib.count_cons_eq, Nat.add_comm, Lib.splitK.eq_2, Lib.index.eq_2]
      simp [cut, ih]
    · rw [Lib.count_cons_ne _ _ _ hx, cut, if_neg hx, ← ih]
      generalize Lib.count r [c] = k
      cases k with
      | zero => simp [Lib.splitK.eq_1]
      | succ k =>
        rw [Lib.splitK.eq_2, Lib.splitK.eq_2, Lib.index.eq_2]
        have hp : ([c] : List UInt8).isPrefixOf (x :: r) = false := by
          simp [List.isPrefixOf]; exact fun h => hx h.symm
        rw [hp]
        rcases index1_cases c r with h2 | ⟨i, h2⟩
        · simp [h2]
        · have h3 : ¬ ((i : Int) == -1) = true := by simp <;> omega
          have h4 : ¬ (((i : Int) + 1) == -1) = true := by simp <;> omega
          simp only [h2, if_neg h3, Bool.false_eq_true, if_false, if_neg h4]
          have h5 : ((i : Int) + 1).toNat = i + 1 := by omega
          have h6 : ((i : Int)).toNat = i := by omega
          simp [h5, h6]

theorem splitB_cut (s : ByteArray) (c : UInt8) :
    (Lib.splitB ⟨#[c]⟩ 0 (Lib.countB s ⟨#[c]⟩) s).map (fun x => x.data.toList) = cut c s.data.toList := by
  rw [Lib.splitB_data]; exact splitK_cut c _

/-- texts put together with a byte between them -/
def glue (c : UInt8) : List (List UInt8) → List UInt8
  | [] => []
  | [h] => h
  | h :: t => h ++ c :: glue c t

theorem glue_cons (c : UInt8) (h : List UInt8) (t : List (List UInt8)) (ht : t ≠ []) : glue c (h :: t) = h ++ c :: glue c t := by
  cases t with
  | nil => exact absurd rfl ht
  | cons => rfl

theorem glue_cut (c : UInt8) : ∀ l : List UInt8, glue c (cut c l) = l
  | [] => rfl
  | x :: r => by
    have ih := glue_cut c r
    rw [cut]
    split
    · rename_i h; subst h
      rw [glue_cons _ _ _ (cut_ne _ _), ih]; rfl
    · have hne := cut_ne c r
      split
      · rename_i h; exact absurd h hne
      · rename_i h t he
        rw [he] at ih
        cases t with
        | nil => simp only [glue] at ih ⊢; rw [ih]
        | cons a b => simp only [glue] at ih ⊢; rw [← ih]; rfl

theorem cut_free (c : UInt8) : ∀ l : List UInt8, ∀ p ∈ cut c l, c ∉ p
  | [] => by simp [cut]
  | x :: r => by
    have ih := cut_free c r
    rw [cut]
    split
    · intro p hp; rcases List.mem_cons.1 hp with rfl | hp
      · simp
      · exact ih p hp
    · rename_i hx
      split
      · intro p hp; simp at hp; subst hp; simp; exact fun h => hx h.symm
      · rename_i h t he
        rw [he] at ih
        intro p hp; rcases List.mem_cons.1 hp with rfl | hp
        · have := ih h (by simp); simp [this]; exact fun h => hx h.symm
        · exact ih p (by simp [hp])

theorem cut_piece (c : UInt8) : ∀ l : List UInt8, c ∉ l → cut c l = [l]
  | [] => fun _ => rfl
  | x :: r => fun h => by
    simp at h
    rw [cut, if_neg (fun e => h.1 e.symm), cut_piece c r h.2]

theorem cut_app (c : UInt8) : ∀ (p l : List UInt8), c ∉ p → cut c (p ++ c :: l) = p :: cut c l
  | [], l => fun _ => by simp [cut]
  | x :: r, l => fun h => by
    simp at h
    rw [List.cons_append, cut, if_neg (fun e => h.1 e.symm), cut_app c r l h.2]

theorem cut_glue (c : UInt8) : ∀ ps : List (List UInt8), ps ≠ [] → (∀ p ∈ ps, c ∉ p) → cut c (glue c ps) = ps
  | [] => fun h => absurd rfl h
  | [p] => fun _ h => cut_piece c p (h p (by simp))
  | p :: q :: t => fun _ h => by
    rw [glue_cons _ _ _ (by simp), cut_app c p _ (h p (by simp)), cut_glue c (q :: t) (by simp) (fun x hx => h x (by simp [hx]))]

/-- the library's reading of a decimal -/
theorem parseUintM_dec (M : Nat) (hM : M ≤ 18446744073709551615) : ∀ (u : Nat), u ≤ M → ∀ r, Lib.parseUintM M 0 (Lib.decDigits u ++ r) = Lib.parseUintM M u r := by
  intro u
  induction u using Nat.strongRecOn with
  | _ u ih =>
    intro hu r
    rw [Lib.decDigits.eq_1]
    split
    · rename_i h
      have h1 : (UInt8.ofNat (48 + u)).toNat = 48 + u := by simp; omega
      rw [List.singleton_append, Lib.parseUintM.eq_2, h1, if_pos (by omega), if_neg (by omega), if_neg (by omega)]
      congr 1; omega
    · rename_i h
      have h1 : (UInt8.ofNat (48 + u % 10)).toNat = 48 + u % 10 := by simp; omega
      rw [List.append_assoc, ih (u / 10) (by omega) (by omega), List.singleton_append, Lib.parseUintM.eq_2, h1, if_pos (by omega), if_neg (by omega), if_neg (by omega)]
      congr 1; omega

theorem decDigits_ne (u : Nat) : Lib.decDigits u ≠ [] := by
  rw [Lib.decDigits.eq_1]; split <;> simp

theorem dec_digit : ∀ (u : Nat), ∀ x ∈ Lib.decDigits u, 48 ≤ x.toNat ∧ x.toNat ≤ 57 := by
  intro u
  induction u using Nat.strongRecOn with
  | _ u ih =>
    rw [Lib.decDigits.eq_1]
    split
    · intro x hx; simp at hx; subst hx; simp; omega
    · intro x hx
      rcases List.mem_append.1 hx with hx | hx
      · exact ih (u / 10) (by omega) x hx
      · simp at hx; subst hx; simp; omega

theorem parseUintB_dec (u : Nat) (hu : u ≤ 18446744073709551615) : Lib.parseUintB 64 (Lib.decDigits u) = .ok u := by
  have h := parseUintM_dec (2 ^ 64 - 1) (by omega) u (by omega) []
  rw [List.append_nil] at h
  rw [Lib.parseUintB, if_neg (decDigits_ne u), h, Lib.parseUintM.eq_1]

theorem parseIntB_itoa (n : Int) (h0 : -9223372036854775808 ≤ n) (h1 : n ≤ 9223372036854775807) : Lib.parseIntB 64 (Lib.itoa n) = .ok n := by
  by_cases hn : n < 0
  · have e : Lib.itoa n = 45 :: Lib.decDigits n.natAbs := by rw [Lib.itoa, if_pos hn]
    rw [e, Lib.parseIntB_minus, parseUintB_dec _ (by omega), Lib.signedC, if_neg (by omega)]
    congr 1; omega
  · have e : Lib.itoa n = Lib.decDigits n.toNat := by rw [Lib.itoa, if_neg hn]
    rw [e]
    have hd := dec_digit n.toNat
    have hp := parseUintB_dec n.toNat (by omega)
    cases he : Lib.decDigits n.toNat with
    | nil => exact absurd he (decDigits_ne _)
    | cons c r =>
      rw [he] at hd hp
      have := hd c (by simp)
      rw [Lib.parseIntB_plain _ _ _ (by omega) (by omega), hp, Lib.signlessC, if_neg (by omega)]
      congr 1; omega

/-- the number that a text is in decimal, as the program reads it -/
def rnum (l : List UInt8) : Option Int :=
  match Lib.parseIntB 64 l with
  | .ok n => if Lib.itoa n = l then some n else none
  | _ => none

theorem rnum_some (l : List UInt8) (n : Int) (h : rnum l = some n) : l = Lib.itoa n := by
  unfold rnum at h
  split at h
  · split at h
    · rename_i h2; cases h; exact h2.symm
    · cases h
  · cases h

theorem rnum_itoa (n : Int) (h0 : -9223372036854775808 ≤ n) (h1 : n ≤ 9223372036854775807) : rnum (Lib.itoa n) = some n := by
  unfold rnum; rw [parseIntB_itoa n h0 h1]; simp

end Go.Proofs.YtlcglclojlffgaaGreatDoor
namespace Go.Proofs.YtlcglclojlffgaaGreatDoor
open Go.RowKit

/-- the number that digits spell -/
def dval (l : List UInt8) : Nat := l.foldl (fun n x => 10 * n + (x.toNat - 48)) 0

theorem dval_dec : ∀ u : Nat, dval (Lib.decDigits u) = u := by
  intro u
  induction u using Nat.strongRecOn with
  | _ u ih =>
    rw [Lib.decDigits.eq_1]
    split
    · rename_i h
      have h1 : (UInt8.ofNat (48 + u)).toNat = 48 + u := by simp; omega
      simp only [dval, List.foldl_cons, List.foldl_nil, h1]; omega
    · rename_i h
      have h1 : (UInt8.ofNat (48 + u % 10)).toNat = 48 + u % 10 := by simp; omega
      have h2 := ih (u / 10) (by omega)
      unfold dval at h2 ⊢
      rw [List.foldl_append, h2]
      simp only [List.foldl_cons, List.foldl_nil, h1]; omega

theorem dec_len : ∀ (k u : Nat), u < 10 ^ (k + 1) → (Lib.decDigits u).length ≤ k + 1
  | 0, u, h => by rw [Lib.decDigits.eq_1, dif_pos (by omega)]; simp
  | k + 1, u, h => by
    rw [Lib.decDigits.eq_1]
    split
    · simp
    · have := dec_len k (u / 10) (by rw [Nat.pow_succ] at h; omega)
      simp; omega

/-- the reference's reading of a number of at most twelve digits -/
def valS (l : List UInt8) : Option Int :=
  if 1 ≤ l.length ∧ l.length ≤ 12 ∧ (∀ x ∈ l, 48 ≤ x.toNat ∧ x.toNat ≤ 57) ∧ Lib.decDigits (dval l) = l then some (dval l) else none

theorem valS_dec (u : Nat) (h : u < 1000000000000) : valS (Lib.decDigits u) = some (u : Int) := by
  have hl := dec_len 11 u (by simpa using h)
  have hne := decDigits_ne u
  have h1 : 1 ≤ (Lib.decDigits u).length := by
    cases he : Lib.decDigits u with
    | nil => exact absurd he hne
    | cons => simp
  unfold valS
  rw [dval_dec, if_pos ⟨h1, by omega, dec_digit u, rfl⟩]

theorem itoa_mem (n : Int) : ∀ x ∈ Lib.itoa n, x.toNat = 45 ∨ (48 ≤ x.toNat ∧ x.toNat ≤ 57) := by
  intro x hx
  unfold Lib.itoa at hx
  split at hx
  · rcases List.mem_cons.1 hx with rfl | hx
    · exact .inl rfl
    · exact .inr (dec_digit _ x hx)
  · exact .inr (dec_digit _ x hx)

theorem itoa_no (n : Int) (c : UInt8) (hc : c.toNat ≠ 45) (hd : ¬ (48 ≤ c.toNat ∧ c.toNat ≤ 57)) : c ∉ Lib.itoa n := by
  intro hx
  rcases itoa_mem n c hx with h | h
  · exact hc h
  · exact hd h

end Go.Proofs.YtlcglclojlffgaaGreatDoor
namespace Go.Proofs.YtlcglclojlffgaaGreatDoor
open Go.RowKit

/-- a record in two numbers -/
structure Rc where
  k : Int
  n : Int
def Rc.ok (r : Rc) : Bool := inB r.k 1 4 && inB r.n 0 199
theorem Rc.ok_iff (r : Rc) : r.ok = true ↔ (1 ≤ r.k ∧ r.k ≤ 4) ∧ (0 ≤ r.n ∧ r.n ≤ 199) := by
  unfold Rc.ok; rw [Bool.and_eq_true, inB_iff, inB_iff]

def wPlan : List UInt8 := [112, 108, 97, 110]
def wPrint : List UInt8 := [112, 114, 105, 110, 116]
def wRead : List UInt8 := [114, 101, 97, 100]
def wVoid : List UInt8 := [118, 111, 105, 100]
/-- the word of a kind -/
def wordJ (k : Int) : List UInt8 := if k = 1 then wPlan else if k = 2 then wPrint else if k = 3 then wRead else wVoid
/-- the kind with a word; 0 if it is none -/
def kindJ (l : List UInt8) : Int := if l = wPlan then 1 else if l = wPrint then 2 else if l = wRead then 3 else if l = wVoid then 4 else 0
theorem kindJ_word {k : Int} (h1 : 1 ≤ k) (h4 : k ≤ 4) : kindJ (wordJ k) = k := by
  have : k = 1 ∨ k = 2 ∨ k = 3 ∨ k = 4 := by omega
  rcases this with rfl | rfl | rfl | rfl <;> decide
theorem word_kindJ {l : List UInt8} (h : kindJ l ≠ 0) : wordJ (kindJ l) = l ∧ 1 ≤ kindJ l ∧ kindJ l ≤ 4 := by
  unfold kindJ at h ⊢
  repeat' split
  all_goals first | (rename_i e; subst e; decide) | skip
  all_goals simp_all

/-- the beginning of a line -/
def headJ (n : Nat) (r : Rc) : List UInt8 := Lib.itoa n ++ 32 :: (wordJ r.k ++ 32 :: Lib.itoa r.n)
/-- the sum behind some bytes -/
def sumJ (s : Int) (l : List UInt8) : Int := l.foldl (fun s b => (131 * s + b.toNat + 1) % 65521) s
def nextJ (n : Nat) (s : Int) (r : Rc) : Int := sumJ s (headJ n r)
/-- a line without its end -/
def lineJ (n : Nat) (s : Int) (r : Rc) : List UInt8 := headJ n r ++ 32 :: Lib.itoa (nextJ n s r)

theorem sumJ_cons (s : Int) (b : UInt8) (l : List UInt8) : sumJ s (b :: l) = sumJ ((131 * s + b.toNat + 1) % 65521) l := rfl
theorem sumJ_snoc (s : Int) (l : List UInt8) (b : UInt8) : sumJ s (l ++ [b]) = (131 * sumJ s l + b.toNat + 1) % 65521 := by simp [sumJ, List.foldl_append]
theorem sumJ_range {s : Int} (h : 0 ≤ s ∧ s < 65521) : ∀ l, 0 ≤ sumJ s l ∧ sumJ s l < 65521 := by
  intro l
  induction l generalizing s with
  | nil => exact h
  | cons b l ih => rw [sumJ_cons]; exact ih (by omega)
theorem nextJ_range {n : Nat} {s : Int} {r : Rc} (h : 0 ≤ s ∧ s < 65521) : 0 ≤ nextJ n s r ∧ nextJ n s r < 65521 := sumJ_range h _

/-- the journal of records, and its last sum -/
def textJ : Nat → Int → List Rc → List UInt8
  | _, _, [] => []
  | n, s, r :: t => lineJ n s r ++ 10 :: textJ (n + 1) (nextJ n s r) t
def lastJ : Nat → Int → List Rc → Int
  | _, s, [] => s
  | n, s, r :: t => lastJ (n + 1) (nextJ n s r) t

theorem lastJ_range : ∀ (l : List Rc) (n : Nat) {s : Int}, 0 ≤ s ∧ s < 65521 → 0 ≤ lastJ n s l ∧ lastJ n s l < 65521
  | [], _, _, h => h
  | _ :: t, n, _, h => lastJ_range t (n + 1) (nextJ_range h)
theorem textJ_snoc : ∀ (l : List Rc) (n : Nat) (s : Int) (r : Rc), textJ n s (l ++ [r]) = textJ n s l ++ (lineJ (n + l.length) (lastJ n s l) r ++ [10])
  | [], n, s, r => by simp [textJ, lastJ]
  | a :: t, n, s, r => by
    rw [List.cons_append, textJ, textJ_snoc t (n + 1) (nextJ n s a) r, textJ, lastJ, List.length_cons]
    have e : n + 1 + t.length = n + (t.length + 1) := by omega
    rw [e]; simp
theorem lastJ_snoc : ∀ (l : List Rc) (n : Nat) (s : Int) (r : Rc), lastJ n s (l ++ [r]) = nextJ (n + l.length) (lastJ n s l) r
  | [], n, s, r => by simp [lastJ]
  | a :: t, n, s, r => by
    rw [List.cons_append, lastJ, lastJ_snoc t (n + 1) (nextJ n s a) r, lastJ, List.length_cons]
    have e : n + 1 + t.length = n + (t.length + 1) := by omega
    rw [e]

/-- the words of a line -/
def wordsJ (n : Nat) (s : Int) (r : Rc) : List (List UInt8) := [Lib.itoa n, wordJ r.k, Lib.itoa r.n, Lib.itoa (nextJ n s r)]
theorem lineJ_glue (n : Nat) (s : Int) (r : Rc) : lineJ n s r = glue 32 (wordsJ n s r) := by
  simp [lineJ, headJ, wordsJ, glue]
theorem wordJ_free (k : Int) : (32 : UInt8) ∉ wordJ k ∧ (10 : UInt8) ∉ wordJ k := by
  have h : ((32 : UInt8) ∉ wPlan ∧ (10 : UInt8) ∉ wPlan) ∧ ((32 : UInt8) ∉ wPrint ∧ (10 : UInt8) ∉ wPrint) ∧ ((32 : UInt8) ∉ wRead ∧ (10 : UInt8) ∉ wRead) ∧ ((32 : UInt8) ∉ wVoid ∧ (10 : UInt8) ∉ wVoid) := by decide
  unfold wordJ
  repeat' split
  · exact h.1
  · exact h.2.1
  · exact h.2.2.1
  · exact h.2.2.2
theorem wordsJ_free (n : Nat) (s : Int) (r : Rc) : ∀ p ∈ wordsJ n s r, (32 : UInt8) ∉ p ∧ (10 : UInt8) ∉ p := by
  have ha : ∀ n, (32 : UInt8) ∉ Lib.itoa n ∧ (10 : UInt8) ∉ Lib.itoa n := fun n => ⟨itoa_no n 32 (by decide) (by decide), itoa_no n 10 (by decide) (by decide)⟩
  intro p hp
  simp only [wordsJ, List.mem_cons, List.not_mem_nil, or_false] at hp
  rcases hp with rfl | rfl | rfl | rfl
  · exact ha _
  · exact wordJ_free _
  · exact ha _
  · exact ha _
theorem cut_lineJ (n : Nat) (s : Int) (r : Rc) : cut 32 (lineJ n s r) = wordsJ n s r := by
  rw [lineJ_glue]; exact cut_glue 32 _ (by simp [wordsJ]) (fun p hp => (wordsJ_free n s r p hp).1)
theorem lineJ_no (n : Nat) (s : Int) (r : Rc) : (10 : UInt8) ∉ lineJ n s r := by
  intro h
  simp only [lineJ, headJ, List.mem_append, List.mem_cons] at h
  have ha : ∀ n, (10 : UInt8) ∉ Lib.itoa n := fun n => itoa_no n 10 (by decide) (by decide)
  have hw := (wordJ_free r.k).2
  rcases h with (h | h | h | h | h) | h | h
  · exact ha _ h
  · exact absurd h (by decide)
  · exact hw h
  · exact absurd h (by decide)
  · exact ha _ h
  · exact absurd h (by decide)
  · exact ha _ h

/-- the bytes before the first end of a line -/
def lineOf : List UInt8 → Option (List UInt8)
  | [] => none
  | x :: r => if x = 10 then some [] else (lineOf r).map (x :: ·)
theorem lineOf_some : ∀ (l p : List UInt8), lineOf l = some p → (10 : UInt8) ∉ p ∧ ∃ t, l = p ++ 10 :: t
  | [], p, h => by simp [lineOf] at h
  | x :: r, p, h => by
    rw [lineOf] at h
    split at h
    · rename_i hx; subst hx; cases h; exact ⟨by simp, r, rfl⟩
    · rename_i hx
      cases hr : lineOf r with
      | none => rw [hr] at h; cases h
      | some q =>
        rw [hr] at h; cases h
        obtain ⟨h1, t, h2⟩ := lineOf_some r q hr
        exact ⟨by simp; exact ⟨fun e => hx e.symm, h1⟩, t, by rw [h2]; rfl⟩
theorem lineOf_app : ∀ (p t : List UInt8), (10 : UInt8) ∉ p → lineOf (p ++ 10 :: t) = some p
  | [], t, _ => by simp [lineOf]
  | x :: p, t, h => by
    simp at h
    rw [List.cons_append, lineOf, if_neg (fun e => h.1 e.symm), lineOf_app p t h.2]; rfl
theorem lineOf_none : ∀ l : List UInt8, lineOf l = none → (10 : UInt8) ∉ l
  | [], _ => by simp
  | x :: r, h => by
    rw [lineOf] at h
    split at h
    · cases h
    · rename_i hx
      cases hr : lineOf r with
      | none => simp; exact ⟨fun e => hx e.symm, lineOf_none r hr⟩
      | some q => rw [hr] at h; cases h

/-- the program's reading of a number that is not negative -/
def rdec (l : List UInt8) : Option Int :=
  if l = [] ∨ (1 < l.length ∧ l[0]? = some 48) ∨ l[0]? = some 43 ∨ l[0]? = some 45 then none
  else match Lib.parseIntB 64 l with | .ok n => some n | _ => none
theorem dec_head : ∀ u : Nat, 10 ≤ u → (Lib.decDigits u)[0]? ≠ some 48 := by
  intro u
  induction u using Nat.strongRecOn with
  | _ u ih =>
    intro h
    rw [Lib.decDigits.eq_1, dif_neg (by omega)]
    by_cases h2 : u / 10 < 10
    · rw [Lib.decDigits.eq_1, dif_pos h2]
      intro e
      have h3 : UInt8.ofNat (48 + u / 10) = 48 := by
        rw [List.singleton_append, List.getElem?_cons_zero] at e
        exact Option.some.inj e
      have : (UInt8.ofNat (48 + u / 10)).toNat = 48 := by rw [h3]; rfl
      rw [UInt8.toNat_ofNat'] at this
      omega
    · have := ih (u / 10) (by omega) (by omega)
      rw [List.getElem?_append_left]
      · exact this
      · cases he : Lib.decDigits (u / 10) with
        | nil => exact absurd he (decDigits_ne _)
        | cons => simp
theorem rdec_itoa {n : Int} (h0 : 0 ≤ n) (h1 : n ≤ 9223372036854775807) : rdec (Lib.itoa n) = some n := by
  unfold rdec
  rw [if_neg, parseIntB_itoa n (by omega) h1]
  obtain ⟨u, rfl⟩ := Int.eq_ofNat_of_zero_le h0
  rw [Lib.itoa_nonneg]
  have hd := dec_digit u
  have hh := dec_head u
  rintro (h | ⟨h, h2⟩ | h | h)
  · exact decDigits_ne _ h
  · by_cases hu : 10 ≤ u
    · exact hh hu h2
    · rw [Lib.decDigits.eq_1, dif_pos (by omega)] at h; simp at h
  · have := hd 43 (List.mem_of_getElem? h); simp at this
  · have := hd 45 (List.mem_of_getElem? h); simp at this

/-- the program's reading of the next record -/
def readJ (n : Nat) (s : Int) (rest : List UInt8) : Option Rc :=
  match lineOf rest with
  | none => none
  | some p => match cut 32 p with
    | [_, b, c, _] => match rdec c with
      | none => none
      | some i => if kindJ b ≠ 0 ∧ Rc.ok ⟨kindJ b, i⟩ = true ∧ (lineJ n s ⟨kindJ b, i⟩ ++ [10]).isPrefixOf rest = true then some ⟨kindJ b, i⟩ else none
    | _ => none

theorem readJ_iff (n : Nat) (s : Int) (rest : List UInt8) (r : Rc) : readJ n s rest = some r ↔ r.ok = true ∧ ∃ t, rest = lineJ n s r ++ 10 :: t := by
  constructor
  · intro h
    unfold readJ at h
    split at h
    · cases h
    · split at h
      · split at h
        · cases h
        · split at h
          rotate_left
          · cases h
          rename_i hk
          cases h
          refine ⟨hk.2.1, ?_⟩
          obtain ⟨t, ht⟩ := List.isPrefixOf_iff_prefix.1 hk.2.2
          exact ⟨t, by rw [← ht]; simp⟩
      · cases h
  · rintro ⟨hok, t, rfl⟩
    have ho := (r.ok_iff).1 hok
    unfold readJ
    rw [lineOf_app _ _ (lineJ_no n s r)]
    simp only [cut_lineJ, wordsJ, rdec_itoa ho.2.1 (show r.n ≤ 9223372036854775807 by omega), kindJ_word ho.1.1 ho.1.2]
    rw [if_pos]
    refine ⟨by omega, hok, List.isPrefixOf_iff_prefix.2 ⟨t, by simp⟩⟩

/-- the program's reading of a journal -/
def recJ : Nat → Nat → Int → List UInt8 → List Rc
  | 0, _, _, _ => []
  | f + 1, n, s, rest => match readJ n s rest with
    | none => []
    | some r => r :: recJ f (n + 1) (nextJ n s r) (rest.drop ((lineJ n s r).length + 1))

/-- the reference's reading of a line: the record, perhaps wrong -/
def spReadJ (p : List UInt8) : Rc :=
  match cut 32 p with
  | [_, b, c, _] => match valS c with
    | none => ⟨0, 0⟩
    | some i => ⟨kindJ b, i⟩
  | _ => ⟨0, 0⟩
theorem spReadJ_line {n : Nat} {s : Int} {r : Rc} (h : r.ok = true) : spReadJ (lineJ n s r) = r := by
  have ho := (r.ok_iff).1 h
  obtain ⟨k, i⟩ := r
  dsimp only at ho
  obtain ⟨u, rfl⟩ := Int.eq_ofNat_of_zero_le ho.2.1
  unfold spReadJ
  simp only [cut_lineJ, wordsJ, Lib.itoa_nonneg, valS_dec u (by omega), kindJ_word ho.1.1 ho.1.2]

/-- the reference's reading of a journal's lines -/
def spRecJ : Nat → Nat → Int → List (List UInt8) → List Rc
  | 0, _, _, _ => []
  | f + 1, n, s, p :: q :: t => if (spReadJ p).ok = true ∧ lineJ n s (spReadJ p) = p then spReadJ p :: spRecJ f (n + 1) (nextJ n s (spReadJ p)) (q :: t) else []
  | _ + 1, _, _, _ => []

theorem rec_sp : ∀ (f n : Nat) (s : Int) (rest : List UInt8), recJ f n s rest = spRecJ f n s (cut 10 rest)
  | 0, n, s, rest => by rw [recJ, spRecJ]
  | f + 1, n, s, rest => by
    rw [recJ]
    cases hr : readJ n s rest with
    | some r =>
      obtain ⟨hok, t, rfl⟩ := (readJ_iff n s rest r).1 hr
      have hd : (lineJ n s r ++ 10 :: t).drop ((lineJ n s r).length + 1) = t := by
        rw [List.drop_append]; simp
      simp only []
      rw [hd, cut_app 10 _ _ (lineJ_no n s r), rec_sp f]
      cases hc : cut 10 t with
      | nil => exact absurd hc (cut_ne 10 t)
      | cons q u => rw [spRecJ, spReadJ_line hok, if_pos ⟨hok, rfl⟩]
    | none =>
      simp only []
      have hg := glue_cut 10 rest
      have hf := cut_free 10 rest
      cases hc : cut 10 rest with
      | nil => rw [spRecJ]; simp
      | cons p t =>
        cases t with
        | nil => rw [spRecJ]; simp
        | cons q u =>
          rw [spRecJ, if_neg]
          rintro ⟨h1, h2⟩
          rw [hc, glue_cons 10 p _ (by simp)] at hg
          have := (readJ_iff n s rest (spReadJ p)).2 ⟨h1, glue 10 (q :: u), by rw [h2, hg]⟩
          rw [hr] at this; cases this

theorem recJ_prop : ∀ (f n : Nat) (s : Int) (rest : List UInt8), (∀ r ∈ recJ f n s rest, r.ok = true) ∧ (recJ f n s rest).length ≤ f ∧ ∃ t, rest = textJ n s (recJ f n s rest) ++ t
  | 0, n, s, rest => by rw [recJ]; exact ⟨by simp, by simp, rest, rfl⟩
  | f + 1, n, s, rest => by
    rw [recJ]
    cases hr : readJ n s rest with
    | some r =>
      obtain ⟨hok, t, rfl⟩ := (readJ_iff n s rest r).1 hr
      have hd : (lineJ n s r ++ 10 :: t).drop ((lineJ n s r).length + 1) = t := by
        rw [List.drop_append]; simp
      simp only [hd]
      obtain ⟨h1, h2, u, h3⟩ := recJ_prop f (n + 1) (nextJ n s r) t
      refine ⟨?_, by simpa using h2, u, ?_⟩
      · intro x hx
        rcases List.mem_cons.1 hx with rfl | hx
        · exact hok
        · exact h1 x hx
      · rw [textJ, List.append_assoc, List.cons_append, ← h3]
    | none => exact ⟨by simp, by simp, rest, rfl⟩

theorem recJ_text : ∀ (l : List Rc) (f n : Nat) (s : Int), (∀ r ∈ l, r.ok = true) → l.length ≤ f → recJ f n s (textJ n s l) = l
  | [], f, n, s, _, _ => by
    cases f with
    | zero => rfl
    | succ f =>
      rw [recJ]
      cases hr : readJ n s (textJ n s []) with
      | none => rfl
      | some r =>
        obtain ⟨_, t, h⟩ := (readJ_iff n s _ r).1 hr
        simp [textJ] at h
  | r :: t, f, n, s, hok, hl => by
    cases f with
    | zero => simp at hl
    | succ f =>
      have h := (readJ_iff n s (textJ n s (r :: t)) r).2 ⟨hok r (by simp), _, by rw [textJ]⟩
      rw [recJ, h]
      simp only []
      have hd : (textJ n s (r :: t)).drop ((lineJ n s r).length + 1) = textJ (n + 1) (nextJ n s r) t := by
        rw [textJ, List.drop_append]; simp
      rw [hd, recJ_text t f (n + 1) (nextJ n s r) (fun x hx => hok x (by simp [hx])) (by simp at hl; omega)]

theorem itoa_len {n : Int} (k : Nat) (h0 : 0 ≤ n) (h : n < 10 ^ (k + 1)) : (Lib.itoa n).length ≤ k + 1 := by
  obtain ⟨u, rfl⟩ := Int.eq_ofNat_of_zero_le h0
  rw [Lib.itoa_nonneg]
  exact dec_len k u (by exact_mod_cast h)
theorem wordJ_len (k : Int) : (wordJ k).length ≤ 5 := by
  unfold wordJ
  repeat' split
  all_goals decide
theorem lineJ_len {n : Nat} {s : Int} {r : Rc} (hn : n < 1000) (hs : 0 ≤ s ∧ s < 65521) (hok : r.ok = true) : (lineJ n s r).length ≤ 19 := by
  have ho := (r.ok_iff).1 hok
  have hx := nextJ_range (n := n) (r := r) hs
  have h1 := itoa_len 2 (n := (n : Int)) (by omega) (by omega)
  have h2 := wordJ_len r.k
  have h3 := itoa_len 2 ho.2.1 (by omega)
  have h4 := itoa_len 4 hx.1 (by omega)
  simp only [lineJ, headJ, List.length_append, List.length_cons]
  omega
theorem textJ_len : ∀ (l : List Rc) (n : Nat) (s : Int), n + l.length ≤ 1000 → 0 ≤ s ∧ s < 65521 → (∀ r ∈ l, r.ok = true) → (textJ n s l).length ≤ 20 * l.length
  | [], _, _, _, _, _ => by simp [textJ]
  | r :: t, n, s, hn, hs, hok => by
    have h1 := lineJ_len (n := n) (s := s) (r := r) (by simp at hn; omega) hs (hok r (by simp))
    have h2 := textJ_len t (n + 1) (nextJ n s r) (by simp at hn; omega) (nextJ_range hs) (fun x hx => hok x (by simp [hx]))
    rw [textJ]
    simp only [List.length_append, List.length_cons]
    omega

end Go.Proofs.YtlcglclojlffgaaGreatDoor
namespace Go.Proofs.YtlcglclojlffgaaGreatDoor
open Go.RowKit

/-- a family in memory: what it holds, and the blocks of its sizes and levels -/
structure FmR where
  f : Fam
  b1 : Nat
  b2 : Nat
/-- rows of families -/
def fmE : Enc FmR where
  enc r := [.string r.f.name, .int .i64 r.f.kind, .int .i64 r.f.fp, .int .i64 r.f.fk, .int .i64 r.f.fg, .slice (some ⟨r.b1, 0, none⟩) r.f.sizes.length r.f.sizes.length, .int .i64 r.f.cols, .slice (some ⟨r.b2, 0, none⟩) r.f.levels.length r.f.levels.length]
  k := 8
  t := 123
  bytes := 104
  len _ := rfl
  one := by
    intro r u hu
    simp only [List.mem_cons, List.not_mem_nil, or_false] at hu
    rcases hu with rfl | rfl | rfl | rfl | rfl | rfl | rfl | rfl <;> rfl
  pos := by decide
theorem infoFm : (Tryz.prog.info? 123).map (fun i => (i.zero, i.size, i.bytes)) = some (some (.agg #[.string ⟨#[]⟩, .int .i64 0, .int .i64 0, .int .i64 0, .int .i64 0, .slice none 0 0, .int .i64 0, .slice none 0 0]), 8, 104) := by kernel_rfl
/-- append of one family to families of the call's own -/
theorem wpList_append_fm {ops : Array Oper} {rest : List Oper} {o : Oper} {a : Act} {Q : Exit → Act → World → Prop} {W : World} (hgd : o.guard = none) (s x : Operand)
    (ho : o.op = .call { callee := .builtin .append, args := #[s, x], argTypes := #[141, 141] })
    (base : Nat) (v : Value) (xs : List FmR) (y : FmR) (hs : a.eval s = v) (hown : fmE.Own W base v xs) (g : Nat) (C : Array Value) (hx : a.eval x = .slice (some ⟨g, 0, none⟩) 1 1)
    (hg : W.heap[g]? = some (.cells C 123 (0, 0))) (hC : C.toList = fmE.enc y) (hl : xs.length ≤ 1000000000) (hb : base ≤ W.heap.size)
    (h : ∀ a' c' xs' w', xs' = xs ++ [y] → fmE.Own w' base (.slice a' xs'.length c') xs' → W.grownBy w' v.ownBlock → Below base W w' → wpList Tryz.prog ops Q rest (a.put o.dst (.slice a' xs'.length c')) w') : wpList Tryz.prog ops Q (o :: rest) a W := by
  obtain ⟨i0, hi, y0, y1, y2⟩ := info_parts infoFm
  exact wpList_append_e fmE hgd s x _ ho Tryz.underlying141 i0 _ hi y0 y1 y2 rfl (by decide) base v xs y hs hown g C hx hg hC hl hb h

end Go.Proofs.YtlcglclojlffgaaGreatDoor
namespace Go.Proofs.YtlcglclojlffgaaGreatDoor
open Go.RowKit

/-- one operation's walk, out of a list's -/
theorem wp_of_list {P : Program} {ops : Array Oper} {o : Oper} {a : Act} {w : World} {K : Act → World → Prop} {Q : Exit → Act → World → Prop} (hw : Region.wanted o (yielded ops a.tmps) = true)
    (h : wpList P ops (fun e a' w' => e = .normal ∧ K a' w') [o] a w) : o.wp P a w K Q := by
  unfold wpList at h
  rw [if_pos hw] at h
  rcases h with h | ⟨-, h⟩
  · unfold Oper.wp at h ⊢
    generalize (execOp a.eval o).run P w = r at h ⊢
    cases r with
    | ok n w' =>
      cases n <;> simp only [Oper.upon, wpList] at h ⊢ <;>
        first
          | exact h.2
          | exact Calls.mono h (fun e w'' he => by
              cases e
              · exact he.2
              · exact absurd he.1 (by simp)
              · obtain ⟨_, _, h9, -⟩ := he
                exact absurd h9 (by simp))
          | exact Rows.mono h (fun _ _ he => he.2)
    | halt x w' =>
      cases x <;> simp only [Oper.upon] at h ⊢
      exact absurd h.1 (by simp)
  · obtain ⟨_, _, h9, -⟩ := h
    exact absurd h9 (by simp)

end Go.Proofs.YtlcglclojlffgaaGreatDoor
namespace Go.Proofs.YtlcglclojlffgaaGreatDoor
open Go.RowKit

/-- the library's lock in this program -/
def muLink : Go.Conc.Locks.MuLink := { lock := 213, unlock := 214, ilock := 221, iunlock := 222, lockSlow := 232, unlockSlow := 235, disable := 228, enable := 230, acquire := 231, relMerge := 233, cas32 := 229, add32 := 234, tMutex := 243, tIMutex := 241, tPMutex := 286, tPIMutex := 300, tPI32 := 302, tUP := 304, tNoCopy := 236, tU32 := 173 }
theorem muLib : Go.Conc.Locks.MuLib Tryz.prog muLink :=
  ⟨Tryz.func213, Tryz.func214, Tryz.func221, Tryz.func222, Tryz.func228, Tryz.func230, Tryz.func231, Tryz.func233, Tryz.func229, Tryz.func234,
    Tryz.underlying241, Tryz.runUnderlying241, Tryz.sizeOf241, Tryz.isAgg241, Tryz.zeroValue241,
    Tryz.underlying243, Tryz.runUnderlying243, Tryz.sizeOf243, Tryz.isAgg243, Tryz.zeroValue243,
    Tryz.underlying286, Tryz.runUnderlying286, Tryz.sizeOf286, Tryz.isAgg286, Tryz.zeroValue286,
    Tryz.underlying300, Tryz.runUnderlying300, Tryz.sizeOf300, Tryz.isAgg300, Tryz.zeroValue300,
    Tryz.underlying302, Tryz.runUnderlying302, Tryz.sizeOf302, Tryz.isAgg302, Tryz.zeroValue302,
    Tryz.underlying304, Tryz.runUnderlying304, Tryz.sizeOf304, Tryz.isAgg304, Tryz.zeroValue304,
    Tryz.underlying236, Tryz.runUnderlying236, Tryz.sizeOf236, Tryz.isAgg236, Tryz.zeroValue236,
    Tryz.underlying21, Tryz.runUnderlying21, Tryz.sizeOf21, Tryz.isAgg21, Tryz.zeroValue21, (by kernel_rfl)⟩

theorem lock_any (a : Addr) (w : World) (hc : w.cell? a = some (.int .i32 0)) (hz : w.frozen? a = false) :
    Calls Tryz.prog 213 #[.pointer (some a)] w fun e w' => e = .returned (.tuple #[]) ∧ w' = w.setCell a (.int .i32 1) :=
  Go.MuLone.lock_free muLib a w hc hz
theorem unlock_def (a : Addr) (u : FrameMode) (w : World) (hc : w.cell? a = some (.int .i32 1)) (hz : w.frozen? a = false) :
    CallsD Tryz.prog 214 #[.pointer (some a)] u w fun e u' w' => u' = u ∧ (e = .returned (.tuple #[]) ∧ w' = w.setCell a (.int .i32 0)) :=
  Go.MuLone.unlock_deferred muLib a u w hc hz

end Go.Proofs.YtlcglclojlffgaaGreatDoor
namespace Go.Proofs.YtlcglclojlffgaaGreatDoor
open Go.RowKit

/-- '(*sync/atomic.Bool).Load': the cell tells. -/
theorem boolLoad_any (a : Addr) (d : Int) (w : World) (hc : w.cell? a = some (.int .u32 d)) :
    Calls Tryz.prog 200 #[.pointer (some a)] w fun e w' => e = .returned (.bool (d != 0)) ∧ w = w' := by
  have hl := run_call_load (P := Tryz.prog) Tryz.func212 (by kernel_rfl) (by kernel_rfl) (by kernel_rfl) .u32 (by kernel_rfl) hc
  go_enter Tryz.func200, Tryz.ntmps200
  go_wp2
  go_ret
  exact ⟨rfl, rfl⟩
/-- '(*sync/atomic.Bool).Store(true)', entered as a deferred call: the cell holds 1. -/
theorem boolStore_def (a : Addr) (x : Value) (u : FrameMode) (w : World) (hc : w.cell? a = some x) (hz : w.frozen? a = false) :
    CallsD Tryz.prog 215 #[.pointer (some a), .bool true] u w fun e u' w' => u' = u ∧ (e = .returned (.tuple #[]) ∧ w' = w.drew.setCell a (.int .u32 1)) := by
  have hc' : w.drew.cell? a = some x := by go_simp
  have hz' : w.drew.frozen? a = false := by go_simp
  have hst := run_call_store (P := Tryz.prog) Tryz.func223 (by kernel_rfl) (by kernel_rfl) (by kernel_rfl) (by kernel_rfl) (k := .u32) (y := 1) hc' hz'
  go_enter_d Tryz.func215, Tryz.ntmps215
  go_wp2
  go_region_calls
  all_goals (go_end0; exact ⟨rfl, rfl⟩)
/-- a once's cells in the block b, and what follows them -/
def OnceAt (w : World) (b : Nat) (d m : Int) (x : Value) (T : TypeId) : Prop := w.heap[b]? = some (.cells #[.int .u32 d, .int .i32 m, .int .u32 0, x] T (0, 0))
theorem OnceAt.cells {w : World} {b : Nat} {d m : Int} {x : Value} {T : TypeId} (h : OnceAt w b d m x T) : w.cell? ⟨b, 0, none⟩ = some (.int .u32 d) ∧ w.cell? ⟨b, 1, none⟩ = some (.int .i32 m) ∧ w.cell? ⟨b, 3, none⟩ = some x ∧ (∀ i, w.frozen? ⟨b, i, none⟩ = false) ∧ b < w.heap.size := by
  obtain ⟨hc, hf⟩ := heap_cellR h
  exact ⟨hc 0, hc 1, hc 3, hf, blkLt h⟩
set_option maxRecDepth 100000 in
set_option maxHeartbeats 1600000 in
/-- '(*sync.Once).doSlow', not yet done, the lock free: the function is called with the lock held. -/
theorem doSlow_any (b : Nat) (K : FuncId) (p : Value) (x : Value) (T : TypeId) (w : World) (R : Value → World → Prop) (h : OnceAt w b 0 0 x T) (hK : ∀ (args : Array Value) (W : World), (callFunc K args).run Tryz.prog W = .ok (.enter K args) W)
    (HF : Calls Tryz.prog K #[p] (w.setCell ⟨b, 1, none⟩ (.int .i32 1)) fun e w' => e = .returned (.tuple #[]) ∧ ∃ y, OnceAt w' b 0 1 y T ∧ R y w') :
    Calls Tryz.prog 201 #[.pointer (some ⟨b, 0, none⟩), .func (.func K) #[p] #[]] w fun e w' => e = .returned (.tuple #[]) ∧ ∃ y w2, R y w2 ∧ OnceAt w2 b 0 1 y T ∧ w' = (w2.drew.setCell ⟨b, 0, none⟩ (.int .u32 1)).setCell ⟨b, 1, none⟩ (.int .i32 0) := by
  obtain ⟨h0, h1, h3, hf, hlt⟩ := h.cells
  have HFh := Lib.hid HF
  have HK := Lib.hid hK
  clear HF hK h
  have h0' : (w.setCell ⟨b, 1, none⟩ (.int .i32 1)).cell? ⟨b, 0, none⟩ = some (.int .u32 0) := (World.cell?_setCell_other _ ⟨b, 1, none⟩ ⟨b, 0, none⟩ _ (by simp)).trans h0
  have HLd := Lib.hid (boolLoad_any ⟨b, 0, none⟩ 0 (w.setCell ⟨b, 1, none⟩ (.int .i32 1)) h0')
  have HLk := Lib.hid (lock_any ⟨b, 1, none⟩ w h1 (hf 1))
  go_enter_defers Tryz.func201, Tryz.ntmps201
  go_wp2_with fail
  refine HLk.out.mono ?_
  rintro e w' ⟨rfl, rfl⟩
  go_wp2_with fail
  refine HLd.out.mono ?_
  rintro e w' ⟨rfl, rfl⟩
  go_wp2_with fail
  rw [HK.out]
  refine HFh.out.mono ?_
  rintro e w2 ⟨rfl, y, hO, hR⟩
  obtain ⟨g0, g1, g3, gf, glt⟩ := hO.cells
  go_wp2_with fail
  refine leaves_cons (f := 215) (args := #[.pointer (some ⟨b, 0, none⟩), .bool true]) (by simp) (by simp [go_sem]) ?_
  refine (boolStore_def ⟨b, 0, none⟩ (.int .u32 0) .returning w2 g0 (gf 0)).mono ?_
  rintro e u' w'' ⟨rfl, rfl, rfl⟩
  refine leaves_cons (f := 214) (args := #[.pointer (some ⟨b, 1, none⟩)]) (by simp [settle]) (by simp [go_sem]) ?_
  refine (unlock_def ⟨b, 1, none⟩ _ _ ?_ ?_).mono ?_
  · exact (World.cell?_setCell_other _ ⟨b, 0, none⟩ ⟨b, 1, none⟩ _ (by simp)).trans (by rw [World.cell?_drew]; exact g1)
  · simp [gf 1]
  rintro e u' w'' ⟨rfl, rfl, rfl⟩
  exact ⟨.tuple #[], by simp [results, Tryz.results201, go_sem], rfl, y, w2, hR, hO, rfl⟩

/-- '(*sync.Once).Do', already done: nothing happens. -/
theorem do_done (b : Nat) (d : Int) (f : Value) (w : World) (hc : w.cell? ⟨b, 0, none⟩ = some (.int .u32 d)) (hd : d ≠ 0) :
    Calls Tryz.prog 185 #[.pointer (some ⟨b, 0, none⟩), f] w fun e w' => e = .returned (.tuple #[]) ∧ w' = w := by
  have HLd := Lib.hid (boolLoad_any ⟨b, 0, none⟩ d w hc)
  have e0 : (d != 0) = true := by simpa using hd
  go_enter Tryz.func185, Tryz.ntmps185
  go_wp2_with fail
  refine HLd.out.mono ?_
  rintro e w' ⟨rfl, rfl⟩
  rw [e0]
  go_wp2_with fail
  go_end0
  exact ⟨rfl, rfl⟩
/-- '(*sync.Once).Do', not yet done. -/
theorem do_first (b : Nat) (K : FuncId) (p : Value) (x : Value) (T : TypeId) (w : World) (R : Value → World → Prop) (h : OnceAt w b 0 0 x T) (hK : ∀ (args : Array Value) (W : World), (callFunc K args).run Tryz.prog W = .ok (.enter K args) W)
    (HF : Calls Tryz.prog K #[p] (w.setCell ⟨b, 1, none⟩ (.int .i32 1)) fun e w' => e = .returned (.tuple #[]) ∧ ∃ y, OnceAt w' b 0 1 y T ∧ R y w') :
    Calls Tryz.prog 185 #[.pointer (some ⟨b, 0, none⟩), .func (.func K) #[p] #[]] w fun e w' => e = .returned (.tuple #[]) ∧ ∃ y w2, R y w2 ∧ OnceAt w2 b 0 1 y T ∧ w' = (w2.drew.setCell ⟨b, 0, none⟩ (.int .u32 1)).setCell ⟨b, 1, none⟩ (.int .i32 0) := by
  have HLd := Lib.hid (boolLoad_any ⟨b, 0, none⟩ 0 w h.cells.1)
  have HS := Lib.hid (doSlow_any b K p x T w R h hK HF)
  clear HF hK h
  go_enter Tryz.func185, Tryz.ntmps185
  go_wp2_with fail
  refine HLd.out.mono ?_
  rintro e w' ⟨rfl, rfl⟩
  go_wp2_with fail
  refine HS.out.mono ?_
  rintro e w' ⟨rfl, y, w2, hR, hO, rfl⟩
  go_wp2_with fail
  go_end0
  exact ⟨rfl, y, w2, hR, hO, rfl⟩

end Go.Proofs.YtlcglclojlffgaaGreatDoor
namespace Go.Proofs.YtlcglclojlffgaaGreatDoor
open Go.RowKit

/-- what an append of one family leaves -/
theorem append_run (W : World) (ty : TypeId) (base : Nat) (v : Value) (xs : List FmR) (y : FmR) (hown : fmE.Own W base v xs) (g : Nat) (C : Array Value)
    (hg : W.heap[g]? = some (.cells C 123 (0, 0))) (hC : C.toList = fmE.enc y) (hl : xs.length ≤ 1000000000) (hb : base ≤ W.heap.size) :
    ∃ v9 w9, (Builtin.append_ #[141, 141] ty #[v, .slice (some ⟨g, 0, none⟩) 1 1]).run Tryz.prog W = .ok v9 w9 ∧ fmE.Own w9 base v9 (xs ++ [y]) ∧ W.grownBy w9 v.ownBlock ∧ Below base W w9 := by
  obtain ⟨i0, hi, y0, y1, y2⟩ := info_parts infoFm
  obtain ⟨v9, w9, h1, h2, h3, -⟩ := run_append_own (P := Tryz.prog) W base 141 ty 123 i0 _ 8 104 Tryz.underlying141 hi y0 y1 y2 rfl (by decide) v xs.length (xs.flatMap fmE.enc) hown ⟨g, 0, none⟩ 1 1 (fmE.enc y) rfl (fmE.new_at hg hC) (fmE.one y) (by unfold maxLen; omega) (by omega) hb
  exact ⟨v9, w9, h1, Enc.Own.snoc h2, h3, below_of_grownBy h3 hb (fun k hk => hown.lo k hk)⟩

theorem append_leaves {P : Program} {o : Oper} {a : Act} {W : World} {R : Value → World → Prop} (s x : Operand) (t : TypeId) (ho : o.op = .call { callee := .builtin .append, args := #[s, x], argTypes := #[t, t] })
    {v sl v9 : Value} {w9 : World} (hs : a.eval s = v) (hx : a.eval x = sl) (hr : (Builtin.append_ #[t, t] o.type #[v, sl]).run P W = .ok v9 w9) (h : R v9 w9) : leaves P o a W R := by
  unfold leaves execOp
  simp only [ho, resolve, invoke, builtin, Sem.run_bind, Sem.run_pure, Result.andThen_ok, List.map_toArray, List.map_cons, List.map_nil, hs, hx, hr]
  exact h
def spT (p : Value → Prop) : Sp (fun _ _ : World => True) := ⟨fun u _ => p u, fun _ _ _ _ h => h⟩
def St3 (W0 W1 w9 : World) (L : Nat → Bool) (W : World) : Prop :=
  (L 13 = true → L 12 = true) ∧ ((L 12 = false ∧ W = W0) ∨ (L 12 = true ∧ L 13 = false ∧ W = W1) ∨ (L 13 = true ∧ W = w9))
theorem St3.any {W0 W1 w9 : World} {L : Nat → Bool} {W : World} (h : St3 W0 W1 w9 L W) : W = W0 ∨ W = W1 ∨ W = w9 := by
  rcases h.2 with h | h | h
  · exact .inl h.2
  · exact .inr (.inl h.2.2)
  · exact .inr (.inr h.2)
theorem St3.same {W0 W1 w9 : World} {L : Nat → Bool} {W : World} (h : St3 W0 W1 w9 L W) (i : Nat) (hi : i ≠ 12) (hj : i ≠ 13) : St3 W0 W1 w9 (fun j => L j || i == j) W := by
  have e1 : (i == 12) = false := by simpa using hi
  have e2 : (i == 13) = false := by simpa using hj
  simpa only [St3, e1, e2, Bool.or_false] using h
set_option maxRecDepth 100000 in
set_option maxHeartbeats 2000000 in
/-- the closure 'add' of '(*shelf).build' -/
theorem addFm_any (b0 b base : Nat) (T0 T : TypeId) (v : Value) (xs : List FmR) (y : FmR) (S k g : Nat) (hS : S = 2 ^ k) (hL : Least k g) (hy : y.f.fp = 2 ∧ y.f.fk = k ∧ y.f.fg = g) (w : World)
    (h0 : w.heap[b0]? = some (.cells #[.pointer (some ⟨b, 0, none⟩)] T0 (0, 0))) (h1 : OnceAt w b 0 1 v T) (hb0 : b0 < base) (hb : b < base) (_hbb : b0 ≠ b) (hbase : base ≤ w.heap.size) (ho : fmE.Own w base v xs) (hl : xs.length ≤ 100) :
    Calls Tryz.prog 202 #[.string y.f.name, .int .i64 y.f.kind, .int .i64 S, .int .i64 y.f.cols, .slice (some ⟨y.b1, 0, none⟩) y.f.sizes.length y.f.sizes.length, .slice (some ⟨y.b2, 0, none⟩) y.f.levels.length y.f.levels.length, .pointer (some ⟨b0, 0, none⟩)] w
      fun e w' => e = .returned (.tuple #[]) ∧ ∃ v', fmE.Own w' base v' (xs ++ [y]) ∧ OnceAt w' b 0 1 v' T ∧ Below 0 w w' ∧ w.heap.size ≤ w'.heap.size ∧ ∀ j, j < w.heap.size → j ≠ b → v.ownBlock ≠ some j → w'.heap[j]? = w.heap[j]? := by
  obtain ⟨y1, y2, y3⟩ := hy
  have HF := Lib.hid (fieldOf_any S k g hS hL w)
  have H0 := Lib.hid h0
  have H1 := Lib.hid h1
  have HO := Lib.hid ho
  clear hS hL h0 h1 ho
  go_enter Tryz.func202, Tryz.ntmps202
  go_wp2_with fail
  refine HF.out.mono ?_
  rintro e w1 ⟨rfl, hb1⟩
  go_wp2_with fail
  have hz := push_at w1 (.cells #[.int .i64 2, .int .i64 k, .int .i64 g] 121 (0, 0))
  have hz1 := ba1 w1 (.cells #[.int .i64 2, .int .i64 k, .int .i64 g] 121 (0, 0))
  try generalize w1.alloc (.cells #[.int .i64 2, .int .i64 k, .int .i64 g] 121 (0, 0)) = w2 at hz hz1 ⊢
  have hB : Below w.heap.size w w2.drew := (hb1.trans (hz1.mono hb1.size)).drew
  obtain ⟨q, hq⟩ : ∃ q, q = w1.heap.size := ⟨_, rfl⟩
  have hqw : w.heap.size ≤ q := by rw [hq]; exact hb1.size
  rw [← hq] at hz ⊢
  clear hq hz1 hb1
  obtain ⟨W0, hW0⟩ : ∃ W0, W0 = w2.drew := ⟨_, rfl⟩
  have hz0 : W0.heap[q]? = some (.cells #[.int .i64 2, .int .i64 k, .int .i64 g] 121 (0, 0)) := by rw [hW0]; exact hz
  have HW0 := Lib.hid hW0
  rw [← hW0] at hB
  clear hz hW0
  obtain ⟨C, hC⟩ : ∃ C : Array Value, C = #[.string y.f.name, .int .i64 y.f.kind, .int .i64 2, .int .i64 k, .int .i64 g, .slice (some ⟨y.b1, 0, none⟩) y.f.sizes.length y.f.sizes.length, .int .i64 y.f.cols, .slice (some ⟨y.b2, 0, none⟩) y.f.levels.length y.f.levels.length] := ⟨_, rfl⟩
  obtain ⟨W1, hW1⟩ : ∃ W1, W1 = W0.alloc (.cells C 123 (0, 0)) := ⟨_, rfl⟩
  have hB01 : Below W0.heap.size W0 W1 := by rw [hW1]; exact ba1 _ _
  have hB1 : Below w.heap.size w W1 := hB.trans (hB01.mono hB.size)
  have hg1 : W1.heap[W0.heap.size]? = some (.cells C 123 (0, 0)) := by rw [hW1]; exact push_at _ _
  have ho1 : fmE.Own W1 base v xs := HO.out.grown hB1
  have hs1 := hB1.size
  have hs0 := hB.size
  have hs01 := hB01.size
  obtain ⟨v9, w9, hr, ho9, hgr, hb9⟩ := append_run W1 141 base v xs y ho1 W0.heap.size C hg1 (by rw [hC]; simp [fmE, y1, y2, y3]) (by omega) (by omega)
  have hqlt : q < W0.heap.size := blkLt hz0
  have hown : ∀ j, v.ownBlock = some j → j < w.heap.size := fun j e => HO.out.hi j e
  have HC := Lib.hid (show ∀ W, (W = W0 ∨ W = W1 ∨ W = w9) → W.heap[b0]? = some (.cells #[.pointer (some ⟨b, 0, none⟩)] T0 (0, 0)) ∧ OnceAt W b 0 1 v T ∧ W.heap[q]? = some (.cells #[.int .i64 2, .int .i64 k, .int .i64 g] 121 (0, 0)) by
    have h1a := (hB1.block b0 (by omega)).trans H0.out
    have h1b := (hB1.block b (by omega)).trans H1.out
    have h1q := (hB01.block q hqlt).trans hz0
    rintro W (rfl | rfl | rfl)
    · exact ⟨(hB.block b0 (by omega)).trans H0.out, (hB.block b (by omega)).trans H1.out, hz0⟩
    · exact ⟨h1a, h1b, h1q⟩
    · exact ⟨(hb9.block b0 hb0).trans h1a, (hb9.block b hb).trans h1b, (hgr.block q (by omega) (fun e => by have := hown q e.symm; omega)).trans h1q⟩)
  have HR := Lib.hid hr
  have HW1 := Lib.hid hW1
  have HCC := Lib.hid hC
  clear hr hW1 hC hz0 hB01 hg1 ho1
  refine wp_region_once [20, 21, 22, 23, 24, 25, 26, 27, 28, 29, 30, 31, 32, 33] (fun us => _)
    [spT (· = .pointer (some ⟨b, 0, none⟩)), spT (· = .pointer (some ⟨b, 0, none⟩)), spT (· = .pointer (some ⟨b, 0, none⟩)), spT (· = .pointer (some ⟨b, 3, none⟩)), spT (· = v), spT (· = .string y.f.name), spT (· = .int .i64 y.f.kind), spT (· = .agg #[.int .i64 2, .int .i64 k, .int .i64 g]),
     spT (· = .slice (some ⟨y.b1, 0, none⟩) y.f.sizes.length y.f.sizes.length), spT (· = .int .i64 y.f.cols), spT (· = .slice (some ⟨y.b2, 0, none⟩) y.f.levels.length y.f.levels.length), spT (· = .agg C), spT (· = .slice (some ⟨W0.heap.size, 0, none⟩) 1 1), spT (· = v9)]
    (St3 W0 W1 w9) (by kernel_rfl) (by kernel_rfl) (Nat.le_of_ble_eq_true rfl) (fun us => by simp [over, List.mapIdx_cons]; exact rfl) ⟨fun h => by simp at h, .inl ⟨rfl, HW0.out.symm⟩⟩ (fun _ => trivial) ?_ ?_
  · refine ⟨?_, ?_, ?_, ?_, ?_, ?_, ?_, ?_, ?_, ?_, ?_, ?_, ?_, ?_, trivial⟩
    all_goals (intro us W L hL hst hd; refine ⟨by kernel_rfl, wp_of_leaves (R := fun v w' => _) (fun v w' h => ⟨v, rfl, h⟩) ?_⟩; dsimp only)
    · have hc := (heap_cellR (HC.out W hst.any).1).1
      clear hd
      go_simp
      exact ⟨hst.same 0 (by decide) (by decide), rfl⟩
    · have hc := (heap_cellR (HC.out W hst.any).1).1
      clear hd
      go_simp
      exact ⟨hst.same 1 (by decide) (by decide), rfl⟩
    · have d21 : us 21 = (.pointer (some ⟨b, 0, none⟩)) := (hd ⟨1, .data⟩ (by simp) rfl).2
      clear hd
      go_simp
      exact ⟨hst.same 2 (by decide) (by decide), rfl⟩
    · have d22 : us 22 = (.pointer (some ⟨b, 0, none⟩)) := (hd ⟨2, .data⟩ (by simp) rfl).2
      clear hd
      go_simp
      exact ⟨hst.same 3 (by decide) (by decide), rfl⟩
    · have d23 : us 23 = (.pointer (some ⟨b, 3, none⟩)) := (hd ⟨3, .data⟩ (by simp) rfl).2
      have hc := (HC.out W hst.any).2.1.cells.2.2.1
      clear hd
      go_simp
      exact ⟨hst.same 4 (by decide) (by decide), rfl⟩
    · clear hd
      go_simp
      exact ⟨hst.same 5 (by decide) (by decide), rfl⟩
    · clear hd
      go_simp
      exact ⟨hst.same 6 (by decide) (by decide), rfl⟩
    · have hc := (heap_cellR (HC.out W hst.any).2.2).1
      clear hd
      go_simp
      exact ⟨hst.same 7 (by decide) (by decide), rfl⟩
    · clear hd
      go_simp
      exact ⟨hst.same 8 (by decide) (by decide), rfl⟩
    · clear hd
      go_simp
      exact ⟨hst.same 9 (by decide) (by decide), rfl⟩
    · clear hd
      go_simp
      exact ⟨hst.same 10 (by decide) (by decide), rfl⟩
    · have d25 : us 25 = (.string y.f.name) := (hd ⟨5, .data⟩ (by simp) rfl).2
      have d26 : us 26 = (.int .i64 y.f.kind) := (hd ⟨6, .data⟩ (by simp) rfl).2
      have d27 : us 27 = (.agg #[.int .i64 2, .int .i64 k, .int .i64 g]) := (hd ⟨7, .data⟩ (by simp) rfl).2
      have d28 : us 28 = (.slice (some ⟨y.b1, 0, none⟩) y.f.sizes.length y.f.sizes.length) := (hd ⟨8, .data⟩ (by simp) rfl).2
      have d29 : us 29 = (.int .i64 y.f.cols) := (hd ⟨9, .data⟩ (by simp) rfl).2
      have d30 : us 30 = (.slice (some ⟨y.b2, 0, none⟩) y.f.levels.length y.f.levels.length) := (hd ⟨10, .data⟩ (by simp) rfl).2
      rw [HCC.out]
      clear hd
      go_simp
      exact ⟨hst.same 11 (by decide) (by decide), rfl⟩
    · have d31 : us 31 = (.agg C) := (hd ⟨11, .data⟩ (by simp) rfl).2
      have e0 : W = W0 := by
        rcases hst.2 with h | h | h
        · exact h.2
        · rw [h.1] at hL; cases hL
        · rw [hst.1 h.1] at hL; cases hL
      have e13 : L 13 = false := by
        cases h : L 13
        · rfl
        · rw [hst.1 h] at hL; cases hL
      subst e0
      clear hd
      rw [HCC.out] at d31
      go_simp
      rw [← HCC.out, ← HW1.out]
      exact ⟨⟨fun h => by simp [e13] at h, .inr (.inl ⟨by simp, by simp [e13], rfl⟩)⟩, rfl⟩
    · have d24 : us 24 = (v) := (hd ⟨4, .data⟩ (by simp) rfl).2
      have d32 : us 32 = (.slice (some ⟨W0.heap.size, 0, none⟩) 1 1) := (hd ⟨12, .data⟩ (by simp) rfl).2
      have l12 : L 12 = true := (hd ⟨12, .data⟩ (by simp) rfl).1
      have e0 : W = W1 := by
        rcases hst.2 with h | h | h
        · rw [h.1] at l12; cases l12
        · exact h.2.2
        · rw [h.1] at hL; cases hL
      subst e0
      clear hd
      exact append_leaves (.tmp 24) (.tmp 32) 141 rfl ((show _ = us 24 from rfl).trans d24) ((show _ = us 32 from rfl).trans d32) HR.out ⟨⟨fun _ => by simp [l12], .inr (.inr ⟨by simp, rfl⟩)⟩, trivial, rfl⟩
  · intro us W L hL hst hd
    have d20 : us 20 = .pointer (some ⟨b, 0, none⟩) := hd 0 (by simp)
    have d33 : us 33 = v9 := hd 13 (by simp)
    have e0 : W = w9 := by
      rcases hst.2 with h | h | h
      · rw [hL 12 (by simp)] at h; cases h.1
      · rw [hL 13 (by simp)] at h; cases h.2.1
      · exact h.2
    subst e0
    clear hd hL hst
    simp only [List.drop, List.length]
    rw [d20, d33]
    obtain ⟨g0, g1, -⟩ := HC.out W (.inr (.inr rfl))
    have G1 := Lib.hid g1
    have hc3 := g1.cells.2.2.1
    have hf3 := g1.cells.2.2.2.1 3
    clear g1
    obtain ⟨a9, c9, rfl⟩ := ho9.read
    go_wp2_with fail
    go_end0
    have hl9 : (xs ++ [y]).length = xs.length + 1 := by simp
    refine ⟨rfl, .slice a9 (xs.length + 1) c9, ?_, src_set G1.out 3 _, ((hB1.mono (Nat.zero_le _)).trans (hb9.mono (Nat.zero_le _))).setCell (Nat.zero_le _) _, ?_, ?_⟩
    · rw [hl9] at ho9
      exact Enc.Own.src ho9 hb (grownBy_set _ _ _ _)
    · have h1 := hgr.size
      have h2 := (grownBy_set W b 3 (.slice a9 (xs.length + 1) c9)).size
      omega
    · intro j hj hjb hjo
      exact (heap_setCell_other _ ⟨b, 3, none⟩ j _ (fun e => hjb e)).trans ((hgr.block j (by omega) (fun e => hjo e.symm)).trans (hB1.block j hj))

end Go.Proofs.YtlcglclojlffgaaGreatDoor
namespace Go.Proofs.YtlcglclojlffgaaGreatDoor
open Go.RowKit

/-- a binary field that may have generators or not -/
structure FdB (F : Fd) : Prop where
  bin : F.bin = true
  k3 : 3 ≤ F.k
  k8 : F.k ≤ 8
  fit : F.Fit
theorem FdB.q {F : Fd} (h : FdB F) : F.q = 2 ^ F.k := (h.fit.bin h.bin).1
theorem FdB.q_bd {F : Fd} (h : FdB F) : 8 ≤ F.q ∧ F.q ≤ 256 := by
  rw [h.q]
  exact ⟨Nat.pow_le_pow_right (n := 2) (by omega) h.k3, Nat.pow_le_pow_right (n := 2) (by omega) h.k8⟩
theorem FdB.g_bd {F : Fd} (h : FdB F) : F.g < 512 := by
  have h1 := (h.fit.bin h.bin).2.2
  have h2 : 2 ^ (F.k + 1) ≤ 2 ^ 9 := Nat.pow_le_pow_right (by omega) (by have := h.k8; omega)
  omega
/-- a field as a value -/
abbrev fV (F : Fd) : Value := .agg #[.int .i64 2, .int .i64 (F.k : Int), .int .i64 (F.g : Int)]
theorem bit_test (x m : Nat) (hx : x < 2 ^ 62) : (bits .and .i64 ((x : Int) / 2 ^ m) 1 == 1) = x.testBit m := by
  have e : ((x : Int) / 2 ^ m) = ((x / 2 ^ m : Nat) : Int) := by push_cast; rfl
  have h : x / 2 ^ m ≤ x := Nat.div_le_self _ _
  rw [e, Nat.testBit_eq_decide_div_mod_eq]
  generalize x / 2 ^ m = q at *
  rw [andOne _ (by omega) (by omega)]
  by_cases h1 : q % 2 = 1
  · rw [decide_eq_true h1, beq_iff_eq]; omega
  · rw [decide_eq_false h1, beq_eq_false_iff_ne]; omega
theorem shl_lt {a m n d : Nat} (ha : a < 2 ^ n) (hm : m ≤ d) : a <<< m < 2 ^ (n + d) := by
  rw [Nat.shiftLeft_eq]
  calc a * 2 ^ m < 2 ^ n * 2 ^ m := Nat.mul_lt_mul_of_pos_right ha (Nat.pow_pos (by omega))
    _ = 2 ^ (n + m) := (Nat.pow_add ..).symm
    _ ≤ 2 ^ (n + d) := Nat.pow_le_pow_right (by omega) (by omega)
theorem wrap_nat (q : Nat) (h : q < 2 ^ 62) : wrap64 (q : Int) = q := by unfold wrap64; omega
theorem shl_nat (a m : Nat) (h : a <<< m < 2 ^ 62) : wrap64 ((a : Int) * 2 ^ m) = ((a <<< m : Nat) : Int) := by
  have e : ((a : Int) * 2 ^ m) = ((a <<< m : Nat) : Int) := by rw [Nat.shiftLeft_eq]; push_cast; rfl
  rw [e]; exact wrap_nat _ h
/-- a number and a shift added: as the machine does it -/
theorem xor_shl (c a m : Nat) (hc : c < 2 ^ 20) (ha : a <<< m < 2 ^ 20) : ∃ y z : Nat, wrap64 ((a : Int) * 2 ^ m) = (y : Int) ∧ bits .xor .i64 (c : Int) (y : Int) = (z : Int) ∧ z = c ^^^ (a <<< m) ∧ z < 2 ^ 20 :=
  ⟨_, _, shl_nat a m (Nat.lt_trans ha (by decide)), xor64 c (a <<< m) (Nat.lt_trans hc (by decide)) (Nat.lt_trans ha (by decide)), rfl, Nat.xor_lt_two_pow hc ha⟩
theorem clm_lt {a b : Nat} (ha : a < 2 ^ 8) : ∀ {n : Nat}, n ≤ 8 → clm a b n < 2 ^ 16
  | 0, _ => by simp [clm]
  | n + 1, h => by
    rw [clm]
    refine Nat.xor_lt_two_pow (clm_lt ha (by omega)) ?_
    split
    · exact shl_lt (n := 8) (d := 8) ha (by omega)
    · decide
theorem pow_small {k : Nat} (h : k ≤ 8) : wrap64 (2 ^ k) = ((2 ^ k : Nat) : Int) := by
  have h1 : 2 ^ k ≤ 2 ^ 8 := Nat.pow_le_pow_right (n := 2) (by omega) h
  have e : (2 ^ k : Int) = ((2 ^ k : Nat) : Int) := by push_cast; rfl
  rw [e]; exact wrap_nat _ (Nat.lt_of_le_of_lt h1 (by decide))
set_option maxRecDepth 100000 in
set_option maxHeartbeats 1000000 in
theorem spSize_any (F : Fd) (h : FdB F) (w : World) :
    Calls Tryz.prog 122 #[fV F] w fun e w' => e = .returned (.int .i64 (F.q : Int)) ∧ Below w.heap.size w w' := by
  have hq := h.q
  have hk := h.k8
  have hk3 := h.k3
  rw [hq, ← pow_small hk]
  clear hq h
  go_enter Tryz.func122, Tryz.ntmps122
  go_wp2_with fail
  go_ret
  exact ⟨rfl, ba1 _ _⟩
set_option maxRecDepth 100000 in
set_option maxHeartbeats 1000000 in
theorem spMul_any (F : Fd) (h : FdB F) (a b : Nat) (ha : a < F.q) (hb : b < F.q) (w : World) :
    Calls Tryz.prog 133 #[fV F, .int .i64 (a : Int), .int .i64 (b : Int)] w fun e w' => e = .returned (.int .i64 (F.mulB a b : Nat)) ∧ Below w.heap.size w w' := by
  have hq := h.q_bd
  have hk := h.k8
  have hk3 := h.k3
  have hg := h.g_bd
  have H := Lib.hid h
  clear h
  obtain ⟨k, hke⟩ : ∃ k, k = F.k := ⟨_, rfl⟩
  obtain ⟨g, hge⟩ : ∃ g, g = F.g := ⟨_, rfl⟩
  have HK := Lib.hid hke
  have HG := Lib.hid hge
  rw [fV, ← hke, ← hge]
  rw [← hke] at hk hk3
  rw [← hge] at hg
  clear hke hge
  go_enter Tryz.func133, Tryz.ntmps133
  go_wp2_with fail
  have hx := push_at w (.cells #[.int .i64 2, .int .i64 (k : Int), .int .i64 (g : Int)] 121 (0, 0))
  have HB0 := Lib.hid (ba1 w (.cells #[.int .i64 2, .int .i64 (k : Int), .int .i64 (g : Int)] 121 (0, 0)))
  obtain ⟨w1, hw1⟩ : ∃ w1, w1 = w.alloc (.cells #[.int .i64 2, .int .i64 (k : Int), .int .i64 (g : Int)] 121 (0, 0)) := ⟨_, rfl⟩
  rw [← hw1] at hx HB0 ⊢
  obtain ⟨hcA, hfA⟩ := heap_cellR hx
  have hltA := blkLt hx
  clear hw1 hx
  go_loopw [7, 8] (fun o i wr => ∃ m : Nat, m ≤ k ∧ i = .int .i64 m ∧ o = .int .i64 (clm a b m : Nat) ∧ wr = w1) (fun _ i _ => k - (intOf i).toNat)
  case atStart => exact ⟨0, Nat.zero_le _, rfl, rfl, rfl⟩
  case round =>
    obtain ⟨m, hm, rfl, rfl, rfl⟩ := hrel
    by_cases hlt : m < k
    · have hmi : (m : Int) < (k : Int) := by omega
      have hbt := bit_test b m (by omega)
      obtain ⟨y, z, hsn, hxr, hz, -⟩ := xor_shl (clm a b m) a m (Nat.lt_trans (clm_lt (a := a) (b := b) (n := m) (by omega) (by omega)) (by decide)) (Nat.lt_trans (shl_lt (n := 8) (d := 8) (by omega) (by omega)) (by decide))
      have HST := Lib.hid (show clm a b (m + 1) = clm a b m ^^^ (if b.testBit m then a <<< m else 0) from rfl)
      have HZ := Lib.hid hz
      clear hz
      cases hc : b.testBit m with
      | true =>
        rw [hc] at hbt HST
        clear hc
        go_wp2_with fail
        exact ⟨⟨m + 1, by omega, by push_cast; rfl, by rw [HST.out, if_pos rfl, HZ.out], trivial⟩, by simp [intOf]; omega⟩
      | false =>
        rw [hc] at hbt HST
        clear hc
        go_wp2_with fail
        exact ⟨⟨m + 1, by omega, by push_cast; rfl, by rw [HST.out, if_neg (by simp), Nat.xor_zero], trivial⟩, by simp [intOf]; omega⟩
    · obtain rfl : m = k := by omega
      have hmi : ¬ (m : Int) < (m : Int) := by omega
      have hc0 : clm a b m < 2 ^ 16 := clm_lt (by omega) hk
      obtain ⟨c, hce⟩ : ∃ c, c = clm a b m := ⟨_, rfl⟩
      have HC := Lib.hid (show redN m g (m + 1) c = F.mulB a b by rw [hce, Fd.mulB, HK.out, HG.out])
      rw [← hce] at hc0 ⊢
      clear hce
      go_wp2_with fail
      go_loopw [7, 9] (fun o i wq => ∃ j x : Nat, i = .int .i64 j ∧ o = .int .i64 x ∧ m ≤ j + 1 ∧ j ≤ 2 * m ∧ x < 2 ^ 20 ∧ redN m g (j + 1 - m) x = F.mulB a b ∧ wq = wr) (fun _ i _ => (intOf i).toNat)
      case atStart => exact ⟨2 * m, c, by push_cast; rfl, rfl, by omega, Nat.le_refl _, Nat.lt_trans hc0 (by decide), by rw [show 2 * m + 1 - m = m + 1 by omega]; exact HC.out, rfl⟩
      case round =>
        obtain ⟨j, x, rfl, rfl, hj1, hj2, hx, hred, rfl⟩ := hrel
        have HR := Lib.hid hred
        clear hred
        by_cases hj : m ≤ j
        · have hji : (m : Int) ≤ (j : Int) := by omega
          have hbt := bit_test x j (Nat.lt_trans hx (by decide))
          obtain ⟨y, z, hsn, hxr, hz, hz2⟩ := xor_shl x g (j - m) hx (Nat.lt_of_lt_of_le (shl_lt (n := 9) (d := 8) hg (by omega)) (by decide))
          have hjm : (j : Int) - (m : Int) = ((j - m : Nat) : Int) := by omega
          have HST := Lib.hid (show redN m g (j + 1 - m) x = redN m g (j - m) (if x.testBit j then x ^^^ (g <<< (j - m)) else x) by
            rw [show j + 1 - m = (j - m) + 1 by omega, redN, rstep, show m + (j - m) = j by omega])
          have HZ := Lib.hid hz
          clear hz
          cases hc : x.testBit j with
          | true =>
            rw [hc] at hbt HST
            clear hc
            go_wp2_with fail
            exact ⟨⟨j - 1, z, by go_num, rfl, by omega, by omega, hz2, by rw [show j - 1 + 1 - m = j - m by omega, HZ.out]; rw [← HR.out, HST.out, if_pos rfl], trivial⟩, by simp [intOf]; omega⟩
          | false =>
            rw [hc] at hbt HST
            clear hc
            go_wp2_with fail
            exact ⟨⟨j - 1, x, by go_num, rfl, by omega, by omega, hx, by rw [show j - 1 + 1 - m = j - m by omega]; rw [← HR.out, HST.out, if_neg (by simp)], trivial⟩, by simp [intOf]; omega⟩
        · have hji : ¬ (m : Int) ≤ (j : Int) := by omega
          have HE := Lib.hid (show x = F.mulB a b by have h1 := HR.out; rwa [show j + 1 - m = 0 by omega] at h1)
          go_wp2_with fail
          go_ret
          exact ⟨by rw [← HE.out]; rfl, HB0.out⟩

end Go.Proofs.YtlcglclojlffgaaGreatDoor
namespace Go.Proofs.YtlcglclojlffgaaGreatDoor
open Go.RowKit

/-- a valid binary field -/
structure FdR (F : Fd) : Prop extends FdB F where
  runs : F.Runs
theorem FV.r {p k g : Int} {F : Fd} (h : FV p k g F) : FdR F := ⟨⟨h.ok.bin, h.ok.k3, h.ok.k8, h.ok.fit⟩, h.ok.runs⟩
theorem FV.v {p k g : Int} {F : Fd} (h : FV p k g F) : Value.agg #[.int .i64 p, .int .i64 k, .int .i64 g] = fV F := by rw [h.ok.p, h.ok.k, h.ok.g]
theorem spMulR_any (F : Fd) (h : FdB F) (a b : Nat) (ha : a < F.q) (hb : b < F.q) (w : World) :
    Calls Tryz.prog 133 #[fV F, .int .i64 (a : Int), .int .i64 (b : Int)] w fun e w' => e = .returned (.int .i64 (F.mul a b : Nat)) ∧ Below w.heap.size w w' := by
  rw [show F.mul a b = F.mulB a b by simp [Fd.mul, h.bin]]
  exact spMul_any F h a b ha hb w
end Go.Proofs.YtlcglclojlffgaaGreatDoor
namespace Go.Proofs.YtlcglclojlffgaaGreatDoor
open Go.RowKit

theorem mulB_two {F : Fd} (h : FdB F) {x : Nat} (hx : x < F.q) : F.mul x 2 = F.T x := by
  have hk := h.k3
  have e : ∀ n, clm x 2 (n + 2) = x <<< 1 := fun n => by
    induction n with
    | zero => simp [clm, Nat.testBit_succ]
    | succ n ih =>
      rw [show n + 1 + 2 = (n + 2) + 1 by omega, clm, ih, if_neg, Nat.xor_zero]
      rw [Nat.testBit_lt_two_pow (Nat.lt_of_lt_of_le (show 2 < 2 ^ 2 by decide) (Nat.pow_le_pow_right (by omega) (by omega)))]
      simp
  obtain ⟨m, hm⟩ : ∃ m, F.k = m + 2 := ⟨F.k - 2, by omega⟩
  have hlt : x <<< 1 < 2 ^ (F.k + 1) := by rw [Nat.shiftLeft_eq, Nat.pow_succ]; have := h.q; omega
  rw [Fd.mul, if_pos h.bin, Fd.mulB, T_bin F h.bin]
  have e2 : clm x 2 F.k = x <<< 1 := by
    have := e m
    rwa [← hm] at this
  rw [e2, show F.k + 1 = 1 + F.k by omega, redN_low' _ _ 1 _ hlt]
  rfl
theorem pw_one {F : Fd} (h : FdB F) : F.pw 1 = 2 := by
  have hk := h.k3
  show F.T 1 = 2
  rw [T_bin F h.bin, rstep, if_neg]
  · rfl
  · rw [Nat.testBit_lt_two_pow (Nat.lt_of_lt_of_le (show 1 <<< 1 < 2 ^ 3 by decide) (Nat.pow_le_pow_right (by omega) hk))]
    simp
theorem runs_end {F : Fd} (h : FdB F) {n : Nat} (h1 : 1 ≤ n) (hn : n ≤ F.q) (hall : ∀ i, i < n → F.pw i ≠ 0 ∧ (0 < i → F.pw i ≠ 1)) (hx : F.pw n = 1 ∨ F.pw n = 0 ∨ n = F.q) :
    decide F.Runs = (decide (F.pw n = 1) && decide (n = F.q - 1)) := by
  have hq := h.q_bd
  by_cases hr : F.Runs
  · rw [decide_eq_true hr]
    obtain ⟨r1, r2⟩ := hr
    have hnq : n ≠ F.q := fun e => (hall (F.q - 1) (by omega)).2 (by omega) r2
    have hn2 : n = F.q - 1 := by
      apply Classical.byContradiction
      intro hne
      have := r1 n (by omega)
      rcases hx with h2 | h2 | h2
      · exact this.2 (by omega) h2
      · exact this.1 h2
      · exact hnq h2
    rw [hn2, r2]; simp
  · rw [decide_eq_false hr]
    symm
    rw [Bool.and_eq_false_iff]
    by_cases hp : F.pw n = 1
    · right
      rw [decide_eq_false]
      rintro rfl
      exact hr ⟨hall, hp⟩
    · left; rw [decide_eq_false hp]
set_option maxRecDepth 100000 in
set_option maxHeartbeats 2000000 in
theorem spRuns_any (F : Fd) (h : FdB F) (w : World) :
    Calls Tryz.prog 120 #[fV F, .int .i64 2] w fun e w' => e = .returned (.bool (decide F.Runs)) ∧ Below w.heap.size w w' := by
  have hq := h.q_bd
  have H := Lib.hid h
  clear h
  obtain ⟨R, hR⟩ : ∃ R, R = decide F.Runs := ⟨_, rfl⟩
  have HR := Lib.hid hR
  rw [← hR]
  clear hR
  go_enter Tryz.func120, Tryz.ntmps120
  go_wp2_with fail
  have hx := push_at w (.cells #[.int .i64 2, .int .i64 (F.k : Int), .int .i64 (F.g : Int)] 121 (0, 0))
  have HB0 := Lib.hid (ba1 w (.cells #[.int .i64 2, .int .i64 (F.k : Int), .int .i64 (F.g : Int)] 121 (0, 0)))
  obtain ⟨w1, hw1⟩ : ∃ w1, w1 = w.alloc (.cells #[.int .i64 2, .int .i64 (F.k : Int), .int .i64 (F.g : Int)] 121 (0, 0)) := ⟨_, rfl⟩
  rw [← hw1] at hx HB0 ⊢
  have HX1 := Lib.hid hx
  clear hw1 hx
  go_loopw [5, 6] (fun x m wr => ∃ n : Nat, 1 ≤ n ∧ n ≤ F.q ∧ m = .int .i64 n ∧ x = .int .i64 (F.pw n : Nat) ∧ (∀ i, i < n → F.pw i ≠ 0 ∧ (0 < i → F.pw i ≠ 1)) ∧ wr.heap[w.heap.size]? = some (.cells #[.int .i64 2, .int .i64 (F.k : Int), .int .i64 (F.g : Int)] 121 (0, 0)) ∧ Below w.heap.size w wr) (fun _ m _ => F.q - (intOf m).toNat)
  case atStart => exact ⟨1, Nat.le_refl _, by omega, rfl, by rw [pw_one H.out]; rfl, fun i hi => by
      obtain rfl : i = 0 := by omega
      exact ⟨by simp [Fd.pw], fun h => absurd h (by omega)⟩, HX1.out, HB0.out⟩
  case round =>
    obtain ⟨n, hn1, hn2, rfl, rfl, hall, hx, hb⟩ := hrel
    have HALL := Lib.hid hall
    have HX := Lib.hid hx
    have HB := Lib.hid hb
    obtain ⟨hcA, hfA⟩ := heap_cellR HX.out
    have hltA := blkLt HX.out
    obtain ⟨x, hxe⟩ : ∃ x, x = F.pw n := ⟨_, rfl⟩
    have HXE := Lib.hid hxe
    have hxq : x < F.q := by rw [hxe]; exact Fd.pw_lt H.out.fit n
    rw [← hxe]
    clear hx hb hall hxe
    by_cases hx1 : x = 1
    · subst hx1
      have HE := Lib.hid (show R = decide (n = F.q - 1) by
        rw [HR.out, runs_end H.out hn1 hn2 HALL.out (.inl HXE.out.symm), ← HXE.out]; simp)
      go_wp2_with fail
      refine (spSize_any F H.out wr).mono ?_
      rintro e w2 ⟨rfl, hb2⟩
      have HB2 := Lib.hid (bt0 HB.out hb2 (Nat.le_refl _))
      clear hb2
      go_wp2_with fail
      go_ret
      exact ⟨by rw [HE.out]; exact ret_bool (by rw [Bool.eq_iff_iff, beq_iff_eq, decide_eq_true_eq]; omega), HB2.out⟩
    · have hx1b : ((x : Int) != 1) = true := by rw [bne_iff_ne]; omega
      have hx1c : ((x : Int) == 1) = false := by rw [beq_eq_false_iff_ne]; omega
      by_cases hx0 : x = 0
      · have HE := Lib.hid (show R = false by
          rw [HR.out, runs_end H.out hn1 hn2 HALL.out (.inr (.inl (by rw [← HXE.out, hx0]))), ← HXE.out, decide_eq_false hx1]; rfl)
        have hx0b : ((x : Int) != 0) = false := by rw [bne_eq_false_iff_eq]; omega
        go_wp2_with fail
        go_ret
        exact ⟨by rw [HE.out]; rfl, HB.out⟩
      · have hx0b : ((x : Int) != 0) = true := by rw [bne_iff_ne]; omega
        go_wp2_with fail
        refine (spSize_any F H.out wr).mono ?_
        rintro e w2 ⟨rfl, hb2⟩
        have HX2 := Lib.hid (blkK hb2 HX.out)
        have HB2 := Lib.hid (bt0 HB.out hb2 (Nat.le_refl _))
        clear hb2 hcA hfA hltA
        by_cases hnq : n = F.q
        · have HE := Lib.hid (show R = false by
            rw [HR.out, runs_end H.out hn1 hn2 HALL.out (.inr (.inr hnq)), ← HXE.out, decide_eq_false hx1]; rfl)
          have hni : ¬ (n : Int) < (F.q : Int) := by omega
          go_wp2_with fail
          go_ret
          exact ⟨by rw [HE.out]; rfl, HB2.out⟩
        · have hni : (n : Int) < (F.q : Int) := by omega
          obtain ⟨hcA, hfA⟩ := heap_cellR HX2.out
          have hltA := blkLt HX2.out
          go_wp2_with fail
          refine (spMulR_any F H.out x 2 hxq (by omega) w2).mono ?_
          rintro e w3 ⟨rfl, hb3⟩
          have HX3 := Lib.hid (blkK hb3 HX2.out)
          have HB3 := Lib.hid (bt0 HB2.out hb3 (Nat.le_refl _))
          have HM := Lib.hid (show F.mul x 2 = F.pw (n + 1) by rw [mulB_two H.out hxq, HXE.out]; rfl)
          clear hb3
          go_wp2_with fail
          refine ⟨⟨n + 1, by omega, by omega, by push_cast; rfl, by rw [HM.out], fun i hi => ?_, HX3.out, HB3.out⟩, by simp [intOf]; omega⟩
          rcases Nat.lt_or_eq_of_le (show i ≤ n by omega) with h1 | rfl
          · exact HALL.out i h1
          · rw [← HXE.out]; exact ⟨hx0, fun _ => hx1⟩

end Go.Proofs.YtlcglclojlffgaaGreatDoor
