import Derived.Test.YtkmfgchbfchdbaaGreatDoorM0
import Derived.IntWalk
import Derived.ArgAppend
import Derived.BigQuiet
import Derived.Laws.AppendOwnNone
import Derived.Deep.RegionHeld3
import Derived.Lib.SlSplitV
import Derived.Lib.ConvBytes
import Derived.Deep.RegionWith
import Derived.Laws.BytesArg
namespace Go.Proofs.YtkmfgchbfchdbaaGreatDoor
open Go.RowKit

/-! A region that draws its order and holds one operation (number c) that changes what is said of the world: it is met once. It may leave by a panic. -/
variable {P : Program} {ops : Array Oper} {Q : Exit → Act → World → Prop}

/-- operation i waits for operation j, perhaps by way of others -/
def waits (ops : Array Oper) : Nat → Nat → Nat → Bool
  | 0, _, _ => false
  | f + 1, i, j => match ops[i]? with
    | none => false
    | some o => o.after.any fun e => Region.binds .any e && (e.on == j || waits ops f e.on j)
def rgOkO (ops : Array Oper) (m : Nat) (ds : List Nat) (sup : Nat → List Nat) : Bool :=
  (List.range ops.size).all fun j => match ops[j]? with
    | none => true
    | some o =>
      (decide (m ≤ j) || ((match o.dst with | some d => ds.contains d | none => true) &&
        (sup j).all fun t => (List.range ops.size).all fun i => match ops[i]? with
          | none => true
          | some oi => oi.dst != some t || i == j || o.after.any fun e => Region.binds .any e && e.on == i)) &&
      (decide (j < m) || (List.range j).all (fun i => waits ops ops.size j i)) && o.after.all fun e => !Region.binds .any e || decide (e.on < j)
theorem waits_first {f i j : Nat} {o : Oper} (ho : ops[i]? = some o) (h : waits ops f i j = true) : ∃ e ∈ o.after, Region.binds .any e = true ∧ (e.on = j ∨ ∃ f', waits ops f' e.on j = true) := by
  cases f with
  | zero => simp [waits] at h
  | succ f =>
    rw [waits, ho] at h
    obtain ⟨e, he, hee⟩ := Array.any_eq_true'.1 h
    simp only [Bool.and_eq_true, Bool.or_eq_true, beq_iff_eq] at hee
    exact ⟨e, he, hee.1, hee.2.imp id (fun h => ⟨f, h⟩)⟩
theorem waits_lt {m : Nat} {ds : List Nat} {sup : Nat → List Nat} (hB : rgOkO ops m ds sup = true) : ∀ (f i j : Nat), waits ops f i j = true → j < i
  | 0, i, j, h => by simp [waits] at h
  | f + 1, i, j, h => by
    cases ho : ops[i]? with
    | none => rw [waits, ho] at h; cases h
    | some o =>
      rw [waits, ho] at h
      obtain ⟨e, he, hee⟩ := Array.any_eq_true'.1 h
      simp only [Bool.and_eq_true, Bool.or_eq_true, beq_iff_eq] at hee
      have hlt : i < ops.size := (Array.getElem?_eq_some_iff.1 ho).1
      have := List.all_eq_true.1 hB i (List.mem_range.2 hlt)
      simp only [ho, Bool.and_eq_true] at this
      have h2 := Array.all_eq_true'.1 this.2 e he
      simp only [hee.1, Bool.not_true, Bool.or_eq_true, Bool.false_eq_true, false_or, decide_eq_true_eq] at h2
      rcases hee.2 with h3 | h3
      · omega
      · have := waits_lt hB f e.on j h3
        omega
theorem waits_listed {L : Nat → Bool} (hc : ∀ j o, ops[j]? = some o → L j = true → ∀ e ∈ o.after, Region.binds .any e = true → L e.on = true) : ∀ (f i j : Nat), waits ops f i j = true → L i = true → L j = true
  | 0, i, j, h, _ => by simp [waits] at h
  | f + 1, i, j, h, hi => by
    cases ho : ops[i]? with
    | none => rw [waits, ho] at h; cases h
    | some o =>
      rw [waits, ho] at h
      obtain ⟨e, he, hee⟩ := Array.any_eq_true'.1 h
      simp only [Bool.and_eq_true, Bool.or_eq_true, beq_iff_eq] at hee
      have h1 := hc i o ho hi e he hee.1
      rcases hee.2 with h3 | h3
      · rw [← h3]; exact h1
      · exact waits_listed hc f e.on j h3 h1

/-- the tail, in its one order -/
theorem wpAny_tailO {m : Nat} {ds : List Nat} {sup : Nat → List Nat} (hB : rgOkO ops m ds sup = true) : ∀ (r k : Nat) (listed : Array Bool) (a : Act) (w : World), m ≤ k → k + r = ops.size →
    (∀ j, j < ops.size → listed.getD j true = decide (j < k)) → listed.size = ops.size → ∀ fuel, r ≤ fuel → wpOps P ops Q (List.range' k r) a w → wpAny P .any ops Q fuel listed a w
  | 0, k, listed, a, w, hm, hk, hl, hs, fuel, hf, h => by
    have hr : Region.ready .any ops listed = [] := by
      rw [List.eq_nil_iff_forall_not_mem]
      intro j hj
      obtain ⟨h1, o, ho, _⟩ := mem_ready.1 hj
      have hlt : j < ops.size := (Array.getElem?_eq_some_iff.1 ho).1
      rw [hl j hlt] at h1
      simp at h1; omega
    have hq : Q .normal a w := h
    cases fuel with
    | zero => exact ⟨hr, hq⟩
    | succ f => exact ⟨fun _ => hq, fun i hi => by rw [hr] at hi; cases hi⟩
  | r + 1, k, listed, a, w, hm, hk, hl, hs, fuel, hf, h => by
    have hkn : k < ops.size := by omega
    have hready : ∀ j ∈ Region.ready .any ops listed, j = k := by
      intro j hj
      obtain ⟨h1, o, ho, hdep⟩ := mem_ready.1 hj
      have hlt : j < ops.size := (Array.getElem?_eq_some_iff.1 ho).1
      rw [hl j hlt] at h1
      have hjk : k ≤ j := by simpa using h1
      rcases Nat.lt_or_ge k j with hlt' | hge
      · exfalso
        have hb := List.all_eq_true.1 hB j (List.mem_range.2 hlt)
        simp only [ho, Bool.and_eq_true, Bool.or_eq_true, decide_eq_true_eq] at hb
        rcases hb.1.2 with hb2 | hb2
        · omega
        · have := List.all_eq_true.1 hb2 k (List.mem_range.2 hlt')
          obtain ⟨e, he, hbind, hee⟩ := waits_first ho this
          have hd := hdep e he hbind
          have hek : e.on = k := by
            rcases hee with h | ⟨f', h⟩
            · exact h
            · exfalso
              have h4 := waits_lt hB f' e.on k h
              have h5 : e.on < ops.size := by
                have := List.all_eq_true.1 hB j (List.mem_range.2 hlt)
                simp only [ho, Bool.and_eq_true] at this
                have h2 := Array.all_eq_true'.1 this.2 e he
                simp only [hbind, Bool.not_true, Bool.or_eq_true, Bool.false_eq_true, false_or, decide_eq_true_eq] at h2
                omega
              have h6 := hl e.on h5
              rw [getD_toList] at h6 hd
              rw [List.getD_eq_getElem?_getD] at h6 hd
              cases hx : listed.toList[e.on]? with
              | none => rw [hx] at hd; simp at hd
              | some b => rw [hx] at h6 hd; simp at h6 hd; rw [hd] at h6; simp at h6; omega
          rw [hek] at hd
          have := hl k hkn
          rw [getD_toList] at this hd
          rw [List.getD_eq_getElem?_getD] at this hd
          cases hx : listed.toList[k]? with
          | none => rw [hx] at hd; simp at hd
          | some b => rw [hx] at this hd; simp at this hd; rw [this] at hd; cases hd
      · omega
    cases fuel with
    | zero => omega
    | succ f =>
      refine ⟨fun h0 => ?_, fun i hi => ?_⟩
      · exfalso
        obtain ⟨o, ho⟩ : ∃ o, ops[k]? = some o := ⟨ops[k], Array.getElem?_eq_getElem hkn⟩
        have : k ∈ Region.ready .any ops listed := by
          refine mem_ready.2 ⟨?_, o, ho, ?_⟩
          · rw [hl k hkn]; simp
          · intro e he hbind
            have hb := List.all_eq_true.1 hB k (List.mem_range.2 hkn)
            simp only [ho, Bool.and_eq_true, Bool.or_eq_true, decide_eq_true_eq] at hb
            · have h2 := Array.all_eq_true'.1 hb.2 e he
              simp only [hbind, Bool.not_true, Bool.or_eq_true, Bool.false_eq_true, false_or, decide_eq_true_eq] at h2
              have := hl e.on (by omega)
              rw [getD_toList, List.getD_eq_getElem?_getD] at this ⊢
              cases hx : listed.toList[e.on]? with
              | none =>
                have := List.getElem?_eq_none_iff.1 hx
                simp [hs] at this; omega
              | some b => rw [hx] at this; simp at this; simp [this]; exact h2
        rw [h0] at this; cases this
      · obtain rfl := hready i hi
        rw [List.range'_succ, wpOps_cons] at h
        refine wpOp_mono (fun a' w' h' => ?_) h
        refine wpAny_tailO hB r (i + 1) _ a' w' (by omega) (by omega) ?_ (by simpa using hs) f (by omega) h'
        intro j hj
        by_cases e : i = j
        · subst e
          rw [getD_toList, Array.toList_setIfInBounds, List.getD_eq_getElem?_getD, List.getElem?_set]
          simp [hs, hj]
        · rw [getD_toList, Array.toList_setIfInBounds, List.getD_eq_getElem?_getD, List.getElem?_set, if_neg e, ← List.getD_eq_getElem?_getD, ← getD_toList, hl j hj]
          simp; omega


/-- what stands while the head is under way -/
structure UnderO (ops : Array Oper) (m : Nat) (a0 : Act) (ds : List Nat) (G : Nat → (Nat → Value) → World → Prop) (St : (Nat → Bool) → World → Prop) (listed : Array Bool) (a : Act) (w : World) : Prop where
  size : listed.size = ops.size
  tail : ∀ j, m ≤ j → j < ops.size → listed.getD j true = false
  closed : ∀ j o, ops[j]? = some o → listed.getD j false = true → ∀ e ∈ o.after, Region.binds .any e = true → listed.getD e.on false = true
  st : St (fun j => listed.getD j false) w
  left : ∃ us, a = over a0 ds us ∧ ∀ j, j < m → listed.getD j false = true → G j us w

/-- what one operation of the head owes: IN EVERY FRAME AND WORLD in which what it waits for stands, it leaves what is said of it, and does away with nothing -/
def OwesO (P : Program) (ops : Array Oper) (Q : Exit → Act → World → Prop) (a0 : Act) (ds : List Nat) (G : Nat → (Nat → Value) → World → Prop) (St : (Nat → Bool) → World → Prop) (Keep : World → World → Prop) (i : Nat) (o : Oper) : Prop :=
  ∀ (us : Nat → Value) (w : World) (L : Nat → Bool), L i = false → St L w → (∀ e ∈ o.after, Region.binds .any e = true → L e.on = true ∧ G e.on us w) →
    if Region.wanted o (yielded ops (over a0 ds us).tmps) then o.wp P (over a0 ds us) w (fun a' w' => ∃ v, a' = (over a0 ds us).put o.dst v ∧ St (fun j => L j || i == j) w' ∧ Keep w w' ∧ G i (upd us o.dst v) w') Q
    else St (fun j => L j || i == j) w ∧ G i (upd us o.dst undef) w

theorem wpAny_headO {m : Nat} {a0 : Act} {ds : List Nat} {sup : Nat → List Nat} {G : Nat → (Nat → Value) → World → Prop} {St : (Nat → Bool) → World → Prop} {Keep : World → World → Prop} (hB : rgOkO ops m ds sup = true) (hm : m ≤ ops.size)
    (hkeep : ∀ j us w w', j < m → Keep w w' → G j us w → G j us w') (hrefl : ∀ w, Keep w w) (hsup : ∀ j us us' w, j < m → (∀ t ∈ sup j, us t = us' t) → G j us w → G j us' w)
    (howe : ∀ i o, i < m → ops[i]? = some o → OwesO P ops Q a0 ds G St Keep i o)
    (hend : ∀ us w L, (∀ j, j < m → L j = true) → St L w → (∀ j, j < m → G j us w) → wpOps P ops Q (List.range' m (ops.size - m)) (over a0 ds us) w) :
    ∀ (fuel : Nat) (listed : Array Bool) (a : Act) (w : World), unl listed.toList ≤ fuel → UnderO ops m a0 ds G St listed a w → wpAny P .any ops Q fuel listed a w := by
  have hdepOk : ∀ j o, j < m → ops[j]? = some o → (∀ d, o.dst = some d → ds.contains d = true) ∧ ∀ t ∈ sup j, ∀ i oi, ops[i]? = some oi → oi.dst = some t → i = j ∨ ∃ e ∈ o.after, Region.binds .any e = true ∧ e.on = i := by
    intro j o hj ho
    have hlt : j < ops.size := (Array.getElem?_eq_some_iff.1 ho).1
    have hb := List.all_eq_true.1 hB j (List.mem_range.2 hlt)
    simp only [ho, Bool.and_eq_true, Bool.or_eq_true, decide_eq_true_eq] at hb
    rcases hb.1.1 with h | h
    · omega
    · refine ⟨?_, ?_⟩
      · intro d hd
        have := h.1
        rw [hd] at this
        exact this
      · intro t ht i oi hi hd
        have h2 := List.all_eq_true.1 (List.all_eq_true.1 h.2 t ht) i (List.mem_range.2 (Array.getElem?_eq_some_iff.1 hi).1)
        simp only [hi, Bool.or_eq_true, bne_iff_ne, beq_iff_eq, hd] at h2
        rcases h2 with (h2 | h2) | h2
        · exact absurd rfl h2
        · exact Or.inl h2
        · obtain ⟨e, he, hee⟩ := Array.any_eq_true'.1 h2
          simp only [Bool.and_eq_true, beq_iff_eq] at hee
          exact Or.inr ⟨e, he, hee.1, hee.2⟩
  have step : ∀ (fuel : Nat) (listed : Array Bool) (a : Act) (w : World), unl listed.toList ≤ fuel → UnderO ops m a0 ds G St listed a w →
      (∀ j, j < m → listed.getD j true = true) → wpAny P .any ops Q fuel listed a w := by
    intro fuel listed a w hf U hall
    obtain ⟨us, rfl, hG⟩ := U.left
    have hx : ∀ j, j < m → listed.getD j false = true := by
      intro j hj
      have := hall j hj
      rw [getD_toList, List.getD_eq_getElem?_getD] at this ⊢
      cases hy : listed.toList[j]? with
      | none =>
        have h1 := List.getElem?_eq_none_iff.1 hy
        have := U.size
        simp at h1; omega
      | some b => rw [hy] at this; simpa using this
    have hr : ops.size - m ≤ fuel := by
      refine Nat.le_trans ?_ hf
      have : ∀ (n : Nat) (l : List Bool), (∀ j, n ≤ j → j < l.length → l.getD j true = false) → l.length - n ≤ unl l := by
        intro n l
        induction l generalizing n with
        | nil => intro _; simp
        | cons b r ih =>
          intro hb
          cases n with
          | zero =>
            have h0 := hb 0 (Nat.le_refl _) (by simp)
            have h1 := ih 0 (fun j _ hj => by have := hb (j + 1) (by omega) (by simpa using hj); simpa using this)
            simp at h0
            subst h0
            simp [unl] at h1 ⊢; omega
          | succ n =>
            have h1 := ih n (fun j hj hj' => by have := hb (j + 1) (by omega) (by simpa using hj'); simpa using this)
            simp only [unl, List.length_cons]; omega
      have h2 := this m listed.toList (fun j hj hj' => by rw [← getD_toList]; exact U.tail j hj (by have := U.size; simp at hj'; omega))
      have := U.size
      simp at h2; omega
    refine wpAny_tailO hB (ops.size - m) m listed _ w (Nat.le_refl _) (by omega) ?_ U.size fuel hr (hend us w _ hx U.st (fun j hj => hG j hj (hx j hj)))
    intro j hj
    rcases Nat.lt_or_ge j m with h | h
    · rw [hall j h]; simp [h]
    · rw [U.tail j h hj]; simp; omega
  intro fuel
  induction fuel with
  | zero =>
    intro listed a w hf U
    exact step 0 listed a w hf U (fun j _ => by rw [getD_toList]; exact unl_zero _ (by omega) j)
  | succ fuel ih =>
    intro listed a w hf U
    by_cases hall : ∀ j, j < m → listed.getD j true = true
    · exact step _ listed a w hf U hall
    · obtain ⟨us, rfl, hG⟩ := U.left
      have hnot : ∃ j, j < m ∧ listed.getD j true = false := by
        apply Classical.byContradiction
        intro hn
        apply hall
        intro j hj
        cases hx : listed.getD j true with
        | true => rfl
        | false => exact absurd ⟨j, hj, hx⟩ hn
      refine ⟨fun h0 => ?_, fun i hi => ?_⟩
      · -- the least that is not listed may come up
        have least : ∀ n j, j ≤ n → j < m → listed.getD j true = false → False := by
          intro n
          induction n with
          | zero =>
            intro j hj hjm hjl
            obtain rfl : j = 0 := by omega
            obtain ⟨oj, hoj⟩ : ∃ oj, ops[0]? = some oj := ⟨ops[0], Array.getElem?_eq_getElem (by omega)⟩
            have : 0 ∈ Region.ready .any ops listed := mem_ready.2 ⟨hjl, oj, hoj, fun e he hbind => by
              have hb := List.all_eq_true.1 hB 0 (List.mem_range.2 (by omega))
              simp only [hoj, Bool.and_eq_true] at hb
              have h2 := Array.all_eq_true'.1 hb.2 e he
              simp only [hbind, Bool.not_true, Bool.or_eq_true, Bool.false_eq_true, false_or, decide_eq_true_eq] at h2
              omega⟩
            rw [h0] at this; cases this
          | succ n ihn =>
            intro j hj hjm hjl
            obtain ⟨oj, hoj⟩ : ∃ oj, ops[j]? = some oj := ⟨ops[j], Array.getElem?_eq_getElem (by omega)⟩
            have : j ∈ Region.ready .any ops listed := mem_ready.2 ⟨hjl, oj, hoj, fun e he hbind => by
              have hb := List.all_eq_true.1 hB j (List.mem_range.2 (by omega))
              simp only [hoj, Bool.and_eq_true] at hb
              have h2 := Array.all_eq_true'.1 hb.2 e he
              simp only [hbind, Bool.not_true, Bool.or_eq_true, Bool.false_eq_true, false_or, decide_eq_true_eq] at h2
              cases hx : listed.getD e.on true with
              | false => exact (ihn e.on (by omega) (by omega) hx).elim
              | true =>
                rw [getD_toList, List.getD_eq_getElem?_getD] at hx ⊢
                cases hy : listed.toList[e.on]? with
                | none =>
                  have h4 := List.getElem?_eq_none_iff.1 hy
                  have := U.size
                  simp at h4; omega
                | some b => rw [hy] at hx; simpa using hx⟩
            rw [h0] at this; cases this
        obtain ⟨j, hj, hjl⟩ := hnot
        exact (least j j (Nat.le_refl _) hj hjl).elim
      · obtain ⟨h1, o, ho, hdep⟩ := mem_ready.1 hi
        have hlt : i < ops.size := (Array.getElem?_eq_some_iff.1 ho).1
        have him : i < m := by
          rcases Nat.lt_or_ge i m with h | h
          · exact h
          · exfalso
            obtain ⟨j, hj, hjl⟩ := hnot
            have hb := List.all_eq_true.1 hB i (List.mem_range.2 hlt)
            simp only [ho, Bool.and_eq_true, Bool.or_eq_true, decide_eq_true_eq] at hb
            rcases hb.1.2 with hb2 | hb2
            · omega
            · have := List.all_eq_true.1 hb2 j (List.mem_range.2 (by omega))
              obtain ⟨e, he, hbind, hee⟩ := waits_first ho this
              have hd0 := hdep e he hbind
              have hd : listed.getD j false = true := by
                rcases hee with h | ⟨f', h⟩
                · rw [← h]; exact hd0
                · exact waits_listed (L := fun j => listed.getD j false) U.closed f' e.on j h hd0
              rw [getD_toList, List.getD_eq_getElem?_getD] at hd hjl
              cases hx : listed.toList[j]? with
              | none => rw [hx] at hd; simp at hd
              | some b => rw [hx] at hd hjl; simp at hd hjl; rw [hd] at hjl; cases hjl
        obtain ⟨hds, hdp⟩ := hdepOk i o him ho
        have hil : listed.toList[i]? = some false := by
          rw [getD_toList, List.getD_eq_getElem?_getD] at h1
          cases hx : listed.toList[i]? with
          | none => rw [hx] at h1; simp at h1
          | some b => rw [hx] at h1; simp at h1; rw [h1]
        have hdm : ∀ e ∈ o.after, Region.binds .any e = true → e.on < m := by
          intro e he hbind
          have hd := hdep e he hbind
          rcases Nat.lt_or_ge e.on m with h | h
          · exact h
          · exfalso
            rcases Nat.lt_or_ge e.on ops.size with h2 | h2
            · have := U.tail e.on h h2
              rw [getD_toList, List.getD_eq_getElem?_getD] at this hd
              cases hx : listed.toList[e.on]? with
              | none => rw [hx] at hd; simp at hd
              | some b => rw [hx] at hd this; simp at hd this; rw [hd] at this; cases this
            · rw [getD_toList, List.getD_eq_getElem?_getD, List.getElem?_eq_none (by have := U.size; simp; omega)] at hd
              simp at hd
        have hcb : (fun j => (listed.setIfInBounds i true).getD j false) = (fun j => listed.getD j false || i == j) := by
          funext c
          by_cases ec : i = c
          · subst ec
            rw [getD_toList, Array.toList_setIfInBounds, List.getD_eq_getElem?_getD, List.getElem?_set, if_pos rfl]
            have := (List.getElem?_eq_some_iff.1 hil).1
            rw [if_pos this]; simp
          · rw [getD_set_other ec]; simp [ec]
        have next : ∀ v w', St (fun j => listed.getD j false || i == j) w' → Keep w w' → G i (upd us o.dst v) w' → wpAny P .any ops Q fuel (listed.setIfInBounds i true) ((over a0 ds us).put o.dst v) w' := by
          intro v w' hst hk hg
          refine ih _ _ _ ?_ ⟨by simpa using U.size, ?_, ?_, by rw [hcb]; exact hst, upd us o.dst v, over_put hds, ?_⟩
          · have := unl_set listed.toList i hil
            rw [Array.toList_setIfInBounds]; omega
          · intro j hj hj'
            rw [getD_set_other (by omega)]; exact U.tail j hj hj'
          · intro j oj hoj hlj e he hbind
            by_cases ej : i = j
            · subst ej
              rw [ho] at hoj
              cases hoj
              exact getD_set_true (hdep e he hbind)
            · rw [getD_set_other ej] at hlj
              exact getD_set_true (U.closed j oj hoj hlj e he hbind)
          · intro j hj hlj
            by_cases ej : i = j
            · subst ej; exact hg
            · rw [getD_set_other ej] at hlj
              refine hsup j us _ w' hj (fun t ht => ?_) (hkeep j us w w' hj hk (hG j hj hlj))
              symm
              refine upd_ne (fun hd => ?_)
              have hjs : j < ops.size := by omega
              obtain ⟨oj, hoj⟩ : ∃ oj, ops[j]? = some oj := ⟨ops[j], Array.getElem?_eq_getElem hjs⟩
              rcases (hdepOk j oj hj hoj).2 t ht i o ho hd with h | ⟨e, he, hbind, heq⟩
              · exact ej h
              · have := U.closed j oj hoj hlj e he hbind
                rw [heq, getD_toList, List.getD_eq_getElem?_getD, hil] at this
                simp at this
        have howes := howe i o him ho us w (fun j => listed.getD j false) (by rw [getD_toList, List.getD_eq_getElem?_getD, hil]; rfl) U.st (fun e he hbind => ⟨hdep e he hbind, hG e.on (hdm e he hbind) (hdep e he hbind)⟩)
        unfold wpOp
        rw [ho]
        simp only
        by_cases hw : Region.wanted o (yielded ops (over a0 ds us).tmps) = true
        · rw [if_pos hw] at howes ⊢
          refine Or.inl (Oper.wp_mono (fun a' w' h => ?_) howes)
          obtain ⟨v, rfl, hst, hk, hg⟩ := h
          exact next v w' hst hk hg
        · rw [if_neg hw] at howes ⊢
          exact next undef w howes.1 (hrefl w) howes.2


/-- the head's operations, one by one, each by its own walk -/
def rsAllO (P : Program) (l : List Oper) (Q : Exit → Act → World → Prop) (A : (Nat → Value) → Act) {Keep : World → World → Prop} (sp : List (Sp Keep)) (St : (Nat → Bool) → World → Prop) : Nat → List Oper → List (Sp Keep) → Prop
  | i, o :: r, s :: t => (∀ (us : Nat → Value) (w : World) (L : Nat → Bool), L i = false → St L w → (∀ e ∈ o.after, Region.binds .any e = true → L e.on = true ∧ depHolds l sp us w e.on) →
      Region.wanted o (yielded l.toArray (A us).tmps) = true ∧ o.wp P (A us) w (fun a' w' => ∃ v, a' = (A us).put o.dst v ∧ St (fun j => L j || i == j) w' ∧ Keep w w' ∧ s.holds v w') Q) ∧ rsAllO P l Q A sp St (i + 1) r t
  | _, _, _ => True

theorem rsAllO_at {P : Program} {l : List Oper} {Q : Exit → Act → World → Prop} {A : (Nat → Value) → Act} {Keep : World → World → Prop} {sp : List (Sp Keep)} {St : (Nat → Bool) → World → Prop} : ∀ (r : List Oper) (t : List (Sp Keep)) (k : Nat), rsAllO P l Q A sp St k r t → ∀ (i : Nat) (o : Oper) (s : Sp Keep), r[i]? = some o → t[i]? = some s →
    ∀ (us : Nat → Value) (w : World) (L : Nat → Bool), L (k + i) = false → St L w → (∀ e ∈ o.after, Region.binds .any e = true → L e.on = true ∧ depHolds l sp us w e.on) →
      Region.wanted o (yielded l.toArray (A us).tmps) = true ∧ o.wp P (A us) w (fun a' w' => ∃ v, a' = (A us).put o.dst v ∧ St (fun j => L j || (k + i) == j) w' ∧ Keep w w' ∧ s.holds v w') Q
  | [], _, _, _, i, o, s, h, _ => by simp at h
  | o' :: r, [], _, _, i, o, s, _, h => by simp at h
  | o' :: r, s' :: t, k, hall, 0, o, s, h, h2 => by
    simp at h h2; subst h; subst h2; exact hall.1
  | o' :: r, s' :: t, k, hall, i + 1, o, s, h, h2 => by
    have := rsAllO_at r t (k + 1) hall.2 i o s (by simpa using h) (by simpa using h2)
    rw [show k + 1 + i = k + (i + 1) by omega] at this
    exact this

/-- **A REGION THAT DRAWS ITS ORDER, one operation of which (number c) is met once and may panic.** -/
theorem wp_region_once {P : Program} {id : Nat} {l : List Oper} {Q : Exit → Act → World → Prop} {a0 : Act} {w0 : World} (ds : List Nat) (A : (Nat → Value) → Act) {Keep : World → World → Prop} (sp : List (Sp Keep)) (St : (Nat → Bool) → World → Prop)
    (hmix : P.follows .mixedOrders = true) (hB : rgOkO l.toArray sp.length ds (supOf l) = true) (hm : sp.length ≤ l.length) (hA : ∀ us, over a0 ds us = A us) (h0 : St (fun _ => false) w0.drew) (hrefl : ∀ w, Keep w w)
    (hall : rsAllO P l Q A sp St 0 (l.take sp.length) sp)
    (hend : ∀ us w L, (∀ j, j < sp.length → L j = true) → St L w → (∀ j, j < sp.length → depHolds l sp us w j) → wpList P l.toArray Q (l.drop sp.length) (A us) w) : (Code.region id l.toArray true).wp P Q a0 w0 := by
  refine wp_region_any hmix ?_
  refine wpAny_headO (a0 := a0) (ds := ds) (G := fun i us w => depHolds l sp us w i) (St := St) (Keep := Keep) hB (by simpa using hm) (fun j us w w' _ hk h => depHolds_kept hk h) hrefl (fun j us us' w _ he h => depHolds_sup he h) ?_ ?_ _ _ _ _ (by rw [Array.toList_replicate, unl_replicate]; exact Nat.le_refl _) ?_
  · intro i o hi ho us w L hb hst hd
    have ho1 : l[i]? = some o := by simpa using ho
    have ho' : (l.take sp.length)[i]? = some o := by rw [List.getElem?_take, if_pos hi]; exact ho1
    have hs : sp[i]? = some sp[i] := List.getElem?_eq_getElem hi
    have := rsAllO_at _ _ 0 hall i o sp[i] ho' hs us w L (by simpa using hb) hst hd
    rw [Nat.zero_add] at this
    rw [hA, if_pos this.1]
    refine Oper.wp_mono (fun a' w' h => ?_) this.2
    obtain ⟨v, ha, h1, h2, h3⟩ := h
    refine ⟨v, ha, h1, h2, ?_⟩
    unfold depHolds
    simp only [ho1, hs]
    cases hdst : o.dst with
    | none => trivial
    | some d => simpa [upd] using h3
  · intro us w L hL hst hg
    have := hend us w L hL hst hg
    rw [hA]
    have e := wpOps_eq_wpList (P := P) (ops := l.toArray) (Q := Q) (l.drop sp.length) sp.length (fun j => by simp [List.getElem?_drop])
    rw [List.length_drop] at e
    have e2 : l.toArray.size - sp.length = l.length - sp.length := by simp
    rw [e2, e]
    exact this
  · refine ⟨by simp, ?_, ?_, ?_, fun t => a0.tmps.getD t undef, ?_, ?_⟩
    · intro j _ hj
      rw [getD_toList, Array.toList_replicate, List.getD_eq_getElem?_getD, List.getElem?_replicate]
      simp at hj
      simp [hj]
    · intro j o _ hj
      rw [getD_toList, Array.toList_replicate, List.getD_eq_getElem?_getD, List.getElem?_replicate] at hj
      split at hj <;> simp at hj
    · have e : (fun j => (Array.replicate l.toArray.size false).getD j false) = (fun _ => false) := by
        funext c
        rw [getD_toList, Array.toList_replicate, List.getD_eq_getElem?_getD, List.getElem?_replicate]
        split <;> rfl
      rw [e]; exact h0
    · unfold over
      cases a0 with
      | mk tmps defers =>
        congr 1
        apply Array.ext_getElem?
        intro i
        rw [Array.getElem?_mapIdx]
        cases hx : tmps[i]? with
        | none => rfl
        | some v =>
          simp only [Option.map_some, Array.getD_eq_getD_getElem?, hx, Option.getD_some]
          split <;> rfl
    · intro j _ hj
      rw [getD_toList, Array.toList_replicate, List.getD_eq_getElem?_getD, List.getElem?_replicate] at hj
      split at hj <;> simp at hj

end Go.Proofs.YtkmfgchbfchdbaaGreatDoor
namespace Go.Proofs.YtkmfgchbfchdbaaGreatDoor
open Go.RowKit

/-- **A REGION THAT DRAWS ITS ORDER, as wp_region_rs; the tail may wait for the head by way of others.** -/
theorem wp_region_rt {P : Program} {id : Nat} {l : List Oper} {Q : Exit → Act → World → Prop} {a0 : Act} {w0 : World} (ds : List Nat) (A : (Nat → Value) → Act) {Keep : World → World → Prop} (sp : List (Sp Keep)) (St : World → Prop)
    (hmix : P.follows .mixedOrders = true) (hB : rgOkO l.toArray sp.length ds (supOf l) = true) (hm : sp.length ≤ l.length) (hA : ∀ us, over a0 ds us = A us) (h0 : St w0.drew) (hrefl : ∀ w, Keep w w)
    (hall : rsAll P l A sp St (l.take sp.length) sp)
    (hend : ∀ us w, St w → (∀ j, j < sp.length → depHolds l sp us w j) → wpList P l.toArray Q (l.drop sp.length) (A us) w) : (Code.region id l.toArray true).wp P Q a0 w0 := by
  have hrg := rg_of_rs (P := P) (l := l) (A := A) (sp := sp) (St := St) (l.take sp.length) sp 0 (by rw [List.length_take]; omega) (fun j hj => by
      have : j < (l.take sp.length).length := by
        apply Classical.byContradiction
        intro h
        rw [List.getElem?_eq_none (by omega)] at hj; cases hj
      rw [List.length_take] at this
      rw [Nat.zero_add, List.getElem?_take, if_pos (by omega)]) (fun j hj => by
      rw [List.length_take] at hj
      rw [Nat.zero_add, List.getElem?_take, if_pos (by omega)]) (fun j _ => by simp) hall
  refine wp_region_any hmix ?_
  refine wpAny_headO (a0 := a0) (ds := ds) (G := fun i us w => depHolds l sp us w i) (St := fun _ => St) (Keep := Keep) hB (by simpa using hm) (fun j us w w' _ hk h => depHolds_kept hk h) hrefl (fun j us us' w _ he h => depHolds_sup he h) ?_ ?_ _ _ _ _ (by rw [Array.toList_replicate, unl_replicate]; exact Nat.le_refl _) ?_
  · intro i o hi ho us w L hb hst hd
    have ho' : (l.take sp.length)[i]? = some o := by rw [List.getElem?_take, if_pos hi]; simpa using ho
    have := rgAll_at _ 0 hrg i o ho' us w hst (fun e he hb => (hd e he hb).2)
    rw [Nat.zero_add] at this
    rw [hA]
    by_cases hw : Region.wanted o (yielded l.toArray (A us).tmps) = true
    · rw [if_pos hw] at this ⊢
      exact wp_of_leaves (fun v w' h => ⟨v, rfl, h.1, h.2.1, h.2.2⟩) this
    · rw [if_neg hw] at this ⊢
      exact ⟨hst, this⟩
  · intro us w L hL hst hg
    have := hend us w hst hg
    rw [hA]
    have e := wpOps_eq_wpList (P := P) (ops := l.toArray) (Q := Q) (l.drop sp.length) sp.length (fun j => by simp [List.getElem?_drop])
    rw [List.length_drop] at e
    have e2 : l.toArray.size - sp.length = l.length - sp.length := by simp
    rw [e2, e]
    exact this
  · refine ⟨by simp, ?_, ?_, h0, fun t => a0.tmps.getD t undef, ?_, ?_⟩
    · intro j _ hj
      rw [getD_toList, Array.toList_replicate, List.getD_eq_getElem?_getD, List.getElem?_replicate]
      simp at hj
      simp [hj]
    · intro j o _ hj
      rw [getD_toList, Array.toList_replicate, List.getD_eq_getElem?_getD, List.getElem?_replicate] at hj
      split at hj <;> simp at hj
    · unfold over
      cases a0 with
      | mk tmps defers =>
        congr 1
        apply Array.ext_getElem?
        intro i
        rw [Array.getElem?_mapIdx]
        cases hx : tmps[i]? with
        | none => rfl
        | some v =>
          simp only [Option.map_some, Array.getD_eq_getD_getElem?, hx, Option.getD_some]
          split <;> rfl
    · intro j _ hj
      rw [getD_toList, Array.toList_replicate, List.getD_eq_getElem?_getD, List.getElem?_replicate] at hj
      split at hj <;> simp at hj

end Go.Proofs.YtkmfgchbfchdbaaGreatDoor
namespace Go.Proofs.YtkmfgchbfchdbaaGreatDoor
open Go.RowKit

/-- n bytes at a, in blocks below base -/
def BytesAt (w : World) (base : Nat) (a : Option Addr) (n : Nat) : Prop :=
  ∀ i, i < n → ∃ b o z, a = some ⟨b, o, none⟩ ∧ b < base ∧ w.cell? ⟨b, o + i, none⟩ = some (.int .u8 z) ∧ 0 ≤ z ∧ z ≤ 255

theorem BytesAt.kept {w w' : World} {base : Nat} {a : Option Addr} {n : Nat} (h : BytesAt w base a n) (hb : ∀ k, k < base → w'.heap[k]? = w.heap[k]?) : BytesAt w' base a n := by
  intro i hi
  obtain ⟨b, o, z, ha, hlt, hc, hz⟩ := h i hi
  exact ⟨b, o, z, ha, hlt, by rw [World.cell?_of_block (w := w) (a := ⟨b, o + i, none⟩) (hb b hlt)]; exact hc, hz⟩

/-- block b is a source of drawn numbers -/
def SrcAt (w : World) (b : Nat) (a : Option Addr) (n c : Nat) (at_ seed : Int) (base : Nat) : Prop :=
  base ≤ b ∧ BytesAt w base a n ∧ w.heap[b]? = some (.cells #[.slice a n c, .int .i64 at_, .int .i64 seed] 115 (0, 0)) ∧ n ≤ 4096 ∧ 0 ≤ at_ ∧ at_ ≤ n ∧ 0 ≤ seed ∧ seed < 2147483647
def Src (w : World) (b : Nat) : Prop := ∃ a n c at_ seed base, SrcAt w b a n c at_ seed base

theorem Src.lt {w : World} {b : Nat} (h : Src w b) : b < w.heap.size := by
  obtain ⟨a, n, c, at_, seed, base, _, _, hb, _⟩ := h
  exact (Array.getElem?_eq_some_iff.1 hb).1

/-- a source stays one while other blocks are written or made -/
theorem Src.kept {w w' : World} {b : Nat} {row : Option Nat} (h : Src w b) (hg : w.grownBy w' row) (hne : ∀ k, row = some k → b < k) : Src w' b := by
  have hlt := h.lt
  obtain ⟨a, n, c, at_, seed, base, h1, h2, h3, h4⟩ := h
  refine ⟨a, n, c, at_, seed, base, h1, h2.kept (fun k hk => hg.block k (by omega) (fun e => by have := hne k e.symm; omega)), ?_, h4⟩
  rw [hg.block b hlt (fun e => by have := hne b e.symm; omega)]
  exact h3
theorem Src.below {w w' : World} {b : Nat} (h : Src w b) (hb : Below w.heap.size w w') : Src w' b :=
  h.kept (row := none) ⟨hb.os, hb.tape, hb.output, hb.size, fun k hk _ => hb.block k hk⟩ (fun k e => by cases e)

/-- a number is drawn -/
def RetNum (w : World) (b : Nat) (n : Int) (e : Ending) (w' : World) : Prop :=
  ∃ r : Int, e = .returned (.int .i64 r) ∧ 0 ≤ r ∧ (r < n ∨ r = 0) ∧ Src w' b ∧ w.grownBy w' (some b)

theorem RetNum.mk {w w' : World} {b : Nat} {n : Int} {a : Option Addr} {m c : Nat} {at_ seed at2 seed2 r : Int} {base : Nat} (h : SrcAt w b a m c at_ seed base)
    (h' : w'.heap[b]? = some (.cells #[.slice a m c, .int .i64 at2, .int .i64 seed2] 115 (0, 0))) (hg : w.grownBy w' (some b)) (h1 : 0 ≤ at2) (h2 : at2 ≤ m) (h3 : 0 ≤ seed2) (h4 : seed2 < 2147483647) (h5 : 0 ≤ r) (h6 : r < n ∨ r = 0) :
    RetNum w b n (.returned (.int .i64 r)) w' := by
  obtain ⟨q1, q2, q3, q4, _⟩ := h
  have hlt : b < w.heap.size := (Array.getElem?_eq_some_iff.1 q3).1
  exact ⟨r, rfl, h5, h6, ⟨a, m, c, at2, seed2, base, q1, q2.kept (fun k hk => hg.block k (by omega) (fun e => by have := Option.some.inj e; omega)), h', q4, h1, h2, h3, h4⟩, hg⟩

theorem src_set {w : World} {b : Nat} {C : Array Value} {t : TypeId} {fr : Nat × Nat} (h : w.heap[b]? = some (.cells C t fr)) (i : Nat) (v : Value) : (w.setCell ⟨b, i, none⟩ v).heap[b]? = some (.cells (C.setIfInBounds i v) t fr) := by
  rw [setCell_eq_setRow w b i C t fr v h]
  exact setRow_heap w b _ _ t _ h
theorem grownBy_set (w : World) (b i : Nat) (v : Value) : w.grownBy (w.setCell ⟨b, i, none⟩ v) (some b) :=
  ⟨rfl, rfl, rfl, by simp, fun k _ hk => heap_setCell_other w ⟨b, i, none⟩ k v (fun e => hk (by simp [e]))⟩

theorem grownBy_drewN (w : World) (k : Nat) (row : Option Nat) : w.grownBy (w.drewN k) row := ⟨rfl, rfl, rfl, Nat.le_refl _, fun _ _ _ => rfl⟩
theorem src_one {w : World} {b : Nat} {x0 x1 x2 v2 : Value} {t : TypeId} {fr : Nat × Nat} (h : w.heap[b]? = some (.cells #[x0, x1, x2] t fr)) (k : Nat) :
    ((w.setCell ⟨b, 2, none⟩ v2).drewN k).heap[b]? = some (.cells #[x0, x1, v2] t fr) ∧ w.grownBy ((w.setCell ⟨b, 2, none⟩ v2).drewN k) (some b) :=
  ⟨src_set h 2 v2, grownBy_trans (grownBy_set _ _ _ _) (grownBy_drewN _ _ _)⟩
theorem src_two {w : World} {b : Nat} {x0 x1 x2 v1 v2 : Value} {t : TypeId} {fr : Nat × Nat} (h : w.heap[b]? = some (.cells #[x0, x1, x2] t fr)) (k : Nat) :
    (((w.setCell ⟨b, 2, none⟩ v2).drewN k).setCell ⟨b, 1, none⟩ v1).heap[b]? = some (.cells #[x0, v1, v2] t fr) ∧ w.grownBy (((w.setCell ⟨b, 2, none⟩ v2).drewN k).setCell ⟨b, 1, none⟩ v1) (some b) :=
  ⟨src_set (src_one h k).1 1 v1, grownBy_trans (src_one h k).2 (grownBy_set _ _ _ _)⟩

set_option maxHeartbeats 1000000 in
theorem l01Next_any (b : Nat) (n : Int) (w : World) (hs : Src w b) (hn1 : -1152921504606846976 ≤ n) (hn2 : n ≤ 1152921504606846976) :
    Calls Tryz.prog 56 #[.pointer (some ⟨b, 0, none⟩), .int .i64 n] w (RetNum w b n) := by
  obtain ⟨a, m, c, at_, seed, base, HS⟩ := hs
  have HS' := HS
  obtain ⟨q1, q2, q3, q4, q5, q6, q7, q8⟩ := HS'
  have hc0 : w.cell? ⟨b, 0, none⟩ = some (.slice a m c) := by simp [World.cell?, q3]
  have hc1 : w.cell? ⟨b, 1, none⟩ = some (.int .i64 at_) := by simp [World.cell?, q3]
  have hc2 : w.cell? ⟨b, 2, none⟩ = some (.int .i64 seed) := by simp [World.cell?, q3]
  have hf1 : w.frozen? ⟨b, 1, none⟩ = false := by simp [World.frozen?, q3]
  have hf2 : w.frozen? ⟨b, 2, none⟩ = false := by simp [World.frozen?, q3]
  have HH := Lib.hid HS
  have HB := Lib.hid q3
  have HC := Lib.hid q2
  clear HS q3 q2
  by_cases h1 : n ≤ 1
  · go_enter Tryz.func56, Tryz.ntmps56
    go_wp2_with fail
    go_ret
    exact RetNum.mk HH.out HB.out (World.grownBy.refl _ _) q5 q6 q7 q8 (Int.le_refl _) (Or.inr rfl)
  · obtain ⟨t, rfl⟩ := Int.eq_ofNat_of_zero_le q5
    have g0 : 0 ≤ (seed * 48271 + 11) % 2147483647 := by omega
    have g1 : (seed * 48271 + 11) % 2147483647 < 2147483647 := by omega
    by_cases h2 : t < m
    · obtain ⟨b1, o1, z, rfl, hb1, hz, z0, z1⟩ := HC.out t h2
      have h2' : (t : Int) < (m : Int) := by omega
      have hne : ¬ b1 = b := by have := HH.out.1; omega
      rcases (show (¬ n ≤ 256) ∨ (n ≤ 256 ∧ (((t : Int) + 1) % 2 == 0) = false) ∨ (n ≤ 256 ∧ (((t : Int) + 1) % 2 == 0) = true) by
        by_cases h : n ≤ 256
        · rcases Bool.eq_false_or_eq_true ((((t : Int) + 1) % 2 == 0)) with h4 | h4
          · exact Or.inr (Or.inr ⟨h, h4⟩)
          · exact Or.inr (Or.inl ⟨h, h4⟩)
        · exact Or.inl h) with h3 | ⟨h3, h4⟩ | ⟨h3, h4⟩
      all_goals
        go_enter Tryz.func56, Tryz.ntmps56
        go_wp2_with fail
        generalize (seed * 48271 + 11) % 2147483647 = s2 at *
        obtain ⟨x, hx⟩ : ∃ x, s2 / 17 = x := ⟨_, rfl⟩
        have x0 : 0 ≤ x := by omega
        have x1 : x < 2147483647 := by omega
        rw [hx]
        clear hx
        go_quiet (fail)
        go_wp2_with fail
        go_quiet (fail)
        go_wp2_with fail
      · go_ret
        exact RetNum.mk HH.out (src_two HB.out _).1 (src_two HB.out _).2 (by omega) (by omega) g0 g1 (Int.emod_nonneg _ (by omega)) (Or.inl (Int.emod_lt_of_pos _ (by omega)))
      · go_ret
        exact RetNum.mk HH.out (src_two HB.out _).1 (src_two HB.out _).2 (by omega) (by omega) g0 g1 (Int.emod_nonneg _ (by omega)) (Or.inl (Int.emod_lt_of_pos _ (by omega)))
      · go_quiet (fail)
        go_wp2_with fail
        go_ret
        exact RetNum.mk HH.out (src_two HB.out _).1 (grownBy_trans (src_two HB.out _).2 (grownBy_drewN _ _ _)) (by omega) (by omega) g0 g1 (Int.emod_nonneg _ (by omega)) (Or.inl (Int.emod_lt_of_pos _ (by omega)))
    · go_enter Tryz.func56, Tryz.ntmps56
      go_wp2_with fail
      generalize (seed * 48271 + 11) % 2147483647 = s2 at *
      obtain ⟨x, hx⟩ : ∃ x, s2 / 17 = x := ⟨_, rfl⟩
      have x0 : 0 ≤ x := by omega
      have x1 : x < 2147483647 := by omega
      rw [hx]
      clear hx
      go_quiet (fail)
      go_wp2_with fail
      go_ret
      exact RetNum.mk HH.out (src_one HB.out _).1 (src_one HB.out _).2 (by omega) (by omega) g0 g1 (Int.emod_nonneg _ (by omega)) (Or.inl (Int.emod_lt_of_pos _ (by omega)))

end Go.Proofs.YtkmfgchbfchdbaaGreatDoor
namespace Go.Proofs.YtkmfgchbfchdbaaGreatDoor
open Go.RowKit

/-- bytes of the call's own, in regions -/
def spOwnB (base : Nat) (l : List UInt8) : Sp KB := ⟨fun v W => ∃ a c, v = .slice a l.length c ∧ OwnB W base (.slice a l.length c) l, fun _ _ _ hk ⟨a, c, e, h⟩ => ⟨a, c, e, h.grown hk⟩⟩

theorem OwnB.none_len {w : World} {base n c : Nat} {l : List UInt8} (h : OwnB w base (.slice none n c) l) : l.length = 0 ∧ n = 0 ∧ c = 0 := by
  rcases h.2 with ⟨e, h0⟩ | ⟨g, cap, cur, e, _⟩
  · cases e; exact ⟨h0, rfl, rfl⟩
  · cases e
theorem OwnB.cap {w : World} {base n c : Nat} {a : Option Addr} {l : List UInt8} (h : OwnB w base (.slice a n c) l) : n = l.length ∧ n ≤ c ∧ c ≤ maxLen := by
  rcases h.2 with ⟨e, h0⟩ | ⟨g, cap, cur, e, hb, hg, hn, hm, hs, ht⟩
  · cases e; exact ⟨h0.symm, Nat.zero_le _, Nat.zero_le _⟩
  · cases e; exact ⟨rfl, hn, hm⟩
theorem OwnB.some_at {w : World} {base n c : Nat} {b : Addr} {l : List UInt8} (h : OwnB w base (.slice (some b) n c) l) : ∃ g, b = ⟨g, 0, none⟩ ∧ ∀ j u, (Lib.byteCells l)[j]? = some u → w.cell? (b.add j) = some u := by
  rcases h.2 with ⟨e, h0⟩ | ⟨g, cap, cur, e, hb, hg, hn, hm, hs, ht⟩
  · cases e
  · cases e
    refine ⟨g, rfl, fun j u hj => ?_⟩
    have hjl : j < l.length := by
      have := (List.getElem?_eq_some_iff.1 hj).1
      simpa [Lib.byteCells] using this
    have := World.ownsRow.cellAt h j (by simpa [Lib.byteCells] using hjl)
    rw [Addr.add_lit, Nat.zero_add, this]; exact hj

/-- append of bytes to a slice without room, in a region -/
theorem leaves_app_b {o : Oper} {a : Act} {w : World} {R : Value → World → Prop} (s x : Operand)
    (ho : o.op = .call { callee := .builtin .append, args := #[s, x], argTypes := #[22, 22] })
    (base : Nat) (ao : Option Addr) (l : List UInt8) (c : Nat) (hs : a.eval s = .slice ao l.length l.length) (hown : OwnB w base (.slice ao l.length c) l)
    (base2 : Nat) (bo : Option Addr) (m : List UInt8) (c2 : Nat) (hx : a.eval x = .slice bo m.length c2) (hm : OwnB w base2 (.slice bo m.length c2) m) (h0 : 0 < m.length) (hl : l.length + m.length ≤ 1000000000)
    (h : ∀ v w', (∃ a' c', v = .slice a' (l ++ m).length c' ∧ OwnB w' w.heap.size (.slice a' (l ++ m).length c') (l ++ m)) → Below w.heap.size w w' → R v w') : leaves Tryz.prog o a w R := by
  obtain ⟨i0, hi, y0, y1, y2⟩ := info_parts infoU8
  have fin : ∀ v' w', w'.ownsRow w.heap.size 5 1 v' (l.length + m.length) (Lib.byteCells l ++ Lib.byteCells m) → w.grownBy w' none → R v' w' := fun v' w' h1 h2 => by
    have ho : OwnB w' w.heap.size v' (l ++ m) := by
      unfold OwnB
      rw [List.length_append, Lib.byteCells, List.map_append]
      exact h1
    obtain ⟨a', c', e, _⟩ := ho.read
    rw [e] at ho
    exact h v' w' ⟨a', c', e, ho⟩ (below_of_grownBy h2 (Nat.le_refl _) (fun k hk => by cases hk))
  cases bo with
  | none => have := hm.none_len; omega
  | some bd =>
    obtain ⟨g, -, hcm⟩ := hm.some_at
    have hml : (Lib.byteCells m).length = m.length * 1 := by simp [Lib.byteCells]
    cases ao with
    | some b =>
      obtain ⟨g2, -, hcl⟩ := hown.some_at
      obtain ⟨v', w', hrun, r1, r2⟩ := run_append_arg_grows (P := Tryz.prog) w 22 o.type 5 i0 (.int .u8 0) 1 1 Tryz.underlying22 hi y0 y1 y2 rfl (by decide) b l.length l.length (Lib.byteCells l) (by simp [Lib.byteCells]) hcl bd m.length c2 (Lib.byteCells m) hml hcm (by omega) (by unfold maxLen; omega) (by omega)
      unfold leaves
      simp [execOp, ho, resolve, invoke, builtin, hs, hx, hrun, leavesUpon, Result.andThen]
      exact fin _ _ r1 r2
    | none =>
      have hn := hown.none_len
      obtain rfl : l = [] := List.eq_nil_of_length_eq_zero hn.1
      obtain ⟨v', w', hrun, r1, r2, _⟩ := run_append_own (P := Tryz.prog) w w.heap.size 22 o.type 5 i0 (.int .u8 0) 1 1 Tryz.underlying22 hi y0 y1 y2 rfl (by decide) (.slice none 0 0) 0 [] (World.ownsRow_nil w _ _ 1) bd m.length c2 (Lib.byteCells m) hml hcm (fun u hu => by simp only [Lib.byteCells, List.mem_map] at hu; obtain ⟨x, _, rfl⟩ := hu; rfl) (by unfold maxLen; omega) (by omega) (Nat.le_refl _)
      unfold leaves
      simp [execOp, ho, resolve, invoke, builtin, hs, hx, hrun, leavesUpon, Result.andThen]
      exact fin _ _ (by simpa [Lib.byteCells] using r1) r2

/-- the journal at J holds the text l -/
def JSt (w : World) (J n : Nat) (s : Int) (l : List UInt8) : Prop := ∃ a c, JnAt w J (.slice a l.length c) n s ∧ OwnB w (J + 1) (.slice a l.length c) l
theorem JSt.below {w w' : World} {J n : Nat} {s : Int} {l : List UInt8} (h : JSt w J n s l) (hb : Below w.heap.size w w') : JSt w' J n s l := by
  obtain ⟨a, c, h1, h2⟩ := h
  exact ⟨a, c, blkK hb h1, h2.grown hb⟩

set_option maxRecDepth 100000 in
set_option maxHeartbeats 1000000 in
theorem add_any (J n : Nat) (s : Int) (l : List UInt8) (r : Rc) (w : World) (hj : JSt w J n s l) (hok : r.ok = true) (hn : n < 1000) (hs : 0 ≤ s ∧ s < 65521) (hl : l.length ≤ 100000) (ht : Tab w) :
    Calls Tryz.prog 99 #[.pointer (some ⟨J, 0, none⟩), .agg #[.int .i64 r.k, .int .i64 r.n]] w fun e w' => e = .returned (.tuple #[]) ∧ JSt w' J (n + 1) (nextJ n s r) (l ++ (lineJ n s r ++ [10])) ∧ w.grownBy w' (some J) := by
  obtain ⟨a, c, hj1, ho⟩ := hj
  have HJ := Lib.hid hj1
  have HO0 := Lib.hid ho
  have HT := Lib.hid ht
  have hjl : J < w.heap.size := blkLt hj1
  obtain ⟨L1, hL1⟩ : ∃ L1, lineJ n s r ++ [10] = L1 := ⟨_, rfl⟩
  have hlen : 0 < L1.length ∧ L1.length ≤ 20 := by have := lineJ_len hn hs hok; rw [← hL1]; simp; omega
  have HL := Lib.hid hL1
  clear hj1 ho ht
  go_enter Tryz.func99, Tryz.ntmps99
  go_wp2_with fail
  have HB0 := Lib.hid (ba1 w (.cells #[.int .i64 r.k, .int .i64 r.n] 59 (0, 0)))
  refine (line_any J n s _ r _ (blkK HB0.out HJ.out) hok hn hs (HT.out.next HB0.out)).mono ?_
  rintro e w1 ⟨a1, c1, l1, e1, rfl, ho1, hb1⟩
  obtain rfl : l1 = L1 := e1.trans HL.out
  have HB1 := Lib.hid (bt0 HB0.out hb1 (Nat.le_refl _))
  have HO1 := Lib.hid ho1
  have HO := Lib.hid (HO0.out.grown HB1.out)
  have HJ1 := Lib.hid (blkK HB1.out HJ.out)
  have hcap := HO.out.cap
  have hw1 : w.heap.size ≤ w1.heap.size := HB1.out.size
  clear ho1 hb1 e1
  go_wp2_with fail
  refine wp_region_rt (Keep := KB) [12, 13, 14, 15, 16, 17, 18, 19, 20, 21, 22, 23, 24, 25, 26, 27, 28, 29, 30, 31] (fun us => _)
    [spE (.pointer (some ⟨J, 0, none⟩)),
     spE (.pointer (some ⟨J, 0, none⟩)),
     spE (.pointer (some ⟨J, 0, none⟩)),
     spE (.pointer (some ⟨J, 0, none⟩)),
     spE (.slice a l.length c),
     spE (.pointer (some ⟨J, 0, none⟩)),
     spE (.pointer (some ⟨J, 0, none⟩)),
     spE (.pointer (some ⟨J, 0, none⟩)),
     spE (.slice a l.length c),
     spE (.int .i64 (l.length : Int)),
     spE (.pointer (some ⟨J, 0, none⟩)),
     spE (.pointer (some ⟨J, 0, none⟩)),
     spE (.pointer (some ⟨J, 0, none⟩)),
     spE (.slice a l.length c),
     spE (.int .i64 (l.length : Int)),
     spE (.slice a l.length l.length),
     spE (.slice a1 l1.length c1),
     spOwnB (w1.heap.size) (l ++ l1),
     spE (.pointer (some ⟨J, 0, none⟩)),
     spE (.pointer (some ⟨J, 0, none⟩))]
    (StX w1) (by kernel_rfl) (by kernel_rfl) (Nat.le_of_ble_eq_true rfl) (fun us => by simp [over, List.mapIdx_cons]; exact rfl) (stX0 _) kbr ?_ ?_
  · refine ⟨?_, ?_, ?_, ?_, ?_, ?_, ?_, ?_, ?_, ?_, ?_, ?_, ?_, ?_, ?_, ?_, ?_, ?_, ?_, ?_, trivial⟩
    all_goals (intro us wx hst hd; rw [if_pos (by kernel_rfl)]; dsimp only)
    · clear hd
      go_simp
      exact kb_same hst rfl
    · clear hd
      go_simp
      exact kb_same hst rfl
    · have d13 : us 13 = (.pointer (some ⟨J, 0, none⟩)) := hd ⟨1, .data⟩ (by simp) rfl
      clear hd
      go_simp
      exact kb_same hst rfl
    · have d14 : us 14 = (.pointer (some ⟨J, 0, none⟩)) := hd ⟨2, .data⟩ (by simp) rfl
      clear hd
      go_simp
      exact kb_same hst rfl
    · have d15 : us 15 = (.pointer (some ⟨J, 0, none⟩)) := hd ⟨3, .data⟩ (by simp) rfl
      clear hd
      have hc := (heap_cellR (blkK hst HJ1.out)).1
      go_simp
      exact kb_same hst rfl
    · clear hd
      go_simp
      exact kb_same hst rfl
    · have d17 : us 17 = (.pointer (some ⟨J, 0, none⟩)) := hd ⟨5, .data⟩ (by simp) rfl
      clear hd
      go_simp
      exact kb_same hst rfl
    · have d18 : us 18 = (.pointer (some ⟨J, 0, none⟩)) := hd ⟨6, .data⟩ (by simp) rfl
      clear hd
      go_simp
      exact kb_same hst rfl
    · have d19 : us 19 = (.pointer (some ⟨J, 0, none⟩)) := hd ⟨7, .data⟩ (by simp) rfl
      clear hd
      have hc := (heap_cellR (blkK hst HJ1.out)).1
      go_simp
      exact kb_same hst rfl
    · have d20 : us 20 = (.slice a l.length c) := hd ⟨8, .data⟩ (by simp) rfl
      clear hd
      go_simp
      exact kb_same hst rfl
    · clear hd
      go_simp
      exact kb_same hst rfl
    · have d22 : us 22 = (.pointer (some ⟨J, 0, none⟩)) := hd ⟨10, .data⟩ (by simp) rfl
      clear hd
      go_simp
      exact kb_same hst rfl
    · have d23 : us 23 = (.pointer (some ⟨J, 0, none⟩)) := hd ⟨11, .data⟩ (by simp) rfl
      clear hd
      go_simp
      exact kb_same hst rfl
    · have d24 : us 24 = (.pointer (some ⟨J, 0, none⟩)) := hd ⟨12, .data⟩ (by simp) rfl
      clear hd
      have hc := (heap_cellR (blkK hst HJ1.out)).1
      go_simp
      exact kb_same hst rfl
    · have d25 : us 25 = (.slice a l.length c) := hd ⟨13, .data⟩ (by simp) rfl
      clear hd
      go_simp
      exact kb_same hst rfl
    · have d16 : us 16 = (.slice a l.length c) := hd ⟨4, .data⟩ (by simp) rfl
      have d21 : us 21 = (.int .i64 (l.length : Int)) := hd ⟨9, .data⟩ (by simp) rfl
      have d26 : us 26 = (.int .i64 (l.length : Int)) := hd ⟨14, .data⟩ (by simp) rfl
      clear hd
      go_simp
      exact kb_same hst rfl
    · clear hd
      go_simp
      exact kb_same hst rfl
    · have d27 : us 27 = (.slice a l.length l.length) := hd ⟨15, .data⟩ (by simp) rfl
      have d28 : us 28 = (.slice a1 l1.length c1) := hd ⟨16, .data⟩ (by simp) rfl
      clear hd
      refine leaves_app_b _ _ rfl (J + 1) a l c (by simp [Act.eval, d27]) (HO.out.grown hst) (w.heap.size + 1) a1 l1 c1 (by simp [Act.eval, d28]) ((OwnB.weak HO1.out (by simp)).grown hst) hlen.1 (by omega) ?_
      rintro v w' ⟨a2, c2, rfl, ho2⟩ hb2
      exact kb_below hst hb2 ⟨a2, c2, rfl, ho2.weak hst.size⟩
    · have d12 : us 12 = (.pointer (some ⟨J, 0, none⟩)) := hd ⟨0, .data⟩ (by simp) rfl
      clear hd
      go_simp
      exact kb_same hst rfl
    · have d30 : us 30 = (.pointer (some ⟨J, 0, none⟩)) := hd ⟨18, .data⟩ (by simp) rfl
      clear hd
      go_simp
      exact kb_same hst rfl
  · intro us wx hst hd
    have d31 : us 31 = (.pointer (some ⟨J, 0, none⟩)) := hd 19 (by simp)
    have d29 := hd 17 (by simp)
    clear hd
    simp only [List.drop, List.length]
    rw [d31]
    obtain ⟨a2, c2, e29, ho2⟩ := d29
    rw [e29]
    have HL1 := Lib.hid hL1
    obtain ⟨N, hN⟩ : ∃ N, (l ++ l1).length = N := ⟨_, rfl⟩
    rw [hN] at ho2 ⊢
    have HN := Lib.hid hN
    have HO2 := Lib.hid ho2
    have HJx := Lib.hid (blkK hst HJ1.out)
    have HBx := Lib.hid (bt0 HB1.out hst (Nat.le_refl _))
    obtain ⟨hcx, hfx⟩ := heap_cellR HJx.out
    have e1 : IntKind.i64.wrap ((n : Int) + 1) = (n : Int) + 1 := IntWalk.i64_in _ (by omega)
    have hne : J < w1.heap.size := by omega
    clear ho2 hst e29 d31 hcap hN hL1
    go_wp2_with fail
    refine bodyPost_end (results_none rfl _ _ _) rfl ⟨rfl, ?_, ?_⟩
    · rw [HL1.out]
      refine ⟨a2, c2, ?_, ?_⟩
      all_goals rw [HN.out]
      · have h1 := src_set HJx.out 0 (Value.slice a2 N c2)
        have h2 := src_set h1 1 (Value.int .i64 ((n : Int) + 1))
        have h3 := src_set h2 2 (Value.int .i64 (nextJ n s r))
        simpa [JnAt] using h3
      · have hx : ∀ k, Value.ownBlock (.slice a2 N c2) = some k → some J ≠ some k := fun k hk e => by
          have := HO2.out.lo k hk
          have := Option.some.inj e
          omega
        exact (((HO2.out.other (grownBy_set _ _ _ _) hx).other (grownBy_set _ _ _ _) hx).other (grownBy_set _ _ _ _) hx).weak (by omega)
    · have hg2 : w.grownBy wx (some J) := ⟨HBx.out.os, HBx.out.tape, HBx.out.output, HBx.out.size, fun k hk _ => HBx.out.block k hk⟩
      exact grownBy_trans (grownBy_trans (grownBy_trans hg2 (grownBy_set _ _ _ _)) (grownBy_set _ _ _ _)) (grownBy_set _ _ _ _)

end Go.Proofs.YtkmfgchbfchdbaaGreatDoor
namespace Go.Proofs.YtkmfgchbfchdbaaGreatDoor
open Go.RowKit

theorem below_drewN {B : Nat} (w : World) (k : Nat) : Below B w (w.drewN k) := ⟨rfl, rfl, rfl, Nat.le_refl _, fun _ _ => rfl⟩
/-- what readDecimal answers -/
def RetDecR (w : World) (o : Option Int) (e : Ending) (w' : World) : Prop :=
  ∃ v : Int, e = .returned (.tuple #[.int .i64 v, .bool o.isSome]) ∧ (∀ n, o = some n → v = n) ∧ Below w.heap.size w w'
theorem retDecR_no {w w' : World} {o : Option Int} (h : o = none) (v : Int) (hb : Below w.heap.size w w') : RetDecR w o (.returned (.tuple #[.int .i64 v, .bool false])) w' := by
  subst h; exact ⟨v, rfl, fun n e => (by cases e), hb⟩
theorem retDecR_yes {w w' : World} {o : Option Int} {v : Int} (h : o = some v) (hb : Below w.heap.size w w') : RetDecR w o (.returned (.tuple #[.int .i64 v, .bool true])) w' := by
  subst h; exact ⟨v, rfl, fun n e => Option.some.inj e, hb⟩
theorem get0 {s : ByteArray} (h : 0 < s.size) : s.data.toList[0]? = some s[0] := by
  have hl : s.data.toList.length = s.size := rfl
  rw [List.getElem?_eq_getElem (by omega)]
  rfl

set_option maxRecDepth 100000 in
set_option maxHeartbeats 1000000 in
theorem readDecimal_any (s : ByteArray) (w : World) (hs : s.size ≤ 1048576) (hE : Env w) :
    Calls Tryz.prog 120 #[.string s] w (RetDecR w (rdec s.data.toList)) := by
  have HE := Lib.hid hE
  clear hE
  have hl : s.data.toList.length = s.size := rfl
  by_cases h0 : s.size = 0
  · have hd : s.data.toList = [] := List.eq_nil_of_length_eq_zero (by omega)
    have e : s = ⟨#[]⟩ := by apply ByteArray.ext; apply Array.toList_inj.1; exact hd
    subst e
    have HN := Lib.hid (show rdec (ByteArray.data ⟨#[]⟩).toList = none from rfl)
    go_enter Tryz.func120, Tryz.ntmps120
    go_wp2_with fail
    go_ret2
    exact retDecR_no HN.out _ (Below.refl _ _)
  have hp : 0 < s.size := by omega
  have hne : s.data.toList ≠ [] := fun e => by rw [e] at hl; simp at hl; omega
  have e0 : (s.toList == []) = false := by
    rw [Bool.eq_false_iff]; intro e
    rw [beq_iff_eq, ByteArray.toList_eq] at e
    exact hne e
  have hx := get0 hp
  obtain ⟨x, hxe⟩ : ∃ x, s[0] = x := ⟨_, rfl⟩
  rw [hxe] at hx
  have HX := Lib.hid hx
  clear hx hne h0
  by_cases h1 : 1 < s.size ∧ x.toNat = 48
  · have hi1 : (1 : Int) < ((s.size : Nat) : Int) := by omega
    have hi2 : (((s[0].toNat : Nat) : Int) == 48) = true := by rw [hxe, h1.2]; rfl
    have HN := Lib.hid (show rdec s.data.toList = none by
      rw [rdec, if_pos]
      exact .inr (.inl ⟨by omega, by rw [HX.out, show x = 48 from UInt8.toNat_inj.1 h1.2]⟩))
    clear h1 hxe
    go_enter Tryz.func120, Tryz.ntmps120
    go_wp2_with fail
    go_ret2
    exact retDecR_no HN.out _ (Below.refl _ _)
  by_cases h3 : x.toNat = 43
  · have hi2 : (((s[0].toNat : Nat) : Int) == 48) = false := by rw [hxe, h3]; rfl
    have hi3 : (((s[0].toNat : Nat) : Int) == 43) = true := by rw [hxe, h3]; rfl
    have HN := Lib.hid (show rdec s.data.toList = none by
      rw [rdec, if_pos]
      exact .inr (.inr (.inl (by rw [HX.out, show x = 43 from UInt8.toNat_inj.1 h3]))))
    clear h1 h3 hxe
    by_cases h5 : 1 < s.size
    · have hi1 : (1 : Int) < ((s.size : Nat) : Int) := by omega
      go_enter Tryz.func120, Tryz.ntmps120
      go_wp2_with fail
      go_ret2
      exact retDecR_no HN.out _ (Below.refl _ _)
    · have hi1 : ¬ (1 : Int) < ((s.size : Nat) : Int) := by omega
      go_enter Tryz.func120, Tryz.ntmps120
      go_wp2_with fail
      go_ret2
      exact retDecR_no HN.out _ (Below.refl _ _)
  by_cases h4 : x.toNat = 45
  · have hi2 : (((s[0].toNat : Nat) : Int) == 48) = false := by rw [hxe, h4]; rfl
    have hi3 : (((s[0].toNat : Nat) : Int) == 43) = false := by rw [hxe, h4]; rfl
    have hi4 : (((s[0].toNat : Nat) : Int) == 45) = true := by rw [hxe, h4]; rfl
    have HN := Lib.hid (show rdec s.data.toList = none by
      rw [rdec, if_pos]
      exact .inr (.inr (.inr (by rw [HX.out, show x = 45 from UInt8.toNat_inj.1 h4]))))
    clear h1 h3 h4 hxe
    by_cases h5 : 1 < s.size
    · have hi1 : (1 : Int) < ((s.size : Nat) : Int) := by omega
      go_enter Tryz.func120, Tryz.ntmps120
      go_wp2_with fail
      go_ret2
      exact retDecR_no HN.out _ (Below.refl _ _)
    · have hi1 : ¬ (1 : Int) < ((s.size : Nat) : Int) := by omega
      go_enter Tryz.func120, Tryz.ntmps120
      go_wp2_with fail
      go_ret2
      exact retDecR_no HN.out _ (Below.refl _ _)
  have hi3 : (((s[0].toNat : Nat) : Int) == 43) = false := by rw [hxe]; simp; omega
  have hi4 : (((s[0].toNat : Nat) : Int) == 45) = false := by rw [hxe]; simp; omega
  have HN := Lib.hid (show rdec s.data.toList = match Lib.parseIntB 64 s.data.toList with | .ok n => some n | _ => none by
    rw [rdec, if_neg]
    · cases Lib.parseIntB 64 s.data.toList <;> rfl
    rintro (h | ⟨h, h2⟩ | h | h)
    · rw [h] at hl; simp at hl; omega
    · rw [HX.out] at h2
      have := Option.some.inj h2
      exact h1 ⟨by omega, by rw [this]; rfl⟩
    · rw [HX.out] at h
      have := Option.some.inj h
      exact h3 (by rw [this]; rfl)
    · rw [HX.out] at h
      have := Option.some.inj h
      exact h4 (by rw [this]; rfl))
  have hg : Hid (∀ (e : Ending) (w' : World), ((∃ n, Lib.parseIntB 64 s.data.toList = .ok n ∧ e = .returned (.tuple #[.int .i64 n, .nilIface])) ∨ ((∀ n, Lib.parseIntB 64 s.data.toList ≠ .ok n) ∧ ∃ v t p, e = .returned (.tuple #[.int .i64 v, .iface t p]))) ∧ Below w.heap.size w w' → ((∃ n, rdec s.data.toList = some n ∧ e = .returned (.tuple #[.int .i64 n, .nilIface])) ∨ (rdec s.data.toList = none ∧ ∃ v t p, e = .returned (.tuple #[.int .i64 v, .iface t p]))) ∧ Below w.heap.size w w') := Lib.hid (by
    rintro e w' ⟨⟨n, hn, he⟩ | ⟨hn, he⟩, hb⟩
    · exact ⟨.inl ⟨n, by rw [HN.out, hn], he⟩, hb⟩
    · refine ⟨.inr ⟨?_, he⟩, hb⟩
      rw [HN.out]
      split
      · rename_i n hn2; exact absurd hn2 (hn n)
      · rfl)
  have hfin : (1 < s.size ∧ (((s[0].toNat : Nat) : Int) == 48) = false) ∨ ¬ 1 < s.size := by
    by_cases h5 : 1 < s.size
    · refine .inl ⟨h5, ?_⟩
      rw [hxe]; simp; intro h; exact h1 ⟨h5, by omega⟩
    · exact .inr h5
  clear h1 h3 h4 hxe
  rcases hfin with ⟨h5, hi2⟩ | h5
  · have hi1 : (1 : Int) < ((s.size : Nat) : Int) := by omega
    go_enter Tryz.func120, Tryz.ntmps120
    go_wp2_with fail
    refine (parse_any s w (by omega) HE.out).mono ?_
    intro e w1 h9
    obtain ⟨⟨n, hn, rfl⟩ | ⟨hn, v, t, p, rfl⟩, hb1⟩ := hg.out _ _ h9
    · have HN2 := Lib.hid hn
      have HB1 := Lib.hid hb1
      clear h9 hn hb1
      go_wp2_with fail
      go_quiet (fail)
      go_wp2_with fail
      go_ret2
      exact retDecR_yes HN2.out (HB1.out.trans (below_drewN _ _))
    · have HN2 := Lib.hid hn
      have HB1 := Lib.hid hb1
      clear h9 hn hb1
      go_wp2_with fail
      go_quiet (fail)
      go_wp2_with fail
      go_ret2
      exact retDecR_no HN2.out _ (HB1.out.trans (below_drewN _ _))
  · have hi1 : ¬ (1 : Int) < ((s.size : Nat) : Int) := by omega
    go_enter Tryz.func120, Tryz.ntmps120
    go_wp2_with fail
    refine (parse_any s w (by omega) HE.out).mono ?_
    intro e w1 h9
    obtain ⟨⟨n, hn, rfl⟩ | ⟨hn, v, t, p, rfl⟩, hb1⟩ := hg.out _ _ h9
    · have HN2 := Lib.hid hn
      have HB1 := Lib.hid hb1
      clear h9 hn hb1
      go_wp2_with fail
      go_quiet (fail)
      go_wp2_with fail
      go_ret2
      exact retDecR_yes HN2.out (HB1.out.trans (below_drewN _ _))
    · have HN2 := Lib.hid hn
      have HB1 := Lib.hid hb1
      clear h9 hn hb1
      go_wp2_with fail
      go_quiet (fail)
      go_wp2_with fail
      go_ret2
      exact retDecR_no HN2.out _ (HB1.out.trans (below_drewN _ _))

end Go.Proofs.YtkmfgchbfchdbaaGreatDoor
namespace Go.Proofs.YtkmfgchbfchdbaaGreatDoor
open Go.RowKit

/-- a call that keeps what is there, said of the world in which the caller began -/
theorem callB {P : Program} {f : FuncId} {args : Array Value} {w w0 : World} {B : Nat} {v : Value} (HB : Hid (Below B w0 w)) (hs : B ≤ w.heap.size)
    (h : Calls P f args w fun e w' => e = .returned v ∧ Below w.heap.size w w') :
    Calls P f args w fun e w' => e = .returned v ∧ Hid (Below B w0 w') ∧ Hid (Below w.heap.size w w') ∧ (∀ b o, b < w.heap.size → w'.cell? ⟨b, o, none⟩ = w.cell? ⟨b, o, none⟩) ∧ (∀ b o, b < w.heap.size → w'.frozen? ⟨b, o, none⟩ = w.frozen? ⟨b, o, none⟩) ∧ w.heap.size ≤ w'.heap.size :=
  h.mono fun _ _ ⟨he, hb⟩ => ⟨he, Lib.hid (HB.out.trans (hb.mono hs)), Lib.hid hb, (bcell hb).1, (bcell hb).2, hb.size⟩

theorem same_below {P : Program} {f : FuncId} {args : Array Value} {w : World} {v : Value} (h : Calls P f args w fun e w' => e = .returned v ∧ w = w') : Calls P f args w fun e w' => e = .returned v ∧ Below w.heap.size w w' :=
  h.mono fun _ _ ⟨he, hw⟩ => ⟨he, hw ▸ Below.refl _ _⟩

end Go.Proofs.YtkmfgchbfchdbaaGreatDoor
namespace Go.Proofs.YtkmfgchbfchdbaaGreatDoor
open Go.RowKit

def isRecB (k n : Int) : Bool := inB k 1 4 && inB n 0 199

theorem isRecord_any (k n : Int) (w : World) :
    Calls Tryz.prog 77 #[.agg #[.int .i64 k, .int .i64 n]] w fun e w' => e = .returned (.bool (isRecB k n)) ∧ Below w.heap.size w w' := by
  rcases Bool.eq_false_or_eq_true (inB k 1 4) with h1 | h1
  · rcases Bool.eq_false_or_eq_true (inB n 0 199) with h2 | h2
    all_goals
      have E := Lib.hid (show isRecB k n = _ by unfold isRecB; rw [h1, h2])
      go_enter Tryz.func77, Tryz.ntmps77
      go_wp2_with (go_at_call 70; go_must (refine (inRange_val (by assumption)).mono ?_; rintro e w' ⟨rfl, rfl⟩))
      go_ret
      exact ⟨ret_bool (by rw [E.out]; rfl), ba1 _ _⟩
  · have E := Lib.hid (show isRecB k n = false by unfold isRecB; rw [h1]; rfl)
    go_enter Tryz.func77, Tryz.ntmps77
    go_wp2_with (go_at_call 70; go_must (refine (inRange_val (by assumption)).mono ?_; rintro e w' ⟨rfl, rfl⟩))
    go_ret
    exact ⟨ret_bool (by rw [E.out]), ba1 _ _⟩
theorem specIsRecord_any (k n : Int) (w : World) :
    Calls Tryz.prog 83 #[.agg #[.int .i64 k, .int .i64 n]] w fun e w' => e = .returned (.bool (isRecB k n)) ∧ Below w.heap.size w w' := by
  rcases Bool.eq_false_or_eq_true (inB k 1 4) with h1 | h1
  · rcases Bool.eq_false_or_eq_true (inB n 0 199) with h2 | h2
    all_goals
      have E := Lib.hid (show isRecB k n = _ by unfold isRecB; rw [h1, h2])
      go_enter Tryz.func83, Tryz.ntmps83
      go_wp2_with (go_at_call 85; go_must (refine (l01In_val (by assumption)).mono ?_; rintro e w' ⟨rfl, rfl⟩))
      go_ret
      exact ⟨ret_bool (by rw [E.out]; rfl), ba1 _ _⟩
  · have E := Lib.hid (show isRecB k n = false by unfold isRecB; rw [h1]; rfl)
    go_enter Tryz.func83, Tryz.ntmps83
    go_wp2_with (go_at_call 85; go_must (refine (l01In_val (by assumption)).mono ?_; rintro e w' ⟨rfl, rfl⟩))
    go_ret
    exact ⟨ret_bool (by rw [E.out]), ba1 _ _⟩
theorem isRecord_val {k n : Int} {w : World} {b : Bool} (h : isRecB k n = b) :
    Calls Tryz.prog 77 #[.agg #[.int .i64 k, .int .i64 n]] w fun e w' => e = .returned (.bool b) ∧ Below w.heap.size w w' := h ▸ isRecord_any k n w
theorem specIsRecord_val {k n : Int} {w : World} {b : Bool} (h : isRecB k n = b) :
    Calls Tryz.prog 83 #[.agg #[.int .i64 k, .int .i64 n]] w fun e w' => e = .returned (.bool b) ∧ Below w.heap.size w w' := h ▸ specIsRecord_any k n w

/-- the state behind a record of kind k, 0 where there is none -/
def nextS (k s : Int) : Int := if k = 1 ∧ s = 0 then 1 else if k = 2 ∧ s = 1 then 2 else if k = 3 ∧ (s = 2 ∨ s = 3) then 3 else if k = 4 ∧ (s = 1 ∨ s = 2) then 4 else 0

theorem kind4 {k : Int} (h : 1 ≤ k) (h' : k ≤ 4) : k = 1 ∨ k = 2 ∨ k = 3 ∨ k = 4 := by omega
theorem fiveS {k : Int} (h : 0 ≤ k) (h' : k ≤ 4) : k = 0 ∨ k = 1 ∨ k = 2 ∨ k = 3 ∨ k = 4 := by omega

end Go.Proofs.YtkmfgchbfchdbaaGreatDoor
namespace Go.Proofs.YtkmfgchbfchdbaaGreatDoor
open Go.RowKit

/-- the slice at address a holds the texts ss -/
def StrsAt (w : World) (a : Option Addr) (ss : List ByteArray) : Prop :=
  ∀ i (h : i < ss.length), ∃ b o, a = some ⟨b, o, none⟩ ∧ w.cell? ⟨b, o + i, none⟩ = some (.string ss[i])
theorem StrsAt.at {w : World} {a : Option Addr} {ss : List ByteArray} (H : StrsAt w a ss) {k : Nat} (hk : k < ss.length) :
    ∃ b o z, a = some ⟨b, o, none⟩ ∧ ss[k]? = some z ∧ b < w.heap.size ∧ w.cell? ⟨b, o + k, none⟩ = some (.string z) := by
  obtain ⟨b, o, ha, hc⟩ := H k hk
  exact ⟨b, o, ss[k], ha, List.getElem?_eq_getElem hk, lt_of_cell hc, hc⟩
theorem StrsAt.below {w w' : World} {a : Option Addr} {ss : List ByteArray} (H : StrsAt w a ss) (hb : Below w.heap.size w w') : StrsAt w' a ss := by
  intro i h
  obtain ⟨b, o, ha, hc⟩ := H i h
  exact ⟨b, o, ha, by rw [hb.cell (p := ⟨b, o + i, none⟩) (lt_of_cell hc)]; exact hc⟩
theorem StrsAt.grow {w w' : World} {a : Option Addr} {ss : List ByteArray} {B : Nat} (H : StrsAt w a ss) (hB : ∀ ad, a = some ad → ad.block < B) (hb : Below B w w') : StrsAt w' a ss := by
  intro i h
  obtain ⟨b, o, ha, hc⟩ := H i h
  exact ⟨b, o, ha, by rw [hb.cell (p := ⟨b, o + i, none⟩) (show b < B from hB _ ha)]; exact hc⟩
theorem StrsAt.nil {w : World} {a : Option Addr} : StrsAt w a [] := fun i h => absurd h (by simp)

/-- the slice v is the call's own and holds the texts ss -/
def OwnS (w : World) (base : Nat) (v : Value) (ss : List ByteArray) : Prop := w.ownsRow base 9 1 v ss.length (ss.map Value.string)
theorem OwnS.read {w : World} {base : Nat} {v : Value} {zs : List ByteArray} (h : OwnS w base v zs) : ∃ a c, v = .slice a zs.length c ∧ StrsAt w a zs := by
  unfold OwnS at h
  have h2 := h.2
  rcases h2 with ⟨rfl, h0⟩ | ⟨g, cap, cur, rfl, hb, hg, hn, hm, hs, ht⟩
  · refine ⟨none, 0, by rw [h0], ?_⟩
    intro i hi; omega
  · refine ⟨some ⟨g, 0, none⟩, cap, rfl, ?_⟩
    intro i hi
    refine ⟨g, 0, rfl, ?_⟩
    rw [Nat.zero_add, h.cellAt i (by omega)]
    simp [hi]
theorem OwnS.strs {w : World} {base : Nat} {a : Option Addr} {n c : Nat} {zs : List ByteArray} (h : OwnS w base (.slice a n c) zs) : StrsAt w a zs := by
  obtain ⟨a', c', e, hx⟩ := h.read
  obtain ⟨rfl, _, _⟩ := Value.slice.inj e
  exact hx
theorem OwnS.len {w : World} {base : Nat} {v : Value} {zs : List ByteArray} (h : OwnS w base v zs) : zs.length ≤ maxLen := by
  rcases h.2 with ⟨_, h0⟩ | ⟨g, cap, cur, rfl, hb, hg, hn, hm, hs, ht⟩
  · rw [h0]; exact Nat.zero_le _
  · omega
theorem OwnS.block {w : World} {base : Nat} {a : Option Addr} {n c : Nat} {zs : List ByteArray} (h : OwnS w base (.slice a n c) zs) (hk : 0 < zs.length) : ∃ g, a = some ⟨g, 0, none⟩ ∧ base ≤ g ∧ n = zs.length ∧ g < w.heap.size := by
  rcases h.2 with ⟨h1, h0⟩ | ⟨g, cap, cur, h1, hb, hg, _⟩
  · omega
  · simp only [Value.slice.injEq] at h1
    obtain ⟨rfl, rfl, rfl⟩ := h1
    exact ⟨g, rfl, hb, rfl, (Array.getElem?_eq_some_iff.1 hg).1⟩
theorem OwnS.grown {w w' : World} {base : Nat} {v : Value} {zs : List ByteArray} (h : OwnS w base v zs) (hb : Below w.heap.size w w') : OwnS w' base v zs :=
  h.kept (row := none) ⟨hb.os, hb.tape, hb.output, hb.size, fun k hk _ => hb.block k hk⟩ (by cases hv : v.ownBlock <;> simp)
theorem OwnS.weak {w : World} {base base' : Nat} {v : Value} {zs : List ByteArray} (h : OwnS w base v zs) (hb : base' ≤ base) : OwnS w base' v zs := by
  refine ⟨h.1, ?_⟩
  rcases h.2 with h2 | ⟨g, cap, cur, h1, hb', r⟩
  · exact Or.inl h2
  · exact Or.inr ⟨g, cap, cur, h1, by omega, r⟩
theorem OwnS.lo {w : World} {base : Nat} {v : Value} {zs : List ByteArray} (h : OwnS w base v zs) : ∀ k, v.ownBlock = some k → base ≤ k := fun k hk => (World.ownsRow.lt h k hk).1
theorem OwnS.hi {w : World} {base : Nat} {v : Value} {zs : List ByteArray} (h : OwnS w base v zs) : ∀ k, v.ownBlock = some k → k < w.heap.size := fun k hk => (World.ownsRow.lt h k hk).2
theorem OwnS.cellAt {w : World} {base g n c : Nat} {zs : List ByteArray} (h : OwnS w base (.slice (some ⟨g, 0, none⟩) n c) zs) (hn : n = zs.length) {k : Nat} (hk : k < zs.length) :
    ∃ z, zs[k]? = some z ∧ w.cell? ⟨g, k, none⟩ = some (.string z) ∧ w.frozen? ⟨g, k, none⟩ = false := by
  subst hn
  refine ⟨zs[k], by simp [hk], ?_, h.frozenAt k⟩
  rw [World.ownsRow.cellAt h k (by omega)]
  simp [hk]
theorem OwnS.stored {w : World} {base g n c : Nat} {zs : List ByteArray} (h : OwnS w base (.slice (some ⟨g, 0, none⟩) n c) zs) (hn : n = zs.length) (k : Nat) (z : ByteArray) :
    OwnS (w.setCell ⟨g, k, none⟩ (.string z)) base (.slice (some ⟨g, 0, none⟩) n c) (zs.set k z) ∧ w.grownBy (w.setCell ⟨g, k, none⟩ (.string z)) (some g) := by
  subst hn
  have hst := World.ownsRow.stored (h := h) k (.string z)
  refine ⟨?_, hst.2⟩
  unfold OwnS
  rw [List.map_set, List.length_set]
  exact hst.1
theorem OwnS.of_made {w : World} {base : Nat} {v : Value} {n : Nat} (h : w.ownsRow base 9 1 v n (madeCells #[.string ⟨#[]⟩] n).toList) : OwnS w base v (List.replicate n ⟨#[]⟩) := by
  unfold OwnS
  rw [toList_madeCells_one] at h
  simpa using h
theorem infoS : (Tryz.prog.info? 9).map (fun i => (i.zero, i.size, i.bytes)) = some (some (.string ⟨#[]⟩), 1, 16) := by kernel_rfl

theorem strs_at {w : World} {b o : Nat} {xs : List ByteArray} (h : StrsAt w (some ⟨b, o, none⟩) xs) : ∀ j u, (xs.map Value.string)[j]? = some u → w.cell? ((⟨b, o, none⟩ : Addr).add j) = some u := by
  intro j u hu
  rw [List.getElem?_map] at hu
  cases hx : xs[j]? with
  | none => rw [hx] at hu; cases hu
  | some x =>
    rw [hx] at hu
    obtain ⟨hj, rfl⟩ := List.getElem?_eq_some_iff.1 hx
    obtain ⟨b', o', e, hc⟩ := h j hj
    simp only [Option.some.injEq, Addr.mk.injEq, and_true] at e
    obtain ⟨rfl, rfl⟩ := e
    simp only [Option.map_some, Option.some.injEq] at hu
    subst hu
    rw [Addr.add_mid]
    exact hc

/-- after j rounds of a copy -/
def CopiedS (w : World) (base g : Nat) (xs : List ByteArray) (j : Nat) : Prop :=
  ∃ zs : List ByteArray, zs.length = xs.length ∧ OwnS w base (.slice (some ⟨g, 0, none⟩) xs.length xs.length) zs ∧ zs.take j = xs.take j
theorem CopiedS.step {w : World} {base g : Nat} {xs : List ByteArray} {j : Nat} {x : ByteArray} (h : CopiedS w base g xs j) (hx : xs[j]? = some x) : CopiedS (w.setCell ⟨g, j, none⟩ (.string x)) base g xs (j + 1) := by
  obtain ⟨zs, hl, ho, ht⟩ := h
  have hj : j < xs.length := (List.getElem?_eq_some_iff.1 hx).1
  refine ⟨zs.set j x, by simpa using hl, (ho.stored hl.symm j x).1, ?_⟩
  rw [take_snoc' hx, take_snoc' (zs := zs.set j x) (k := j) (z := x) (by simp [hl, hj]), List.take_set_of_le (Nat.le_refl _), ht]
theorem CopiedS.fin {w : World} {base g : Nat} {xs : List ByteArray} (h : CopiedS w base g xs xs.length) : OwnS w base (.slice (some ⟨g, 0, none⟩) xs.length xs.length) xs := by
  obtain ⟨zs, hl, ho, ht⟩ := h
  rw [List.take_of_length_le (by omega), List.take_of_length_le (by omega)] at ht
  rwa [ht] at ho

end Go.Proofs.YtkmfgchbfchdbaaGreatDoor
namespace Go.Proofs.YtkmfgchbfchdbaaGreatDoor
open Go.RowKit

/-- the words' bytes -/
def bytesL (ws : List ByteArray) : List (List UInt8) := ws.map (fun b => b.data.toList)

theorem cut_len (c : UInt8) : ∀ (l : List UInt8), (cut c l).length ≤ l.length + 1 ∧ ∀ p ∈ cut c l, p.length ≤ l.length
  | [] => by simp [cut]
  | x :: r => by
    obtain ⟨h1, h2⟩ := cut_len c r
    rw [cut]
    split
    · refine ⟨by simpa using h1, ?_⟩
      intro p hp
      rcases List.mem_cons.1 hp with rfl | hp
      · simp
      · have := h2 p hp; simp; omega
    · split
      · simp
      · rename_i h t he
        rw [he] at h1 h2
        refine ⟨by simp at h1 ⊢; omega, ?_⟩
        intro p hp
        rcases List.mem_cons.1 hp with rfl | hp
        · have := h2 h (by simp); simp; omega
        · have := h2 p (by simp [hp]); simp; omega

theorem strs_new (w : World) (ss : List ByteArray) (t : TypeId) : StrsAt (w.alloc (.cells (ss.map Value.string).toArray t (0, 0))) (some ⟨w.heap.size, 0, none⟩) ss := by
  intro i hi
  refine ⟨w.heap.size, 0, rfl, ?_⟩
  rw [Nat.zero_add]
  simp [hi]

/-- strings.Split at a byte -/
theorem split_any (s : ByteArray) (c : UInt8) (w : World) (hs : s.size ≤ 1048576) (hE : Env w) :
    Calls Tryz.prog 37 #[.string s, .string ⟨#[c]⟩] w fun e w' => ∃ ss : List ByteArray, bytesL ss = cut c s.data.toList ∧ ss.length ≤ 1048577 ∧ (∀ b ∈ ss, b.size ≤ s.size) ∧ e = .returned (.slice (some ⟨w.heap.size, 0, none⟩) ss.length ss.length) ∧ w' = w.alloc (.cells (ss.map Value.string).toArray 9) := by
  obtain ⟨m, hm⟩ := hE.mx
  refine (Tryz.strings_Split s ⟨#[c]⟩ m w (by omega) hm (Nat.le_refl 1)).mono fun e w' ⟨he, hw⟩ => ?_
  have hl := Lib.splitB_all ⟨#[c]⟩ (Nat.le_refl 1) 0 (Lib.countB s ⟨#[c]⟩) s rfl
  have hc := splitB_cut s c
  refine ⟨Lib.splitB ⟨#[c]⟩ 0 (Lib.countB s ⟨#[c]⟩) s, hc, ?_, ?_, ?_, hw⟩
  · have h2 := congrArg List.length hc
    rw [List.length_map] at h2
    have h3 := (cut_len c s.data.toList).1
    have h4 : s.data.toList.length = s.size := rfl
    omega
  · intro b hb
    have h2 : b.data.toList ∈ cut c s.data.toList := by rw [← hc]; exact List.mem_map.2 ⟨b, hb, rfl⟩
    exact (cut_len c s.data.toList).2 _ h2
  · rw [hl]; exact he

end Go.Proofs.YtkmfgchbfchdbaaGreatDoor
namespace Go.Proofs.YtkmfgchbfchdbaaGreatDoor
open Go.RowKit

/-- bytes as numbers -/
def byInts (l : List UInt8) : List Int := l.map fun x => (x.toNat : Int)
theorem byInts_of (l : List UInt8) : Lib.bytesOf (byInts l) = l := by
  unfold Lib.bytesOf byInts
  rw [List.map_map]
  have : ((fun n : Int => UInt8.ofNat n.toNat) ∘ fun x : UInt8 => (x.toNat : Int)) = id := by funext x; simp
  rw [this, List.map_id]
theorem byInts_len (l : List UInt8) : (byInts l).length = l.length := by simp [byInts]
theorem byInts_range (l : List UInt8) : ∀ x ∈ byInts l, 0 ≤ x ∧ x < 256 := by
  intro x hx
  simp only [byInts, List.mem_map] at hx
  obtain ⟨y, _, rfl⟩ := hx
  have := y.toNat_lt
  omega
theorem byInts_at {l : List UInt8} {i : Nat} (h : i < l.length) : (byInts l).getD i 0 = ((l[i]).toNat : Int) := by
  rw [List.getD_eq_getElem?_getD]; simp [byInts, h]
theorem BysAt.cells {w : World} {b o : Nat} {l : List UInt8} (h : BysAt w (some ⟨b, o, none⟩) l) : ∀ i, i < l.length → w.cell? ⟨b, o + i, none⟩ = some (.int .u8 ((byInts l).getD i 0)) := fun i hi => by
  obtain ⟨b', o', e, hc⟩ := h i l[i] (List.getElem?_eq_getElem hi)
  simp only [Option.some.injEq, Addr.mk.injEq, and_true] at e
  obtain ⟨rfl, rfl⟩ := e
  rw [hc, byInts_at hi]
theorem BysAt.take {w : World} {a : Option Addr} {l : List UInt8} (h : BysAt w a l) {p t : List UInt8} (e : l = p ++ t) : BysAt w a p := fun i x hx => h i x (by
  rw [e, List.getElem?_append_left (List.getElem?_eq_some_iff.1 hx).1]; exact hx)

theorem indexByte_line : ∀ l : List UInt8, Lib.indexByte l 10 = match lineOf l with | none => -1 | some p => (p.length : Int)
  | [] => rfl
  | x :: r => by
    have ih := indexByte_line r
    rw [Lib.indexByte, lineOf]
    by_cases hx : x = 10
    · subst hx; simp
    · have : (x == 10) = false := by simpa using hx
      rw [this, if_neg hx]
      simp only [Bool.false_eq_true, if_false]
      rw [ih]
      cases lineOf r with
      | none => rfl
      | some p =>
        have : (((p.length : Nat) : Int) == -1) = false := by rw [beq_eq_false_iff_ne]; omega
        simp only [this, Bool.false_eq_true, if_false, Option.map_some, List.length_cons]
        simp

theorem splitV_plain (sep : List UInt8) (save b : Nat) : ∀ (k o cap : Nat) (l : List UInt8), ∀ v ∈ Lib.splitV sep save k ⟨b, o, none⟩ cap l, ∃ o' n c, v = .slice (some ⟨b, o', none⟩) n c
  | 0, o, cap, l, v, hv => by
    simp only [Lib.splitV, List.mem_singleton] at hv
    exact ⟨_, _, _, hv⟩
  | k + 1, o, cap, l, v, hv => by
    unfold Lib.splitV at hv
    split at hv
    · simp only [List.mem_singleton] at hv
      exact ⟨_, _, _, hv⟩
    · rcases List.mem_cons.1 hv with h | h
      · exact ⟨_, _, _, h⟩
      · have : ∃ o2, Lib.tailAddr ⟨b, o, none⟩ cap ((Lib.index l sep).toNat + sep.length) = ⟨b, o2, none⟩ := by
          unfold Lib.tailAddr
          split
          · exact ⟨_, rfl⟩
          · exact ⟨o + ((Lib.index l sep).toNat + sep.length), by rw [Addr.add_lit]⟩
        obtain ⟨o2, e⟩ := this
        rw [e] at h
        exact splitV_plain sep save b k o2 _ _ v h

/-- the pieces of a line -/
def PiecesAt (w : World) (b : Nat) (vs : List Value) (ps : List (List UInt8)) : Prop :=
  vs.length = ps.length ∧ ∀ (j : Nat) (p : List UInt8), ps[j]? = some p → ∃ o c, vs[j]? = some (Value.slice (some ⟨b, o, none⟩) p.length c) ∧ BysAt w (some ⟨b, o, none⟩) p
theorem PiecesAt.below {w w' : World} {b : Nat} {vs : List Value} {ps : List (List UInt8)} (h : PiecesAt w b vs ps) (hb : Below w.heap.size w w') : PiecesAt w' b vs ps :=
  ⟨h.1, fun j p hp => by obtain ⟨o, c, e, ha⟩ := h.2 j p hp; exact ⟨o, c, e, ha.below hb⟩⟩

theorem bytesSplit_any (b o cp b2 : Nat) (c : UInt8) (l : List UInt8) (w : World) (hE : Env w) (h : BysAt w (some ⟨b, o, none⟩) l) (h2 : BysAt w (some ⟨b2, 0, none⟩) [c]) (hl : l.length ≤ 1000000000) (hcp : l.length ≤ cp) (hcp2 : cp ≤ maxLen) :
    Calls Tryz.prog 119 #[.slice (some ⟨b, o, none⟩) l.length cp, .slice (some ⟨b2, 0, none⟩) 1 1] w fun e w' => ∃ vs : List Value, PiecesAt w' b vs (cut c l) ∧ e = .returned (.slice (some ⟨w.heap.size, 0, none⟩) vs.length vs.length) ∧ w'.heap[w.heap.size]? = some (.cells vs.toArray 22 (0, 0)) ∧ Below w.heap.size w w' := by
  obtain ⟨m, hm⟩ := hE.mx
  unfold maxLen at hcp2
  have ec : [c] = Lib.bytesOf (byInts [c]) := (byInts_of [c]).symm
  refine (Tryz.bytes_Split ⟨b, o, none⟩ ⟨b2, 0, none⟩ l.length cp 1 1 (byInts l) (byInts [c]) m w (byInts_len l) rfl (byInts_range l) (byInts_range [c]) (fun i hi => by rw [Addr.add_lit]; exact h.cells i hi) (fun i hi => by rw [Addr.add_lit]; exact h2.cells i hi) hcp (by omega) (by omega) (by omega) (Nat.le_refl 1) hm).mono ?_
  rintro e w' ⟨he, q, hw⟩
  rw [byInts_of, byInts_of] at he hw
  obtain ⟨vs, hvs⟩ : ∃ vs, Lib.splitV [c] 0 (Lib.count l [c]) ⟨b, o, none⟩ cp l = vs := ⟨_, rfl⟩
  have hk : Lib.splitK [c] 0 (Lib.count l [c]) l = cut c l := splitK_cut c l
  have hlen : vs.length = (cut c l).length := by rw [← hvs, Lib.splitV_length, hk]
  have hlen2 : (cut c l).length = Lib.count l [c] + 1 := by
    have := Lib.splitB_all ⟨#[c]⟩ (Nat.le_refl 1) 0 (Lib.count l [c]) ⟨l.toArray⟩ rfl
    have d := congrArg List.length (Lib.splitB_data ⟨#[c]⟩ 0 (Lib.count l [c]) ⟨l.toArray⟩)
    rw [List.length_map, this] at d
    have hk2 : Lib.splitK [c] 0 (Lib.count l [c]) l = Lib.splitK (ByteArray.data ⟨#[c]⟩).toList 0 (Lib.count l [c]) (ByteArray.data ⟨l.toArray⟩).toList := by simp
    rw [← hk, hk2]; exact d.symm
  have hbel : Below w.heap.size w w' := by rw [hw]; exact (ba1 w _).trans (below_drewN _ _)
  refine ⟨vs, ⟨hlen, fun j p hp => ?_⟩, by rw [hlen, hlen2]; exact he, ?_, hbel⟩
  · have hj : j < vs.length := by rw [hlen]; exact (List.getElem?_eq_some_iff.1 hp).1
    have hv : vs[j]? = some vs[j] := List.getElem?_eq_getElem hj
    obtain ⟨o', n', c', ev⟩ := splitV_plain [c] 0 b _ o cp l vs[j] (by rw [hvs]; exact List.getElem_mem hj)
    obtain ⟨a', off, len, c2, e1, e2, e3, e4, e5⟩ := Lib.splitV_spec [c] 0 (by simp) (by simp) (Lib.count l [c]) ⟨b, o, none⟩ cp l hcp j vs[j] (by rw [hvs]; exact hv)
    rw [hk, hp] at e4
    have e4 := Option.some.inj e4
    rw [ev] at e1
    simp only [Value.slice.injEq, Option.some.injEq] at e1
    obtain ⟨rfl, rfl, rfl⟩ := e1
    have hpl : p.length = n' := by rw [e4]; simp; omega
    refine ⟨o', c', by rw [hv, ev, hpl], fun i x hx => ⟨b, o', rfl, ?_⟩⟩
    have hi : i < p.length := (List.getElem?_eq_some_iff.1 hx).1
    have h5 := e5 i (by omega)
    rw [Addr.add_lit, Addr.add_lit] at h5
    have h6 := Addr.mk.inj h5
    rw [h6.2.1]
    obtain ⟨b3, o3, e, hc⟩ := h (off + i) x (by
      rw [e4, List.getElem?_take, if_pos (by omega), List.getElem?_drop] at hx; exact hx)
    simp only [Option.some.injEq, Addr.mk.injEq, and_true] at e
    obtain ⟨rfl, rfl⟩ := e
    rw [hbel.cell (p := ⟨b, o + (off + i), none⟩) (lt_of_cell hc)]
    exact hc
  · rw [hw, hvs]
    exact blk (below_drewN (B := w.heap.size + 1) _ q) (push_at w _) (Nat.lt_succ_self _)


theorem bys_one {w : World} {g : Nat} {x : UInt8} (h : w.heap[g]? = some (.cells #[.int .u8 x.toNat] 5 (0, 0))) : BysAt w (some ⟨g, 0, none⟩) [x] := by
  intro i y hy
  have hi := (List.getElem?_eq_some_iff.1 hy).1
  obtain rfl : i = 0 := by simpa using hi
  simp at hy
  subst hy
  exact ⟨g, 0, rfl, by rw [(heap_cellR h).1]; rfl⟩
/-- what readLine hands back -/
def RetRcO (w : World) (o : Option Rc) (e : Ending) (w' : World) : Prop := ∃ k i, e = .returned (.tuple #[.agg #[.int .i64 k, .int .i64 i], .bool o.isSome]) ∧ (∀ r, o = some r → k = r.k ∧ i = r.n) ∧ Below w.heap.size w w'
theorem retRcO_no {w w' : World} {o : Option Rc} {k i : Int} (h : o = none) (hb : Below w.heap.size w w') : RetRcO w o (.returned (.tuple #[.agg #[.int .i64 k, .int .i64 i], .bool false])) w' := by
  subst h; exact ⟨k, i, rfl, (fun r e => by cases e), hb⟩
theorem readJ_none1 {n : Nat} {s : Int} {l : List UInt8} (h : lineOf l = none) : readJ n s l = none := by rw [readJ, h]
theorem readJ_none2 {n : Nat} {s : Int} {l p : List UInt8} (h : lineOf l = some p) (h4 : (cut 32 p).length ≠ 4) : readJ n s l = none := by
  rw [readJ, h]
  simp only []
  split
  · rename_i a b c d he; rw [he] at h4; simp at h4
  · rfl
theorem cut4 {p : List UInt8} (h4 : (cut 32 p).length = 4) : ∃ a b c d, cut 32 p = [a, b, c, d] := by
  cases h : cut 32 p with
  | nil => rw [h] at h4; simp at h4
  | cons a t => cases t with
    | nil => rw [h] at h4; simp at h4
    | cons b t => cases t with
      | nil => rw [h] at h4; simp at h4
      | cons c t => cases t with
        | nil => rw [h] at h4; simp at h4
        | cons d t => cases t with
          | nil => exact ⟨a, b, c, d, rfl⟩
          | cons e t => rw [h] at h4; simp at h4
theorem readJ_none3 {n : Nat} {s : Int} {l p a b c d : List UInt8} (h : lineOf l = some p) (h4 : cut 32 p = [a, b, c, d]) (hc : rdec c = none) : readJ n s l = none := by
  rw [readJ, h]; simp only [h4, hc]
theorem readJ_some4 {n : Nat} {s : Int} {l p a b c d : List UInt8} {i : Int} (h : lineOf l = some p) (h4 : cut 32 p = [a, b, c, d]) (hc : rdec c = some i) :
    readJ n s l = if kindJ b ≠ 0 ∧ Rc.ok ⟨kindJ b, i⟩ = true ∧ (lineJ n s ⟨kindJ b, i⟩ ++ [10]).isPrefixOf l = true then some ⟨kindJ b, i⟩ else none := by
  rw [readJ, h]; simp only [h4, hc]

theorem hasPrefix_any {w : World} {b c base c2 : Nat} {a2 : Option Addr} {l m : List UInt8} (h : BysAt w (some ⟨b, 0, none⟩) l) (hc : l.length ≤ c) (h2 : OwnB w base (.slice a2 m.length c2) m) :
    Calls Tryz.prog 123 #[.slice (some ⟨b, 0, none⟩) l.length c, .slice a2 m.length c2] w fun e w' => e = .returned (.bool (m.isPrefixOf l)) ∧ w' = w := by
  have e : m.isPrefixOf l = Lib.hasPrefix (Lib.bytesOf (byInts l)) (Lib.bytesOf (byInts m)) := by rw [byInts_of, byInts_of]; rfl
  rw [e]
  obtain ⟨a3, c3, e3, hb, _⟩ := h2.read
  obtain ⟨rfl, -, rfl⟩ := Value.slice.inj e3
  cases a2 with
  | some ad =>
    rcases h2.2 with ⟨e4, _⟩ | ⟨g, cap, cur, e4, _⟩
    · cases e4
    · cases e4
      exact Tryz.bytes_HasPrefix b 0 l.length c g 0 m.length c2 (byInts l) (byInts m) w (byInts_len l) (byInts_len m) hc (fun i hi => h.cells i hi) (fun i hi => hb.cells i hi)
  | none =>
    have h0 := h2.none_len
    obtain rfl : m = [] := List.eq_nil_of_length_eq_zero h0.1
    refine (Tryz.bytes_HasPrefix_e2 (some ⟨b, 0, none⟩) none l.length c c2 w).mono fun e w' ⟨he, hw⟩ => ⟨he.trans ?_, hw⟩
    simp [Lib.hasPrefix, Lib.bytesOf, byInts]
/-- no kind below kk has the word and makes a record -/
def NoKind (p : List UInt8) (i : Int) (kk : Int) : Prop := ∀ m, 1 ≤ m → m < kk → ¬ (p = wordJ m ∧ Rc.ok ⟨m, i⟩ = true)
theorem NoKind.step {p : List UInt8} {i kk : Int} (h : NoKind p i kk) (hk : ¬ (p = wordJ kk ∧ Rc.ok ⟨kk, i⟩ = true)) : NoKind p i (kk + 1) := fun m h1 h2 => by
  by_cases e : m = kk
  · subst e; exact hk
  · exact h m h1 (by omega)
theorem NoKind.no {p : List UInt8} {i : Int} (h : NoKind p i 5) : ¬ (kindJ p ≠ 0 ∧ Rc.ok ⟨kindJ p, i⟩ = true) := fun ⟨h0, h1⟩ => by
  obtain ⟨e, h2, h3⟩ := word_kindJ h0
  exact h (kindJ p) h2 (by omega) ⟨e.symm, h1⟩

set_option maxRecDepth 100000 in
set_option maxHeartbeats 1000000 in
theorem readLine_any (J n : Nat) (s : Int) (v : Value) (b c : Nat) (l : List UInt8) (w : World) (hj : JnAt w J v n s) (hr : BysAt w (some ⟨b, 0, none⟩) l) (hl : l.length ≤ 100000) (hlc : l.length ≤ c) (hcm : c ≤ maxLen) (hn : n < 1000) (hs : 0 ≤ s ∧ s < 65521) (hE : Env w) :
    Calls Tryz.prog 98 #[.pointer (some ⟨J, 0, none⟩), .slice (some ⟨b, 0, none⟩) l.length c] w (RetRcO w (readJ n s l)) := by
  have HJ := Lib.hid hj
  have HR := Lib.hid hr
  have HE := Lib.hid hE
  have hix := indexByte_line l
  clear hj hr hE
  go_enter Tryz.func98, Tryz.ntmps98
  go_wp2_with fail
  have HB0 := Lib.hid (ba1 w (.cells #[.int .i64 0, .int .i64 0] 59 (0, 0)))
  have HBX := Lib.hid (push_at w (.cells #[.int .i64 0, .int .i64 0] 59 (0, 0)))
  refine (Tryz.bytes_IndexByte b 0 l.length c (byInts l) 10 _ (byInts_len l) (fun i hi => (HR.out.below HB0.out).cells i hi)).mono ?_
  rintro e w1 ⟨rfl, rfl⟩
  rw [byInts_of, show ((10 : Int).toNat.toUInt8) = 10 from rfl, hix]
  cases hp : lineOf l with
  | none =>
    have HN := Lib.hid (readJ_none1 (n := n) (s := s) hp)
    obtain ⟨hc0, hf0⟩ := heap_cellR HBX.out
    clear hix hp
    go_wp2_with fail
    refine bodyPost_ret (v := .tuple #[.agg #[.int .i64 0, .int .i64 0], .bool false]) (by simp [results, Tryz.results98, go_sem, hc0]) rfl (retRcO_no HN.out ?_)
    exact HB0.out
  | some p =>
    have HP := Lib.hid hp
    obtain ⟨t, ht⟩ : ∃ t, l = p ++ 10 :: t := (lineOf_some l p hp).2
    have hpl : p.length < l.length := by rw [ht]; simp
    have HRP := Lib.hid (HR.out.take ht)
    clear hix hp ht
    simp only []
    go_wp2_with fail
    have HB1 := Lib.hid (ba2 w (.cells #[.int .i64 0, .int .i64 0] 59 (0, 0)) (.cells #[.int .u8 32] 5 (0, 0)))
    refine (bytesSplit_any b 0 p.length (w.heap.size + 1) 32 p _ (HE.out.next HB1.out) (HRP.out.below HB1.out) (bys_one (heap2 w _ _).2) (by omega) (Nat.le_refl _) (by omega)).mono ?_
    rintro e w2 ⟨vs, hps, rfl, hvs, hb2⟩
    have HB2 := Lib.hid (bt0 HB1.out hb2 (Nat.le_refl _))
    have HX2 := Lib.hid (blkK hb2 (heap2 w _ _).1)
    have HVS := Lib.hid hvs
    have HPS := Lib.hid hps
    have hlen := hps.1
    have hsz2 : w.heap.size + 1 + 1 < w2.heap.size := by have := blkLt hvs; simpa using this
    simp only [World.size_alloc] at HVS ⊢
    clear hps hvs hb2 HB1 HB0 HBX
    by_cases h4 : vs.length = 4
    · rw [h4]
      obtain ⟨p0, p1, p2, p3, hcut⟩ := cut4 (hlen.symm.trans h4)
      obtain ⟨o1, c1, hv1, hp1⟩ := HPS.out.2 1 p1 (by rw [hcut]; rfl)
      obtain ⟨o2, c2, hv2, hp2⟩ := HPS.out.2 2 p2 (by rw [hcut]; rfl)
      have hl1 : p1.length ≤ p.length := (cut_len 32 p).2 p1 (by rw [hcut]; simp)
      have hl2 : p2.length ≤ p.length := (cut_len 32 p).2 p2 (by rw [hcut]; simp)
      obtain ⟨hcv, hfv⟩ := heap_cellR HVS.out
      have hw2 : w2.cell? ⟨w.heap.size + 1 + 1, 2, none⟩ = some (.slice (some ⟨b, o2, none⟩) p2.length c2) := by rw [hcv]; simpa using hv2
      have hcn := conv_at (c := c2) hp2
      have HP1 := Lib.hid hp1
      have HCUT := Lib.hid hcut
      have HV1 := Lib.hid hv1
      clear hlen hcv hfv hv1 hv2 hp1 hp2 hcut
      go_wp2_with fail
      refine (readDecimal_any ⟨p2.toArray⟩ w2 (by show p2.length ≤ _; omega) (HE.out.next HB2.out)).mono ?_
      rintro e w3 ⟨v3, rfl, hv3, hb3⟩
      change ∀ n, rdec p2 = some n → v3 = n at hv3
      have HB3 := Lib.hid (bt0 HB2.out hb3 (Nat.le_refl _))
      have HX3 := Lib.hid (blkK hb3 HX2.out)
      have HVS3 := Lib.hid (blkK hb3 HVS.out)
      have HP1b := Lib.hid (HP1.out.below hb3)
      have hsz3 : w2.heap.size ≤ w3.heap.size := hb3.size
      clear hb3 hcn hw2 HX2
      cases hd : rdec p2 with
      | none =>
        have HN := Lib.hid (readJ_none3 (n := n) (s := s) HP.out HCUT.out hd)
        simp only [Option.isSome]
        clear hd hv3
        obtain ⟨hc0, hf0⟩ := heap_cellR HX3.out
        go_wp2_with fail
        refine bodyPost_ret (v := .tuple #[.agg #[.int .i64 0, .int .i64 0], .bool false]) (by simp [results, Tryz.results98, go_sem, hc0]) rfl (retRcO_no HN.out ?_)
        iterate 2 (refine Below.setCell ?_ (by dsimp only; omega) _)
        exact HB3.out
      | some i =>
        have HN := Lib.hid (readJ_some4 (n := n) (s := s) HP.out HCUT.out hd)
        obtain rfl : v3 = i := hv3 i hd
        simp only [Option.isSome]
        clear hd hv3
        go_wp2_with fail
        have HJ3 := Lib.hid (blkK HB3.out HJ.out)
        have HR3 := Lib.hid (HR.out.below HB3.out)
        have HE3 := Lib.hid (HE.out.next HB3.out)
        have hJ3 := blkLt HJ3.out
        have hz3 : w.heap.size ≤ w3.heap.size := HB3.out.size
        have hx3 := blkLt HX3.out
        clear hcm hpl HRP
        go_loopw [10, 11] (fun q _ wr => ∃ kk : Int, 1 ≤ kk ∧ kk ≤ 5 ∧ q = .int .i64 kk ∧ NoKind p1 v3 kk ∧ Below w3.heap.size w3 wr) (fun q _ _ => 5 - (intOf q).toNat)
        case atStart => exact ⟨1, by omega, by omega, rfl, fun m h1 h2 => by omega, Below.refl _ _⟩
        case round =>
          obtain ⟨kk, hk1, hk5, rfl, hno, hbr⟩ := hrel
          have HNO := Lib.hid hno
          have HBR := Lib.hid hbr
          have hzr := hbr.size
          clear hno hbr
          by_cases hk : kk ≤ 4
          · have HBW := Lib.hid (bt0 HBR.out (ba1 wr (.cells #[.int .i64 kk, .int .i64 v3] 59 (0, 0))) (Nat.le_refl _))
            have hvw := (heap_cellR (blkK HBW.out HVS3.out)).1
            have hv1 := hvw 1
            have hvl := blkLt (blkK HBW.out HVS3.out)
            rw [show vs.toArray[1]? = some (Value.slice (some ⟨b, o1, none⟩) p1.length c1) by simpa using HV1.out] at hv1
            have hbx := push_at wr (.cells #[.int .i64 kk, .int .i64 v3] 59 (0, 0))
            have HBX := Lib.hid hbx
            have hxc := (heap_cellR hbx).1
            have hxl := blkLt hbx
            have HPW := Lib.hid (HP1b.out.below HBW.out)
            clear hvw hbx
            go_wp2_with fail
            generalize wr.alloc (.cells #[.int .i64 kk, .int .i64 v3] 59 (0, 0)) = W at *
            have hcv : ∀ sx : Ext W, (convert 22 9 (.slice (some ⟨b, o1, none⟩) p1.length c1)).run Tryz.prog sx.w = .ok (.string ⟨p1.toArray⟩) sx.w := fun sx => conv_at (HPW.out.below sx.below)
            by_cases hm : p1 = wordJ kk ∧ isRecB kk v3 = true
            · obtain ⟨hm1, hm2⟩ := hm
              have h1 : (p1 == (wordJB kk).toList) = true := by rw [beq_iff_eq, ByteArray.toList_eq, wordJB_list]; exact hm1
              have HM := Lib.hid hm1
              clear hm1
              refine wp_region_ext (by kernel_rfl) (by kernel_rfl) ?_
              repeat (go_big_quiet_step (first | (go_at_call 121; go_must (apply calls_ext; apply recordWord_any <;> omega)) | (go_at_call 77; go_must (apply calls_ext; apply isRecord_val; assumption))))
              refine wpQuiet_nil ?_
              rintro _ ⟨sx, rfl⟩
              have HSX := Lib.hid (bt0 HBW.out sx.below (Nat.le_refl _))
              have HJX := Lib.hid (blkK HSX.out HJ3.out)
              have HXX := Lib.hid (blkK sx.below HBX.out)
              have hsl : W.heap.size ≤ sx.w.heap.size := sx.below.size
              have HOK := Lib.hid (show Rc.ok ⟨kk, v3⟩ = true from hm2)
              clear h1 hm2 hcv
              go_wp2_with fail
              refine (line_any J n s v ⟨kk, v3⟩ _ HJX.out HOK.out hn hs (HE3.out.next HSX.out).tab).mono ?_
              rintro e w6 ⟨a6, c6, l6, he6, rfl, ho6, hb6⟩
              have HB6 := Lib.hid (bt0 HSX.out hb6 (Nat.le_refl _))
              have HX6 := Lib.hid (blkK hb6 HXX.out)
              have HX0 := Lib.hid (blkK HB6.out HX3.out)
              have HL6 := Lib.hid he6
              have HPF : Hid (∀ W', Below w6.heap.size w6 W' → Calls Tryz.prog 123 #[.slice (some ⟨b, 0, none⟩) l.length c, .slice a6 l6.length c6] W' fun e w' => e = .returned (.bool (l6.isPrefixOf l)) ∧ w' = W') := Lib.hid (fun W' hb => hasPrefix_any ((HR3.out.below HB6.out).below hb) hlc (ho6.grown hb))
              have hx6 := blkLt HX6.out
              have hx0 := blkLt HX0.out
              clear he6 ho6 hb6 HXX HJX
              go_wp2_with fail
              obtain ⟨hc6, hf6⟩ := heap_cellR HX6.out
              obtain ⟨hc0, hf0⟩ := heap_cellR HX0.out
              have hne : wr.heap.size ≠ w.heap.size := by omega
              refine wp_region_rt (Keep := KB) [65, 66, 67, 68] (fun us => _)
                [spE (.agg #[.int .i64 kk, .int .i64 v3]),
                 spE (.slice (some ⟨b, 0, none⟩) l.length c),
                 spE (.slice a6 l6.length c6),
                 spE (.bool (l6.isPrefixOf l))]
                (StX w6) (by kernel_rfl) (by kernel_rfl) (Nat.le_of_ble_eq_true rfl) (fun us => by simp [over, List.mapIdx_cons]; exact rfl) (stX0 _) kbr ?_ ?_
              · refine ⟨?_, ?_, ?_, ?_, trivial⟩
                all_goals (intro us wx hst hd; rw [if_pos (by kernel_rfl)]; dsimp only)
                · clear hd
                  have hq6 := boxB hst hc6 hx6
                  go_simp
                  exact kb_same hst rfl
                · clear hd
                  go_simp
                  exact kb_same hst rfl
                · clear hd
                  go_simp
                  exact kb_same hst rfl
                · have d66 : us 66 = (.slice (some ⟨b, 0, none⟩) l.length c) := hd ⟨1, .data⟩ (by simp) rfl
                  have d67 : us 67 = (.slice a6 l6.length c6) := hd ⟨2, .data⟩ (by simp) rfl
                  clear hd
                  go_simp
                  exact (HPF.out _ hst).mono fun e w' ⟨he, hw⟩ => ⟨_, he, kb_below hst (hw ▸ Below.refl _ _) rfl⟩
              · intro us wx hst hd
                have d65 : us 65 = (.agg #[.int .i64 kk, .int .i64 v3]) := hd 0 (by simp)
                have d68 : us 68 = (.bool (l6.isPrefixOf l)) := hd 3 (by simp)
                clear hd
                simp only [List.drop, List.length]
                rw [d65, d68]
                have hq0 := boxB hst hc0 hx0
                have fq0 := freeB hst hf0 hx0
                have HBX6 := Lib.hid (bt0 HB3.out (bt0 HB6.out hst (Nat.le_refl _)) (Nat.le_refl _))
                have hkk : kindJ p1 = kk := by rw [HM.out]; exact kindJ_word hk1 hk
                have HF : Hid (readJ n s l = if l6.isPrefixOf l = true then some ⟨kk, v3⟩ else none) := Lib.hid (by
                  rw [HN.out, hkk, ← HL6.out]
                  have h0 : kk ≠ 0 := by omega
                  simp only [HOK.out, ne_eq, h0, not_false_eq_true, true_and])
                clear hst hc6 hf6 hc0 hf0 hkk
                go_wp2_with fail
                obtain ⟨px, hpx⟩ : ∃ px, l6.isPrefixOf l = px := ⟨_, rfl⟩
                rw [hpx] at HF
                refine bodyPost_ret (v := .tuple #[.agg #[.int .i64 kk, .int .i64 v3], .bool px]) (by simp [results, Tryz.results98, go_sem, hq0, hpx]) rfl ?_
                rw [HF.out]
                have hb9 : Below w.heap.size w ((wx.setCell ⟨w.heap.size, 0, none⟩ (.int .i64 kk)).setCell ⟨w.heap.size, 1, none⟩ (.int .i64 v3)) := (HBX6.out.setCell (Nat.le_refl _) _).setCell (Nat.le_refl _) _
                cases px with
                | false => exact retRcO_no rfl hb9
                | true => exact ⟨kk, v3, rfl, fun r e => by cases e; exact ⟨rfl, rfl⟩, hb9⟩
            · have HNX := Lib.hid (HNO.out.step hm)
              by_cases hw1 : p1 = wordJ kk
              · have h2 : isRecB kk v3 = false := by
                  cases h : isRecB kk v3 with
                  | false => rfl
                  | true => exact absurd ⟨hw1, h⟩ hm
                have h1 : (p1 == (wordJB kk).toList) = true := by rw [beq_iff_eq, ByteArray.toList_eq, wordJB_list]; exact hw1
                clear hm hw1
                refine wp_region_ext (by kernel_rfl) (by kernel_rfl) ?_
                repeat (go_big_quiet_step (first | (go_at_call 121; go_must (apply calls_ext; apply recordWord_any <;> omega)) | (go_at_call 77; go_must (apply calls_ext; apply isRecord_val; assumption))))
                refine wpQuiet_nil ?_
                rintro _ ⟨sx, rfl⟩
                have hsl : W.heap.size ≤ sx.w.heap.size := sx.below.size
                go_wp2_with fail
                exact ⟨⟨kk + 1, by omega, by omega, by go_num, HNX.out, bt0 HBW.out sx.below (Nat.le_refl _)⟩, by simp [intOf]; omega⟩
              · have h1 : (p1 == (wordJB kk).toList) = false := by
                  rw [beq_eq_false_iff_ne, ne_eq, ByteArray.toList_eq, wordJB_list]; exact hw1
                clear hm hw1
                refine wp_region_ext (by kernel_rfl) (by kernel_rfl) ?_
                repeat (go_big_quiet_step (first | (go_at_call 121; go_must (apply calls_ext; apply recordWord_any <;> omega)) | (go_at_call 77; go_must (apply calls_ext; apply isRecord_val; assumption))))
                refine wpQuiet_nil ?_
                rintro _ ⟨sx, rfl⟩
                have hsl : W.heap.size ≤ sx.w.heap.size := sx.below.size
                go_wp2_with fail
                exact ⟨⟨kk + 1, by omega, by omega, by go_num, HNX.out, bt0 HBW.out sx.below (Nat.le_refl _)⟩, by simp [intOf]; omega⟩
          · obtain ⟨hc0, hf0⟩ := heap_cellR (blkK HBR.out HX3.out)
            obtain rfl : kk = 5 := by omega
            have HN9 := Lib.hid (HN.out.trans (if_neg (fun h => HNO.out.no ⟨h.1, h.2.1⟩)))
            go_wp2_with fail
            refine bodyPost_ret (v := .tuple #[.agg #[.int .i64 0, .int .i64 0], .bool false]) (by simp [results, Tryz.results98, go_sem, hc0]) rfl (retRcO_no HN9.out ?_)
            iterate 2 (refine Below.setCell ?_ (by dsimp only; omega) _)
            exact bt0 HB3.out HBR.out (Nat.le_refl _)
    · have HN := Lib.hid (readJ_none2 (n := n) (s := s) HP.out (by rw [← hlen]; exact h4))
      have h4' : ((vs.length : Int) != 4) = true := by simp; omega
      obtain ⟨hc0, hf0⟩ := heap_cellR HX2.out
      clear hlen h4
      go_wp2_with fail
      refine bodyPost_ret (v := .tuple #[.agg #[.int .i64 0, .int .i64 0], .bool false]) (by simp [results, Tryz.results98, go_sem, hc0]) rfl (retRcO_no HN.out ?_)
      iterate 2 (refine Below.setCell ?_ (by dsimp only; omega) _)
      exact HB2.out

end Go.Proofs.YtkmfgchbfchdbaaGreatDoor
namespace Go.Proofs.YtkmfgchbfchdbaaGreatDoor
open Go.RowKit

/-! Rows of things that take k cells each. -/
structure Enc (α : Type) where
  enc : α → List Value
  k : Nat
  t : TypeId
  bytes : Nat
  len : ∀ x, (enc x).length = k
  one : ∀ x, ∀ u ∈ enc x, u.oneCell' = true
  pos : 0 < k
variable {α : Type} {E : Enc α}

/-- the slice v is the call's own and holds the things xs -/
def Enc.Own (E : Enc α) (w : World) (base : Nat) (v : Value) (xs : List α) : Prop := w.ownsRow base E.t E.k v xs.length (xs.flatMap E.enc)
/-- the things xs lie at a -/
def Enc.At (E : Enc α) (w : World) (a : Option Addr) (xs : List α) : Prop := ∀ i x, xs[i]? = some x → ∃ b o, a = some ⟨b, o, none⟩ ∧ ∀ j u, (E.enc x)[j]? = some u → w.cell? ⟨b, o + (i * E.k + j), none⟩ = some u
theorem Enc.At.below {w w' : World} {a : Option Addr} {xs : List α} (h : E.At w a xs) (hb : Below w.heap.size w w') : E.At w' a xs := fun i x hx => by
  obtain ⟨b, o, e, hc⟩ := h i x hx
  exact ⟨b, o, e, fun j u hu => by rw [hb.cell (p := ⟨b, _, none⟩) (lt_of_cell (hc j u hu))]; exact hc j u hu⟩
theorem Enc.At.nil {w : World} {a : Option Addr} : E.At w a [] := fun i x hx => by simp at hx
theorem Enc.flat (E : Enc α) : ∀ (xs : List α) (i : Nat) (x : α), xs[i]? = some x → ∀ j u, (E.enc x)[j]? = some u → (xs.flatMap E.enc)[i * E.k + j]? = some u
  | [], i, x, h, _, _, _ => by simp at h
  | y :: xs, 0, x, h, j, u, hu => by
    simp at h
    subst h
    rw [List.flatMap_cons, Nat.zero_mul, Nat.zero_add, List.getElem?_append_left (List.getElem?_eq_some_iff.1 hu).1, hu]
  | y :: xs, i + 1, x, h, j, u, hu => by
    have ih := E.flat xs i x (by simpa using h) j u hu
    have hl := E.len y
    have e : (i + 1) * E.k = i * E.k + E.k := Nat.succ_mul i E.k
    rw [List.flatMap_cons, List.getElem?_append_right (by omega), ← ih]
    congr 1
    omega
theorem Enc.flat_len (E : Enc α) : ∀ xs : List α, (xs.flatMap E.enc).length = xs.length * E.k
  | [] => by simp
  | x :: xs => by rw [List.flatMap_cons, List.length_append, E.flat_len xs, E.len, List.length_cons, Nat.succ_mul]; omega
theorem Enc.Own.at {w : World} {base : Nat} {a : Option Addr} {n c : Nat} {xs : List α} (h : E.Own w base (.slice a n c) xs) : E.At w a xs := by
  intro i x hx
  have hi : i < xs.length := (List.getElem?_eq_some_iff.1 hx).1
  rcases h.2 with ⟨h1, h0⟩ | ⟨g, cap, cur, h1, hb, hg, q1, q2, q3, q4⟩
  · omega
  · simp only [Value.slice.injEq] at h1
    obtain ⟨rfl, rfl, rfl⟩ := h1
    refine ⟨g, 0, rfl, fun j u hu => ?_⟩
    have hj : j < E.k := by rw [← E.len x]; exact (List.getElem?_eq_some_iff.1 hu).1
    have hlt : i * E.k + j < xs.length * E.k := by
      have := Nat.mul_le_mul_right E.k (show i + 1 ≤ xs.length from hi)
      rw [Nat.succ_mul] at this; omega
    rw [Nat.zero_add, World.ownsRow.cellAt h (i * E.k + j) hlt]
    exact E.flat xs i x hx j u hu
theorem Enc.Own.read {w : World} {base : Nat} {v : Value} {xs : List α} (h : E.Own w base v xs) : ∃ a c, v = .slice a xs.length c := by
  rcases h.2 with ⟨rfl, h0⟩ | ⟨g, cap, cur, rfl, _⟩
  · exact ⟨none, 0, by rw [h0]⟩
  · exact ⟨_, _, rfl⟩
theorem Enc.Own.lo {w : World} {base : Nat} {v : Value} {xs : List α} (h : E.Own w base v xs) : ∀ k, v.ownBlock = some k → base ≤ k := fun k hk => (World.ownsRow.lt h k hk).1
theorem Enc.Own.hi {w : World} {base : Nat} {v : Value} {xs : List α} (h : E.Own w base v xs) : ∀ k, v.ownBlock = some k → k < w.heap.size := fun k hk => (World.ownsRow.lt h k hk).2
theorem Enc.Own.other {w w' : World} {base : Nat} {v : Value} {xs : List α} {row : Option Nat} (h : E.Own w base v xs) (hg : w.grownBy w' row) (hne : ∀ k, v.ownBlock = some k → row ≠ some k) : E.Own w' base v xs :=
  h.kept hg (by
    cases hv : v.ownBlock with
    | none => exact Or.inl rfl
    | some k => exact Or.inr (fun e => hne k hv e.symm))
theorem Enc.Own.src {w w' : World} {base b : Nat} {v : Value} {xs : List α} (h : E.Own w base v xs) (hb : b < base) (hg : w.grownBy w' (some b)) : E.Own w' base v xs :=
  h.other hg (fun k hk e => by have := h.lo k hk; have := Option.some.inj e; omega)
theorem Enc.Own.grown {w w' : World} {base : Nat} {v : Value} {xs : List α} (h : E.Own w base v xs) (hb : Below w.heap.size w w') : E.Own w' base v xs :=
  h.other (row := none) ⟨hb.os, hb.tape, hb.output, hb.size, fun k hk _ => hb.block k hk⟩ (fun k _ e => by cases e)
theorem Enc.Own.weak {w : World} {base base' : Nat} {v : Value} {xs : List α} (h : E.Own w base v xs) (hb : base' ≤ base) : E.Own w base' v xs := by
  refine ⟨h.1, ?_⟩
  rcases h.2 with h2 | ⟨g, cap, cur, h1, hb', r⟩
  · exact Or.inl h2
  · exact Or.inr ⟨g, cap, cur, h1, by omega, r⟩
theorem Enc.Own.snoc {w : World} {base : Nat} {v : Value} {xs : List α} {x : α} (h : w.ownsRow base E.t E.k v (xs.length + 1) (xs.flatMap E.enc ++ E.enc x)) : E.Own w base v (xs ++ [x]) := by
  unfold Enc.Own
  rw [List.length_append, List.flatMap_append]
  simpa using h
theorem Enc.Own.nil (E : Enc α) (w : World) (base : Nat) : E.Own w base (.slice none 0 0) [] := World.ownsRow_nil _ _ _ _
theorem Enc.Own.new (E : Enc α) (w : World) : E.Own (w.alloc (.cells #[] E.t (0, 0))) w.heap.size (.slice (some ⟨w.heap.size, 0, none⟩) 0 0) [] :=
  World.ownsRow_lit (base := w.heap.size) (size := E.k) w #[] 0 (Nat.le_refl _) (by unfold maxLen; omega) (by simp)
/-- a block with one thing -/
theorem Enc.new_at (E : Enc α) {w : World} {g : Nat} {x : α} {C : Array Value} {t : TypeId} (h : w.heap[g]? = some (.cells C t (0, 0))) (hC : C.toList = E.enc x) : ∀ j u, (E.enc x)[j]? = some u → w.cell? ((⟨g, 0, none⟩ : Addr).add j) = some u := by
  intro j u hu
  rw [Addr.add_lit, Nat.zero_add, (heap_cellR h).1, ← hu, ← hC]
  simp

/-- append of one thing to things of the call's own -/
theorem wpList_append_e (E : Enc α) {P : Program} {ops : Array Oper} {rest : List Oper} {o : Oper} {a : Act} {Q : Exit → Act → World → Prop} {W : World} (hgd : o.guard = none) (s x : Operand) (T : TypeId)
    (ho : o.op = .call { callee := .builtin .append, args := #[s, x], argTypes := #[T, T] }) (hT : P.underlying T = some (.slice E.t)) (i0 : TypeInfo) (z : Value) (hi : P.info? E.t = some i0) (y0 : i0.zero = some z) (y1 : i0.size = E.k) (y2 : i0.bytes = E.bytes) (y3 : z.cells.size = E.k) (hby : E.bytes ≤ 4096)
    (base : Nat) (v : Value) (xs : List α) (y : α) (hs : a.eval s = v) (hown : E.Own W base v xs) (g : Nat) (C : Array Value) (hx : a.eval x = .slice (some ⟨g, 0, none⟩) 1 1)
    (hg : W.heap[g]? = some (.cells C E.t (0, 0))) (hC : C.toList = E.enc y) (hl : xs.length ≤ 1000000000) (hb : base ≤ W.heap.size)
    (h : ∀ a' c' xs' w', xs' = xs ++ [y] → E.Own w' base (.slice a' xs'.length c') xs' → W.grownBy w' v.ownBlock → Below base W w' → wpList P ops Q rest (a.put o.dst (.slice a' xs'.length c')) w') : wpList P ops Q (o :: rest) a W := by
  refine wpList_append_own _ hgd s x T ho base E.t i0 z E.k E.bytes hT hi y0 y1 y2 y3 E.pos v xs.length (xs.flatMap E.enc) hs hown ⟨g, 0, none⟩ 1 1 (E.enc y) hx (by rw [E.len, Nat.one_mul]) (E.new_at hg hC) (E.one y) (by unfold maxLen; omega) ?_ hb ?_
  · calc (xs.length + 1) * E.bytes ≤ (xs.length + 1) * 4096 := Nat.mul_le_mul_left _ hby
      _ ≤ 140737488355328 := by omega
  · intro v' w' h1 h2 _
    have h3 := Enc.Own.snoc h1
    obtain ⟨a', c', rfl⟩ := h3.read
    exact h a' c' _ w' rfl h3 h2 (below_of_grownBy h2 hb (fun k hk => hown.lo k hk))

end Go.Proofs.YtkmfgchbfchdbaaGreatDoor
namespace Go.Proofs.YtkmfgchbfchdbaaGreatDoor
open Go.RowKit

/-- rows of records -/
def rcE : Enc Rc where
  enc r := [.int .i64 r.k, .int .i64 r.n]
  k := 2
  t := 59
  bytes := 16
  len _ := rfl
  one := by
    intro r u hu
    simp only [List.mem_cons, List.not_mem_nil, or_false] at hu
    rcases hu with rfl | rfl <;> rfl
  pos := by decide
theorem infoRc : (Tryz.prog.info? 59).map (fun i => (i.zero, i.size, i.bytes)) = some (some (.agg #[.int .i64 0, .int .i64 0]), 2, 16) := by kernel_rfl
/-- a record in memory -/
theorem rc_at {w : World} {a : Option Addr} {l : List Rc} (h : rcE.At w a l) {i : Nat} {r : Rc} (hr : l[i]? = some r) : ∃ b o, a = some ⟨b, o, none⟩ ∧ b < w.heap.size ∧ w.cell? ⟨b, o + i * 2, none⟩ = some (.int .i64 r.k) ∧ w.cell? ⟨b, o + i * 2 + 1, none⟩ = some (.int .i64 r.n) := by
  obtain ⟨b, o, e, hc⟩ := h i r hr
  have h0 : w.cell? ⟨b, o + i * 2, none⟩ = some (.int .i64 r.k) := hc 0 _ rfl
  exact ⟨b, o, e, lt_of_cell h0, h0, hc 1 _ rfl⟩

/-- append of one record to records of the call's own -/
theorem wpList_append_rc {ops : Array Oper} {rest : List Oper} {o : Oper} {a : Act} {Q : Exit → Act → World → Prop} {W : World} (hgd : o.guard = none) (s x : Operand)
    (ho : o.op = .call { callee := .builtin .append, args := #[s, x], argTypes := #[47, 47] })
    (base : Nat) (v : Value) (xs : List Rc) (y : Rc) (hs : a.eval s = v) (hown : rcE.Own W base v xs) (g : Nat) (hx : a.eval x = .slice (some ⟨g, 0, none⟩) 1 1)
    (hg : W.heap[g]? = some (.cells #[.int .i64 y.k, .int .i64 y.n] 59 (0, 0))) (hl : xs.length ≤ 1000000000) (hb : base ≤ W.heap.size)
    (h : ∀ a' c' xs' w', xs' = xs ++ [y] → rcE.Own w' base (.slice a' xs'.length c') xs' → W.grownBy w' v.ownBlock → Below base W w' → wpList Tryz.prog ops Q rest (a.put o.dst (.slice a' xs'.length c')) w') : wpList Tryz.prog ops Q (o :: rest) a W := by
  obtain ⟨i0, hi, y0, y1, y2⟩ := info_parts infoRc
  exact wpList_append_e rcE hgd s x _ ho Tryz.underlying47 i0 _ hi y0 y1 y2 rfl (by decide) base v xs y hs hown g _ hx hg rfl hl hb h

end Go.Proofs.YtkmfgchbfchdbaaGreatDoor
namespace Go.Proofs.YtkmfgchbfchdbaaGreatDoor
open Go.RowKit

theorem recJ_some {f n : Nat} {s : Int} {rest : List UInt8} {r : Rc} (h : readJ n s rest = some r) : recJ (f + 1) n s rest = r :: recJ f (n + 1) (nextJ n s r) (rest.drop ((lineJ n s r).length + 1)) := by rw [recJ, h]
theorem recJ_none {f n : Nat} {s : Int} {rest : List UInt8} (h : readJ n s rest = none) : recJ f n s rest = [] := by
  cases f with
  | zero => rw [recJ]
  | succ f => rw [recJ, h]
theorem bysWorld_at (w : World) (s : ByteArray) : BysAt (Lib.bytesWorld w 5 s) (some ⟨w.heap.size, 0, none⟩) s.data.toList := by
  intro i x hx
  have hi : i < s.size := (List.getElem?_eq_some_iff.1 hx).1
  refine ⟨w.heap.size, 0, rfl, ?_⟩
  rw [Nat.zero_add, Lib.bytesWorld_cell w _ s i hi, List.getD_eq_getElem?_getD, hx]; rfl
theorem row_type {w : World} {base n size g : Nat} {t : TypeId} {v : Value} {xs : List Value} (h : w.ownsRow base t size v n xs) (hg : v.ownBlock = some g) : ∃ cur, w.heap[g]? = some (.cells cur t (0, 0)) := by
  rcases h.2 with ⟨rfl, _⟩ | ⟨g', cap, cur, rfl, _, hg', _⟩
  · simp [Value.ownBlock] at hg
  · simp [Value.ownBlock] at hg; subst hg; exact ⟨cur, hg'⟩
theorem rows_apart {w : World} {b1 n1 s1 b2 n2 s2 g : Nat} {t1 t2 : TypeId} {v1 v2 : Value} {xs ys : List Value} (h1 : w.ownsRow b1 t1 s1 v1 n1 xs) (h2 : w.ownsRow b2 t2 s2 v2 n2 ys) (ht : t1 ≠ t2) (hg : v1.ownBlock = some g) : v2.ownBlock ≠ some g := fun h => by
  obtain ⟨c1, e1⟩ := row_type h1 hg
  obtain ⟨c2, e2⟩ := row_type h2 h
  rw [e1] at e2
  simp only [Option.some.injEq, Obj.cells.injEq] at e2
  exact ht e2.2.1
theorem JSt.other {w w' : World} {J n : Nat} {s : Int} {l : List UInt8} {v : Value} {base : Nat} {xs : List Rc} (h : JSt w J n s l) (hx : rcE.Own w base v xs) (hJ : J < base) (hg : w.grownBy w' v.ownBlock) : JSt w' J n s l := by
  obtain ⟨a, c, h1, h2⟩ := h
  refine ⟨a, c, (hg.block J (blkLt h1) (fun e => by have := hx.lo _ e.symm; omega)).trans h1, h2.other hg (fun k hk e => ?_)⟩
  exact rows_apart h2 hx (by decide) hk e

/-- what stands at the beginning of a round of recovered -/
structure RcvSt (w : World) (s : List UInt8) (l : List Rc) (a : Option Addr) (c : Nat) (wr : World) : Prop where
  ok : ∀ r ∈ l, r.ok = true
  len : l.length ≤ 300
  got : recJ 300 0 0 s = l ++ recJ (300 - l.length) l.length (lastJ 0 0 l) (s.drop (textJ 0 0 l).length)
  fit : (textJ 0 0 l).length ≤ s.length
  own : rcE.Own wr (w.heap.size + 1) (.slice a l.length c) l
  jn : JSt wr w.heap.size l.length (lastJ 0 0 l) (textJ 0 0 l)
  bel : Below w.heap.size w wr
theorem RcvSt.next {w : World} {s : List UInt8} {l : List Rc} {a a' : Option Addr} {c c' : Nat} {wr wz : World} {r : Rc} (h : RcvSt w s l a c wr) (hl : l.length < 300) (hr : readJ l.length (lastJ 0 0 l) (s.drop (textJ 0 0 l).length) = some r)
    (own : rcE.Own wz (w.heap.size + 1) (.slice a' (l ++ [r]).length c') (l ++ [r])) (jn : JSt wz w.heap.size (l.length + 1) (nextJ l.length (lastJ 0 0 l) r) (textJ 0 0 l ++ (lineJ l.length (lastJ 0 0 l) r ++ [10]))) (bel : Below w.heap.size w wz) : RcvSt w s (l ++ [r]) a' c' wz := by
  obtain ⟨hok, t, ht⟩ := (readJ_iff _ _ _ _).1 hr
  have e1 : textJ 0 0 (l ++ [r]) = textJ 0 0 l ++ (lineJ l.length (lastJ 0 0 l) r ++ [10]) := by rw [textJ_snoc, Nat.zero_add]
  have e2 : lastJ 0 0 (l ++ [r]) = nextJ l.length (lastJ 0 0 l) r := by rw [lastJ_snoc, Nat.zero_add]
  refine ⟨?_, by simp; omega, ?_, ?_, own, ?_, bel⟩
  · intro x hx
    rcases List.mem_append.1 hx with hx | hx
    · exact h.ok x hx
    · simp at hx; subst hx; exact hok
  · rw [h.got, show 300 - l.length = (300 - (l.length + 1)) + 1 by omega, recJ_some hr, e2, e1, List.drop_drop]
    simp
  · have := congrArg List.length ht
    rw [e1]
    simp only [List.length_drop, List.length_append, List.length_cons, List.length_nil] at this ⊢
    have := h.fit
    omega
  · rw [e1, e2]; simpa using jn

set_option maxRecDepth 100000 in
set_option pp.deepTerms true in
set_option maxHeartbeats 1000000 in
theorem recovered_any (s : ByteArray) (w : World) (hs : s.size ≤ 20000) (hE : Env w) :
    Calls Tryz.prog 73 #[.string s] w fun e w' => ∃ a c l, l = recJ 300 0 0 s.data.toList ∧ e = .returned (.tuple #[.slice a l.length c, .pointer (some ⟨w.heap.size, 0, none⟩)]) ∧ RcvSt w s.data.toList l a c w' := by
  have HE := Lib.hid hE
  have hsl : s.data.toList.length = s.size := rfl
  clear hE
  have HR0 : Hid (RcvSt w s.data.toList [] (some ⟨w.heap.size + 1, 0, none⟩) 0 ((w.alloc (.cells #[.slice none 0 0, .int .i64 0, .int .i64 0] 140 (0, 0))).alloc (.cells #[] 59 (0, 0)))) := Lib.hid (by
    refine ⟨by simp, by simp, by simp [lastJ, textJ], by simp [textJ], ?_, ⟨none, 0, (heap2 w _ _).1, OwnB.nil _ _⟩, ba2 w _ _⟩
    have h := Enc.Own.new rcE (w.alloc (.cells #[.slice none 0 0, .int .i64 0, .int .i64 0] 140 (0, 0)))
    rw [World.size_alloc] at h
    exact h)
  go_enter Tryz.func73, Tryz.ntmps73
  go_wp2_with fail
  go_loopw [5, 6, 7] (fun q _ _ wr => ∃ (l : List Rc) (a : Option Addr) (c : Nat), q = .slice a l.length c ∧ RcvSt w s.data.toList l a c wr) (fun q _ _ _ => 300 - (match q with | .slice _ n _ => n | _ => 0))
  case atStart => exact ⟨[], _, 0, rfl, HR0.out⟩
  case round =>
    clear HR0
    obtain ⟨l, a, c, rfl, hst⟩ := hrel
    have HST := Lib.hid hst
    by_cases hlt : l.length < 300
    · obtain ⟨ja, jc, hj1, hj2⟩ := hst.jn
      obtain ⟨hcj, hfj⟩ := heap_cellR hj1
      have hfit := hst.fit
      rw [hsl] at hfit
      have hwz : w.heap.size ≤ wr.heap.size := hst.bel.size
      have hwl := blkLt hj1
      clear hst hj1 hj2
      obtain ⟨N, hN⟩ : ∃ N, (textJ 0 0 l).length = N := ⟨_, rfl⟩
      rw [hN] at hcj hfit
      have HN := Lib.hid hN
      obtain ⟨rs, hrs⟩ : ∃ rs, s.extract N s.size = rs := ⟨_, rfl⟩
      have hrl : rs.data.toList = s.data.toList.drop N := by
        rw [← hrs]
        simp only [ByteArray.data_extract, Array.toList_extract, List.extract_eq_take_drop]
        rw [List.take_of_length_le]
        simp [hsl]
      have hrz : rs.size ≤ 20000 := by
        have h1 := congrArg List.length hrl
        rw [List.length_drop] at h1
        have h2 : rs.data.toList.length = rs.size := rfl
        omega
      have hcv := Lib.run_convert_string_bytes (P := Tryz.prog) wr 9 22 5 rs Tryz.underlying9 Tryz.underlying22 Tryz.underlying5
      have HRL := Lib.hid hrl
      have HBB := Lib.hid (Lib.bytesWorld_below wr 5 rs)
      have hwB : (Lib.bytesWorld wr 5 rs).heap.size = wr.heap.size + 1 := Lib.bytesWorld_size _ _ _
      have HAT := Lib.hid (bysWorld_at wr rs)
      have HCG := Lib.hid (show rs.size ≤ grownCap wr rs.size 0 5 ∧ grownCap wr rs.size 0 5 ≤ maxLen from ⟨grownCap_ge _ _ _ _, grownCap_le_maxLen _ _ _ _ (by unfold maxLen; omega)⟩)
      clear hN hrl
      go_wp2_with fail
      obtain ⟨WB, hWB⟩ : ∃ WB, Lib.bytesWorld wr 5 rs = WB := ⟨_, rfl⟩
      rw [hWB] at HBB hwB HAT ⊢
      obtain ⟨G, hG⟩ : ∃ G, grownCap wr rs.size 0 5 = G := ⟨_, rfl⟩
      rw [hG] at HCG ⊢
      obtain ⟨ja2, jc2, hj1, hj2⟩ := HST.out.jn.below HBB.out
      have hlr := lastJ_range l 0 (s := 0) (by omega)
      refine (readLine_any w.heap.size l.length (lastJ 0 0 l) _ wr.heap.size G rs.data.toList WB hj1 HAT.out (by show rs.size ≤ _; omega) HCG.out.1 HCG.out.2 (by omega) hlr (HE.out.next (bt0 HST.out.bel HBB.out (Nat.le_refl _)))).mono ?_
      rintro e w4 ⟨rk, ri, rfl, hrk, hb4⟩
      have HB4 := Lib.hid (bt0 (bt0 HST.out.bel HBB.out (Nat.le_refl _)) hb4 (Nat.le_refl _))
      have HBR4 := Lib.hid (HBB.out.trans (hb4.mono (by omega)))
      have hw4 := hb4.size
      clear hcv hcj hfj hrs hWB hG hb4 hj1 hj2
      cases hrd : readJ l.length (lastJ 0 0 l) rs.data.toList with
      | none =>
        have HN2 := Lib.hid hrd
        simp only [Option.isSome]
        clear hrd hrk
        go_wp2_with fail
        go_ret2
        refine ⟨a, c, l, ?_, rfl, HST.out.ok, HST.out.len, HST.out.got, HST.out.fit, HST.out.own.grown ?_, HST.out.jn.below ?_, ?_⟩
        · have h1 := HST.out.got
          rw [HN.out, ← HRL.out, recJ_none HN2.out, List.append_nil] at h1
          exact h1.symm
        · exact HBR4.out.trans ((ba1 w4 _).mono (by omega))
        · exact HBR4.out.trans ((ba1 w4 _).mono (by omega))
        · exact HB4.out.trans ((ba1 w4 _).mono (by omega))
      | some r =>
        obtain ⟨rfl, rfl⟩ := hrk r hrd
        have HN2 := Lib.hid hrd
        have hw4b : w.heap.size < w4.heap.size := by omega
        have HBX := Lib.hid (heap2 w4 (.cells #[.int .i64 r.k, .int .i64 r.n] 59 (0, 0)) (.cells #[.int .i64 r.k, .int .i64 r.n] 59 (0, 0)))
        have hb5 := ba2 w4 (.cells #[.int .i64 r.k, .int .i64 r.n] 59 (0, 0)) (.cells #[.int .i64 r.k, .int .i64 r.n] 59 (0, 0))
        have HBR5 := Lib.hid (HBR4.out.trans (hb5.mono (by omega)))
        have HB5 := Lib.hid (HB4.out.trans (hb5.mono (by omega)))
        simp only [Option.isSome]
        clear hrd hrk hb5
        go_wp2_with (at_builtin; refine wpList_append_rc (o := _) (s := .tmp 29) (x := .tmp 31) rfl rfl (w.heap.size + 1) (.slice a l.length c) l r rfl (HST.out.own.grown HBR5.out) (w4.heap.size + 1) rfl HBX.out.2 (by omega) (by simp; omega) ?h9)
        case h9 =>
        intro a6 c6 l6 w6 he6 ho6 hg6 hb6
        have hown4 := HST.out.own.grown HBR5.out
        have hb4n : some w4.heap.size ≠ (Value.slice a l.length c).ownBlock := fun e => by
          have := Enc.Own.hi HST.out.own _ e.symm
          omega
        have hbx6 := (hg6.block w4.heap.size (by simp; omega) (fun e => hb4n e)).trans HBX.out.1
        have hc6 := (heap_cellR hbx6).1
        have HJ6 := Lib.hid ((HST.out.jn.below HBR5.out).other hown4 (Nat.lt_succ_self _) hg6)
        have HB6 := Lib.hid (HB5.out.trans (hb6.mono (Nat.le_succ _)))
        have HO6 := Lib.hid ho6
        have HL6 := Lib.hid he6
        have hz6 : w4.heap.size < w6.heap.size := blkLt hbx6
        clear hown4 hb4n hg6 hb6 ho6 he6 hbx6
        go_wp2_with fail
        have hlx : (textJ 0 0 l).length ≤ 100000 := by have := HST.out.fit; omega
        refine (add_any w.heap.size l.length (lastJ 0 0 l) (textJ 0 0 l) r _ HJ6.out ((readJ_iff _ _ _ _).1 HN2.out).1 (by omega) hlr hlx (HE.out.next HB6.out).tab).mono ?_
        rintro e w7 ⟨rfl, hj7, hg7⟩
        have HJ7 := Lib.hid hj7
        have HO7 := Lib.hid (HO6.out.src (Nat.lt_succ_self _) hg7)
        have HB7 := Lib.hid (HB6.out.trans (below_of_grownBy hg7 (by omega) (fun k e => by cases e; exact Nat.le_refl _)))
        clear hj7 hg7 hc6 hlx
        go_wp2_with fail
        refine ⟨⟨l6, a6, c6, rfl, ?_⟩, ?_⟩
        · have e6 := HL6.out
          have ho7 := HO7.out
          subst e6
          exact HST.out.next hlt (by rw [HN.out, ← HRL.out]; exact HN2.out) ho7 HJ7.out HB7.out
        · have := congrArg List.length HL6.out
          simp at this
          show 300 - l6.length < 300 - l.length
          omega
    · have hl300 : l.length = 300 := by have := hst.len; omega
      clear hst
      go_wp2_with fail
      go_ret2
      exact ⟨a, c, l, by have := HST.out.got; rw [hl300, Nat.sub_self, recJ, List.append_nil] at this; exact this.symm, rfl, HST.out⟩

end Go.Proofs.YtkmfgchbfchdbaaGreatDoor
namespace Go.Proofs.YtkmfgchbfchdbaaGreatDoor
open Go.RowKit

/-- the records of the longest journal with which a text begins -/
def recS (s : ByteArray) : List Rc := if 20000 < s.size then [] else recJ 300 0 0 s.data.toList
def overS (s : ByteArray) : Bool := decide (20000 < s.size)
/-- the journal of records as a text -/
def textB (l : List Rc) : ByteArray := ⟨(textJ 0 0 l).toArray⟩
theorem textB_size (l : List Rc) : (textB l).size = (textJ 0 0 l).length := rfl
/-- what RecoverJournal answers -/
def RetRJ (w : World) (s : ByteArray) (e : Ending) (w' : World) : Prop := ∃ a c l, l = recS s ∧ e = .returned (.tuple #[.slice a l.length c, .int .i64 (if overS s = true then 0 else (s.size : Int) - ((textJ 0 0 l).length : Int)), .int .i64 (if overS s = true then 3 else 0)]) ∧ rcE.Own w' w.heap.size (.slice a l.length c) l ∧ Below w.heap.size w w'
theorem recS_prop (s : ByteArray) : (∀ r ∈ recS s, r.ok = true) ∧ (recS s).length ≤ 300 ∧ ∃ t, s.data.toList = textJ 0 0 (recS s) ++ t := by
  unfold recS
  split
  · exact ⟨by simp, by simp, _, by simp [textJ]; rfl⟩
  · exact recJ_prop 300 0 0 s.data.toList
theorem recS_len (s : ByteArray) : (textJ 0 0 (recS s)).length ≤ s.size := by
  obtain ⟨_, _, t, ht⟩ := recS_prop s
  have := congrArg List.length ht
  rw [List.length_append] at this
  have h2 : s.data.toList.length = s.size := rfl
  omega

set_option maxRecDepth 100000 in
set_option maxHeartbeats 1000000 in
theorem recoverJournal_any (s : ByteArray) (w : World) (hs : s.size ≤ 1048576) (hE : Env w) :
    Calls Tryz.prog 42 #[.string s] w (RetRJ w s) := by
  have HE := Lib.hid hE
  clear hE
  by_cases hb : 20000 < s.size
  · have h1 : (20000 : Int) < (s.size : Int) := by omega
    have HO : Hid (overS s = true) := Lib.hid (by simpa [overS] using hb)
    have HR : Hid (recS s = []) := Lib.hid (by rw [recS, if_pos hb])
    clear hb
    go_enter Tryz.func42, Tryz.ntmps42
    go_wp2_with fail
    go_ret3
    exact ⟨none, 0, [], HR.out.symm, by rw [HO.out]; rfl, Enc.Own.nil _ _ _, Below.refl _ _⟩
  · have h1 : ¬ (20000 : Int) < (s.size : Int) := by omega
    have HO : Hid (overS s = false) := Lib.hid (by simpa [overS] using hb)
    have HR : Hid (recS s = recJ 300 0 0 s.data.toList) := Lib.hid (by rw [recS, if_neg hb])
    have hs2 : s.size ≤ 20000 := by omega
    clear hb
    go_enter Tryz.func42, Tryz.ntmps42
    go_wp2_with fail
    refine (recovered_any s w hs2 HE.out).mono ?_
    rintro e w1 ⟨a, c, l, hl, rfl, hst⟩
    have HST := Lib.hid hst
    have HL := Lib.hid (HR.out.trans hl.symm)
    obtain ⟨ja, jc, hj1, hj2⟩ := hst.jn
    obtain ⟨hcj, hfj⟩ := heap_cellR hj1
    have hfit := hst.fit
    have hsl : s.data.toList.length = s.size := rfl
    rw [hsl] at hfit
    obtain ⟨N, hN⟩ : ∃ N, (textJ 0 0 l).length = N := ⟨_, rfl⟩
    rw [hN] at hcj hfit
    have HN := Lib.hid hN
    have e1 : IntKind.i64.wrap ((s.size : Int) - (N : Int)) = (s.size : Int) - (N : Int) := IntWalk.i64_in _ (by omega)
    clear hst hj1 hj2 hl hN hs2 hs
    go_wp2_with fail
    go_quiet (fail)
    go_wp2_with fail
    go_ret3
    exact ⟨a, c, l, HL.out.symm, by rw [HO.out, HN.out]; rfl, (HST.out.own.weak (Nat.le_succ _)).grown (below_drewN _ _), HST.out.bel.trans (below_drewN _ _)⟩

/-- what ExtendJournal answers -/
def extS (s : ByteArray) (r : Rc) : ByteArray × Int := if r.ok = true then (if overS s = true then (⟨#[]⟩, 3) else if (recS s).length = 300 then (⟨#[]⟩, 3) else (textB (recS s ++ [r]), 0)) else (⟨#[]⟩, 1)
def RetJx (w : World) (t : ByteArray × Int) (e : Ending) (w' : World) : Prop := e = .returned (.tuple #[.string t.1, .int .i64 t.2]) ∧ Below w.heap.size w w'
theorem retJx_eq {w w' : World} {t : ByteArray × Int} {b : ByteArray} {c : Int} (h : t = (b, c)) (hb : Below w.heap.size w w') : RetJx w t (.returned (.tuple #[.string b, .int .i64 c])) w' := by subst h; exact ⟨rfl, hb⟩

/-- what JournalSum answers -/
def sumS (s : ByteArray) : Int × Int := if overS s = true then (0, 3) else (lastJ 0 0 (recS s), 0)
end Go.Proofs.YtkmfgchbfchdbaaGreatDoor
namespace Go.Proofs.YtkmfgchbfchdbaaGreatDoor
open Go.RowKit

/-- the code of a list of records -/
def codeJ (l : List Rc) : Int := if 300 < l.length then 3 else if l.all Rc.ok = true then 0 else 1
/-- what JournalOf answers -/
def jrnS (l : List Rc) : ByteArray × Int := if codeJ l = 0 then (textB l, 0) else (⟨#[]⟩, codeJ l)
theorem all_take_step {l : List Rc} {k : Nat} {r : Rc} (hr : l[k]? = some r) (h : (l.take k).all Rc.ok = true) (ho : r.ok = true) : (l.take (k + 1)).all Rc.ok = true := by
  rw [take_snoc' hr, List.all_append, h]; simpa using ho
theorem all_bad {l : List Rc} {k : Nat} {r : Rc} (hr : l[k]? = some r) (ho : r.ok = false) : l.all Rc.ok = false := by
  rw [Bool.eq_false_iff]; intro h
  rw [List.all_eq_true] at h
  rw [h r (List.mem_of_getElem? hr)] at ho; cases ho

theorem codeJ_ok {l : List Rc} (h : codeJ l = 0) : l.length ≤ 300 ∧ ∀ r ∈ l, r.ok = true := by
  unfold codeJ at h
  split at h
  · cases h
  · split at h
    · rename_i h1 h2
      exact ⟨by omega, List.all_eq_true.1 h2⟩
    · cases h
theorem textJ_take {l : List Rc} {k : Nat} {r : Rc} (hr : l[k]? = some r) : textJ 0 0 (l.take k) ++ (lineJ k (lastJ 0 0 (l.take k)) r ++ [10]) = textJ 0 0 (l.take (k + 1)) ∧ nextJ k (lastJ 0 0 (l.take k)) r = lastJ 0 0 (l.take (k + 1)) := by
  have hk : (l.take k).length = k := by
    have := (List.getElem?_eq_some_iff.1 hr).1
    simp; omega
  rw [take_snoc' hr, textJ_snoc, lastJ_snoc, Nat.zero_add, hk]
  exact ⟨rfl, rfl⟩

end Go.Proofs.YtkmfgchbfchdbaaGreatDoor
namespace Go.Proofs.YtkmfgchbfchdbaaGreatDoor
open Go.RowKit

/-- how many records with an index each kind has -/
def cntJ (l : List Rc) (i : Int) : List Int := [1, 2, 3, 4].map fun k => ((l.filter fun r => r.n == i && r.k == k).length : Int)
theorem cntJ_snoc (l : List Rc) (i : Int) (r : Rc) : cntJ (l ++ [r]) i = if r.n = i then (cntJ l i).zipWith (· + ·) ([1, 2, 3, 4].map fun k => if r.k = k then 1 else 0) else cntJ l i := by
  unfold cntJ
  by_cases h : r.n = i
  · rw [if_pos h]
    simp only [List.map_cons, List.map_nil, List.filter_append, List.length_append, List.zipWith_cons_cons, List.zipWith_nil_left]
    have e : ∀ k : Int, ((List.filter (fun r => r.n == i && r.k == k) [r]).length : Int) = if r.k = k then 1 else 0 := by
      intro k
      by_cases hk : r.k = k <;> simp [hk, h]
    simp only [Int.natCast_add, e]
  · rw [if_neg h]
    simp [h]
theorem cntJ_len (l : List Rc) (i : Int) : (cntJ l i).length = 4 := rfl
theorem cntJ_hit {l : List Rc} {k j : Nat} {i : Int} {r : Rc} (hr : l[k]? = some r) (hi : r.n = i) (hj : r.k = j + 1) (h4 : j < 4) : ∃ z, (cntJ (l.take k) i)[j]? = some z ∧ 0 ≤ z ∧ z ≤ k ∧ (cntJ (l.take k) i).set j (z + 1) = cntJ (l.take (k + 1)) i := by
  have hb : ∀ q : Int, ((List.filter (fun r => r.n == i && r.k == q) (l.take k)).length : Int) ≤ k := fun q => by
    have := List.length_filter_le (fun r : Rc => r.n == i && r.k == q) (l.take k)
    have h2 := List.length_take_le k l
    omega
  rw [take_snoc' hr, cntJ_snoc, if_pos hi, hj]
  have hj4 : j = 0 ∨ j = 1 ∨ j = 2 ∨ j = 3 := by omega
  rcases hj4 with rfl | rfl | rfl | rfl
  all_goals
    refine ⟨_, rfl, by simp, hb _, ?_⟩
    simp [cntJ]
theorem cntJ_miss {l : List Rc} {k : Nat} {i : Int} {r : Rc} (hr : l[k]? = some r) (hi : r.n ≠ i) : cntJ (l.take (k + 1)) i = cntJ (l.take k) i := by
  rw [take_snoc' hr, cntJ_snoc, if_neg hi]
/-- the code of CountRecords -/
def cntCode (l : List Rc) (i : Int) : Int := if codeJ l = 0 then (if inB i 0 199 = true then 0 else 2) else codeJ l
def RetCnt (w : World) (l : List Rc) (i : Int) (e : Ending) (w' : World) : Prop := ∃ a c zs, zs = (if cntCode l i = 0 then cntJ l i else []) ∧ e = .returned (.tuple #[.slice a zs.length c, .int .i64 (cntCode l i)]) ∧ OwnI w' w.heap.size (.slice a zs.length c) zs ∧ Below w.heap.size w w'
theorem retCnt_no {w w' : World} {l : List Rc} {i cd : Int} (h : cntCode l i = cd) (h0 : cd ≠ 0) (hb : Below w.heap.size w w') : RetCnt w l i (.returned (.tuple #[.slice none 0 0, .int .i64 cd])) w' :=
  ⟨none, 0, [], by rw [h, if_neg h0], by rw [h]; rfl, World.ownsRow_nil _ _ _ _, hb⟩

theorem run_make4 (w : World) : (Instr.makeSlice 35 (.int .i64 4) (.int .i64 4)).run Tryz.prog w = .ok (.slice (some ⟨w.heap.size, 0, none⟩) 4 4) (w.alloc (.cells #[.int .i64 0, .int .i64 0, .int .i64 0, .int .i64 0] 2)) := by kernel_rfl
theorem own_make4 (w : World) : OwnI (w.alloc (.cells #[.int .i64 0, .int .i64 0, .int .i64 0, .int .i64 0] 2)) w.heap.size (.slice (some ⟨w.heap.size, 0, none⟩) 4 4) [0, 0, 0, 0] :=
  World.ownsRow_lit (base := w.heap.size) (size := 1) w #[.int .i64 0, .int .i64 0, .int .i64 0, .int .i64 0] 4 (Nat.le_refl _) (by unfold maxLen; omega) rfl

end Go.Proofs.YtkmfgchbfchdbaaGreatDoor
namespace Go.Proofs.YtkmfgchbfchdbaaGreatDoor
open Go.RowKit

theorem itoa_small {n : Int} (h0 : 0 ≤ n) (h : n < 10) : Lib.itoa n = [UInt8.ofNat (48 + n).toNat] := by
  obtain ⟨u, rfl⟩ := Int.eq_ofNat_of_zero_le h0
  have e : (48 + (u : Int)).toNat = 48 + u := by omega
  rw [Lib.itoa_nonneg, Lib.decDigits, dif_pos (by omega), e]
theorem itoa_big {n : Int} (h : 10 ≤ n) : Lib.itoa n = Lib.itoa (n / 10) ++ [UInt8.ofNat (48 + n % 10).toNat] := by
  obtain ⟨u, rfl⟩ := Int.eq_ofNat_of_zero_le (show 0 ≤ n by omega)
  have e1 : ((u : Int) / 10) = ((u / 10 : Nat) : Int) := by omega
  have e2 : (48 + (u : Int) % 10).toNat = 48 + u % 10 := by omega
  rw [e1, e2, Lib.itoa_nonneg, Lib.itoa_nonneg, Lib.decDigits, dif_neg (by omega)]

/-- a string of one byte -/
def oneB (z : Int) : ByteArray := ⟨#[UInt8.ofNat z.toNat]⟩

theorem conv_one (w : World) (b : Nat) (z : Int) (hc : w.cell? ⟨b, 0, none⟩ = some (.int .u8 z)) :
    (convert 22 9 (.slice (some ⟨b, 0, none⟩) 1 1)).run Tryz.prog w = .ok (.string (oneB z)) w := by
  have := run_convert_bytes_arg (P := Tryz.prog) w 22 5 Tryz.underlying22 Tryz.underlying5 b 0 1 1 [z] rfl (fun i hi => by
      obtain rfl : i = 0 := by omega
      simpa using hc) 9 Tryz.underlying9
  simpa [strOfNums, oneB] using this
theorem conv_new (w : World) (z : Int) :
    (convert 22 9 (.slice (some ⟨w.heap.size, 0, none⟩) 1 1)).run Tryz.prog (w.alloc (.cells #[.int .u8 z] 5)) = .ok (.string (oneB z)) (w.alloc (.cells #[.int .u8 z] 5)) :=
  conv_one _ _ _ (by simp)
theorem conv_drew (w : World) (z : Int) :
    (convert 22 9 (.slice (some ⟨w.heap.size, 0, none⟩) 1 1)).run Tryz.prog (w.alloc (.cells #[.int .u8 z] 5)).drew = .ok (.string (oneB z)) (w.alloc (.cells #[.int .u8 z] 5)).drew :=
  conv_one _ _ _ (by simp)

theorem decB_small {n : Int} (h0 : 0 ≤ n) (h : n < 10) : decB n = oneB (48 + n) := by
  unfold decB oneB; rw [itoa_small h0 h]
theorem decB_big {n : Int} (h : 10 ≤ n) : decB n = decB (n / 10) ++ oneB (48 + n % 10) := by
  have e : decB n = ⟨(Lib.itoa n).toArray⟩ := rfl
  rw [e, itoa_big h]
  apply ByteArray.ext
  simp [decB, oneB]

set_option maxHeartbeats 400000 in
theorem l01Dec_any (k : Nat) : ∀ (n : Int) (w : World), n ≤ k → 0 ≤ n → n ≤ 9223372036854775807 →
    Calls Tryz.prog 64 #[.int .i64 n] w fun e w' => e = .returned (.string (decB n)) ∧ Below w.heap.size w w' := by
  induction k with
  | zero =>
    intro n w hk h0 h1
    have hn : n < 10 := by omega
    have hcv := conv_new w
    go_enter Tryz.func64, Tryz.ntmps64
    go_wp2_with fail
    go_ret
    exact ⟨ret_str (decB_small h0 hn).symm, (Below.refl _ _).alloc (Nat.le_refl _) _⟩
  | succ k ih =>
    intro n w hk h0 h1
    by_cases hn : n < 10
    · have hcv := conv_new w
      go_enter Tryz.func64, Tryz.ntmps64
      go_wp2_with fail
      go_ret
      exact ⟨ret_str (decB_small h0 hn).symm, (Below.refl _ _).alloc (Nat.le_refl _) _⟩
    · have e1 : IntKind.i64.wrap (n.tdiv 10) = n / 10 := by rw [Int.tdiv_eq_ediv_of_nonneg h0]; exact IntWalk.i64_in _ (by omega)
      have e2 : n.tmod 10 = n % 10 := Int.tmod_eq_emod_of_nonneg h0
      have e3 : IntKind.i64.wrap (48 + n % 10) = 48 + n % 10 := IntWalk.i64_in _ (by omega)
      have e4 : IntKind.u8.wrap (48 + n % 10) = 48 + n % 10 := IntWalk.u8_in _ (by omega)
      have hs1 : (decB (n / 10)).size ≤ 21 := by rw [decB_size]; exact Lib.itoa_length_le _ (by omega) (by omega)
      have hs2 : (oneB (48 + n % 10)).size ≤ 1 := by simp [oneB, ByteArray.size]
      have hs3 : (decB (n / 10)).size + (oneB (48 + n % 10)).size ≤ 9223372036854775807 := by omega
      clear hs1 hs2
      have hcv := conv_new w
      have hcd := conv_drew w
      go_enter Tryz.func64, Tryz.ntmps64
      go_wp2_with fail
      go_region_with (go_at_call 64; refine (ih _ _ (by omega) (by omega) (by omega)).mono ?_; rintro e w' ⟨rfl, hb⟩; have hcv' := conv_new w'; obtain ⟨hc, hf⟩ := bcell hb; have hko := conv_one w' w.heap.size (48 + n % 10))
      all_goals
        go_wp2
        go_ret
        refine ⟨ret_str (decB_big (by omega)).symm, ?_⟩
        first | exact ((Below.refl _ _).drew.trans hb).alloc hb.size _ | exact (((Below.refl _ _).alloc (Nat.le_refl _) _).drew).trans (hb.mono (by simp))

end Go.Proofs.YtkmfgchbfchdbaaGreatDoor
namespace Go.Proofs.YtkmfgchbfchdbaaGreatDoor
open Go.RowKit

theorem infoStr : (Tryz.prog.info? 9).map (fun i => (i.zero, i.size, i.bytes)) = some (some (.string ⟨#[]⟩), 1, 16) := by kernel_rfl
/-- while a text is cut -/
structure SplI (l : List UInt8) (c : UInt8) (k f : Nat) (ss : List ByteArray) : Prop where
  len : k ≤ l.length + 1
  fk : f ≤ k
  num : ss.length ≤ k
  mid : k ≤ l.length → bytesL ss ++ cut c (l.drop f) = cut c l ∧ c ∉ (l.drop f).take (k - f)
  fin : k = l.length + 1 → bytesL ss = cut c l

theorem splI_start (l : List UInt8) (c : UInt8) : SplI l c 0 0 [] :=
  ⟨Nat.zero_le _, Nat.le_refl _, Nat.zero_le _, fun _ => by simp [bytesL], fun h => by omega⟩
theorem splI_skip {l : List UInt8} {c x : UInt8} {k f : Nat} {ss : List ByteArray} (h : SplI l c k f ss) (hx : l[k]? = some x) (hne : x ≠ c) : SplI l c (k + 1) f ss := by
  have hk : k < l.length := (List.getElem?_eq_some_iff.1 hx).1
  obtain ⟨h1, h2⟩ := h.mid (by omega)
  have hfk := h.fk
  refine ⟨by omega, by omega, by have := h.num; omega, fun _ => ⟨h1, ?_⟩, fun e => by omega⟩
  rw [show k + 1 - f = (k - f) + 1 by omega]
  rw [List.take_add_one, List.getElem?_drop, show f + (k - f) = k by omega, hx]
  simp only [Option.toList_some, List.mem_append, List.mem_singleton, not_or]
  exact ⟨h2, fun e => hne e.symm⟩
theorem drop_split {l : List UInt8} {x : UInt8} {k f : Nat} (hx : l[k]? = some x) (hfk : f ≤ k) : l.drop f = (l.drop f).take (k - f) ++ x :: l.drop (k + 1) := by
  have hk : k < l.length := (List.getElem?_eq_some_iff.1 hx).1
  have e := (List.take_append_drop (k - f) (l.drop f)).symm
  rw [List.drop_drop, show f + (k - f) = k by omega] at e
  rw [List.drop_eq_getElem_cons hk] at e
  have hxk : l[k] = x := (List.getElem?_eq_some_iff.1 hx).2
  rw [hxk] at e
  exact e
theorem bytesL_snoc (ss : List ByteArray) (b : ByteArray) : bytesL (ss ++ [b]) = bytesL ss ++ [b.data.toList] := by rw [bytesL, List.map_append]; rfl
theorem splI_cut {l : List UInt8} {c : UInt8} {k f : Nat} {ss : List ByteArray} {b : ByteArray} (h : SplI l c k f ss) (hx : l[k]? = some c) (hb : b.data.toList = (l.drop f).take (k - f)) : SplI l c (k + 1) (k + 1) (ss ++ [b]) := by
  have hk : k < l.length := (List.getElem?_eq_some_iff.1 hx).1
  obtain ⟨h1, h2⟩ := h.mid (by omega)
  refine ⟨by omega, by omega, by have := h.num; simp; omega, fun _ => ⟨?_, by simp⟩, fun e => by omega⟩
  rw [bytesL_snoc, hb, List.append_assoc, List.singleton_append, ← h1]
  conv => rhs; rw [drop_split hx h.fk, cut_app c _ _ h2]
theorem splI_end {l : List UInt8} {c : UInt8} {f : Nat} {ss : List ByteArray} {b : ByteArray} (h : SplI l c l.length f ss) (hb : b.data.toList = (l.drop f).take (l.length - f)) : SplI l c (l.length + 1) (l.length + 1) (ss ++ [b]) := by
  obtain ⟨h1, h2⟩ := h.mid (Nat.le_refl _)
  refine ⟨Nat.le_refl _, by omega, by have := h.num; simp; omega, fun e => by omega, fun _ => ?_⟩
  have e : (l.drop f).take (l.length - f) = l.drop f := List.take_of_length_le (by simp)
  rw [e] at h2 hb
  rw [bytesL_snoc, hb, ← h1, cut_piece c _ h2]
theorem extract_toList (s : ByteArray) (f k : Nat) : (s.extract f k).data.toList = (s.data.toList.drop f).take (k - f) := by
  rw [ByteArray.data_extract, Array.toList_extract, List.extract_eq_take_drop]
theorem str_one_new (w : World) (x : ByteArray) (t : TypeId) : ∀ j u, [Value.string x][j]? = some u → (w.alloc (.cells #[.string x] t (0, 0))).cell? ((⟨w.heap.size, 0, none⟩ : Addr).add j) = some u := by
  intro j u hu
  rw [Addr.add_lit, Nat.zero_add, ← hu]
  simp
theorem str_one (x : ByteArray) : ∀ u ∈ [Value.string x], u.oneCell' = true := by
  intro u hu
  simp only [List.mem_singleton] at hu
  subst hu; rfl
theorem OwnS.snoc {w : World} {base : Nat} {v : Value} {ss : List ByteArray} {b : ByteArray} (h : w.ownsRow base 9 1 v (ss.length + 1) (ss.map Value.string ++ [.string b])) : OwnS w base v (ss ++ [b]) := by
  unfold OwnS
  rw [List.length_append, List.map_append]
  simpa using h
theorem OwnS.new (w : World) : OwnS (w.alloc (.cells #[] 9 (0, 0))) w.heap.size (.slice (some ⟨w.heap.size, 0, none⟩) 0 0) [] :=
  World.ownsRow_lit (base := w.heap.size) (size := 1) w #[] 0 (Nat.le_refl _) (by unfold maxLen; omega) rfl

/-- texts of the call's own are handed back -/
def RetStrs (w : World) (l : List (List UInt8)) (e : Ending) (w' : World) : Prop :=
  ∃ (ss : List ByteArray) (a : Option Addr) (cp : Nat), bytesL ss = l ∧ e = .returned (.slice a ss.length cp) ∧ OwnS w' w.heap.size (.slice a ss.length cp) ss ∧ Below w.heap.size w w'
theorem below_of_grownBy' {w wr w9 : World} {v : Value} {o : Obj} (hb : Below w.heap.size w wr) (hlo : ∀ k, v.ownBlock = some k → w.heap.size ≤ k) (hg : (wr.alloc o).grownBy w9 v.ownBlock) : Below w.heap.size w w9 :=
  (bt0 hb (ba1 _ _) (Nat.le_refl _)).trans (below_of_grownBy hg (by have := hb.size; simp; omega) hlo)

set_option maxRecDepth 100000 in
set_option maxHeartbeats 1000000 in
theorem l01Split_any (s : ByteArray) (c : UInt8) (w : World) (hs : s.size ≤ 1048576) :
    Calls Tryz.prog 81 #[.string s, .int .u8 c.toNat] w (RetStrs w (cut c s.data.toList)) := by
  obtain ⟨i0, hi, y0, y1, y2⟩ := info_parts infoStr
  go_enter Tryz.func81, Tryz.ntmps81
  go_wp2_with fail
  go_loopw [5, 6, 7] (fun v f i wr => ∃ (k g : Nat) (ss : List ByteArray), i = .int .i64 k ∧ f = .int .i64 g ∧ SplI s.data.toList c k g ss ∧ OwnS wr w.heap.size v ss ∧ Below w.heap.size w wr) (fun _ _ i _ => s.data.toList.length + 1 - (intOf i).toNat)
  case atStart => exact ⟨0, 0, [], rfl, rfl, splI_start _ _, OwnS.new w, ba1 _ _⟩
  case round =>
    obtain ⟨k, g, ss, rfl, rfl, hi', ho, hb⟩ := hrel
    obtain ⟨a, cp, rfl, -⟩ := ho.read
    have HI := Lib.hid hi'
    have HO := Lib.hid ho
    have HB := Lib.hid hb
    have hfk := hi'.fk
    have hkl := hi'.len
    have HNM := Lib.hid hi'.num
    have HBS := Lib.hid hb.size
    clear hi' ho hb
    have hsz : s.data.toList.length = s.size := rfl
    by_cases hlt : k < s.size
    · have hk1 : (k : Int) ≤ (s.size : Int) := by omega
      have hk2 : ((k : Int) == (s.size : Int)) = false := by simp; omega
      have hxk : Hid (s.data.toList[k]? = some s[k]) := Lib.hid (by
        rw [List.getElem?_eq_getElem (by omega)]
        rfl)
      by_cases hx : s[k] = c
      · have hx2 : (((s[k].toNat : Nat) : Int) == ((c.toNat : Nat) : Int)) = true := by rw [hx]; simp
        have HXK : Hid (s.data.toList[k]? = some c) := Lib.hid (by rw [hxk.out, hx])
        clear hx hxk
        go_wp2_with (at_builtin; refine wpList_append_own _ rfl _ _ 64 rfl w.heap.size 9 i0 (.string ⟨#[]⟩) 1 16 Tryz.underlying64 hi y0 y1 y2 rfl (by decide) _ _ _ rfl (World.ownsRow.alloc HO.out _) ⟨wr.heap.size, 0, none⟩ 1 1 [.string (s.extract g k)] rfl rfl (str_one_new _ _ _) (str_one _) (by have := HNM.out; unfold maxLen; omega) (by have := HNM.out; omega) (by have := HBS.out; simp; omega) ?_; intro v' w9 hown3 hgrow3 _)
        refine ⟨⟨k + 1, k + 1, _, by go_num, by go_num, splI_cut HI.out HXK.out (extract_toList s g k), OwnS.snoc hown3, ?_⟩, by simp [intOf]; omega⟩
        exact below_of_grownBy' HB.out HO.out.lo hgrow3
      · have hx2 : (((s[k].toNat : Nat) : Int) == ((c.toNat : Nat) : Int)) = false := by
          rw [Bool.eq_false_iff]; intro e
          have e2 : ((s[k].toNat : Nat) : Int) = ((c.toNat : Nat) : Int) := by simpa using e
          exact hx (UInt8.toNat_inj.1 (by omega))
        have HX := Lib.hid hx
        clear hx
        go_wp2_with fail
        exact ⟨⟨k + 1, g, ss, by go_num, rfl, splI_skip HI.out hxk.out HX.out, HO.out, HB.out⟩, by simp [intOf]; omega⟩
    · by_cases hlt2 : k = s.size
      · subst hlt2
        go_wp2_with (at_builtin; refine wpList_append_own _ rfl _ _ 64 rfl w.heap.size 9 i0 (.string ⟨#[]⟩) 1 16 Tryz.underlying64 hi y0 y1 y2 rfl (by decide) _ _ _ rfl (World.ownsRow.alloc HO.out _) ⟨wr.heap.size, 0, none⟩ 1 1 [.string (s.extract g s.size)] rfl rfl (str_one_new _ _ _) (str_one _) (by have := HNM.out; unfold maxLen; omega) (by have := HNM.out; omega) (by have := HBS.out; simp; omega) ?_; intro v' w9 hown3 hgrow3 _)
        refine ⟨⟨s.size + 1, s.size + 1, _, by go_num, by go_num, splI_end HI.out (extract_toList s g s.size), OwnS.snoc hown3, ?_⟩, by first | (simp [intOf]; done) | (simp [intOf]; omega)⟩
        exact below_of_grownBy' HB.out HO.out.lo hgrow3
      · have hk3 : k = s.size + 1 := by omega
        have hk1 : ¬ (k : Int) ≤ (s.size : Int) := by omega
        go_wp2_with fail
        go_ret
        exact ⟨ss, a, cp, HI.out.fin hk3, rfl, HO.out, HB.out⟩

end Go.Proofs.YtkmfgchbfchdbaaGreatDoor
namespace Go.Proofs.YtkmfgchbfchdbaaGreatDoor
open Go.RowKit

theorem decB_eq {n : Int} {s : ByteArray} (h : Lib.itoa n = s.data.toList) : decB n = s := by
  apply ByteArray.ext; simp [decB, h]
theorem rnum_none {l : List UInt8} (h : ∀ n, Lib.parseIntB 64 l ≠ .ok n) : rnum l = none := by
  unfold rnum; split
  · rename_i n hn; exact absurd hn (h n)
  · rfl

set_option maxHeartbeats 1000000 in
theorem readNumber_any (s : ByteArray) (w : World) (hs : s.size ≤ 281474976710656) (hE : Env w) :
    Calls Tryz.prog 93 #[.string s] w fun e w' => ∃ v, e = .returned (.tuple #[.int .i64 v, .bool (rnum s.data.toList).isSome]) ∧ (∀ n, rnum s.data.toList = some n → v = n) ∧ Below w.heap.size w w' := by
  have HE := Lib.hid hE
  clear hE
  go_enter Tryz.func93, Tryz.ntmps93
  go_wp2_with fail
  refine (parse_any s w hs HE.out).mono ?_
  rintro e w1 ⟨⟨n, hp, rfl⟩ | ⟨hp, v, t, p, rfl⟩, hb1⟩
  · have HB1 := Lib.hid hb1
    have HP := Lib.hid hp
    obtain ⟨h0, h1⟩ := Lib.parseIntB_bounds hp
    have h0' : -9223372036854775808 ≤ n := by simpa using h0
    have h1' : n ≤ 9223372036854775807 := by have : n < 9223372036854775808 := by simpa using h1
                                             omega
    clear hb1 hp h0 h1
    go_wp2_with fail
    refine (formatInt_any n _ h0' h1' (HE.out.next HB1.out).tab).mono ?_
    rintro e w2 ⟨rfl, hb2⟩
    have HB2 := Lib.hid (bt0 HB1.out hb2 (Nat.le_refl _))
    clear hb2
    by_cases he : Lib.itoa n = s.data.toList
    · have E := Lib.hid (show rnum s.data.toList = some n by unfold rnum; rw [HP.out]; simp [he])
      have e2 : ((decB n).toList == s.toList) = true := by rw [decB_eq he]; simp
      clear he
      go_wp2_with fail
      go_ret2
      exact ⟨n, by rw [E.out]; rfl, (fun m hm => by rw [E.out] at hm; exact Option.some.inj hm), HB2.out⟩
    · have E := Lib.hid (show rnum s.data.toList = none by unfold rnum; rw [HP.out]; simp [he])
      have e2 : ((decB n).toList == s.toList) = false := by
        rw [Bool.eq_false_iff]; intro h
        rw [beq_iff_eq, ByteArray.toList_eq, ByteArray.toList_eq] at h
        exact he (by rw [← h]; simp [decB])
      clear he
      go_wp2_with fail
      go_ret2
      exact ⟨n, by rw [E.out]; rfl, (fun m hm => by rw [E.out] at hm; cases hm), HB2.out⟩
  · have HB1 := Lib.hid hb1
    have E := Lib.hid (rnum_none hp)
    clear hb1 hp
    go_wp2_with fail
    go_ret2
    exact ⟨v, by rw [E.out]; rfl, (fun m hm => by rw [E.out] at hm; cases hm), HB1.out⟩

end Go.Proofs.YtkmfgchbfchdbaaGreatDoor
namespace Go.Proofs.YtkmfgchbfchdbaaGreatDoor
open Go.RowKit

theorem dval_snoc (l : List UInt8) (x : UInt8) : dval (l ++ [x]) = 10 * dval l + (x.toNat - 48) := by simp [dval, List.foldl_append]
/-- all bytes are digits -/
def DigL (l : List UInt8) : Prop := ∀ x ∈ l, 48 ≤ x.toNat ∧ x.toNat ≤ 57
/-- while digits are read -/
structure ValI (l : List UInt8) (k n : Nat) : Prop where
  len : k ≤ l.length
  val : n = dval (l.take k)
  bd : n < 10 ^ k
  dig : DigL (l.take k)
theorem valI_start (l : List UInt8) : ValI l 0 0 := ⟨Nat.zero_le _, by simp [dval], by simp, by intro x hx; simp at hx⟩
theorem valI_step {l : List UInt8} {k n : Nat} {x : UInt8} (h : ValI l k n) (hx : l[k]? = some x) (h1 : 48 ≤ x.toNat) (h2 : x.toNat ≤ 57) : ValI l (k + 1) (10 * n + (x.toNat - 48)) := by
  have hk : k < l.length := (List.getElem?_eq_some_iff.1 hx).1
  have ht := take_snoc' hx
  refine ⟨by omega, ?_, ?_, ?_⟩
  · rw [ht, dval_snoc, ← h.val]
  · have := h.bd; rw [Nat.pow_succ]; omega
  · rw [ht]
    intro y hy
    rcases List.mem_append.1 hy with hy | hy
    · exact h.dig y hy
    · simp at hy; subst hy; exact ⟨h1, h2⟩
theorem valI_pow {l : List UInt8} {k n : Nat} (h : ValI l k n) (hl : l.length ≤ 12) : n < 1000000000000 := by
  have h1 := h.bd
  have h2 : 10 ^ k ≤ 10 ^ 12 := Nat.pow_le_pow_right (by omega) (by have := h.len; omega)
  have h3 : (10 : Nat) ^ 12 = 1000000000000 := by decide
  omega
theorem valS_bad {l : List UInt8} {k : Nat} {x : UInt8} (hx : l[k]? = some x) (hb : ¬ (48 ≤ x.toNat ∧ x.toNat ≤ 57)) : valS l = none := by
  rw [valS, if_neg]
  rintro ⟨_, _, h, _⟩
  exact hb (h x (List.mem_of_getElem? hx))
theorem valS_len {l : List UInt8} (h : ¬ (1 ≤ l.length ∧ l.length ≤ 12)) : valS l = none := by
  rw [valS, if_neg]
  rintro ⟨h1, h2, _⟩
  exact h ⟨h1, h2⟩
theorem valS_end {l : List UInt8} {n : Nat} (h : ValI l l.length n) (h1 : 1 ≤ l.length) (h2 : l.length ≤ 12) : valS l = if Lib.decDigits n = l then some (n : Int) else none := by
  have hv := h.val
  have hd := h.dig
  rw [List.take_of_length_le (Nat.le_refl _)] at hv hd
  rw [valS, ← hv]
  by_cases he : Lib.decDigits n = l
  · rw [if_pos ⟨h1, h2, hd, he⟩, if_pos he]
  · rw [if_neg (fun h => he h.2.2.2), if_neg he]

/-- a number, perhaps none -/
def RetVal (w : World) (o : Option Int) (e : Ending) (w' : World) : Prop :=
  ∃ v : Int, e = .returned (.tuple #[.int .i64 v, .bool o.isSome]) ∧ (∀ n, o = some n → v = n) ∧ (0 ≤ v ∧ v < 1000000000000) ∧ Below w.heap.size w w'
theorem retVal_no {w w' : World} {o : Option Int} (h : o = none) {v : Int} (h0 : 0 ≤ v) (h1 : v < 1000000000000) (hb : Below w.heap.size w w') : RetVal w o (.returned (.tuple #[.int .i64 v, .bool false])) w' := by
  subst h
  exact ⟨v, rfl, fun n e => (by cases e), ⟨h0, h1⟩, hb⟩

set_option maxRecDepth 100000 in
set_option maxHeartbeats 1000000 in
theorem l01Value_any (s : ByteArray) (w : World) (hs : s.size ≤ 1048576) :
    Calls Tryz.prog 104 #[.string s] w (RetVal w (valS s.data.toList)) := by
  have hsz : s.data.toList.length = s.size := rfl
  by_cases h1 : s.size < 1
  · have hi1 : ((s.size : Nat) : Int) < 1 := by omega
    have HN := Lib.hid (valS_len (l := s.data.toList) (by omega))
    go_enter Tryz.func104, Tryz.ntmps104
    go_wp2_with fail
    go_ret2
    exact retVal_no HN.out (by omega) (by omega) (Below.refl _ _)
  by_cases h2 : 12 < s.size
  · have hi1 : ¬ ((s.size : Nat) : Int) < 1 := by omega
    have hi2 : (12 : Int) < ((s.size : Nat) : Int) := by omega
    have HN := Lib.hid (valS_len (l := s.data.toList) (by omega))
    go_enter Tryz.func104, Tryz.ntmps104
    go_wp2_with fail
    go_ret2
    exact retVal_no HN.out (by omega) (by omega) (Below.refl _ _)
  have hi1 : ¬ ((s.size : Nat) : Int) < 1 := by omega
  have hi2 : ¬ (12 : Int) < ((s.size : Nat) : Int) := by omega
  go_enter Tryz.func104, Tryz.ntmps104
  go_wp2_with fail
  go_loopw [4, 5] (fun v i wr => ∃ (k n : Nat), i = .int .i64 k ∧ v = .int .i64 n ∧ ValI s.data.toList k n ∧ Below w.heap.size w wr) (fun _ i _ => s.size - (intOf i).toNat)
  case atStart => exact ⟨0, 0, rfl, rfl, valI_start _, Below.refl _ _⟩
  case round =>
    obtain ⟨k, n, rfl, rfl, hv, hb⟩ := hrel
    have HV := Lib.hid hv
    have HB := Lib.hid hb
    have hn := valI_pow hv (by omega)
    have hkl := hv.len
    clear hv hb
    by_cases hlt : k < s.size
    · obtain ⟨x, hx⟩ : ∃ x, s[k] = x := ⟨_, rfl⟩
      have hxk : Hid (s.data.toList[k]? = some x) := Lib.hid (by
        rw [List.getElem?_eq_getElem (by omega), ← hx]
        rfl)
      by_cases hx1 : x.toNat < 48
      · have hx2 : ((x.toNat : Nat) : Int) < 48 := by omega
        have HN := Lib.hid (valS_bad hxk.out (by omega))
        go_wp2_with fail
        go_ret2
        exact retVal_no HN.out (by omega) (by omega) HB.out
      · by_cases hx3 : 57 < x.toNat
        · have hx2 : ¬ ((x.toNat : Nat) : Int) < 48 := by omega
          have hx4 : (57 : Int) < ((x.toNat : Nat) : Int) := by omega
          have HN := Lib.hid (valS_bad hxk.out (by omega))
          go_wp2_with fail
          go_ret2
          exact retVal_no HN.out (by omega) (by omega) HB.out
        · have hx2 : ¬ ((x.toNat : Nat) : Int) < 48 := by omega
          have hx4 : ¬ (57 : Int) < ((x.toNat : Nat) : Int) := by omega
          have e1 : IntKind.u8.wrap ((x.toNat : Int) - 48) = (x.toNat : Int) - 48 := IntWalk.u8_in _ (by omega)
          have e2 : IntKind.i64.wrap (10 * (n : Int)) = 10 * (n : Int) := IntWalk.i64_in _ (by omega)
          have e3 : IntKind.i64.wrap ((x.toNat : Int) - 48) = (x.toNat : Int) - 48 := IntWalk.i64_in _ (by omega)
          have e4 : IntKind.i64.wrap (10 * (n : Int) + ((x.toNat : Int) - 48)) = 10 * (n : Int) + ((x.toNat : Int) - 48) := IntWalk.i64_in _ (by omega)
          have HS := Lib.hid (valI_step HV.out hxk.out (by omega) (by omega))
          go_wp2_with fail
          exact ⟨⟨k + 1, 10 * n + (x.toNat - 48), by go_num, by congr 1; omega, HS.out, HB.out⟩, by simp [intOf]; omega⟩
    · obtain rfl : k = s.size := by omega
      go_wp2_with fail
      refine (l01Dec_any n n _ (by omega) (by omega) (by omega)).mono ?_
      rintro e w1 ⟨rfl, hb1⟩
      have HB1 := Lib.hid (bt0 HB.out hb1 (Nat.le_refl _))
      have HVE := Lib.hid (valS_end (l := s.data.toList) HV.out (by omega) (by omega))
      clear hb1
      by_cases he : Lib.itoa (n : Int) = s.data.toList
      · have e2 : ((decB n).toList == s.toList) = true := by rw [decB_eq he]; simp
        rw [Lib.itoa_nonneg] at he
        have HE := Lib.hid (HVE.out.trans (if_pos he))
        clear he
        go_wp2_with fail
        go_ret2
        rw [HE.out]
        exact ⟨n, rfl, fun m hm => Option.some.inj hm, ⟨by omega, by omega⟩, HB1.out⟩
      · have e2 : ((decB n).toList == s.toList) = false := by
          rw [Bool.eq_false_iff]; intro h
          rw [beq_iff_eq, ByteArray.toList_eq, ByteArray.toList_eq] at h
          exact he (by rw [← h]; simp [decB])
        rw [Lib.itoa_nonneg] at he
        have HE := Lib.hid (HVE.out.trans (if_neg he))
        clear he
        go_wp2_with fail
        go_ret2
        exact retVal_no HE.out (by omega) (by omega) HB1.out

end Go.Proofs.YtkmfgchbfchdbaaGreatDoor
