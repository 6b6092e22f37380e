import Derived.Test.YtlcglclojlffgaaGreatDoorK0
import Derived.Test.YtlcglclojlffgaaGreatDoorK4
import Derived.Test.YtlcglclojlffgaaGreatDoorK1
import Derived.RangeFuncNested
import Derived.RangeFuncBound
import Derived.RangeFuncCalls
import Derived.RangeFuncLeaves
import Derived.RangeFuncFrom
import Derived.RangeFuncKeeps
import Derived.Shelf.Abstract
import Derived.Shelf.RegionOpen
import Derived.OwnWalkIn
import Derived.TacticsInMore
import Derived.LoopNIn
import Derived.LoopIn
import Derived.Test.YtlcglclojlffgaaGreatDoorK2
import Derived.Test.YtlcglclojlffgaaGreatDoorK3
namespace Go.Proofs.YtlcglclojlffgaaGreatDoor
open Go.RowKit

/-! As RG, where one operation f of the head may come up behind the first of the tail (a result that is taken apart beside a late store). -/

def rgOkF (ops : Array Oper) (m f : Nat) (ds : List Nat) (sup : Nat → List Nat) : Bool :=
  decide (f < m) && decide (m < ops.size) && (List.range ops.size).all fun j => match ops[j]? with
    | none => true
    | some o =>
      (decide (m ≤ j) || ((match o.dst with | some d => ds.contains d | none => true) &&
        (sup j).all fun t => (List.range ops.size).all fun i => match ops[i]? with
          | none => true
          | some oi => oi.dst != some t || i == j || o.after.any fun e => Region.binds .any e && e.on == i)) &&
      (decide (j < m) || (List.range j).all (fun i => (i == f && j == m) || o.after.any fun e => Region.binds .any e && e.on == i)) && o.after.all fun e => !Region.binds .any e || decide (e.on < j)

variable {P : Program} {ops : Array Oper} {Q : Exit → Act → World → Prop}

/-- the tail, in its one order -/
theorem wpAny_tailF {m f : Nat} {ds : List Nat} {sup : Nat → List Nat} (hB0 : rgOkF ops m f ds sup = true) : ∀ (r k : Nat) (listed : Array Bool) (a : Act) (w : World), m ≤ k → k + r = ops.size →
    (∀ j, j < ops.size → listed.getD j true = decide (j < k)) → listed.size = ops.size → ∀ fuel, r ≤ fuel → wpOps P ops Q (List.range' k r) a w → wpAny P .any ops Q fuel listed a w
  | 0, k, listed, a, w, hm, hk, hl, hs, fuel, hf, h => by
    have hr : Region.ready .any ops listed = [] := by
      rw [List.eq_nil_iff_forall_not_mem]
      intro j hj
      obtain ⟨h1, o, ho, _⟩ := mem_ready.1 hj
      have hlt : j < ops.size := (Array.getElem?_eq_some_iff.1 ho).1
      rw [hl j hlt] at h1
      simp at h1; omega
    have hq : Q .normal a w := h
    cases fuel with
    | zero => exact ⟨hr, hq⟩
    | succ f => exact ⟨fun _ => hq, fun i hi => by rw [hr] at hi; cases hi⟩
  | r + 1, k, listed, a, w, hm, hk, hl, hs, fuel, hf, h => by
    have hB := hB0
    unfold rgOkF at hB
    rw [Bool.and_eq_true] at hB
    have hkn : k < ops.size := by omega
    have hready : ∀ j ∈ Region.ready .any ops listed, j = k := by
      intro j hj
      obtain ⟨h1, o, ho, hdep⟩ := mem_ready.1 hj
      have hlt : j < ops.size := (Array.getElem?_eq_some_iff.1 ho).1
      rw [hl j hlt] at h1
      have hjk : k ≤ j := by simpa using h1
      rcases Nat.lt_or_ge k j with hlt' | hge
      · exfalso
        have hb := List.all_eq_true.1 hB.2 j (List.mem_range.2 hlt)
        simp only [ho, Bool.and_eq_true, Bool.or_eq_true, decide_eq_true_eq] at hb
        rcases hb.1.2 with hb2 | hb2
        · omega
        · have := List.all_eq_true.1 hb2 k (List.mem_range.2 hlt')
          simp only [Bool.or_eq_true, Bool.and_eq_true, beq_iff_eq] at this
          have hfm : f < m := by have h := hB.1; rw [Bool.and_eq_true] at h; simpa using h.1
          rcases this with this | this
          · omega
          obtain ⟨e, he, hee⟩ := Array.any_eq_true'.1 this
          simp only [Bool.and_eq_true, beq_iff_eq] at hee
          have hd := hdep e he hee.1
          rw [hee.2] at hd
          have := hl k hkn
          rw [getD_toList] at this hd
          rw [List.getD_eq_getElem?_getD] at this hd
          cases hx : listed.toList[k]? with
          | none => rw [hx] at hd; simp at hd
          | some b => rw [hx] at this hd; simp at this hd; rw [this] at hd; cases hd
      · omega
    cases fuel with
    | zero => omega
    | succ f =>
      refine ⟨fun h0 => ?_, fun i hi => ?_⟩
      · exfalso
        obtain ⟨o, ho⟩ : ∃ o, ops[k]? = some o := ⟨ops[k], Array.getElem?_eq_getElem hkn⟩
        have : k ∈ Region.ready .any ops listed := by
          refine mem_ready.2 ⟨?_, o, ho, ?_⟩
          · rw [hl k hkn]; simp
          · intro e he hbind
            have hb := List.all_eq_true.1 hB.2 k (List.mem_range.2 hkn)
            simp only [ho, Bool.and_eq_true, Bool.or_eq_true, decide_eq_true_eq] at hb
            · have h2 := Array.all_eq_true'.1 hb.2 e he
              simp only [hbind, Bool.not_true, Bool.or_eq_true, Bool.false_eq_true, false_or, decide_eq_true_eq] at h2
              have := hl e.on (by omega)
              rw [getD_toList, List.getD_eq_getElem?_getD] at this ⊢
              cases hx : listed.toList[e.on]? with
              | none =>
                have := List.getElem?_eq_none_iff.1 hx
                simp [hs] at this; omega
              | some b => rw [hx] at this; simp at this; simp [this]; exact h2
        rw [h0] at this; cases this
      · obtain rfl := hready i hi
        rw [List.range'_succ, wpOps_cons] at h
        refine wpOp_mono (fun a' w' h' => ?_) h
        refine wpAny_tailF hB0 r (i + 1) _ a' w' (by omega) (by omega) ?_ (by simpa using hs) f (by omega) h'
        intro j hj
        by_cases e : i = j
        · subst e
          rw [getD_toList, Array.toList_setIfInBounds, List.getD_eq_getElem?_getD, List.getElem?_set]
          simp [hs, hj]
        · rw [getD_toList, Array.toList_setIfInBounds, List.getD_eq_getElem?_getD, List.getElem?_set, if_neg e, ← List.getD_eq_getElem?_getD, ← getD_toList, hl j hj]
          simp; omega


theorem wpAny_headF {m f : Nat} {a0 : Act} {ds : List Nat} {sup : Nat → List Nat} {G : Nat → (Nat → Value) → World → Prop} {St : World → Prop} {Keep : World → World → Prop} (hB0 : rgOkF ops m f ds sup = true)
    (hkeep : ∀ j us w w', j < m → Keep w w' → G j us w → G j us w') (hrefl : ∀ w, Keep w w) (hsup : ∀ j us us' w, j < m → (∀ t ∈ sup j, us t = us' t) → G j us w → G j us' w)
    (howe : ∀ i o, i < m → ops[i]? = some o → Owes P ops Q a0 ds G St Keep i o)
    (hend : ∀ us w, St w → (∀ j, j < m → G j us w) → wpOps P ops Q (List.range' m (ops.size - m)) (over a0 ds us) w)
    (hend2 : ∀ us w, St w → (∀ j, j < m → j ≠ f → G j us w) → wpOps P ops Q (m :: f :: List.range' (m + 1) (ops.size - (m + 1))) (over a0 ds us) w) :
    ∀ (fuel : Nat) (listed : Array Bool) (a : Act) (w : World), unl listed.toList ≤ fuel → Under ops m a0 ds G St listed a w → wpAny P .any ops Q fuel listed a w := by
  have hB1 := hB0
  unfold rgOkF at hB1
  rw [Bool.and_eq_true] at hB1
  have hB2 := hB1.1
  rw [Bool.and_eq_true] at hB2
  obtain ⟨hfm, hms⟩ := hB2
  have hfm : f < m := by simpa using hfm
  have hms : m < ops.size := by simpa using hms
  have hm : m ≤ ops.size := by omega
  have hB := hB1.2
  have hdepOk : ∀ j o, j < m → ops[j]? = some o → (∀ d, o.dst = some d → ds.contains d = true) ∧ ∀ t ∈ sup j, ∀ i oi, ops[i]? = some oi → oi.dst = some t → i = j ∨ ∃ e ∈ o.after, Region.binds .any e = true ∧ e.on = i := by
    intro j o hj ho
    have hlt : j < ops.size := (Array.getElem?_eq_some_iff.1 ho).1
    have hb := List.all_eq_true.1 hB j (List.mem_range.2 hlt)
    simp only [ho, Bool.and_eq_true, Bool.or_eq_true, decide_eq_true_eq] at hb
    rcases hb.1.1 with h | h
    · omega
    · refine ⟨?_, ?_⟩
      · intro d hd
        have := h.1
        rw [hd] at this
        exact this
      · intro t ht i oi hi hd
        have h2 := List.all_eq_true.1 (List.all_eq_true.1 h.2 t ht) i (List.mem_range.2 (Array.getElem?_eq_some_iff.1 hi).1)
        simp only [hi, Bool.or_eq_true, bne_iff_ne, beq_iff_eq, hd] at h2
        rcases h2 with (h2 | h2) | h2
        · exact absurd rfl h2
        · exact Or.inl h2
        · obtain ⟨e, he, hee⟩ := Array.any_eq_true'.1 h2
          simp only [Bool.and_eq_true, beq_iff_eq] at hee
          exact Or.inr ⟨e, he, hee.1, hee.2⟩
  have step : ∀ (fuel : Nat) (listed : Array Bool) (a : Act) (w : World), unl listed.toList ≤ fuel → Under ops m a0 ds G St listed a w →
      (∀ j, j < m → listed.getD j true = true) → wpAny P .any ops Q fuel listed a w := by
    intro fuel listed a w hf U hall
    obtain ⟨us, rfl, hG⟩ := U.left
    have hx : ∀ j, j < m → listed.getD j false = true := by
      intro j hj
      have := hall j hj
      rw [getD_toList, List.getD_eq_getElem?_getD] at this ⊢
      cases hy : listed.toList[j]? with
      | none =>
        have h1 := List.getElem?_eq_none_iff.1 hy
        have := U.size
        simp at h1; omega
      | some b => rw [hy] at this; simpa using this
    have hr : ops.size - m ≤ fuel := by
      refine Nat.le_trans ?_ hf
      have : ∀ (n : Nat) (l : List Bool), (∀ j, n ≤ j → j < l.length → l.getD j true = false) → l.length - n ≤ unl l := by
        intro n l
        induction l generalizing n with
        | nil => intro _; simp
        | cons b r ih =>
          intro hb
          cases n with
          | zero =>
            have h0 := hb 0 (Nat.le_refl _) (by simp)
            have h1 := ih 0 (fun j _ hj => by have := hb (j + 1) (by omega) (by simpa using hj); simpa using this)
            simp at h0
            subst h0
            simp [unl] at h1 ⊢; omega
          | succ n =>
            have h1 := ih n (fun j hj hj' => by have := hb (j + 1) (by omega) (by simpa using hj'); simpa using this)
            simp only [unl, List.length_cons]; omega
      have h2 := this m listed.toList (fun j hj hj' => by rw [← getD_toList]; exact U.tail j hj (by have := U.size; simp at hj'; omega))
      have := U.size
      simp at h2; omega
    refine wpAny_tailF hB0 (ops.size - m) m listed _ w (Nat.le_refl _) (by omega) ?_ U.size fuel hr (hend us w U.st (fun j hj => hG j hj (hx j hj)))
    intro j hj
    rcases Nat.lt_or_ge j m with h | h
    · rw [hall j h]; simp [h]
    · rw [U.tail j h hj]; simp; omega
  intro fuel
  induction fuel with
  | zero =>
    intro listed a w hf U
    exact step 0 listed a w hf U (fun j _ => by rw [getD_toList]; exact unl_zero _ (by omega) j)
  | succ fuel ih =>
    intro listed a w hf U
    by_cases hall : ∀ j, j < m → listed.getD j true = true
    · exact step _ listed a w hf U hall
    · obtain ⟨us, rfl, hG⟩ := U.left
      have hnot : ∃ j, j < m ∧ listed.getD j true = false := by
        apply Classical.byContradiction
        intro hn
        apply hall
        intro j hj
        cases hx : listed.getD j true with
        | true => rfl
        | false => exact absurd ⟨j, hj, hx⟩ hn
      refine ⟨fun h0 => ?_, fun i hi => ?_⟩
      · -- the least that is not listed may come up
        have least : ∀ n j, j ≤ n → j < m → listed.getD j true = false → False := by
          intro n
          induction n with
          | zero =>
            intro j hj hjm hjl
            obtain rfl : j = 0 := by omega
            obtain ⟨oj, hoj⟩ : ∃ oj, ops[0]? = some oj := ⟨ops[0], Array.getElem?_eq_getElem (by omega)⟩
            have : 0 ∈ Region.ready .any ops listed := mem_ready.2 ⟨hjl, oj, hoj, fun e he hbind => by
              have hb := List.all_eq_true.1 hB 0 (List.mem_range.2 (by omega))
              simp only [hoj, Bool.and_eq_true] at hb
              have h2 := Array.all_eq_true'.1 hb.2 e he
              simp only [hbind, Bool.not_true, Bool.or_eq_true, Bool.false_eq_true, false_or, decide_eq_true_eq] at h2
              omega⟩
            rw [h0] at this; cases this
          | succ n ihn =>
            intro j hj hjm hjl
            obtain ⟨oj, hoj⟩ : ∃ oj, ops[j]? = some oj := ⟨ops[j], Array.getElem?_eq_getElem (by omega)⟩
            have : j ∈ Region.ready .any ops listed := mem_ready.2 ⟨hjl, oj, hoj, fun e he hbind => by
              have hb := List.all_eq_true.1 hB j (List.mem_range.2 (by omega))
              simp only [hoj, Bool.and_eq_true] at hb
              have h2 := Array.all_eq_true'.1 hb.2 e he
              simp only [hbind, Bool.not_true, Bool.or_eq_true, Bool.false_eq_true, false_or, decide_eq_true_eq] at h2
              cases hx : listed.getD e.on true with
              | false => exact (ihn e.on (by omega) (by omega) hx).elim
              | true =>
                rw [getD_toList, List.getD_eq_getElem?_getD] at hx ⊢
                cases hy : listed.toList[e.on]? with
                | none =>
                  have h4 := List.getElem?_eq_none_iff.1 hy
                  have := U.size
                  simp at h4; omega
                | some b => rw [hy] at hx; simpa using hx⟩
            rw [h0] at this; cases this
        obtain ⟨j, hj, hjl⟩ := hnot
        exact (least j j (Nat.le_refl _) hj hjl).elim
      · obtain ⟨h1, o, ho, hdep⟩ := mem_ready.1 hi
        have hlt : i < ops.size := (Array.getElem?_eq_some_iff.1 ho).1
        have hil : listed.toList[i]? = some false := by
          rw [getD_toList, List.getD_eq_getElem?_getD] at h1
          cases hx : listed.toList[i]? with
          | none => rw [hx] at h1; simp at h1
          | some b => rw [hx] at h1; simp at h1; rw [h1]
        rcases Nat.lt_or_ge i m with him | hge
        rotate_left
        · have gd : ∀ t, t < ops.size → ∀ l : Array Bool, l.size = ops.size → l.getD t true = l.getD t false := fun t ht l hl => by
            rw [getD_toList, getD_toList, List.getD_eq_getElem?_getD, List.getD_eq_getElem?_getD, List.getElem?_eq_getElem (by simpa [hl] using ht)]; rfl
          have hb := List.all_eq_true.1 hB i (List.mem_range.2 hlt)
          simp only [ho, Bool.and_eq_true, Bool.or_eq_true, decide_eq_true_eq] at hb
          have hwait : ∀ t, t < i → (t = f ∧ i = m) ∨ listed.getD t false = true := by
            intro t ht
            rcases hb.1.2 with hb2 | hb2
            · omega
            · have := List.all_eq_true.1 hb2 t (List.mem_range.2 ht)
              simp only [Bool.or_eq_true, Bool.and_eq_true, beq_iff_eq] at this
              rcases this with this | this
              · exact Or.inl this
              · obtain ⟨e, he, hee⟩ := Array.any_eq_true'.1 this
                simp only [Bool.and_eq_true, beq_iff_eq] at hee
                have hd := hdep e he hee.1
                rw [hee.2] at hd
                exact Or.inr hd
          obtain ⟨j, hj, hjl⟩ := hnot
          have hjf : j = f ∧ i = m := by
            rcases hwait j (by omega) with h | h
            · exact h
            · rw [gd j (by omega) listed U.size, h] at hjl; cases hjl
          obtain ⟨hjf, him⟩ := hjf
          subst hjf
          subst him
          have hG' : ∀ t, t < i → t ≠ j → G t us w := fun t ht hne => hG t ht ((hwait t ht).resolve_left (fun h => hne h.1))
          have h2 := hend2 us w U.st hG'
          rw [wpOps_cons] at h2
          refine wpOp_mono (fun a' w' h' => ?_) h2
          rw [wpOps_cons] at h'
          have hu1 := unl_set listed.toList i hil
          rw [← Array.toList_setIfInBounds] at hu1
          have hs1 : (listed.setIfInBounds i true).size = ops.size := by simpa using U.size
          have hfl : (listed.setIfInBounds i true).getD j true = false := by rw [getD_set_other (by omega)]; exact hjl
          cases fuel with
          | zero =>
            have := unl_zero (listed.setIfInBounds i true).toList (by omega) j
            rw [← getD_toList, hfl] at this
            cases this
          | succ fu =>
            have hfs : (listed.setIfInBounds i true).toList[j]? = some false := by
              rw [getD_toList, List.getD_eq_getElem?_getD] at hfl
              cases hx : (listed.setIfInBounds i true).toList[j]? with
              | none => rw [hx] at hfl; simp at hfl
              | some b => rw [hx] at hfl; simp at hfl; rw [hfl]
            have hu2 := unl_set _ j hfs
            rw [← Array.toList_setIfInBounds] at hu2
            have hall1 : ∀ t, t < i → t ≠ j → (listed.setIfInBounds i true).getD t false = true := fun t ht hne => getD_set_true ((hwait t ht).resolve_left (fun h => hne h.1))
            refine ⟨fun h0 => ?_, fun i' hi' => ?_⟩
            · exfalso
              obtain ⟨oj, hoj⟩ : ∃ oj, ops[j]? = some oj := ⟨ops[j], Array.getElem?_eq_getElem (by omega)⟩
              have : j ∈ Region.ready .any ops (listed.setIfInBounds i true) := mem_ready.2 ⟨hfl, oj, hoj, fun e he hbind => by
                have hbj := List.all_eq_true.1 hB j (List.mem_range.2 (by omega))
                simp only [hoj, Bool.and_eq_true] at hbj
                have h3 := Array.all_eq_true'.1 hbj.2 e he
                simp only [hbind, Bool.not_true, Bool.or_eq_true, Bool.false_eq_true, false_or, decide_eq_true_eq] at h3
                exact hall1 e.on (by omega) (by omega)⟩
              rw [h0] at this; cases this
            · obtain ⟨h1', o', ho', hdep'⟩ := mem_ready.1 hi'
              have hlt' : i' < ops.size := (Array.getElem?_eq_some_iff.1 ho').1
              have hij : i' = j := by
                apply Classical.byContradiction
                intro hne
                rcases Nat.lt_trichotomy i' i with h | h | h
                · have := hall1 i' h hne
                  rw [← gd i' hlt' _ hs1, h1'] at this; cases this
                · subst h
                  have := gd i' hlt' _ hs1
                  have h5 : (listed.setIfInBounds i' true).getD i' false = true := by
                    rw [getD_toList, Array.toList_setIfInBounds, List.getD_eq_getElem?_getD, List.getElem?_set, if_pos rfl, if_pos (by have := U.size; simp; omega)]; rfl
                  rw [this, h5] at h1'; cases h1'
                · have hb' := List.all_eq_true.1 hB i' (List.mem_range.2 hlt')
                  simp only [ho', Bool.and_eq_true, Bool.or_eq_true, decide_eq_true_eq] at hb'
                  rcases hb'.1.2 with hb2 | hb2
                  · omega
                  · have := List.all_eq_true.1 hb2 j (List.mem_range.2 (by omega))
                    simp only [Bool.or_eq_true, Bool.and_eq_true, beq_iff_eq] at this
                    rcases this with this | this
                    · omega
                    · obtain ⟨e, he, hee⟩ := Array.any_eq_true'.1 this
                      simp only [Bool.and_eq_true, beq_iff_eq] at hee
                      have hd := hdep' e he hee.1
                      rw [hee.2, ← gd j (by omega) _ hs1, hfl] at hd
                      cases hd
              subst hij
              refine wpOp_mono (fun a'' w'' h'' => ?_) h'
              have hlow : ∀ (n : Nat) (l : List Bool), (∀ t, n ≤ t → t < l.length → l.getD t true = false) → l.length - n ≤ unl l := by
                intro n l
                induction l generalizing n with
                | nil => intro _; simp
                | cons b r ih =>
                  intro hb
                  cases n with
                  | zero =>
                    have h0 := hb 0 (Nat.le_refl _) (by simp)
                    have h1 := ih 0 (fun t _ ht => by have := hb (t + 1) (by omega) (by simpa using ht); simpa using this)
                    simp at h0
                    subst h0
                    simp [unl] at h1 ⊢; omega
                  | succ n =>
                    have h1 := ih n (fun t ht ht' => by have := hb (t + 1) (by omega) (by simpa using ht'); simpa using this)
                    simp only [unl, List.length_cons]; omega
              have hs2 : ((listed.setIfInBounds i true).setIfInBounds i' true).size = ops.size := by simpa using U.size
              have hrest : ∀ t, i + 1 ≤ t → t < ops.size → ((listed.setIfInBounds i true).setIfInBounds i' true).getD t true = false := fun t ht ht' => by
                rw [getD_set_other (by omega), getD_set_other (by omega)]; exact U.tail t (by omega) ht'
              have hn := hlow (i + 1) ((listed.setIfInBounds i true).setIfInBounds i' true).toList (fun t ht ht' => by
                rw [← getD_toList]; exact hrest t ht (by rw [Array.length_toList, hs2] at ht'; exact ht'))
              rw [Array.length_toList, hs2] at hn
              refine wpAny_tailF hB0 (ops.size - (i + 1)) (i + 1) _ a'' w'' (by omega) (by omega) (fun t ht => ?_) hs2 fu (by omega) h''
              by_cases h7 : i + 1 ≤ t
              · rw [hrest t h7 ht]; simp; omega
              · have e1 : ((listed.setIfInBounds i true).setIfInBounds i' true).getD t true = true := by
                  rw [gd t ht _ hs2]
                  by_cases h8 : i' = t
                  · subst h8
                    rw [getD_toList, Array.toList_setIfInBounds, List.getD_eq_getElem?_getD, List.getElem?_set, if_pos rfl, if_pos (by rw [Array.length_toList, hs1]; exact ht)]; rfl
                  · refine getD_set_true ?_
                    by_cases h9 : i = t
                    · subst h9
                      rw [getD_toList, Array.toList_setIfInBounds, List.getD_eq_getElem?_getD, List.getElem?_set, if_pos rfl, if_pos (by rw [Array.length_toList, U.size]; exact ht)]; rfl
                    · exact hall1 t (by omega) (fun e => h8 e.symm)
                rw [e1]; simp; omega
        obtain ⟨hds, hdp⟩ := hdepOk i o him ho
        have hdm : ∀ e ∈ o.after, Region.binds .any e = true → e.on < m := by
          intro e he hbind
          have hd := hdep e he hbind
          rcases Nat.lt_or_ge e.on m with h | h
          · exact h
          · exfalso
            rcases Nat.lt_or_ge e.on ops.size with h2 | h2
            · have := U.tail e.on h h2
              rw [getD_toList, List.getD_eq_getElem?_getD] at this hd
              cases hx : listed.toList[e.on]? with
              | none => rw [hx] at hd; simp at hd
              | some b => rw [hx] at hd this; simp at hd this; rw [hd] at this; cases this
            · rw [getD_toList, List.getD_eq_getElem?_getD, List.getElem?_eq_none (by have := U.size; simp; omega)] at hd
              simp at hd
        have next : ∀ v w', St w' → Keep w w' → G i (upd us o.dst v) w' → wpAny P .any ops Q fuel (listed.setIfInBounds i true) ((over a0 ds us).put o.dst v) w' := by
          intro v w' hst hk hg
          refine ih _ _ _ ?_ ⟨by simpa using U.size, ?_, ?_, hst, upd us o.dst v, over_put hds, ?_⟩
          · have := unl_set listed.toList i hil
            rw [Array.toList_setIfInBounds]; omega
          · intro j hj hj'
            rw [getD_set_other (by omega)]; exact U.tail j hj hj'
          · intro j oj hoj hlj e he hbind
            by_cases ej : i = j
            · subst ej
              rw [ho] at hoj
              cases hoj
              exact getD_set_true (hdep e he hbind)
            · rw [getD_set_other ej] at hlj
              exact getD_set_true (U.closed j oj hoj hlj e he hbind)
          · intro j hj hlj
            by_cases ej : i = j
            · subst ej; exact hg
            · rw [getD_set_other ej] at hlj
              refine hsup j us _ w' hj (fun t ht => ?_) (hkeep j us w w' hj hk (hG j hj hlj))
              symm
              refine upd_ne (fun hd => ?_)
              have hjs : j < ops.size := by omega
              obtain ⟨oj, hoj⟩ : ∃ oj, ops[j]? = some oj := ⟨ops[j], Array.getElem?_eq_getElem hjs⟩
              rcases (hdepOk j oj hj hoj).2 t ht i o ho hd with h | ⟨e, he, hbind, heq⟩
              · exact ej h
              · have := U.closed j oj hoj hlj e he hbind
                rw [heq, getD_toList, List.getD_eq_getElem?_getD, hil] at this
                simp at this
        have howes := howe i o him ho us w U.st (fun e he hbind => hG e.on (hdm e he hbind) (hdep e he hbind))
        unfold wpOp
        rw [ho]
        simp only
        by_cases hw : Region.wanted o (yielded ops (over a0 ds us).tmps) = true
        · rw [if_pos hw] at howes ⊢
          refine Or.inl (Oper.wp_mono (fun a' w' h => ?_) howes)
          obtain ⟨v, rfl, hst, hk, hg⟩ := h
          exact next v w' hst hk hg
        · rw [if_neg hw] at howes ⊢
          exact next undef w U.st (hrefl w) howes

theorem wp_region_rgF {P : Program} {id : Nat} {l : List Oper} {Q : Exit → Act → World → Prop} {a0 : Act} {w0 : World} (m f : Nat) (ds : List Nat) (sup : Nat → List Nat) (A : (Nat → Value) → Act) (G : Nat → (Nat → Value) → World → Prop) (St : World → Prop) (Keep : World → World → Prop)
    (hmix : P.follows .mixedOrders = true) (hB : rgOkF l.toArray m f ds sup = true) (hA : ∀ us, over a0 ds us = A us) (h0 : St w0.drew) (hrefl : ∀ w, Keep w w)
    (hkeep : ∀ j us w w', j < m → Keep w w' → G j us w → G j us w') (hsup : ∀ j us us' w, j < m → (∀ t ∈ sup j, us t = us' t) → G j us w → G j us' w)
    (hall : rgAll P l.toArray A G St Keep 0 (l.take m))
    (hend : ∀ us w, St w → (∀ j, j < m → G j us w) → wpList P l.toArray Q (l.drop m) (A us) w)
    (hend2 : ∀ us w, St w → (∀ j, j < m → j ≠ f → G j us w) → wpOps P l.toArray Q (m :: f :: List.range' (m + 1) (l.length - (m + 1))) (A us) w) : (Code.region id l.toArray true).wp P Q a0 w0 := by
  refine wp_region_any hmix ?_
  refine wpAny_headF (a0 := a0) (ds := ds) (G := G) (St := St) (Keep := Keep) hB hkeep hrefl hsup ?_ ?_ ?_ _ _ _ _ (by rw [Array.toList_replicate, unl_replicate]; exact Nat.le_refl _) ?_
  · intro i o hi ho us w hst hd
    have ho' : (l.take m)[i]? = some o := by rw [List.getElem?_take, if_pos hi]; simpa using ho
    have := rgAll_at _ 0 hall i o ho' us w hst hd
    rw [Nat.zero_add] at this
    rw [hA]
    by_cases hw : Region.wanted o (yielded l.toArray (A us).tmps) = true
    · rw [if_pos hw] at this ⊢
      exact wp_of_leaves (fun v w' h => ⟨v, rfl, h.1, h.2.1, h.2.2⟩) this
    · rw [if_neg hw] at this ⊢
      exact this
  · intro us w hst hg
    have := hend us w hst hg
    rw [hA]
    have e := wpOps_eq_wpList (P := P) (ops := l.toArray) (Q := Q) (l.drop m) m (fun j => by simp [List.getElem?_drop])
    rw [List.length_drop] at e
    have e2 : l.toArray.size - m = l.length - m := by simp
    rw [e2, e]
    exact this
  · intro us w hst hg
    have := hend2 us w hst hg
    rw [hA]
    simpa using this
  · refine ⟨by simp, ?_, ?_, h0, fun t => a0.tmps.getD t undef, ?_, ?_⟩
    · intro j _ hj
      rw [getD_toList, Array.toList_replicate, List.getD_eq_getElem?_getD, List.getElem?_replicate]
      simp at hj
      simp [hj]
    · intro j o _ hj
      rw [getD_toList, Array.toList_replicate, List.getD_eq_getElem?_getD, List.getElem?_replicate] at hj
      split at hj <;> simp at hj
    · unfold over
      cases a0 with
      | mk tmps defers =>
        congr 1
        apply Array.ext_getElem?
        intro i
        rw [Array.getElem?_mapIdx]
        cases hx : tmps[i]? with
        | none => rfl
        | some v =>
          simp only [Option.map_some, Array.getD_eq_getD_getElem?, hx, Option.getD_some]
          split <;> rfl
    · intro j _ hj
      rw [getD_toList, Array.toList_replicate, List.getD_eq_getElem?_getD, List.getElem?_replicate] at hj
      split at hj <;> simp at hj


/-- a store into a whole block, both ways -/
theorem wp_store_eq {P : Program} {o : Oper} {a : Act} {w : World} {K : Act → World → Prop} {Q : Exit → Act → World → Prop} (ty : TypeId) (x y : Operand) (ho : o.op = .store ty x y)
    (g : Nat) (cells : Array Value) (hx : a.eval x = .pointer (some ⟨g, 0, none⟩)) (hy : a.eval y = .agg cells)
    (t : TypeId) (old : Array Value) (hg : w.heap[g]? = some (.cells old t (0, 0))) (hi : (P.info? ty).map (·.size) = some cells.size)
    (hold : old.size = cells.size) (h1 : cells.all (·.oneCell') = true) : o.wp P a w K Q = K (a.put o.dst undef) (w.setRow g cells) := by
  unfold Oper.wp execOp
  simp only [ho, hx, hy, Instr.storeAt, Instr.sureAddr, Sem.run_bind, Sem.run_pure, Result.andThen_ok, run_storeVar_row w g t ty old cells hg hi hold h1]
  rfl

/-- **A REGION THAT DRAWS ITS ORDER, ITS TAIL A STORE BEHIND WHICH ONE OPERATION OF THE HEAD MAY COME.** -/
theorem wp_region_rsF {P : Program} {id : Nat} {l : List Oper} {Q : Exit → Act → World → Prop} {a0 : Act} {w0 : World} (f : Nat) (ds : List Nat) (A : (Nat → Value) → Act) {Keep : World → World → Prop} (sp : List (Sp Keep)) (St : World → Prop)
    (om of : Oper) (ty : TypeId) (x y : Operand) (df : Nat)
    (hmix : P.follows .mixedOrders = true) (hB : rgOkF l.toArray sp.length f ds (supOf l) = true) (hA : ∀ us, over a0 ds us = A us) (h0 : St w0.drew) (hrefl : ∀ w, Keep w w)
    (hom : l[sp.length]? = some om) (hof : l[f]? = some of) (hg1 : om.guard = none) (hd1 : om.dst = none) (ho1 : om.op = .store ty x y) (hg2 : of.guard = none) (hd2 : of.dst = some df)
    (hnd : ((List.range sp.length).all fun j => j == f || !(supOf l j).contains df) = true) (hdf : ds.contains df = true)
    (hxy : ∀ us v, (A (upd us (some df) v)).eval x = (A us).eval x ∧ (A (upd us (some df) v)).eval y = (A us).eval y)
    (hall : rsAll P l A sp St (l.take sp.length) sp)
    (hst2 : ∀ us w, St w → (∀ j, j < sp.length → j ≠ f → depHolds l sp us w j) → ∃ g cells t old, (A us).eval x = .pointer (some ⟨g, 0, none⟩) ∧ (A us).eval y = .agg cells ∧ w.heap[g]? = some (.cells old t (0, 0)) ∧ (P.info? ty).map (·.size) = some cells.size ∧ old.size = cells.size ∧ cells.all (·.oneCell') = true)
    (hfl : ∀ us w, St w → (∀ j, j < sp.length → j ≠ f → depHolds l sp us w j) → ∃ v, (∀ w', (execOp (A us).eval of).run P w' = .ok (.value v) w') ∧ depHolds l sp (upd us (some df) v) w f)
    (hend : ∀ us w, St w → (∀ j, j < sp.length → depHolds l sp us w j) → wpList P l.toArray Q (l.drop sp.length) (A us) w) : (Code.region id l.toArray true).wp P Q a0 w0 := by
  have hm : sp.length ≤ l.length := Nat.le_of_lt (List.getElem?_eq_some_iff.1 hom).1
  refine wp_region_rgF sp.length f ds (supOf l) A (fun i us w => depHolds l sp us w i) St Keep hmix hB hA h0 hrefl (fun j us w w' _ hk h => depHolds_kept hk h) (fun j us us' w _ he h => depHolds_sup he h) ?_ hend ?_
  · refine rg_of_rs _ _ 0 (by rw [List.length_take]; omega) (fun j hj => ?_) (fun j hj => ?_) (fun j _ => by simp) hall
    · have : j < (l.take sp.length).length := by
        apply Classical.byContradiction
        intro h
        rw [List.getElem?_eq_none (by omega)] at hj; cases hj
      rw [List.length_take] at this
      rw [Nat.zero_add, List.getElem?_take, if_pos (by omega)]
    · rw [List.length_take] at hj
      rw [Nat.zero_add, List.getElem?_take, if_pos (by omega)]
  · intro us w hst hd
    obtain ⟨v, hv, hvf⟩ := hfl us w hst hd
    obtain ⟨g, cells, t, old, e1, e2, e3, e4, e5, e6⟩ := hst2 us w hst hd
    have hd' : ∀ j, j < sp.length → depHolds l sp (upd us (some df) v) w j := by
      intro j hj
      by_cases e : j = f
      · subst e; exact hvf
      · refine depHolds_sup (fun t ht => ?_) (hd j hj e)
        have h1 := List.all_eq_true.1 hnd j (List.mem_range.2 hj)
        simp only [Bool.or_eq_true, beq_iff_eq, Bool.not_eq_true', e, false_or] at h1
        symm
        refine upd_ne (fun ht2 => ?_)
        obtain rfl := Option.some.inj ht2
        rw [List.contains_iff_mem.2 ht] at h1
        cases h1
    have h := hend _ w hst hd'
    have hcons : l.drop sp.length = om :: l.drop (sp.length + 1) := by
      obtain ⟨hl, he⟩ := List.getElem?_eq_some_iff.1 hom
      rw [← he]
      exact (List.getElem_cons_drop hl).symm
    rw [hcons] at h
    have hput : (A us).put of.dst v = A (upd us (some df) v) := by
      rw [← hA us, hd2, over_put (fun t ht => by cases ht; exact hdf), hA]
    have hrest : ∀ a w, wpOps P l.toArray Q (List.range' (sp.length + 1) (l.length - (sp.length + 1))) a w = wpList P l.toArray Q (l.drop (sp.length + 1)) a w := by
      intro a w
      have e := wpOps_eq_wpList (P := P) (ops := l.toArray) (Q := Q) (l.drop (sp.length + 1)) (sp.length + 1) (fun j => by simp [List.getElem?_drop])
      rw [List.length_drop] at e
      rw [e]
    have hx' := (hxy us v).1
    have hy' := (hxy us v).2
    have hex : execOp (A us).eval om = execOp (A (upd us (some df) v)).eval om := by
      unfold execOp
      simp only [ho1, hx', hy']
    have hom' : l.toArray[sp.length]? = some om := by simpa using hom
    have hof' : l.toArray[f]? = some of := by simpa using hof
    unfold wpList at h
    rw [if_pos (by simp [Region.wanted, hg1])] at h
    rw [wpOps_cons]
    unfold wpOp
    rw [hom']
    simp only
    rw [if_pos (by simp [Region.wanted, hg1])]
    rcases h with h | ⟨h, hq⟩
    · refine Or.inl ?_
      rw [wp_store_eq ty x y ho1 g cells (hx'.trans e1) (hy'.trans e2) t old e3 e4 e5 e6, hd1] at h
      rw [wp_store_eq ty x y ho1 g cells e1 e2 t old e3 e4 e5 e6, hd1]
      show wpOps P l.toArray Q (f :: _) (A us) _
      rw [wpOps_cons]
      unfold wpOp
      rw [hof']
      simp only
      rw [if_pos (by simp [Region.wanted, hg2])]
      refine Or.inl ?_
      unfold Oper.wp
      rw [hv]
      show wpOps P l.toArray Q _ ((A us).put of.dst v) _
      rw [hput, hrest]
      exact h
    · refine Or.inr ⟨?_, hq⟩
      unfold Oper.asks at h ⊢
      rw [hex]
      exact h

end Go.Proofs.YtlcglclojlffgaaGreatDoor
namespace Go.Proofs.YtlcglclojlffgaaGreatDoor
open Go.RowKit

/-- a word in a cell of the row g -/
def WdV (g : Nat) (wd : List Nat) (v : Value) (W : World) : Prop := ∃ a c, v = .slice a wd.length c ∧ IntsAt W a (natI wd) ∧ ∀ ad, a = some ad → ad.block ≠ g
/-- a row of words: the first k are laid -/
def WsAt (W : World) (g n k : Nat) (wd : Nat → List Nat) : Prop := ∃ C t, W.heap[g]? = some (.cells C t (0, 0)) ∧ C.size = n ∧ ∀ i, i < k → ∃ v, C[i]? = some v ∧ WdV g (wd i) v W
theorem WdV.below {g : Nat} {wd : List Nat} {v : Value} {W W' : World} (h : WdV g wd v W) (hb : Below W.heap.size W W') : WdV g wd v W' := by
  obtain ⟨a, c, e, hi, hne⟩ := h
  exact ⟨a, c, e, hi.below hb, hne⟩
theorem WsAt.below {W W' : World} {g n k : Nat} {wd : Nat → List Nat} (h : WsAt W g n k wd) (hb : Below W.heap.size W W') : WsAt W' g n k wd := by
  obtain ⟨C, t, h1, h2, h3⟩ := h
  exact ⟨C, t, blkK hb h1, h2, fun i hi => by obtain ⟨v, e, hv⟩ := h3 i hi; exact ⟨v, e, hv.below hb⟩⟩
theorem WsAt.new (w : World) (n : Nat) (wd : Nat → List Nat) : WsAt (w.alloc (.cells (madeCells #[.slice none 0 0] n) 67)) w.heap.size n 0 wd :=
  ⟨_, _, push_at _ _, size_madeCells _ _, fun i hi => absurd hi (by omega)⟩
theorem WsAt.lt {W : World} {g n k : Nat} {wd : Nat → List Nat} (h : WsAt W g n k wd) : g < W.heap.size := by
  obtain ⟨C, t, h1, h2, h3⟩ := h
  exact blkLt h1
theorem WdV.store {g : Nat} {wd : List Nat} {v u : Value} {W : World} {i : Nat} (h : WdV g wd v W) : WdV g wd v (W.setCell ⟨g, i, none⟩ u) := by
  obtain ⟨a, c, e, hi, hne⟩ := h
  refine ⟨a, c, e, fun j hj => ?_, hne⟩
  obtain ⟨b, o, ha, hc⟩ := hi j hj
  refine ⟨b, o, ha, ?_⟩
  rw [World.cell?_setCell_other _ _ _ _ (by have := hne _ ha; intro e; rw [Addr.mk.injEq] at e; exact this e.1.symm)]
  exact hc
theorem WsAt.store {W : World} {g n k : Nat} {wd : Nat → List Nat} {v : Value} (h : WsAt W g n k wd) (hk : k < n) (hv : WdV g (wd k) v W) : WsAt (W.setCell ⟨g, k, none⟩ v) g n (k + 1) wd := by
  obtain ⟨C, t, h1, h2, h3⟩ := h
  refine ⟨_, t, setCell_blk h1 _ _, by simp [h2], fun i hi => ?_⟩
  by_cases e : i = k
  · subst e
    exact ⟨v, by rw [Array.getElem?_setIfInBounds_self_of_lt (by omega)], hv.store⟩
  · obtain ⟨v', e', hv'⟩ := h3 i (by omega)
    exact ⟨v', by rw [Array.getElem?_setIfInBounds_ne (by omega)]; exact e', hv'.store⟩
/-- a place of the row is there -/
theorem WsAt.place {W : World} {g n k : Nat} {wd : Nat → List Nat} (h : WsAt W g n k wd) {i : Nat} (hi : i < n) : ∃ v, W.cell? ⟨g, i, none⟩ = some v ∧ W.frozen? ⟨g, i, none⟩ = false := by
  obtain ⟨C, t, h1, h2, h3⟩ := h
  obtain ⟨hc, hf⟩ := heap_cellR h1
  exact ⟨C[i]'(by omega), by rw [hc]; exact Array.getElem?_eq_getElem (by omega), hf i⟩
theorem IntsAt.grownBy {W W' : World} {a : Option Addr} {zs : List Int} {row : Option Nat} (h : IntsAt W a zs) (hg : W.grownBy W' row) (hr : ∀ r, row = some r → ∃ o : Obj, W.heap[r]? = some o ∧ o.isCells = false) : IntsAt W' a zs := by
  intro i hi
  obtain ⟨b, o, ha, hc⟩ := h i hi
  exact ⟨b, o, ha, cell_kept hc hg hr⟩
theorem blk_grownBy {W W' : World} {row : Option Nat} {b : Nat} {C : Array Value} {t : TypeId} {fz : Nat × Nat} (h : W.heap[b]? = some (.cells C t fz)) (hg : W.grownBy W' row) (hr : ∀ r, row = some r → ∃ o : Obj, W.heap[r]? = some o ∧ o.isCells = false) : W'.heap[b]? = some (.cells C t fz) := by
  refine (hg.block b (blkLt h) fun e => ?_).trans h
  obtain ⟨o, h1, h2⟩ := hr b e.symm
  rw [h] at h1
  cases h1
  cases h2
theorem WsAt.grownBy {W W' : World} {g n k : Nat} {wd : Nat → List Nat} {row : Option Nat} (h : WsAt W g n k wd) (hg : W.grownBy W' row) (hr : ∀ r, row = some r → ∃ o : Obj, W.heap[r]? = some o ∧ o.isCells = false) : WsAt W' g n k wd := by
  obtain ⟨C, t, h1, h2, h3⟩ := h
  refine ⟨C, t, blk_grownBy h1 hg hr, h2, fun i hi => ?_⟩
  obtain ⟨v, e, a, c, e2, hI, hne⟩ := h3 i hi
  exact ⟨v, e, a, c, e2, hI.grownBy hg hr, hne⟩
theorem OwnI.grownBy {W W' : World} {base : Nat} {v : Value} {zs : List Int} {row : Option Nat} (h : OwnI W base v zs) (hg : W.grownBy W' row) (hr : ∀ r, row = some r → ∃ o : Obj, W.heap[r]? = some o ∧ o.isCells = false) : OwnI W' base v zs := by
  refine h.other hg fun k hk e => ?_
  obtain ⟨o, h1, h2⟩ := hr k e
  rcases h.2 with ⟨rfl, _⟩ | ⟨g, cap, cur, rfl, _, hgc, _⟩
  · cases hk
  · cases hk
    rw [hgc] at h1
    cases h1
    cases h2
end Go.Proofs.YtlcglclojlffgaaGreatDoor
namespace Go.Proofs.YtlcglclojlffgaaGreatDoor
open Go.RowKit

/-- a block and an element, in a slice of two -/
def PrAt (W : World) (x : Nat × Nat) (v : Value) : Prop := ∃ b, v = .slice (some ⟨b, 0, none⟩) 2 2 ∧ W.heap[b]? = some (.cells #[.int .i64 (x.1 : Int), .int .i64 (x.2 : Int)] 2 (0, 0))
/-- rows of pairs of the call's own -/
def PrsOwn (W : World) (base : Nat) (v : Value) (ps : List (Nat × Nat)) : Prop := ∃ vs : List Value, vs.length = ps.length ∧ W.ownsRow base 67 1 v ps.length vs ∧ ∀ (i : Nat) (x : Nat × Nat), ps[i]? = some x → ∃ u, vs[i]? = some u ∧ PrAt W x u
theorem PrAt.below {W W' : World} {x : Nat × Nat} {v : Value} (h : PrAt W x v) (hb : Below W.heap.size W W') : PrAt W' x v := by
  obtain ⟨b, e, hg⟩ := h
  exact ⟨b, e, blkK hb hg⟩
theorem owns_type {W : World} {base : Nat} {t : TypeId} {k n : Nat} {v : Value} {vs : List Value} (h : W.ownsRow base t k v n vs) {b : Nat} {C : Array Value} {t' : TypeId} {fz : Nat × Nat} (hg : W.heap[b]? = some (.cells C t' fz)) (ht : t' ≠ t) : v.ownBlock ≠ some b := by
  rcases h.2 with ⟨rfl, h0⟩ | ⟨g, cap, cur, rfl, hb, hg2, r⟩
  · intro e; cases e
  · intro e
    obtain rfl := Option.some.inj e
    rw [hg] at hg2
    injection hg2 with hc
    injection hc with _ hc
    exact ht hc
theorem PrAt.grownBy {W W' : World} {base : Nat} {t : TypeId} {k n : Nat} {s v : Value} {vs : List Value} {x : Nat × Nat} (h : PrAt W x v) (ho : W.ownsRow base t k s n vs) (hg : W.grownBy W' s.ownBlock) (ht : 2 ≠ t) : PrAt W' x v := by
  obtain ⟨b, e, hb⟩ := h
  exact ⟨b, e, (hg.block b (blkLt hb) (fun e' => owns_type ho hb ht e'.symm)).trans hb⟩
theorem PrsOwn.grown {W W' : World} {base : Nat} {v : Value} {ps : List (Nat × Nat)} (h : PrsOwn W base v ps) (hb : Below W.heap.size W W') : PrsOwn W' base v ps := by
  obtain ⟨vs, h1, h2, h3⟩ := h
  exact ⟨vs, h1, h2.kept (row := none) ⟨hb.os, hb.tape, hb.output, hb.size, fun k hk _ => hb.block k hk⟩ (by
    cases hv : v.ownBlock with
    | none => exact Or.inl rfl
    | some k => exact Or.inr (fun e => by cases e)), fun i x hx => by
    obtain ⟨u, hu, hp⟩ := h3 i x hx
    exact ⟨u, hu, hp.below hb⟩⟩
theorem PrsOwn.weak {W : World} {base base' : Nat} {v : Value} {ps : List (Nat × Nat)} (h : PrsOwn W base v ps) (hb : base' ≤ base) : PrsOwn W base' v ps := by
  obtain ⟨vs, h1, ⟨h2, h4⟩, h3⟩ := h
  refine ⟨vs, h1, ⟨h2, ?_⟩, h3⟩
  rcases h4 with h4 | ⟨g, cap, cur, e1, hb', r⟩
  · exact Or.inl h4
  · exact Or.inr ⟨g, cap, cur, e1, by omega, r⟩
theorem PrsOwn.new {w : World} {base g : Nat} (hB : base ≤ w.heap.size) (hg : g = w.heap.size) : PrsOwn (w.alloc (.cells #[] 67 (0, 0))) base (.slice (some ⟨g, 0, none⟩) 0 0) [] := by
  subst hg
  exact ⟨[], rfl, World.ownsRow_lit (base := base) (size := 1) w #[] 0 hB (by unfold maxLen; omega) rfl, fun i x hx => by simp at hx⟩
theorem PrsOwn.read {W : World} {base : Nat} {v : Value} {ps : List (Nat × Nat)} (h : PrsOwn W base v ps) : ∃ a c, v = .slice a ps.length c := by
  obtain ⟨vs, h1, h2, h3⟩ := h
  rcases h2.2 with ⟨rfl, h0⟩ | ⟨g, cap, cur, rfl, _⟩
  · exact ⟨none, 0, by rw [h0]⟩
  · exact ⟨_, _, rfl⟩
/-- a pair is read out of the row -/
theorem PrsOwn.at {W : World} {base : Nat} {a : Option Addr} {n c : Nat} {ps : List (Nat × Nat)} (h : PrsOwn W base (.slice a n c) ps) {i : Nat} {x : Nat × Nat} (hx : ps[i]? = some x) :
    ∃ g b, a = some ⟨g, 0, none⟩ ∧ W.cell? ⟨g, i, none⟩ = some (.slice (some ⟨b, 0, none⟩) 2 2) ∧ W.heap[b]? = some (.cells #[.int .i64 (x.1 : Int), .int .i64 (x.2 : Int)] 2 (0, 0)) ∧ g < W.heap.size := by
  obtain ⟨vs, h1, h2, h3⟩ := h
  obtain ⟨u, hu, b, rfl, hg⟩ := h3 i x hx
  have hi : i < ps.length := (List.getElem?_eq_some_iff.1 hx).1
  rcases h2.2 with ⟨e1, h0⟩ | ⟨g, cap, cur, e1, hb, hgc, q1, q2, q3, q4⟩
  · omega
  · simp only [Value.slice.injEq] at e1
    obtain ⟨rfl, rfl, rfl⟩ := e1
    have hc := World.ownsRow.cellAt h2 i (by omega)
    exact ⟨g, b, rfl, hc.trans hu, hg, blkLt hgc⟩
end Go.Proofs.YtlcglclojlffgaaGreatDoor
namespace Go.Proofs.YtlcglclojlffgaaGreatDoor
open Go.RowKit

/-- rows of lists of the call's own -/
def RwsOwn (W : World) (base : Nat) (v : Value) (ws : List (List Int)) : Prop := ∃ vs : List Value, vs.length = ws.length ∧ W.ownsRow base 67 1 v ws.length vs ∧ ∀ (i : Nat) (x : List Int), ws[i]? = some x → ∃ u, vs[i]? = some u ∧ OwnI W 0 u x
theorem RwsOwn.grown {W W' : World} {base : Nat} {v : Value} {ws : List (List Int)} (h : RwsOwn W base v ws) (hb : Below W.heap.size W W') : RwsOwn W' base v ws := by
  obtain ⟨vs, h1, h2, h3⟩ := h
  exact ⟨vs, h1, h2.kept (row := none) ⟨hb.os, hb.tape, hb.output, hb.size, fun k hk _ => hb.block k hk⟩ (by
    cases hv : v.ownBlock with
    | none => exact Or.inl rfl
    | some k => exact Or.inr (fun e => by cases e)), fun i x hx => by
    obtain ⟨u, hu, hp⟩ := h3 i x hx
    exact ⟨u, hu, hp.grown hb⟩⟩
theorem RwsOwn.new {w : World} {base g : Nat} (hB : base ≤ w.heap.size) (hg : g = w.heap.size) : RwsOwn (w.alloc (.cells #[] 67 (0, 0))) base (.slice (some ⟨g, 0, none⟩) 0 0) [] := by
  subst hg
  exact ⟨[], rfl, World.ownsRow_lit (base := base) (size := 1) w #[] 0 hB (by unfold maxLen; omega) rfl, fun i x hx => by simp at hx⟩
theorem RwsOwn.read {W : World} {base : Nat} {v : Value} {ws : List (List Int)} (h : RwsOwn W base v ws) : ∃ a c, v = .slice a ws.length c := by
  obtain ⟨vs, h1, h2, h3⟩ := h
  rcases h2.2 with ⟨rfl, h0⟩ | ⟨g, cap, cur, rfl, _⟩
  · exact ⟨none, 0, by rw [h0]⟩
  · exact ⟨_, _, rfl⟩
/-- a list is read out of the row -/
theorem RwsOwn.at {W : World} {base : Nat} {a : Option Addr} {n c : Nat} {ws : List (List Int)} (h : RwsOwn W base (.slice a n c) ws) {i : Nat} {x : List Int} (hx : ws[i]? = some x) :
    ∃ g a' c', a = some ⟨g, 0, none⟩ ∧ W.cell? ⟨g, i, none⟩ = some (.slice a' x.length c') ∧ IntsAt W a' x ∧ g < W.heap.size := by
  obtain ⟨vs, h1, h2, h3⟩ := h
  obtain ⟨u, hu, ho⟩ := h3 i x hx
  have hi : i < ws.length := (List.getElem?_eq_some_iff.1 hx).1
  obtain ⟨a', c', rfl, hI⟩ := ho.read
  rcases h2.2 with ⟨e1, h0⟩ | ⟨g, cap, cur, e1, hb, hgc, q1, q2, q3, q4⟩
  · omega
  · simp only [Value.slice.injEq] at e1
    obtain ⟨rfl, rfl, rfl⟩ := e1
    have hc := World.ownsRow.cellAt h2 i (by omega)
    exact ⟨g, a', c', rfl, hc.trans hu, hI, blkLt hgc⟩
/-- a list of the call's own, or an empty one without room -/
def OwnE (W : World) (base : Nat) (v : Value) (l : List Int) : Prop := OwnI W base v l ∨ (l = [] ∧ ∃ b, v = .slice (some ⟨b, 0, none⟩) 0 0)
theorem OwnE.grown {W W' : World} {base : Nat} {v : Value} {l : List Int} (h : OwnE W base v l) (hb : Below W.heap.size W W') : OwnE W' base v l := h.imp (fun h => h.grown hb) id
end Go.Proofs.YtlcglclojlffgaaGreatDoor
namespace Go.Proofs.YtlcglclojlffgaaGreatDoor
open Go.RowKit

theorem spSet_any (m : Nat) (h1 : 1 ≤ m) (h3 : m ≤ 3) (w : World) :
    Calls Tryz.prog 77 #[.int .i64 (m : Int)] w fun e w' => e = .returned (.string (charS m)) ∧ w = w' := by
  obtain rfl | rfl | rfl : m = 1 ∨ m = 2 ∨ m = 3 := by omega
  all_goals
    go_enter Tryz.func77, Tryz.ntmps77
    go_wp2_with fail
    go_ret
    exact ⟨rfl, rfl⟩
set_option maxHeartbeats 1000000 in
theorem spChar_any (m : Nat) (h1 : 1 ≤ m) (h4 : m ≤ 4) (x : Int) (x0 : 0 ≤ x) (x1 : x ≤ 255) (w : World) :
    Calls Tryz.prog 134 #[.int .i64 (m : Int), .int .i64 x] w fun e w' => e = .returned (.int .i64 (valC m x)) ∧ Below w.heap.size w w' := by
  have HI1 := Lib.hid (fun w => spIn_below (w := w) (show inB x 0 255 = true from inB_iff.2 ⟨x0, x1⟩))
  have HI2 := Lib.hid (fun w => spIn_below (w := w) (show inB (m : Int) 1 4 = true from inB_iff.2 (by omega)))
  go_enter Tryz.func134, Tryz.ntmps134
  go_wp2_with fail
  refine (HI1.out _).mono ?_
  rintro e w1 ⟨rfl, hb1⟩
  have HB1 := Lib.hid hb1
  clear hb1
  go_wp2_with fail
  refine (HI2.out _).mono ?_
  rintro e w2 ⟨rfl, hb2⟩
  have HB2 := Lib.hid (bt0 HB1.out hb2 (Nat.le_refl _))
  clear hb2
  by_cases hm : m = 4
  · subst hm
    have HV := Lib.hid (show valC 4 x = x by simp [valC])
    go_wp2_with fail
    go_ret
    exact ⟨ret_int HV.out.symm, HB2.out⟩
  · have hmi : ((m : Int) == 4) = false := by rw [beq_eq_false_iff_ne]; omega
    have HV := Lib.hid (show valC m x = idxC (chars m) x 0 by unfold valC; rw [if_neg hm])
    have hl := chars_le m
    go_wp2_with fail
    refine (spSet_any m h1 (by omega) w2).mono ?_
    rintro e w3 ⟨rfl, rfl⟩
    have hsz := charS_size m
    obtain ⟨S, hS⟩ : ∃ S, S = charS m := ⟨_, rfl⟩
    rw [← hS] at hsz ⊢
    have HS := Lib.hid hS
    have hSl : S.size ≤ 45 := by omega
    have HSZ := Lib.hid hsz
    clear hS hsz
    go_wp2_with fail
    go_loop [6] (fun i => ∃ k : Nat, k ≤ S.size ∧ i = .int .i64 k ∧ ∀ i c, i < k → (chars m)[i]? = some c → (c.toNat : Int) ≠ x) (fun i => S.size - (intOf i).toNat)
    case atStart => exact ⟨0, Nat.zero_le _, rfl, fun i c h => by omega⟩
    case round =>
      obtain ⟨k, hk, rfl, hall⟩ := hrel
      have HA := Lib.hid hall
      clear hall
      by_cases hlt : k < S.size
      · have hki : (k : Int) < (S.size : Int) := by omega
        obtain ⟨z, hz⟩ : ∃ z : Nat, S[k].toNat = z := ⟨_, rfl⟩
        have hz2 : z < 256 := by rw [← hz]; exact UInt8.toNat_lt _
        have HC := Lib.hid (show ∃ c, (chars m)[k]? = some c ∧ (c.toNat : Int) = z by
          have e := HS.out
          subst e
          have hk2 : k < (chars m).length := by rw [← charS_size]; exact hlt
          refine ⟨(chars m)[k], List.getElem?_eq_getElem hk2, ?_⟩
          rw [← hz]; rfl)
        by_cases hx : (z : Int) = x
        · have hx' : ((z : Int) == x) = true := by rw [beq_iff_eq]; exact hx
          have HX := Lib.hid hx
          clear hx
          go_wp2_with fail
          go_ret
          refine ⟨ret_int ?_, HB2.out⟩
          obtain ⟨c, hc, hcz⟩ := HC.out
          rw [HV.out, idxC_at _ x 0 k HA.out ⟨c, hc, by rw [hcz, HX.out]⟩]; omega
        · have hx' : ((z : Int) == x) = false := by rw [beq_eq_false_iff_ne]; exact hx
          have HX := Lib.hid hx
          clear hx
          go_wp2_with fail
          refine ⟨⟨k + 1, by omega, by go_num, fun i c hi he => ?_⟩, by simp [intOf]; omega⟩
          by_cases hik : i = k
          · subst hik
            obtain ⟨c', hc, hcz⟩ := HC.out
            rw [hc] at he
            cases he
            rw [hcz]; exact HX.out
          · exact HA.out i c (by omega) he
      · have hki : ¬ (k : Int) < (S.size : Int) := by omega
        go_wp2_with fail
        go_ret
        refine ⟨ret_int ?_, HB2.out⟩
        rw [HV.out, idxC_none]
        intro c hc
        obtain ⟨i, hi, rfl⟩ := List.mem_iff_getElem.1 hc
        exact HA.out i _ (by have := HSZ.out; omega) (List.getElem?_eq_getElem hi)
/-- the bytes of a group and the base of a mode -/
theorem spGroup_any (m : Nat) (h1 : 1 ≤ m) (h4 : m ≤ 4) (w : World) :
    Calls Tryz.prog 141 #[.int .i64 (m : Int)] w fun e w' => e = .returned (.tuple #[.int .i64 (grpM m : Nat), .int .i64 (if m = 3 then 256 else (baseM m : Nat))]) ∧ w = w' := by
  obtain rfl | rfl | rfl | rfl : m = 1 ∨ m = 2 ∨ m = 3 ∨ m = 4 := by omega
  all_goals
    go_enter Tryz.func141, Tryz.ntmps141
    go_wp2_with fail
    go_ret2
    exact ⟨rfl, rfl⟩
/-- the bits of a group -/
theorem spWid_any (m n : Nat) (h1 : 1 ≤ m) (h4 : m ≤ 4) (hn : 1 ≤ n) (hg : n ≤ grpM m) (w : World) :
    Calls Tryz.prog 142 #[.int .i64 (m : Int), .int .i64 (n : Int)] w fun e w' => e = .returned (.int .i64 (widM m n : Nat)) ∧ Below w.heap.size w w' := by
  obtain rfl | rfl | rfl | rfl : m = 1 ∨ m = 2 ∨ m = 3 ∨ m = 4 := by omega
  · obtain rfl | rfl | rfl : n = 1 ∨ n = 2 ∨ n = 3 := by have : grpM 1 = 3 := rfl; omega
    all_goals
      go_enter Tryz.func142, Tryz.ntmps142
      go_wp2_with fail
      go_ret
      exact ⟨rfl, ba1 _ _⟩
  · obtain rfl | rfl : n = 1 ∨ n = 2 := by have : grpM 2 = 2 := rfl; omega
    all_goals
      go_enter Tryz.func142, Tryz.ntmps142
      go_wp2_with fail
      go_ret
      exact ⟨rfl, ba1 _ _⟩
  all_goals
    go_enter Tryz.func142, Tryz.ntmps142
    go_wp2_with fail
    go_ret
    exact ⟨rfl, Below.refl _ _⟩

end Go.Proofs.YtlcglclojlffgaaGreatDoor
namespace Go.Proofs.YtlcglclojlffgaaGreatDoor
open Go.RowKit

set_option maxRecDepth 100000 in
set_option maxHeartbeats 1000000 in
theorem spLen_any (m n : Nat) (h1 : 1 ≤ m) (h4 : m ≤ 4) (hn : 1 ≤ n) (hn2 : n ≤ 255) (w : World) :
    Calls Tryz.prog 135 #[.int .i64 (m : Int), .int .i64 (n : Int)] w fun e w' => e = .returned (.int .i64 (segW m n : Nat)) ∧ Below w.heap.size w w' := by
  have HG := Lib.hid (spGroup_any m h1 h4)
  have HW := Lib.hid (fun n hn hg w => spWid_any m n h1 h4 hn hg w)
  obtain ⟨bs, hbs⟩ : ∃ bs : Int, bs = (if m = 3 then (256 : Int) else ((baseM m : Nat) : Int)) := ⟨_, rfl⟩
  rw [← hbs] at HG
  have HT := Lib.hid (show txtW m n = n / grpM m * widM m (grpM m) + if n % grpM m > 0 then widM m (n % grpM m) else 0 from rfl)
  have HTL := Lib.hid (txtW_le m n)
  obtain ⟨hg1, hg3⟩ := grpM_bd m
  have HD := Lib.hid (widM_bd m)
  obtain ⟨s, hs⟩ : ∃ s, s = grpM m := ⟨_, rfl⟩
  rw [← hs] at HG HW HT hg1 hg3
  have hq : (n : Int).tdiv (s : Int) = ((n / s : Nat) : Int) := by rw [Int.tdiv_eq_ediv_of_nonneg (by omega)]; push_cast; rfl
  have hr : (n : Int).tmod (s : Int) = ((n % s : Nat) : Int) := by rw [Int.tmod_eq_emod_of_nonneg (by omega)]; push_cast; rfl
  have hql : n / s ≤ n := Nat.div_le_self _ _
  have hrl : n % s < s := Nat.mod_lt _ hg1
  obtain ⟨q, hqe⟩ : ∃ q, q = n / s := ⟨_, rfl⟩
  obtain ⟨r, hre⟩ : ∃ r, r = n % s := ⟨_, rfl⟩
  rw [← hqe] at hq hql HT
  rw [← hre] at hr hrl HT
  obtain ⟨v, hv⟩ : ∃ v, v = widM m s := ⟨_, rfl⟩
  have hv24 : v ≤ 24 := by have := HD.out s hg1 hg3; omega
  have HV := Lib.hid (fun w => hv ▸ HW.out s hg1 (Nat.le_refl _) w)
  rw [← hv] at HT
  obtain ⟨qv, hqv⟩ : ∃ qv : Nat, qv = q * v := ⟨_, rfl⟩
  have hqvi : (q : Int) * (v : Int) = (qv : Int) := by rw [hqv]; push_cast; rfl
  rw [← hqv] at HT
  have hqvl : qv ≤ 8 * n := by have h1 := HT.out; have h2 := HTL.out; omega
  have hs0 : ¬ ((s : Int) == 0) = true := by rw [beq_iff_eq]; omega
  clear hbs hs hqe hre hv hqv
  go_enter Tryz.func135, Tryz.ntmps135
  go_wp2_with fail
  refine (HG.out w).mono ?_
  rintro e w1 ⟨rfl, rfl⟩
  go_wp2_with fail
  refine wp_region_ext_tail 8 (by kernel_rfl) (by kernel_rfl) ?_
  simp only [List.take_succ_cons, List.take_zero, List.drop_succ_cons, List.drop_zero]
  repeat (go_big_quiet_step ((go_at_call 142; go_must (exact calls_ext _ (HV.out _)))))
  refine wpQuiet_nil ?_
  rintro _ ⟨s9, rfl⟩
  have hb9 := s9.below
  generalize s9.w = w2 at hb9 ⊢
  have HB2 := Lib.hid hb9
  clear hb9 s9
  by_cases hr0 : 0 < r
  · have hri : (0 : Int) < (r : Int) := by omega
    have HE := Lib.hid (show segW m n = 11 + (qv + widM m r) by rw [segW, HT.out, if_pos hr0])
    have HR := Lib.hid (fun w => HW.out r hr0 (by omega) w)
    obtain ⟨u, hu⟩ : ∃ u, u = widM m r := ⟨_, rfl⟩
    have hu24 : u ≤ 24 := by have := HD.out r hr0 (by omega); omega
    rw [← hu] at HE HR
    clear hu
    go_wp2_with fail
    refine (HR.out w2).mono ?_
    rintro e w3 ⟨rfl, hb3⟩
    have HB3 := Lib.hid (bt0 HB2.out hb3 (Nat.le_refl _))
    clear hb3
    go_wp2_with fail
    go_ret
    refine ⟨ret_int ?_, HB3.out⟩
    rw [HE.out]; push_cast; omega
  · have hri : ¬ (0 : Int) < (r : Int) := by omega
    have HE := Lib.hid (show segW m n = 11 + qv by rw [segW, HT.out, if_neg hr0, Nat.add_zero])
    go_wp2_with fail
    go_ret
    refine ⟨ret_int ?_, HB2.out⟩
    rw [HE.out]; push_cast; omega
/-- a cell of the reference's table -/
abbrev clV (x : Ch) : Value := .agg #[.int .i64 x.l, .int .i64 x.c, .int .i64 x.t, .int .i64 x.m]
set_option maxRecDepth 100000 in
set_option maxHeartbeats 1000000 in
theorem spBetter_any (x y : Ch) (w : World) :
    Calls Tryz.prog 136 #[clV x, clV y] w fun e w' => e = .returned (.bool (chB x y)) ∧ Below w.heap.size w w' := by
  obtain ⟨xl, xc, xt, xm⟩ := x
  obtain ⟨yl, yc, yt, ym⟩ := y
  by_cases h1 : xl = yl
  · by_cases h2 : xc = yc
    · by_cases h3 : xt = yt
      · subst h1 h2 h3
        have HE := Lib.hid (show chB ⟨xl, xc, xt, xm⟩ ⟨xl, xc, xt, ym⟩ = decide (xm < ym) by simp [chB])
        dsimp only [clV]
        go_enter Tryz.func136, Tryz.ntmps136
        go_wp2_with fail
        go_ret
        exact ⟨ret_bool HE.out.symm, ba2 _ _ _⟩
      · subst h1 h2
        have HE := Lib.hid (show chB ⟨xl, xc, xt, xm⟩ ⟨xl, xc, yt, ym⟩ = decide (yt < xt) by simp [chB, h3])
        have h3' : (xt == yt) = false := by rw [beq_eq_false_iff_ne]; exact h3
        dsimp only [clV]
        go_enter Tryz.func136, Tryz.ntmps136
        go_wp2_with fail
        go_ret
        exact ⟨ret_bool HE.out.symm, ba2 _ _ _⟩
    · subst h1
      have HE := Lib.hid (show chB ⟨xl, xc, xt, xm⟩ ⟨xl, yc, yt, ym⟩ = decide (xc < yc) by simp [chB, h2])
      have h3' : (xc == yc) = false := by rw [beq_eq_false_iff_ne]; exact h2
      dsimp only [clV]
      go_enter Tryz.func136, Tryz.ntmps136
      go_wp2_with fail
      go_ret
      exact ⟨ret_bool HE.out.symm, ba2 _ _ _⟩
  · have HE := Lib.hid (show chB ⟨xl, xc, xt, xm⟩ ⟨yl, yc, yt, ym⟩ = decide (xl < yl) by simp [chB, h1])
    have h3' : (xl == yl) = false := by rw [beq_eq_false_iff_ne]; exact h1
    dsimp only [clV]
    go_enter Tryz.func136, Tryz.ntmps136
    go_wp2_with fail
    go_ret
    exact ⟨ret_bool HE.out.symm, ba2 _ _ _⟩

end Go.Proofs.YtlcglclojlffgaaGreatDoor
namespace Go.Proofs.YtlcglclojlffgaaGreatDoor
open Go.RowKit

theorem infoL : (Tryz.prog.info? 183).map (fun i => (i.zero, i.size, i.bytes)) = some (some (.agg #[.int .i64 0, .int .i64 0, .int .i64 0, .int .i64 0]), 4, 32) := by kernel_rfl
theorem make_cl (n : Nat) (hn : n ≤ 100000) (w : World) :
    (Instr.makeSlice 184 (.int .i64 (n : Int)) (.int .i64 (n : Int))).run Tryz.prog w = .ok (.slice (some ⟨w.heap.size, 0, none⟩) n n) (w.alloc (.cells (madeCells #[.int .i64 0, .int .i64 0, .int .i64 0, .int .i64 0] (n * 4)) 183)) := by
  obtain ⟨i0, hi, hz0, hz1, hz2⟩ := info_parts infoL
  have := run_make (P := Tryz.prog) w 184 183 i0 _ Tryz.underlying184 hi hz0 .i64 .i64 n n (by omega) (Int.le_refl _) (by rw [hz2]; omega) (by omega)
  rw [hz1] at this
  simpa [Value.cells] using this
theorem TabAt.made (w : World) (n : Nat) : TabAt (w.alloc (.cells (madeCells #[.int .i64 0, .int .i64 0, .int .i64 0, .int .i64 0] (n * 4)) 183)) w.heap.size n (fun _ => chZ) := by
  refine ⟨_, _, push_at _ _, size_madeCells _ _, fun i hi => ⟨?_, ?_, ?_, ?_⟩⟩
  all_goals exact made_four _ _ _ (by omega)
/-- the table while the cell k is made -/
def tabS (s : List UInt8) (k : Nat) (cur : Ch) (i : Nat) : Ch := if i = k then cur else tabF s (k + 1) i
theorem tabS_start (s : List UInt8) (k i : Nat) : tabS s k chZ i = tabF s (k + 1) i := by
  unfold tabS tabF
  by_cases e : i = k
  · rw [if_pos e, if_pos (by omega)]
  · rw [if_neg e]
theorem tabS_end (s : List UInt8) (k i : Nat) : tabS s k (hdC (s.drop k)) i = tabF s k i := by
  unfold tabS tabF
  by_cases e : i = k
  · subst e; rw [if_pos rfl, if_neg (by omega)]
  · rw [if_neg e]
    by_cases h : i < k
    · rw [if_pos h, if_pos (by omega)]
    · rw [if_neg h, if_neg (by omega)]

set_option maxRecDepth 100000 in
set_option maxHeartbeats 4000000 in
theorem spTable_any (s : ByteArray) (w : World) (hs : s.size ≤ 400) :
    Calls Tryz.prog 121 #[.string s] w fun e w' => e = .returned (.slice (some ⟨w.heap.size, 0, none⟩) (s.size + 1) (s.size + 1)) ∧ TabAt w' w.heap.size (s.size + 1) (tabF s.data.toList 0) ∧ Below w.heap.size w w' := by
  have hmk := make_cl (s.size + 1) (by omega)
  push_cast at hmk
  obtain ⟨S, hS⟩ : ∃ S, S = s.data.toList := ⟨_, rfl⟩
  have hSl : S.length = s.size := by rw [hS]; rfl
  have HS := Lib.hid hS
  have HSL := Lib.hid hSl
  have HT0 : Hid (TabAt (w.alloc (.cells (madeCells #[.int .i64 0, .int .i64 0, .int .i64 0, .int .i64 0] ((s.size + 1) * 4)) 183)) w.heap.size (s.size + 1) (tabF S s.size)) := Lib.hid ((TabAt.made w (s.size + 1)).like (fun i hi => by
    unfold tabF
    by_cases h : i < s.size
    · rw [if_pos h]
    · rw [if_neg h, List.drop_eq_nil_of_le (by omega)]; rfl))
  rw [← hS]
  clear hS hSl
  go_enter Tryz.func121, Tryz.ntmps121
  go_wp2_with fail
  clear hmk
  go_loopw [5, 6, 7, 8, 9, 10] (fun a _ _ _ _ _ wr => ∃ k : Nat, k ≤ s.size ∧ a = .int .i64 ((k : Int) - 1) ∧ TabAt wr w.heap.size (s.size + 1) (tabF S k) ∧ Below w.heap.size w wr) (fun a _ _ _ _ _ _ => (intOf a + 1).toNat)
  case atStart => exact ⟨s.size, Nat.le_refl _, rfl, HT0.out, ba1 _ _⟩
  case round =>
    obtain ⟨k, hk, rfl, ht, hb⟩ := hrel
    have HT := Lib.hid ht
    have HB := Lib.hid hb
    clear ht hb
    obtain ⟨wo, rfl⟩ : ∃ wo : World, wo = wr := ⟨_, rfl⟩
    rcases k with - | k
    · have hdec : decide ((0 : Int) ≤ ((0 : Nat) : Int) - 1) = false := by decide
      go_wp2_with fail
      go_ret
      exact ⟨rfl, HT.out, HB.out⟩
    · have hdec : decide ((0 : Int) ≤ ((k + 1 : Nat) : Int) - 1) = true := by simp
      have hki : ((k + 1 : Nat) : Int) - 1 = (k : Int) := by omega
      rw [hki] at hdec ⊢
      have hkn : k < s.size := by omega
      obtain ⟨cl, hcl⟩ : ∃ cl, cl = S.drop k := ⟨_, rfl⟩
      obtain ⟨l, hl⟩ : ∃ l, l = S.drop (k + 1) := ⟨_, rfl⟩
      obtain ⟨c, hcb⟩ : ∃ c, S[k]? = some c := ⟨_, List.getElem?_eq_getElem (by rw [HSL.out]; exact hkn)⟩
      have HCL := Lib.hid (show cl = c :: l by
        rw [hcl, hl]
        obtain ⟨hk', e⟩ := List.getElem?_eq_some_iff.1 hcb
        rw [List.drop_eq_getElem_cons hk', e])
      have hcll : cl.length = s.size - k := by rw [hcl, List.length_drop, HSL.out]
      have hll : l.length = s.size - (k + 1) := by rw [hl, List.length_drop, HSL.out]
      have HCLL := Lib.hid hcll
      have HLL := Lib.hid hll
      have HCLe := Lib.hid hcl
      have HLe := Lib.hid hl
      have HT1 := Lib.hid (HT.out.like (fun i _ => tabS_start S k i))
      clear hcl hl hcb hcll hll HT
      go_wp2_with fail
      go_loopw [6, 7, 8, 9, 10] (fun fo i _ _ _ wr => ∃ m : Nat, 1 ≤ m ∧ m ≤ 5 ∧ i = .int .i64 m ∧ fo = .bool (!decide ((modC cl (tabC l) (m - 1)).c = 0)) ∧ TabAt wr w.heap.size (s.size + 1) (tabS S k (modC cl (tabC l) (m - 1))) ∧ Below w.heap.size w wr) (fun _ i _ _ _ _ => 5 - (intOf i).toNat)
      case atStart => exact ⟨1, by omega, by omega, rfl, rfl, HT1.out, HB.out⟩
      case round =>
        obtain ⟨m, hm1, hm5, rfl, rfl, ht, hb⟩ := hrel
        have HT2 := Lib.hid ht
        have HB2 := Lib.hid hb
        clear ht hb
        obtain ⟨wp, rfl⟩ : ∃ wp : World, wp = wr := ⟨_, rfl⟩
        by_cases hlt : m ≤ 4
        · have hdec : decide ((m : Int) ≤ 4) = true := by simp; omega
          go_wp2_with fail
          go_loopw [6, 8, 9, 10] (fun fo i _ _ wr => ∃ n : Nat, 1 ≤ n ∧ n ≤ runL m cl + 1 ∧ i = .int .i64 n ∧ fo = .bool (!decide ((tryC (tabC l) m (n - 1) (modC cl (tabC l) (m - 1))).c = 0)) ∧ TabAt wr w.heap.size (s.size + 1) (tabS S k (tryC (tabC l) m (n - 1) (modC cl (tabC l) (m - 1)))) ∧ Below w.heap.size w wr) (fun _ i _ _ _ => runL m cl + 1 - (intOf i).toNat)
          case atStart => exact ⟨1, by omega, by omega, rfl, rfl, HT2.out, HB2.out⟩
          case round =>
            obtain ⟨n, hn1, hnR, rfl, rfl, ht, hb⟩ := hrel
            have HT3 := Lib.hid ht
            have HB3 := Lib.hid hb
            obtain ⟨hR1, hR2⟩ := runL_le m cl
            rw [HCLL.out] at hR1
            have HRI := Lib.hid (runL_in m cl)
            have HRO := Lib.hid (runL_out m cl)
            have HMS := Lib.hid (show modC cl (tabC l) m = tryC (tabC l) m (runL m cl) (modC cl (tabC l) (m - 1)) by
              obtain ⟨j, rfl⟩ : ∃ j, m = j + 1 := ⟨m - 1, by omega⟩
              rw [modC]; rfl)
            obtain ⟨R, hRe⟩ : ∃ R, R = runL m cl := ⟨_, rfl⟩
            rw [← hRe] at hnR hR1 hR2 HRI HRO HMS
            have HRe := Lib.hid hRe
            clear ht hb hRe
            by_cases hln : n ≤ R
            · obtain ⟨q, hq⟩ : ∃ q, q = k + n := ⟨_, rfl⟩
              obtain ⟨p, hp⟩ : ∃ p, p = k + (n - 1) := ⟨_, rfl⟩
              have hqi : (k : Int) + (n : Int) = (q : Int) := by omega
              have hqp : (q : Int) - 1 = (p : Int) := by omega
              have hqs : (q : Int) ≤ (s.size : Int) := by omega
              have hn255 : (n : Int) ≤ 255 := by omega
              have hps : p < s.size := by omega
              have hpi : (p : Int) < (s.size : Int) := by omega
              obtain ⟨z, hz⟩ : ∃ z : Nat, s[p].toNat = z := ⟨_, rfl⟩
              have hz2 : z < 256 := by rw [← hz]; exact UInt8.toNat_lt _
              have hzc : cl[n - 1]? = some s[p] := by
                rw [HCLe.out, List.getElem?_drop, HS.out, ← hp]
                exact List.getElem?_eq_getElem (by simpa using hps)
              have hin := HRI.out (n - 1) s[p] (by omega) hzc
              rw [inM, decide_eq_true_eq, hz] at hin
              have HCH := Lib.hid (fun w => spChar_any m hm1 hlt (z : Int) (by omega) (by omega) w)
              obtain ⟨v, hv⟩ : ∃ v, v = valC m (z : Int) := ⟨_, rfl⟩
              rw [← hv] at HCH hin
              have hv0 : ¬ v < 0 := by omega
              obtain ⟨x1, x2, x3, x4, -⟩ := HT3.out.cell (i := q) (by omega)
              have htf : tabS S k (tryC (tabC l) m (n - 1) (modC cl (tabC l) (m - 1))) q = hdC (S.drop q) := by unfold tabS tabF; rw [if_neg (by omega), if_neg (by omega)]
              obtain ⟨⟨rl, rc, rt, rm⟩, hre⟩ : ∃ x : Ch, x = hdC (S.drop q) := ⟨_, rfl⟩
              rw [htf, ← hre] at x1 x2 x3 x4
              dsimp only at x1 x2 x3 x4
              have HRE := Lib.hid hre
              have hlt2 := HT3.out.lt
              have hqi2 : (q : Int) < (s.size : Int) + 1 := by omega
              have HQ := Lib.hid hq
              have HCRD := Lib.hid (Nat.le_trans (show n - 1 ≤ s.size - (k + 1) by omega) (Nat.le_of_eq HLL.out.symm))
              obtain ⟨⟨tl, tc, tt, tm⟩, hte⟩ : ∃ x : Ch, x = tryC (tabC l) m (n - 1) (modC cl (tabC l) (m - 1)) := ⟨_, rfl⟩
              rw [← hte] at HT3 ⊢
              have HTE := Lib.hid hte
              clear htf hre hq hp hzc hin hv hte
              go_wp2_with fail
              refine (HCH.out wr).mono ?_
              rintro e w4 ⟨rfl, hb4⟩
              have HT4 := Lib.hid (HT3.out.below hb4)
              have HB4 := Lib.hid (bt0 HB3.out hb4 (Nat.le_refl _))
              replace x1 := below_cell hb4 x1
              replace x2 := below_cell hb4 x2
              replace x3 := below_cell hb4 x3
              replace x4 := below_cell hb4 x4
              replace hlt2 := HT4.out.lt
              clear hb4 HCH hz
              go_wp2_with fail
              obtain ⟨rb, hrb⟩ : ∃ rb, rb = w4.heap.size := ⟨_, rfl⟩
              obtain ⟨w6, hw6⟩ : ∃ w6, w6 = w4.alloc (.cells #[.int .i64 rl, .int .i64 rc, .int .i64 rt, .int .i64 rm] 183 (0, 0)) := ⟨_, rfl⟩
              have HT6 := Lib.hid (show TabAt w6 w.heap.size (s.size + 1) (tabS S k ⟨tl, tc, tt, tm⟩) by rw [hw6]; exact HT4.out.below (ba1 _ _))
              have HB6 := Lib.hid (show Below w.heap.size w w6 by rw [hw6]; exact bt0 HB4.out (ba1 _ _) (Nat.le_refl _))
              have hr0 : w6.cell? ⟨rb, 0, none⟩ = some (.int .i64 rl) := by rw [hw6, hrb, (heap_cellR (push_at _ _)).1]; rfl
              have hr1 : w6.cell? ⟨rb, 1, none⟩ = some (.int .i64 rc) := by rw [hw6, hrb, (heap_cellR (push_at _ _)).1]; rfl
              have hs6 : w6.heap.size = rb + 1 := by rw [hw6, hrb]; simp
              have hBr : w.heap.size < rb := by rw [hrb]; exact hlt2
              have HLEN := Lib.hid (fun w => spLen_any m n hm1 hlt hn1 (by omega) w)
              have hVb := segW_le m n hn1
              obtain ⟨V, hV⟩ : ∃ V, V = segW m n := ⟨_, rfl⟩
              rw [← hV] at HLEN hVb
              have HV := Lib.hid hV
              have hbd := hdC_bd _ (S.drop q) (Nat.le_refl _)
              rw [← HRE.out] at hbd
              obtain ⟨hb1, hb2, hb3, hb4⟩ := hbd
              rw [List.length_drop, HSL.out] at hb2 hb4
              dsimp only at hb1 hb2 hb3 hb4
              have hbl : 0 ≤ rl ∧ rl ≤ 7600 := by omega
              have hbc : 0 ≤ rc ∧ rc ≤ 400 := by omega
              try rw [← hw6]
              try rw [← hrb]
              clear hw6 hrb hV hb1 hb2 hb3 hb4 x1 x2 x3 x4
              refine wp_region_rt (Keep := KB) [53, 54, 55, 56, 57, 58, 59, 60, 61, 62, 63, 64, 10] (fun us => _)
                [spE (.int .i64 (m : Int)),
                 spE (.int .i64 (n : Int)),
                 spE (.int .i64 (V : Int)),
                 spE (.pointer (some ⟨rb, 0, none⟩)),
                 spE (.int .i64 rl),
                 spE (.int .i64 ((V : Int) + rl)),
                 spE (.pointer (some ⟨rb, 1, none⟩)),
                 spE (.int .i64 rc),
                 spE (.int .i64 (rc + 1)),
                 spE (.int .i64 (n : Int)),
                 spE (.int .i64 (m : Int)),
                 spE (.agg #[.int .i64 ((V : Int) + rl), .int .i64 (rc + 1), .int .i64 (n : Int), .int .i64 (m : Int)]),
                 spBox (rb + 1) #[.int .i64 0, .int .i64 0, .int .i64 0, .int .i64 0] 183]
                (StX w6) (by kernel_rfl) (by kernel_rfl) (Nat.le_of_ble_eq_true rfl) (fun us => by simp [over, List.mapIdx_cons]; exact rfl) (stX0 _) kbr ?_ ?_
              · refine ⟨?_, ?_, ?_, ?_, ?_, ?_, ?_, ?_, ?_, ?_, ?_, ?_, ?_, trivial⟩
                all_goals (intro us wx hst hd; rw [if_pos (by kernel_rfl)]; dsimp only)
                · clear hd
                  go_simp
                  exact kb_same hst rfl
                · clear hd
                  go_simp
                  exact kb_same hst rfl
                · have d53 : us 53 = (.int .i64 (m : Int)) := hd ⟨0, .data⟩ (by simp) rfl
                  have d54 : us 54 = (.int .i64 (n : Int)) := hd ⟨1, .data⟩ (by simp) rfl
                  clear hd
                  go_simp
                  exact (HLEN.out wx).mono fun e w' ⟨he, hb⟩ => ⟨_, he, kb_below hst hb rfl⟩
                · clear hd
                  go_simp
                  exact kb_same hst rfl
                · have d56 : us 56 = (.pointer (some ⟨rb, 0, none⟩)) := hd ⟨3, .data⟩ (by simp) rfl
                  clear hd
                  have hW := below_cell hst hr0
                  go_simp
                  exact kb_same hst rfl
                · have d55 : us 55 = (.int .i64 (V : Int)) := hd ⟨2, .data⟩ (by simp) rfl
                  have d57 : us 57 = (.int .i64 rl) := hd ⟨4, .data⟩ (by simp) rfl
                  clear hd
                  have hw : IntKind.i64.wrap ((V : Int) + rl) = (V : Int) + rl := by rw [IntKind.wrap_i64]; omega
                  go_simp
                  exact kb_same hst rfl
                · clear hd
                  go_simp
                  exact kb_same hst rfl
                · have d59 : us 59 = (.pointer (some ⟨rb, 1, none⟩)) := hd ⟨6, .data⟩ (by simp) rfl
                  clear hd
                  have hW := below_cell hst hr1
                  go_simp
                  exact kb_same hst rfl
                · have d60 : us 60 = (.int .i64 rc) := hd ⟨7, .data⟩ (by simp) rfl
                  clear hd
                  have hw : IntKind.i64.wrap (rc + 1) = rc + 1 := by rw [IntKind.wrap_i64]; omega
                  go_simp
                  exact kb_same hst rfl
                · clear hd
                  go_simp
                  exact kb_same hst rfl
                · clear hd
                  go_simp
                  exact kb_same hst rfl
                · have d58 : us 58 = (.int .i64 ((V : Int) + rl)) := hd ⟨5, .data⟩ (by simp) rfl
                  have d61 : us 61 = (.int .i64 (rc + 1)) := hd ⟨8, .data⟩ (by simp) rfl
                  have d62 : us 62 = (.int .i64 (n : Int)) := hd ⟨9, .data⟩ (by simp) rfl
                  have d63 : us 63 = (.int .i64 (m : Int)) := hd ⟨10, .data⟩ (by simp) rfl
                  clear hd
                  go_simp
                  exact kb_same hst rfl
                · clear hd
                  go_simp
                  exact kb_new hst (by omega)
              · intro us wx hst hd
                have d10 := hd 12 (by simp)
                have d64 : us 64 = (.agg #[.int .i64 ((V : Int) + rl), .int .i64 (rc + 1), .int .i64 (n : Int), .int .i64 (m : Int)]) := hd 11 (by simp)
                clear hd
                simp only [List.drop, List.length]
                rw [d64]
                obtain ⟨xb, hxb, hxb1, hxg⟩ := d10
                rw [hxb]
                have HT7 := Lib.hid (HT6.out.below hst)
                have HB7 := Lib.hid (bt0 HB6.out hst (Nat.le_refl _))
                have HX7 : Hid (BxC wx xb chZ) := Lib.hid ⟨_, _, hxg, rfl, fun i hi => by
                  obtain rfl : i = 0 := by omega
                  exact ⟨rfl, rfl, rfl, rfl⟩⟩
                obtain ⟨z1, z2, z3, z4, z5⟩ := HX7.out.cells
                have hlx := HX7.out.lt
                have hne : w.heap.size ≠ xb := by omega
                have hne' : xb ≠ w.heap.size := by omega
                have HG1 := Lib.hid (four_grown wx xb 0 1 2 3 (.int .i64 ((V : Int) + rl)) (.int .i64 (rc + 1)) (.int .i64 (n : Int)) (.int .i64 (m : Int)))
                have HX8 := Lib.hid (HX7.out.set ⟨(V : Int) + rl, rc + 1, n, m⟩)
                have HT8 := Lib.hid (HT7.out.kept (HG1.out.block w.heap.size HT7.out.lt (fun e => by have := Option.some.inj e; omega)))
                have HB8 := Lib.hid (HB7.out.trans (below_of_grownBy HG1.out HB7.out.size (fun j e => by cases e; omega)))
                clear hxg hxb d64 hst hr0 hr1
                have HCD := Lib.hid (show candC (tabC l) m n = ⟨(V : Int) + rl, rc + 1, n, m⟩ by
                  have e : (tabC l).getD (n - 1) chZ = ⟨rl, rc, rt, rm⟩ := by
                    rw [List.getD_eq_getElem?_getD, tabC_at l (n - 1) HCRD.out, HRE.out, HLe.out, List.drop_drop, show k + 1 + (n - 1) = q by rw [HQ.out]; omega]
                    rfl
                  rw [candC, e, ← HV.out])
                have HTN := Lib.hid (show tryC (tabC l) m n (modC cl (tabC l) (m - 1)) = betC ⟨tl, tc, tt, tm⟩ ⟨(V : Int) + rl, rc + 1, n, m⟩ by
                  obtain ⟨j, rfl⟩ : ∃ j, n = j + 1 := ⟨n - 1, by omega⟩
                  rw [tryC, HCD.out, HTE.out]; rfl)
                go_wp2_with fail
                generalize hw8 : ((((wx.setCell ⟨xb, 0, none⟩ (.int .i64 ((V : Int) + rl))).setCell ⟨xb, 1, none⟩ (.int .i64 (rc + 1))).setCell ⟨xb, 2, none⟩ (.int .i64 (n : Int))).setCell ⟨xb, 3, none⟩ (.int .i64 (m : Int))) = w8 at HX8 HT8 HB8 ⊢
                clear hw8 HG1 HX7 HT7 HB7 z1 z2 z3 z4 z5 hlx
                have hrc0 : ((rc + 1 : Int) != 0) = true := by rw [bne_iff_ne]; omega
                have hki9 : (k : Int) < (s.size : Int) + 1 := by omega
                have HKeep := Lib.hid (show ∀ w9, Below w8.heap.size w8 w9 → betC ⟨tl, tc, tt, tm⟩ ⟨(V : Int) + rl, rc + 1, n, m⟩ = ⟨(V : Int) + rl, rc + 1, n, m⟩ →
                    (∃ n_1 : Nat, 1 ≤ n_1 ∧ n_1 ≤ runL m cl + 1 ∧ Value.int .i64 ((n : Int) + 1) = .int .i64 n_1 ∧ Value.bool true = .bool (!decide ((tryC (tabC l) m (n_1 - 1) (modC cl (tabC l) (m - 1))).c = 0)) ∧
                      TabAt ((((w9.setCell ⟨w.heap.size, k * 4, none⟩ (.int .i64 ((V : Int) + rl))).setCell ⟨w.heap.size, k * 4 + 1, none⟩ (.int .i64 (rc + 1))).setCell ⟨w.heap.size, k * 4 + 2, none⟩ (.int .i64 (n : Int))).setCell ⟨w.heap.size, k * 4 + 3, none⟩ (.int .i64 (m : Int))) w.heap.size (s.size + 1) (tabS S k (tryC (tabC l) m (n_1 - 1) (modC cl (tabC l) (m - 1)))) ∧
                      Below w.heap.size w ((((w9.setCell ⟨w.heap.size, k * 4, none⟩ (.int .i64 ((V : Int) + rl))).setCell ⟨w.heap.size, k * 4 + 1, none⟩ (.int .i64 (rc + 1))).setCell ⟨w.heap.size, k * 4 + 2, none⟩ (.int .i64 (n : Int))).setCell ⟨w.heap.size, k * 4 + 3, none⟩ (.int .i64 (m : Int)))) from by
                  intro w9 hb9 hbet
                  refine ⟨n + 1, by omega, by rw [← HRe.out]; omega, by push_cast; rfl, ?_, ?_, ?_⟩
                  · rw [Nat.add_sub_cancel, HTN.out, hbet]
                    have : rc + 1 ≠ 0 := by omega
                    simp [this]
                  · rw [Nat.add_sub_cancel, HTN.out, hbet]
                    refine ((HT8.out.below hb9).set (i := k) (by omega) ⟨(V : Int) + rl, rc + 1, n, m⟩).like (fun i hi => ?_)
                    unfold tabS
                    by_cases e : i = k
                    · rw [if_pos e, if_pos e]
                    · rw [if_neg e, if_neg e, if_neg e]
                  · exact (bt0 HB8.out hb9 (Nat.le_refl _) |>.trans (below_of_grownBy (four_grown w9 w.heap.size (k * 4) (k * 4 + 1) (k * 4 + 2) (k * 4 + 3) _ _ _ _) (bt0 HB8.out hb9 (Nat.le_refl _)).size (fun j e => by cases e; exact Nat.le_refl _))))
                by_cases h0 : tc = 0
                · subst h0
                  have HBET := Lib.hid (show betC ⟨tl, 0, tt, tm⟩ ⟨(V : Int) + rl, rc + 1, n, m⟩ = ⟨(V : Int) + rl, rc + 1, n, m⟩ by rw [betC, if_pos (Or.inl rfl)])
                  have hfd : decide ((0 : Int) ≠ 0) = false := by decide
                  refine wp_region_ext (by kernel_rfl) (by kernel_rfl) ?_
                  repeat (go_big_quiet_step (fail))
                  refine wpQuiet_nil ?_
                  rintro _ ⟨s9, rfl⟩
                  have hb9 := s9.below
                  generalize s9.w = w9 at hb9 ⊢
                  have HX9 := Lib.hid (HX8.out.below hb9)
                  obtain ⟨z1, z2, z3, z4, z5⟩ := HX9.out.cells
                  have hlx := HX9.out.lt
                  have HT9 := Lib.hid (HT8.out.below hb9)
                  obtain ⟨x1, x2, x3, x4, x5⟩ := HT9.out.cell (i := k) (by omega)
                  have hlt9 := HT9.out.lt
                  have HKp := Lib.hid (HKeep.out w9 hb9 HBET.out)
                  clear hb9 s9
                  go_wp2_with fail
                  exact ⟨HKp.out, by rw [← HRe.out]; simp [intOf]; omega⟩
                · have hfd : decide (tc = 0) = false := decide_eq_false h0
                  have H0 := Lib.hid h0
                  obtain ⟨z1, z2, z3, z4, z5⟩ := HX8.out.cells
                  have hlx := HX8.out.lt
                  obtain ⟨x1, x2, x3, x4, x5⟩ := HT8.out.cell (i := k) (by omega)
                  have hlt9 := HT8.out.lt
                  rw [tabS, if_pos rfl] at x1 x2 x3 x4
                  dsimp only at x1 x2 x3 x4 z1 z2 z3 z4
                  have HBTR := Lib.hid (fun w => spBetter_any ⟨(V : Int) + rl, rc + 1, n, m⟩ ⟨tl, tc, tt, tm⟩ w)
                  dsimp only [clV] at HBTR
                  obtain ⟨bb, hbb⟩ : ∃ bb, bb = chB ⟨(V : Int) + rl, rc + 1, n, m⟩ ⟨tl, tc, tt, tm⟩ := ⟨_, rfl⟩
                  rw [← hbb] at HBTR
                  have HBB := Lib.hid hbb
                  clear h0 hbb z5 x5
                  refine wp_region_ext (by kernel_rfl) (by kernel_rfl) ?_
                  repeat (go_big_quiet_step ((go_at_call 136; go_must (exact calls_ext _ (HBTR.out _)))))
                  refine wpQuiet_nil ?_
                  rintro _ ⟨s9, rfl⟩
                  have hb9 := s9.below
                  generalize s9.w = w9 at hb9 ⊢
                  have HX9 := Lib.hid (HX8.out.below hb9)
                  have HT9 := Lib.hid (HT8.out.below hb9)
                  have HB9 := Lib.hid (bt0 HB8.out hb9 (Nat.le_refl _))
                  have HKp := Lib.hid (HKeep.out w9 hb9)
                  clear hb9 s9 x1 x2 x3 x4 z1 z2 z3 z4 hlx hlt9
                  cases bb with
                  | true =>
                    obtain ⟨z1, z2, z3, z4, z5⟩ := HX9.out.cells
                    have hlx := HX9.out.lt
                    obtain ⟨x1, x2, x3, x4, x5⟩ := HT9.out.cell (i := k) (by omega)
                    have hlt9 := HT9.out.lt
                    have HKq := Lib.hid (HKp.out (by rw [betC, if_pos (Or.inr HBB.out.symm)]))
                    go_wp2_with fail
                    exact ⟨HKq.out, by rw [← HRe.out]; simp [intOf]; omega⟩
                  | false =>
                    have HTK := Lib.hid (show tryC (tabC l) m (n + 1 - 1) (modC cl (tabC l) (m - 1)) = ⟨tl, tc, tt, tm⟩ by
                      rw [Nat.add_sub_cancel, HTN.out, betC, if_neg (by rw [← HBB.out]; rintro (h | h); exact H0.out h; cases h)])
                    go_wp2_with fail
                    refine ⟨⟨n + 1, by omega, by rw [← HRe.out]; omega, by go_num, ?_, ?_, HB9.out⟩, by rw [← HRe.out]; simp [intOf]; omega⟩
                    · rw [HTK.out]
                    · rw [HTK.out]; exact HT9.out
            · obtain rfl : n = R + 1 := by omega
              rw [Nat.add_sub_cancel] at HT3 ⊢
              have HMN := Lib.hid (show modC cl (tabC l) (m + 1 - 1) = tryC (tabC l) m R (modC cl (tabC l) (m - 1)) by rw [Nat.add_sub_cancel, HMS.out])
              obtain ⟨cur, hcur⟩ : ∃ cur, cur = tryC (tabC l) m R (modC cl (tabC l) (m - 1)) := ⟨_, rfl⟩
              rw [← hcur] at HT3 HMN ⊢
              clear hcur HMS
              have HEnd := Lib.hid (show ∀ w9, Below wr.heap.size wr w9 → ∃ m_1 : Nat, 1 ≤ m_1 ∧ m_1 ≤ 5 ∧ Value.int .i64 ((m : Int) + 1) = .int .i64 m_1 ∧ Value.bool (!decide (cur.c = 0)) = .bool (!decide ((modC cl (tabC l) (m_1 - 1)).c = 0)) ∧ TabAt w9 w.heap.size (s.size + 1) (tabS S k (modC cl (tabC l) (m_1 - 1))) ∧ Below w.heap.size w w9 from
                fun w9 hb9 => ⟨m + 1, by omega, by omega, by push_cast; rfl, by rw [HMN.out], by rw [HMN.out]; exact HT3.out.below hb9, bt0 HB3.out hb9 (Nat.le_refl _)⟩)
              by_cases hR255 : R = 255
              · subst hR255
                have HEn := Lib.hid (HEnd.out wr (Below.refl _ _))
                have hdec : decide (((255 + 1 : Nat) : Int) ≤ 255) = false := by decide
                go_wp2_with fail
                exact ⟨HEn.out, by simp [intOf]; omega⟩
              · have hn255 : ((R + 1 : Nat) : Int) ≤ 255 := by omega
                obtain ⟨n, hn⟩ : ∃ n, n = R + 1 := ⟨_, rfl⟩
                obtain ⟨q, hq⟩ : ∃ q, q = k + n := ⟨_, rfl⟩
                rw [← hn] at hn255 ⊢
                have hqi : (k : Int) + (n : Int) = (q : Int) := by omega
                by_cases hend : q ≤ s.size
                · obtain ⟨p, hp⟩ : ∃ p, p = k + R := ⟨_, rfl⟩
                  have hqp : (q : Int) - 1 = (p : Int) := by omega
                  have hqs : (q : Int) ≤ (s.size : Int) := by omega
                  have hps : p < s.size := by omega
                  have hpi : (p : Int) < (s.size : Int) := by omega
                  obtain ⟨z, hz⟩ : ∃ z : Nat, s[p].toNat = z := ⟨_, rfl⟩
                  have hz2 : z < 256 := by rw [← hz]; exact UInt8.toNat_lt _
                  have hzc : cl[R]? = some s[p] := by
                    rw [HCLe.out, List.getElem?_drop, HS.out, ← hp]
                    exact List.getElem?_eq_getElem (by simpa using hps)
                  have hin := HRO.out s[p] (by omega) hzc
                  rw [inM, decide_eq_false_iff_not, hz] at hin
                  have HCH := Lib.hid (fun w => spChar_any m hm1 hlt (z : Int) (by omega) (by omega) w)
                  obtain ⟨v, hv⟩ : ∃ v, v = valC m (z : Int) := ⟨_, rfl⟩
                  rw [← hv] at HCH hin
                  have hv0 : v < 0 := by omega
                  clear hn hq hp hzc hin hv hend
                  go_wp2_with fail
                  refine (HCH.out wr).mono ?_
                  rintro e w4 ⟨rfl, hb4⟩
                  have HEn := Lib.hid (HEnd.out w4 hb4)
                  clear hb4 HCH hz HEnd
                  go_wp2_with fail
                  exact ⟨HEn.out, by simp [intOf]; omega⟩
                · have hqs : ¬ (q : Int) ≤ (s.size : Int) := by omega
                  have HEn := Lib.hid (HEnd.out wr (Below.refl _ _))
                  clear hn hq
                  go_wp2_with fail
                  exact ⟨HEn.out, by simp [intOf]; omega⟩
        · have hdec : decide ((m : Int) ≤ 4) = false := by simp; omega
          obtain rfl : m = 5 := by omega
          have HBE := Lib.hid (show modC cl (tabC l) (5 - 1) = hdC (S.drop k) by rw [← HCLe.out, HCL.out]; rfl)
          have HT4 := Lib.hid (HT2.out.like (fun i _ => show tabF S k i = _ by rw [HBE.out, tabS_end]))
          go_wp2_with fail
          exact ⟨⟨k, by omega, by go_num, HT4.out, HB2.out⟩, by simp [intOf]⟩

end Go.Proofs.YtlcglclojlffgaaGreatDoor
namespace Go.Proofs.YtlcglclojlffgaaGreatDoor
open Go.RowKit

/-- the length of the best segmentation -/
def lngC (s : List UInt8) : Int × Int := if s.length ≤ 400 then ((hdC s).l, 0) else (0, 3)
set_option maxRecDepth 100000 in
set_option maxHeartbeats 1000000 in
theorem spBestLen_any (s : ByteArray) (w : World) (hl : s.size ≤ 1048576) :
    Calls Tryz.prog 107 #[.string s] w fun e w' => e = .returned (.tuple #[.int .i64 (lngC s.data.toList).1, .int .i64 (lngC s.data.toList).2]) ∧ Below w.heap.size w w' := by
  have hSl : s.data.toList.length = s.size := rfl
  by_cases hs : s.size ≤ 400
  · have HE := Lib.hid (show lngC s.data.toList = ((hdC s.data.toList).l, 0) by rw [lngC, if_pos (by omega)])
    have hsi : ¬ (400 : Int) < (s.size : Int) := by omega
    go_enter Tryz.func107, Tryz.ntmps107
    go_wp2_with fail
    refine (spTable_any s _ hs).mono ?_
    rintro e w1 ⟨rfl, ht, hb⟩
    obtain ⟨x1, -, -, -, -⟩ := ht.cell (i := 0) (by omega)
    rw [Nat.zero_mul] at x1
    have e0 : tabF s.data.toList 0 0 = hdC s.data.toList := by simp [tabF]
    rw [e0] at x1
    obtain ⟨X, hX⟩ : ∃ X, X = (hdC s.data.toList).l := ⟨_, rfl⟩
    rw [← hX] at x1 HE
    have hlt := ht.lt
    have HB := Lib.hid hb
    have h0 : (0 : Int) < (s.size : Int) + 1 := by omega
    clear ht hb e0 hX hSl
    go_wp2_with fail
    go_ret2
    exact ⟨by rw [HE.out]; rfl, HB.out⟩
  · have HE := Lib.hid (show lngC s.data.toList = (0, 3) by rw [lngC, if_neg (by omega)])
    have hsi : (400 : Int) < (s.size : Int) := by omega
    go_enter Tryz.func107, Tryz.ntmps107
    go_wp2_with fail
    go_ret2
    exact ⟨by rw [HE.out]; rfl, Below.refl _ _⟩

end Go.Proofs.YtlcglclojlffgaaGreatDoor
namespace Go.Proofs.YtlcglclojlffgaaGreatDoor
open Go.RowKit

set_option maxRecDepth 100000 in
set_option maxHeartbeats 4000000 in
theorem spPayloadSize_any {p k g : Int} {F : Fd} (h : FV p k g F) (s : ByteArray) (w : World) (hs : s.size ≤ 1048576) :
    Calls Tryz.prog 90 #[fV F, .string s] w fun e w' => e = .returned (.tuple #[.int .i64 (payN F.k s.data.toList), .int .i64 (payD F.k s.data.toList)]) ∧ Below w.heap.size w w' := by
  have HFI : Hid (∀ w : World, Calls Tryz.prog 105 #[fV F] w fun e w' => e = .returned (.bool true) ∧ Below w.heap.size w w') := Lib.hid (fun w => by have := spField_yes h.b w; rwa [h.v] at this)
  have HWD := Lib.hid (fun w => spWidth_any F h.r.toFdB w)
  have hk3 := h.ok.k3
  have hk8 := h.ok.k8
  have HBL := Lib.hid (fun w => spBestLen_any s w hs)
  obtain ⟨S, hS⟩ : ∃ S, S = s.data.toList := ⟨_, rfl⟩
  have hSl : S.length = s.size := by rw [hS]; rfl
  obtain ⟨kk, hkk⟩ : ∃ kk, kk = F.k := ⟨_, rfl⟩
  obtain ⟨P, hP⟩ : ∃ P, P = payS kk S := ⟨_, rfl⟩
  have HP := Lib.hid hP
  rw [← hS] at HBL ⊢
  rw [fV, ← hkk] at HFI HWD ⊢
  rw [← hkk] at hk3 hk8
  clear h hP hS hkk
  obtain ⟨L, hL⟩ : ∃ L, L = (lngC S).1 := ⟨_, rfl⟩
  obtain ⟨D, hD⟩ : ∃ D, D = (lngC S).2 := ⟨_, rfl⟩
  rw [← hL, ← hD] at HBL
  have hLb : 0 ≤ L ∧ L ≤ 7600 := by
    rw [hL, lngC]
    split
    · have hbd := hdC_bd _ S (Nat.le_refl _)
      have h1 := hbd.1
      have h2 := hbd.2.1
      dsimp only
      omega
    · dsimp only; omega
  obtain ⟨K, hK⟩ : ∃ K : Int, K = (kk : Int) := ⟨_, rfl⟩
  have hKb : 3 ≤ K ∧ K ≤ 8 := by omega
  have HK := Lib.hid hK
  rw [← hK] at HFI HWD ⊢
  obtain ⟨N, hN⟩ : ∃ N, (L + K - 1) / K = N := ⟨_, rfl⟩
  have hNb : 0 ≤ N ∧ N ≤ 7607 := by
    rw [← hN]
    exact ⟨Int.ediv_nonneg (by omega) (by omega), Int.le_trans (Int.ediv_le_self _ (by omega)) (by omega)⟩
  obtain ⟨M, hM⟩ : ∃ M, (if 1 < N then N else 1) = M := ⟨_, rfl⟩
  have hMb : 1 ≤ M ∧ M ≤ 7607 := by rw [← hM]; split <;> omega
  have HPe := Lib.hid (show (D = 0 ∨ D = 3) ∧ P = if D = 0 ∧ M ≤ 1500 then some M else none by
    by_cases h4 : S.length ≤ 400
    · have e1 : L = (hdC S).l := by rw [hL, lngC, if_pos h4]
      have e2 : D = 0 := by rw [hD, lngC, if_pos h4]
      have e : needS kk S = M := by
        unfold needS
        rw [← e1, ← HK.out, hN, ← hM]
        split <;> split <;> omega
      refine ⟨.inl e2, ?_⟩
      rw [HP.out, payS, e]
      by_cases hm : M ≤ 1500
      · rw [if_pos ⟨h4, hm⟩, if_pos ⟨e2, hm⟩]
      · rw [if_neg (by omega), if_neg (by omega)]
    · have e2 : D = 3 := by rw [hD, lngC, if_neg h4]
      refine ⟨.inr e2, ?_⟩
      rw [HP.out, payS, if_neg (by omega), if_neg (by omega)])
  have hkz : (K == 0) = false := by rw [beq_eq_false_iff_ne]; omega
  clear hSl hL hD hK
  have HB0 := Lib.hid (ba1 w (.cells #[.int .i64 2, .int .i64 K, .int .i64 (F.g : Int)] 121 (0, 0)))
  have HX := Lib.hid (push_at w (.cells #[.int .i64 2, .int .i64 K, .int .i64 (F.g : Int)] 121 (0, 0)))
  rcases HPe.out.1 with rfl | rfl
  · rcases Decidable.em (M ≤ 1500) with hm | hm
    · have hm' : decide ((1500 : Int) < M) = false := by simp; omega
      have HR := Lib.hid (payYes (HP.out.symm.trans (HPe.out.2.trans (if_pos ⟨rfl, hm⟩))))
      clear hm
      go_enter Tryz.func90, Tryz.ntmps90
      go_wp2_with fail
      refine (HFI.out _).mono ?_
      rintro e w2 ⟨rfl, hb2⟩
      have HB2 := Lib.hid (bt0 HB0.out hb2 (Nat.le_refl _))
      have HX2 := Lib.hid (blkK hb2 HX.out)
      clear hb2
      obtain ⟨hcA, hfA⟩ := heap_cellR HX2.out
      have z2 := blkLt HX2.out
      go_wp2_with fail
      refine (HBL.out _).mono ?_
      rintro e w3 ⟨rfl, hb3⟩
      have HB3 := Lib.hid (bt0 HB2.out hb3 (Nat.le_refl _))
      have HX3 := Lib.hid (blkK hb3 HX2.out)
      clear hb3 hcA hfA
      obtain ⟨hcA, hfA⟩ := heap_cellR HX3.out
      have z3 := blkLt HX3.out
      go_wp2_with fail
      refine (HWD.out _).mono ?_
      rintro e w4 ⟨rfl, hb4⟩
      have HB4 := Lib.hid (bt0 HB3.out hb4 (Nat.le_refl _))
      clear hb4 hcA hfA
      go_wp2_with fail
      go_ret2
      exact ⟨by rw [HR.out.1, HR.out.2]; rfl, HB4.out⟩
    · have hm' : decide ((1500 : Int) < M) = true := by simp; omega
      have HR := Lib.hid (payNo (HP.out.symm.trans (HPe.out.2.trans (if_neg (by omega)))))
      clear hm
      go_enter Tryz.func90, Tryz.ntmps90
      go_wp2_with fail
      refine (HFI.out _).mono ?_
      rintro e w2 ⟨rfl, hb2⟩
      have HB2 := Lib.hid (bt0 HB0.out hb2 (Nat.le_refl _))
      have HX2 := Lib.hid (blkK hb2 HX.out)
      clear hb2
      obtain ⟨hcA, hfA⟩ := heap_cellR HX2.out
      have z2 := blkLt HX2.out
      go_wp2_with fail
      refine (HBL.out _).mono ?_
      rintro e w3 ⟨rfl, hb3⟩
      have HB3 := Lib.hid (bt0 HB2.out hb3 (Nat.le_refl _))
      have HX3 := Lib.hid (blkK hb3 HX2.out)
      clear hb3 hcA hfA
      obtain ⟨hcA, hfA⟩ := heap_cellR HX3.out
      have z3 := blkLt HX3.out
      go_wp2_with fail
      refine (HWD.out _).mono ?_
      rintro e w4 ⟨rfl, hb4⟩
      have HB4 := Lib.hid (bt0 HB3.out hb4 (Nat.le_refl _))
      clear hb4 hcA hfA
      go_wp2_with fail
      go_ret2
      exact ⟨by rw [HR.out.1, HR.out.2]; rfl, HB4.out⟩
  · have HR := Lib.hid (payNo (HP.out.symm.trans (HPe.out.2.trans (if_neg (by omega)))))
    go_enter Tryz.func90, Tryz.ntmps90
    go_wp2_with fail
    refine (HFI.out _).mono ?_
    rintro e w2 ⟨rfl, hb2⟩
    have HB2 := Lib.hid (bt0 HB0.out hb2 (Nat.le_refl _))
    have HX2 := Lib.hid (blkK hb2 HX.out)
    clear hb2
    obtain ⟨hcA, hfA⟩ := heap_cellR HX2.out
    have z2 := blkLt HX2.out
    go_wp2_with fail
    refine (HBL.out _).mono ?_
    rintro e w3 ⟨rfl, hb3⟩
    have HB3 := Lib.hid (bt0 HB2.out hb3 (Nat.le_refl _))
    have HX3 := Lib.hid (blkK hb3 HX2.out)
    clear hb3 hcA hfA
    obtain ⟨hcA, hfA⟩ := heap_cellR HX3.out
    have z3 := blkLt HX3.out
    go_wp2_with fail
    refine (HWD.out _).mono ?_
    rintro e w4 ⟨rfl, hb4⟩
    have HB4 := Lib.hid (bt0 HB3.out hb4 (Nat.le_refl _))
    clear hb4 hcA hfA
    go_wp2_with fail
    go_ret2
    exact ⟨by rw [HR.out.1, HR.out.2]; rfl, HB4.out⟩

end Go.Proofs.YtlcglclojlffgaaGreatDoor
namespace Go.Proofs.YtlcglclojlffgaaGreatDoor
open Go.RowKit

theorem layA_shape (f : Fam) (x lev : Int) : ∃ q0 q1 q2 d c n : Int, layA f x lev = .agg #[.int .i64 q0, .int .i64 q1, .int .i64 q2, .int .i64 d, .int .i64 c, .int .i64 n] ∧ (layC f x lev = 0 → d = (f.lay x lev).data) := by
  unfold layA
  by_cases h : layC f x lev = 0
  · rw [if_pos h]; exact ⟨_, _, _, _, _, _, rfl, fun _ => rfl⟩
  · rw [if_neg h]; exact ⟨_, _, _, _, _, _, rfl, fun h' => absurd h' h⟩
theorem layC_room {f : Fam} {x lev : Int} (hf : f.ok = true) (hx : hasI f.sizes x = true) (hl : inB lev 0 ((f.levels.length : Int) - 1) = true) : layC f x lev = if (f.lay x lev).ok ((2 ^ f.fk.toNat : Nat) : Int) = true then 0 else 3 := by
  rw [layC, if_pos hf, if_pos ⟨hx, hl⟩]
set_option maxRecDepth 100000 in
set_option maxHeartbeats 8000000 in
theorem spSmallestSize_any (nm : ByteArray) (kd p k g : Int) (b1 : Nat) (szs : List Int) (c1 : Nat) (cl : Int) (b2 : Nat) (lvs : List Int) (c2 : Nat) (lev : Int) (s : ByteArray) (w : World) (h : Fam.ok ⟨nm, kd, p, k, g, szs, cl, lvs⟩ = true) (h1 : IntsAt w (some ⟨b1, 0, none⟩) szs) (h2 : IntsAt w (some ⟨b2, 0, none⟩) lvs) (ln : nm.size ≤ 1048576) (hs : s.size ≤ 1048576) :
    Calls Tryz.prog 74 #[(.agg #[.string nm, .int .i64 kd, .int .i64 p, .int .i64 k, .int .i64 g, .slice (some ⟨b1, 0, none⟩) szs.length c1, .int .i64 cl, .slice (some ⟨b2, 0, none⟩) lvs.length c2]), .int .i64 lev, .string s] w (RetSm w (smS ⟨nm, kd, p, k, g, szs, cl, lvs⟩ lev s.data.toList)) := by
  obtain ⟨hfb, hl4, -, hs8, -⟩ := fam_ok h
  obtain ⟨fam, hfam⟩ : ∃ f, f = Fam.mk nm kd p k g szs cl lvs := ⟨_, rfl⟩
  have HFM := Lib.hid hfam
  have HF := Lib.hid (fv_of hfb)
  have HFv := Lib.hid (HF.out.v)
  have HIF := Lib.hid (fun w (h1 : IntsAt w (some ⟨b1, 0, none⟩) szs) (h2 : IntsAt w (some ⟨b2, 0, none⟩) lvs) => spFamily_any nm kd p k g (some ⟨b1, 0, none⟩) szs c1 cl (some ⟨b2, 0, none⟩) lvs c2 w h1 h2 (by omega) (by omega) ln)
  have HPS := Lib.hid (fun w => spPayloadSize_any HF.out s w hs)
  rw [← HFv.out] at HPS
  have HLY := Lib.hid (fun n w (h1 : IntsAt w (some ⟨b1, 0, none⟩) szs) (h2 : IntsAt w (some ⟨b2, 0, none⟩) lvs) => spLayoutOf_any nm kd p k g (some ⟨b1, 0, none⟩) szs c1 cl (some ⟨b2, 0, none⟩) lvs c2 n lev w h1 h2 (by omega) (by omega) ln)
  rw [← hfam] at HIF HLY h ⊢
  have hk : (bF k.toNat g.toNat).k = fam.fk.toNat := by rw [hfam]; rfl
  rw [hk] at HPS
  have H1 := Lib.hid h1
  have H2 := Lib.hid h2
  have HOK := Lib.hid h
  have hsz : fam.sizes = szs := by rw [hfam]
  have hlv : fam.levels = lvs := by rw [hfam]
  have HS := Lib.hid hsz
  have HLVe := Lib.hid hlv
  obtain ⟨S, hS⟩ : ∃ S, S = s.data.toList := ⟨_, rfl⟩
  have hSl : S.length = s.size := by rw [hS]; rfl
  rw [← hS] at HPS ⊢
  obtain ⟨O, hO⟩ : ∃ O, O = smS fam lev S := ⟨_, rfl⟩
  have HO := Lib.hid hO
  rw [← hO]
  have HN1 := Lib.hid (fun hh => hO.trans (smS_no1 (f := fam) (lev := lev) (S := S) hh))
  have HN2 := Lib.hid (fun hh => hO.trans (smS_no2 (f := fam) (lev := lev) (S := S) hh))
  have HGO := Lib.hid (fun h1 need hh => hO.trans (smS_go (f := fam) (lev := lev) (S := S) h1 (need := need) hh))
  rw [hlv] at HN1 HGO
  rw [hsz] at HGO
  have HP4 := Lib.hid (show ¬ S.length ≤ 400 → payS fam.fk.toNat S = none from fun hh => by rw [payS, if_neg (by omega)])
  have HB0 := Lib.hid (ba1 w (.cells #[.string nm, .int .i64 kd, .int .i64 p, .int .i64 k, .int .i64 g, .slice (some ⟨b1, 0, none⟩) szs.length c1, .int .i64 cl, .slice (some ⟨b2, 0, none⟩) lvs.length c2] 123 (0, 0)))
  have K0 := Lib.hid (push_at w (.cells #[.string nm, .int .i64 kd, .int .i64 p, .int .i64 k, .int .i64 g, .slice (some ⟨b1, 0, none⟩) szs.length c1, .int .i64 cl, .slice (some ⟨b2, 0, none⟩) lvs.length c2] 123 (0, 0)))
  have HIN := Lib.hid (fun w => spIn_below (n := lev) (lo := 0) (hi := (lvs.length : Int) - 1) (w := w) rfl)
  clear h h1 h2 hfb hS hO hfam hk hsz hlv HFv
  go_enter Tryz.func74, Tryz.ntmps74
  go_wp2_with fail
  refine (HIF.out _ (H1.out.below HB0.out) (H2.out.below HB0.out)).mono ?_
  rw [HOK.out]
  rintro e w1 ⟨rfl, hb1⟩
  have K1 := Lib.hid (blkK hb1 K0.out)
  have HB1 := Lib.hid (bt0 HB0.out hb1 (Nat.le_refl _))
  clear hb1
  obtain ⟨hcA, hfA⟩ := heap_cellR K1.out
  have z1 := blkLt K1.out
  go_wp2_with fail
  refine (HIN.out _).mono ?_
  rintro e w2 ⟨rfl, hb2⟩
  have K2 := Lib.hid (blkK hb2 K1.out)
  have HB2 := Lib.hid (bt0 HB1.out hb2 (Nat.le_refl _))
  clear hb2 hcA hfA
  obtain ⟨hcA, hfA⟩ := heap_cellR K2.out
  have z2 := blkLt K2.out
  rcases Bool.eq_false_or_eq_true (inB lev 0 ((lvs.length : Int) - 1)) with hv | hv
  rotate_left
  · have HD := Lib.hid (HN1.out hv)
    go_wp2_with fail
    go_ret2
    exact ⟨HB2.out, .inr ⟨HD.out, 2, by decide, rfl⟩⟩
  have HV := Lib.hid hv
  by_cases h400 : s.size ≤ 400
  rotate_left
  · have HD := Lib.hid (HN2.out (HP4.out (by omega)))
    have hd : (400 : Int) < (s.size : Int) := by omega
    go_wp2_with fail
    go_ret2
    exact ⟨HB2.out, .inr ⟨HD.out, 3, by decide, rfl⟩⟩
  have hd : ¬ (400 : Int) < (s.size : Int) := by omega
  go_wp2_with fail
  refine (HPS.out _).mono ?_
  rintro e w3 ⟨rfl, hb3⟩
  have K3 := Lib.hid (blkK hb3 K2.out)
  have HB3 := Lib.hid (bt0 HB2.out hb3 (Nat.le_refl _))
  clear hb3 hcA hfA hv
  obtain ⟨hcA, hfA⟩ := heap_cellR K3.out
  have z3 := blkLt K3.out
  obtain ⟨P, hP⟩ : ∃ P, P = payS fam.fk.toNat S := ⟨_, rfl⟩
  rcases P with _ | need
  · have HD := Lib.hid (HN2.out hP.symm)
    obtain ⟨e1, e2⟩ := payNo hP.symm
    rw [e1, e2]
    clear hP e1 e2
    go_wp2_with fail
    go_loopw [10] (fun i wr => i = .int .i64 0 ∧ wr = w3) (fun _ _ => 0)
    case atStart => exact ⟨rfl, rfl⟩
    case round =>
      obtain ⟨rfl, rfl⟩ := hrel
      have hlt : (0 : Int) < (szs.length : Int) := by omega
      go_wp2_with fail
      go_ret2
      exact ⟨HB3.out, .inr ⟨HD.out, 4, by decide, rfl⟩⟩
  obtain ⟨e1, e2⟩ := payYes hP.symm
  rw [e1, e2]
  have HD := Lib.hid (HGO.out HV.out need hP.symm)
  clear hP e1 e2
  go_wp2_with fail
  go_loopw [10] (fun i wr => ∃ j : Nat, j ≤ szs.length ∧ i = .int .i64 j ∧ (szs.take j).find? (roomB fam lev need) = none ∧ Below w3.heap.size w3 wr) (fun i _ => szs.length - (intOf i).toNat)
  case atStart => exact ⟨0, Nat.zero_le _, rfl, rfl, Below.refl _ _⟩
  case round =>
    obtain ⟨j, hj, rfl, hnone, hbr⟩ := hrel
    obtain ⟨ws, rfl⟩ : ∃ ws : World, ws = wr := ⟨_, rfl⟩
    have HNO := Lib.hid hnone
    have HBR := Lib.hid hbr
    have KR := Lib.hid (blkK hbr K3.out)
    clear hnone hbr hcA hfA
    obtain ⟨hcA, hfA⟩ := heap_cellR KR.out
    have hltR := blkLt KR.out
    by_cases hlt : j < szs.length
    · have hji : (j : Int) < (szs.length : Int) := by omega
      have HX1 := Lib.hid (H1.out.below (HB3.out.trans (HBR.out.mono HB3.out.size)))
      have HX2 := Lib.hid (H2.out.below (HB3.out.trans (HBR.out.mono HB3.out.size)))
      obtain ⟨b1', o1', x, hb1', hxk, hb1, hcx⟩ := HX1.out.at hlt
      cases hb1'
      have HXK := Lib.hid hxk
      have HHI := Lib.hid (hasI_yes hxk)
      have HCX := Lib.hid hcx
      obtain ⟨q0, q1, q2, d, cc, nn, hla, hld⟩ := layA_shape fam x lev
      have HLA := Lib.hid hla
      have HLD := Lib.hid hld
      have HLC := Lib.hid (layC_room (f := fam) (x := x) (lev := lev) HOK.out (by rw [HS.out]; exact HHI.out) (by rw [HLVe.out]; exact HV.out))
      obtain ⟨LC, hLC⟩ : ∃ LC, LC = layC fam x lev := ⟨_, rfl⟩
      have HLYx := Lib.hid (HLY.out x)
      rw [hla, ← hLC] at HLYx
      rw [← hLC] at HLD HLC
      clear hxk hcx hla hld hLC
      go_wp2_with fail
      refine wp_region_rsF (Keep := KB) 10 [45, 46, 47, 48, 49, 50, 51, 52, 44, 53, 54, 11] (fun us => _)
        [spE (.agg #[.string nm, .int .i64 kd, .int .i64 p, .int .i64 k, .int .i64 g, .slice (some ⟨b1, 0, none⟩) szs.length c1, .int .i64 cl, .slice (some ⟨b2, 0, none⟩) lvs.length c2]), spE (.pointer (some ⟨w.heap.size, 5, none⟩)), spE (.slice (some ⟨b1, 0, none⟩) szs.length c1), spE (.int .i64 (j : Int)), spE (.pointer (some ⟨b1, j, none⟩)), spE (.int .i64 x), spE (.int .i64 lev),
         spE (.tuple #[.agg #[.int .i64 q0, .int .i64 q1, .int .i64 q2, .int .i64 d, .int .i64 cc, .int .i64 nn], .int .i64 LC]), spE (.tuple #[.agg #[.int .i64 q0, .int .i64 q1, .int .i64 q2, .int .i64 d, .int .i64 cc, .int .i64 nn], .int .i64 LC]), spE (.agg #[.int .i64 q0, .int .i64 q1, .int .i64 q2, .int .i64 d, .int .i64 cc, .int .i64 nn]), spE (.int .i64 LC),
         spBox ws.heap.size #[.int .i64 0, .int .i64 0, .int .i64 0, .int .i64 0, .int .i64 0, .int .i64 0] 146]
        (StX ws) _ _ 146 _ _ 54 (by kernel_rfl) (by kernel_rfl) (fun us => by simp [over, List.mapIdx_cons]; exact rfl) (stX0 _) kbr rfl rfl rfl rfl rfl rfl rfl (by kernel_rfl) (by kernel_rfl) (fun us v => by exact ⟨rfl, rfl⟩) ?_ ?_ ?_ ?_
      · refine ⟨?_, ?_, ?_, ?_, ?_, ?_, ?_, ?_, ?_, ?_, ?_, ?_, trivial⟩
        all_goals (intro us wx hst hd; rw [if_pos (by kernel_rfl)]; dsimp only)
        · clear hd
          obtain ⟨hcX, hfX⟩ := heap_cellR (blkK hst KR.out)
          have hlX := blkLt (blkK hst KR.out)
          go_simp
          exact kb_same hst rfl
        · clear hd
          go_simp
          exact kb_same hst rfl
        · have d46 : us 46 = .pointer (some ⟨w.heap.size, 5, none⟩) := hd ⟨1, .data⟩ (by simp) rfl
          clear hd
          obtain ⟨hcX, hfX⟩ := heap_cellR (blkK hst KR.out)
          have hlX := blkLt (blkK hst KR.out)
          go_simp
          exact kb_same hst rfl
        · clear hd
          go_simp
          exact kb_same hst rfl
        · have d47 : us 47 = .slice (some ⟨b1, 0, none⟩) szs.length c1 := hd ⟨2, .data⟩ (by simp) rfl
          have d48 : us 48 = .int .i64 (j : Int) := hd ⟨3, .data⟩ (by simp) rfl
          clear hd
          go_simp
          exact kb_same hst rfl
        · have d49 : us 49 = .pointer (some ⟨b1, j, none⟩) := hd ⟨4, .data⟩ (by simp) rfl
          clear hd
          have h0 := (hst.cell (p := ⟨b1, 0 + j, none⟩) hb1).trans HCX.out
          rw [Nat.zero_add] at h0
          go_simp
          exact kb_same hst rfl
        · clear hd
          go_simp
          exact kb_same hst rfl
        · have d45 : us 45 = .agg #[.string nm, .int .i64 kd, .int .i64 p, .int .i64 k, .int .i64 g, .slice (some ⟨b1, 0, none⟩) szs.length c1, .int .i64 cl, .slice (some ⟨b2, 0, none⟩) lvs.length c2] := hd ⟨0, .data⟩ (by simp) rfl
          have d50 : us 50 = .int .i64 x := hd ⟨5, .data⟩ (by simp) rfl
          have d51 : us 51 = .int .i64 lev := hd ⟨6, .data⟩ (by simp) rfl
          clear hd
          have h9 := HLYx.out wx (HX1.out.below hst) (HX2.out.below hst)
          go_simp
          exact h9.mono fun e w' ⟨he, hb⟩ => ⟨_, he, kb_below hst hb rfl⟩
        · have d52 : us 52 = .tuple #[.agg #[.int .i64 q0, .int .i64 q1, .int .i64 q2, .int .i64 d, .int .i64 cc, .int .i64 nn], .int .i64 LC] := hd ⟨7, .data⟩ (by simp) rfl
          clear hd
          go_simp
          exact kb_same hst rfl
        · have d44 : us 44 = .tuple #[.agg #[.int .i64 q0, .int .i64 q1, .int .i64 q2, .int .i64 d, .int .i64 cc, .int .i64 nn], .int .i64 LC] := hd ⟨8, .data⟩ (by simp) rfl
          clear hd
          go_simp
          exact kb_same hst rfl
        · have d44 : us 44 = .tuple #[.agg #[.int .i64 q0, .int .i64 q1, .int .i64 q2, .int .i64 d, .int .i64 cc, .int .i64 nn], .int .i64 LC] := hd ⟨8, .data⟩ (by simp) rfl
          clear hd
          go_simp
          exact kb_same hst rfl
        · clear hd
          go_simp
          exact kb_new hst (Nat.le_refl _)
      · intro us wx hst hd
        have dv : us 53 = .agg #[.int .i64 q0, .int .i64 q1, .int .i64 q2, .int .i64 d, .int .i64 cc, .int .i64 nn] := hd 9 (by simp) (by decide)
        have db : BoxK ws.heap.size #[.int .i64 0, .int .i64 0, .int .i64 0, .int .i64 0, .int .i64 0, .int .i64 0] 146 (us 11) wx := hd 11 (by simp) (by decide)
        obtain ⟨bS, eb, hbB, hgS⟩ := db
        exact ⟨bS, _, _, _, eb, dv, hgS, by kernel_rfl, rfl, by kernel_rfl⟩
      · intro us wx hst hd
        have d44 : us 44 = .tuple #[.agg #[.int .i64 q0, .int .i64 q1, .int .i64 q2, .int .i64 d, .int .i64 cc, .int .i64 nn], .int .i64 LC] := hd 8 (by simp) (by decide)
        clear hd
        refine ⟨.int .i64 LC, fun w' => ?_, (show upd us (some 54) (.int .i64 LC) 54 = .int .i64 LC from rfl)⟩
        go_simp
        try rfl
      · intro us wx hst hd
        have dv : us 53 = .agg #[.int .i64 q0, .int .i64 q1, .int .i64 q2, .int .i64 d, .int .i64 cc, .int .i64 nn] := hd 9 (by simp)
        have dc : us 54 = .int .i64 LC := hd 10 (by simp)
        have db : BoxK ws.heap.size #[.int .i64 0, .int .i64 0, .int .i64 0, .int .i64 0, .int .i64 0, .int .i64 0] 146 (us 11) wx := hd 11 (by simp)
        clear hd
        obtain ⟨bS, eSb, hbSB, hgS⟩ := db
        simp only [List.drop, List.length]
        rw [dv, dc, eSb]
        obtain ⟨hcS, hfS⟩ := heap_cellR hgS
        have hbS := blkLt hgS
        have HSTX := Lib.hid hst
        have HBX := Lib.hid (bt0 (bt0 HB3.out HBR.out (Nat.le_refl _)) hst (Nat.le_refl _))
        have KX := Lib.hid (blkK hst KR.out)
        obtain ⟨hcX, hfX⟩ := heap_cellR KX.out
        have hlX := blkLt KX.out
        have hne1 : bS ≠ w.heap.size := by omega
        have hne2 : w.heap.size ≠ bS := by omega
        have hcx := (hst.cell (p := ⟨b1, 0 + j, none⟩) hb1).trans HCX.out
        rw [Nat.zero_add] at hcx
        clear dv dc eSb hgS hst hcA hfA
        rcases Bool.eq_false_or_eq_true ((fam.lay x lev).ok ((2 ^ fam.fk.toNat : Nat) : Int)) with ho | ho
        · obtain rfl : LC = 0 := by rw [HLC.out, if_pos ho]
          have hd := HLD.out rfl
          by_cases hle : need ≤ d
          · have HR := Lib.hid (HD.out.trans (find_hit HXK.out HNO.out (show roomB fam lev need x = true by rw [roomB, ho, ← hd, decide_eq_true hle]; rfl)))
            have hcx2 : b1 ≠ bS := by omega
            clear ho hd
            go_wp2_with fail
            go_ret2
            refine ⟨?_, .inl ⟨x, HR.out, rfl⟩⟩
            have hz := HBX.out.size
            iterate 6 (refine Below.setCell ?_ (by dsimp only; omega) _)
            exact HBX.out
          · have HR := Lib.hid (find_miss HXK.out HNO.out (show roomB fam lev need x = false by rw [roomB, ho, ← hd, decide_eq_false hle]; rfl))
            clear ho hd
            go_wp2_with fail
            refine ⟨⟨j + 1, by omega, by go_num, HR.out, ?_⟩, by simp [intOf]; omega⟩
            have hz := HBR.out.size
            iterate 6 (refine Below.setCell ?_ (by dsimp only; omega) _)
            exact bt0 HBR.out HSTX.out (Nat.le_refl _)
        · obtain rfl : LC = 3 := by rw [HLC.out, if_neg (by rw [ho]; decide)]
          have HR := Lib.hid (find_miss HXK.out HNO.out (show roomB fam lev need x = false by rw [roomB, ho, Bool.false_and]))
          clear ho
          go_wp2_with fail
          refine ⟨⟨j + 1, by omega, by go_num, HR.out, ?_⟩, by simp [intOf]; omega⟩
          have hz := HBR.out.size
          iterate 6 (refine Below.setCell ?_ (by dsimp only; omega) _)
          exact bt0 HBR.out HSTX.out (Nat.le_refl _)
    · have hji : ¬ (j : Int) < (szs.length : Int) := by omega
      have HR := Lib.hid (show O = none by have h := HNO.out; rw [List.take_of_length_le (by omega)] at h; rw [HD.out, h])
      go_wp2_with fail
      go_ret2
      exact ⟨bt0 HB3.out HBR.out (Nat.le_refl _), .inr ⟨HR.out, 4, by decide, rfl⟩⟩

end Go.Proofs.YtlcglclojlffgaaGreatDoor
