import Derived.Test.YtpilkgcghlfdmaaGreatDoorM0
namespace Go.Proofs.YtpilkgcghlfdmaaGreatDoor
open Go.RowKit

/-! As RG, where one operation f of the head may come up behind the first of the tail (a result that is taken apart beside a late store). -/

def rgOkF (ops : Array Oper) (m f : Nat) (ds : List Nat) (sup : Nat → List Nat) : Bool :=
  decide (f < m) && decide (m < ops.size) && (List.range ops.size).all fun j => match ops[j]? with
    | none => true
    | some o =>
      (decide (m ≤ j) || ((match o.dst with | some d => ds.contains d | none => true) &&
        (sup j).all fun t => (List.range ops.size).all fun i => match ops[i]? with
          | none => true
          | some oi => oi.dst != some t || i == j || o.after.any fun e => Region.binds .any e && e.on == i)) &&
      (decide (j < m) || (List.range j).all (fun i => (i == f && j == m) || o.after.any fun e => Region.binds .any e && e.on == i)) && o.after.all fun e => !Region.binds .any e || decide (e.on < j)

variable {P : Program} {ops : Array Oper} {Q : Exit → Act → World → Prop}

/-- the tail, in its one order -/
theorem wpAny_tailF {m f : Nat} {ds : List Nat} {sup : Nat → List Nat} (hB0 : rgOkF ops m f ds sup = true) : ∀ (r k : Nat) (listed : Array Bool) (a : Act) (w : World), m ≤ k → k + r = ops.size →
    (∀ j, j < ops.size → listed.getD j true = decide (j < k)) → listed.size = ops.size → ∀ fuel, r ≤ fuel → wpOps P ops Q (List.range' k r) a w → wpAny P .any ops Q fuel listed a w
  | 0, k, listed, a, w, hm, hk, hl, hs, fuel, hf, h => by
    have hr : Region.ready .any ops listed = [] := by
      rw [List.eq_nil_iff_forall_not_mem]
      intro j hj
      obtain ⟨h1, o, ho, _⟩ := mem_ready.1 hj
      have hlt : j < ops.size := (Array.getElem?_eq_some_iff.1 ho).1
      rw [hl j hlt] at h1
      simp at h1; omega
    have hq : Q .normal a w := h
    cases fuel with
    | zero => exact ⟨hr, hq⟩
    | succ f => exact ⟨fun _ => hq, fun i hi => by rw [hr] at hi; cases hi⟩
  | r + 1, k, listed, a, w, hm, hk, hl, hs, fuel, hf, h => by
    have hB := hB0
    unfold rgOkF at hB
    rw [Bool.and_eq_true] at hB
    have hkn : k < ops.size := by omega
    have hready : ∀ j ∈ Region.ready .any ops listed, j = k := by
      intro j hj
      obtain ⟨h1, o, ho, hdep⟩ := mem_ready.1 hj
      have hlt : j < ops.size := (Array.getElem?_eq_some_iff.1 ho).1
      rw [hl j hlt] at h1
      have hjk : k ≤ j := by simpa using h1
      rcases Nat.lt_or_ge k j with hlt' | hge
      · exfalso
        have hb := List.all_eq_true.1 hB.2 j (List.mem_range.2 hlt)
        simp only [ho, Bool.and_eq_true, Bool.or_eq_true, decide_eq_true_eq] at hb
        rcases hb.1.2 with hb2 | hb2
        · omega
        · have := List.all_eq_true.1 hb2 k (List.mem_range.2 hlt')
          simp only [Bool.or_eq_true, Bool.and_eq_true, beq_iff_eq] at this
          have hfm : f < m := by have h := hB.1; rw [Bool.and_eq_true] at h; simpa using h.1
          rcases this with this | this
          · omega
          obtain ⟨e, he, hee⟩ := Array.any_eq_true'.1 this
          simp only [Bool.and_eq_true, beq_iff_eq] at hee
          have hd := hdep e he hee.1
          rw [hee.2] at hd
          have := hl k hkn
          rw [getD_toList] at this hd
          rw [List.getD_eq_getElem?_getD] at this hd
          cases hx : listed.toList[k]? with
          | none => rw [hx] at hd; simp at hd
          | some b => rw [hx] at this hd; simp at this hd; rw [this] at hd; cases hd
      · omega
    cases fuel with
    | zero => omega
    | succ f =>
      refine ⟨fun h0 => ?_, fun i hi => ?_⟩
      · exfalso
        obtain ⟨o, ho⟩ : ∃ o, ops[k]? = some o := ⟨ops[k], Array.getElem?_eq_getElem hkn⟩
        have : k ∈ Region.ready .any ops listed := by
          refine mem_ready.2 ⟨?_, o, ho, ?_⟩
          · rw [hl k hkn]; simp
          · intro e he hbind
            have hb := List.all_eq_true.1 hB.2 k (List.mem_range.2 hkn)
            simp only [ho, Bool.and_eq_true, Bool.or_eq_true, decide_eq_true_eq] at hb
            · have h2 := Array.all_eq_true'.1 hb.2 e he
              simp only [hbind, Bool.not_true, Bool.or_eq_true, Bool.false_eq_true, false_or, decide_eq_true_eq] at h2
              have := hl e.on (by omega)
              rw [getD_toList, List.getD_eq_getElem?_getD] at this ⊢
              cases hx : listed.toList[e.on]? with
              | none =>
                have := List.getElem?_eq_none_iff.1 hx
                simp [hs] at this; omega
              | some b => rw [hx] at this; simp at this; simp [this]; exact h2
        rw [h0] at this; cases this
      · obtain rfl := hready i hi
        rw [List.range'_succ, wpOps_cons] at h
        refine wpOp_mono (fun a' w' h' => ?_) h
        refine wpAny_tailF hB0 r (i + 1) _ a' w' (by omega) (by omega) ?_ (by simpa using hs) f (by omega) h'
        intro j hj
        by_cases e : i = j
        · subst e
          rw [getD_toList, Array.toList_setIfInBounds, List.getD_eq_getElem?_getD, List.getElem?_set]
          simp [hs, hj]
        · rw [getD_toList, Array.toList_setIfInBounds, List.getD_eq_getElem?_getD, List.getElem?_set, if_neg e, ← List.getD_eq_getElem?_getD, ← getD_toList, hl j hj]
          simp; omega


theorem wpAny_headF {m f : Nat} {a0 : Act} {ds : List Nat} {sup : Nat → List Nat} {G : Nat → (Nat → Value) → World → Prop} {St : World → Prop} {Keep : World → World → Prop} (hB0 : rgOkF ops m f ds sup = true)
    (hkeep : ∀ j us w w', j < m → Keep w w' → G j us w → G j us w') (hrefl : ∀ w, Keep w w) (hsup : ∀ j us us' w, j < m → (∀ t ∈ sup j, us t = us' t) → G j us w → G j us' w)
    (howe : ∀ i o, i < m → ops[i]? = some o → Owes P ops Q a0 ds G St Keep i o)
    (hend : ∀ us w, St w → (∀ j, j < m → G j us w) → wpOps P ops Q (List.range' m (ops.size - m)) (over a0 ds us) w)
    (hend2 : ∀ us w, St w → (∀ j, j < m → j ≠ f → G j us w) → wpOps P ops Q (m :: f :: List.range' (m + 1) (ops.size - (m + 1))) (over a0 ds us) w) :
    ∀ (fuel : Nat) (listed : Array Bool) (a : Act) (w : World), unl listed.toList ≤ fuel → Under ops m a0 ds G St listed a w → wpAny P .any ops Q fuel listed a w := by
  have hB1 := hB0
  unfold rgOkF at hB1
  rw [Bool.and_eq_true] at hB1
  have hB2 := hB1.1
  rw [Bool.and_eq_true] at hB2
  obtain ⟨hfm, hms⟩ := hB2
  have hfm : f < m := by simpa using hfm
  have hms : m < ops.size := by simpa using hms
  have hm : m ≤ ops.size := by omega
  have hB := hB1.2
  have hdepOk : ∀ j o, j < m → ops[j]? = some o → (∀ d, o.dst = some d → ds.contains d = true) ∧ ∀ t ∈ sup j, ∀ i oi, ops[i]? = some oi → oi.dst = some t → i = j ∨ ∃ e ∈ o.after, Region.binds .any e = true ∧ e.on = i := by
    intro j o hj ho
    have hlt : j < ops.size := (Array.getElem?_eq_some_iff.1 ho).1
    have hb := List.all_eq_true.1 hB j (List.mem_range.2 hlt)
    simp only [ho, Bool.and_eq_true, Bool.or_eq_true, decide_eq_true_eq] at hb
    rcases hb.1.1 with h | h
    · omega
    · refine ⟨?_, ?_⟩
      · intro d hd
        have := h.1
        rw [hd] at this
        exact this
      · intro t ht i oi hi hd
        have h2 := List.all_eq_true.1 (List.all_eq_true.1 h.2 t ht) i (List.mem_range.2 (Array.getElem?_eq_some_iff.1 hi).1)
        simp only [hi, Bool.or_eq_true, bne_iff_ne, beq_iff_eq, hd] at h2
        rcases h2 with (h2 | h2) | h2
        · exact absurd rfl h2
        · exact Or.inl h2
        · obtain ⟨e, he, hee⟩ := Array.any_eq_true'.1 h2
          simp only [Bool.and_eq_true, beq_iff_eq] at hee
          exact Or.inr ⟨e, he, hee.1, hee.2⟩
  have step : ∀ (fuel : Nat) (listed : Array Bool) (a : Act) (w : World), unl listed.toList ≤ fuel → Under ops m a0 ds G St listed a w →
      (∀ j, j < m → listed.getD j true = true) → wpAny P .any ops Q fuel listed a w := by
    intro fuel listed a w hf U hall
    obtain ⟨us, rfl, hG⟩ := U.left
    have hx : ∀ j, j < m → listed.getD j false = true := by
      intro j hj
      have := hall j hj
      rw [getD_toList, List.getD_eq_getElem?_getD] at this ⊢
      cases hy : listed.toList[j]? with
      | none =>
        have h1 := List.getElem?_eq_none_iff.1 hy
        have := U.size
        simp at h1; omega
      | some b => rw [hy] at this; simpa using this
    have hr : ops.size - m ≤ fuel := by
      refine Nat.le_trans ?_ hf
      have : ∀ (n : Nat) (l : List Bool), (∀ j, n ≤ j → j < l.length → l.getD j true = false) → l.length - n ≤ unl l := by
        intro n l
        induction l generalizing n with
        | nil => intro _; simp
        | cons b r ih =>
          intro hb
          cases n with
          | zero =>
            have h0 := hb 0 (Nat.le_refl _) (by simp)
            have h1 := ih 0 (fun j _ hj => by have := hb (j + 1) (by omega) (by simpa using hj); simpa using this)
            simp at h0
            subst h0
            simp [unl] at h1 ⊢; omega
          | succ n =>
            have h1 := ih n (fun j hj hj' => by have := hb (j + 1) (by omega) (by simpa using hj'); simpa using this)
            simp only [unl, List.length_cons]; omega
      have h2 := this m listed.toList (fun j hj hj' => by rw [← getD_toList]; exact U.tail j hj (by have := U.size; simp at hj'; omega))
      have := U.size
      simp at h2; omega
    refine wpAny_tailF hB0 (ops.size - m) m listed _ w (Nat.le_refl _) (by omega) ?_ U.size fuel hr (hend us w U.st (fun j hj => hG j hj (hx j hj)))
    intro j hj
    rcases Nat.lt_or_ge j m with h | h
    · rw [hall j h]; simp [h]
    · rw [U.tail j h hj]; simp; omega
  intro fuel
  induction fuel with
  | zero =>
    intro listed a w hf U
    exact step 0 listed a w hf U (fun j _ => by rw [getD_toList]; exact unl_zero _ (by omega) j)
  | succ fuel ih =>
    intro listed a w hf U
    by_cases hall : ∀ j, j < m → listed.getD j true = true
    · exact step _ listed a w hf U hall
    · obtain ⟨us, rfl, hG⟩ := U.left
      have hnot : ∃ j, j < m ∧ listed.getD j true = false := by
        apply Classical.byContradiction
        intro hn
        apply hall
        intro j hj
        cases hx : listed.getD j true with
        | true => rfl
        | false => exact absurd ⟨j, hj, hx⟩ hn
      refine ⟨fun h0 => ?_, fun i hi => ?_⟩
      · -- the least that is not listed may come up
        have least : ∀ n j, j ≤ n → j < m → listed.getD j true = false → False := by
          intro n
          induction n with
          | zero =>
            intro j hj hjm hjl
            obtain rfl : j = 0 := by omega
            obtain ⟨oj, hoj⟩ : ∃ oj, ops[0]? = some oj := ⟨ops[0], Array.getElem?_eq_getElem (by omega)⟩
            have : 0 ∈ Region.ready .any ops listed := mem_ready.2 ⟨hjl, oj, hoj, fun e he hbind => by
              have hb := List.all_eq_true.1 hB 0 (List.mem_range.2 (by omega))
              simp only [hoj, Bool.and_eq_true] at hb
              have h2 := Array.all_eq_true'.1 hb.2 e he
              simp only [hbind, Bool.not_true, Bool.or_eq_true, Bool.false_eq_true, false_or, decide_eq_true_eq] at h2
              omega⟩
            rw [h0] at this; cases this
          | succ n ihn =>
            intro j hj hjm hjl
            obtain ⟨oj, hoj⟩ : ∃ oj, ops[j]? = some oj := ⟨ops[j], Array.getElem?_eq_getElem (by omega)⟩
            have : j ∈ Region.ready .any ops listed := mem_ready.2 ⟨hjl, oj, hoj, fun e he hbind => by
              have hb := List.all_eq_true.1 hB j (List.mem_range.2 (by omega))
              simp only [hoj, Bool.and_eq_true] at hb
              have h2 := Array.all_eq_true'.1 hb.2 e he
              simp only [hbind, Bool.not_true, Bool.or_eq_true, Bool.false_eq_true, false_or, decide_eq_true_eq] at h2
              cases hx : listed.getD e.on true with
              | false => exact (ihn e.on (by omega) (by omega) hx).elim
              | true =>
                rw [getD_toList, List.getD_eq_getElem?_getD] at hx ⊢
                cases hy : listed.toList[e.on]? with
                | none =>
                  have h4 := List.getElem?_eq_none_iff.1 hy
                  have := U.size
                  simp at h4; omega
                | some b => rw [hy] at hx; simpa using hx⟩
            rw [h0] at this; cases this
        obtain ⟨j, hj, hjl⟩ := hnot
        exact (least j j (Nat.le_refl _) hj hjl).elim
      · obtain ⟨h1, o, ho, hdep⟩ := mem_ready.1 hi
        have hlt : i < ops.size := (Array.getElem?_eq_some_iff.1 ho).1
        have hil : listed.toList[i]? = some false := by
          rw [getD_toList, List.getD_eq_getElem?_getD] at h1
          cases hx : listed.toList[i]? with
          | none => rw [hx] at h1; simp at h1
          | some b => rw [hx] at h1; simp at h1; rw [h1]
        rcases Nat.lt_or_ge i m with him | hge
        rotate_left
        · have gd : ∀ t, t < ops.size → ∀ l : Array Bool, l.size = ops.size → l.getD t true = l.getD t false := fun t ht l hl => by
            rw [getD_toList, getD_toList, List.getD_eq_getElem?_getD, List.getD_eq_getElem?_getD, List.getElem?_eq_getElem (by simpa [hl] using ht)]; rfl
          have hb := List.all_eq_true.1 hB i (List.mem_range.2 hlt)
          simp only [ho, Bool.and_eq_true, Bool.or_eq_true, decide_eq_true_eq] at hb
          have hwait : ∀ t, t < i → (t = f ∧ i = m) ∨ listed.getD t false = true := by
            intro t ht
            rcases hb.1.2 with hb2 | hb2
            · omega
            · have := List.all_eq_true.1 hb2 t (List.mem_range.2 ht)
              simp only [Bool.or_eq_true, Bool.and_eq_true, beq_iff_eq] at this
              rcases this with this | this
              · exact Or.inl this
              · obtain ⟨e, he, hee⟩ := Array.any_eq_true'.1 this
                simp only [Bool.and_eq_true, beq_iff_eq] at hee
                have hd := hdep e he hee.1
                rw [hee.2] at hd
                exact Or.inr hd
          obtain ⟨j, hj, hjl⟩ := hnot
          have hjf : j = f ∧ i = m := by
            rcases hwait j (by omega) with h | h
            · exact h
            · rw [gd j (by omega) listed U.size, h] at hjl; cases hjl
          obtain ⟨hjf, him⟩ := hjf
          subst hjf
          subst him
          have hG' : ∀ t, t < i → t ≠ j → G t us w := fun t ht hne => hG t ht ((hwait t ht).resolve_left (fun h => hne h.1))
          have h2 := hend2 us w U.st hG'
          rw [wpOps_cons] at h2
          refine wpOp_mono (fun a' w' h' => ?_) h2
          rw [wpOps_cons] at h'
          have hu1 := unl_set listed.toList i hil
          rw [← Array.toList_setIfInBounds] at hu1
          have hs1 : (listed.setIfInBounds i true).size = ops.size := by simpa using U.size
          have hfl : (listed.setIfInBounds i true).getD j true = false := by rw [getD_set_other (by omega)]; exact hjl
          cases fuel with
          | zero =>
            have := unl_zero (listed.setIfInBounds i true).toList (by omega) j
            rw [← getD_toList, hfl] at this
            cases this
          | succ fu =>
            have hfs : (listed.setIfInBounds i true).toList[j]? = some false := by
              rw [getD_toList, List.getD_eq_getElem?_getD] at hfl
              cases hx : (listed.setIfInBounds i true).toList[j]? with
              | none => rw [hx] at hfl; simp at hfl
              | some b => rw [hx] at hfl; simp at hfl; rw [hfl]
            have hu2 := unl_set _ j hfs
            rw [← Array.toList_setIfInBounds] at hu2
            have hall1 : ∀ t, t < i → t ≠ j → (listed.setIfInBounds i true).getD t false = true := fun t ht hne => getD_set_true ((hwait t ht).resolve_left (fun h => hne h.1))
            refine ⟨fun h0 => ?_, fun i' hi' => ?_⟩
            · exfalso
              obtain ⟨oj, hoj⟩ : ∃ oj, ops[j]? = some oj := ⟨ops[j], Array.getElem?_eq_getElem (by omega)⟩
              have : j ∈ Region.ready .any ops (listed.setIfInBounds i true) := mem_ready.2 ⟨hfl, oj, hoj, fun e he hbind => by
                have hbj := List.all_eq_true.1 hB j (List.mem_range.2 (by omega))
                simp only [hoj, Bool.and_eq_true] at hbj
                have h3 := Array.all_eq_true'.1 hbj.2 e he
                simp only [hbind, Bool.not_true, Bool.or_eq_true, Bool.false_eq_true, false_or, decide_eq_true_eq] at h3
                exact hall1 e.on (by omega) (by omega)⟩
              rw [h0] at this; cases this
            · obtain ⟨h1', o', ho', hdep'⟩ := mem_ready.1 hi'
              have hlt' : i' < ops.size := (Array.getElem?_eq_some_iff.1 ho').1
              have hij : i' = j := by
                apply Classical.byContradiction
                intro hne
                rcases Nat.lt_trichotomy i' i with h | h | h
                · have := hall1 i' h hne
                  rw [← gd i' hlt' _ hs1, h1'] at this; cases this
                · subst h
                  have := gd i' hlt' _ hs1
                  have h5 : (listed.setIfInBounds i' true).getD i' false = true := by
                    rw [getD_toList, Array.toList_setIfInBounds, List.getD_eq_getElem?_getD, List.getElem?_set, if_pos rfl, if_pos (by have := U.size; simp; omega)]; rfl
                  rw [this, h5] at h1'; cases h1'
                · have hb' := List.all_eq_true.1 hB i' (List.mem_range.2 hlt')
                  simp only [ho', Bool.and_eq_true, Bool.or_eq_true, decide_eq_true_eq] at hb'
                  rcases hb'.1.2 with hb2 | hb2
                  · omega
                  · have := List.all_eq_true.1 hb2 j (List.mem_range.2 (by omega))
                    simp only [Bool.or_eq_true, Bool.and_eq_true, beq_iff_eq] at this
                    rcases this with this | this
                    · omega
                    · obtain ⟨e, he, hee⟩ := Array.any_eq_true'.1 this
                      simp only [Bool.and_eq_true, beq_iff_eq] at hee
                      have hd := hdep' e he hee.1
                      rw [hee.2, ← gd j (by omega) _ hs1, hfl] at hd
                      cases hd
              subst hij
              refine wpOp_mono (fun a'' w'' h'' => ?_) h'
              have hlow : ∀ (n : Nat) (l : List Bool), (∀ t, n ≤ t → t < l.length → l.getD t true = false) → l.length - n ≤ unl l := by
                intro n l
                induction l generalizing n with
                | nil => intro _; simp
                | cons b r ih =>
                  intro hb
                  cases n with
                  | zero =>
                    have h0 := hb 0 (Nat.le_refl _) (by simp)
                    have h1 := ih 0 (fun t _ ht => by have := hb (t + 1) (by omega) (by simpa using ht); simpa using this)
                    simp at h0
                    subst h0
                    simp [unl] at h1 ⊢; omega
                  | succ n =>
                    have h1 := ih n (fun t ht ht' => by have := hb (t + 1) (by omega) (by simpa using ht'); simpa using this)
                    simp only [unl, List.length_cons]; omega
              have hs2 : ((listed.setIfInBounds i true).setIfInBounds i' true).size = ops.size := by simpa using U.size
              have hrest : ∀ t, i + 1 ≤ t → t < ops.size → ((listed.setIfInBounds i true).setIfInBounds i' true).getD t true = false := fun t ht ht' => by
                rw [getD_set_other (by omega), getD_set_other (by omega)]; exact U.tail t (by omega) ht'
              have hn := hlow (i + 1) ((listed.setIfInBounds i true).setIfInBounds i' true).toList (fun t ht ht' => by
                rw [← getD_toList]; exact hrest t ht (by rw [Array.length_toList, hs2] at ht'; exact ht'))
              rw [Array.length_toList, hs2] at hn
              refine wpAny_tailF hB0 (ops.size - (i + 1)) (i + 1) _ a'' w'' (by omega) (by omega) (fun t ht => ?_) hs2 fu (by omega) h''
              by_cases h7 : i + 1 ≤ t
              · rw [hrest t h7 ht]; simp; omega
              · have e1 : ((listed.setIfInBounds i true).setIfInBounds i' true).getD t true = true := by
                  rw [gd t ht _ hs2]
                  by_cases h8 : i' = t
                  · subst h8
                    rw [getD_toList, Array.toList_setIfInBounds, List.getD_eq_getElem?_getD, List.getElem?_set, if_pos rfl, if_pos (by rw [Array.length_toList, hs1]; exact ht)]; rfl
                  · refine getD_set_true ?_
                    by_cases h9 : i = t
                    · subst h9
                      rw [getD_toList, Array.toList_setIfInBounds, List.getD_eq_getElem?_getD, List.getElem?_set, if_pos rfl, if_pos (by rw [Array.length_toList, U.size]; exact ht)]; rfl
                    · exact hall1 t (by omega) (fun e => h8 e.symm)
                rw [e1]; simp; omega
        obtain ⟨hds, hdp⟩ := hdepOk i o him ho
        have hdm : ∀ e ∈ o.after, Region.binds .any e = true → e.on < m := by
          intro e he hbind
          have hd := hdep e he hbind
          rcases Nat.lt_or_ge e.on m with h | h
          · exact h
          · exfalso
            rcases Nat.lt_or_ge e.on ops.size with h2 | h2
            · have := U.tail e.on h h2
              rw [getD_toList, List.getD_eq_getElem?_getD] at this hd
              cases hx : listed.toList[e.on]? with
              | none => rw [hx] at hd; simp at hd
              | some b => rw [hx] at hd this; simp at hd this; rw [hd] at this; cases this
            · rw [getD_toList, List.getD_eq_getElem?_getD, List.getElem?_eq_none (by have := U.size; simp; omega)] at hd
              simp at hd
        have next : ∀ v w', St w' → Keep w w' → G i (upd us o.dst v) w' → wpAny P .any ops Q fuel (listed.setIfInBounds i true) ((over a0 ds us).put o.dst v) w' := by
          intro v w' hst hk hg
          refine ih _ _ _ ?_ ⟨by simpa using U.size, ?_, ?_, hst, upd us o.dst v, over_put hds, ?_⟩
          · have := unl_set listed.toList i hil
            rw [Array.toList_setIfInBounds]; omega
          · intro j hj hj'
            rw [getD_set_other (by omega)]; exact U.tail j hj hj'
          · intro j oj hoj hlj e he hbind
            by_cases ej : i = j
            · subst ej
              rw [ho] at hoj
              cases hoj
              exact getD_set_true (hdep e he hbind)
            · rw [getD_set_other ej] at hlj
              exact getD_set_true (U.closed j oj hoj hlj e he hbind)
          · intro j hj hlj
            by_cases ej : i = j
            · subst ej; exact hg
            · rw [getD_set_other ej] at hlj
              refine hsup j us _ w' hj (fun t ht => ?_) (hkeep j us w w' hj hk (hG j hj hlj))
              symm
              refine upd_ne (fun hd => ?_)
              have hjs : j < ops.size := by omega
              obtain ⟨oj, hoj⟩ : ∃ oj, ops[j]? = some oj := ⟨ops[j], Array.getElem?_eq_getElem hjs⟩
              rcases (hdepOk j oj hj hoj).2 t ht i o ho hd with h | ⟨e, he, hbind, heq⟩
              · exact ej h
              · have := U.closed j oj hoj hlj e he hbind
                rw [heq, getD_toList, List.getD_eq_getElem?_getD, hil] at this
                simp at this
        have howes := howe i o him ho us w U.st (fun e he hbind => hG e.on (hdm e he hbind) (hdep e he hbind))
        unfold wpOp
        rw [ho]
        simp only
        by_cases hw : Region.wanted o (yielded ops (over a0 ds us).tmps) = true
        · rw [if_pos hw] at howes ⊢
          refine Or.inl (Oper.wp_mono (fun a' w' h => ?_) howes)
          obtain ⟨v, rfl, hst, hk, hg⟩ := h
          exact next v w' hst hk hg
        · rw [if_neg hw] at howes ⊢
          exact next undef w U.st (hrefl w) howes

theorem wp_region_rgF {P : Program} {id : Nat} {l : List Oper} {Q : Exit → Act → World → Prop} {a0 : Act} {w0 : World} (m f : Nat) (ds : List Nat) (sup : Nat → List Nat) (A : (Nat → Value) → Act) (G : Nat → (Nat → Value) → World → Prop) (St : World → Prop) (Keep : World → World → Prop)
    (hmix : P.follows .mixedOrders = true) (hB : rgOkF l.toArray m f ds sup = true) (hA : ∀ us, over a0 ds us = A us) (h0 : St w0.drew) (hrefl : ∀ w, Keep w w)
    (hkeep : ∀ j us w w', j < m → Keep w w' → G j us w → G j us w') (hsup : ∀ j us us' w, j < m → (∀ t ∈ sup j, us t = us' t) → G j us w → G j us' w)
    (hall : rgAll P l.toArray A G St Keep 0 (l.take m))
    (hend : ∀ us w, St w → (∀ j, j < m → G j us w) → wpList P l.toArray Q (l.drop m) (A us) w)
    (hend2 : ∀ us w, St w → (∀ j, j < m → j ≠ f → G j us w) → wpOps P l.toArray Q (m :: f :: List.range' (m + 1) (l.length - (m + 1))) (A us) w) : (Code.region id l.toArray true).wp P Q a0 w0 := by
  refine wp_region_any hmix ?_
  refine wpAny_headF (a0 := a0) (ds := ds) (G := G) (St := St) (Keep := Keep) hB hkeep hrefl hsup ?_ ?_ ?_ _ _ _ _ (by rw [Array.toList_replicate, unl_replicate]; exact Nat.le_refl _) ?_
  · intro i o hi ho us w hst hd
    have ho' : (l.take m)[i]? = some o := by rw [List.getElem?_take, if_pos hi]; simpa using ho
    have := rgAll_at _ 0 hall i o ho' us w hst hd
    rw [Nat.zero_add] at this
    rw [hA]
    by_cases hw : Region.wanted o (yielded l.toArray (A us).tmps) = true
    · rw [if_pos hw] at this ⊢
      exact wp_of_leaves (fun v w' h => ⟨v, rfl, h.1, h.2.1, h.2.2⟩) this
    · rw [if_neg hw] at this ⊢
      exact this
  · intro us w hst hg
    have := hend us w hst hg
    rw [hA]
    have e := wpOps_eq_wpList (P := P) (ops := l.toArray) (Q := Q) (l.drop m) m (fun j => by simp [List.getElem?_drop])
    rw [List.length_drop] at e
    have e2 : l.toArray.size - m = l.length - m := by simp
    rw [e2, e]
    exact this
  · intro us w hst hg
    have := hend2 us w hst hg
    rw [hA]
    simpa using this
  · refine ⟨by simp, ?_, ?_, h0, fun t => a0.tmps.getD t undef, ?_, ?_⟩
    · intro j _ hj
      rw [getD_toList, Array.toList_replicate, List.getD_eq_getElem?_getD, List.getElem?_replicate]
      simp at hj
      simp [hj]
    · intro j o _ hj
      rw [getD_toList, Array.toList_replicate, List.getD_eq_getElem?_getD, List.getElem?_replicate] at hj
      split at hj <;> simp at hj
    · unfold over
      cases a0 with
      | mk tmps defers =>
        congr 1
        apply Array.ext_getElem?
        intro i
        rw [Array.getElem?_mapIdx]
        cases hx : tmps[i]? with
        | none => rfl
        | some v =>
          simp only [Option.map_some, Array.getD_eq_getD_getElem?, hx, Option.getD_some]
          split <;> rfl
    · intro j _ hj
      rw [getD_toList, Array.toList_replicate, List.getD_eq_getElem?_getD, List.getElem?_replicate] at hj
      split at hj <;> simp at hj


/-- a store into a whole block, both ways -/
theorem wp_store_eq {P : Program} {o : Oper} {a : Act} {w : World} {K : Act → World → Prop} {Q : Exit → Act → World → Prop} (ty : TypeId) (x y : Operand) (ho : o.op = .store ty x y)
    (g : Nat) (cells : Array Value) (hx : a.eval x = .pointer (some ⟨g, 0, none⟩)) (hy : a.eval y = .agg cells)
    (t : TypeId) (old : Array Value) (hg : w.heap[g]? = some (.cells old t (0, 0))) (hi : (P.info? ty).map (·.size) = some cells.size)
    (hold : old.size = cells.size) (h1 : cells.all (·.oneCell') = true) : o.wp P a w K Q = K (a.put o.dst undef) (w.setRow g cells) := by
  unfold Oper.wp execOp
  simp only [ho, hx, hy, Instr.storeAt, Instr.sureAddr, Sem.run_bind, Sem.run_pure, Result.andThen_ok, run_storeVar_row w g t ty old cells hg hi hold h1]
  rfl

/-- **A REGION THAT DRAWS ITS ORDER, ITS TAIL A STORE BEHIND WHICH ONE OPERATION OF THE HEAD MAY COME.** -/
theorem wp_region_rsF {P : Program} {id : Nat} {l : List Oper} {Q : Exit → Act → World → Prop} {a0 : Act} {w0 : World} (f : Nat) (ds : List Nat) (A : (Nat → Value) → Act) {Keep : World → World → Prop} (sp : List (Sp Keep)) (St : World → Prop)
    (om of : Oper) (ty : TypeId) (x y : Operand) (df : Nat)
    (hmix : P.follows .mixedOrders = true) (hB : rgOkF l.toArray sp.length f ds (supOf l) = true) (hA : ∀ us, over a0 ds us = A us) (h0 : St w0.drew) (hrefl : ∀ w, Keep w w)
    (hom : l[sp.length]? = some om) (hof : l[f]? = some of) (hg1 : om.guard = none) (hd1 : om.dst = none) (ho1 : om.op = .store ty x y) (hg2 : of.guard = none) (hd2 : of.dst = some df)
    (hnd : ((List.range sp.length).all fun j => j == f || !(supOf l j).contains df) = true) (hdf : ds.contains df = true)
    (hxy : ∀ us v, (A (upd us (some df) v)).eval x = (A us).eval x ∧ (A (upd us (some df) v)).eval y = (A us).eval y)
    (hall : rsAll P l A sp St (l.take sp.length) sp)
    (hst2 : ∀ us w, St w → (∀ j, j < sp.length → j ≠ f → depHolds l sp us w j) → ∃ g cells t old, (A us).eval x = .pointer (some ⟨g, 0, none⟩) ∧ (A us).eval y = .agg cells ∧ w.heap[g]? = some (.cells old t (0, 0)) ∧ (P.info? ty).map (·.size) = some cells.size ∧ old.size = cells.size ∧ cells.all (·.oneCell') = true)
    (hfl : ∀ us w, St w → (∀ j, j < sp.length → j ≠ f → depHolds l sp us w j) → ∃ v, (∀ w', (execOp (A us).eval of).run P w' = .ok (.value v) w') ∧ depHolds l sp (upd us (some df) v) w f)
    (hend : ∀ us w, St w → (∀ j, j < sp.length → depHolds l sp us w j) → wpList P l.toArray Q (l.drop sp.length) (A us) w) : (Code.region id l.toArray true).wp P Q a0 w0 := by
  have hm : sp.length ≤ l.length := Nat.le_of_lt (List.getElem?_eq_some_iff.1 hom).1
  refine wp_region_rgF sp.length f ds (supOf l) A (fun i us w => depHolds l sp us w i) St Keep hmix hB hA h0 hrefl (fun j us w w' _ hk h => depHolds_kept hk h) (fun j us us' w _ he h => depHolds_sup he h) ?_ hend ?_
  · refine rg_of_rs _ _ 0 (by rw [List.length_take]; omega) (fun j hj => ?_) (fun j hj => ?_) (fun j _ => by simp) hall
    · have : j < (l.take sp.length).length := by
        apply Classical.byContradiction
        intro h
        rw [List.getElem?_eq_none (by omega)] at hj; cases hj
      rw [List.length_take] at this
      rw [Nat.zero_add, List.getElem?_take, if_pos (by omega)]
    · rw [List.length_take] at hj
      rw [Nat.zero_add, List.getElem?_take, if_pos (by omega)]
  · intro us w hst hd
    obtain ⟨v, hv, hvf⟩ := hfl us w hst hd
    obtain ⟨g, cells, t, old, e1, e2, e3, e4, e5, e6⟩ := hst2 us w hst hd
    have hd' : ∀ j, j < sp.length → depHolds l sp (upd us (some df) v) w j := by
      intro j hj
      by_cases e : j = f
      · subst e; exact hvf
      · refine depHolds_sup (fun t ht => ?_) (hd j hj e)
        have h1 := List.all_eq_true.1 hnd j (List.mem_range.2 hj)
        simp only [Bool.or_eq_true, beq_iff_eq, Bool.not_eq_true', e, false_or] at h1
        symm
        refine upd_ne (fun ht2 => ?_)
        obtain rfl := Option.some.inj ht2
        rw [List.contains_iff_mem.2 ht] at h1
        cases h1
    have h := hend _ w hst hd'
    have hcons : l.drop sp.length = om :: l.drop (sp.length + 1) := by
      obtain ⟨hl, he⟩ := List.getElem?_eq_some_iff.1 hom
      rw [← he]
      exact (List.getElem_cons_drop hl).symm
    rw [hcons] at h
    have hput : (A us).put of.dst v = A (upd us (some df) v) := by
      rw [← hA us, hd2, over_put (fun t ht => by cases ht; exact hdf), hA]
    have hrest : ∀ a w, wpOps P l.toArray Q (List.range' (sp.length + 1) (l.length - (sp.length + 1))) a w = wpList P l.toArray Q (l.drop (sp.length + 1)) a w := by
      intro a w
      have e := wpOps_eq_wpList (P := P) (ops := l.toArray) (Q := Q) (l.drop (sp.length + 1)) (sp.length + 1) (fun j => by simp [List.getElem?_drop])
      rw [List.length_drop] at e
      rw [e]
    have hx' := (hxy us v).1
    have hy' := (hxy us v).2
    have hex : execOp (A us).eval om = execOp (A (upd us (some df) v)).eval om := by
      unfold execOp
      simp only [ho1, hx', hy']
    have hom' : l.toArray[sp.length]? = some om := by simpa using hom
    have hof' : l.toArray[f]? = some of := by simpa using hof
    unfold wpList at h
    rw [if_pos (by simp [Region.wanted, hg1])] at h
    rw [wpOps_cons]
    unfold wpOp
    rw [hom']
    simp only
    rw [if_pos (by simp [Region.wanted, hg1])]
    rcases h with h | ⟨h, hq⟩
    · refine Or.inl ?_
      rw [wp_store_eq ty x y ho1 g cells (hx'.trans e1) (hy'.trans e2) t old e3 e4 e5 e6, hd1] at h
      rw [wp_store_eq ty x y ho1 g cells e1 e2 t old e3 e4 e5 e6, hd1]
      show wpOps P l.toArray Q (f :: _) (A us) _
      rw [wpOps_cons]
      unfold wpOp
      rw [hof']
      simp only
      rw [if_pos (by simp [Region.wanted, hg2])]
      refine Or.inl ?_
      unfold Oper.wp
      rw [hv]
      show wpOps P l.toArray Q _ ((A us).put of.dst v) _
      rw [hput, hrest]
      exact h
    · refine Or.inr ⟨?_, hq⟩
      unfold Oper.asks at h ⊢
      rw [hex]
      exact h

end Go.Proofs.YtpilkgcghlfdmaaGreatDoor
