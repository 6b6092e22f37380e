import Derived.Test.YthnjfdhijpfekaaURG2
namespace Go.Proofs.Ythnjfdhijpfekaa
open Go.RowKit

/-- what is said of an operation's value: it stays true while the world is kept -/
structure Sp (Keep : World → World → Prop) where
  holds : Value → World → Prop
  kept : ∀ v w w', Keep w w' → holds v w → holds v w'

/-- what is said of operation j -/
def depHolds {Keep : World → World → Prop} (l : List Oper) (sp : List (Sp Keep)) (us : Nat → Value) (w : World) (j : Nat) : Prop :=
  match l[j]?, sp[j]? with
  | some o, some s => match o.dst with
    | some d => s.holds (us d) w
    | none => True
  | _, _ => True
def supOf (l : List Oper) (j : Nat) : List Nat :=
  match l[j]? with
  | some o => o.dst.toList
  | none => []

theorem depHolds_kept {Keep : World → World → Prop} {l : List Oper} {sp : List (Sp Keep)} {us : Nat → Value} {w w' : World} {j : Nat} (hk : Keep w w') (h : depHolds l sp us w j) : depHolds l sp us w' j := by
  unfold depHolds at *
  split
  · rename_i o s ho hs
    simp only [ho, hs] at h
    split
    · rename_i d hd
      simp only [hd] at h
      exact s.kept _ _ _ hk h
    · trivial
  · trivial
theorem depHolds_sup {Keep : World → World → Prop} {l : List Oper} {sp : List (Sp Keep)} {us us' : Nat → Value} {w : World} {j : Nat} (he : ∀ t ∈ supOf l j, us t = us' t) (h : depHolds l sp us w j) : depHolds l sp us' w j := by
  unfold depHolds at *
  split
  · rename_i o s ho hs
    simp only [ho, hs] at h
    split
    · rename_i d hd
      simp only [hd] at h
      have := he d (by simp [supOf, ho, hd])
      rwa [← this]
    · trivial
  · trivial

/-- behind an operation -/
def RsR {Keep : World → World → Prop} (St : World → Prop) (s : Sp Keep) (w : World) (v : Value) (w' : World) : Prop := St w' ∧ Keep w w' ∧ s.holds v w'
def rsAll (P : Program) (l : List Oper) (A : (Nat → Value) → Act) {Keep : World → World → Prop} (sp : List (Sp Keep)) (St : World → Prop) : List Oper → List (Sp Keep) → Prop
  | o :: r, s :: t => (∀ (us : Nat → Value) (w : World), St w → (∀ e ∈ o.after, Region.binds .any e = true → depHolds l sp us w e.on) →
      if Region.wanted o (yielded l.toArray (A us).tmps) then leaves P o (A us) w (RsR St s w) else s.holds undef w) ∧ rsAll P l A sp St r t
  | _, _ => True

theorem rg_of_rs {P : Program} {l : List Oper} {A : (Nat → Value) → Act} {Keep : World → World → Prop} {sp : List (Sp Keep)} {St : World → Prop} : ∀ (r : List Oper) (t : List (Sp Keep)) (k : Nat), r.length = t.length → (∀ j, r[j]? = some r[j]! → l[k + j]? = r[j]?) → (∀ j, j < r.length → l[k + j]? = r[j]?) → (∀ j, j < t.length → sp[k + j]? = t[j]?) → rsAll P l A sp St r t →
    rgAll P l.toArray A (fun i us w => depHolds l sp us w i) St Keep k r
  | [], [], _, _, _, _, _, _ => trivial
  | o :: r, s :: t, k, hlen, hx, hl, hs, h => by
    refine ⟨fun us w hst hd => ?_, rg_of_rs r t (k + 1) (by simpa using hlen) (fun j _ => ?_) (fun j hj => ?_) (fun j hj => ?_) h.2⟩
    · have h1 := h.1 us w hst hd
      have e1 : l[k]? = some o := by simpa using hl 0 (by simp)
      have e2 : sp[k]? = some s := by simpa using hs 0 (by simp)
      have dep : ∀ v w', s.holds v w' → depHolds l sp (upd us o.dst v) w' k := fun v w' hv => by
        unfold depHolds
        simp only [e1, e2]
        cases hd : o.dst with
        | none => trivial
        | some d => simpa [upd] using hv
      by_cases hw : Region.wanted o (yielded l.toArray (A us).tmps) = true
      · rw [if_pos hw] at h1 ⊢
        unfold leaves at *
        generalize (execOp (A us).eval o).run P w = q at *
        cases q with
        | ok n w' =>
          cases n <;> simp only [leavesUpon] at h1 ⊢
          case value v => exact ⟨h1.1, h1.2.1, dep _ _ h1.2.2⟩
          case skip => exact ⟨h1.1, h1.2.1, dep _ _ h1.2.2⟩
          case enter f args => exact h1.mono fun e w'' ⟨v, he, hr⟩ => ⟨v, he, hr.1, hr.2.1, dep _ _ hr.2.2⟩
        | halt x w' => simp only [leavesUpon] at h1
      · rw [if_neg hw] at h1 ⊢
        exact dep _ _ h1
    · have := hl (j + 1)
      by_cases hj : j < r.length
      · have := this (by simpa using hj)
        simpa [Nat.add_assoc, Nat.add_comm 1 j] using this
      · rename_i hh
        rw [List.getElem?_eq_none (by omega)] at hh; cases hh
    · have := hl (j + 1) (by simpa using hj)
      simpa [Nat.add_assoc, Nat.add_comm 1 j] using this
    · have := hs (j + 1) (by simpa using hj)
      simpa [Nat.add_assoc, Nat.add_comm 1 j] using this

/-- **A REGION THAT DRAWS ITS ORDER: what is said of each operation of its head (the first |sp|), whatever the order; then the tail.** -/
theorem wp_region_rs {P : Program} {id : Nat} {l : List Oper} {Q : Exit → Act → World → Prop} {a0 : Act} {w0 : World} (ds : List Nat) (A : (Nat → Value) → Act) {Keep : World → World → Prop} (sp : List (Sp Keep)) (St : World → Prop)
    (hmix : P.follows .mixedOrders = true) (hB : rgOk l.toArray sp.length ds (supOf l) = true) (hm : sp.length ≤ l.length) (hA : ∀ us, over a0 ds us = A us) (h0 : St w0.drew) (hrefl : ∀ w, Keep w w)
    (hall : rsAll P l A sp St (l.take sp.length) sp)
    (hend : ∀ us w, St w → (∀ j, j < sp.length → depHolds l sp us w j) → wpList P l.toArray Q (l.drop sp.length) (A us) w) : (Code.region id l.toArray true).wp P Q a0 w0 := by
  refine wp_region_rg sp.length ds (supOf l) A (fun i us w => depHolds l sp us w i) St Keep hmix hB hm hA h0 hrefl (fun j us w w' _ hk h => depHolds_kept hk h) (fun j us us' w _ he h => depHolds_sup he h) ?_ hend
  refine rg_of_rs _ _ 0 (by rw [List.length_take]; omega) (fun j hj => ?_) (fun j hj => ?_) (fun j _ => by simp) hall
  · have : j < (l.take sp.length).length := by
      apply Classical.byContradiction
      intro h
      rw [List.getElem?_eq_none (by omega)] at hj; cases hj
    rw [List.length_take] at this
    rw [Nat.zero_add, List.getElem?_take, if_pos (by omega)]
  · rw [List.length_take] at hj
    rw [Nat.zero_add, List.getElem?_take, if_pos (by omega)]

end Go.Proofs.Ythnjfdhijpfekaa
