import Derived.Test.YthnjfdhijpfekaaURG
namespace Go.Proofs.Ythnjfdhijpfekaa
open Go.RowKit

/-- what one operation yields, and the world that it leaves -/
def leavesUpon (P : Program) (R : Value → World → Prop) : Result Next → Prop
  | .ok (.value v) w' => R v w'
  | .ok .skip w' => R undef w'
  | .ok (.enter f args) w' => Calls P f args w' (fun e w'' => ∃ v, e = .returned v ∧ R v w'')
  | _ => False
def leaves (P : Program) (o : Oper) (a : Act) (w : World) (R : Value → World → Prop) : Prop := leavesUpon P R ((execOp a.eval o).run P w)
attribute [go_sem] leavesUpon leaves

theorem wp_of_leaves {P : Program} {o : Oper} {a : Act} {w : World} {R : Value → World → Prop} {K : Act → World → Prop} {Q : Exit → Act → World → Prop} (h : ∀ v w', R v w' → K (a.put o.dst v) w') (hh : leaves P o a w R) : o.wp P a w K Q := by
  unfold leaves at hh
  unfold Oper.wp
  generalize (execOp a.eval o).run P w = r at *
  cases r with
  | ok n w' =>
    cases n <;> simp only [leavesUpon] at hh <;> simp only [Oper.upon]
    case value v => exact h _ _ hh
    case skip => exact h _ _ hh
    case enter f args => exact hh.mono fun e w'' ⟨v, he, hr⟩ => by subst he; exact h _ _ hr
  | halt x w' => simp only [leavesUpon] at hh

/-- behind an operation: it has kept what it had to, and what is said of it holds -/
def RgR (G : Nat → (Nat → Value) → World → Prop) (St : World → Prop) (Keep : World → World → Prop) (us : Nat → Value) (w : World) (i : Nat) (d : Option Nat) (v : Value) (w' : World) : Prop :=
  St w' ∧ Keep w w' ∧ G i (upd us d v) w'
/-- the head's operations, one by one -/
def rgAll (P : Program) (ops : Array Oper) (A : (Nat → Value) → Act) (G : Nat → (Nat → Value) → World → Prop) (St : World → Prop) (Keep : World → World → Prop) : Nat → List Oper → Prop
  | _, [] => True
  | i, o :: r => (∀ (us : Nat → Value) (w : World), St w → (∀ e ∈ o.after, Region.binds .any e = true → G e.on us w) →
      if Region.wanted o (yielded ops (A us).tmps) then leaves P o (A us) w (RgR G St Keep us w i o.dst) else G i (upd us o.dst undef) w) ∧ rgAll P ops A G St Keep (i + 1) r

theorem rgAll_at {P : Program} {ops : Array Oper} {A : (Nat → Value) → Act} {G : Nat → (Nat → Value) → World → Prop} {St : World → Prop} {Keep : World → World → Prop} : ∀ (l : List Oper) (k : Nat), rgAll P ops A G St Keep k l → ∀ i o, l[i]? = some o →
    ∀ (us : Nat → Value) (w : World), St w → (∀ e ∈ o.after, Region.binds .any e = true → G e.on us w) →
      if Region.wanted o (yielded ops (A us).tmps) then leaves P o (A us) w (RgR G St Keep us w (k + i) o.dst) else G (k + i) (upd us o.dst undef) w
  | [], _, _, i, o, h => by simp at h
  | o' :: r, k, hall, 0, o, h => by simp at h; subst h; exact hall.1
  | o' :: r, k, hall, i + 1, o, h => by
    have := rgAll_at r (k + 1) hall.2 i o (by simpa using h)
    rw [show k + 1 + i = k + (i + 1) by omega] at this
    exact this

/-- **A REGION THAT DRAWS ITS ORDER, EACH OPERATION OF ITS HEAD BY WHAT IT LEAVES; the tail in its one order.** -/
theorem wp_region_rg {P : Program} {id : Nat} {l : List Oper} {Q : Exit → Act → World → Prop} {a0 : Act} {w0 : World} (m : Nat) (ds : List Nat) (sup : Nat → List Nat) (A : (Nat → Value) → Act) (G : Nat → (Nat → Value) → World → Prop) (St : World → Prop) (Keep : World → World → Prop)
    (hmix : P.follows .mixedOrders = true) (hB : rgOk l.toArray m ds sup = true) (hm : m ≤ l.length) (hA : ∀ us, over a0 ds us = A us) (h0 : St w0.drew) (hrefl : ∀ w, Keep w w)
    (hkeep : ∀ j us w w', j < m → Keep w w' → G j us w → G j us w') (hsup : ∀ j us us' w, j < m → (∀ t ∈ sup j, us t = us' t) → G j us w → G j us' w)
    (hall : rgAll P l.toArray A G St Keep 0 (l.take m))
    (hend : ∀ us w, St w → (∀ j, j < m → G j us w) → wpList P l.toArray Q (l.drop m) (A us) w) : (Code.region id l.toArray true).wp P Q a0 w0 := by
  refine wp_region_any hmix ?_
  refine wpAny_head (a0 := a0) (ds := ds) (G := G) (St := St) (Keep := Keep) hB (by simpa using hm) hkeep hrefl hsup ?_ ?_ _ _ _ _ (by rw [Array.toList_replicate, unl_replicate]; exact Nat.le_refl _) ?_
  · intro i o hi ho us w hst hd
    have ho' : (l.take m)[i]? = some o := by rw [List.getElem?_take, if_pos hi]; simpa using ho
    have := rgAll_at _ 0 hall i o ho' us w hst hd
    rw [Nat.zero_add] at this
    rw [hA]
    by_cases hw : Region.wanted o (yielded l.toArray (A us).tmps) = true
    · rw [if_pos hw] at this ⊢
      exact wp_of_leaves (fun v w' h => ⟨v, rfl, h.1, h.2.1, h.2.2⟩) this
    · rw [if_neg hw] at this ⊢
      exact this
  · intro us w hst hg
    have := hend us w hst hg
    rw [hA]
    have e := wpOps_eq_wpList (P := P) (ops := l.toArray) (Q := Q) (l.drop m) m (fun j => by simp [List.getElem?_drop])
    rw [List.length_drop] at e
    have e2 : l.toArray.size - m = l.length - m := by simp
    rw [e2, e]
    exact this
  · refine ⟨by simp, ?_, ?_, h0, fun t => a0.tmps.getD t undef, ?_, ?_⟩
    · intro j _ hj
      rw [getD_toList, Array.toList_replicate, List.getD_eq_getElem?_getD, List.getElem?_replicate]
      simp at hj
      simp [hj]
    · intro j o _ hj
      rw [getD_toList, Array.toList_replicate, List.getD_eq_getElem?_getD, List.getElem?_replicate] at hj
      split at hj <;> simp at hj
    · unfold over
      cases a0 with
      | mk tmps defers =>
        congr 1
        apply Array.ext_getElem?
        intro i
        rw [Array.getElem?_mapIdx]
        cases hx : tmps[i]? with
        | none => rfl
        | some v =>
          simp only [Option.map_some, Array.getD_eq_getD_getElem?, hx, Option.getD_some]
          split <;> rfl
    · intro j _ hj
      rw [getD_toList, Array.toList_replicate, List.getD_eq_getElem?_getD, List.getElem?_replicate] at hj
      split at hj <;> simp at hj

end Go.Proofs.Ythnjfdhijpfekaa
