import Derived.Test.YtlcglclojlffgaaGreatM4
import Derived.OrdersIn
import Derived.OwnWalkIn
namespace Go.Proofs.YtlcglclojlffgaaGreat
open Go.RowKit

/-- as wp_region_rt, for whatever stands around the region -/
theorem wpAny_rt {P : Program} {l : List Oper} {Q : Exit → Act → World → Prop} {a0 : Act} {w0 : World} (ds : List Nat) (A : (Nat → Value) → Act) {Keep : World → World → Prop} (sp : List (Sp Keep)) (St : World → Prop)
    (hB : rgOkO l.toArray sp.length ds (supOf l) = true) (hm : sp.length ≤ l.length) (hA : ∀ us, over a0 ds us = A us) (h0 : St w0.drew) (hrefl : ∀ w, Keep w w)
    (hall : rsAll P l A sp St (l.take sp.length) sp)
    (hend : ∀ us w, St w → (∀ j, j < sp.length → depHolds l sp us w j) → wpList P l.toArray Q (l.drop sp.length) (A us) w) : wpAny P .any l.toArray Q l.toArray.size (Array.replicate l.toArray.size false) a0 { w0 with drawn := w0.drawn + 1 } := by
  have hrg := rg_of_rs (P := P) (l := l) (A := A) (sp := sp) (St := St) (l.take sp.length) sp 0 (by rw [List.length_take]; omega) (fun j hj => by
      have : j < (l.take sp.length).length := by
        apply Classical.byContradiction
        intro h
        rw [List.getElem?_eq_none (by omega)] at hj; cases hj
      rw [List.length_take] at this
      rw [Nat.zero_add, List.getElem?_take, if_pos (by omega)]) (fun j hj => by
      rw [List.length_take] at hj
      rw [Nat.zero_add, List.getElem?_take, if_pos (by omega)]) (fun j _ => by simp) hall
  refine wpAny_headO (a0 := a0) (ds := ds) (G := fun i us w => depHolds l sp us w i) (St := fun _ => St) (Keep := Keep) hB (by simpa using hm) (fun j us w w' _ hk h => depHolds_kept hk h) hrefl (fun j us us' w _ he h => depHolds_sup he h) ?_ ?_ _ _ _ _ (by rw [Array.toList_replicate, unl_replicate]; exact Nat.le_refl _) ?_
  · intro i o hi ho us w L hb hst hd
    have ho' : (l.take sp.length)[i]? = some o := by rw [List.getElem?_take, if_pos hi]; simpa using ho
    have := rgAll_at _ 0 hrg i o ho' us w hst (fun e he hb => (hd e he hb).2)
    rw [Nat.zero_add] at this
    rw [hA]
    by_cases hw : Region.wanted o (yielded l.toArray (A us).tmps) = true
    · rw [if_pos hw] at this ⊢
      exact wp_of_leaves (fun v w' h => ⟨v, rfl, h.1, h.2.1, h.2.2⟩) this
    · rw [if_neg hw] at this ⊢
      exact ⟨hst, this⟩
  · intro us w L hL hst hg
    have := hend us w hst hg
    rw [hA]
    have e := wpOps_eq_wpList (P := P) (ops := l.toArray) (Q := Q) (l.drop sp.length) sp.length (fun j => by simp [List.getElem?_drop])
    rw [List.length_drop] at e
    have e2 : l.toArray.size - sp.length = l.length - sp.length := by simp
    rw [e2, e]
    exact this
  · refine ⟨by simp, ?_, ?_, h0, fun t => a0.tmps.getD t undef, ?_, ?_⟩
    · intro j _ hj
      rw [getD_toList, Array.toList_replicate, List.getD_eq_getElem?_getD, List.getElem?_replicate]
      simp at hj
      simp [hj]
    · intro j o _ hj
      rw [getD_toList, Array.toList_replicate, List.getD_eq_getElem?_getD, List.getElem?_replicate] at hj
      split at hj <;> simp at hj
    · unfold over
      cases a0 with
      | mk tmps defers =>
        congr 1
        apply Array.ext_getElem?
        intro i
        rw [Array.getElem?_mapIdx]
        cases hx : tmps[i]? with
        | none => rfl
        | some v =>
          simp only [Option.map_some, Array.getD_eq_getD_getElem?, hx, Option.getD_some]
          split <;> rfl
    · intro j _ hj
      rw [getD_toList, Array.toList_replicate, List.getD_eq_getElem?_getD, List.getElem?_replicate] at hj
      split at hj <;> simp at hj


/-! Inside a fence that keeps nothing out: what a region does in the open it does there. -/
theorem callsIn_open {F : Fence} (hF : F.plain = Fence.wide) {n : Nat} {P : Program} {f : FuncId} {args : Array Value} {w : World} {R : Ending → World → Prop} (h : Calls P f args w R) : CallsIn F n P f args w R := by
  have h2 : CallsIn F.plain n P f args w R := by rw [hF]; exact callsIn_wide.2 h
  exact h2
theorem rowsIn_open {F : Fence} (hF : F.plain = Fence.wide) {n : Nat} {P : Program} {row : String} {args : Array Value} {w : World} {R : Value → World → Prop} (h : Rows P row args w R) : RowsIn F n P row args w R := by
  have h2 : RowsIn F.plain n P row args w R := by
    rw [hF]
    intro c cs _
    obtain ⟨v, w', r, s⟩ := h c cs
    exact ⟨v, w', r, stepsIn_wide.2 s⟩
  exact h2
theorem fn_open {F : Fence} (hF : F.plain = Fence.wide) (f : FuncId) : F.fn f := by
  have : F.fn = fun _ => True := congrArg Fence.fn hF
  rw [this]; trivial
theorem depth_open {F : Fence} (hF : F.plain = Fence.wide) {n : Nat} : F.depth.isSome = true → 1 ≤ n := by
  have : F.depth = none := congrArg Fence.depth hF
  rw [this]; intro h; cases h
theorem operIn_open {F : Fence} (hF : F.plain = Fence.wide) {n : Nat} {P : Program} {o : Oper} {a : Act} {w : World} {K : Act → World → Prop} {Q : Exit → Act → World → Prop} (hd : ∀ c, o.op ≠ .defer c) (h : o.wp P a w K Q) : o.wpIn F n P a w K Q := by
  unfold Oper.wp at h
  refine ⟨fun f _ => fn_open hF f, ?_⟩
  rw [Oper.semAt_eq _ _ _ hd]
  generalize (execOp a.eval o).run P w = r at *
  cases r with
  | ok x w' =>
    cases x <;> simp only [Oper.upon, Oper.uponIn] at h ⊢ <;>
      first
        | exact h
        | exact ⟨depth_open hF, callsIn_open hF (h.mono fun e w'' he => by cases e <;> exact he)⟩
        | exact ⟨depth_open hF, rowsIn_open hF h⟩
  | halt x w' => cases x <;> simp only [Oper.upon, Oper.uponIn] at h ⊢ <;> exact h
theorem wpAnyIn_open {F : Fence} (hF : F.plain = Fence.wide) {n : Nat} {P : Program} {ops : Array Oper} {Q : Exit → Act → World → Prop} (hd : ∀ (i : Nat) (o : Oper), ops[i]? = some o → ∀ c, o.op ≠ .defer c) (hQ : ¬ LetsOut Q) :
    ∀ (fuel : Nat) (listed : Array Bool) (a : Act) (w : World), wpAny P .any ops Q fuel listed a w → wpAnyIn F n P .any ops Q fuel listed a w
  | 0, _, _, _, h => h
  | fuel + 1, listed, a, w, h => by
    refine ⟨h.1, fun i hi => ?_⟩
    have h2 := h.2 i hi
    unfold wpOp at h2
    unfold wpOpIn
    cases ho : ops[i]? with
    | none => rw [ho] at h2; exact wpAnyIn_open hF hd hQ fuel _ _ _ h2
    | some o =>
      rw [ho] at h2
      simp only at h2 ⊢
      by_cases hw : Region.wanted o (yielded ops a.tmps) = true
      · rw [if_pos hw] at h2 ⊢
        rcases h2 with h2 | h2
        · exact Oper.wpIn_mono (fun a w h => wpAnyIn_open hF hd hQ fuel _ a w h) (operIn_open hF (hd i o ho) h2)
        · exact (hQ h2.2).elim
      · rw [if_neg hw] at h2 ⊢
        exact ⟨fun f _ => fn_open hF f, wpAnyIn_open hF hd hQ fuel _ _ _ h2⟩
/-- no operation of a region is a defer statement -/
def noDefer (l : List Oper) : Bool := l.all fun o => match o.op with | .defer _ => false | _ => true
theorem noDefer_ok {l : List Oper} (h : noDefer l = true) (i : Nat) (o : Oper) (ho : l.toArray[i]? = some o) (c : Call) : o.op ≠ .defer c := by
  intro e
  have hm : o ∈ l := List.mem_of_getElem? (by simpa using ho)
  have := List.all_eq_true.1 h o hm
  rw [e] at this
  cases this
/-- **A REGION THAT DRAWS ITS ORDER, in a round of a loop over an iterator.** -/
theorem wpIn_region_rt {F : Fence} (hF : F.plain = Fence.wide) {n : Nat} {P : Program} {id : Nat} {l : List Oper} {Q : Exit → Act → World → Prop} {a0 : Act} {w0 : World} (ds : List Nat) (A : (Nat → Value) → Act) {Keep : World → World → Prop} (sp : List (Sp Keep)) (St : World → Prop)
    (hmix : P.follows .mixedOrders = true) (hnd : noDefer l = true) (hQ : ¬ LetsOut Q) (hB : rgOkO l.toArray sp.length ds (supOf l) = true) (hm : sp.length ≤ l.length) (hA : ∀ us, over a0 ds us = A us) (h0 : St w0.drew) (hrefl : ∀ w, Keep w w)
    (hall : rsAll P l A sp St (l.take sp.length) sp)
    (hend : ∀ us w, St w → (∀ j, j < sp.length → depHolds l sp us w j) → wpList P l.toArray Q (l.drop sp.length) (A us) w) : (Code.region id l.toArray true).wpIn F n P Q a0 w0 :=
  wpIn_region_any hmix (wpAnyIn_open hF (noDefer_ok hnd) hQ _ _ _ _ (wpAny_rt ds A sp St hB hm hA h0 hrefl hall hend))

end Go.Proofs.YtlcglclojlffgaaGreat
