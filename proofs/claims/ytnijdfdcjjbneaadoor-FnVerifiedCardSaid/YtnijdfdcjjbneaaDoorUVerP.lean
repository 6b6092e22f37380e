import Derived.Test.YtnijdfdcjjbneaaDoorUIdx
import Derived.Test.YtnijdfdcjjbneaaDoorUSer2
namespace Go.Proofs.YtnijdfdcjjbneaaDoor
open Go.RowKit

/-- how often a text occurs -/
def occ (ms : List ByteArray) (s : ByteArray) : Int := ((ms.countP fun m => decide (m = s) : Nat) : Int)
theorem occ_nil (s : ByteArray) : occ [] s = 0 := rfl
theorem occ_snoc (ms : List ByteArray) (m s : ByteArray) : occ (ms ++ [m]) s = occ ms s + if m = s then 1 else 0 := by
  unfold occ
  rw [List.countP_append]
  by_cases h : m = s <;> simp [h]
theorem occ_bd (ms : List ByteArray) (s : ByteArray) : 0 ≤ occ ms s ∧ occ ms s ≤ ms.length := by
  unfold occ
  have := List.countP_le_length (p := fun m => decide (m = s)) (l := ms)
  omega

/-- the places below k at which f is 0; at which it is more than 1; the sum of its values -/
def zerosL (f : Nat → Int) : Nat → List Int
  | 0 => []
  | k + 1 => if f k = 0 then zerosL f k ++ [(k : Int)] else zerosL f k
def manyL (f : Nat → Int) : Nat → List Int
  | 0 => []
  | k + 1 => if 1 < f k then manyL f k ++ [(k : Int)] else manyL f k
def sumI (f : Nat → Int) : Nat → Int
  | 0 => 0
  | k + 1 => sumI f k + f k
theorem zerosL_yes {f : Nat → Int} {k : Nat} (h : f k = 0) : zerosL f (k + 1) = zerosL f k ++ [(k : Int)] := if_pos h
theorem zerosL_no {f : Nat → Int} {k : Nat} (h : ¬ f k = 0) : zerosL f (k + 1) = zerosL f k := if_neg h
theorem manyL_yes {f : Nat → Int} {k : Nat} (h : 1 < f k) : manyL f (k + 1) = manyL f k ++ [(k : Int)] := if_pos h
theorem manyL_no {f : Nat → Int} {k : Nat} (h : ¬ 1 < f k) : manyL f (k + 1) = manyL f k := if_neg h
theorem sumI_succ (f : Nat → Int) (k : Nat) : sumI f (k + 1) = sumI f k + f k := rfl
theorem zerosL_len (f : Nat → Int) : ∀ k, (zerosL f k).length ≤ k
  | 0 => Nat.le_refl _
  | k + 1 => by
    have := zerosL_len f k
    unfold zerosL
    split <;> simp <;> omega
theorem manyL_len (f : Nat → Int) : ∀ k, (manyL f k).length ≤ k
  | 0 => Nat.le_refl _
  | k + 1 => by
    have := manyL_len f k
    unfold manyL
    split <;> simp <;> omega
theorem sumI_bd {f : Nat → Int} {B : Int} (h0 : ∀ i, 0 ≤ f i) (h1 : ∀ i, f i ≤ B) : ∀ k, 0 ≤ sumI f k ∧ sumI f k ≤ k * B
  | 0 => by simp [sumI]
  | k + 1 => by
    have := sumI_bd h0 h1 k
    have a := h0 k
    have b := h1 k
    unfold sumI
    rw [Int.natCast_succ, Int.add_mul, Int.one_mul]
    omega
theorem sumI_add (f g : Nat → Int) : ∀ k, sumI (fun i => f i + g i) k = sumI f k + sumI g k
  | 0 => rfl
  | k + 1 => by unfold sumI; rw [sumI_add f g k]; omega
theorem sumI_congr {f g : Nat → Int} : ∀ k, (∀ i, i < k → f i = g i) → sumI f k = sumI g k
  | 0, _ => rfl
  | k + 1, h => by unfold sumI; rw [sumI_congr k (fun i hi => h i (by omega)), h k (by omega)]
theorem sumI_zero (k : Nat) : sumI (fun _ => 0) k = 0 := by
  induction k with
  | zero => rfl
  | succ k ih => unfold sumI; rw [ih]; rfl
theorem sumI_one {j : Nat} : ∀ k, sumI (fun i => if j = i then 1 else 0) k = if j < k then 1 else 0
  | 0 => by simp [sumI]
  | k + 1 => by
    unfold sumI
    rw [sumI_one k]
    by_cases h : j = k
    · subst h; simp
    · rw [if_neg h]
      by_cases h2 : j < k
      · rw [if_pos h2, if_pos (by omega)]; rfl
      · rw [if_neg h2, if_neg (by omega)]; rfl
theorem zerosL_congr {f g : Nat → Int} : ∀ k, (∀ i, i < k → f i = g i) → zerosL f k = zerosL g k
  | 0, _ => rfl
  | k + 1, h => by unfold zerosL; rw [zerosL_congr k (fun i hi => h i (by omega)), h k (by omega)]
theorem manyL_congr {f g : Nat → Int} : ∀ k, (∀ i, i < k → f i = g i) → manyL f k = manyL g k
  | 0, _ => rfl
  | k + 1, h => by unfold manyL; rw [manyL_congr k (fun i hi => h i (by omega)), h k (by omega)]
theorem mem_zerosL {f : Nat → Int} {z : Int} : ∀ {k : Nat}, z ∈ zerosL f k ↔ ∃ i : Nat, i < k ∧ z = i ∧ f i = 0
  | 0 => by simp [zerosL]
  | k + 1 => by
    unfold zerosL
    have ih := mem_zerosL (f := f) (z := z) (k := k)
    split
    · rename_i h
      rw [List.mem_append, ih]
      constructor
      · rintro (⟨i, hi, rfl, h2⟩ | h2)
        · exact ⟨i, by omega, rfl, h2⟩
        · exact ⟨k, by omega, by simpa using h2, h⟩
      · rintro ⟨i, hi, rfl, h2⟩
        by_cases e : i = k
        · subst e; exact Or.inr (by simp)
        · exact Or.inl ⟨i, by omega, rfl, h2⟩
    · rename_i h
      rw [ih]
      constructor
      · rintro ⟨i, hi, rfl, h2⟩
        exact ⟨i, by omega, rfl, h2⟩
      · rintro ⟨i, hi, rfl, h2⟩
        have e : i ≠ k := fun e => h (e ▸ h2)
        exact ⟨i, by omega, rfl, h2⟩
theorem mem_manyL {f : Nat → Int} {z : Int} : ∀ {k : Nat}, z ∈ manyL f k ↔ ∃ i : Nat, i < k ∧ z = i ∧ 1 < f i
  | 0 => by simp [manyL]
  | k + 1 => by
    unfold manyL
    have ih := mem_manyL (f := f) (z := z) (k := k)
    split
    · rename_i h
      rw [List.mem_append, ih]
      constructor
      · rintro (⟨i, hi, rfl, h2⟩ | h2)
        · exact ⟨i, by omega, rfl, h2⟩
        · exact ⟨k, by omega, by simpa using h2, h⟩
      · rintro ⟨i, hi, rfl, h2⟩
        by_cases e : i = k
        · subst e; exact Or.inr (by simp)
        · exact Or.inl ⟨i, by omega, rfl, h2⟩
    · rename_i h
      rw [ih]
      constructor
      · rintro ⟨i, hi, rfl, h2⟩
        exact ⟨i, by omega, rfl, h2⟩
      · rintro ⟨i, hi, rfl, h2⟩
        have e : i ≠ k := fun e => h (e ▸ h2)
        exact ⟨i, by omega, rfl, h2⟩

/-- the batch's serial at a place -/
theorem ixR_mem {p : ByteArray} {x1 x2 x3 x4 : Int} {s : ByteArray} {k : Nat} (h : ixR p x1 x2 x3 x4 s = some k) : k < x3.toNat ∧ serB p x1 x2 x4 k = s := by
  unfold ixR firstI at h
  rw [List.find?_range_eq_some] at h
  obtain ⟨h1, h2, _⟩ := h
  exact ⟨by simpa using h2, by simpa using h1⟩
theorem ixR_iff {p : ByteArray} {x1 x2 x3 x4 : Int} (hb : isBatchB p x1 x2 x3 x4 = true) {k : Nat} (hk : k < x3.toNat) (m : ByteArray) : ixR p x1 x2 x3 x4 m = some k ↔ m = serB p x1 x2 x4 k := by
  constructor
  · intro h; exact (ixR_mem h).2.symm
  · rintro rfl
    cases h : ixR p x1 x2 x3 x4 (serB p x1 x2 x4 k) with
    | none =>
      unfold ixR firstI at h
      rw [List.find?_eq_none] at h
      have := h k (by simpa using hk)
      simp at this
    | some j =>
      obtain ⟨h1, h2⟩ := ixR_mem h
      have := ser_inj hb (i := (j : Int)) (j := (k : Int)) (by omega) (by omega) (by omega) (by omega) h2
      exact congrArg some (by omega)

/-- how many are none of the batch's -/
def frn (p : ByteArray) (x1 x2 x3 x4 : Int) (ms : List ByteArray) : Int := ((ms.countP fun m => (ixR p x1 x2 x3 x4 m).isNone : Nat) : Int)
theorem frn_snoc (p : ByteArray) (x1 x2 x3 x4 : Int) (ms : List ByteArray) (m : ByteArray) : frn p x1 x2 x3 x4 (ms ++ [m]) = frn p x1 x2 x3 x4 ms + if ixR p x1 x2 x3 x4 m = none then 1 else 0 := by
  unfold frn
  rw [List.countP_append]
  cases h : ixR p x1 x2 x3 x4 m <;> simp [h]
theorem frn_bd (p : ByteArray) (x1 x2 x3 x4 : Int) (ms : List ByteArray) : 0 ≤ frn p x1 x2 x3 x4 ms ∧ frn p x1 x2 x3 x4 ms ≤ ms.length := by
  unfold frn
  have := List.countP_le_length (p := fun m => (ixR p x1 x2 x3 x4 m).isNone) (l := ms)
  omega

/-- the serials that are there and the strange texts are all -/
theorem sum_occ {p : ByteArray} {x1 x2 x3 x4 : Int} (hb : isBatchB p x1 x2 x3 x4 = true) (ms : List ByteArray) :
    sumI (fun i => occ ms (serB p x1 x2 x4 i)) x3.toNat + frn p x1 x2 x3 x4 ms = ms.length := by
  suffices H : ∀ r : List ByteArray, ∀ q : List ByteArray, sumI (fun i => occ q (serB p x1 x2 x4 i)) x3.toNat + frn p x1 x2 x3 x4 q = q.length →
      sumI (fun i => occ (q ++ r) (serB p x1 x2 x4 i)) x3.toNat + frn p x1 x2 x3 x4 (q ++ r) = (q ++ r).length by
    have := H ms [] (by
      have e : sumI (fun i => occ [] (serB p x1 x2 x4 i)) x3.toNat = 0 := sumI_zero _
      rw [e]; rfl)
    simpa using this
  intro r
  induction r with
  | nil => intro q hq; simpa using hq
  | cons m r ih =>
    intro q hq
    have := ih (q ++ [m]) (by
      have e : sumI (fun i => occ (q ++ [m]) (serB p x1 x2 x4 i)) x3.toNat = sumI (fun i => occ q (serB p x1 x2 x4 i)) x3.toNat + sumI (fun i => if m = serB p x1 x2 x4 i then 1 else 0) x3.toNat := by
        rw [← sumI_add]
        exact sumI_congr _ (fun i _ => occ_snoc _ _ _)
      rw [e, frn_snoc, List.length_append, List.length_singleton]
      have e2 : sumI (fun i => if m = serB p x1 x2 x4 i then 1 else 0) x3.toNat + (if ixR p x1 x2 x3 x4 m = none then 1 else 0) = 1 := by
        cases h : ixR p x1 x2 x3 x4 m with
        | none =>
          have : sumI (fun i => if m = serB p x1 x2 x4 i then 1 else 0) x3.toNat = 0 := by
            rw [sumI_congr (g := fun _ => 0) _ (fun i hi => ?_), sumI_zero]
            rw [if_neg]
            intro e
            rw [(ixR_iff hb hi m).2 e] at h
            cases h
          rw [this]; rfl
        | some k =>
          obtain ⟨h1, _⟩ := ixR_mem h
          rw [sumI_congr (g := fun i => if k = i then 1 else 0) _ (fun i hi => ?_), sumI_one, if_pos h1, if_neg (by simp)]
          · rfl
          · by_cases e : k = i
            · subst e
              rw [if_pos rfl, if_pos ((ixR_iff hb hi m).1 h)]
            · rw [if_neg e, if_neg]
              intro e2
              rw [(ixR_iff hb hi m).2 e2] at h
              exact e (Option.some.inj h).symm
      omega)
    simpa using this

/-- the counts of the reference, behind some texts -/
def cntL (p : ByteArray) (x1 x2 x3 x4 : Int) (ms : List ByteArray) : List Int := (List.range x3.toNat).map fun (i : Nat) => occ ms (serB p x1 x2 x4 i)
theorem cntL_len (p : ByteArray) (x1 x2 x3 x4 : Int) (ms : List ByteArray) : (cntL p x1 x2 x3 x4 ms).length = x3.toNat := by simp [cntL]
theorem cntL_at {p : ByteArray} {x1 x2 x3 x4 : Int} {ms : List ByteArray} {k : Nat} (hk : k < x3.toNat) : (cntL p x1 x2 x3 x4 ms)[k]? = some (occ ms (serB p x1 x2 x4 k)) := by
  simp [cntL, hk]
theorem cntL_nil (p : ByteArray) (x1 x2 x3 x4 : Int) : cntL p x1 x2 x3 x4 [] = List.replicate x3.toNat 0 := by
  apply List.ext_getElem?
  intro i
  by_cases hi : i < x3.toNat
  · rw [cntL_at hi]; simp [occ_nil, hi]
  · rw [List.getElem?_eq_none (by rw [cntL_len]; omega), List.getElem?_eq_none (by simp; omega)]
theorem cntL_some {p : ByteArray} {x1 x2 x3 x4 : Int} (hb : isBatchB p x1 x2 x3 x4 = true) {ms : List ByteArray} {m : ByteArray} {k : Nat} (h : ixR p x1 x2 x3 x4 m = some k) :
    cntL p x1 x2 x3 x4 (ms ++ [m]) = (cntL p x1 x2 x3 x4 ms).set k (occ ms (serB p x1 x2 x4 k) + 1) := by
  obtain ⟨h1, h2⟩ := ixR_mem h
  apply List.ext_getElem?
  intro i
  rw [List.getElem?_set]
  by_cases hi : i < x3.toNat
  · rw [cntL_at hi, occ_snoc]
    by_cases e : k = i
    · subst e
      rw [if_pos rfl, if_pos h2.symm, if_pos (by rw [cntL_len]; exact hi)]
    · rw [if_neg e, cntL_at hi, if_neg]
      · simp
      · intro e2
        rw [(ixR_iff hb hi m).2 e2] at h
        exact e (Option.some.inj h).symm
  · rw [List.getElem?_eq_none (by rw [cntL_len]; omega), if_neg (by omega), List.getElem?_eq_none (by rw [cntL_len]; omega)]
theorem cntL_none {p : ByteArray} {x1 x2 x3 x4 : Int} (hb : isBatchB p x1 x2 x3 x4 = true) {ms : List ByteArray} {m : ByteArray} (h : ixR p x1 x2 x3 x4 m = none) :
    cntL p x1 x2 x3 x4 (ms ++ [m]) = cntL p x1 x2 x3 x4 ms := by
  apply List.ext_getElem?
  intro i
  by_cases hi : i < x3.toNat
  · rw [cntL_at hi, cntL_at hi, occ_snoc, if_neg]
    · simp
    · intro e2
      rw [(ixR_iff hb hi m).2 e2] at h
      cases h
  · rw [List.getElem?_eq_none (by rw [cntL_len]; omega), List.getElem?_eq_none (by rw [cntL_len]; omega)]

/-- VerifyBatch: what it answers -/
def vbC (p : ByteArray) (x1 x2 x3 x4 : Int) (ms : List ByteArray) : Int := if isBatchB p x1 x2 x3 x4 then if (400 : Int) < ms.length then 3 else 0 else 1
def vbM (p : ByteArray) (x1 x2 x3 x4 : Int) (ms : List ByteArray) : List Int := if vbC p x1 x2 x3 x4 ms = 0 then zerosL (fun i => occ ms (serB p x1 x2 x4 i)) x3.toNat else []
def vbT (p : ByteArray) (x1 x2 x3 x4 : Int) (ms : List ByteArray) : List Int := if vbC p x1 x2 x3 x4 ms = 0 then manyL (fun i => occ ms (serB p x1 x2 x4 i)) x3.toNat else []
def vbF (p : ByteArray) (x1 x2 x3 x4 : Int) (ms : List ByteArray) : Int := if vbC p x1 x2 x3 x4 ms = 0 then frn p x1 x2 x3 x4 ms else 0

end Go.Proofs.YtnijdfdcjjbneaaDoor
