import Derived.Test.YtlcglclojlffgaaGreatDoorVSpV
import Derived.Test.YtlcglclojlffgaaGreatDoorM4
import Derived.Test.YtlcglclojlffgaaGreatDoorM0
namespace Go.Proofs.YtlcglclojlffgaaGreatDoor
open Go.RowKit

/-- the words of the kinds, in their order -/
def wordL : Nat → List UInt8
  | 0 => dBlot
  | 1 => dScratch
  | 2 => dSkew
  | 3 => dNoise
  | _ => dFade
def wordB (i : Nat) : ByteArray := ⟨(wordL i).toArray⟩
theorem word_kind {l : List UInt8} {i : Nat} (hi : i < 5) : wordL i = l ↔ kindOf l = i + 1 := by
  have hw := kind_word l
  have hk := kind_words
  constructor
  · rintro rfl
    match i, hi with
    | 0, _ => exact hk.1
    | 1, _ => exact hk.2.1
    | 2, _ => exact hk.2.2.1
    | 3, _ => exact hk.2.2.2.1
    | 4, _ => exact hk.2.2.2.2
  · intro h
    match i, hi with
    | 0, _ => exact (hw.1 h).symm
    | 1, _ => exact (hw.2.1 h).symm
    | 2, _ => exact (hw.2.2.1 h).symm
    | 3, _ => exact (hw.2.2.2.1 h).symm
    | 4, _ => exact (hw.2.2.2.2 h).symm

/-- the kind that the first k words tell -/
def kindTo (l : List UInt8) (k : Nat) : Nat := if kindOf l ≤ k then kindOf l else 0
theorem kindTo_zero (l : List UInt8) : kindTo l 0 = 0 := by unfold kindTo; split <;> omega
theorem kindOf_le (l : List UInt8) : kindOf l ≤ 5 := by
  unfold kindOf
  repeat' split
  all_goals omega
theorem kindTo_yes {l : List UInt8} {k : Nat} (h : kindOf l = k + 1) : kindTo l (k + 1) = k + 1 := by unfold kindTo; rw [if_pos (by omega), h]
theorem kindTo_no {l : List UInt8} {k : Nat} (h : kindOf l ≠ k + 1) : kindTo l (k + 1) = kindTo l k := by
  unfold kindTo
  by_cases h2 : kindOf l ≤ k
  · rw [if_pos h2, if_pos (by omega)]
  · rw [if_neg h2, if_neg (by omega)]
theorem kindTo_five (l : List UInt8) : kindTo l 5 = kindOf l := by unfold kindTo; rw [if_pos (kindOf_le l)]

/-- what the reading of one damage answers -/
def RetOne (w : World) (o : Option Dm) (e : Ending) (w' : World) : Prop :=
  ∃ d : Dm, e = .returned (.tuple #[.agg #[.int .i64 d.k, .int .i64 d.r, .int .i64 d.c, .int .i64 d.t, .int .i64 d.w, .int .i64 d.g], .bool o.isSome]) ∧ (∀ d', o = some d' → d = d') ∧ Below w.heap.size w w'

/-- while the numbers of the fields are read -/
structure NumI (F : List Bool) (t : List (List UInt8)) (k a : Nat) (nums : List Int) : Prop where
  len : nums.length = k
  kl : k ≤ 5
  rel : spNums F t = (spNums (F.drop k) (t.drop a)).map (nums ++ ·)
theorem numI_start (F : List Bool) (t : List (List UInt8)) : NumI F t 0 0 [] := ⟨rfl, by omega, by simp⟩
theorem numI_skip {F : List Bool} {t : List (List UInt8)} {k a : Nat} {nums : List Int} (h : NumI F t k a nums) (hf : F[k]? = some false) (hk : k < 5) : NumI F t (k + 1) a (nums ++ [0]) := by
  refine ⟨by simp [h.len], by omega, ?_⟩
  rw [h.rel, List.drop_eq_getElem_cons (List.getElem?_eq_some_iff.1 hf).1, (List.getElem?_eq_some_iff.1 hf).2, spNums]
  cases spNums (F.drop (k + 1)) (t.drop a) <;> simp
theorem numI_some {F : List Bool} {t : List (List UInt8)} {k a : Nat} {nums : List Int} {x : List UInt8} {n : Int} (h : NumI F t k a nums) (hf : F[k]? = some true) (hk : k < 5) (hx : t[a]? = some x) (hn : sgnS x = some n) : NumI F t (k + 1) (a + 1) (nums ++ [n]) := by
  refine ⟨by simp [h.len], by omega, ?_⟩
  rw [h.rel, List.drop_eq_getElem_cons (List.getElem?_eq_some_iff.1 hf).1, (List.getElem?_eq_some_iff.1 hf).2, List.drop_eq_getElem_cons (List.getElem?_eq_some_iff.1 hx).1, (List.getElem?_eq_some_iff.1 hx).2, spNums, hn]
  simp only []
  cases spNums (F.drop (k + 1)) (t.drop (a + 1)) <;> simp
theorem numI_none {F : List Bool} {t : List (List UInt8)} {k a : Nat} {nums : List Int} {x : List UInt8} (h : NumI F t k a nums) (hf : F[k]? = some true) (hx : t[a]? = some x) (hn : sgnS x = none) : spNums F t = none := by
  rw [h.rel, List.drop_eq_getElem_cons (List.getElem?_eq_some_iff.1 hf).1, (List.getElem?_eq_some_iff.1 hf).2, List.drop_eq_getElem_cons (List.getElem?_eq_some_iff.1 hx).1, (List.getElem?_eq_some_iff.1 hx).2, spNums, hn]
  rfl
theorem numI_short {F : List Bool} {t : List (List UInt8)} {k a : Nat} {nums : List Int} (h : NumI F t k a nums) (hf : F[k]? = some true) (hx : t.length ≤ a) : spNums F t = none := by
  rw [h.rel, List.drop_eq_getElem_cons (List.getElem?_eq_some_iff.1 hf).1, (List.getElem?_eq_some_iff.1 hf).2, List.drop_of_length_le hx, spNums]
  rfl
theorem spFl_len (k : Nat) : (spFl k).length = 5 := by
  unfold spFl
  repeat' split
  all_goals rfl
theorem numI_end {K : Nat} {t : List (List UInt8)} {a : Nat} {nums : List Int} (h : NumI (spFl K) t 5 a nums) : spNums (spFl K) t = some nums := by
  rw [h.rel, List.drop_of_length_le (by rw [spFl_len]; exact Nat.le_refl _), spNums]; simp
theorem spFl_at {K i : Nat} (hK : 1 ≤ K) (hK2 : K ≤ 5) (hi : i < 5) : (spFl K)[i]? = some (flB (K : Int) i) := by
  have h1 : K = 1 ∨ K = 2 ∨ K = 3 ∨ K = 4 ∨ K = 5 := by omega
  have h2 : i = 0 ∨ i = 1 ∨ i = 2 ∨ i = 3 ∨ i = 4 := by omega
  rcases h1 with rfl | rfl | rfl | rfl | rfl <;> rcases h2 with rfl | rfl | rfl | rfl | rfl <;> rfl
theorem spOne_zero {h : List UInt8} {t : List (List UInt8)} (hk : kindOf h = 0) : spOne (h :: t) = none := by simp [spOne, hk]
theorem spOne_none {h : List UInt8} {t : List (List UInt8)} (hn : spNums (spFl (kindOf h)) t = none) : spOne (h :: t) = none := by
  unfold spOne; simp only [hn]; split <;> rfl
theorem spOne_some {h : List UInt8} {t : List (List UInt8)} {r c t' w g : Int} (hk : kindOf h ≠ 0) (hn : spNums (spFl (kindOf h)) t = some [r, c, t', w, g]) : spOne (h :: t) = some ⟨kindOf h, r, c, t', w, g⟩ := by
  unfold spOne; simp only [hn]; rw [if_neg hk]
theorem five_list {l : List Int} (h : l.length = 5) : ∃ r c t w g, l = [r, c, t, w, g] := by
  match l, h with
  | [r, c, t, w, g], _ => exact ⟨r, c, t, w, g, rfl⟩

/-- the words lie in order -/
theorem bytesL_cons {ss : List ByteArray} {l : List (List UInt8)} {h : List UInt8} {t : List (List UInt8)} (e : bytesL ss = l) (e2 : l = h :: t) : ∃ b bs, ss = b :: bs ∧ b.data.toList = h ∧ bytesL bs = t := by
  subst e2
  cases ss with
  | nil => simp [bytesL] at e
  | cons b bs =>
    rw [bytesL, List.map_cons, List.cons.injEq] at e
    exact ⟨b, bs, rfl, e.1, e.2⟩

end Go.Proofs.YtlcglclojlffgaaGreatDoor
