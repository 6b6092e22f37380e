import Derived.Test.YtlcglclojlffgaaGreatDoorVLblP
import Derived.Test.YtlcglclojlffgaaGreatDoorVLbT
namespace Go.Proofs.YtlcglclojlffgaaGreatDoor
open Go.RowKit

/-- the bounds of an item that lies on a label -/
structure ItB (x : It) : Prop where
  kind : x.kind = 1 ∨ x.kind = 2 ∨ x.kind = 3
  row : 0 ≤ x.row ∧ x.row ≤ 400
  col : 0 ≤ x.col ∧ x.col ≤ 400
  sc : 0 ≤ x.scale ∧ x.scale ≤ 8
  tall : 0 ≤ x.tall ∧ x.tall ≤ 400
  wide : 0 ≤ x.wide ∧ x.wide ≤ 400
  lev : 0 ≤ x.level ∧ x.level ≤ 4
  nm : x.name.size ≤ 8
  tx : x.text.size ≤ 400
theorem libF_sz : ∀ f ∈ libF, f.name.size ≤ 8 ∧ f.levels.length ≤ 4 := by decide
theorem smS_bd {f : Fam} {lev : Int} {S : List UInt8} {n : Int} (h : smS f lev S = some n) : (0 ≤ lev ∧ lev < f.levels.length) ∧ S.length ≤ 400 := by
  unfold smS at h
  split at h
  · next hl =>
    refine ⟨hl, ?_⟩
    split at h
    · next need hp =>
      unfold payS at hp
      split at hp
      · next hh => exact hh.1
      · cases hp
    · cases h
  · cases h
theorem it_bd {l : Lb} {x : It} (h : onL l x = true) (hr : l.rows ≤ 400) (hc : l.cols ≤ 400) : ItB x := by
  cases hb : boxI x with
  | none => rw [onL_none hb] at h; cases h
  | some rc =>
    obtain ⟨r, c⟩ := rc
    have hbd := boxI_bd hb
    rw [onL_cnt hb] at h
    simp only [cntB, inB, Bool.and_eq_true, decide_eq_true_eq] at h
    have hrow : 0 ≤ x.row ∧ x.row ≤ 400 := by omega
    have hcol : 0 ≤ x.col ∧ x.col ≤ 400 := by omega
    clear h
    by_cases h1 : x.kind = 1
    · rw [boxI_text h1] at hb
      split at hb
      · next hh =>
        obtain ⟨hp, hs, l1, l2, -⟩ := hh
        rw [plainI_iff] at hp
        rw [scaledI_iff] at hs
        exact ⟨.inl h1, hrow, hcol, by omega, by omega, by omega, by omega, by rw [hp.1]; decide, by omega⟩
      · cases hb
    by_cases h2 : x.kind = 2
    · rw [boxI_line h2] at hb
      split at hb
      · next hh =>
        obtain ⟨hp, hs, ht, h3, h4⟩ := hh
        rw [plainI_iff] at hp
        exact ⟨.inr (.inl h2), hrow, hcol, by omega, by omega, by omega, by omega, by rw [hp.1]; decide, by rw [ht]; decide⟩
      · cases hb
    by_cases h3 : x.kind = 3
    · rw [boxI_sym h3] at hb
      split at hb
      · next hh =>
        have hs := scaledI_iff.1 hh.1
        split at hb
        · next f hf =>
          rw [Option.map_eq_some_iff] at hb
          obtain ⟨n, hn, -⟩ := hb
          have hm := smS_bd hn
          have hl := libF_sz f (List.mem_of_find?_eq_some hf)
          have hq : f.name = x.name := by have := List.find?_some hf; simpa using this
          have htx : x.text.size = x.text.data.toList.length := rfl
          exact ⟨.inr (.inr h3), hrow, hcol, by omega, by omega, by omega, by omega, by rw [← hq]; exact hl.1, by omega⟩
        · cases hb
      · cases hb
    · rw [boxI_bad h1 h2 h3] at hb; cases hb
theorem lineI_len {x : It} (h : ItB x) : (lineI x).length ≤ 700 := by
  have i64 : ∀ n : Int, 0 ≤ n ∧ n ≤ 400 → (Lib.itoa n).length ≤ 21 := fun n hn => by have := Lib.itoa_length_le n (by omega) (by omega); omega
  have w3 : (wordsX [x.row, x.col, x.scale]).length ≤ 66 := wordsX_len [x.row, x.col, x.scale] (by
    intro y hy; simp only [List.mem_cons, List.not_mem_nil, or_false] at hy
    rcases hy with rfl | rfl | rfl
    · exact i64 _ h.row
    · exact i64 _ h.col
    · exact i64 _ (by have := h.sc; omega))
  have w4 : (wordsX [x.row, x.col, x.tall, x.wide]).length ≤ 88 := wordsX_len [x.row, x.col, x.tall, x.wide] (by
    intro y hy; simp only [List.mem_cons, List.not_mem_nil, or_false] at hy
    rcases hy with rfl | rfl | rfl | rfl
    · exact i64 _ h.row
    · exact i64 _ h.col
    · exact i64 _ h.tall
    · exact i64 _ h.wide)
  have w1 : (wordsX [x.level]).length ≤ 22 := wordsX_len [x.level] (by
    intro y hy; simp only [List.mem_cons, List.not_mem_nil, or_false] at hy
    rcases hy with rfl
    exact i64 _ (by have := h.lev; omega))
  have htx : x.text.data.toList.length ≤ 400 := h.tx
  have hnm : x.name.data.toList.length ≤ 8 := h.nm
  unfold lineI
  split
  · simp only [List.length_append, List.length_cons, List.length_nil]; omega
  · split
    · simp only [List.length_append, List.length_cons, List.length_nil]; omega
    · simp only [List.length_append, List.length_cons, List.length_nil]; omega
/-- the text up to an item -/
def textP (l : Lb) (k : Nat) : List UInt8 := [108, 97, 98, 101, 108] ++ wordsX [l.rows, l.cols] ++ 10 :: (l.items.take k).flatMap fun x => lineI x ++ [10]
theorem textP_full (l : Lb) : textP l l.items.length = textL l := by rw [textP, List.take_length]; rfl
theorem textP_step {l : Lb} {k : Nat} {x : It} (h : l.items[k]? = some x) : textP l (k + 1) = textP l k ++ (lineI x ++ [10]) := by
  simp only [textP, take_snoc' h, List.flatMap_append, List.flatMap_cons, List.flatMap_nil, List.append_nil, List.append_assoc, List.cons_append]
theorem textP_len {l : Lb} (h : ∀ x ∈ l.items, ItB x) (hr : 0 ≤ l.rows ∧ l.rows ≤ 400) (hc : 0 ≤ l.cols ∧ l.cols ≤ 400) (k : Nat) : (textP l k).length ≤ 60 + 701 * k := by
  induction k with
  | zero =>
    have i64 : ∀ n : Int, 0 ≤ n ∧ n ≤ 400 → (Lib.itoa n).length ≤ 21 := fun n hn => by have := Lib.itoa_length_le n (by omega) (by omega); omega
    have w2 : (wordsX [l.rows, l.cols]).length ≤ 44 := wordsX_len [l.rows, l.cols] (by
      intro y hy; simp only [List.mem_cons, List.not_mem_nil, or_false] at hy
      rcases hy with rfl | rfl
      · exact i64 _ hr
      · exact i64 _ hc)
    simp only [textP, List.take_zero, List.flatMap_nil, List.length_append, List.length_cons, List.length_nil]
    omega
  | succ k ih =>
    by_cases hk : k < l.items.length
    · obtain ⟨x, hx⟩ : ∃ x, l.items[k]? = some x := by rw [List.getElem?_eq_getElem hk]; exact ⟨_, rfl⟩
      have := lineI_len (h x (List.mem_of_getElem? hx))
      rw [textP_step hx]
      simp only [List.length_append, List.length_cons, List.length_nil]
      omega
    · have e : textP l (k + 1) = textP l k := by
        unfold textP
        rw [List.take_of_length_le (by omega), List.take_of_length_le (by omega)]
      rw [e]; omega
theorem lb_bd {l : Lb} (h : l.ok = true) : (∀ x ∈ l.items, ItB x) ∧ ((1 ≤ l.rows ∧ l.rows ≤ 400) ∧ (1 ≤ l.cols ∧ l.cols ≤ 400)) ∧ l.items.length ≤ 12 := by
  rw [lbok_parts, Bool.and_eq_true, Bool.and_eq_true, decide_eq_true_eq] at h
  obtain ⟨⟨h1, h2⟩, h3⟩ := h
  rw [sizeB, Bool.and_eq_true, Bool.and_eq_true] at h1
  have e1 := inB_iff.1 h1.1.1
  have e2 := inB_iff.1 h1.1.2
  exact ⟨fun x hx => it_bd (List.all_eq_true.1 h3 x hx) e1.2 e2.2, ⟨e1, e2⟩, h2⟩

end Go.Proofs.YtlcglclojlffgaaGreatDoor
