import Derived.Test.YtlcglclojlffgaaGreatDoorL7
import Derived.Test.YtlcglclojlffgaaGreatDoorL4
import Derived.Test.YtlcglclojlffgaaGreatDoorL5
import Derived.Maps.OwnOps
import Derived.Maps.Views
import Derived.StringKeys
import Derived.BigQuiet
import Derived.Test.YtlcglclojlffgaaGreatDoorL1
import Derived.BigRegion
import Derived.Test.YtlcglclojlffgaaGreatDoorL3
import Derived.Test.YtlcglclojlffgaaGreatDoorL0
namespace Go.Proofs.YtlcglclojlffgaaGreatDoor
open Go.RowKit

/-- the bounds of an item that lies on a label -/
structure ItB (x : It) : Prop where
  kind : x.kind = 1 ∨ x.kind = 2 ∨ x.kind = 3
  row : 0 ≤ x.row ∧ x.row ≤ 400
  col : 0 ≤ x.col ∧ x.col ≤ 400
  sc : 0 ≤ x.scale ∧ x.scale ≤ 8
  tall : 0 ≤ x.tall ∧ x.tall ≤ 400
  wide : 0 ≤ x.wide ∧ x.wide ≤ 400
  lev : 0 ≤ x.level ∧ x.level ≤ 4
  nm : x.name.size ≤ 8
  tx : x.text.size ≤ 400
theorem libF_sz : ∀ f ∈ libF, f.name.size ≤ 8 ∧ f.levels.length ≤ 4 := by decide
theorem smS_bd {f : Fam} {lev : Int} {S : List UInt8} {n : Int} (h : smS f lev S = some n) : (0 ≤ lev ∧ lev < f.levels.length) ∧ S.length ≤ 400 := by
  unfold smS at h
  split at h
  · next hl =>
    refine ⟨hl, ?_⟩
    split at h
    · next need hp =>
      unfold payS at hp
      split at hp
      · next hh => exact hh.1
      · cases hp
    · cases h
  · cases h
theorem it_bd {l : Lb} {x : It} (h : onL l x = true) (hr : l.rows ≤ 400) (hc : l.cols ≤ 400) : ItB x := by
  cases hb : boxI x with
  | none => rw [onL_none hb] at h; cases h
  | some rc =>
    obtain ⟨r, c⟩ := rc
    have hbd := boxI_bd hb
    rw [onL_cnt hb] at h
    simp only [cntB, inB, Bool.and_eq_true, decide_eq_true_eq] at h
    have hrow : 0 ≤ x.row ∧ x.row ≤ 400 := by omega
    have hcol : 0 ≤ x.col ∧ x.col ≤ 400 := by omega
    clear h
    by_cases h1 : x.kind = 1
    · rw [boxI_text h1] at hb
      split at hb
      · next hh =>
        obtain ⟨hp, hs, l1, l2, -⟩ := hh
        rw [plainI_iff] at hp
        rw [scaledI_iff] at hs
        exact ⟨.inl h1, hrow, hcol, by omega, by omega, by omega, by omega, by rw [hp.1]; decide, by omega⟩
      · cases hb
    by_cases h2 : x.kind = 2
    · rw [boxI_line h2] at hb
      split at hb
      · next hh =>
        obtain ⟨hp, hs, ht, h3, h4⟩ := hh
        rw [plainI_iff] at hp
        exact ⟨.inr (.inl h2), hrow, hcol, by omega, by omega, by omega, by omega, by rw [hp.1]; decide, by rw [ht]; decide⟩
      · cases hb
    by_cases h3 : x.kind = 3
    · rw [boxI_sym h3] at hb
      split at hb
      · next hh =>
        have hs := scaledI_iff.1 hh.1
        split at hb
        · next f hf =>
          rw [Option.map_eq_some_iff] at hb
          obtain ⟨n, hn, -⟩ := hb
          have hm := smS_bd hn
          have hl := libF_sz f (List.mem_of_find?_eq_some hf)
          have hq : f.name = x.name := by have := List.find?_some hf; simpa using this
          have htx : x.text.size = x.text.data.toList.length := rfl
          exact ⟨.inr (.inr h3), hrow, hcol, by omega, by omega, by omega, by omega, by rw [← hq]; exact hl.1, by omega⟩
        · cases hb
      · cases hb
    · rw [boxI_bad h1 h2 h3] at hb; cases hb
theorem lineI_len {x : It} (h : ItB x) : (lineI x).length ≤ 700 := by
  have i64 : ∀ n : Int, 0 ≤ n ∧ n ≤ 400 → (Lib.itoa n).length ≤ 21 := fun n hn => by have := Lib.itoa_length_le n (by omega) (by omega); omega
  have w3 : (wordsX [x.row, x.col, x.scale]).length ≤ 66 := wordsX_len [x.row, x.col, x.scale] (by
    intro y hy; simp only [List.mem_cons, List.not_mem_nil, or_false] at hy
    rcases hy with rfl | rfl | rfl
    · exact i64 _ h.row
    · exact i64 _ h.col
    · exact i64 _ (by have := h.sc; omega))
  have w4 : (wordsX [x.row, x.col, x.tall, x.wide]).length ≤ 88 := wordsX_len [x.row, x.col, x.tall, x.wide] (by
    intro y hy; simp only [List.mem_cons, List.not_mem_nil, or_false] at hy
    rcases hy with rfl | rfl | rfl | rfl
    · exact i64 _ h.row
    · exact i64 _ h.col
    · exact i64 _ h.tall
    · exact i64 _ h.wide)
  have w1 : (wordsX [x.level]).length ≤ 22 := wordsX_len [x.level] (by
    intro y hy; simp only [List.mem_cons, List.not_mem_nil, or_false] at hy
    rcases hy with rfl
    exact i64 _ (by have := h.lev; omega))
  have htx : x.text.data.toList.length ≤ 400 := h.tx
  have hnm : x.name.data.toList.length ≤ 8 := h.nm
  unfold lineI
  split
  · simp only [List.length_append, List.length_cons, List.length_nil]; omega
  · split
    · simp only [List.length_append, List.length_cons, List.length_nil]; omega
    · simp only [List.length_append, List.length_cons, List.length_nil]; omega
/-- the text up to an item -/
def textP (l : Lb) (k : Nat) : List UInt8 := [108, 97, 98, 101, 108] ++ wordsX [l.rows, l.cols] ++ 10 :: (l.items.take k).flatMap fun x => lineI x ++ [10]
theorem textP_full (l : Lb) : textP l l.items.length = textL l := by rw [textP, List.take_length]; rfl
theorem textP_step {l : Lb} {k : Nat} {x : It} (h : l.items[k]? = some x) : textP l (k + 1) = textP l k ++ (lineI x ++ [10]) := by
  simp only [textP, take_snoc' h, List.flatMap_append, List.flatMap_cons, List.flatMap_nil, List.append_nil, List.append_assoc, List.cons_append]
theorem textP_len {l : Lb} (h : ∀ x ∈ l.items, ItB x) (hr : 0 ≤ l.rows ∧ l.rows ≤ 400) (hc : 0 ≤ l.cols ∧ l.cols ≤ 400) (k : Nat) : (textP l k).length ≤ 60 + 701 * k := by
  induction k with
  | zero =>
    have i64 : ∀ n : Int, 0 ≤ n ∧ n ≤ 400 → (Lib.itoa n).length ≤ 21 := fun n hn => by have := Lib.itoa_length_le n (by omega) (by omega); omega
    have w2 : (wordsX [l.rows, l.cols]).length ≤ 44 := wordsX_len [l.rows, l.cols] (by
      intro y hy; simp only [List.mem_cons, List.not_mem_nil, or_false] at hy
      rcases hy with rfl | rfl
      · exact i64 _ hr
      · exact i64 _ hc)
    simp only [textP, List.take_zero, List.flatMap_nil, List.length_append, List.length_cons, List.length_nil]
    omega
  | succ k ih =>
    by_cases hk : k < l.items.length
    · obtain ⟨x, hx⟩ : ∃ x, l.items[k]? = some x := by rw [List.getElem?_eq_getElem hk]; exact ⟨_, rfl⟩
      have := lineI_len (h x (List.mem_of_getElem? hx))
      rw [textP_step hx]
      simp only [List.length_append, List.length_cons, List.length_nil]
      omega
    · have e : textP l (k + 1) = textP l k := by
        unfold textP
        rw [List.take_of_length_le (by omega), List.take_of_length_le (by omega)]
      rw [e]; omega
theorem lb_bd {l : Lb} (h : l.ok = true) : (∀ x ∈ l.items, ItB x) ∧ ((1 ≤ l.rows ∧ l.rows ≤ 400) ∧ (1 ≤ l.cols ∧ l.cols ≤ 400)) ∧ l.items.length ≤ 12 := by
  rw [lbok_parts, Bool.and_eq_true, Bool.and_eq_true, decide_eq_true_eq] at h
  obtain ⟨⟨h1, h2⟩, h3⟩ := h
  rw [sizeB, Bool.and_eq_true, Bool.and_eq_true] at h1
  have e1 := inB_iff.1 h1.1.1
  have e2 := inB_iff.1 h1.1.2
  exact ⟨fun x hx => it_bd (List.all_eq_true.1 h3 x hx) e1.2 e2.2, ⟨e1, e2⟩, h2⟩

end Go.Proofs.YtlcglclojlffgaaGreatDoor
namespace Go.Proofs.YtlcglclojlffgaaGreatDoor
open Go.RowKit

/-- at most k cuts at a byte -/
def cutN (c : UInt8) : Nat → List UInt8 → List (List UInt8)
  | 0, l => [l]
  | k + 1, l => if c ∈ l then l.takeWhile (fun x => x ≠ c) :: cutN c k ((l.dropWhile (fun x => x ≠ c)).drop 1) else [l]
theorem cutN_free {c : UInt8} (k : Nat) {l : List UInt8} (h : c ∉ l) : cutN c k l = [l] := by
  cases k with
  | zero => rfl
  | succ k => rw [cutN, if_neg h]
theorem while_app (c : UInt8) : ∀ (p l : List UInt8), c ∉ p → (p ++ c :: l).takeWhile (fun x => x ≠ c) = p ∧ (p ++ c :: l).dropWhile (fun x => x ≠ c) = c :: l
  | [], l, _ => by simp
  | x :: p, l, h => by
    have hx : x ≠ c := fun e => h (by simp [e])
    have ih := while_app c p l (fun hh => h (by simp [hh]))
    have e : decide (x ≠ c) = true := decide_eq_true hx
    rw [List.cons_append, List.takeWhile_cons, List.dropWhile_cons, e]
    exact ⟨congrArg (x :: ·) ih.1, ih.2⟩
theorem cutN_app (c : UInt8) (k : Nat) (p l : List UInt8) (h : c ∉ p) : cutN c (k + 1) (p ++ c :: l) = p :: cutN c k l := by
  obtain ⟨h1, h2⟩ := while_app c p l h
  rw [cutN, if_pos (by simp), h1, h2]
  rfl
theorem cutN_glue (c : UInt8) : ∀ (ps : List (List UInt8)) (k : Nat), ps ≠ [] → (∀ p ∈ ps, c ∉ p) → ps.length ≤ k + 1 → cutN c k (glue c ps) = ps
  | [], _, h, _, _ => absurd rfl h
  | [p], k, _, hf, _ => cutN_free k (hf p (by simp))
  | p :: q :: r, 0, _, _, hl => by simp at hl
  | p :: q :: r, k + 1, _, hf, hl => by
    rw [glue_cons _ _ _ (by simp), cutN_app c k p _ (hf p (by simp)), cutN_glue c (q :: r) k (by simp) (fun x hx => hf x (by simp [hx])) (by simp at hl ⊢; omega)]

/-- the words of the text of a label -/
def wTxt : List UInt8 := [116, 101, 120, 116]
def wLin : List UInt8 := [108, 105, 110, 101]
def wSym : List UInt8 := [115, 121, 109, 98, 111, 108]
def wLab : List UInt8 := [108, 97, 98, 101, 108]
/-- a line of an item as the program reads it -/
def itemI (l : List UInt8) : Option It :=
  if (cut 32 l).head? = some wTxt then
    match cutN 32 4 l with
    | [_, a, b, c, t] => match rdec a, rdec b, rdec c with | some x, some y, some z => some ⟨1, x, y, z, 0, 0, ⟨#[]⟩, 0, ⟨t.toArray⟩⟩ | _, _, _ => none
    | _ => none
  else if (cut 32 l).head? = some wLin then
    match cutN 32 4 l with
    | [_, a, b, c, d] => match rdec a, rdec b, rdec c, rdec d with | some x, some y, some z, some u => some ⟨2, x, y, 0, z, u, ⟨#[]⟩, 0, ⟨#[]⟩⟩ | _, _, _, _ => none
    | _ => none
  else if (cut 32 l).head? = some wSym then
    match cutN 32 6 l with
    | [_, a, b, c, n, e, t] => match rdec a, rdec b, rdec c, rdec e with | some x, some y, some z, some u => some ⟨3, x, y, z, 0, 0, ⟨n.toArray⟩, u, ⟨t.toArray⟩⟩ | _, _, _, _ => none
    | _ => none
  else none
/-- the items of lines -/
def itemsI : List (List UInt8) → Option (List It)
  | [] => some []
  | l :: r => match itemI l, itemsI r with | some x, some xs => some (x :: xs) | _, _ => none
/-- a label as the program reads it, not yet checked -/
def labI (s : List UInt8) : Option Lb :=
  if 2 ≤ (cutN 10 14 s).length ∧ (cutN 10 14 s).length ≤ 14 ∧ (cutN 10 14 s).getLast? = some [] then
    match cut 32 ((cutN 10 14 s).headD []) with
    | [h, a, b] => if h = wLab then (match rdec a, rdec b, itemsI ((cutN 10 14 s).drop 1).dropLast with | some x, some y, some xs => some ⟨x, y, xs⟩ | _, _, _ => none) else none
    | _ => none
  else none
/-- a label that a text stands for -/
def rdLab (s : List UInt8) : Option Lb := (labI s).filter fun l => l.ok && decide (textL l = s)

/-- the lines of the text of a label -/
def linesL (l : Lb) : List (List UInt8) := (wLab ++ wordsX [l.rows, l.cols]) :: (l.items.map lineI ++ [[]])
theorem glue_map (c : UInt8) (f : It → List UInt8) : ∀ (h : List UInt8) (xs : List It), glue c (h :: (xs.map f ++ [[]])) = h ++ c :: xs.flatMap fun x => f x ++ [c]
  | h, [] => by simp [glue]
  | h, x :: r => by
    rw [List.map_cons, List.cons_append, glue_cons _ _ _ (by simp), glue_map c f (f x) r]
    simp
theorem textL_glue (l : Lb) : textL l = glue 10 (linesL l) := by rw [linesL, glue_map]; rfl
theorem words_no {c : UInt8} (h1 : c ≠ 32) (h2 : c.toNat ≠ 45) (h3 : ¬ (48 ≤ c.toNat ∧ c.toNat ≤ 57)) (xs : List Int) : c ∉ wordsX xs := by
  intro h
  unfold wordsX at h
  rw [List.mem_flatMap] at h
  obtain ⟨n, -, hn⟩ := h
  rcases List.mem_cons.1 hn with rfl | hn
  · exact h1 rfl
  · exact itoa_no n c h2 h3 hn
/-- what the lines of a label's items are made of -/
structure ItT (x : It) : Prop where
  b : ItB x
  one : x.kind = 1 → 10 ∉ x.text.data.toList ∧ x.tall = 0 ∧ x.wide = 0 ∧ x.name = ⟨#[]⟩ ∧ x.level = 0
  two : x.kind = 2 → x.scale = 0 ∧ x.name = ⟨#[]⟩ ∧ x.level = 0 ∧ x.text = ⟨#[]⟩
  three : x.kind = 3 → 10 ∉ x.text.data.toList ∧ x.tall = 0 ∧ x.wide = 0 ∧ 10 ∉ x.name.data.toList ∧ 32 ∉ x.name.data.toList
theorem libF_free : ∀ f ∈ libF, 10 ∉ f.name.data.toList ∧ 32 ∉ f.name.data.toList := by decide
theorem itT_of {l : Lb} {x : It} (h : onL l x = true) (hr : l.rows ≤ 400) (hc : l.cols ≤ 400) : ItT x := by
  refine ⟨it_bd h hr hc, fun hk => ?_, fun hk => ?_, fun hk => ?_⟩
  · cases hb : boxI x with
    | none => rw [onL_none hb] at h; cases h
    | some rc =>
      rw [boxI_text hk] at hb
      split at hb
      · next hh =>
        obtain ⟨hp, hs, -, -, ha⟩ := hh
        have hp := plainI_iff.1 hp
        have hs := scaledI_iff.1 hs
        refine ⟨fun hm => ?_, hs.1.2, hs.2, hp.1, hp.2⟩
        have := List.all_eq_true.1 ha 10 hm
        simp [glyB] at this
      · cases hb
  · cases hb : boxI x with
    | none => rw [onL_none hb] at h; cases h
    | some rc =>
      rw [boxI_line hk] at hb
      split at hb
      · next hh =>
        have hp := plainI_iff.1 hh.1
        exact ⟨hh.2.1, hp.1, hp.2, hh.2.2.1⟩
      · cases hb
  · cases hb : boxI x with
    | none => rw [onL_none hb] at h; cases h
    | some rc =>
      rw [boxI_sym hk] at hb
      split at hb
      · next hh =>
        have hs := scaledI_iff.1 hh.1
        split at hb
        · next f hf =>
          have hl := libF_free f (List.mem_of_find?_eq_some hf)
          have hq : f.name = x.name := by have := List.find?_some hf; simpa using this
          refine ⟨fun hm => ?_, hs.1.2, hs.2, by rw [← hq]; exact hl.1, by rw [← hq]; exact hl.2⟩
          have := hh.2
          rw [List.contains_iff_mem.2 hm] at this
          cases this
        · cases hb
      · cases hb
theorem line_no {x : It} (h : ItT x) : 10 ∉ lineI x := by
  have hw := fun xs => words_no (c := 10) (by decide) (by decide) (by decide) xs
  unfold lineI
  rcases h.b.kind with hk | hk | hk
  · rw [if_pos hk]
    have h1 := (h.one hk).1
    simp only [List.mem_append, List.mem_cons, not_or]
    exact ⟨⟨by decide, hw _⟩, by decide, h1⟩
  · rw [if_neg (by rw [hk]; decide), if_pos hk]
    simp only [List.mem_append, not_or]
    exact ⟨by decide, hw _⟩
  · rw [if_neg (by rw [hk]; decide), if_neg (by rw [hk]; decide)]
    have h1 := h.three hk
    simp only [List.mem_append, List.mem_cons, not_or]
    exact ⟨⟨⟨⟨by decide, hw _⟩, by decide, h1.2.2.2.1⟩, hw _⟩, by decide, h1.1⟩

theorem words3 (a b c : Int) : wordsX [a, b, c] = 32 :: Lib.itoa a ++ (32 :: Lib.itoa b ++ 32 :: Lib.itoa c) := by simp [wordsX]
theorem words4 (a b c d : Int) : wordsX [a, b, c, d] = 32 :: Lib.itoa a ++ (32 :: Lib.itoa b ++ (32 :: Lib.itoa c ++ 32 :: Lib.itoa d)) := by simp [wordsX]
theorem itoa_sp (n : Int) : (32 : UInt8) ∉ Lib.itoa n := itoa_no n 32 (by decide) (by decide)
theorem cut_head (c : UInt8) (p l : List UInt8) (h : c ∉ p) : (cut c (p ++ c :: l)).head? = some p := by rw [cut_app c p l h]; rfl
theorem ba_list (t : ByteArray) : (⟨t.data.toList.toArray⟩ : ByteArray) = t := by simp
/-- the program reads back the line of an item -/
theorem itemI_line {x : It} (h : ItT x) : itemI (lineI x) = some x := by
  obtain ⟨kd, row, col, sc, tall, wide, nm, lev, tx⟩ := x
  have hb := h.b
  obtain ⟨hkd, hrow, hcol, hsc, htall, hwide, hlev, hnm, htx⟩ := hb
  dsimp only at hkd hrow hcol hsc htall hwide hlev hnm htx
  have r1 : rdec (Lib.itoa row) = some row := rdec_itoa hrow.1 (by omega)
  have r2 : rdec (Lib.itoa col) = some col := rdec_itoa hcol.1 (by omega)
  have r3 : rdec (Lib.itoa sc) = some sc := rdec_itoa hsc.1 (by omega)
  have r4 : rdec (Lib.itoa tall) = some tall := rdec_itoa htall.1 (by omega)
  have r5 : rdec (Lib.itoa wide) = some wide := rdec_itoa hwide.1 (by omega)
  have r6 : rdec (Lib.itoa lev) = some lev := rdec_itoa hlev.1 (by omega)
  rcases hkd with rfl | rfl | rfl
  · obtain ⟨-, rfl, rfl, rfl, rfl⟩ := h.one rfl
    have hl : lineI ⟨1, row, col, sc, 0, 0, ⟨#[]⟩, 0, tx⟩ = wTxt ++ 32 :: (Lib.itoa row ++ 32 :: (Lib.itoa col ++ 32 :: (Lib.itoa sc ++ 32 :: tx.data.toList))) := by
      rw [lineI, if_pos rfl, words3]; simp [wTxt]
    rw [hl, itemI, cut_head 32 _ _ (by decide), if_pos rfl, cutN_app 32 3 _ _ (by decide), cutN_app 32 2 _ _ (itoa_sp row), cutN_app 32 1 _ _ (itoa_sp col), cutN_app 32 0 _ _ (itoa_sp sc), cutN]
    simp only [r1, r2, r3, ba_list]
  · obtain ⟨rfl, rfl, rfl, rfl⟩ := h.two rfl
    have hl : lineI ⟨2, row, col, 0, tall, wide, ⟨#[]⟩, 0, ⟨#[]⟩⟩ = wLin ++ 32 :: (Lib.itoa row ++ 32 :: (Lib.itoa col ++ 32 :: (Lib.itoa tall ++ 32 :: Lib.itoa wide))) := by
      rw [lineI, if_neg (show ¬ (2 : Int) = 1 by decide), if_pos rfl, words4]; simp [wLin]
    rw [hl, itemI, cut_head 32 _ _ (by decide), if_neg (by decide), if_pos rfl, cutN_app 32 3 _ _ (by decide), cutN_app 32 2 _ _ (itoa_sp row), cutN_app 32 1 _ _ (itoa_sp col), cutN_app 32 0 _ _ (itoa_sp tall), cutN]
    simp only [r1, r2, r4, r5]
  · obtain ⟨-, rfl, rfl, -, hns⟩ := h.three rfl
    have hl : lineI ⟨3, row, col, sc, 0, 0, nm, lev, tx⟩ = wSym ++ 32 :: (Lib.itoa row ++ 32 :: (Lib.itoa col ++ 32 :: (Lib.itoa sc ++ 32 :: (nm.data.toList ++ 32 :: (Lib.itoa lev ++ 32 :: tx.data.toList))))) := by
      rw [lineI, if_neg (show ¬ (3 : Int) = 1 by decide), if_neg (show ¬ (3 : Int) = 2 by decide), words3]; simp [wSym, wordsX]
    rw [hl, itemI, cut_head 32 _ _ (by decide), if_neg (by decide), if_neg (by decide), if_pos rfl, cutN_app 32 5 _ _ (by decide), cutN_app 32 4 _ _ (itoa_sp row), cutN_app 32 3 _ _ (itoa_sp col), cutN_app 32 2 _ _ (itoa_sp sc), cutN_app 32 1 _ _ hns, cutN_app 32 0 _ _ (itoa_sp lev), cutN]
    simp only [r1, r2, r3, r6, ba_list]
theorem itemsI_lines : ∀ {xs : List It}, (∀ x ∈ xs, ItT x) → itemsI (xs.map lineI) = some xs
  | [], _ => rfl
  | x :: r, h => by
    rw [List.map_cons, itemsI, itemI_line (h x (by simp)), itemsI_lines (xs := r) (fun y hy => h y (by simp [hy]))]
/-- the program reads back the text of a valid label -/
theorem labI_text {l : Lb} (h : l.ok = true) : labI (textL l) = some l := by
  obtain ⟨hib, hrc, h12⟩ := lb_bd h
  have hit : ∀ x ∈ l.items, ItT x := by
    rw [lbok_parts, Bool.and_eq_true, Bool.and_eq_true] at h
    exact fun x hx => itT_of (List.all_eq_true.1 h.2 x hx) hrc.1.2 hrc.2.2
  have hfree : ∀ p ∈ linesL l, (10 : UInt8) ∉ p := by
    intro p hp
    rw [linesL, List.mem_cons, List.mem_append, List.mem_map, List.mem_singleton] at hp
    rcases hp with rfl | ⟨x, hx, rfl⟩ | rfl
    · rw [List.mem_append, not_or]
      exact ⟨by decide, words_no (by decide) (by decide) (by decide) _⟩
    · exact line_no (hit x hx)
    · simp
  have hlen : (linesL l).length = l.items.length + 2 := by simp [linesL]
  have hc : cutN 10 14 (textL l) = linesL l := by rw [textL_glue]; exact cutN_glue 10 _ 14 (by simp [linesL]) hfree (by omega)
  have hhead : cut 32 ((linesL l).headD []) = [wLab, Lib.itoa l.rows, Lib.itoa l.cols] := by
    show cut 32 (wLab ++ wordsX [l.rows, l.cols]) = _
    have e : wLab ++ wordsX [l.rows, l.cols] = wLab ++ 32 :: (Lib.itoa l.rows ++ 32 :: Lib.itoa l.cols) := by simp [wordsX]
    rw [e, cut_app 32 _ _ (by decide), cut_app 32 _ _ (itoa_sp _), cut_piece 32 _ (itoa_sp _)]
  have hmid : ((linesL l).drop 1).dropLast = l.items.map lineI := by simp [linesL]
  have hlast : (linesL l).getLast? = some [] := by simp [linesL, List.getLast?_cons]
  rw [labI, hc, if_pos ⟨by omega, by omega, hlast⟩, hhead]
  simp only [if_true, rdec_itoa (show 0 ≤ l.rows by omega) (by omega), rdec_itoa (show 0 ≤ l.cols by omega) (by omega), hmid, itemsI_lines hit]
theorem rdLab_iff {s : List UInt8} {l : Lb} : rdLab s = some l ↔ l.ok = true ∧ textL l = s := by
  rw [rdLab, Option.filter_eq_some_iff, Bool.and_eq_true, decide_eq_true_eq]
  constructor
  · rintro ⟨-, h1, h2⟩; exact ⟨h1, h2⟩
  · rintro ⟨h1, h2⟩
    refine ⟨?_, h1, h2⟩
    rw [← h2]; exact labI_text h1

end Go.Proofs.YtlcglclojlffgaaGreatDoor
namespace Go.Proofs.YtlcglclojlffgaaGreatDoor
open Go.RowKit Go.Maps

/-- how many pieces the line of an item has, by its word -/
def cntW (s : List UInt8) : Int := if s = wSym then 7 else if s = wLin then 5 else if s = wTxt then 5 else 0
theorem keyedS : Keyed Tryz.prog 9 := string_keyed Tryz.underlying9
theorem keyS {s : ByteArray} (hs : s.size ≤ maxLen) : keyOf Tryz.prog 9 (.string s) = some (.string s.data.toList) := Go.WideMaps.keyOf_string_mk Tryz.underlying9 hs
theorem zeroI (w : World) : (zeroValue 3).run Tryz.prog w = .ok (.int .i64 0) w := by kernel_rfl
theorem elI {n : Int} (h : (Lit.int .i64 n).wf = true) : plainElem (H := Unit) Tryz.prog 3 (.int .i64 n) = some (.lit (.int .i64 n), []) := plainElem_int Tryz.underlying3 h
/-- the map of the words and their counts, made and asked -/
theorem words_map (w : World) : ∃ w1 w2 w3,
    (Instr.mapUpdate 99 (.map (some w.heap.size)) (.string ⟨#[116, 101, 120, 116]⟩) (.int .i64 5)).run Tryz.prog (w.alloc (.map #[] 0)) = .ok () w1 ∧
    (Instr.mapUpdate 99 (.map (some w.heap.size)) (.string ⟨#[108, 105, 110, 101]⟩) (.int .i64 5)).run Tryz.prog w1 = .ok () w2 ∧
    (Instr.mapUpdate 99 (.map (some w.heap.size)) (.string ⟨#[115, 121, 109, 98, 111, 108]⟩) (.int .i64 7)).run Tryz.prog w2 = .ok () w3 ∧
    Below w.heap.size w w3 ∧ ∀ wx, Below w3.heap.size w3 wx → ∀ s : ByteArray, s.size ≤ maxLen → (Instr.lookup 99 (.map (some w.heap.size)) (.string s) false).run Tryz.prog wx = .ok (.int .i64 (cntW s.data.toList)) wx := by
  have h0 := World.ownsMap_made w Tryz.prog 9 (plainElem (H := Unit) Tryz.prog 3)
  obtain ⟨w1, r1, o1, g1⟩ := h0.update keyedS Tryz.underlying99 (by unfold maxLen; omega) (keyS (s := ⟨#[116, 101, 120, 116]⟩) (by decide)) (elI (n := 5) (by decide))
  obtain ⟨w2, r2, o2, g2⟩ := o1.update keyedS Tryz.underlying99 (by unfold maxLen; omega) (keyS (s := ⟨#[108, 105, 110, 101]⟩) (by decide)) (elI (n := 5) (by decide))
  obtain ⟨w3, r3, o3, g3⟩ := o2.update keyedS Tryz.underlying99 (by unfold maxLen; omega) (keyS (s := ⟨#[115, 121, 109, 98, 111, 108]⟩) (by decide)) (elI (n := 7) (by decide))
  have hb : ∀ k, some w.heap.size = some k → w.heap.size ≤ k := fun k h => by cases h; exact Nat.le_refl _
  have z0 : (w.alloc (.map #[] 0)).heap.size = w.heap.size + 1 := by simp
  have b1 := below_of_grownBy g1 (show w.heap.size ≤ (w.alloc (.map #[] 0)).heap.size by omega) hb
  have b2 := below_of_grownBy g2 (by have := b1.size; omega) hb
  have b3 := below_of_grownBy g3 (by have := b2.size; have := b1.size; omega) hb
  refine ⟨w1, w2, w3, r1, r2, r3, (((ba1 w _).trans b1).trans b2).trans b3, fun wx hx s hs => ?_⟩
  have o4 := o3.kept (w' := wx) (row := none) ⟨hx.os, hx.tape, hx.output, hx.size, fun k hk _ => hx.block k hk⟩ (by simp)
  obtain ⟨c, hrun, hat, -⟩ := o4.lookup_int keyedS Tryz.underlying99 Tryz.underlying3 (zeroI wx) (keyS hs)
  have hm0 : IsMap (.map [] : DataW Unit) := isMap_empty
  have e : c = cntW s.data.toList := by
    have key : ∀ u : List UInt8, Lit.string s.data.toList = Lit.string u ↔ s.data.toList = u := fun u => ⟨fun h => by injection h, fun h => by rw [h]⟩
    unfold cntW
    by_cases h1 : s.data.toList = wSym
    · rw [if_pos h1]
      rw [h1] at hat
      rw [show (⟨#[115, 121, 109, 98, 111, 108]⟩ : ByteArray).data.toList = wSym from rfl, atKey_put_same ((hm0.put _ _).put _ _) (show WideAt.IsKeyLit (.string _) from trivial)] at hat
      simp at hat
      exact hat.symm
    · rw [if_neg h1]
      rw [atKey_put_other (by rw [ne_eq, key]; exact h1)] at hat
      by_cases h2 : s.data.toList = wLin
      · rw [if_pos h2]
        rw [h2] at hat
        rw [show (⟨#[108, 105, 110, 101]⟩ : ByteArray).data.toList = wLin from rfl, atKey_put_same (hm0.put _ _) (show WideAt.IsKeyLit (.string _) from trivial)] at hat
        simp at hat
        exact hat.symm
      · rw [if_neg h2]
        rw [atKey_put_other (by rw [ne_eq, key]; exact h2)] at hat
        by_cases h3 : s.data.toList = wTxt
        · rw [if_pos h3]
          rw [h3] at hat
          rw [show (⟨#[116, 101, 120, 116]⟩ : ByteArray).data.toList = wTxt from rfl, atKey_put_same hm0 (show WideAt.IsKeyLit (.string _) from trivial)] at hat
          simp at hat
          exact hat.symm
        · rw [if_neg h3]
          rw [atKey_put_other (by rw [ne_eq, key]; exact h3)] at hat
          have h9 : (DataW.map [] : DataW Unit).atKey (.string s.data.toList) (.lit (.int .i64 0)) = .lit (.int .i64 0) := rfl
          rw [h9] at hat
          simp at hat
          exact hat.symm
  rw [hrun, e]

end Go.Proofs.YtlcglclojlffgaaGreatDoor
namespace Go.Proofs.YtlcglclojlffgaaGreatDoor
open Go.RowKit

/-- a reader over a list: all or none -/
def allO {α β : Type} (f : β → Option α) : List β → Option (List α)
  | [] => some []
  | l :: r => match f l, allO f r with | some x, some xs => some (x :: xs) | _, _ => none
section
variable {α β : Type} {f : β → Option α}
theorem allO_cons_some {x : β} {y : α} {l : List β} {ys : List α} (h : f x = some y) (hl : allO f l = some ys) : allO f (x :: l) = some (y :: ys) := by rw [allO, h, hl]
theorem allO_cons_none {x : β} {l : List β} (h : f x = none) : allO f (x :: l) = none := by rw [allO, h]
theorem allO_cons_tail {x : β} {l : List β} (h : allO f l = none) : allO f (x :: l) = none := by rw [allO, h]; cases f x <;> rfl
theorem allO_snoc : ∀ {l : List β} {ys : List α} {x : β} {y : α}, allO f l = some ys → f x = some y → allO f (l ++ [x]) = some (ys ++ [y])
  | [], ys, x, y, h, hx => by
    rw [allO] at h
    obtain rfl := Option.some.inj h
    exact allO_cons_some hx rfl
  | a :: l, ys, x, y, h, hx => by
    rw [allO] at h
    split at h
    · next b bs hb hbs =>
      obtain rfl := Option.some.inj h
      exact allO_cons_some hb (allO_snoc hbs hx)
    · cases h
theorem allO_bad : ∀ {l : List β} {x : β}, x ∈ l → f x = none → allO f l = none
  | a :: l, x, hm, hx => by
    rcases List.mem_cons.1 hm with rfl | hm
    · exact allO_cons_none hx
    · exact allO_cons_tail (allO_bad hm hx)
theorem allO_take {l : List β} {k : Nat} {x : β} {ys : List α} {y : α} (hx : l[k]? = some x) (h : allO f (l.take k) = some ys) (hy : f x = some y) : allO f (l.take (k + 1)) = some (ys ++ [y]) := by
  rw [List.take_add_one, hx]; exact allO_snoc h hy
theorem allO_len : ∀ {l : List β} {ys : List α}, allO f l = some ys → ys.length = l.length
  | [], ys, h => by rw [allO] at h; obtain rfl := Option.some.inj h; rfl
  | a :: l, ys, h => by
    rw [allO] at h
    split at h
    · next b bs hb hbs =>
      obtain rfl := Option.some.inj h
      rw [List.length_cons, List.length_cons, allO_len hbs]
    · cases h
theorem allO_mem : ∀ {l : List β} {ys : List α} {y : α}, allO f l = some ys → y ∈ ys → ∃ x ∈ l, f x = some y
  | [], ys, y, h, hm => by rw [allO] at h; obtain rfl := Option.some.inj h; cases hm
  | a :: l, ys, y, h, hm => by
    rw [allO] at h
    split at h
    · next b bs hb hbs =>
      obtain rfl := Option.some.inj h
      rcases List.mem_cons.1 hm with rfl | hm
      · exact ⟨a, by simp, hb⟩
      · obtain ⟨x, hx, he⟩ := allO_mem hbs hm
        exact ⟨x, by simp [hx], he⟩
    · cases h
end
theorem itemsI_all : ∀ l, itemsI l = allO itemI l
  | [] => rfl
  | x :: l => by rw [itemsI, allO, itemsI_all l]; cases itemI x <;> cases allO itemI l <;> rfl
/-- the pieces of a cut are no longer than the text -/
theorem cutN_len (c : UInt8) : ∀ (k : Nat) (l : List UInt8), (cutN c k l).length ≤ k + 1 ∧ 1 ≤ (cutN c k l).length ∧ ∀ p ∈ cutN c k l, p.length ≤ l.length
  | 0, l => by simp [cutN]
  | k + 1, l => by
    rw [cutN]
    split
    · obtain ⟨h1, h2, h3⟩ := cutN_len c k ((l.dropWhile (fun x => x ≠ c)).drop 1)
      refine ⟨by rw [List.length_cons]; omega, by simp, ?_⟩
      have e := List.takeWhile_append_dropWhile (p := fun x => decide (x ≠ c)) (l := l)
      have el := congrArg List.length e
      rw [List.length_append] at el
      intro p hp
      rcases List.mem_cons.1 hp with rfl | hp
      · omega
      · have := h3 p hp
        rw [List.length_drop] at this
        omega
    · simp

/-- what the program reads of a line, by its word -/
theorem itemI_word {l w : List UInt8} (hw : (cut 32 l).head? = some w) (h : cntW w = 0) : itemI l = none := by
  unfold cntW at h
  rw [itemI, hw]
  split at h
  · cases h
  · next h1 =>
    split at h
    · cases h
    · next h2 =>
      split at h
      · cases h
      · next h3 =>
        rw [if_neg (fun e => h3 (Option.some.inj e)), if_neg (fun e => h2 (Option.some.inj e)), if_neg (fun e => h1 (Option.some.inj e))]
theorem dec3_some {a b c : List UInt8} {x y z : Int} (h : allO rdec [a, b, c] = some [x, y, z]) : rdec a = some x ∧ rdec b = some y ∧ rdec c = some z := by
  simp only [allO] at h
  cases ha : rdec a <;> cases hb : rdec b <;> cases hc : rdec c <;> simp_all
theorem dec3_none {a b c : List UInt8} (h : allO rdec [a, b, c] = none) : rdec a = none ∨ rdec b = none ∨ rdec c = none := by
  simp only [allO] at h
  cases ha : rdec a <;> cases hb : rdec b <;> cases hc : rdec c <;> simp_all
theorem itemI_txt {l p a b c t : List UInt8} {x y z : Int} (hw : (cut 32 l).head? = some wTxt) (hp : cutN 32 4 l = [p, a, b, c, t]) (hd : allO rdec [a, b, c] = some [x, y, z]) :
    itemI l = some ⟨1, x, y, z, 0, 0, ⟨#[]⟩, 0, ⟨t.toArray⟩⟩ := by
  obtain ⟨h1, h2, h3⟩ := dec3_some hd
  rw [itemI, hw, if_pos rfl, hp]
  simp only [h1, h2, h3]
theorem itemI_lin {l p a b c t : List UInt8} {x y z u : Int} (hw : (cut 32 l).head? = some wLin) (hp : cutN 32 4 l = [p, a, b, c, t]) (hd : allO rdec [a, b, c] = some [x, y, z]) (hu : rdec t = some u) :
    itemI l = some ⟨2, x, y, 0, z, u, ⟨#[]⟩, 0, ⟨#[]⟩⟩ := by
  obtain ⟨h1, h2, h3⟩ := dec3_some hd
  rw [itemI, hw, if_neg (by decide), if_pos rfl, hp]
  simp only [h1, h2, h3, hu]
theorem itemI_lin_no {l p a b c t : List UInt8} (hw : (cut 32 l).head? = some wLin) (hp : cutN 32 4 l = [p, a, b, c, t]) (hu : rdec t = none) : itemI l = none := by
  rw [itemI, hw, if_neg (by decide), if_pos rfl, hp]
  simp only [hu]
  generalize rdec a = A
  generalize rdec b = B
  generalize rdec c = C
  cases A <;> cases B <;> cases C <;> rfl
theorem itemI_sym {l p a b c n e t : List UInt8} {x y z u : Int} (hw : (cut 32 l).head? = some wSym) (hp : cutN 32 6 l = [p, a, b, c, n, e, t]) (hd : allO rdec [a, b, c] = some [x, y, z]) (hu : rdec e = some u) :
    itemI l = some ⟨3, x, y, z, 0, 0, ⟨n.toArray⟩, u, ⟨t.toArray⟩⟩ := by
  obtain ⟨h1, h2, h3⟩ := dec3_some hd
  rw [itemI, hw, if_neg (by decide), if_neg (by decide), if_pos rfl, hp]
  simp only [h1, h2, h3, hu]
theorem itemI_sym_no {l p a b c n e t : List UInt8} (hw : (cut 32 l).head? = some wSym) (hp : cutN 32 6 l = [p, a, b, c, n, e, t]) (hu : rdec e = none) : itemI l = none := by
  rw [itemI, hw, if_neg (by decide), if_neg (by decide), if_pos rfl, hp]
  simp only [hu]
  generalize rdec a = A
  generalize rdec b = B
  generalize rdec c = C
  cases A <;> cases B <;> cases C <;> rfl
theorem cntW_pos {w : List UInt8} {n : Nat} (h : cntW w = (n : Int)) (h0 : n ≠ 0) : (n = 5 ∧ (w = wTxt ∨ w = wLin)) ∨ (n = 7 ∧ w = wSym) := by
  unfold cntW at h
  split at h
  · next h1 => exact .inr ⟨by omega, h1⟩
  · split at h
    · next h2 => exact .inl ⟨by omega, .inr h2⟩
    · split at h
      · next h3 => exact .inl ⟨by omega, .inl h3⟩
      · omega
theorem itemI_len {l w : List UInt8} {n : Nat} (hw : (cut 32 l).head? = some w) (h : cntW w = (n : Int)) (h0 : n ≠ 0) (hl : (cutN 32 (n - 1) l).length ≠ n) : itemI l = none := by
  rcases cntW_pos h h0 with ⟨rfl, rfl | rfl⟩ | ⟨rfl, rfl⟩
  · rw [itemI, hw, if_pos rfl]
    split
    · next he => rw [he] at hl; exact absurd rfl hl
    · rfl
  · rw [itemI, hw, if_neg (by decide), if_pos rfl]
    split
    · next he => rw [he] at hl; exact absurd rfl hl
    · rfl
  · rw [itemI, hw, if_neg (by decide), if_neg (by decide), if_pos rfl]
    split
    · next he => rw [he] at hl; exact absurd rfl hl
    · rfl
theorem itemI_num {l w p a b c : List UInt8} {n : Nat} {r : List (List UInt8)} (hw : (cut 32 l).head? = some w) (h : cntW w = (n : Int)) (h0 : n ≠ 0) (hp : cutN 32 (n - 1) l = p :: a :: b :: c :: r) (hd : allO rdec [a, b, c] = none) : itemI l = none := by
  rcases cntW_pos h h0 with ⟨rfl, rfl | rfl⟩ | ⟨rfl, rfl⟩
  · rw [itemI, hw, if_pos rfl]
    split
    · next he =>
      rw [show 4 = 5 - 1 from rfl, hp] at he
      injection he with e1 he
      injection he with e2 he
      injection he with e3 he
      injection he with e4 he
      subst e2; subst e3; subst e4
      have h3 := dec3_none hd
      generalize rdec a = A at h3 ⊢
      generalize rdec b = B at h3 ⊢
      generalize rdec c = C at h3 ⊢
      cases A <;> cases B <;> cases C <;> first | rfl | simp_all
    · rfl
  · rw [itemI, hw, if_neg (by decide), if_pos rfl]
    split
    · next he =>
      rw [show 4 = 5 - 1 from rfl, hp] at he
      injection he with e1 he
      injection he with e2 he
      injection he with e3 he
      injection he with e4 he
      subst e2; subst e3; subst e4
      have h3 := dec3_none hd
      generalize rdec a = A at h3 ⊢
      generalize rdec b = B at h3 ⊢
      generalize rdec c = C at h3 ⊢
      cases A <;> cases B <;> cases C <;> first | rfl | simp_all
    · rfl
  · rw [itemI, hw, if_neg (by decide), if_neg (by decide), if_pos rfl]
    split
    · next he =>
      rw [show 6 = 7 - 1 from rfl, hp] at he
      injection he with e1 he
      injection he with e2 he
      injection he with e3 he
      injection he with e4 he
      subst e2; subst e3; subst e4
      have h3 := dec3_none hd
      generalize rdec a = A at h3 ⊢
      generalize rdec b = B at h3 ⊢
      generalize rdec c = C at h3 ⊢
      cases A <;> cases B <;> cases C <;> first | rfl | simp_all
    · rfl
theorem itemI_bad {l w : List UInt8} {n k : Nat} {ps : List (List UInt8)} {x : List UInt8} (hw : (cut 32 l).head? = some w) (h : cntW w = (n : Int)) (h0 : n ≠ 0) (hp : ps = cutN 32 (n - 1) l) (hl : ps.length = n) (hk : k < 3) (hx : ps[k + 1]? = some x) (hn : rdec x = none) : itemI l = none := by
  have h5 : 5 ≤ n := by rcases cntW_pos h h0 with ⟨rfl, -⟩ | ⟨rfl, -⟩ <;> omega
  obtain ⟨p, a, b, c, r, rfl⟩ : ∃ p a b c r, ps = p :: a :: b :: c :: r := by
    match ps, hl with
    | p :: a :: b :: c :: r, _ => exact ⟨p, a, b, c, r, rfl⟩
    | [], hl => simp at hl; omega
    | [_], hl => simp at hl; omega
    | [_, _], hl => simp at hl; omega
    | [_, _, _], hl => simp at hl; omega
  refine itemI_num hw h h0 hp.symm (allO_bad (x := x) ?_ hn)
  have hk3 : k = 0 ∨ k = 1 ∨ k = 2 := by omega
  rcases hk3 with rfl | rfl | rfl
  · simp at hx; simp [hx]
  · simp at hx; simp [hx]
  · simp at hx; simp [hx]
/-- the texts of an item that is read are pieces of its line -/
theorem itemI_sz {l : List UInt8} {x : It} (h : itemI l = some x) : x.text.size ≤ l.length ∧ x.name.size ≤ l.length := by
  have hs : ∀ t : List UInt8, (⟨t.toArray⟩ : ByteArray).size = t.length := fun t => by show t.toArray.size = _; simp
  have h0 : (⟨#[]⟩ : ByteArray).size = 0 := rfl
  rw [itemI] at h
  split at h
  · split at h
    · next he =>
      have hl := (cutN_len 32 4 l).2.2
      split at h
      · obtain rfl := Option.some.inj h
        dsimp only
        rw [hs, h0]
        exact ⟨hl _ (by rw [he]; simp), Nat.zero_le _⟩
      · cases h
    · cases h
  · split at h
    · split at h
      · split at h
        · obtain rfl := Option.some.inj h
          dsimp only
          rw [h0]
          exact ⟨Nat.zero_le _, Nat.zero_le _⟩
        · cases h
      · cases h
    · split at h
      · split at h
        · next he =>
          have hl := (cutN_len 32 6 l).2.2
          split at h
          · obtain rfl := Option.some.inj h
            dsimp only
            rw [hs, hs]
            exact ⟨hl _ (by rw [he]; simp), hl _ (by rw [he]; simp)⟩
          · cases h
        · cases h
      · cases h

end Go.Proofs.YtlcglclojlffgaaGreatDoor
namespace Go.Proofs.YtlcglclojlffgaaGreatDoor
open Go.RowKit

theorem index_app (c : UInt8) : ∀ (p l : List UInt8), c ∉ p → Lib.index (p ++ c :: l) [c] = (p.length : Int)
  | [], l, _ => by simp [Lib.index]
  | x :: p, l, h => by
    have hx : (c == x) = false := by rw [beq_eq_false_iff_ne]; exact fun e => h (by simp [e])
    have ih := index_app c p l (fun hh => h (by simp [hh]))
    rw [List.cons_append, Lib.index, ih]
    have h1 : ([c] : List UInt8).isPrefixOf (x :: (p ++ c :: l)) = false := by simp [List.isPrefixOf, hx]
    rw [h1]
    simp only [Bool.false_eq_true, if_false]
    rw [if_neg (by simp)]
    simp
theorem index_none (c : UInt8) : ∀ l : List UInt8, c ∉ l → Lib.index l [c] = -1
  | [], _ => by simp [Lib.index]
  | x :: l, h => by
    have hx : (c == x) = false := by rw [beq_eq_false_iff_ne]; exact fun e => h (by simp [e])
    have ih := index_none c l (fun hh => h (by simp [hh]))
    rw [Lib.index, ih]
    have h1 : ([c] : List UInt8).isPrefixOf (x :: l) = false := by simp [List.isPrefixOf, hx]
    rw [h1]
    simp
theorem mem_split {c : UInt8} : ∀ {l : List UInt8}, c ∈ l → ∃ p r, l = p ++ c :: r ∧ c ∉ p
  | x :: l, h => by
    by_cases hx : x = c
    · subst hx; exact ⟨[], l, rfl, by simp⟩
    · have h2 : c ∈ l := by
        rcases List.mem_cons.1 h with h | h
        · exact absurd h.symm hx
        · exact h
      obtain ⟨p, r, rfl, hp⟩ := mem_split h2
      refine ⟨x :: p, r, rfl, ?_⟩
      intro hm
      rcases List.mem_cons.1 hm with h | h
      · exact hx h.symm
      · exact hp h
theorem splitK_cutN (c : UInt8) : ∀ (k : Nat) (l : List UInt8), Lib.splitK [c] 0 k l = cutN c k l
  | 0, l => rfl
  | k + 1, l => by
    by_cases h : c ∈ l
    · obtain ⟨p, r, rfl, hp⟩ := mem_split h
      rw [cutN_app c k p r hp, Lib.splitK, index_app c p r hp, if_neg (by simp)]
      simp only [Int.toNat_natCast, Nat.add_zero, List.length_cons, List.length_nil, Nat.zero_add]
      rw [List.take_left, splitK_cutN c k]
      congr 2
      rw [show p.length + 1 = (p ++ [c]).length by simp, show p ++ c :: r = (p ++ [c]) ++ r by simp, List.drop_left]
    · rw [cutN_free _ h, Lib.splitK, index_none c l h, if_pos (by rfl)]
theorem cutN_sat (c : UInt8) : ∀ (k m : Nat) (l : List UInt8), l.length ≤ k → l.length ≤ m → cutN c k l = cutN c m l
  | 0, m, l, h, _ => by
    have : l = [] := List.eq_nil_of_length_eq_zero (by omega)
    subst this
    rw [cutN_free m (by simp)]; rfl
  | k + 1, 0, l, _, h => by
    have : l = [] := List.eq_nil_of_length_eq_zero (by omega)
    subst this
    rw [cutN_free (k + 1) (by simp)]; rfl
  | k + 1, m + 1, l, h1, h2 => by
    by_cases h : c ∈ l
    · obtain ⟨p, r, rfl, hp⟩ := mem_split h
      rw [cutN_app c k p r hp, cutN_app c m p r hp]
      simp only [List.length_append, List.length_cons] at h1 h2
      rw [cutN_sat c k m r (by omega) (by omega)]
    · rw [cutN_free _ h, cutN_free _ h]
/-- texts in memory, not of one's own -/
def RetSp (w : World) (l : List (List UInt8)) (e : Ending) (w' : World) : Prop :=
  ∃ (ss : List ByteArray) (c : Nat), bytesL ss = l ∧ e = .returned (.slice (some ⟨w.heap.size, 0, none⟩) ss.length c) ∧ StrsAt w' (some ⟨w.heap.size, 0, none⟩) ss ∧ Below w.heap.size w w' ∧ ss.length ≤ c
theorem splitB_cutN (s : ByteArray) (c : UInt8) (k : Nat) : bytesL (Lib.splitB ⟨#[c]⟩ 0 k s) = cutN c k s.data.toList := by
  have h := Lib.splitB_data ⟨#[c]⟩ 0 k s
  rw [bytesL, h]
  exact splitK_cutN c k _
theorem splitN_any (s : ByteArray) (c : UInt8) (n : Nat) (w : World) (hs : s.size ≤ 1048576) (hn : 1 ≤ n) (hn2 : n ≤ 100) (hE : Env w) :
    Calls Tryz.prog 30 #[.string s, .string ⟨#[c]⟩, .int .i64 (n : Int)] w (RetSp w (cutN c (n - 1) s.data.toList)) := by
  obtain ⟨m, hm⟩ := hE.mx
  refine (Tryz.strings_SplitN s ⟨#[c]⟩ n m w (by omega) hm (Nat.le_refl 1) hn (by omega)).mono fun e w' ⟨he, hw⟩ => ?_
  have hb := splitB_cutN s c (min n (s.size + 1) - 1)
  have hlen := Lib.splitB_length_le ⟨#[c]⟩ 0 (min n (s.size + 1) - 1) s
  have hsz : s.data.toList.length = s.size := rfl
  have hsat : cutN c (min n (s.size + 1) - 1) s.data.toList = cutN c (n - 1) s.data.toList := by
    by_cases h : n ≤ s.size + 1
    · rw [Nat.min_eq_left h]
    · rw [Nat.min_eq_right (by omega)]
      exact cutN_sat c _ _ _ (by omega) (by omega)
  rw [hsat] at hb
  refine ⟨_, _, hb, he, ?_, ?_, by omega⟩
  · intro i hi
    refine ⟨w.heap.size, 0, rfl, ?_⟩
    rw [Nat.zero_add, hw, (heap_cellR (push_at _ _)).1]
    unfold Lib.cellsOf
    rw [List.getElem?_toArray, List.getElem?_append_left (by simpa using hi)]
    simp [hi]
  · rw [hw]; exact ba1 _ _
/-- strings.Cut at a byte: the word ahead of it -/
theorem cut_word (s : List UInt8) (c : UInt8) : (cut c s).head? = some (Lib.cut s [c]).1 := by
  by_cases h : c ∈ s
  · obtain ⟨p, r, rfl, hp⟩ := mem_split h
    rw [cut_head c p r hp, Lib.cut, index_app c p r hp, if_pos (by omega)]
    simp
  · rw [cut_piece c s h, Lib.cut, index_none c s h, if_neg (by omega)]; rfl

end Go.Proofs.YtlcglclojlffgaaGreatDoor
namespace Go.Proofs.YtlcglclojlffgaaGreatDoor
open Go.RowKit

set_option maxRecDepth 100000 in
theorem genSplit_zero (s sep : ByteArray) (w : World) :
    Calls Tryz.prog 52 #[.string s, .string sep, .int .i64 0, .int .i64 0] w fun e w' => e = .returned (.slice none 0 0) ∧ w = w' := by
  go_enter Tryz.func52, Tryz.ntmps52
  go_wp2_with fail
  go_ret
  exact ⟨rfl, rfl⟩
set_option maxRecDepth 100000 in
theorem splitN_zero (s sep : ByteArray) (w : World) :
    Calls Tryz.prog 30 #[.string s, .string sep, .int .i64 0] w fun e w' => e = .returned (.slice none 0 0) ∧ w = w' := by
  go_enter Tryz.func30, Tryz.ntmps30
  go_wp2_with fail
  refine (genSplit_zero _ _ _).mono ?_
  rintro e w' ⟨rfl, rfl⟩
  go_wp2_with fail
  go_ret
  exact ⟨rfl, rfl⟩

end Go.Proofs.YtlcglclojlffgaaGreatDoor
namespace Go.Proofs.YtlcglclojlffgaaGreatDoor
open Go.RowKit

set_option maxRecDepth 100000 in
set_option maxHeartbeats 4000000 in
theorem contains_any (R C row col r c : Int) (hR : 1 ≤ R ∧ R ≤ 400) (hC : 1 ≤ C ∧ C ≤ 400) (w : World) :
    Calls Tryz.prog 57 #[.agg #[.int .i64 R, .int .i64 C, .slice none 0 0], .int .i64 row, .int .i64 col, .int .i64 r, .int .i64 c] w fun e w' => e = .returned (.bool (cntB R C row col r c)) ∧ Below w.heap.size w w' := by
  obtain ⟨X, hX⟩ : ∃ X, X = cntB R C row col r c := ⟨_, rfl⟩
  have HX := Lib.hid (show X = (decide (0 ≤ row) && decide (0 ≤ col) && inB r 1 R && inB c 1 C && decide (row ≤ R - r) && decide (col ≤ C - c)) by rw [hX]; rfl)
  rw [← hX]
  clear hX
  have HB := Lib.hid (ba1 w (.cells #[.int .i64 R, .int .i64 C, .slice none 0 0] 101 (0, 0)))
  go_enter Tryz.func57, Tryz.ntmps57
  rcases Bool.eq_false_or_eq_true (decide (0 ≤ row)) with h1 | h1
  rotate_left
  · have HR := Lib.hid (show X = false by rw [HX.out, h1]; rfl)
    go_wp2_with (go_at_call 71; refine (inRange_any _ _ _ _).mono ?_; rintro e w' ⟨rfl, rfl⟩)
    go_ret
    exact ⟨ret_bool HR.out.symm, HB.out⟩
  rcases Bool.eq_false_or_eq_true (decide (0 ≤ col)) with h2 | h2
  rotate_left
  · have HR := Lib.hid (show X = false by rw [HX.out, h2, Bool.and_false]; rfl)
    go_wp2_with (go_at_call 71; refine (inRange_any _ _ _ _).mono ?_; rintro e w' ⟨rfl, rfl⟩)
    go_ret
    exact ⟨ret_bool HR.out.symm, HB.out⟩
  rcases Bool.eq_false_or_eq_true (inB r 1 R) with h3 | h3
  rotate_left
  · have HR := Lib.hid (show X = false by rw [HX.out, h3, Bool.and_false]; rfl)
    go_wp2_with (go_at_call 71; refine (inRange_any _ _ _ _).mono ?_; rw [h3]; rintro e w' ⟨rfl, rfl⟩)
    go_ret
    exact ⟨ret_bool HR.out.symm, HB.out⟩
  rcases Bool.eq_false_or_eq_true (inB c 1 C) with h4 | h4
  rotate_left
  · have HR := Lib.hid (show X = false by rw [HX.out, h4, Bool.and_false]; rfl)
    go_wp2_with (go_at_call 71; refine (inRange_any _ _ _ _).mono ?_; (first | rw [h3] | rw [h4]); rintro e w' ⟨rfl, rfl⟩)
    go_ret
    exact ⟨ret_bool HR.out.symm, HB.out⟩
  have b3 := inB_iff.1 h3
  have b4 := inB_iff.1 h4
  have hw1 : wrap64 (R - r) = R - r := by unfold wrap64; omega
  have hw2 : wrap64 (C - c) = C - c := by unfold wrap64; omega
  rcases Bool.eq_false_or_eq_true (decide (row ≤ R - r)) with h5 | h5
  rotate_left
  · have HR := Lib.hid (show X = false by rw [HX.out, h5, Bool.and_false]; rfl)
    go_wp2_with (go_at_call 71; refine (inRange_any _ _ _ _).mono ?_; (first | rw [h3] | rw [h4]); rintro e w' ⟨rfl, rfl⟩)
    go_ret
    exact ⟨ret_bool HR.out.symm, HB.out⟩
  have HR := Lib.hid (show X = decide (col ≤ C - c) by rw [HX.out, h1, h2, h3, h4, h5]; rfl)
  go_wp2_with (go_at_call 71; refine (inRange_any _ _ _ _).mono ?_; (first | rw [h3] | rw [h4]); rintro e w' ⟨rfl, rfl⟩)
  go_ret
  exact ⟨ret_bool HR.out.symm, HB.out⟩

/-- the boxes of a label are handed back, or none -/
def RetBs (w : World) (ok : Bool) (bs : List Bx) (e : Ending) (w' : World) : Prop :=
  Below w.heap.size w w' ∧ ((ok = true ∧ ∃ a c out, out = bs ∧ e = .returned (.tuple #[.slice a out.length c, .bool true]) ∧ bxE.Own w' w.heap.size (.slice a out.length c) out) ∨ (ok = false ∧ e = .returned (.tuple #[.slice none 0 0, .bool false])))
theorem all_noL {α : Type} {p : α → Bool} {l : List α} {k : Nat} {x : α} (h : l[k]? = some x) (hx : p x = false) : l.all p = false := by
  rw [List.all_eq_false]; exact ⟨x, List.mem_of_getElem? h, by rw [hx]; decide⟩
theorem all_snocL {α : Type} {p : α → Bool} {l : List α} {k : Nat} {x : α} (h : l[k]? = some x) (ha : (l.take k).all p = true) (hx : p x = true) : (l.take (k + 1)).all p = true := by
  rw [take_snoc' h, List.all_append, ha]; simp [hx]
/-- a label as a value -/
abbrev lbV (l : Lb) (a : Option Addr) (c : Nat) : Value := .agg #[.int .i64 l.rows, .int .i64 l.cols, .slice a l.items.length c]
set_option maxRecDepth 100000 in
set_option maxHeartbeats 8000000 in
theorem boxes_any (l : Lb) (a : Option Addr) (c : Nat) (w : World) (hx : itE.At w a l.items) (ht : ∀ x ∈ l.items, x.text.size ≤ 1048576) (hn : l.items.length ≤ 1048576) :
    Calls Tryz.prog 34 #[lbV l a c] w (RetBs w l.ok (l.items.map bxO)) := by
  have HOK := Lib.hid (lbok_parts l)
  have HX := Lib.hid hx
  have HT := Lib.hid ht
  obtain ⟨ok, hok⟩ : ∃ ok, ok = l.ok := ⟨_, rfl⟩
  have HOKe := Lib.hid hok
  rw [← hok] at HOK ⊢
  clear hx ht hok
  have HSZ := Lib.hid (fun w => isRasterSize_any l.rows l.cols w)
  have HLl := Lib.hid (show ∀ x r c, boxI x = some (r, c) → onL l x = cntB l.rows l.cols x.row x.col r c from fun x r c h => onL_cnt h)
  have HLn := Lib.hid (show ∀ x, boxI x = none → onL l x = false from fun x h => onL_none h)
  obtain ⟨ON, hON⟩ : ∃ ON, ON = onL l := ⟨_, rfl⟩
  rw [← hON] at HOK HLl HLn
  clear hON
  obtain ⟨rows, cols, items⟩ := l
  dsimp only at hn HOK HX HT HSZ HLl HLn ⊢
  have HB0 := Lib.hid (ba1 w (.cells #[.int .i64 rows, .int .i64 cols, .slice a items.length c] 29 (0, 0)))
  go_enter Tryz.func34, Tryz.ntmps34
  go_wp2_with fail
  refine (HSZ.out _).mono ?_
  rintro e w' ⟨rfl, rfl⟩
  rcases Bool.eq_false_or_eq_true (sizeB rows cols) with h1 | h1
  rotate_left
  · have HR := Lib.hid (show ok = false by rw [HOK.out, h1]; rfl)
    rw [h1]
    clear h1
    go_wp2_with fail
    go_ret2
    exact ⟨HB0.out, .inr ⟨HR.out, rfl⟩⟩
  rw [h1]
  by_cases h12 : items.length ≤ 12
  rotate_left
  · have HR := Lib.hid (show ok = false by rw [HOK.out, decide_eq_false h12, Bool.and_false]; rfl)
    have h12i : (12 : Int) < (items.length : Int) := by omega
    clear h1
    go_wp2_with fail
    go_ret2
    exact ⟨HB0.out, .inr ⟨HR.out, rfl⟩⟩
  have h12i : ¬ (12 : Int) < (items.length : Int) := by omega
  have HAll := Lib.hid (show ok = items.all ON by rw [HOK.out, h1, decide_eq_true h12]; rfl)
  have hsb : (1 ≤ rows ∧ rows ≤ 400) ∧ (1 ≤ cols ∧ cols ≤ 400) := by
    rw [sizeB, Bool.and_eq_true, Bool.and_eq_true] at h1
    exact ⟨inB_iff.1 h1.1.1, inB_iff.1 h1.1.2⟩
  clear h1
  have e2 := heap2 w (.cells #[.int .i64 rows, .int .i64 cols, .slice a items.length c] 29 (0, 0)) (.cells #[.int .i64 rows, .int .i64 cols, .slice none 0 0] 101 (0, 0))
  have hB2 := ba2 w (.cells #[.int .i64 rows, .int .i64 cols, .slice a items.length c] 29 (0, 0)) (.cells #[.int .i64 rows, .int .i64 cols, .slice none 0 0] 101 (0, 0))
  obtain ⟨W, hW⟩ : ∃ W, W = (w.alloc (.cells #[.int .i64 rows, .int .i64 cols, .slice a items.length c] 29 (0, 0))).alloc (.cells #[.int .i64 rows, .int .i64 cols, .slice none 0 0] 101 (0, 0)) := ⟨_, rfl⟩
  have hWs : W.heap.size = w.heap.size + 1 + 1 := by rw [hW]; simp
  have HW := Lib.hid hW
  rw [← hW] at e2 hB2
  have K1 := Lib.hid e2.1
  have K2 := Lib.hid e2.2
  have HB2 := Lib.hid hB2
  clear hW e2 hB2
  go_wp2_with fail
  go_loopw [5, 32] (fun v i wr => ∃ (k : Nat) (a' : Option Addr) (c' : Nat) (out : List Bx), k ≤ items.length ∧ i = .int .i64 (k : Int) ∧ v = .slice a' out.length c' ∧ out = (items.take k).map bxO ∧ (items.take k).all ON = true ∧ bxE.Own wr W.heap.size v out ∧ Below W.heap.size W wr) (fun _ i _ => items.length - (intOf i).toNat)
  case atStart =>
    rw [← HW.out]
    refine ⟨0, _, 0, [], Nat.zero_le _, rfl, rfl, rfl, rfl, ?_, ba1 _ _⟩
    have h := Enc.Own.new bxE W
    rw [hWs] at h ⊢
    exact h
  case round =>
    have HWS := Lib.hid hWs
    clear hWs
    obtain ⟨k, a', c', out, hk, rfl, rfl, hout, hall, ho, hbr⟩ := hrel
    have HOut := Lib.hid hout
    have HAL := Lib.hid hall
    have HO := Lib.hid ho
    have HBR := Lib.hid hbr
    have hol : out.length ≤ 12 := by rw [hout, List.length_map, List.length_take]; omega
    have KR1 := Lib.hid (blkK hbr K1.out)
    have KR2 := Lib.hid (blkK hbr K2.out)
    have HXr := Lib.hid (HX.out.below (bt0 HB2.out hbr (Nat.le_refl _)))
    clear hout hall ho hbr
    obtain ⟨hc1, hf1⟩ := heap_cellR KR1.out
    obtain ⟨hc2, hf2⟩ := heap_cellR KR2.out
    have hl1 := blkLt KR1.out
    have hl2 := blkLt KR2.out
    by_cases hlt : k < items.length
    · have hki : (k : Int) < (items.length : Int) := by omega
      obtain ⟨x, hx⟩ : ∃ x, items[k]? = some x := by rw [List.getElem?_eq_getElem hlt]; exact ⟨_, rfl⟩
      have HXK := Lib.hid hx
      have htx := HT.out x (List.mem_of_getElem? hx)
      obtain ⟨b, o, rfl, hbl, y0, y1, y2, y3, y4, y5, y6, y7, y8⟩ := it_at HXr.out hx
      have HIB := Lib.hid (fun w => itemBox_any x htx w)
      have HLl2 := Lib.hid (HLl.out x)
      have HLn2 := Lib.hid (HLn.out x)
      have HBO := Lib.hid (fun r c h => bxO_some (x := x) (r := r) (c := c) h)
      have HBD := Lib.hid (fun r c h => boxI_bd (x := x) (r := r) (c := c) h)
      obtain ⟨BI, hBI⟩ : ∃ BI, BI = boxI x := ⟨_, rfl⟩
      rw [← hBI] at HIB HLl2 HLn2 HBO HBD
      clear hx htx hBI
      obtain ⟨kd, row, col, sc, tall, wide, nm, lev, tx⟩ := x
      dsimp only at y0 y1 y2 y3 y4 y5 y6 y7 y8 HIB HLl2 HLn2 HBO
      unfold itV at HIB
      go_wp2_with fail
      have KI := Lib.hid (push_at wr (.cells #[.int .i64 kd, .int .i64 row, .int .i64 col, .int .i64 sc, .int .i64 tall, .int .i64 wide, .string nm, .int .i64 lev, .string tx] 49 (0, 0)))
      have HBI := Lib.hid (bt0 HBR.out (ba1 wr (.cells #[.int .i64 kd, .int .i64 row, .int .i64 col, .int .i64 sc, .int .i64 tall, .int .i64 wide, .string nm, .int .i64 lev, .string tx] 49 (0, 0))) (Nat.le_refl _))
      have HOI := Lib.hid (HO.out.grown (ba1 wr (.cells #[.int .i64 kd, .int .i64 row, .int .i64 col, .int .i64 sc, .int .i64 tall, .int .i64 wide, .string nm, .int .i64 lev, .string tx] 49 (0, 0))))
      refine (HIB.out _).mono ?_
      rintro e w2 ⟨hb2, hr⟩
      have KI2 := Lib.hid (blkK hb2 KI.out)
      have HBJ := Lib.hid (bt0 HBI.out hb2 (Nat.le_refl _))
      have HOJ := Lib.hid (HOI.out.grown hb2)
      have KJ2 := Lib.hid (blkK HBJ.out K2.out)
      clear hb2 hc1 hf1 hc2 hf2 y0 y1 y2 y3 y4 y5 y6 y7 y8
      obtain ⟨hcI, hfI⟩ := heap_cellR KI2.out
      have hlI := blkLt KI2.out
      obtain ⟨hc2, hf2⟩ := heap_cellR KJ2.out
      have hl3 := blkLt KJ2.out
      rcases hr with ⟨r, cc, hr, rfl⟩ | ⟨hr, rfl⟩
      rotate_left
      · have HR := Lib.hid (show ok = false by rw [HAll.out]; exact all_noL HXK.out (HLn2.out hr))
        clear hr
        go_wp2_with fail
        go_ret2
        exact ⟨bt0 HB2.out HBJ.out (Nat.le_refl _), .inr ⟨HR.out, rfl⟩⟩
      have HR := Lib.hid hr
      have hbd := HBD.out r cc hr
      clear hr
      go_wp2_with fail
      refine (contains_any rows cols row col r cc hsb.1 hsb.2 _).mono ?_
      rw [← HLl2.out r cc HR.out]
      rintro e w3 ⟨rfl, hb3⟩
      have KI3 := Lib.hid (blkK hb3 KI2.out)
      have HBK := Lib.hid (bt0 HBJ.out hb3 (Nat.le_refl _))
      have HOK3 := Lib.hid (HOJ.out.grown hb3)
      clear hb3 hcI hfI hc2 hf2
      obtain ⟨hcI, hfI⟩ := heap_cellR KI3.out
      have hlI3 := blkLt KI3.out
      rcases Bool.eq_false_or_eq_true (ON ⟨kd, row, col, sc, tall, wide, nm, lev, tx⟩) with hon | hon
      rotate_left
      · have HR2 := Lib.hid (show ok = false by rw [HAll.out]; exact all_noL HXK.out hon)
        rw [hon]
        clear hon
        go_wp2_with fail
        go_ret2
        exact ⟨bt0 HB2.out HBK.out (Nat.le_refl _), .inr ⟨HR2.out, rfl⟩⟩
      have HON := Lib.hid (all_snocL HXK.out HAL.out hon)
      rw [hon]
      clear hon
      go_wp2_with (at_builtin; refine wpList_append_bx rfl (.tmp 55) (.tmp 63) rfl W.heap.size (.slice a' out.length c') out ⟨row, col, r, cc⟩ rfl (HOK3.out.grown (ba1 _ _)) w3.heap.size rfl (push_at w3 _) (by omega) (by have := HBK.out.size; simp; omega) ?h9)
      case h9 =>
      intro a4 c4 out4 w4 he4 ho4 hg4 hb4
      have HE4 := Lib.hid he4
      have HO4 := Lib.hid ho4
      have HB4 := Lib.hid ((HBK.out.alloc HBK.out.size _).trans hb4)
      clear he4 ho4 hg4 hb4 hcI hfI
      go_wp2_with fail
      refine ⟨⟨k + 1, a4, c4, out4, by omega, by go_num, rfl, ?_, HON.out, HO4.out, HB4.out⟩, by simp [intOf]; omega⟩
      rw [HE4.out, HOut.out, take_snoc' HXK.out, List.map_append, List.map_cons, List.map_nil, HBO.out r cc HR.out]
    · have hki : ¬ (k : Int) < (items.length : Int) := by omega
      have HR := Lib.hid (show ok = true by rw [HAll.out]; have h := HAL.out; rwa [List.take_of_length_le (by omega)] at h)
      have HOut2 := Lib.hid (show out = items.map bxO by have h := HOut.out; rwa [List.take_of_length_le (by omega)] at h)
      go_wp2_with fail
      go_ret2
      exact ⟨bt0 HB2.out HBR.out (Nat.le_refl _), .inl ⟨HR.out, a', c', out, HOut2.out, rfl, HO.out.weak (by have := HWS.out; omega)⟩⟩

set_option maxRecDepth 100000 in
theorem isLabel_any (l : Lb) (a : Option Addr) (c : Nat) (w : World) (hx : itE.At w a l.items) (ht : ∀ x ∈ l.items, x.text.size ≤ 1048576) (hn : l.items.length ≤ 1048576) :
    Calls Tryz.prog 25 #[lbV l a c] w fun e w' => e = .returned (.bool l.ok) ∧ Below w.heap.size w w' := by
  have HC := Lib.hid (fun w (hx : itE.At w a l.items) => boxes_any l a c w hx ht hn)
  have HX := Lib.hid hx
  obtain ⟨ok, hok⟩ : ∃ ok, ok = l.ok := ⟨_, rfl⟩
  rw [← hok] at HC ⊢
  clear hx ht hok hn
  obtain ⟨rows, cols, items⟩ := l
  dsimp only at HX HC ⊢
  have HB0 := Lib.hid (ba1 w (.cells #[.int .i64 rows, .int .i64 cols, .slice a items.length c] 29 (0, 0)))
  go_enter Tryz.func25, Tryz.ntmps25
  go_wp2_with fail
  refine (HC.out _ (HX.out.below HB0.out)).mono ?_
  rintro e w1 ⟨hb1, hr⟩
  have HB1 := Lib.hid (bt0 HB0.out hb1 (Nat.le_refl _))
  clear hb1
  rcases hr with ⟨ho, a1, c1, out, -, rfl, -⟩ | ⟨ho, rfl⟩
  · have HO := Lib.hid ho
    clear ho
    go_wp2_with fail
    go_ret
    exact ⟨ret_bool HO.out.symm, HB1.out⟩
  · have HO := Lib.hid ho
    clear ho
    go_wp2_with fail
    go_ret
    exact ⟨ret_bool HO.out.symm, HB1.out⟩

end Go.Proofs.YtlcglclojlffgaaGreatDoor
namespace Go.Proofs.YtlcglclojlffgaaGreatDoor
open Go.RowKit

theorem below_drewN {B : Nat} (w : World) (k : Nat) : Below B w (w.drewN k) := ⟨rfl, rfl, rfl, Nat.le_refl _, fun _ _ => rfl⟩
/-- what readDecimal answers -/
def RetDecR (w : World) (o : Option Int) (e : Ending) (w' : World) : Prop :=
  ∃ v : Int, e = .returned (.tuple #[.int .i64 v, .bool o.isSome]) ∧ (∀ n, o = some n → v = n) ∧ Below w.heap.size w w'
theorem retDecR_no {w w' : World} {o : Option Int} (h : o = none) (v : Int) (hb : Below w.heap.size w w') : RetDecR w o (.returned (.tuple #[.int .i64 v, .bool false])) w' := by
  subst h; exact ⟨v, rfl, fun n e => (by cases e), hb⟩
theorem retDecR_yes {w w' : World} {o : Option Int} {v : Int} (h : o = some v) (hb : Below w.heap.size w w') : RetDecR w o (.returned (.tuple #[.int .i64 v, .bool true])) w' := by
  subst h; exact ⟨v, rfl, fun n e => Option.some.inj e, hb⟩
theorem get0 {s : ByteArray} (h : 0 < s.size) : s.data.toList[0]? = some s[0] := by
  have hl : s.data.toList.length = s.size := rfl
  rw [List.getElem?_eq_getElem (by omega)]
  rfl

set_option maxRecDepth 100000 in
set_option maxHeartbeats 1000000 in
theorem readDecimal_any (s : ByteArray) (w : World) (hs : s.size ≤ 1048576) (hE : Env w) :
    Calls Tryz.prog 32 #[.string s] w (RetDecR w (rdec s.data.toList)) := by
  have HE := Lib.hid hE
  clear hE
  have hl : s.data.toList.length = s.size := rfl
  by_cases h0 : s.size = 0
  · have hd : s.data.toList = [] := List.eq_nil_of_length_eq_zero (by omega)
    have e : s = ⟨#[]⟩ := by apply ByteArray.ext; apply Array.toList_inj.1; exact hd
    subst e
    have HN := Lib.hid (show rdec (ByteArray.data ⟨#[]⟩).toList = none from rfl)
    go_enter Tryz.func32, Tryz.ntmps32
    go_wp2_with fail
    go_ret2
    exact retDecR_no HN.out _ (Below.refl _ _)
  have hp : 0 < s.size := by omega
  have hne : s.data.toList ≠ [] := fun e => by rw [e] at hl; simp at hl; omega
  have e0 : (s.toList == []) = false := by
    rw [Bool.eq_false_iff]; intro e
    rw [beq_iff_eq, ByteArray.toList_eq] at e
    exact hne e
  have hx := get0 hp
  obtain ⟨x, hxe⟩ : ∃ x, s[0] = x := ⟨_, rfl⟩
  rw [hxe] at hx
  have HX := Lib.hid hx
  clear hx hne h0
  by_cases h1 : 1 < s.size ∧ x.toNat = 48
  · have hi1 : (1 : Int) < ((s.size : Nat) : Int) := by omega
    have hi2 : (((s[0].toNat : Nat) : Int) == 48) = true := by rw [hxe, h1.2]; rfl
    have HN := Lib.hid (show rdec s.data.toList = none by
      rw [rdec, if_pos]
      exact .inr (.inl ⟨by omega, by rw [HX.out, show x = 48 from UInt8.toNat_inj.1 h1.2]⟩))
    clear h1 hxe
    go_enter Tryz.func32, Tryz.ntmps32
    go_wp2_with fail
    go_ret2
    exact retDecR_no HN.out _ (Below.refl _ _)
  by_cases h3 : x.toNat = 43
  · have hi2 : (((s[0].toNat : Nat) : Int) == 48) = false := by rw [hxe, h3]; rfl
    have hi3 : (((s[0].toNat : Nat) : Int) == 43) = true := by rw [hxe, h3]; rfl
    have HN := Lib.hid (show rdec s.data.toList = none by
      rw [rdec, if_pos]
      exact .inr (.inr (.inl (by rw [HX.out, show x = 43 from UInt8.toNat_inj.1 h3]))))
    clear h1 h3 hxe
    by_cases h5 : 1 < s.size
    · have hi1 : (1 : Int) < ((s.size : Nat) : Int) := by omega
      go_enter Tryz.func32, Tryz.ntmps32
      go_wp2_with fail
      go_ret2
      exact retDecR_no HN.out _ (Below.refl _ _)
    · have hi1 : ¬ (1 : Int) < ((s.size : Nat) : Int) := by omega
      go_enter Tryz.func32, Tryz.ntmps32
      go_wp2_with fail
      go_ret2
      exact retDecR_no HN.out _ (Below.refl _ _)
  by_cases h4 : x.toNat = 45
  · have hi2 : (((s[0].toNat : Nat) : Int) == 48) = false := by rw [hxe, h4]; rfl
    have hi3 : (((s[0].toNat : Nat) : Int) == 43) = false := by rw [hxe, h4]; rfl
    have hi4 : (((s[0].toNat : Nat) : Int) == 45) = true := by rw [hxe, h4]; rfl
    have HN := Lib.hid (show rdec s.data.toList = none by
      rw [rdec, if_pos]
      exact .inr (.inr (.inr (by rw [HX.out, show x = 45 from UInt8.toNat_inj.1 h4]))))
    clear h1 h3 h4 hxe
    by_cases h5 : 1 < s.size
    · have hi1 : (1 : Int) < ((s.size : Nat) : Int) := by omega
      go_enter Tryz.func32, Tryz.ntmps32
      go_wp2_with fail
      go_ret2
      exact retDecR_no HN.out _ (Below.refl _ _)
    · have hi1 : ¬ (1 : Int) < ((s.size : Nat) : Int) := by omega
      go_enter Tryz.func32, Tryz.ntmps32
      go_wp2_with fail
      go_ret2
      exact retDecR_no HN.out _ (Below.refl _ _)
  have hi3 : (((s[0].toNat : Nat) : Int) == 43) = false := by rw [hxe]; simp; omega
  have hi4 : (((s[0].toNat : Nat) : Int) == 45) = false := by rw [hxe]; simp; omega
  have HN := Lib.hid (show rdec s.data.toList = match Lib.parseIntB 64 s.data.toList with | .ok n => some n | _ => none by
    rw [rdec, if_neg]
    case hnc =>
      rintro (h | ⟨h, h2⟩ | h | h)
      · rw [h] at hl; simp at hl; omega
      · rw [HX.out] at h2
        have := Option.some.inj h2
        exact h1 ⟨by omega, by rw [this]; rfl⟩
      · rw [HX.out] at h
        have := Option.some.inj h
        exact h3 (by rw [this]; rfl)
      · rw [HX.out] at h
        have := Option.some.inj h
        exact h4 (by rw [this]; rfl)
    all_goals (cases Lib.parseIntB 64 s.data.toList <;> rfl))
  have hg : Hid (∀ (e : Ending) (w' : World), ((∃ n, Lib.parseIntB 64 s.data.toList = .ok n ∧ e = .returned (.tuple #[.int .i64 n, .nilIface])) ∨ ((∀ n, Lib.parseIntB 64 s.data.toList ≠ .ok n) ∧ ∃ v t p, e = .returned (.tuple #[.int .i64 v, .iface t p]))) ∧ Below w.heap.size w w' → ((∃ n, rdec s.data.toList = some n ∧ e = .returned (.tuple #[.int .i64 n, .nilIface])) ∨ (rdec s.data.toList = none ∧ ∃ v t p, e = .returned (.tuple #[.int .i64 v, .iface t p]))) ∧ Below w.heap.size w w') := Lib.hid (by
    rintro e w' ⟨⟨n, hn, he⟩ | ⟨hn, he⟩, hb⟩
    · exact ⟨.inl ⟨n, by rw [HN.out, hn], he⟩, hb⟩
    · refine ⟨.inr ⟨?_, he⟩, hb⟩
      rw [HN.out]
      split
      · rename_i n hn2; exact absurd hn2 (hn n)
      · rfl)
  have hfin : (1 < s.size ∧ (((s[0].toNat : Nat) : Int) == 48) = false) ∨ ¬ 1 < s.size := by
    by_cases h5 : 1 < s.size
    · refine .inl ⟨h5, ?_⟩
      rw [hxe]; simp; intro h; exact h1 ⟨h5, by omega⟩
    · exact .inr h5
  clear h1 h3 h4 hxe
  rcases hfin with ⟨h5, hi2⟩ | h5
  · have hi1 : (1 : Int) < ((s.size : Nat) : Int) := by omega
    go_enter Tryz.func32, Tryz.ntmps32
    go_wp2_with fail
    refine (parse_any s w (by omega) HE.out).mono ?_
    intro e w1 h9
    obtain ⟨⟨n, hn, rfl⟩ | ⟨hn, v, t, p, rfl⟩, hb1⟩ := hg.out _ _ h9
    · have HN2 := Lib.hid hn
      have HB1 := Lib.hid hb1
      clear h9 hn hb1
      go_wp2_with fail
      go_quiet (fail)
      go_wp2_with fail
      go_ret2
      exact retDecR_yes HN2.out (HB1.out.trans (below_drewN _ _))
    · have HN2 := Lib.hid hn
      have HB1 := Lib.hid hb1
      clear h9 hn hb1
      go_wp2_with fail
      go_quiet (fail)
      go_wp2_with fail
      go_ret2
      exact retDecR_no HN2.out _ (HB1.out.trans (below_drewN _ _))
  · have hi1 : ¬ (1 : Int) < ((s.size : Nat) : Int) := by omega
    go_enter Tryz.func32, Tryz.ntmps32
    go_wp2_with fail
    refine (parse_any s w (by omega) HE.out).mono ?_
    intro e w1 h9
    obtain ⟨⟨n, hn, rfl⟩ | ⟨hn, v, t, p, rfl⟩, hb1⟩ := hg.out _ _ h9
    · have HN2 := Lib.hid hn
      have HB1 := Lib.hid hb1
      clear h9 hn hb1
      go_wp2_with fail
      go_quiet (fail)
      go_wp2_with fail
      go_ret2
      exact retDecR_yes HN2.out (HB1.out.trans (below_drewN _ _))
    · have HN2 := Lib.hid hn
      have HB1 := Lib.hid hb1
      clear h9 hn hb1
      go_wp2_with fail
      go_quiet (fail)
      go_wp2_with fail
      go_ret2
      exact retDecR_no HN2.out _ (HB1.out.trans (below_drewN _ _))

end Go.Proofs.YtlcglclojlffgaaGreatDoor
namespace Go.Proofs.YtlcglclojlffgaaGreatDoor
open Go.RowKit

/-- what readItem answers -/
def RetItR (w : World) (o : Option It) (e : Ending) (w' : World) : Prop :=
  ∃ x : It, e = .returned (.tuple #[itV x, .bool o.isSome]) ∧ (∀ y, o = some y → x = y) ∧ Below w.heap.size w w'
theorem retItR_no {w w' : World} {o : Option It} (h : o = none) (x : It) (hb : Below w.heap.size w w') : RetItR w o (.returned (.tuple #[itV x, .bool false])) w' := by
  subst h; exact ⟨x, rfl, fun n e => (by cases e), hb⟩
theorem retItR_yes {w w' : World} {o : Option It} {x : It} (h : o = some x) (hb : Below w.heap.size w w') : RetItR w o (.returned (.tuple #[itV x, .bool true])) w' := by
  subst h; exact ⟨x, rfl, fun n e => Option.some.inj e, hb⟩
theorem word_yes {a b : ByteArray} (h : a.data.toList = b.data.toList) : (a.toList == b.toList) = true := by
  rw [ByteArray.ext (Array.toList_inj.1 h)]; simp
theorem word_no {a b : ByteArray} (h : a.data.toList ≠ b.data.toList) : (a.toList == b.toList) = false := by
  rw [Bool.eq_false_iff]
  intro e
  rw [beq_iff_eq, ByteArray.toList_eq, ByteArray.toList_eq] at e
  exact h e
theorem word_sz (s : ByteArray) (c : UInt8) : (⟨(Lib.cut s.data.toList (⟨#[c]⟩ : ByteArray).data.toList).1.toArray⟩ : ByteArray).size ≤ s.size := by
  have h := (cut_len c s.data.toList).2
  have e := cut_word s.data.toList c
  have hm := h _ (List.mem_of_mem_head? (by rw [e]; exact rfl))
  show (Lib.cut s.data.toList [c]).1.toArray.size ≤ _
  simpa using hm

theorem ownI_new (w : World) : OwnI (w.alloc (.cells #[] 2 (0, 0))) w.heap.size (.slice (some ⟨w.heap.size, 0, none⟩) 0 0) [] := World.ownsRow_lit (base := w.heap.size) (size := 1) w #[] 0 (Nat.le_refl _) (by unfold maxLen; omega) rfl
theorem cntW_cases (w : List UInt8) : cntW w = 0 ∨ ∃ n : Nat, cntW w = (n : Int) ∧ (n = 5 ∨ n = 7) := by
  unfold cntW
  split
  · exact .inr ⟨7, rfl, .inr rfl⟩
  · split
    · exact .inr ⟨5, rfl, .inl rfl⟩
    · split
      · exact .inr ⟨5, rfl, .inl rfl⟩
      · exact .inl rfl

set_option maxRecDepth 100000 in
set_option maxHeartbeats 4000000 in
theorem readItem_any (s : ByteArray) (w : World) (hs : s.size ≤ 1048576) (hE : Env w) :
    Calls Tryz.prog 33 #[.string s] w (RetItR w (itemI s.data.toList)) := by
  have HE := Lib.hid hE
  obtain ⟨m, hm⟩ := hE.mx
  have HC := Lib.hid (fun w' h => Tryz.strings_Cut s ⟨#[32]⟩ m w' (by omega) h)
  have HM := Lib.hid (fun o => ((ba1 w o).cell (p := ⟨0, 0, none⟩) (lt_of_cell hm)).trans hm)
  have hws := word_sz s 32
  have hwd := cut_word s.data.toList 32
  obtain ⟨WD, hWD⟩ : ∃ WD : ByteArray, WD = ⟨(Lib.cut s.data.toList (⟨#[32]⟩ : ByteArray).data.toList).1.toArray⟩ := ⟨_, rfl⟩
  rw [← hWD] at HC hws
  have HWD := Lib.hid (show (cut 32 s.data.toList).head? = some WD.data.toList by rw [hwd, hWD])
  have HWZ := Lib.hid (show WD.size ≤ maxLen by unfold maxLen; omega)
  clear hE hm hWD hwd hws
  obtain ⟨O, hO⟩ : ∃ O, O = itemI s.data.toList := ⟨_, rfl⟩
  have HO := Lib.hid hO
  rw [← hO]
  clear hO
  obtain ⟨cn, hcn⟩ : ∃ cn : Int, cntW WD.data.toList = cn := ⟨_, rfl⟩
  have HCN := Lib.hid hcn
  clear hcn
  have hmm := @run_makeMap Tryz.prog
  have K00 := Lib.hid (push_at w (.cells #[.int .i64 0, .int .i64 0, .int .i64 0, .int .i64 0, .int .i64 0, .int .i64 0, .string ⟨#[]⟩, .int .i64 0, .string ⟨#[]⟩] 49 (0, 0)))
  go_enter Tryz.func33, Tryz.ntmps33
  go_wp2_with fail
  refine (HC.out _ (HM.out _)).mono ?_
  rintro e w1 ⟨rfl, nn, rfl⟩
  obtain ⟨W, hW⟩ : ∃ W, W = (w.alloc (.cells #[.int .i64 0, .int .i64 0, .int .i64 0, .int .i64 0, .int .i64 0, .int .i64 0, .string ⟨#[]⟩, .int .i64 0, .string ⟨#[]⟩] 49 (0, 0))).drewN nn := ⟨_, rfl⟩
  have HB := Lib.hid (show Below w.heap.size w W by rw [hW]; exact (ba1 _ _).trans (below_drewN _ _))
  have K0 := Lib.hid (show W.heap[w.heap.size]? = some (.cells #[.int .i64 0, .int .i64 0, .int .i64 0, .int .i64 0, .int .i64 0, .int .i64 0, .string ⟨#[]⟩, .int .i64 0, .string ⟨#[]⟩] 49 (0, 0)) by rw [hW]; exact K00.out)
  have hWs : W.heap.size = w.heap.size + 1 := by rw [hW]; simp [World.drewN]
  rw [← hW]
  obtain ⟨w2, w3, w4, r1, r2, r3, hb4, hlk⟩ := words_map W
  have HB4 := Lib.hid (bt0 HB.out hb4 (by omega))
  have K4 := Lib.hid (blkK hb4 K0.out)
  have HLK := Lib.hid (fun wx (hx : Below w4.heap.size w4 wx) => hlk wx hx WD HWZ.out)
  have hl4 := HLK.out w4 (Below.refl _ _)
  rw [HCN.out] at hl4 HLK
  have HWS := Lib.hid hWs
  have HZ4 := Lib.hid hb4.size
  clear hW hlk hb4 hWs K00
  have hcc := cntW_cases WD.data.toList
  rw [HCN.out] at hcc
  rcases hcc with rfl | ⟨n, rfl, hn⟩
  · have HN := Lib.hid (HO.out.trans (itemI_word HWD.out HCN.out))
    go_wp2_with fail
    refine (splitN_zero _ _ _).mono ?_
    rintro e w5 ⟨rfl, rfl⟩
    obtain ⟨hc4, hf4⟩ := heap_cellR K4.out
    have hlt4 := blkLt K4.out
    go_wp2_with fail
    refine bodyPost_ret (v := .tuple #[.agg #[.int .i64 0, .int .i64 0, .int .i64 0, .int .i64 0, .int .i64 0, .int .i64 0, .string ⟨#[]⟩, .int .i64 0, .string ⟨#[]⟩], .bool false]) (by simp [results, Tryz.results33, go_sem, hc4]) rfl (retItR_no HN.out ⟨0, 0, 0, 0, 0, 0, ⟨#[]⟩, 0, ⟨#[]⟩⟩ ?_)
    iterate 9 (refine Below.setCell ?_ (by dsimp only; omega) _)
    exact HB4.out
  have hn0 : n ≠ 0 := by omega
  have HCS := Lib.hid (itemI_len HWD.out HCN.out hn0)
  go_wp2_with fail
  refine (splitN_any s 32 n _ hs (by omega) (by omega) (HE.out.next HB4.out)).mono ?_
  rintro e w5 ⟨ss, cp, hss, rfl, hst, hb5, hcp⟩
  have HSS := Lib.hid hss
  have HST := Lib.hid hst
  have HB5 := Lib.hid (bt0 HB4.out hb5 (Nat.le_refl _))
  have K5 := Lib.hid (blkK hb5 K4.out)
  have hl5 := HLK.out w5 hb5
  have hlen := congrArg List.length hss
  rw [bytesL, List.length_map] at hlen
  have HLN := Lib.hid hlen
  have HLZ := Lib.hid (show ∀ z ∈ ss, z.size ≤ 1048576 from fun z hz => Nat.le_trans ((cutN_len 32 (n - 1) s.data.toList).2.2 _ (by rw [← hss]; exact List.mem_map.2 ⟨z, hz, rfl⟩)) hs)
  have hw45 : w4.heap.size < w5.heap.size := by
    have h1 := (cutN_len 32 (n - 1) s.data.toList).2.1
    obtain ⟨b0, o0, e0, hc0⟩ := hst 0 (by rw [hlen]; exact h1)
    simp only [Option.some.injEq, Addr.mk.injEq, and_true] at e0
    obtain ⟨rfl, rfl⟩ := e0
    exact lt_of_cell hc0
  clear hss hst hb5 hlen hl4
  have hni : ((n : Int) == 0) = false := by simp; omega
  by_cases hsn : ss.length = n
  rotate_left
  · have HN := Lib.hid (HO.out.trans (HCS.out (by rw [← HLN.out]; exact hsn)))
    have hsi : ((ss.length : Int) != (n : Int)) = true := by simp; omega
    obtain ⟨hc5, hf5⟩ := heap_cellR K5.out
    have hlt5 := blkLt K5.out
    go_wp2_with fail
    refine bodyPost_ret (v := .tuple #[.agg #[.int .i64 0, .int .i64 0, .int .i64 0, .int .i64 0, .int .i64 0, .int .i64 0, .string ⟨#[]⟩, .int .i64 0, .string ⟨#[]⟩], .bool false]) (by simp [results, Tryz.results33, go_sem, hc5]) rfl (retItR_no HN.out ⟨0, 0, 0, 0, 0, 0, ⟨#[]⟩, 0, ⟨#[]⟩⟩ ?_)
    iterate 9 (refine Below.setCell ?_ (by dsimp only; omega) _)
    exact HB5.out
  have hsi : ((ss.length : Int) != (n : Int)) = false := by simp; omega
  go_wp2_with fail
  go_loopw [9, 11, 12, 13, 46] (fun v _ _ _ i wr => ∃ (k : Nat) (ns : List Int), k ≤ 3 ∧ i = .int .i64 (k : Int) ∧ allO rdec (((bytesL ss).drop 1).take k) = some ns ∧ ns.length = k ∧ OwnI wr w5.heap.size v ns ∧ Below w5.heap.size w5 wr) (fun _ _ _ _ i _ => 3 - (intOf i).toNat)
  case atStart => exact ⟨0, [], by omega, rfl, rfl, rfl, ownI_new w5, ba1 _ _⟩
  case round =>
    obtain ⟨k, ns, hk, rfl, hall, hnl, ho, hb⟩ := hrel
    have HALL := Lib.hid hall
    have HNL := Lib.hid hnl
    have hnl3 : ns.length ≤ 3 := by omega
    have HBR := Lib.hid hb
    obtain ⟨a, c, rfl, -⟩ := ho.read
    have HO1 := Lib.hid ho
    have KR := Lib.hid (blkK hb K5.out)
    have HZR := Lib.hid hb.size
    have HBW := Lib.hid (bt0 HB5.out hb (Nat.le_refl _))
    have HZ5 := Lib.hid HB5.out.size
    clear hall ho hb hnl
    obtain ⟨hcr, hfr⟩ := heap_cellR KR.out
    have hltr := blkLt KR.out
    by_cases hlt : k < 3
    · have hki : (k : Int) < 3 := by omega
      obtain ⟨b, o, z, ea, hzk, hbl, hcz⟩ := (HST.out.below HBR.out).at (k := k + 1) (by omega)
      simp only [Option.some.injEq, Addr.mk.injEq, and_true] at ea
      obtain ⟨rfl, rfl⟩ := ea
      rw [show 0 + (k + 1) = 1 + k by omega] at hcz
      have hzs := HLZ.out z (List.mem_of_getElem? hzk)
      have HPK := Lib.hid (show (bytesL ss)[k + 1]? = some z.data.toList by rw [bytesL, List.getElem?_map, hzk]; rfl)
      clear hzk
      go_wp2_with fail
      refine (readDecimal_any z _ hzs (HE.out.next HBW.out)).mono ?_
      rintro e w6 ⟨v, rfl, hv, hb6⟩
      have HV := Lib.hid hv
      have HB6 := Lib.hid (bt0 HBR.out hb6 (Nat.le_refl _))
      have HBW6 := Lib.hid (bt0 HBW.out hb6 (Nat.le_refl _))
      have HO6 := Lib.hid (HO1.out.grown hb6)
      have K6 := Lib.hid (blkK hb6 KR.out)
      have HZ6 := Lib.hid hb6.size
      clear hv hb6 hcz hcr hfr
      cases hd : rdec z.data.toList with
      | none =>
        have HN := Lib.hid (HO.out.trans (itemI_bad HWD.out HCN.out hn0 HSS.out (by rw [bytesL, List.length_map]; exact hsn) hlt HPK.out hd))
        have e9 : (none : Option Int).isSome = false := rfl
        rw [e9]
        obtain ⟨hc6, hf6⟩ := heap_cellR K6.out
        have hlt6 := blkLt K6.out
        clear hd e9
        go_wp2_with fail
        refine bodyPost_ret (v := .tuple #[.agg #[.int .i64 0, .int .i64 0, .int .i64 0, .int .i64 0, .int .i64 0, .int .i64 0, .string ⟨#[]⟩, .int .i64 0, .string ⟨#[]⟩], .bool false]) (by simp [results, Tryz.results33, go_sem, hc6]) rfl (retItR_no HN.out ⟨0, 0, 0, 0, 0, 0, ⟨#[]⟩, 0, ⟨#[]⟩⟩ ?_)
        iterate 9 (refine Below.setCell ?_ (by dsimp only; omega) _)
        exact HBW6.out
      | some u =>
        obtain rfl := HV.out u hd
        have HD := Lib.hid (allO_take (f := rdec) (show ((bytesL ss).drop 1)[k]? = some z.data.toList by rw [List.getElem?_drop, Nat.add_comm]; exact HPK.out) HALL.out hd)
        have e9 : (some v : Option Int).isSome = true := rfl
        rw [e9]
        clear hd e9
        have hz6 := HZ6.out
        have hz5 := HZR.out
        go_wp2_with (at_builtin; refine wpList_append_i1 (o := _) rfl (.tmp 58) (.tmp 60) 67 Tryz.underlying67 rfl w5.heap.size (.slice a ns.length c) ns v rfl (HO6.out.grown (ba1 _ _)) w6.heap.size rfl (push_at _ _) ?c3 ?c4 ?h8)
        case c3 => omega
        case c4 => simp; omega
        case h8 =>
        intro a8 c8 l8 w8 he8 ho8 _ hb8
        have HE8 := Lib.hid he8
        have HO8 := Lib.hid ho8
        have HB8 := Lib.hid ((bt0 HB6.out (ba1 _ _) (Nat.le_refl _)).trans hb8)
        have HL8 := Lib.hid (show l8.length = k + 1 by rw [he8, List.length_append, HNL.out]; rfl)
        clear he8 ho8 hb8
        go_wp2_with fail
        exact ⟨⟨k + 1, l8, by omega, by go_num, by rw [HE8.out]; exact HD.out, HL8.out, HO8.out, HB8.out⟩, by simp [intOf]; omega⟩
    · obtain rfl : k = 3 := by omega
      have hki : ¬ ((3 : Nat) : Int) < 3 := by omega
      obtain ⟨g, rfl, hgb, -, hgl⟩ := HO1.out.block (by rw [HNL.out]; omega)
      obtain ⟨x, y, z, rfl⟩ : ∃ x y z, ns = [x, y, z] := by
        match ns, HNL.out with
        | [x, y, z], _ => exact ⟨x, y, z, rfl⟩
      have hx0 : wr.cell? ⟨g, 0, none⟩ = some (.int .i64 x) := World.ownsRow.cellAt HO1.out 0 (by simp)
      have hx1 : wr.cell? ⟨g, 1, none⟩ = some (.int .i64 y) := World.ownsRow.cellAt HO1.out 1 (by simp)
      have hx2 : wr.cell? ⟨g, 2, none⟩ = some (.int .i64 z) := World.ownsRow.cellAt HO1.out 2 (by simp)
      have HAL := Lib.hid (show allO rdec (((bytesL ss).drop 1).take 3) = some [x, y, z] from HALL.out)
      have hl3 : ([x, y, z] : List Int).length = 3 := rfl
      clear HALL HNL hnl3
      go_wp2_with fail
      go_region
      obtain ⟨W9, hW9⟩ : ∃ W9, W9 = (wr.alloc (.cells #[.int .i64 0, .int .i64 x, .int .i64 y, .int .i64 0, .int .i64 0, .int .i64 0, .string ⟨#[]⟩, .int .i64 0, .string ⟨#[]⟩] 49 (0, 0))).drew := ⟨_, rfl⟩
      have HB9 := Lib.hid (show Below wr.heap.size wr W9 by rw [hW9]; exact (ba1 _ _).trans (below_drewN _ 1))
      have KX := Lib.hid (show W9.heap[wr.heap.size]? = some (.cells #[.int .i64 0, .int .i64 x, .int .i64 y, .int .i64 0, .int .i64 0, .int .i64 0, .string ⟨#[]⟩, .int .i64 0, .string ⟨#[]⟩] 49 (0, 0)) by rw [hW9]; exact push_at _ _)
      rw [← hW9]
      have K9 := Lib.hid (blkK HB9.out KR.out)
      have HBW9 := Lib.hid (bt0 HBW.out HB9.out (Nat.le_refl _))
      have hx2' : W9.cell? ⟨g, 2, none⟩ = some (.int .i64 z) := (HB9.out.cell (p := ⟨g, 2, none⟩) hgl).trans hx2
      have HST9 := Lib.hid ((HST.out.below HBR.out).below HB9.out)
      have hg9 : ¬ wr.heap.size = g := by omega
      have hw49 : ¬ wr.heap.size = w4.heap.size := by have := HZR.out; omega
      have hw9 : ¬ wr.heap.size = w.heap.size := by have := blkLt K4.out; have := HZR.out; omega
      have hw99 : ¬ w.heap.size = wr.heap.size := fun e => hw9 e.symm
      have hlX := blkLt KX.out
      have hl9 := blkLt K9.out
      have hg99 : g < W9.heap.size := by omega
      have h49 : w4.heap.size < W9.heap.size := by have := HZR.out; omega
      clear hx0 hx1 hx2 hW9 hcr hfr
      obtain ⟨hcX, hfX⟩ := heap_cellR KX.out
      obtain ⟨hc9, hf9⟩ := heap_cellR K9.out
      rcases cntW_pos HCN.out hn0 with ⟨rfl, hw | hw⟩ | ⟨rfl, hw⟩
      · obtain ⟨p0, p1, p2, p3, p4, rfl⟩ : ∃ p0 p1 p2 p3 p4, ss = [p0, p1, p2, p3, p4] := by
          match ss, hsn with
          | [p0, p1, p2, p3, p4], _ => exact ⟨p0, p1, p2, p3, p4, rfl⟩
        obtain ⟨b4, o4, e4, hp4⟩ := HST9.out 4 (by simp)
        simp only [Option.some.injEq, Addr.mk.injEq, and_true] at e4
        obtain ⟨rfl, rfl⟩ := e4
        have hp4 : W9.cell? ⟨w4.heap.size, 4, none⟩ = some (.string p4) := hp4
        have HN := Lib.hid (HO.out.trans (itemI_txt (by rw [← hw]; exact HWD.out) HSS.out.symm HAL.out))
        have hq1 : (WD.toList == [116, 101, 120, 116]) = true := by simpa using word_yes (b := ⟨#[116, 101, 120, 116]⟩) hw
        clear hw
        go_wp2_with fail
        go_region
        go_wp2_with fail
        refine bodyPost_ret (v := .tuple #[.agg #[.int .i64 1, .int .i64 x, .int .i64 y, .int .i64 z, .int .i64 0, .int .i64 0, .string ⟨#[]⟩, .int .i64 0, .string p4], .bool true]) (by simp [results, Tryz.results33, go_sem, hc9]) rfl (retItR_yes (x := ⟨1, x, y, z, 0, 0, ⟨#[]⟩, 0, p4⟩) (HN.out.trans (by rw [ba_list])) ?_)
        refine Below.trans ?_ (below_drewN _ 1)
        iterate 12 (refine Below.setCell ?_ (by dsimp only; omega) _)
        exact HBW9.out
      · obtain ⟨p0, p1, p2, p3, p4, rfl⟩ : ∃ p0 p1 p2 p3 p4, ss = [p0, p1, p2, p3, p4] := by
          match ss, hsn with
          | [p0, p1, p2, p3, p4], _ => exact ⟨p0, p1, p2, p3, p4, rfl⟩
        obtain ⟨b4, o4, e4, hp4⟩ := HST9.out 4 (by simp)
        simp only [Option.some.injEq, Addr.mk.injEq, and_true] at e4
        obtain ⟨rfl, rfl⟩ := e4
        have hp4 : W9.cell? ⟨w4.heap.size, 4, none⟩ = some (.string p4) := hp4
        have hps := HLZ.out p4 (by simp)
        have HY := Lib.hid (fun u (hu : rdec p4.data.toList = some u) => HO.out.trans (itemI_lin (by rw [← hw]; exact HWD.out) HSS.out.symm HAL.out hu))
        have HNo := Lib.hid (fun (hu : rdec p4.data.toList = none) => HO.out.trans (itemI_lin_no (by rw [← hw]; exact HWD.out) HSS.out.symm hu))
        have hq1 : (WD.toList == [116, 101, 120, 116]) = false := by
          have h := word_no (a := WD) (b := ⟨#[116, 101, 120, 116]⟩) (by rw [hw]; decide)
          simpa using h
        have hq2 : (WD.toList == [108, 105, 110, 101]) = true := by simpa using word_yes (b := ⟨#[108, 105, 110, 101]⟩) hw
        clear hw
        go_wp2_with fail
        go_region
        obtain ⟨WA, hWA⟩ : ∃ WA, WA = ((W9.setCell ⟨wr.heap.size, 0, none⟩ (.int .i64 2)).setCell ⟨wr.heap.size, 4, none⟩ (.int .i64 z)).drew := ⟨_, rfl⟩
        rw [← hWA]
        have KXA := Lib.hid (show WA.heap[wr.heap.size]? = some (.cells #[.int .i64 2, .int .i64 x, .int .i64 y, .int .i64 0, .int .i64 z, .int .i64 0, .string ⟨#[]⟩, .int .i64 0, .string ⟨#[]⟩] 49 (0, 0)) by rw [hWA]; exact src_set (src_set KX.out 0 _) 4 _)
        have hpA : WA.cell? ⟨w4.heap.size, 4, none⟩ = some (.string p4) := by
          rw [hWA]
          exact ((World.cell?_setCell_far _ _ _ _ (fun e => hw49 e)).trans ((World.cell?_setCell_far _ _ _ _ (fun e => hw49 e)).trans hp4))
        have KA := Lib.hid (show WA.heap[w.heap.size]? = some (.cells #[.int .i64 0, .int .i64 0, .int .i64 0, .int .i64 0, .int .i64 0, .int .i64 0, .string ⟨#[]⟩, .int .i64 0, .string ⟨#[]⟩] 49 (0, 0)) by
          rw [hWA]
          exact ((heap_setCell_other _ _ _ _ (fun e => hw99 e)).trans ((heap_setCell_other _ _ _ _ (fun e => hw99 e)).trans K9.out)))
        have HBA := Lib.hid (show Below w.heap.size w WA by
          rw [hWA]
          refine Below.trans ?_ (below_drewN _ 1)
          iterate 2 (refine Below.setCell ?_ (by dsimp only; omega) _)
          exact HBW9.out)
        have hlA := blkLt KXA.out
        have h4A : w4.heap.size < WA.heap.size := lt_of_cell hpA
        clear hc9 hf9 hcX hfX hWA hx2'
        go_wp2_with fail
        refine (readDecimal_any p4 _ hps (HE.out.next HBA.out)).mono ?_
        rintro e wB ⟨v, rfl, hv, hb⟩
        have HV := Lib.hid hv
        have KXB := Lib.hid (blkK hb KXA.out)
        have KB := Lib.hid (blkK hb KA.out)
        have HBB := Lib.hid (bt0 HBA.out hb (Nat.le_refl _))
        clear hv hb hpA
        obtain ⟨hcX, hfX⟩ := heap_cellR KXB.out
        obtain ⟨hc9, hf9⟩ := heap_cellR KB.out
        have hlB := blkLt KXB.out
        have hlBr := blkLt KB.out
        cases hd : rdec p4.data.toList with
        | none =>
          have HN := Lib.hid (HNo.out hd)
          have e9 : (none : Option Int).isSome = false := rfl
          rw [e9]
          clear hd e9
          go_wp2_with fail
          refine bodyPost_ret (v := .tuple #[.agg #[.int .i64 2, .int .i64 x, .int .i64 y, .int .i64 0, .int .i64 z, .int .i64 v, .string ⟨#[]⟩, .int .i64 0, .string ⟨#[]⟩], .bool false]) (by simp [results, Tryz.results33, go_sem, hc9]) rfl (retItR_no HN.out ⟨2, x, y, 0, z, v, ⟨#[]⟩, 0, ⟨#[]⟩⟩ ?_)
          iterate 10 (refine Below.setCell ?_ (by dsimp only; omega) _)
          exact HBB.out
        | some u =>
          obtain rfl := HV.out u hd
          have HN := Lib.hid (HY.out _ hd)
          have e9 : (some v : Option Int).isSome = true := rfl
          rw [e9]
          clear hd e9
          go_wp2_with fail
          refine bodyPost_ret (v := .tuple #[.agg #[.int .i64 2, .int .i64 x, .int .i64 y, .int .i64 0, .int .i64 z, .int .i64 v, .string ⟨#[]⟩, .int .i64 0, .string ⟨#[]⟩], .bool true]) (by simp [results, Tryz.results33, go_sem, hc9]) rfl (retItR_yes (x := ⟨2, x, y, 0, z, v, ⟨#[]⟩, 0, ⟨#[]⟩⟩) (HN.out) ?_)
          iterate 10 (refine Below.setCell ?_ (by dsimp only; omega) _)
          exact HBB.out
      · obtain ⟨p0, p1, p2, p3, p4, p5, p6, rfl⟩ : ∃ p0 p1 p2 p3 p4 p5 p6, ss = [p0, p1, p2, p3, p4, p5, p6] := by
          match ss, hsn with
          | [p0, p1, p2, p3, p4, p5, p6], _ => exact ⟨p0, p1, p2, p3, p4, p5, p6, rfl⟩
        obtain ⟨b4, o4, e4, hp4⟩ := HST9.out 4 (by simp)
        simp only [Option.some.injEq, Addr.mk.injEq, and_true] at e4
        obtain ⟨rfl, rfl⟩ := e4
        obtain ⟨b4, o4, e4, hp5⟩ := HST9.out 5 (by simp)
        simp only [Option.some.injEq, Addr.mk.injEq, and_true] at e4
        obtain ⟨rfl, rfl⟩ := e4
        obtain ⟨b4, o4, e4, hp6⟩ := HST9.out 6 (by simp)
        simp only [Option.some.injEq, Addr.mk.injEq, and_true] at e4
        obtain ⟨rfl, rfl⟩ := e4
        have hp4 : W9.cell? ⟨w4.heap.size, 4, none⟩ = some (.string p4) := hp4
        have hp5 : W9.cell? ⟨w4.heap.size, 5, none⟩ = some (.string p5) := hp5
        have hp6 : W9.cell? ⟨w4.heap.size, 6, none⟩ = some (.string p6) := hp6
        have hps := HLZ.out p5 (by simp)
        have HY := Lib.hid (fun u (hu : rdec p5.data.toList = some u) => HO.out.trans (itemI_sym (by rw [← hw]; exact HWD.out) HSS.out.symm HAL.out hu))
        have HNo := Lib.hid (fun (hu : rdec p5.data.toList = none) => HO.out.trans (itemI_sym_no (by rw [← hw]; exact HWD.out) HSS.out.symm hu))
        have hq1 : (WD.toList == [116, 101, 120, 116]) = false := by
          have h := word_no (a := WD) (b := ⟨#[116, 101, 120, 116]⟩) (by rw [hw]; decide)
          simpa using h
        have hq2 : (WD.toList == [108, 105, 110, 101]) = false := by
          have h := word_no (a := WD) (b := ⟨#[108, 105, 110, 101]⟩) (by rw [hw]; decide)
          simpa using h
        have hq3 : (WD.toList == [115, 121, 109, 98, 111, 108]) = true := by simpa using word_yes (b := ⟨#[115, 121, 109, 98, 111, 108]⟩) hw
        clear hw
        go_wp2_with fail
        go_region
        obtain ⟨WA, hWA⟩ : ∃ WA, WA = ((((W9.setCell ⟨wr.heap.size, 0, none⟩ (.int .i64 3)).setCell ⟨wr.heap.size, 3, none⟩ (.int .i64 z)).setCell ⟨wr.heap.size, 6, none⟩ (.string p4)).setCell ⟨wr.heap.size, 8, none⟩ (.string p6)).drew := ⟨_, rfl⟩
        rw [← hWA]
        have KXA := Lib.hid (show WA.heap[wr.heap.size]? = some (.cells #[.int .i64 3, .int .i64 x, .int .i64 y, .int .i64 z, .int .i64 0, .int .i64 0, .string p4, .int .i64 0, .string p6] 49 (0, 0)) by rw [hWA]; exact src_set (src_set (src_set (src_set KX.out 0 _) 3 _) 6 _) 8 _)
        have hpA : WA.cell? ⟨w4.heap.size, 5, none⟩ = some (.string p5) := by
          rw [hWA]
          exact ((World.cell?_setCell_far _ _ _ _ (fun e => hw49 e)).trans ((World.cell?_setCell_far _ _ _ _ (fun e => hw49 e)).trans ((World.cell?_setCell_far _ _ _ _ (fun e => hw49 e)).trans ((World.cell?_setCell_far _ _ _ _ (fun e => hw49 e)).trans hp5))))
        have KA := Lib.hid (show WA.heap[w.heap.size]? = some (.cells #[.int .i64 0, .int .i64 0, .int .i64 0, .int .i64 0, .int .i64 0, .int .i64 0, .string ⟨#[]⟩, .int .i64 0, .string ⟨#[]⟩] 49 (0, 0)) by
          rw [hWA]
          exact ((heap_setCell_other _ _ _ _ (fun e => hw99 e)).trans ((heap_setCell_other _ _ _ _ (fun e => hw99 e)).trans ((heap_setCell_other _ _ _ _ (fun e => hw99 e)).trans ((heap_setCell_other _ _ _ _ (fun e => hw99 e)).trans K9.out)))))
        have HBA := Lib.hid (show Below w.heap.size w WA by
          rw [hWA]
          refine Below.trans ?_ (below_drewN _ 1)
          iterate 4 (refine Below.setCell ?_ (by dsimp only; omega) _)
          exact HBW9.out)
        have hlA := blkLt KXA.out
        have h4A : w4.heap.size < WA.heap.size := lt_of_cell hpA
        clear hc9 hf9 hcX hfX hWA hx2'
        go_wp2_with fail
        refine (readDecimal_any p5 _ hps (HE.out.next HBA.out)).mono ?_
        rintro e wB ⟨v, rfl, hv, hb⟩
        have HV := Lib.hid hv
        have KXB := Lib.hid (blkK hb KXA.out)
        have KB := Lib.hid (blkK hb KA.out)
        have HBB := Lib.hid (bt0 HBA.out hb (Nat.le_refl _))
        clear hv hb hpA
        obtain ⟨hcX, hfX⟩ := heap_cellR KXB.out
        obtain ⟨hc9, hf9⟩ := heap_cellR KB.out
        have hlB := blkLt KXB.out
        have hlBr := blkLt KB.out
        cases hd : rdec p5.data.toList with
        | none =>
          have HN := Lib.hid (HNo.out hd)
          have e9 : (none : Option Int).isSome = false := rfl
          rw [e9]
          clear hd e9
          go_wp2_with fail
          refine bodyPost_ret (v := .tuple #[.agg #[.int .i64 3, .int .i64 x, .int .i64 y, .int .i64 z, .int .i64 0, .int .i64 0, .string p4, .int .i64 v, .string p6], .bool false]) (by simp [results, Tryz.results33, go_sem, hc9]) rfl (retItR_no HN.out ⟨3, x, y, z, 0, 0, p4, v, p6⟩ ?_)
          iterate 10 (refine Below.setCell ?_ (by dsimp only; omega) _)
          exact HBB.out
        | some u =>
          obtain rfl := HV.out u hd
          have HN := Lib.hid (HY.out _ hd)
          have e9 : (some v : Option Int).isSome = true := rfl
          rw [e9]
          clear hd e9
          go_wp2_with fail
          refine bodyPost_ret (v := .tuple #[.agg #[.int .i64 3, .int .i64 x, .int .i64 y, .int .i64 z, .int .i64 0, .int .i64 0, .string p4, .int .i64 v, .string p6], .bool true]) (by simp [results, Tryz.results33, go_sem, hc9]) rfl (retItR_yes (x := ⟨3, x, y, z, 0, 0, p4, v, p6⟩) (HN.out.trans (by rw [ba_list, ba_list])) ?_)
          iterate 10 (refine Below.setCell ?_ (by dsimp only; omega) _)
          exact HBB.out

end Go.Proofs.YtlcglclojlffgaaGreatDoor
namespace Go.Proofs.YtlcglclojlffgaaGreatDoor
open Go.RowKit

set_option maxRecDepth 100000 in
set_option maxHeartbeats 1000000 in
theorem decimals_any (a : Option Addr) (xs : List Int) (c : Nat) (w : World) (hx : IntsAt w a xs) (h64 : ∀ x ∈ xs, -9223372036854775808 ≤ x ∧ x ≤ 9223372036854775807) (lx : xs.length ≤ 1000000) (ht : Tab w) :
    Calls Tryz.prog 47 #[.slice a xs.length c] w fun e w' => e = .returned (.string ⟨(decX xs).toArray⟩) ∧ Below w.heap.size w w' := by
  have HX := Lib.hid hx
  have HT := Lib.hid ht
  have H64 := Lib.hid h64
  have hltg := ht.lt
  clear hx ht h64
  go_enter Tryz.func47, Tryz.ntmps47
  go_wp2_with fail
  go_loopw [3, 4, 5, 9] (fun v _ _ i wr => ∃ (k : Nat) (a' : Option Addr) (c' : Nat) (l : List UInt8), k ≤ xs.length ∧ i = .int .i64 k ∧ l = decX (xs.take k) ∧ v = .slice a' l.length c' ∧ OwnB wr w.heap.size (.slice a' l.length c') l ∧ Below w.heap.size w wr) (fun _ _ _ i _ => xs.length - (intOf i).toNat)
  case atStart => exact ⟨0, _, 0, [], Nat.zero_le _, rfl, rfl, rfl, World.ownsRow_lit (base := w.heap.size) (size := 1) w #[] 0 (Nat.le_refl _) (by unfold maxLen; omega) rfl, ba1 _ _⟩
  case round =>
    obtain ⟨k, a1, c1, l, hk, rfl, hl, rfl, ho, hb⟩ := hrel
    have HL := Lib.hid hl
    have HO := Lib.hid ho
    have HB := Lib.hid hb
    have hll : l.length ≤ 22 * k := by
      have := decX_len (xs.take k) (fun x hx => H64.out x (List.mem_of_mem_take hx))
      rw [List.length_take] at this
      rw [hl]; omega
    have hwz : w.heap.size ≤ wr.heap.size := hb.size
    clear hl ho hb
    by_cases hlt : k < xs.length
    · obtain ⟨b1, o1, x, rfl, hxk, hb1, hc1⟩ := (HX.out.below HB.out).at hlt
      have hx64 := H64.out x (List.mem_of_getElem? hxk)
      have HXK := Lib.hid (take_snoc' hxk)
      have HNX := Lib.hid hxk
      clear hxk
      by_cases hk0 : k = 0
      · have hki : ¬ (0 : Int) < (k : Int) := by omega
        have HNE := Lib.hid (show xs.take k = [] by rw [hk0]; rfl)
        clear hk0
        go_wp2_with fail
        refine (appendInt_b w.heap.size x _ l _ hx64.1 hx64.2 HO.out hwz (by omega) (HT.out.next HB.out) hltg).mono ?_
        rintro e w2 ⟨a2, c2, l2, he2, rfl, ho2, hb2⟩
        have HO2 := Lib.hid ho2
        have HB2 := Lib.hid (HB.out.trans hb2)
        have HE2 := Lib.hid he2
        clear ho2 hb2 he2 hc1
        go_wp2_with fail
        refine ⟨⟨k + 1, a2, c2, l2, by omega, by go_num, ?_, rfl, HO2.out, HB2.out⟩, by simp [intOf]; omega⟩
        rw [HXK.out, decX_snoc, if_pos HNE.out, HE2.out, HL.out]
        rw [HNE.out]
        simp [decX, glue]
      · have hki : (0 : Int) < (k : Int) := by omega
        have hne : xs.take k ≠ [] := by
          intro e
          have := congrArg List.length e
          rw [List.length_take, List.length_nil] at this
          omega
        have HNE := Lib.hid hne
        clear hne
        go_wp2_with (at_builtin; refine wpList_append_b1 (o := _) (s := .tmp 16) (x := .tmp 17) rfl rfl w.heap.size (.slice a1 l.length c1) l 32 rfl (HO.out.grown (ba1 _ _)) wr.heap.size rfl (push_at wr _) (by omega) (by simp; omega) ?h9)
        case h9 =>
        intro a2 c2 l2 w2 he2 ho2 hb2
        have HO2 := Lib.hid ho2
        have HB2 := Lib.hid (HB.out.trans (((ba1 wr (.cells #[.int .u8 32] 5 (0, 0))).mono hwz).trans hb2))
        have hz2 : w.heap.size ≤ w2.heap.size := HB2.out.size
        have hl2 : l2.length ≤ l.length + 1 := by rw [he2]; simp
        have HE2 := Lib.hid he2
        clear he2 ho2 hb2 hc1
        go_wp2_with fail
        refine (appendInt_b w.heap.size x _ l2 _ hx64.1 hx64.2 HO2.out hz2 (by omega) (HT.out.next HB2.out) hltg).mono ?_
        rintro e w3 ⟨a3, c3, l3, he3, rfl, ho3, hb3⟩
        have HO3 := Lib.hid ho3
        have HB3 := Lib.hid (HB2.out.trans hb3)
        have HE3 := Lib.hid he3
        clear ho3 hb3 he3
        go_wp2_with fail
        refine ⟨⟨k + 1, a3, c3, l3, by omega, by go_num, ?_, rfl, HO3.out, HB3.out⟩, by simp [intOf]; omega⟩
        rw [HXK.out, decX_snoc, if_neg HNE.out, HE3.out, HE2.out, HL.out]
    · obtain rfl : k = xs.length := by omega
      have hcv := conv_own HO.out
      have HCV := Lib.hid (show l = decX xs by rw [HL.out, List.take_length])
      go_wp2_with fail
      go_ret
      exact ⟨congrArg (fun l : List UInt8 => Ending.returned (.string ⟨l.toArray⟩)) HCV.out, HB.out⟩

end Go.Proofs.YtlcglclojlffgaaGreatDoor
namespace Go.Proofs.YtlcglclojlffgaaGreatDoor
open Go.RowKit

/-- a slice of numbers -/
def IsV (zs : List Int) (v : Value) (W : World) : Prop := ∃ a c, v = .slice a zs.length c ∧ IntsAt W a zs
def spIs (zs : List Int) : Sp KB := ⟨IsV zs, fun _ _ _ hk ⟨a, c, e, h⟩ => ⟨a, c, e, h.below hk⟩⟩
theorem ba_eq {a : ByteArray} {l : List UInt8} (h : a.data.toList = l) : a = ⟨l.toArray⟩ := by subst h; simp
abbrev i64B (n : Int) : Prop := -9223372036854775808 ≤ n ∧ n ≤ 9223372036854775807
set_option maxRecDepth 100000 in
set_option maxHeartbeats 8000000 in
theorem textLine_any (row col sc tall wide lev : Int) (nm tx : ByteArray) (w : World) (hr : i64B row) (hc : i64B col) (hs : i64B sc) (_hl : i64B lev) (_hnm : nm.size ≤ 1048576) (htx : tx.size ≤ 1048576) (ht : Tab w) :
    Calls Tryz.prog 165 #[itV ⟨1, row, col, sc, tall, wide, nm, lev, tx⟩] w fun e w' => e = .returned (.string ⟨(lineI ⟨1, row, col, sc, tall, wide, nm, lev, tx⟩).toArray⟩) ∧ Below w.heap.size w w' := by
  have HDC := Lib.hid (fun a c w' (h : IntsAt w' a [row, col, sc]) (ht : Tab w') => decimals_any a [row, col, sc] c w' h (by intro x hx; simp only [List.mem_cons, List.not_mem_nil, or_false] at hx; rcases hx with rfl | rfl | rfl <;> assumption) (by simp) ht)
  obtain ⟨D, hD⟩ : ∃ D, D = (⟨(decX [row, col, sc]).toArray⟩ : ByteArray) := ⟨_, rfl⟩
  rw [← hD] at HDC
  have HDe := Lib.hid hD
  have hDs : D.size ≤ 66 := by
    rw [hD]
    exact decX_len [row, col, sc] (by intro x hx; simp only [List.mem_cons, List.not_mem_nil, or_false] at hx; rcases hx with rfl | rfl | rfl <;> assumption)
  have hcat0 : ¬ 9223372036854775807 < 5 + D.size := by omega
  have hcat1 : ¬ 9223372036854775807 < 5 + D.size + 1 := by omega
  have hcat2 : ¬ 9223372036854775807 < 5 + D.size + 1 + tx.size := by omega
  have hK := push_at w (.cells #[.int .i64 1, .int .i64 row, .int .i64 col, .int .i64 sc, .int .i64 tall, .int .i64 wide, .string nm, .int .i64 lev, .string tx] 111 (0, 0))
  have hB := ba1 w (.cells #[.int .i64 1, .int .i64 row, .int .i64 col, .int .i64 sc, .int .i64 tall, .int .i64 wide, .string nm, .int .i64 lev, .string tx] 111 (0, 0))
  have hT := ht.next hB
  obtain ⟨W, hW⟩ : ∃ W, W = w.alloc (.cells #[.int .i64 1, .int .i64 row, .int .i64 col, .int .i64 sc, .int .i64 tall, .int .i64 wide, .string nm, .int .i64 lev, .string tx] 111 (0, 0)) := ⟨_, rfl⟩
  have HW := Lib.hid hW
  rw [← hW] at hK hB hT
  have K := Lib.hid hK
  have HB := Lib.hid hB
  have HT := Lib.hid hT
  clear hK hB hT hW hD ht
  go_enter Tryz.func165, Tryz.ntmps165
  go_wp2_with fail
  rw [← HW.out]
  refine wp_region_rt (Keep := KB) [3, 4, 5, 6, 7, 8, 9, 10, 11, 12, 13, 14, 15, 16, 17, 18, 19] (fun us => _)
    [spE (.pointer (some ⟨w.heap.size, 0, none⟩)),
     spE (.pointer (some ⟨w.heap.size, 1, none⟩)),
     spE (.int .i64 row),
     spE (.pointer (some ⟨w.heap.size, 0, none⟩)),
     spE (.pointer (some ⟨w.heap.size, 2, none⟩)),
     spE (.int .i64 col),
     spE (.pointer (some ⟨w.heap.size, 0, none⟩)),
     spE (.pointer (some ⟨w.heap.size, 3, none⟩)),
     spE (.int .i64 sc),
     spIs [row, col, sc],
     spE (.string D),
     spE (.string ((⟨#[116, 101, 120, 116, 32]⟩ : ByteArray) ++ D)),
     spE (.string ((⟨#[116, 101, 120, 116, 32]⟩ : ByteArray) ++ D ++ (⟨#[32]⟩ : ByteArray))),
     spE (.pointer (some ⟨w.heap.size, 0, none⟩)),
     spE (.pointer (some ⟨w.heap.size, 8, none⟩)),
     spE (.string tx),
     spE (.string ((⟨#[116, 101, 120, 116, 32]⟩ : ByteArray) ++ D ++ (⟨#[32]⟩ : ByteArray) ++ tx))]
    (StX W) (by kernel_rfl) (by kernel_rfl) (Nat.le_of_ble_eq_true rfl) (fun us => by simp [over, List.mapIdx_cons]; exact rfl) (stX0 _) kbr ?_ ?_
  · refine ⟨?_, ?_, ?_, ?_, ?_, ?_, ?_, ?_, ?_, ?_, ?_, ?_, ?_, ?_, ?_, ?_, ?_, trivial⟩
    all_goals (intro us wx hst hd; rw [if_pos (by kernel_rfl)]; dsimp only)
    · clear hd
      go_simp
      exact kb_same hst rfl
    · have d3 : us 3 = (.pointer (some ⟨w.heap.size, 0, none⟩)) := hd ⟨0, .data⟩ (by simp) rfl
      clear hd
      go_simp
      exact kb_same hst rfl
    · have d4 : us 4 = (.pointer (some ⟨w.heap.size, 1, none⟩)) := hd ⟨1, .data⟩ (by simp) rfl
      clear hd
      obtain ⟨hcX, hfX⟩ := heap_cellR (blkK hst K.out)
      have hlX := blkLt (blkK hst K.out)
      go_simp
      exact kb_same hst rfl
    · clear hd
      go_simp
      exact kb_same hst rfl
    · have d6 : us 6 = (.pointer (some ⟨w.heap.size, 0, none⟩)) := hd ⟨3, .data⟩ (by simp) rfl
      clear hd
      go_simp
      exact kb_same hst rfl
    · have d7 : us 7 = (.pointer (some ⟨w.heap.size, 2, none⟩)) := hd ⟨4, .data⟩ (by simp) rfl
      clear hd
      obtain ⟨hcX, hfX⟩ := heap_cellR (blkK hst K.out)
      have hlX := blkLt (blkK hst K.out)
      go_simp
      exact kb_same hst rfl
    · clear hd
      go_simp
      exact kb_same hst rfl
    · have d9 : us 9 = (.pointer (some ⟨w.heap.size, 0, none⟩)) := hd ⟨6, .data⟩ (by simp) rfl
      clear hd
      go_simp
      exact kb_same hst rfl
    · have d10 : us 10 = (.pointer (some ⟨w.heap.size, 3, none⟩)) := hd ⟨7, .data⟩ (by simp) rfl
      clear hd
      obtain ⟨hcX, hfX⟩ := heap_cellR (blkK hst K.out)
      have hlX := blkLt (blkK hst K.out)
      go_simp
      exact kb_same hst rfl
    · have d5 : us 5 = (.int .i64 row) := hd ⟨2, .data⟩ (by simp) rfl
      have d8 : us 8 = (.int .i64 col) := hd ⟨5, .data⟩ (by simp) rfl
      have d11 : us 11 = (.int .i64 sc) := hd ⟨8, .data⟩ (by simp) rfl
      clear hd
      go_simp
      exact kb_below hst (ba1 _ _) ⟨_, _, rfl, ints_lit2 (push_at _ _) rfl⟩
    · have d12 := hd ⟨9, .data⟩ (by simp) rfl
      clear hd
      obtain ⟨a12, c12, e12, h12⟩ : IsV [row, col, sc] (us 12) wx := d12
      have h9 := HDC.out a12 c12 wx h12 (HT.out.next hst)
      go_simp
      exact h9.mono fun e w' ⟨he, hb⟩ => ⟨_, he, kb_below hst hb rfl⟩
    · have d13 : us 13 = (.string D) := hd ⟨10, .data⟩ (by simp) rfl
      clear hd
      go_simp
      exact kb_same hst rfl
    · have d14 : us 14 = (.string ((⟨#[116, 101, 120, 116, 32]⟩ : ByteArray) ++ D)) := hd ⟨11, .data⟩ (by simp) rfl
      clear hd
      go_simp
      exact kb_same hst rfl
    · clear hd
      go_simp
      exact kb_same hst rfl
    · have d16 : us 16 = (.pointer (some ⟨w.heap.size, 0, none⟩)) := hd ⟨13, .data⟩ (by simp) rfl
      clear hd
      go_simp
      exact kb_same hst rfl
    · have d17 : us 17 = (.pointer (some ⟨w.heap.size, 8, none⟩)) := hd ⟨14, .data⟩ (by simp) rfl
      clear hd
      obtain ⟨hcX, hfX⟩ := heap_cellR (blkK hst K.out)
      have hlX := blkLt (blkK hst K.out)
      go_simp
      exact kb_same hst rfl
    · have d15 : us 15 = (.string ((⟨#[116, 101, 120, 116, 32]⟩ : ByteArray) ++ D ++ (⟨#[32]⟩ : ByteArray))) := hd ⟨12, .data⟩ (by simp) rfl
      have d18 : us 18 = (.string tx) := hd ⟨15, .data⟩ (by simp) rfl
      clear hd
      go_simp
      exact kb_same hst rfl
  · intro us wx hst hd
    have d19 : us 19 = (.string ((⟨#[116, 101, 120, 116, 32]⟩ : ByteArray) ++ D ++ (⟨#[32]⟩ : ByteArray) ++ tx)) := hd 16 (by simp)
    clear hd
    simp only [List.drop, List.length]
    rw [d19]
    have HST := Lib.hid hst
    clear hst
    go_wp2_with fail
    go_ret
    refine ⟨ret_str (ba_eq ?_), bt0 HB.out HST.out (Nat.le_refl _)⟩
    rw [lineI, if_pos rfl, wordsX_dec, HDe.out]
    simp
set_option maxRecDepth 100000 in
set_option maxHeartbeats 8000000 in
theorem symbolLine_any (row col sc tall wide lev : Int) (nm tx : ByteArray) (w : World) (hr : i64B row) (hc : i64B col) (hs : i64B sc) (hl : i64B lev) (hnm : nm.size ≤ 1048576) (htx : tx.size ≤ 1048576) (ht : Tab w) :
    Calls Tryz.prog 172 #[itV ⟨3, row, col, sc, tall, wide, nm, lev, tx⟩] w fun e w' => e = .returned (.string ⟨(lineI ⟨3, row, col, sc, tall, wide, nm, lev, tx⟩).toArray⟩) ∧ Below w.heap.size w w' := by
  have HDC := Lib.hid (fun a c w' (h : IntsAt w' a [row, col, sc]) (ht : Tab w') => decimals_any a [row, col, sc] c w' h (by intro x hx; simp only [List.mem_cons, List.not_mem_nil, or_false] at hx; rcases hx with rfl | rfl | rfl <;> assumption) (by simp) ht)
  obtain ⟨D, hD⟩ : ∃ D, D = (⟨(decX [row, col, sc]).toArray⟩ : ByteArray) := ⟨_, rfl⟩
  rw [← hD] at HDC
  have HDe := Lib.hid hD
  have hDs : D.size ≤ 66 := by
    rw [hD]
    exact decX_len [row, col, sc] (by intro x hx; simp only [List.mem_cons, List.not_mem_nil, or_false] at hx; rcases hx with rfl | rfl | rfl <;> assumption)
  have HFI := Lib.hid (fun w' (ht : Tab w') => formatInt_any lev w' hl.1 hl.2 ht)
  obtain ⟨E, hE⟩ : ∃ E, E = decB lev := ⟨_, rfl⟩
  rw [← hE] at HFI
  have HEe := Lib.hid hE
  have hEs : E.size ≤ 22 := by
    rw [hE, decB_size]
    have := Lib.itoa_length_le lev hl.1 hl.2
    omega
  clear hE
  have hcat0 : ¬ 9223372036854775807 < 7 + D.size := by omega
  have hcat1 : ¬ 9223372036854775807 < 7 + D.size + 1 := by omega
  have hcat2 : ¬ 9223372036854775807 < 7 + D.size + 1 + nm.size := by omega
  have hcat3 : ¬ 9223372036854775807 < 7 + D.size + 1 + nm.size + 1 := by omega
  have hcat4 : ¬ 9223372036854775807 < 7 + D.size + 1 + nm.size + 1 + E.size := by omega
  have hcat5 : ¬ 9223372036854775807 < 7 + D.size + 1 + nm.size + 1 + E.size + 1 := by omega
  have hcat6 : ¬ 9223372036854775807 < 7 + D.size + 1 + nm.size + 1 + E.size + 1 + tx.size := by omega
  have hK := push_at w (.cells #[.int .i64 3, .int .i64 row, .int .i64 col, .int .i64 sc, .int .i64 tall, .int .i64 wide, .string nm, .int .i64 lev, .string tx] 113 (0, 0))
  have hB := ba1 w (.cells #[.int .i64 3, .int .i64 row, .int .i64 col, .int .i64 sc, .int .i64 tall, .int .i64 wide, .string nm, .int .i64 lev, .string tx] 113 (0, 0))
  have hT := ht.next hB
  obtain ⟨W, hW⟩ : ∃ W, W = w.alloc (.cells #[.int .i64 3, .int .i64 row, .int .i64 col, .int .i64 sc, .int .i64 tall, .int .i64 wide, .string nm, .int .i64 lev, .string tx] 113 (0, 0)) := ⟨_, rfl⟩
  have HW := Lib.hid hW
  rw [← hW] at hK hB hT
  have K := Lib.hid hK
  have HB := Lib.hid hB
  have HT := Lib.hid hT
  clear hK hB hT hW hD ht
  go_enter Tryz.func172, Tryz.ntmps172
  go_wp2_with fail
  rw [← HW.out]
  refine wp_region_rt (Keep := KB) [3, 4, 5, 6, 7, 8, 9, 10, 11, 12, 13, 14, 15, 16, 17, 18, 19, 20, 21, 22, 23, 24, 25, 26, 27, 28, 29, 30] (fun us => _)
    [spE (.pointer (some ⟨w.heap.size, 0, none⟩)),
     spE (.pointer (some ⟨w.heap.size, 1, none⟩)),
     spE (.int .i64 row),
     spE (.pointer (some ⟨w.heap.size, 0, none⟩)),
     spE (.pointer (some ⟨w.heap.size, 2, none⟩)),
     spE (.int .i64 col),
     spE (.pointer (some ⟨w.heap.size, 0, none⟩)),
     spE (.pointer (some ⟨w.heap.size, 3, none⟩)),
     spE (.int .i64 sc),
     spIs [row, col, sc],
     spE (.string D),
     spE (.string ((⟨#[115, 121, 109, 98, 111, 108, 32]⟩ : ByteArray) ++ D)),
     spE (.string ((⟨#[115, 121, 109, 98, 111, 108, 32]⟩ : ByteArray) ++ D ++ (⟨#[32]⟩ : ByteArray))),
     spE (.pointer (some ⟨w.heap.size, 0, none⟩)),
     spE (.pointer (some ⟨w.heap.size, 6, none⟩)),
     spE (.string nm),
     spE (.string ((⟨#[115, 121, 109, 98, 111, 108, 32]⟩ : ByteArray) ++ D ++ (⟨#[32]⟩ : ByteArray) ++ nm)),
     spE (.string ((⟨#[115, 121, 109, 98, 111, 108, 32]⟩ : ByteArray) ++ D ++ (⟨#[32]⟩ : ByteArray) ++ nm ++ (⟨#[32]⟩ : ByteArray))),
     spE (.pointer (some ⟨w.heap.size, 0, none⟩)),
     spE (.pointer (some ⟨w.heap.size, 7, none⟩)),
     spE (.int .i64 lev),
     spE (.string E),
     spE (.string ((⟨#[115, 121, 109, 98, 111, 108, 32]⟩ : ByteArray) ++ D ++ (⟨#[32]⟩ : ByteArray) ++ nm ++ (⟨#[32]⟩ : ByteArray) ++ E)),
     spE (.string ((⟨#[115, 121, 109, 98, 111, 108, 32]⟩ : ByteArray) ++ D ++ (⟨#[32]⟩ : ByteArray) ++ nm ++ (⟨#[32]⟩ : ByteArray) ++ E ++ (⟨#[32]⟩ : ByteArray))),
     spE (.pointer (some ⟨w.heap.size, 0, none⟩)),
     spE (.pointer (some ⟨w.heap.size, 8, none⟩)),
     spE (.string tx),
     spE (.string ((⟨#[115, 121, 109, 98, 111, 108, 32]⟩ : ByteArray) ++ D ++ (⟨#[32]⟩ : ByteArray) ++ nm ++ (⟨#[32]⟩ : ByteArray) ++ E ++ (⟨#[32]⟩ : ByteArray) ++ tx))]
    (StX W) (by kernel_rfl) (by kernel_rfl) (Nat.le_of_ble_eq_true rfl) (fun us => by simp [over, List.mapIdx_cons]; exact rfl) (stX0 _) kbr ?_ ?_
  · refine ⟨?_, ?_, ?_, ?_, ?_, ?_, ?_, ?_, ?_, ?_, ?_, ?_, ?_, ?_, ?_, ?_, ?_, ?_, ?_, ?_, ?_, ?_, ?_, ?_, ?_, ?_, ?_, ?_, trivial⟩
    all_goals (intro us wx hst hd; rw [if_pos (by kernel_rfl)]; dsimp only)
    · clear hd
      go_simp
      exact kb_same hst rfl
    · have d3 : us 3 = (.pointer (some ⟨w.heap.size, 0, none⟩)) := hd ⟨0, .data⟩ (by simp) rfl
      clear hd
      go_simp
      exact kb_same hst rfl
    · have d4 : us 4 = (.pointer (some ⟨w.heap.size, 1, none⟩)) := hd ⟨1, .data⟩ (by simp) rfl
      clear hd
      obtain ⟨hcX, hfX⟩ := heap_cellR (blkK hst K.out)
      have hlX := blkLt (blkK hst K.out)
      go_simp
      exact kb_same hst rfl
    · clear hd
      go_simp
      exact kb_same hst rfl
    · have d6 : us 6 = (.pointer (some ⟨w.heap.size, 0, none⟩)) := hd ⟨3, .data⟩ (by simp) rfl
      clear hd
      go_simp
      exact kb_same hst rfl
    · have d7 : us 7 = (.pointer (some ⟨w.heap.size, 2, none⟩)) := hd ⟨4, .data⟩ (by simp) rfl
      clear hd
      obtain ⟨hcX, hfX⟩ := heap_cellR (blkK hst K.out)
      have hlX := blkLt (blkK hst K.out)
      go_simp
      exact kb_same hst rfl
    · clear hd
      go_simp
      exact kb_same hst rfl
    · have d9 : us 9 = (.pointer (some ⟨w.heap.size, 0, none⟩)) := hd ⟨6, .data⟩ (by simp) rfl
      clear hd
      go_simp
      exact kb_same hst rfl
    · have d10 : us 10 = (.pointer (some ⟨w.heap.size, 3, none⟩)) := hd ⟨7, .data⟩ (by simp) rfl
      clear hd
      obtain ⟨hcX, hfX⟩ := heap_cellR (blkK hst K.out)
      have hlX := blkLt (blkK hst K.out)
      go_simp
      exact kb_same hst rfl
    · have d5 : us 5 = (.int .i64 row) := hd ⟨2, .data⟩ (by simp) rfl
      have d8 : us 8 = (.int .i64 col) := hd ⟨5, .data⟩ (by simp) rfl
      have d11 : us 11 = (.int .i64 sc) := hd ⟨8, .data⟩ (by simp) rfl
      clear hd
      go_simp
      exact kb_below hst (ba1 _ _) ⟨_, _, rfl, ints_lit2 (push_at _ _) rfl⟩
    · have d12 := hd ⟨9, .data⟩ (by simp) rfl
      clear hd
      obtain ⟨a12, c12, e12, h12⟩ : IsV [row, col, sc] (us 12) wx := d12
      have h9 := HDC.out a12 c12 wx h12 (HT.out.next hst)
      go_simp
      exact h9.mono fun e w' ⟨he, hb⟩ => ⟨_, he, kb_below hst hb rfl⟩
    · have d13 : us 13 = (.string D) := hd ⟨10, .data⟩ (by simp) rfl
      clear hd
      go_simp
      exact kb_same hst rfl
    · have d14 : us 14 = (.string ((⟨#[115, 121, 109, 98, 111, 108, 32]⟩ : ByteArray) ++ D)) := hd ⟨11, .data⟩ (by simp) rfl
      clear hd
      go_simp
      exact kb_same hst rfl
    · clear hd
      go_simp
      exact kb_same hst rfl
    · have d16 : us 16 = (.pointer (some ⟨w.heap.size, 0, none⟩)) := hd ⟨13, .data⟩ (by simp) rfl
      clear hd
      go_simp
      exact kb_same hst rfl
    · have d17 : us 17 = (.pointer (some ⟨w.heap.size, 6, none⟩)) := hd ⟨14, .data⟩ (by simp) rfl
      clear hd
      obtain ⟨hcX, hfX⟩ := heap_cellR (blkK hst K.out)
      have hlX := blkLt (blkK hst K.out)
      go_simp
      exact kb_same hst rfl
    · have d15 : us 15 = (.string ((⟨#[115, 121, 109, 98, 111, 108, 32]⟩ : ByteArray) ++ D ++ (⟨#[32]⟩ : ByteArray))) := hd ⟨12, .data⟩ (by simp) rfl
      have d18 : us 18 = (.string nm) := hd ⟨15, .data⟩ (by simp) rfl
      clear hd
      go_simp
      exact kb_same hst rfl
    · have d19 : us 19 = (.string ((⟨#[115, 121, 109, 98, 111, 108, 32]⟩ : ByteArray) ++ D ++ (⟨#[32]⟩ : ByteArray) ++ nm)) := hd ⟨16, .data⟩ (by simp) rfl
      clear hd
      go_simp
      exact kb_same hst rfl
    · clear hd
      go_simp
      exact kb_same hst rfl
    · have d21 : us 21 = (.pointer (some ⟨w.heap.size, 0, none⟩)) := hd ⟨18, .data⟩ (by simp) rfl
      clear hd
      go_simp
      exact kb_same hst rfl
    · have d22 : us 22 = (.pointer (some ⟨w.heap.size, 7, none⟩)) := hd ⟨19, .data⟩ (by simp) rfl
      clear hd
      obtain ⟨hcX, hfX⟩ := heap_cellR (blkK hst K.out)
      have hlX := blkLt (blkK hst K.out)
      go_simp
      exact kb_same hst rfl
    · have d23 : us 23 = (.int .i64 lev) := hd ⟨20, .data⟩ (by simp) rfl
      clear hd
      have h9 := HFI.out wx (HT.out.next hst)
      go_simp
      exact h9.mono fun e w' ⟨he, hb⟩ => ⟨_, he, kb_below hst hb rfl⟩
    · have d20 : us 20 = (.string ((⟨#[115, 121, 109, 98, 111, 108, 32]⟩ : ByteArray) ++ D ++ (⟨#[32]⟩ : ByteArray) ++ nm ++ (⟨#[32]⟩ : ByteArray))) := hd ⟨17, .data⟩ (by simp) rfl
      have d24 : us 24 = (.string E) := hd ⟨21, .data⟩ (by simp) rfl
      clear hd
      go_simp
      exact kb_same hst rfl
    · have d25 : us 25 = (.string ((⟨#[115, 121, 109, 98, 111, 108, 32]⟩ : ByteArray) ++ D ++ (⟨#[32]⟩ : ByteArray) ++ nm ++ (⟨#[32]⟩ : ByteArray) ++ E)) := hd ⟨22, .data⟩ (by simp) rfl
      clear hd
      go_simp
      exact kb_same hst rfl
    · clear hd
      go_simp
      exact kb_same hst rfl
    · have d27 : us 27 = (.pointer (some ⟨w.heap.size, 0, none⟩)) := hd ⟨24, .data⟩ (by simp) rfl
      clear hd
      go_simp
      exact kb_same hst rfl
    · have d28 : us 28 = (.pointer (some ⟨w.heap.size, 8, none⟩)) := hd ⟨25, .data⟩ (by simp) rfl
      clear hd
      obtain ⟨hcX, hfX⟩ := heap_cellR (blkK hst K.out)
      have hlX := blkLt (blkK hst K.out)
      go_simp
      exact kb_same hst rfl
    · have d26 : us 26 = (.string ((⟨#[115, 121, 109, 98, 111, 108, 32]⟩ : ByteArray) ++ D ++ (⟨#[32]⟩ : ByteArray) ++ nm ++ (⟨#[32]⟩ : ByteArray) ++ E ++ (⟨#[32]⟩ : ByteArray))) := hd ⟨23, .data⟩ (by simp) rfl
      have d29 : us 29 = (.string tx) := hd ⟨26, .data⟩ (by simp) rfl
      clear hd
      go_simp
      exact kb_same hst rfl
  · intro us wx hst hd
    have d30 : us 30 = (.string ((⟨#[115, 121, 109, 98, 111, 108, 32]⟩ : ByteArray) ++ D ++ (⟨#[32]⟩ : ByteArray) ++ nm ++ (⟨#[32]⟩ : ByteArray) ++ E ++ (⟨#[32]⟩ : ByteArray) ++ tx)) := hd 27 (by simp)
    clear hd
    simp only [List.drop, List.length]
    rw [d30]
    have HST := Lib.hid hst
    clear hst
    go_wp2_with fail
    go_ret
    refine ⟨ret_str (ba_eq ?_), bt0 HB.out HST.out (Nat.le_refl _)⟩
    rw [lineI, if_neg (show ¬ (3 : Int) = 1 by decide), if_neg (show ¬ (3 : Int) = 2 by decide), wordsX_dec, HDe.out, HEe.out]
    simp [decB, wordsX]
set_option maxRecDepth 100000 in
set_option maxHeartbeats 8000000 in
theorem lineLine_any (row col sc tall wide lev : Int) (nm tx : ByteArray) (w : World) (hr : i64B row) (hc : i64B col) (hs : i64B tall) (hl : i64B wide) (ht : Tab w) :
    Calls Tryz.prog 169 #[itV ⟨2, row, col, sc, tall, wide, nm, lev, tx⟩] w fun e w' => e = .returned (.string ⟨(lineI ⟨2, row, col, sc, tall, wide, nm, lev, tx⟩).toArray⟩) ∧ Below w.heap.size w w' := by
  have HDC := Lib.hid (fun a c w' (h : IntsAt w' a [row, col, tall, wide]) (ht : Tab w') => decimals_any a [row, col, tall, wide] c w' h (by intro x hx; simp only [List.mem_cons, List.not_mem_nil, or_false] at hx; rcases hx with rfl | rfl | rfl | rfl <;> assumption) (by simp) ht)
  obtain ⟨D, hD⟩ : ∃ D, D = (⟨(decX [row, col, tall, wide]).toArray⟩ : ByteArray) := ⟨_, rfl⟩
  rw [← hD] at HDC
  have HDe := Lib.hid hD
  have hDs : D.size ≤ 88 := by
    rw [hD]
    exact decX_len [row, col, tall, wide] (by intro x hx; simp only [List.mem_cons, List.not_mem_nil, or_false] at hx; rcases hx with rfl | rfl | rfl | rfl <;> assumption)
  have hcat : ¬ 9223372036854775807 < 5 + D.size := by omega
  have HT := Lib.hid ht
  clear hD ht
  go_enter Tryz.func169, Tryz.ntmps169
  go_wp2_with fail
  refine (HDC.out _ _ _ (ints_lit2 (heap2 _ _ _).2 rfl) (HT.out.next (ba2 _ _ _))).mono ?_
  rintro e w1 ⟨rfl, hb1⟩
  have HB1 := Lib.hid (bt2 hb1)
  clear hb1
  go_wp2_with fail
  go_ret
  refine ⟨ret_str (ba_eq ?_), HB1.out⟩
  rw [lineI, if_neg (show ¬ (2 : Int) = 1 by decide), if_pos rfl, wordsX_dec, HDe.out]
  simp

end Go.Proofs.YtlcglclojlffgaaGreatDoor
namespace Go.Proofs.YtlcglclojlffgaaGreatDoor
open Go.RowKit

theorem methLine1 (kd row col sc tall wide : Int) (nm : ByteArray) (lev : Int) (tx : ByteArray) (n : Nat) (W : World) : (method (n + 1) 111 (.agg #[.int .i64 kd, .int .i64 row, .int .i64 col, .int .i64 sc, .int .i64 tall, .int .i64 wide, .string nm, .int .i64 lev, .string tx]) "loop.example/g00879/impl.line").run Tryz.prog W = .ok (165, (.agg #[.int .i64 kd, .int .i64 row, .int .i64 col, .int .i64 sc, .int .i64 tall, .int .i64 wide, .string nm, .int .i64 lev, .string tx])) W := by kernel_rfl
theorem methLine2 (kd row col sc tall wide : Int) (nm : ByteArray) (lev : Int) (tx : ByteArray) (n : Nat) (W : World) : (method (n + 1) 112 (.agg #[.int .i64 kd, .int .i64 row, .int .i64 col, .int .i64 sc, .int .i64 tall, .int .i64 wide, .string nm, .int .i64 lev, .string tx]) "loop.example/g00879/impl.line").run Tryz.prog W = .ok (169, (.agg #[.int .i64 kd, .int .i64 row, .int .i64 col, .int .i64 sc, .int .i64 tall, .int .i64 wide, .string nm, .int .i64 lev, .string tx])) W := by kernel_rfl
theorem methLine3 (kd row col sc tall wide : Int) (nm : ByteArray) (lev : Int) (tx : ByteArray) (n : Nat) (W : World) : (method (n + 1) 113 (.agg #[.int .i64 kd, .int .i64 row, .int .i64 col, .int .i64 sc, .int .i64 tall, .int .i64 wide, .string nm, .int .i64 lev, .string tx]) "loop.example/g00879/impl.line").run Tryz.prog W = .ok (172, (.agg #[.int .i64 kd, .int .i64 row, .int .i64 col, .int .i64 sc, .int .i64 tall, .int .i64 wide, .string nm, .int .i64 lev, .string tx])) W := by kernel_rfl
set_option maxRecDepth 100000 in
set_option maxHeartbeats 8000000 in
theorem labelTextIn_any (l : Lb) (a : Option Addr) (c : Nat) (w : World) (hx : itE.At w a l.items) (hok : l.ok = true) (ht : Tab w) :
    Calls Tryz.prog 26 #[lbV l a c] w fun e w' => e = .returned (.string ⟨(textL l).toArray⟩) ∧ Below w.heap.size w w' := by
  obtain ⟨hit, hrc, h12⟩ := lb_bd hok
  have HIT := Lib.hid hit
  have HX := Lib.hid hx
  have HT := Lib.hid ht
  have HTL := Lib.hid (textP_len hit (by omega) (by omega))
  have HTS := Lib.hid (fun k x h => textP_step (l := l) (k := k) (x := x) h)
  have HTF := Lib.hid (textP_full l)
  have HT0 := Lib.hid (show textP l 0 = [108, 97, 98, 101, 108] ++ wordsX [l.rows, l.cols] ++ [10] by rw [textP, List.take_zero, List.flatMap_nil])
  obtain ⟨TP, hTP⟩ : ∃ TP, TP = textP l := ⟨_, rfl⟩
  obtain ⟨TL, hTLe⟩ : ∃ TL, TL = textL l := ⟨_, rfl⟩
  rw [← hTP] at HTL HTS HTF HT0
  rw [← hTLe] at HTF ⊢
  obtain ⟨rows, cols, items⟩ := l
  dsimp only at HIT HX HTL HTS HTF HT0 hrc h12 ⊢
  have HDC := Lib.hid (fun a c w' (h : IntsAt w' a [rows, cols]) (ht : Tab w') => decimals_any a [rows, cols] c w' h (by intro x hx; simp only [List.mem_cons, List.not_mem_nil, or_false] at hx; rcases hx with rfl | rfl <;> omega) (by simp) ht)
  obtain ⟨D, hD⟩ : ∃ D, D = (⟨(decX [rows, cols]).toArray⟩ : ByteArray) := ⟨_, rfl⟩
  rw [← hD] at HDC
  have HDe := Lib.hid hD
  have hDs : D.size ≤ 44 := by
    rw [hD]
    exact decX_len [rows, cols] (by intro x hx; simp only [List.mem_cons, List.not_mem_nil, or_false] at hx; rcases hx with rfl | rfl <;> omega)
  have hcat0 : ¬ 9223372036854775807 < 6 + D.size := by omega
  have hcat1 : ¬ 9223372036854775807 < 6 + D.size + 1 := by omega
  have HS0 := Lib.hid (show (⟨#[108, 97, 98, 101, 108, 32]⟩ ++ D ++ ⟨#[10]⟩ : ByteArray).data.toList = TP 0 by rw [HT0.out, wordsX_dec, hD]; simp)
  clear hit hx ht hTP hTLe hD hok
  have HB0 := Lib.hid (ba1 w (.cells #[.int .i64 rows, .int .i64 cols, .slice a items.length c] 29 (0, 0)))
  have K0 := Lib.hid (push_at w (.cells #[.int .i64 rows, .int .i64 cols, .slice a items.length c] 29 (0, 0)))
  go_enter Tryz.func26, Tryz.ntmps26
  go_wp2_with fail
  refine (HDC.out _ _ _ (ints_lit2 (heap2 _ _ _).2 rfl) (HT.out.next (ba2 _ _ _))).mono ?_
  rintro e w1 ⟨rfl, hb1⟩
  have HB1 := Lib.hid (bt2 hb1)
  have K1 := Lib.hid (blkK hb1 (blkK (ba1 _ _) K0.out))
  clear hb1
  obtain ⟨hc1, hf1⟩ := heap_cellR K1.out
  have hl1 := blkLt K1.out
  go_wp2_with fail
  go_loopw [3, 19] (fun v i wr => ∃ (k : Nat) (V : ByteArray), k ≤ items.length ∧ i = .int .i64 (k : Int) ∧ v = .string V ∧ V.data.toList = TP k ∧ Below w.heap.size w wr) (fun _ i _ => items.length - (intOf i).toNat)
  case atStart => exact ⟨0, _, Nat.zero_le _, rfl, rfl, HS0.out, HB1.out⟩
  case round =>
    obtain ⟨k, V, hk, rfl, rfl, hV, hbr⟩ := hrel
    have HV := Lib.hid hV
    have HBR := Lib.hid hbr
    have hVs : V.size ≤ 60 + 701 * k := by have := HTL.out k; rw [← hV] at this; exact this
    have HXr := Lib.hid (HX.out.below hbr)
    clear hV hbr hc1 hf1
    by_cases hlt : k < items.length
    · have hki : (k : Int) < (items.length : Int) := by omega
      obtain ⟨x, hx⟩ : ∃ x, items[k]? = some x := by rw [List.getElem?_eq_getElem hlt]; exact ⟨_, rfl⟩
      have hib := HIT.out x (List.mem_of_getElem? hx)
      have HLE := Lib.hid (lineI_len hib)
      have HST := Lib.hid (HTS.out k x hx)
      obtain ⟨b, o, rfl, hbl, y0, y1, y2, y3, y4, y5, y6, y7, y8⟩ := it_at HXr.out hx
      obtain ⟨LN, hLN⟩ : ∃ LN, LN = (⟨(lineI x).toArray⟩ : ByteArray) := ⟨_, rfl⟩
      have hLs : LN.size ≤ 700 := by rw [hLN]; exact HLE.out
      have hk1 : ¬ 9223372036854775807 < LN.size + 1 := by omega
      have hk2 : ¬ 9223372036854775807 < V.size + (LN.size + 1) := by omega
      have HNX := Lib.hid (show (V ++ (LN ++ ⟨#[10]⟩)).data.toList = TP (k + 1) by rw [HST.out, ← HV.out, hLN]; simp)
      have HLN := Lib.hid hLN
      clear hx hLN hLs
      obtain ⟨kd, row, col, sc, tall, wide, nm, lev, tx⟩ := x
      dsimp only at y0 y1 y2 y3 y4 y5 y6 y7 y8
      obtain ⟨hkd, hrow, hcol, hsc, htall, hwide, hlev, hnm, htx⟩ := hib
      dsimp only at hkd hrow hcol hsc htall hwide hlev hnm htx
      have KI := Lib.hid (push_at wr (.cells #[.int .i64 kd, .int .i64 row, .int .i64 col, .int .i64 sc, .int .i64 tall, .int .i64 wide, .string nm, .int .i64 lev, .string tx] 49 (0, 0)))
      have HBI := Lib.hid (bt0 HBR.out (ba1 wr (.cells #[.int .i64 kd, .int .i64 row, .int .i64 col, .int .i64 sc, .int .i64 tall, .int .i64 wide, .string nm, .int .i64 lev, .string tx] 49 (0, 0))) (Nat.le_refl _))
      rcases hkd with rfl | rfl | rfl
      · have hm := methLine1 1 row col sc tall wide nm lev tx
        go_wp2_with fail
        refine (thing1 ⟨1, row, col, sc, tall, wide, nm, lev, tx⟩ rfl _).mono ?_
        rintro e w2 ⟨rfl, hb2⟩
        have HB2 := Lib.hid (bt0 HBI.out hb2 (Nat.le_refl _))
        clear hb2 y0 y1 y2 y3 y4 y5 y6 y7 y8
        unfold itV
        dsimp only
        go_wp2_with fail
        refine (textLine_any row col sc tall wide lev nm tx _ (by omega) (by omega) (by omega) (by omega) (by omega) (by omega) (HT.out.next HB2.out)).mono ?_
        rw [← HLN.out]
        rintro e w3 ⟨rfl, hb3⟩
        have HB3 := Lib.hid (bt0 HB2.out hb3 (Nat.le_refl _))
        clear hb3
        go_wp2_with fail
        exact ⟨⟨k + 1, _, by omega, by go_num, rfl, HNX.out, HB3.out⟩, by simp [intOf]; omega⟩
      · have hm := methLine2 2 row col sc tall wide nm lev tx
        go_wp2_with fail
        refine (thing2 ⟨2, row, col, sc, tall, wide, nm, lev, tx⟩ rfl _).mono ?_
        rintro e w2 ⟨rfl, hb2⟩
        have HB2 := Lib.hid (bt0 HBI.out hb2 (Nat.le_refl _))
        clear hb2 y0 y1 y2 y3 y4 y5 y6 y7 y8
        unfold itV
        dsimp only
        go_wp2_with fail
        refine (lineLine_any row col sc tall wide lev nm tx _ (by omega) (by omega) (by omega) (by omega) (HT.out.next HB2.out)).mono ?_
        rw [← HLN.out]
        rintro e w3 ⟨rfl, hb3⟩
        have HB3 := Lib.hid (bt0 HB2.out hb3 (Nat.le_refl _))
        clear hb3
        go_wp2_with fail
        exact ⟨⟨k + 1, _, by omega, by go_num, rfl, HNX.out, HB3.out⟩, by simp [intOf]; omega⟩
      · have hm := methLine3 3 row col sc tall wide nm lev tx
        go_wp2_with fail
        refine (thing3 ⟨3, row, col, sc, tall, wide, nm, lev, tx⟩ rfl _).mono ?_
        rintro e w2 ⟨rfl, hb2⟩
        have HB2 := Lib.hid (bt0 HBI.out hb2 (Nat.le_refl _))
        clear hb2 y0 y1 y2 y3 y4 y5 y6 y7 y8
        unfold itV
        dsimp only
        go_wp2_with fail
        refine (symbolLine_any row col sc tall wide lev nm tx _ (by omega) (by omega) (by omega) (by omega) (by omega) (by omega) (HT.out.next HB2.out)).mono ?_
        rw [← HLN.out]
        rintro e w3 ⟨rfl, hb3⟩
        have HB3 := Lib.hid (bt0 HB2.out hb3 (Nat.le_refl _))
        clear hb3
        go_wp2_with fail
        exact ⟨⟨k + 1, _, by omega, by go_num, rfl, HNX.out, HB3.out⟩, by simp [intOf]; omega⟩
    · have hki : ¬ (k : Int) < (items.length : Int) := by omega
      have hke := Lib.hid (show V.data.toList = TL by have h := HV.out; rwa [show k = items.length by omega, HTF.out] at h)
      go_wp2_with fail
      go_ret
      exact ⟨ret_str (ba_eq hke.out), HBR.out⟩
set_option maxRecDepth 100000 in
set_option maxHeartbeats 2000000 in
theorem labelText_any (l : Lb) (a : Option Addr) (c : Nat) (w : World) (hx : itE.At w a l.items) (ht : ∀ x ∈ l.items, x.text.size ≤ 1048576) (hn : l.items.length ≤ 1048576) (hT : Tab w) :
    Calls Tryz.prog 9 #[lbV l a c] w fun e w' => e = .returned (.string ⟨(labT l).toArray⟩) ∧ Below w.heap.size w w' := by
  have HC := Lib.hid (fun w (hx : itE.At w a l.items) => isLabel_any l a c w hx ht hn)
  have HL := Lib.hid (fun w (hx : itE.At w a l.items) hok (hT : Tab w) => labelTextIn_any l a c w hx hok hT)
  have HX := Lib.hid hx
  have HT := Lib.hid hT
  obtain ⟨ok, hok⟩ : ∃ ok, ok = l.ok := ⟨_, rfl⟩
  have HY := Lib.hid (show labT l = if ok = true then textL l else [] by rw [labT, hok])
  rw [← hok] at HC HL
  obtain ⟨TX, hTX⟩ : ∃ TX, TX = textL l := ⟨_, rfl⟩
  obtain ⟨LT, hLT⟩ : ∃ LT, LT = labT l := ⟨_, rfl⟩
  rw [← hTX] at HL HY
  rw [← hLT] at HY ⊢
  clear hx ht hok hn hT hTX hLT
  obtain ⟨rows, cols, items⟩ := l
  dsimp only at HX HC HL ⊢
  have HB0 := Lib.hid (ba1 w (.cells #[.int .i64 rows, .int .i64 cols, .slice a items.length c] 29 (0, 0)))
  have K0 := Lib.hid (push_at w (.cells #[.int .i64 rows, .int .i64 cols, .slice a items.length c] 29 (0, 0)))
  go_enter Tryz.func9, Tryz.ntmps9
  go_wp2_with fail
  refine (HC.out _ (HX.out.below HB0.out)).mono ?_
  rintro e w1 ⟨rfl, hb1⟩
  have HB1 := Lib.hid (bt0 HB0.out hb1 (Nat.le_refl _))
  have K1 := Lib.hid (blkK hb1 K0.out)
  obtain ⟨hc1, hf1⟩ := heap_cellR K1.out
  have hl1 := blkLt K1.out
  clear hb1
  rcases Bool.eq_false_or_eq_true ok with rfl | rfl
  · have HL2 := Lib.hid (HL.out w1 (HX.out.below HB1.out) rfl (HT.out.next HB1.out))
    go_wp2_with fail
    refine HL2.out.mono ?_
    rintro e w2 ⟨rfl, hb2⟩
    have HB2 := Lib.hid (bt0 HB1.out hb2 (Nat.le_refl _))
    clear hb2
    go_wp2_with fail
    go_ret
    exact ⟨ret_str (by rw [HY.out]; simp), HB2.out⟩
  · go_wp2_with fail
    go_ret
    exact ⟨ret_str (by rw [HY.out]; simp), HB1.out⟩

end Go.Proofs.YtlcglclojlffgaaGreatDoor
namespace Go.Proofs.YtlcglclojlffgaaGreatDoor
open Go.RowKit

theorem infoIt : (Tryz.prog.info? 49).map (fun i => (i.zero, i.size, i.bytes)) = some (some (.agg #[.int .i64 0, .int .i64 0, .int .i64 0, .int .i64 0, .int .i64 0, .int .i64 0, .string ⟨#[]⟩, .int .i64 0, .string ⟨#[]⟩]), 9, 88) := by kernel_rfl
abbrev set9 (cs : Array Value) (o : Nat) (v0 v1 v2 v3 v4 v5 v6 v7 v8 : Value) : Array Value :=
  ((((((((cs.setIfInBounds o v0).setIfInBounds (o + 1) v1).setIfInBounds (o + 2) v2).setIfInBounds (o + 3) v3).setIfInBounds (o + 4) v4).setIfInBounds (o + 5) v5).setIfInBounds (o + 6) v6).setIfInBounds (o + 7) v7).setIfInBounds (o + 8) v8
end Go.Proofs.YtlcglclojlffgaaGreatDoor
