import Derived.Test.YtkmfgchbfchdbaaDoorM0
namespace Go.Proofs.YtkmfgchbfchdbaaDoor
open Go.RowKit

/-- a record in two numbers -/
structure Rc where
  k : Int
  n : Int
def Rc.ok (r : Rc) : Bool := inB r.k 1 4 && inB r.n 0 199
theorem Rc.ok_iff (r : Rc) : r.ok = true ↔ (1 ≤ r.k ∧ r.k ≤ 4) ∧ (0 ≤ r.n ∧ r.n ≤ 199) := by
  unfold Rc.ok; rw [Bool.and_eq_true, inB_iff, inB_iff]

def wPlan : List UInt8 := [112, 108, 97, 110]
def wPrint : List UInt8 := [112, 114, 105, 110, 116]
def wRead : List UInt8 := [114, 101, 97, 100]
def wVoid : List UInt8 := [118, 111, 105, 100]
/-- the word of a kind -/
def wordJ (k : Int) : List UInt8 := if k = 1 then wPlan else if k = 2 then wPrint else if k = 3 then wRead else wVoid
/-- the kind with a word; 0 if it is none -/
def kindJ (l : List UInt8) : Int := if l = wPlan then 1 else if l = wPrint then 2 else if l = wRead then 3 else if l = wVoid then 4 else 0
theorem kindJ_word {k : Int} (h1 : 1 ≤ k) (h4 : k ≤ 4) : kindJ (wordJ k) = k := by
  have : k = 1 ∨ k = 2 ∨ k = 3 ∨ k = 4 := by omega
  rcases this with rfl | rfl | rfl | rfl <;> decide
theorem word_kindJ {l : List UInt8} (h : kindJ l ≠ 0) : wordJ (kindJ l) = l ∧ 1 ≤ kindJ l ∧ kindJ l ≤ 4 := by
  unfold kindJ at h ⊢
  repeat' split
  all_goals first | (rename_i e; subst e; decide) | skip
  all_goals simp_all

/-- the beginning of a line -/
def headJ (n : Nat) (r : Rc) : List UInt8 := Lib.itoa n ++ 32 :: (wordJ r.k ++ 32 :: Lib.itoa r.n)
/-- the sum behind some bytes -/
def sumJ (s : Int) (l : List UInt8) : Int := l.foldl (fun s b => (131 * s + b.toNat + 1) % 65521) s
def nextJ (n : Nat) (s : Int) (r : Rc) : Int := sumJ s (headJ n r)
/-- a line without its end -/
def lineJ (n : Nat) (s : Int) (r : Rc) : List UInt8 := headJ n r ++ 32 :: Lib.itoa (nextJ n s r)

theorem sumJ_cons (s : Int) (b : UInt8) (l : List UInt8) : sumJ s (b :: l) = sumJ ((131 * s + b.toNat + 1) % 65521) l := rfl
theorem sumJ_snoc (s : Int) (l : List UInt8) (b : UInt8) : sumJ s (l ++ [b]) = (131 * sumJ s l + b.toNat + 1) % 65521 := by simp [sumJ, List.foldl_append]
theorem sumJ_range {s : Int} (h : 0 ≤ s ∧ s < 65521) : ∀ l, 0 ≤ sumJ s l ∧ sumJ s l < 65521 := by
  intro l
  induction l generalizing s with
  | nil => exact h
  | cons b l ih => rw [sumJ_cons]; exact ih (by omega)
theorem nextJ_range {n : Nat} {s : Int} {r : Rc} (h : 0 ≤ s ∧ s < 65521) : 0 ≤ nextJ n s r ∧ nextJ n s r < 65521 := sumJ_range h _

/-- the journal of records, and its last sum -/
def textJ : Nat → Int → List Rc → List UInt8
  | _, _, [] => []
  | n, s, r :: t => lineJ n s r ++ 10 :: textJ (n + 1) (nextJ n s r) t
def lastJ : Nat → Int → List Rc → Int
  | _, s, [] => s
  | n, s, r :: t => lastJ (n + 1) (nextJ n s r) t

theorem lastJ_range : ∀ (l : List Rc) (n : Nat) {s : Int}, 0 ≤ s ∧ s < 65521 → 0 ≤ lastJ n s l ∧ lastJ n s l < 65521
  | [], _, _, h => h
  | _ :: t, n, _, h => lastJ_range t (n + 1) (nextJ_range h)
theorem textJ_snoc : ∀ (l : List Rc) (n : Nat) (s : Int) (r : Rc), textJ n s (l ++ [r]) = textJ n s l ++ (lineJ (n + l.length) (lastJ n s l) r ++ [10])
  | [], n, s, r => by simp [textJ, lastJ]
  | a :: t, n, s, r => by
    rw [List.cons_append, textJ, textJ_snoc t (n + 1) (nextJ n s a) r, textJ, lastJ, List.length_cons]
    have e : n + 1 + t.length = n + (t.length + 1) := by omega
    rw [e]; simp
theorem lastJ_snoc : ∀ (l : List Rc) (n : Nat) (s : Int) (r : Rc), lastJ n s (l ++ [r]) = nextJ (n + l.length) (lastJ n s l) r
  | [], n, s, r => by simp [lastJ]
  | a :: t, n, s, r => by
    rw [List.cons_append, lastJ, lastJ_snoc t (n + 1) (nextJ n s a) r, lastJ, List.length_cons]
    have e : n + 1 + t.length = n + (t.length + 1) := by omega
    rw [e]

/-- the words of a line -/
def wordsJ (n : Nat) (s : Int) (r : Rc) : List (List UInt8) := [Lib.itoa n, wordJ r.k, Lib.itoa r.n, Lib.itoa (nextJ n s r)]
theorem lineJ_glue (n : Nat) (s : Int) (r : Rc) : lineJ n s r = glue 32 (wordsJ n s r) := by
  simp [lineJ, headJ, wordsJ, glue]
theorem wordJ_free (k : Int) : (32 : UInt8) ∉ wordJ k ∧ (10 : UInt8) ∉ wordJ k := by
  have h : ((32 : UInt8) ∉ wPlan ∧ (10 : UInt8) ∉ wPlan) ∧ ((32 : UInt8) ∉ wPrint ∧ (10 : UInt8) ∉ wPrint) ∧ ((32 : UInt8) ∉ wRead ∧ (10 : UInt8) ∉ wRead) ∧ ((32 : UInt8) ∉ wVoid ∧ (10 : UInt8) ∉ wVoid) := by decide
  unfold wordJ
  repeat' split
  · exact h.1
  · exact h.2.1
  · exact h.2.2.1
  · exact h.2.2.2
theorem wordsJ_free (n : Nat) (s : Int) (r : Rc) : ∀ p ∈ wordsJ n s r, (32 : UInt8) ∉ p ∧ (10 : UInt8) ∉ p := by
  have ha : ∀ n, (32 : UInt8) ∉ Lib.itoa n ∧ (10 : UInt8) ∉ Lib.itoa n := fun n => ⟨itoa_no n 32 (by decide) (by decide), itoa_no n 10 (by decide) (by decide)⟩
  intro p hp
  simp only [wordsJ, List.mem_cons, List.not_mem_nil, or_false] at hp
  rcases hp with rfl | rfl | rfl | rfl
  · exact ha _
  · exact wordJ_free _
  · exact ha _
  · exact ha _
theorem cut_lineJ (n : Nat) (s : Int) (r : Rc) : cut 32 (lineJ n s r) = wordsJ n s r := by
  rw [lineJ_glue]; exact cut_glue 32 _ (by simp [wordsJ]) (fun p hp => (wordsJ_free n s r p hp).1)
theorem lineJ_no (n : Nat) (s : Int) (r : Rc) : (10 : UInt8) ∉ lineJ n s r := by
  intro h
  simp only [lineJ, headJ, List.mem_append, List.mem_cons] at h
  have ha : ∀ n, (10 : UInt8) ∉ Lib.itoa n := fun n => itoa_no n 10 (by decide) (by decide)
  have hw := (wordJ_free r.k).2
  rcases h with (h | h | h | h | h) | h | h
  · exact ha _ h
  · exact absurd h (by decide)
  · exact hw h
  · exact absurd h (by decide)
  · exact ha _ h
  · exact absurd h (by decide)
  · exact ha _ h

/-- the bytes before the first end of a line -/
def lineOf : List UInt8 → Option (List UInt8)
  | [] => none
  | x :: r => if x = 10 then some [] else (lineOf r).map (x :: ·)
theorem lineOf_some : ∀ (l p : List UInt8), lineOf l = some p → (10 : UInt8) ∉ p ∧ ∃ t, l = p ++ 10 :: t
  | [], p, h => by simp [lineOf] at h
  | x :: r, p, h => by
    rw [lineOf] at h
    split at h
    · rename_i hx; subst hx; cases h; exact ⟨by simp, r, rfl⟩
    · rename_i hx
      cases hr : lineOf r with
      | none => rw [hr] at h; cases h
      | some q =>
        rw [hr] at h; cases h
        obtain ⟨h1, t, h2⟩ := lineOf_some r q hr
        exact ⟨by simp; exact ⟨fun e => hx e.symm, h1⟩, t, by rw [h2]; rfl⟩
theorem lineOf_app : ∀ (p t : List UInt8), (10 : UInt8) ∉ p → lineOf (p ++ 10 :: t) = some p
  | [], t, _ => by simp [lineOf]
  | x :: p, t, h => by
    simp at h
    rw [List.cons_append, lineOf, if_neg (fun e => h.1 e.symm), lineOf_app p t h.2]; rfl
theorem lineOf_none : ∀ l : List UInt8, lineOf l = none → (10 : UInt8) ∉ l
  | [], _ => by simp
  | x :: r, h => by
    rw [lineOf] at h
    split at h
    · cases h
    · rename_i hx
      cases hr : lineOf r with
      | none => simp; exact ⟨fun e => hx e.symm, lineOf_none r hr⟩
      | some q => rw [hr] at h; cases h

/-- the program's reading of a number that is not negative -/
def rdec (l : List UInt8) : Option Int :=
  if l = [] ∨ (1 < l.length ∧ l[0]? = some 48) ∨ l[0]? = some 43 ∨ l[0]? = some 45 then none
  else match Lib.parseIntB 64 l with | .ok n => some n | _ => none
theorem dec_head : ∀ u : Nat, 10 ≤ u → (Lib.decDigits u)[0]? ≠ some 48 := by
  intro u
  induction u using Nat.strongRecOn with
  | _ u ih =>
    intro h
    rw [Lib.decDigits.eq_1, dif_neg (by omega)]
    by_cases h2 : u / 10 < 10
    · rw [Lib.decDigits.eq_1, dif_pos h2]
      intro e
      have h3 : UInt8.ofNat (48 + u / 10) = 48 := by
        rw [List.singleton_append, List.getElem?_cons_zero] at e
        exact Option.some.inj e
      have : (UInt8.ofNat (48 + u / 10)).toNat = 48 := by rw [h3]; rfl
      rw [UInt8.toNat_ofNat'] at this
      omega
    · have := ih (u / 10) (by omega) (by omega)
      rw [List.getElem?_append_left]
      · exact this
      · cases he : Lib.decDigits (u / 10) with
        | nil => exact absurd he (decDigits_ne _)
        | cons => simp
theorem rdec_itoa {n : Int} (h0 : 0 ≤ n) (h1 : n ≤ 9223372036854775807) : rdec (Lib.itoa n) = some n := by
  unfold rdec
  rw [if_neg, parseIntB_itoa n (by omega) h1]
  obtain ⟨u, rfl⟩ := Int.eq_ofNat_of_zero_le h0
  rw [Lib.itoa_nonneg]
  have hd := dec_digit u
  have hh := dec_head u
  rintro (h | ⟨h, h2⟩ | h | h)
  · exact decDigits_ne _ h
  · by_cases hu : 10 ≤ u
    · exact hh hu h2
    · rw [Lib.decDigits.eq_1, dif_pos (by omega)] at h; simp at h
  · have := hd 43 (List.mem_of_getElem? h); simp at this
  · have := hd 45 (List.mem_of_getElem? h); simp at this

/-- the program's reading of the next record -/
def readJ (n : Nat) (s : Int) (rest : List UInt8) : Option Rc :=
  match lineOf rest with
  | none => none
  | some p => match cut 32 p with
    | [_, b, c, _] => match rdec c with
      | none => none
      | some i => if kindJ b ≠ 0 ∧ Rc.ok ⟨kindJ b, i⟩ = true ∧ (lineJ n s ⟨kindJ b, i⟩ ++ [10]).isPrefixOf rest = true then some ⟨kindJ b, i⟩ else none
    | _ => none

theorem readJ_iff (n : Nat) (s : Int) (rest : List UInt8) (r : Rc) : readJ n s rest = some r ↔ r.ok = true ∧ ∃ t, rest = lineJ n s r ++ 10 :: t := by
  constructor
  · intro h
    unfold readJ at h
    split at h
    · cases h
    · split at h
      · split at h
        · cases h
        · split at h
          rotate_left
          · cases h
          rename_i hk
          cases h
          refine ⟨hk.2.1, ?_⟩
          obtain ⟨t, ht⟩ := List.isPrefixOf_iff_prefix.1 hk.2.2
          exact ⟨t, by rw [← ht]; simp⟩
      · cases h
  · rintro ⟨hok, t, rfl⟩
    have ho := (r.ok_iff).1 hok
    unfold readJ
    rw [lineOf_app _ _ (lineJ_no n s r)]
    simp only [cut_lineJ, wordsJ, rdec_itoa ho.2.1 (show r.n ≤ 9223372036854775807 by omega), kindJ_word ho.1.1 ho.1.2]
    rw [if_pos]
    refine ⟨by omega, hok, List.isPrefixOf_iff_prefix.2 ⟨t, by simp⟩⟩

/-- the program's reading of a journal -/
def recJ : Nat → Nat → Int → List UInt8 → List Rc
  | 0, _, _, _ => []
  | f + 1, n, s, rest => match readJ n s rest with
    | none => []
    | some r => r :: recJ f (n + 1) (nextJ n s r) (rest.drop ((lineJ n s r).length + 1))

/-- the reference's reading of a line: the record, perhaps wrong -/
def spReadJ (p : List UInt8) : Rc :=
  match cut 32 p with
  | [_, b, c, _] => match valS c with
    | none => ⟨0, 0⟩
    | some i => ⟨kindJ b, i⟩
  | _ => ⟨0, 0⟩
theorem spReadJ_line {n : Nat} {s : Int} {r : Rc} (h : r.ok = true) : spReadJ (lineJ n s r) = r := by
  have ho := (r.ok_iff).1 h
  obtain ⟨k, i⟩ := r
  dsimp only at ho
  obtain ⟨u, rfl⟩ := Int.eq_ofNat_of_zero_le ho.2.1
  unfold spReadJ
  simp only [cut_lineJ, wordsJ, Lib.itoa_nonneg, valS_dec u (by omega), kindJ_word ho.1.1 ho.1.2]

/-- the reference's reading of a journal's lines -/
def spRecJ : Nat → Nat → Int → List (List UInt8) → List Rc
  | 0, _, _, _ => []
  | f + 1, n, s, p :: q :: t => if (spReadJ p).ok = true ∧ lineJ n s (spReadJ p) = p then spReadJ p :: spRecJ f (n + 1) (nextJ n s (spReadJ p)) (q :: t) else []
  | _ + 1, _, _, _ => []

theorem rec_sp : ∀ (f n : Nat) (s : Int) (rest : List UInt8), recJ f n s rest = spRecJ f n s (cut 10 rest)
  | 0, n, s, rest => by rw [recJ, spRecJ]
  | f + 1, n, s, rest => by
    rw [recJ]
    cases hr : readJ n s rest with
    | some r =>
      obtain ⟨hok, t, rfl⟩ := (readJ_iff n s rest r).1 hr
      have hd : (lineJ n s r ++ 10 :: t).drop ((lineJ n s r).length + 1) = t := by
        rw [List.drop_append]; simp
      simp only []
      rw [hd, cut_app 10 _ _ (lineJ_no n s r), rec_sp f]
      cases hc : cut 10 t with
      | nil => exact absurd hc (cut_ne 10 t)
      | cons q u => rw [spRecJ, spReadJ_line hok, if_pos ⟨hok, rfl⟩]
    | none =>
      simp only []
      have hg := glue_cut 10 rest
      have hf := cut_free 10 rest
      cases hc : cut 10 rest with
      | nil => rw [spRecJ]; simp
      | cons p t =>
        cases t with
        | nil => rw [spRecJ]; simp
        | cons q u =>
          rw [spRecJ, if_neg]
          rintro ⟨h1, h2⟩
          rw [hc, glue_cons 10 p _ (by simp)] at hg
          have := (readJ_iff n s rest (spReadJ p)).2 ⟨h1, glue 10 (q :: u), by rw [h2, hg]⟩
          rw [hr] at this; cases this

theorem recJ_prop : ∀ (f n : Nat) (s : Int) (rest : List UInt8), (∀ r ∈ recJ f n s rest, r.ok = true) ∧ (recJ f n s rest).length ≤ f ∧ ∃ t, rest = textJ n s (recJ f n s rest) ++ t
  | 0, n, s, rest => by rw [recJ]; exact ⟨by simp, by simp, rest, rfl⟩
  | f + 1, n, s, rest => by
    rw [recJ]
    cases hr : readJ n s rest with
    | some r =>
      obtain ⟨hok, t, rfl⟩ := (readJ_iff n s rest r).1 hr
      have hd : (lineJ n s r ++ 10 :: t).drop ((lineJ n s r).length + 1) = t := by
        rw [List.drop_append]; simp
      simp only [hd]
      obtain ⟨h1, h2, u, h3⟩ := recJ_prop f (n + 1) (nextJ n s r) t
      refine ⟨?_, by simpa using h2, u, ?_⟩
      · intro x hx
        rcases List.mem_cons.1 hx with rfl | hx
        · exact hok
        · exact h1 x hx
      · rw [textJ, List.append_assoc, List.cons_append, ← h3]
    | none => exact ⟨by simp, by simp, rest, rfl⟩

theorem recJ_text : ∀ (l : List Rc) (f n : Nat) (s : Int), (∀ r ∈ l, r.ok = true) → l.length ≤ f → recJ f n s (textJ n s l) = l
  | [], f, n, s, _, _ => by
    cases f with
    | zero => rfl
    | succ f =>
      rw [recJ]
      cases hr : readJ n s (textJ n s []) with
      | none => rfl
      | some r =>
        obtain ⟨_, t, h⟩ := (readJ_iff n s _ r).1 hr
        simp [textJ] at h
  | r :: t, f, n, s, hok, hl => by
    cases f with
    | zero => simp at hl
    | succ f =>
      have h := (readJ_iff n s (textJ n s (r :: t)) r).2 ⟨hok r (by simp), _, by rw [textJ]⟩
      rw [recJ, h]
      simp only []
      have hd : (textJ n s (r :: t)).drop ((lineJ n s r).length + 1) = textJ (n + 1) (nextJ n s r) t := by
        rw [textJ, List.drop_append]; simp
      rw [hd, recJ_text t f (n + 1) (nextJ n s r) (fun x hx => hok x (by simp [hx])) (by simp at hl; omega)]

theorem itoa_len {n : Int} (k : Nat) (h0 : 0 ≤ n) (h : n < 10 ^ (k + 1)) : (Lib.itoa n).length ≤ k + 1 := by
  obtain ⟨u, rfl⟩ := Int.eq_ofNat_of_zero_le h0
  rw [Lib.itoa_nonneg]
  exact dec_len k u (by exact_mod_cast h)
theorem wordJ_len (k : Int) : (wordJ k).length ≤ 5 := by
  unfold wordJ
  repeat' split
  all_goals decide
theorem lineJ_len {n : Nat} {s : Int} {r : Rc} (hn : n < 1000) (hs : 0 ≤ s ∧ s < 65521) (hok : r.ok = true) : (lineJ n s r).length ≤ 19 := by
  have ho := (r.ok_iff).1 hok
  have hx := nextJ_range (n := n) (r := r) hs
  have h1 := itoa_len 2 (n := (n : Int)) (by omega) (by omega)
  have h2 := wordJ_len r.k
  have h3 := itoa_len 2 ho.2.1 (by omega)
  have h4 := itoa_len 4 hx.1 (by omega)
  simp only [lineJ, headJ, List.length_append, List.length_cons]
  omega
theorem textJ_len : ∀ (l : List Rc) (n : Nat) (s : Int), n + l.length ≤ 1000 → 0 ≤ s ∧ s < 65521 → (∀ r ∈ l, r.ok = true) → (textJ n s l).length ≤ 20 * l.length
  | [], _, _, _, _, _ => by simp [textJ]
  | r :: t, n, s, hn, hs, hok => by
    have h1 := lineJ_len (n := n) (s := s) (r := r) (by simp at hn; omega) hs (hok r (by simp))
    have h2 := textJ_len t (n + 1) (nextJ n s r) (by simp at hn; omega) (nextJ_range hs) (fun x hx => hok x (by simp [hx]))
    rw [textJ]
    simp only [List.length_append, List.length_cons]
    omega

end Go.Proofs.YtkmfgchbfchdbaaDoor
