import Derived.Test.YtkmfgchbfchdbaaGreatDoorM0
import Derived.Test.YtkmfgchbfchdbaaGreatDoorVDmgL
namespace Go.Proofs.YtkmfgchbfchdbaaGreatDoor
open Go.RowKit

/-- the words of the kinds -/
def dBlot : List UInt8 := [98, 108, 111, 116]
def dScratch : List UInt8 := [115, 99, 114, 97, 116, 99, 104]
def dSkew : List UInt8 := [115, 107, 101, 119]
def dNoise : List UInt8 := [110, 111, 105, 115, 101]
def dFade : List UInt8 := [102, 97, 100, 101]

/-- the kind with a word; 0 if it is none -/
def kindOf (l : List UInt8) : Nat :=
  if l = dBlot then 1 else if l = dScratch then 2 else if l = dSkew then 3 else if l = dNoise then 4 else if l = dFade then 5 else 0

/-- the word and the numbers of a damage -/
def txtD (d : Dm) : List (List UInt8) :=
  if d.k = 1 then [dBlot, Lib.itoa d.r, Lib.itoa d.c, Lib.itoa d.t, Lib.itoa d.g]
  else if d.k = 2 then [dScratch, Lib.itoa d.r, Lib.itoa d.c, Lib.itoa d.t, Lib.itoa d.w, Lib.itoa d.g]
  else if d.k = 3 then [dSkew, Lib.itoa d.t, Lib.itoa d.w, Lib.itoa d.g]
  else if d.k = 4 then [dNoise, Lib.itoa d.r, Lib.itoa d.t, Lib.itoa d.g]
  else [dFade, Lib.itoa d.t, Lib.itoa d.g]

/-- the damage that is written in words -/
def rawD (k : Nat) (ns : List Int) : Option Dm :=
  match k, ns with
  | 1, [r, c, t, g] => some ⟨1, r, c, t, 0, g⟩
  | 2, [r, c, t, w, g] => some ⟨2, r, c, t, w, g⟩
  | 3, [t, w, g] => some ⟨3, 0, 0, t, w, g⟩
  | 4, [r, t, g] => some ⟨4, r, 0, t, 0, g⟩
  | 5, [t, g] => some ⟨5, 0, 0, t, 0, g⟩
  | _, _ => none

/-- all numbers of some words -/
def rnums : List (List UInt8) → Option (List Int)
  | [] => some []
  | h :: t => match rnum h with
    | none => none
    | some n => match rnums t with
      | none => none
      | some ns => some (n :: ns)

/-- the valid damage that is written in words -/
def rdOne (ws : List (List UInt8)) : Option Dm :=
  match ws with
  | [] => none
  | h :: t => match rnums t with
    | none => none
    | some ns => match rawD (kindOf h) ns with
      | none => none
      | some d => if d.ok = true then some d else none

theorem rnums_some : ∀ (ws : List (List UInt8)) (ns : List Int), rnums ws = some ns → ws = ns.map Lib.itoa
  | [], ns, h => by simp [rnums] at h; subst h; rfl
  | a :: t, ns, h => by
    rw [rnums] at h
    split at h
    · cases h
    · rename_i n hn
      split at h
      · cases h
      · rename_i ms hm
        cases h
        rw [List.map_cons, ← rnums_some t ms hm, ← rnum_some a n hn]

theorem rnums_itoa : ∀ ns : List Int, (∀ n ∈ ns, -9223372036854775808 ≤ n ∧ n ≤ 9223372036854775807) → rnums (ns.map Lib.itoa) = some ns
  | [], _ => rfl
  | n :: ns, h => by
    rw [List.map_cons, rnums, rnum_itoa n (h n (by simp)).1 (h n (by simp)).2, rnums_itoa ns (fun m hm => h m (by simp [hm]))]

theorem kind_word (l : List UInt8) : (kindOf l = 1 → l = dBlot) ∧ (kindOf l = 2 → l = dScratch) ∧ (kindOf l = 3 → l = dSkew) ∧ (kindOf l = 4 → l = dNoise) ∧ (kindOf l = 5 → l = dFade) := by
  unfold kindOf
  refine ⟨?_, ?_, ?_, ?_, ?_⟩ <;> (repeat' split) <;> intro h <;> first | assumption | omega

theorem rdOne_some (ws : List (List UInt8)) (d : Dm) (h : rdOne ws = some d) : d.ok = true ∧ ws = txtD d := by
  unfold rdOne at h
  split at h
  · cases h
  · rename_i a t
    split at h
    · cases h
    · rename_i ns hns
      have e := rnums_some t ns hns
      split at h
      · cases h
      · rename_i d' hd'
        split at h
        · rename_i hok
          cases h
          refine ⟨hok, ?_⟩
          have hk := kind_word a
          unfold rawD at hd'
          split at hd' <;> first | cases hd' | skip
          all_goals rename_i hka
          · rw [hk.1 hka, e]; rfl
          · rw [hk.2.1 hka, e]; rfl
          · rw [hk.2.2.1 hka, e]; rfl
          · rw [hk.2.2.2.1 hka, e]; rfl
          · rw [hk.2.2.2.2 hka, e]; rfl
        · cases h

theorem kind_words : kindOf dBlot = 1 ∧ kindOf dScratch = 2 ∧ kindOf dSkew = 3 ∧ kindOf dNoise = 4 ∧ kindOf dFade = 5 := by decide

theorem ok_parts (d : Dm) (h : d.ok = true) : (d.k = 1 ∧ d.w = 0) ∨ d.k = 2 ∨ (d.k = 3 ∧ d.r = 0 ∧ d.c = 0) ∨ (d.k = 4 ∧ d.c = 0 ∧ d.w = 0) ∨ (d.k = 5 ∧ d.r = 0 ∧ d.c = 0 ∧ d.w = 0) := by
  have hb := dm_bounds h
  obtain ⟨k, r, c, t, w, g⟩ := d
  simp only [Dm.ok, dmOk, Bool.and_eq_true] at h
  try dsimp only at hb
  try dsimp only
  have hk : k = 1 ∨ k = 2 ∨ k = 3 ∨ k = 4 ∨ k = 5 := by omega
  rcases hk with rfl | rfl | rfl | rfl | rfl
  · rw [fine1] at h; simp at h; omega
  · omega
  · rw [fine3] at h; simp at h; omega
  · rw [fine4] at h; simp at h; omega
  · rw [fine5] at h; simp at h; omega

theorem rdOne_cons (a : List UInt8) (ns : List Int) (d : Dm) (h : d.ok = true) (hn : ∀ n ∈ ns, -9223372036854775808 ≤ n ∧ n ≤ 9223372036854775807) (hr : rawD (kindOf a) ns = some d) : rdOne (a :: ns.map Lib.itoa) = some d := by
  simp only [rdOne, rnums_itoa ns hn, hr, h, if_true]

theorem rdOne_txt (d : Dm) (h : d.ok = true) : rdOne (txtD d) = some d := by
  have hb := dm_bounds h
  have hp := ok_parts d h
  obtain ⟨k, r, c, t, w, g⟩ := d
  try dsimp only at hb
  try dsimp only at hp
  rcases hp with ⟨rfl, rfl⟩ | rfl | ⟨rfl, rfl, rfl⟩ | ⟨rfl, rfl, rfl⟩ | ⟨rfl, rfl, rfl, rfl⟩
  · exact rdOne_cons dBlot [r, c, t, g] _ h (by simp; omega) (by rw [kind_words.1]; rfl)
  · exact rdOne_cons dScratch [r, c, t, w, g] _ h (by simp; omega) (by rw [kind_words.2.1]; rfl)
  · exact rdOne_cons dSkew [t, w, g] _ h (by simp; omega) (by rw [kind_words.2.2.1]; rfl)
  · exact rdOne_cons dNoise [r, t, g] _ h (by simp; omega) (by rw [kind_words.2.2.2.1]; rfl)
  · exact rdOne_cons dFade [t, g] _ h (by simp; omega) (by rw [kind_words.2.2.2.2]; rfl)

theorem txtD_free (d : Dm) : ∀ p ∈ txtD d, (32 : UInt8) ∉ p ∧ (59 : UInt8) ∉ p := by
  have ha : ∀ n, (32 : UInt8) ∉ Lib.itoa n ∧ (59 : UInt8) ∉ Lib.itoa n := fun n => ⟨itoa_no n 32 (by decide) (by decide), itoa_no n 59 (by decide) (by decide)⟩
  have hw : ((32 : UInt8) ∉ dBlot ∧ (59 : UInt8) ∉ dBlot) ∧ ((32 : UInt8) ∉ dScratch ∧ (59 : UInt8) ∉ dScratch) ∧ ((32 : UInt8) ∉ dSkew ∧ (59 : UInt8) ∉ dSkew) ∧ ((32 : UInt8) ∉ dNoise ∧ (59 : UInt8) ∉ dNoise) ∧ ((32 : UInt8) ∉ dFade ∧ (59 : UInt8) ∉ dFade) := by decide
  obtain ⟨w1, w2, w3, w4, w5⟩ := hw
  intro p hp
  unfold txtD at hp
  repeat' split at hp
  all_goals
    simp only [List.mem_cons, List.not_mem_nil, or_false] at hp
    rcases hp with rfl | rfl | rfl | rfl | rfl | rfl <;> first | assumption | exact ha _

theorem txtD_ne (d : Dm) : txtD d ≠ [] := by unfold txtD; repeat' split
                                             all_goals simp

/-- the text of a damage -/
def lineD (d : Dm) : List UInt8 := glue 32 (txtD d)
/-- the text of damages -/
def textD (ds : List Dm) : List UInt8 := glue 59 (ds.map lineD)

theorem cut_line (d : Dm) : cut 32 (lineD d) = txtD d := cut_glue 32 _ (txtD_ne d) (fun p hp => (txtD_free d p hp).1)

theorem glue_no (b c : UInt8) (hbc : c ≠ b) : ∀ ps : List (List UInt8), (∀ p ∈ ps, c ∉ p) → c ∉ glue b ps
  | [] => fun _ => by simp [glue]
  | [p] => fun h => h p (by simp)
  | p :: q :: t => fun h => by
    rw [glue_cons _ _ _ (by simp)]
    have := glue_no b c hbc (q :: t) (fun x hx => h x (by simp [hx]))
    have := h p (by simp)
    simp [*]

theorem cut_text (ds : List Dm) (h : ds ≠ []) : cut 59 (textD ds) = ds.map lineD :=
  cut_glue 59 _ (by simpa using h) (fun p hp => by
    obtain ⟨d, _, rfl⟩ := List.mem_map.1 hp
    exact glue_no 32 59 (by decide) _ (fun q hq => (txtD_free d q hq).2))

/-- the valid damages that some texts are -/
def rdAll : List (List UInt8) → Option (List Dm)
  | [] => some []
  | p :: t => match rdOne (cut 32 p) with
    | none => none
    | some d => match rdAll t with
      | none => none
      | some ds => some (d :: ds)

theorem rdAll_some : ∀ (ps : List (List UInt8)) (ds : List Dm), rdAll ps = some ds → ps = ds.map lineD ∧ ∀ d ∈ ds, d.ok = true
  | [], ds, h => by simp [rdAll] at h; subst h; simp
  | p :: t, ds, h => by
    rw [rdAll] at h
    split at h
    · cases h
    · rename_i d hd
      split at h
      · cases h
      · rename_i es he
        cases h
        obtain ⟨hok, hc⟩ := rdOne_some _ _ hd
        obtain ⟨h1, h2⟩ := rdAll_some t es he
        have hp : p = lineD d := by rw [← glue_cut 32 p, hc, lineD]
        refine ⟨by rw [List.map_cons, ← h1, ← hp], ?_⟩
        intro e hm
        rcases List.mem_cons.1 hm with rfl | hm
        · exact hok
        · exact h2 e hm

theorem rdAll_lines : ∀ ds : List Dm, (∀ d ∈ ds, d.ok = true) → rdAll (ds.map lineD) = some ds
  | [], _ => rfl
  | d :: ds, h => by
    rw [List.map_cons, rdAll, cut_line, rdOne_txt d (h d (by simp)), rdAll_lines ds (fun e he => h e (by simp [he]))]

/-- the damages whose text a text of one byte or more is, as the program reads it -/
def rdText (s : List UInt8) : Option (List Dm) := if 20 < (cut 59 s).length then none else rdAll (cut 59 s)

theorem rdText_iff (s : List UInt8) (ds : List Dm) : rdText s = some ds ↔ ds ≠ [] ∧ ds.length ≤ 20 ∧ (∀ d ∈ ds, d.ok = true) ∧ s = textD ds := by
  unfold rdText
  constructor
  · intro h
    split at h
    · cases h
    · rename_i hl
      obtain ⟨h1, h2⟩ := rdAll_some _ _ h
      have hlen : (cut 59 s).length = ds.length := by rw [h1]; simp
      have hs : s = textD ds := by rw [← glue_cut 59 s, h1, textD]
      refine ⟨?_, by omega, h2, hs⟩
      intro e
      have := cut_ne 59 s
      rw [h1, e] at this
      exact this rfl
  · rintro ⟨h0, hl, hok, rfl⟩
    rw [cut_text ds h0, rdAll_lines ds hok, if_neg (by simp; omega)]

end Go.Proofs.YtkmfgchbfchdbaaGreatDoor
