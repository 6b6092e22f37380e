import Derived.Test.YtkmfgchbfchdbaaGreatDoorVRdP2
namespace Go.Proofs.YtkmfgchbfchdbaaGreatDoor
open Go.RowKit

/-- the same, perhaps behind a sign -/
def sgnS : List UInt8 → Option Int
  | [] => valS []
  | x :: r => if x = 45 then (match valS r with | none => none | some n => some (-n)) else valS (x :: r)

theorem sgnS_itoa (n : Int) (h0 : -1000000000000 < n) (h1 : n < 1000000000000) : sgnS (Lib.itoa n) = some n := by
  by_cases hn : n < 0
  · have e : Lib.itoa n = 45 :: Lib.decDigits n.natAbs := by rw [Lib.itoa, if_pos hn]
    rw [e, sgnS, if_pos rfl, valS_dec _ (by omega)]
    simp only []; congr 1; omega
  · have e : Lib.itoa n = Lib.decDigits n.toNat := by rw [Lib.itoa, if_neg hn]
    rw [e]
    have hd := dec_digit n.toNat
    have hv := valS_dec n.toNat (by omega)
    cases he : Lib.decDigits n.toNat with
    | nil => exact absurd he (decDigits_ne _)
    | cons c r =>
      rw [he] at hd hv
      have hc := hd c (by simp)
      have : ¬ c = 45 := by intro e; rw [e] at hc; simp at hc
      rw [sgnS, if_neg this, hv]
      congr 1; omega

/-- the numbers of the fields that a kind has; 0 for the others -/
def spNums : List Bool → List (List UInt8) → Option (List Int)
  | [], _ => some []
  | false :: f, ws => match spNums f ws with | none => none | some ns => some (0 :: ns)
  | true :: _, [] => none
  | true :: f, a :: ws => match sgnS a with
    | none => none
    | some n => match spNums f ws with | none => none | some ns => some (n :: ns)

/-- the fields of a kind -/
def spFl (k : Nat) : List Bool :=
  if k = 1 then [true, true, true, false, true] else if k = 2 then [true, true, true, true, true] else if k = 3 then [false, false, true, true, true]
  else if k = 4 then [true, false, true, false, true] else [false, false, true, false, true]

/-- the reference's reading of one damage -/
def spOne (ws : List (List UInt8)) : Option Dm :=
  match ws with
  | [] => none
  | h :: t => if kindOf h = 0 then none else match spNums (spFl (kindOf h)) t with
    | some [r, c, t, w, g] => some ⟨kindOf h, r, c, t, w, g⟩
    | _ => none

theorem spOne_txt (d : Dm) (h : d.ok = true) : spOne (txtD d) = some d := by
  have hb := dm_bounds h
  have hp := ok_parts d h
  obtain ⟨k, r, c, t, w, g⟩ := d
  try dsimp only at hb
  try dsimp only at hp
  have sr := sgnS_itoa r (by omega) (by omega)
  have sc := sgnS_itoa c (by omega) (by omega)
  have st := sgnS_itoa t (by omega) (by omega)
  have sw := sgnS_itoa w (by omega) (by omega)
  have sg := sgnS_itoa g (by omega) (by omega)
  obtain ⟨k1, k2, k3, k4, k5⟩ := kind_words
  rcases hp with ⟨rfl, rfl⟩ | rfl | ⟨rfl, rfl, rfl⟩ | ⟨rfl, rfl, rfl⟩ | ⟨rfl, rfl, rfl, rfl⟩ <;>
    simp [txtD, spOne, k1, k2, k3, k4, k5, spFl, spNums, sr, sc, st, sw, sg]

/-- the reference's reading of texts -/
def spAll : List (List UInt8) → Option (List Dm)
  | [] => some []
  | p :: t => match spOne (cut 32 p) with
    | none => none
    | some d => match spAll t with
      | none => none
      | some ds => some (d :: ds)

theorem spAll_len : ∀ (ps : List (List UInt8)) (ds : List Dm), spAll ps = some ds → ds.length = ps.length
  | [], ds, h => by simp [spAll] at h; subst h; rfl
  | p :: t, ds, h => by
    rw [spAll] at h
    split at h
    · cases h
    · split at h
      · cases h
      · rename_i es he
        cases h
        simp [spAll_len t es he]

theorem spAll_lines : ∀ ds : List Dm, (∀ d ∈ ds, d.ok = true) → spAll (ds.map lineD) = some ds
  | [], _ => rfl
  | d :: ds, h => by
    rw [List.map_cons, spAll, cut_line, spOne_txt d (h d (by simp)), spAll_lines ds (fun e he => h e (by simp [he]))]

/-- the text of damages; no byte if they are not valid -/
def dtext (ds : List Dm) : List UInt8 := if ds.length ≤ 20 ∧ (∀ d ∈ ds, d.ok = true) then textD ds else []

/-- the damages whose text a text of one byte or more is, as the reference reads it -/
def spText (s : List UInt8) : Option (List Dm) :=
  match spAll (cut 59 s) with
  | none => none
  | some ds => if dtext ds = s then some ds else none

/-- both read the same -/
theorem rd_sp (s : List UInt8) (hs : s ≠ []) : rdText s = spText s := by
  cases hr : rdText s with
  | some ds =>
    obtain ⟨h0, hl, hok, he⟩ := (rdText_iff s ds).1 hr
    have hc : cut 59 s = ds.map lineD := by rw [he]; exact cut_text ds h0
    unfold spText
    rw [hc, spAll_lines ds hok]
    simp only []
    rw [if_pos (by rw [dtext, if_pos ⟨hl, hok⟩, he])]
  | none =>
    cases hp : spText s with
    | none => rfl
    | some ds =>
      exfalso
      unfold spText at hp
      split at hp
      · cases hp
      · rename_i es hes
        split at hp
        · rename_i ht
          cases hp
          have hlen := spAll_len _ _ hes
          unfold dtext at ht
          split at ht
          · rename_i hv
            have h0 : ds ≠ [] := by
              intro e
              have := cut_ne 59 s
              rw [e] at hlen
              exact this (List.eq_nil_of_length_eq_zero hlen.symm)
            have := (rdText_iff s ds).2 ⟨h0, hv.1, hv.2, ht.symm⟩
            rw [hr] at this; cases this
          · exact hs ht.symm
        · cases hp

end Go.Proofs.YtkmfgchbfchdbaaGreatDoor
