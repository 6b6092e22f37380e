import Derived.Test.YtkmfgchbfchdbaaGreatDoorM0
import Derived.Test.YtkmfgchbfchdbaaGreatDoorVRasFn
namespace Go.Proofs.YtkmfgchbfchdbaaGreatDoor
open Go.RowKit

/-- are the fields of a damage as described for its kind -/
def fineB (k r c t w : Int) : Bool :=
  if k = 1 then inB r 0 400 && inB c 0 400 && inB t 0 400 && (w == 0)
  else if k = 2 then inB r 0 400 && inB c 0 400 && inB t 1 400 && inB w 1 400
  else if k = 3 then (r == 0) && (c == 0) && inB t 1 400 && inB w (-400) 400
  else if k = 4 then inB r 0 400 && inB t 0 400 && (c == 0) && (w == 0)
  else if k = 5 then (r == 0) && (c == 0) && (w == 0) && inB t 0 256
  else false
/-- a valid damage -/
def dmOk (k r c t w g : Int) : Bool := fineB k r c t w && inB g 0 255
theorem fine1 {r c t w : Int} : fineB 1 r c t w = (inB r 0 400 && inB c 0 400 && inB t 0 400 && (w == 0)) := by simp [fineB]
theorem fine2 {r c t w : Int} : fineB 2 r c t w = (inB r 0 400 && inB c 0 400 && inB t 1 400 && inB w 1 400) := by simp [fineB]
theorem fine3 {r c t w : Int} : fineB 3 r c t w = ((r == 0) && (c == 0) && inB t 1 400 && inB w (-400) 400) := by simp [fineB]
theorem fine4 {r c t w : Int} : fineB 4 r c t w = (inB r 0 400 && inB t 0 400 && (c == 0) && (w == 0)) := by simp [fineB]
theorem fine5 {r c t w : Int} : fineB 5 r c t w = ((r == 0) && (c == 0) && (w == 0) && inB t 0 256) := by simp [fineB]
theorem fine0 {k r c t w : Int} (h : k < 1 ∨ 5 < k) : fineB k r c t w = false := by
  unfold fineB
  rw [if_neg (by omega), if_neg (by omega), if_neg (by omega), if_neg (by omega), if_neg (by omega)]
theorem dm_bounds {k r c t w g : Int} (h : dmOk k r c t w g = true) : (1 ≤ k ∧ k ≤ 5) ∧ (0 ≤ r ∧ r ≤ 400) ∧ (0 ≤ c ∧ c ≤ 400) ∧ (0 ≤ t ∧ t ≤ 400) ∧ (-400 ≤ w ∧ w ≤ 400) ∧ (0 ≤ g ∧ g ≤ 255) ∧ (k = 3 → 1 ≤ t) ∧ (k = 5 → t ≤ 256) := by
  unfold dmOk at h
  rw [Bool.and_eq_true, inB_iff] at h
  obtain ⟨h1, h2⟩ := h
  by_cases hk : k < 1 ∨ 5 < k
  · rw [fine0 hk] at h1; cases h1
  · have : k = 1 ∨ k = 2 ∨ k = 3 ∨ k = 4 ∨ k = 5 := by omega
    rcases this with rfl | rfl | rfl | rfl | rfl
    · simp only [fine1, Bool.and_eq_true, inB_iff, beq_iff_eq] at h1; omega
    · simp only [fine2, Bool.and_eq_true, inB_iff] at h1; omega
    · simp only [fine3, Bool.and_eq_true, inB_iff, beq_iff_eq] at h1; omega
    · simp only [fine4, Bool.and_eq_true, inB_iff, beq_iff_eq] at h1; omega
    · simp only [fine5, Bool.and_eq_true, inB_iff, beq_iff_eq] at h1; omega

/-- does a blot or a scratch touch a pixel -/
def touchB (k r c t w y x : Int) : Bool := if k = 1 then decide ((y - r) * (y - r) + (x - c) * (x - c) ≤ t * t) else inB y r (r + t - 1) && inB x c (c + w - 1)
theorem touch1 {r c t w y x : Int} : touchB 1 r c t w y x = decide ((y - r) * (y - r) + (x - c) * (x - c) ≤ t * t) := by simp [touchB]
theorem touch2 {r c t w y x : Int} : touchB 2 r c t w y x = (inB y r (r + t - 1) && inB x c (c + w - 1)) := by simp [touchB]

/-- a pixel behind a damage that is no noise -/
def dpix (k r c t w g : Int) (m : Nat) (xs : List Int) (y x : Nat) : Int :=
  if k = 3 then (if inB ((x : Int) - (y : Int) * w / t) 0 ((m : Int) - 1) = true then xs.getD (y * m + ((x : Int) - (y : Int) * w / t).toNat) 0 else g)
  else if k = 5 then (xs.getD (y * m + x) 0 * t + g * (256 - t)) / 256
  else if touchB k r c t w y x = true then g else xs.getD (y * m + x) 0
/-- rounds of noise -/
def nz (g : Int) (N : Nat) (p : Int × List Int) : Nat → Int × List Int
  | 0 => p
  | t + 1 => ((75 * (nz g N p t).1 + 74) % 65537, (nz g N p t).2.set (((75 * (nz g N p t).1 + 74) % 65537) % (N : Int)).toNat g)
/-- the pixels behind a damage -/
def dmgL (k r c t w g : Int) (n m : Nat) (xs : List Int) : List Int :=
  if k = 4 then (nz g (n * m) (r, xs) t.toNat).2 else pix (dpix k r c t w g m xs) m (n * m)

theorem nz_len {g : Int} {N : Nat} {p : Int × List Int} : ∀ t, (nz g N p t).2.length = p.2.length
  | 0 => rfl
  | t + 1 => by simp [nz, nz_len t]
theorem nz_x {g : Int} {N : Nat} {p : Int × List Int} (h : 0 ≤ p.1 ∧ p.1 ≤ 65536) : ∀ t, 0 ≤ (nz g N p t).1 ∧ (nz g N p t).1 ≤ 65536
  | 0 => h
  | t + 1 => by have := nz_x (g := g) (N := N) h t; simp only [nz]; omega
def Greys (xs : List Int) : Prop := ∀ x ∈ xs, 0 ≤ x ∧ x ≤ 255
theorem greys_set {xs : List Int} {i : Nat} {g : Int} (h : Greys xs) (hg : 0 ≤ g ∧ g ≤ 255) : Greys (xs.set i g) := fun x hx => by
  rcases List.mem_or_eq_of_mem_set hx with h1 | h1
  · exact h x h1
  · subst h1; exact hg
theorem nz_greys {g : Int} {N : Nat} {p : Int × List Int} (h : Greys p.2) (hg : 0 ≤ g ∧ g ≤ 255) : ∀ t, Greys (nz g N p t).2
  | 0 => h
  | t + 1 => greys_set (nz_greys h hg t) hg
theorem getD_grey {xs : List Int} (h : Greys xs) (i : Nat) : 0 ≤ xs.getD i 0 ∧ xs.getD i 0 ≤ 255 := by
  rw [List.getD_eq_getElem?_getD]
  by_cases hi : i < xs.length
  · rw [List.getElem?_eq_getElem hi]; exact h _ (List.getElem_mem hi)
  · rw [List.getElem?_eq_none (by omega)]; simp
theorem fade_mid {v t g : Int} (hv : 0 ≤ v ∧ v ≤ 255) (ht : 0 ≤ t ∧ t ≤ 256) (hg : 0 ≤ g ∧ g ≤ 255) : 0 ≤ v * t ∧ v * t ≤ 255 * t ∧ 0 ≤ g * (256 - t) ∧ g * (256 - t) ≤ 255 * (256 - t) :=
  ⟨Int.mul_nonneg hv.1 ht.1, Int.mul_le_mul_of_nonneg_right hv.2 ht.1, Int.mul_nonneg hg.1 (by omega), Int.mul_le_mul_of_nonneg_right hg.2 (by omega)⟩
theorem fade_grey {v t g : Int} (hv : 0 ≤ v ∧ v ≤ 255) (ht : 0 ≤ t ∧ t ≤ 256) (hg : 0 ≤ g ∧ g ≤ 255) : 0 ≤ (v * t + g * (256 - t)) / 256 ∧ (v * t + g * (256 - t)) / 256 ≤ 255 := by
  obtain ⟨h1, h2, h3, h4⟩ := fade_mid hv ht hg
  generalize v * t = a at *
  generalize g * (256 - t) = b at *
  omega
theorem dpix_grey {k r c t w g : Int} {m : Nat} {xs : List Int} (hd : dmOk k r c t w g = true) (h : Greys xs) (y x : Nat) : 0 ≤ dpix k r c t w g m xs y x ∧ dpix k r c t w g m xs y x ≤ 255 := by
  obtain ⟨_, _, _, h4, _, h6, _, h8⟩ := dm_bounds hd
  unfold dpix
  by_cases h3 : k = 3
  · rw [if_pos h3]
    split
    · exact getD_grey h _
    · exact h6
  · rw [if_neg h3]
    by_cases h5 : k = 5
    · rw [if_pos h5]
      exact fade_grey (getD_grey h _) ⟨h4.1, h8 h5⟩ h6
    · rw [if_neg h5]
      split
      · exact h6
      · exact getD_grey h _
theorem dmgL_greys {k r c t w g : Int} {n m : Nat} {xs : List Int} (hd : dmOk k r c t w g = true) (h : Greys xs) : Greys (dmgL k r c t w g n m xs) := by
  obtain ⟨_, _, _, _, _, h6, _⟩ := dm_bounds hd
  unfold dmgL
  split
  · exact nz_greys h h6 _
  · intro x hx
    obtain ⟨i, _, rfl⟩ := List.mem_map.1 hx
    exact dpix_grey hd h _ _
theorem dmgL_len {k r c t w g : Int} {n m : Nat} {xs : List Int} (h : xs.length = n * m) : (dmgL k r c t w g n m xs).length = n * m := by
  unfold dmgL
  split
  · rw [nz_len]; exact h
  · exact pix_len _ _ _
theorem dmgL_pix {k r c t w g : Int} {n m : Nat} {xs : List Int} (h : k ≠ 4) : dmgL k r c t w g n m xs = pix (dpix k r c t w g m xs) m (n * m) := by rw [dmgL, if_neg h]
theorem dmgL_noise {r c t w g : Int} {n m : Nat} {xs : List Int} : dmgL 4 r c t w g n m xs = (nz g (n * m) (r, xs) t.toNat).2 := by rw [dmgL, if_pos rfl]

/-- a damage in six numbers -/
structure Dm where
  k : Int
  r : Int
  c : Int
  t : Int
  w : Int
  g : Int
def Dm.ok (d : Dm) : Bool := dmOk d.k d.r d.c d.t d.w d.g
def Dm.on (d : Dm) (n m : Nat) (xs : List Int) : List Int := dmgL d.k d.r d.c d.t d.w d.g n m xs
/-- the pixels behind damages, one after the other -/
def dmsL (n m : Nat) (ds : List Dm) (xs : List Int) : List Int := ds.foldl (fun ys d => d.on n m ys) xs
theorem dmsL_snoc {n m : Nat} {ds : List Dm} {d : Dm} {xs : List Int} : dmsL n m (ds ++ [d]) xs = d.on n m (dmsL n m ds xs) := by simp [dmsL, List.foldl_append]
theorem dmsL_len {n m : Nat} {xs : List Int} (h : xs.length = n * m) : ∀ ds : List Dm, (dmsL n m ds xs).length = n * m
  | [] => h
  | d :: ds => dmsL_len (xs := d.on n m xs) (dmgL_len h) ds
theorem dmsL_greys {n m : Nat} {xs : List Int} (h : Greys xs) : ∀ ds : List Dm, (∀ d ∈ ds, d.ok = true) → Greys (dmsL n m ds xs)
  | [], _ => h
  | d :: ds, hd => dmsL_greys (xs := d.on n m xs) (dmgL_greys (hd d (by simp)) h) ds (fun e he => hd e (by simp [he]))

/-- a raster may have n rows and m columns -/
def sizeB (n m : Int) : Bool := inB n 1 400 && inB m 1 400 && decide (n * m ≤ 40000)
/-- a grey value -/
def greyB (x : Int) : Bool := inB x 0 255
/-- a raster of n rows and m columns -/
def rasOk (n m : Int) (xs : List Int) : Bool := sizeB n m && !((xs.length : Int) != n * m) && xs.all greyB
theorem size_bd {n m : Int} (h1 : inB n 1 400 = true) (h2 : inB m 1 400 = true) : 1 ≤ n * m ∧ n * m ≤ 160000 := by
  rw [inB_iff] at h1 h2
  have a : 1 * 1 ≤ n * m := Int.mul_le_mul h1.1 h2.1 (by omega) (by omega)
  have b : n * m ≤ 400 * 400 := Int.mul_le_mul h1.2 h2.2 (by omega) (by omega)
  omega
theorem greys_of {xs : List Int} (h : xs.all greyB = true) : Greys xs := fun x hx => inB_iff.1 (List.all_eq_true.1 h x hx)
theorem size_nat {n m : Int} (h : sizeB n m = true) : ∃ a b : Nat, n = a ∧ m = b ∧ 1 ≤ a ∧ a ≤ 400 ∧ 1 ≤ b ∧ b ≤ 400 ∧ a * b ≤ 40000 ∧ n * m = ((a * b : Nat) : Int) := by
  simp only [sizeB, Bool.and_eq_true, inB_iff, decide_eq_true_eq] at h
  obtain ⟨⟨h1, h2⟩, h3⟩ := h
  obtain ⟨a, rfl⟩ := Int.eq_ofNat_of_zero_le (show 0 ≤ n by omega)
  obtain ⟨b, rfl⟩ := Int.eq_ofNat_of_zero_le (show 0 ≤ m by omega)
  have e : (a : Int) * (b : Int) = ((a * b : Nat) : Int) := (Int.natCast_mul a b).symm
  rw [e] at h3
  exact ⟨a, b, rfl, rfl, by omega, by omega, by omega, by omega, by omega, e⟩
theorem ras_nat {n m : Int} {xs : List Int} (h : rasOk n m xs = true) : ∃ a b : Nat, n = a ∧ m = b ∧ 1 ≤ a ∧ a ≤ 400 ∧ 1 ≤ b ∧ b ≤ 400 ∧ a * b ≤ 40000 ∧ xs.length = a * b ∧ Greys xs := by
  simp only [rasOk, Bool.and_eq_true] at h
  obtain ⟨⟨h1, h2⟩, h3⟩ := h
  obtain ⟨a, b, rfl, rfl, q1, q2, q3, q4, q5, e⟩ := size_nat h1
  rw [e] at h2
  simp only [bne, Bool.not_not, beq_iff_eq] at h2
  exact ⟨a, b, rfl, rfl, q1, q2, q3, q4, q5, by omega, greys_of h3⟩
theorem size_of {a b : Nat} (h1 : 1 ≤ a) (h2 : a ≤ 400) (h3 : 1 ≤ b) (h4 : b ≤ 400) (h5 : a * b ≤ 40000) : sizeB a b = true := by
  simp only [sizeB, Bool.and_eq_true, inB_iff, decide_eq_true_eq]
  have e : (a : Int) * (b : Int) = ((a * b : Nat) : Int) := (Int.natCast_mul a b).symm
  rw [e]
  exact ⟨⟨by omega, by omega⟩, by omega⟩
theorem ras_of {a b : Nat} {xs : List Int} (h1 : 1 ≤ a) (h2 : a ≤ 400) (h3 : 1 ≤ b) (h4 : b ≤ 400) (h5 : a * b ≤ 40000) (h6 : xs.length = a * b) (h7 : Greys xs) : rasOk a b xs = true := by
  have e : (a : Int) * (b : Int) = ((a * b : Nat) : Int) := (Int.natCast_mul a b).symm
  simp only [rasOk, size_of h1 h2 h3 h4 h5, e, h6, Bool.true_and, bne, Bool.not_not, beq_self_eq_true]
  exact List.all_eq_true.2 (fun x hx => inB_iff.2 (h7 x hx))
theorem five_or (k : Int) : k = 1 ∨ k = 2 ∨ k = 3 ∨ k = 4 ∨ k = 5 ∨ (k < 1 ∨ 5 < k) := by omega
theorem three (a b c : Bool) : a = false ∨ (a = true ∧ b = false) ∨ (a = true ∧ b = true ∧ c = false) ∨ (a = true ∧ b = true ∧ c = true) := by
  cases a <;> cases b <;> cases c <;> simp
theorem four (a b c d : Bool) : a = false ∨ (a = true ∧ b = false) ∨ (a = true ∧ b = true ∧ c = false) ∨ (a = true ∧ b = true ∧ c = true ∧ d = false) ∨ (a = true ∧ b = true ∧ c = true ∧ d = true) := by
  cases a <;> cases b <;> cases c <;> cases d <;> simp

end Go.Proofs.YtkmfgchbfchdbaaGreatDoor
