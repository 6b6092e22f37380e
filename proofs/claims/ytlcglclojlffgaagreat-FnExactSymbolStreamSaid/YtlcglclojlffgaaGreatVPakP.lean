import Derived.Test.YtlcglclojlffgaaGreatM0
namespace Go.Proofs.YtlcglclojlffgaaGreat

/-- the pattern that fills a payload -/
def patC (k : Nat) : Int := if k % 6 = 0 then 1 else if k % 6 = 1 then 1 else if k % 6 = 3 then 1 else 0
/-- what follows the content: an end, and the pattern -/
def restC (left : Nat) : List Int := List.replicate (min left 3) 0 ++ (List.range (left - min left 3)).map patC
def fillC (bits : List Int) (room : Nat) : List Int := bits ++ restC (room - bits.length)
theorem restC_len (n : Nat) : (restC n).length = n := by
  rw [restC, List.length_append, List.length_replicate, List.length_map, List.length_range]; omega
theorem fillC_len (bits : List Int) (room : Nat) (h : bits.length ≤ room) : (fillC bits room).length = room := by
  rw [fillC, List.length_append, restC_len]; omega
def Bits (l : List Int) : Prop := ∀ b ∈ l, b = 0 ∨ b = 1
theorem Bits.app {l m : List Int} (h : Bits l) (k : Bits m) : Bits (l ++ m) := fun b hb => by
  rcases List.mem_append.1 hb with h1 | h1
  · exact h b h1
  · exact k b h1
theorem bitsC_bits (v w : Nat) : Bits (bitsC v w) := fun b hb => by
  obtain ⟨i, _, rfl⟩ := List.mem_map.1 hb
  omega
theorem grpsF_bits (m : Nat) : ∀ (f : Nat) (t : List UInt8), Bits (grpsF m f t)
  | 0, _ => fun b hb => by simp [grpsF] at hb
  | _ + 1, [] => fun b hb => by simp [grpsF] at hb
  | f + 1, c :: l => (bitsC_bits _ _).app (grpsF_bits m f _)
theorem segB_bits (x : Nat × List UInt8) : Bits (segB x) := ((bitsC_bits _ _).app (bitsC_bits _ _)).app (grpsF_bits _ _ _)
theorem msgB_bits (s : List UInt8) : Bits (msgB s) := fun b hb => by
  obtain ⟨x, _, hx⟩ := List.mem_flatMap.1 hb
  exact segB_bits x b hx
theorem restC_bits (n : Nat) : Bits (restC n) := by
  apply Bits.app
  · intro b hb; exact Or.inl (List.eq_of_mem_replicate hb)
  · intro b hb
    obtain ⟨k, _, rfl⟩ := List.mem_map.1 hb
    unfold patC
    repeat' split
    all_goals simp
theorem fillC_bits {bits : List Int} (h : Bits bits) (room : Nat) : Bits (fillC bits room) := h.app (restC_bits _)

/-- the number of some bits -/
def numB (l : List Int) : Int := l.foldl (fun n b => n * 2 + b) 0
theorem numB_snoc (l : List Int) (b : Int) : numB (l ++ [b]) = numB l * 2 + b := by simp [numB]
theorem numB_bd : ∀ (n : Nat) (l : List Int), l.length = n → Bits l → 0 ≤ numB l ∧ numB l < 2 ^ n
  | 0, l, hn, _ => by
    obtain rfl := List.eq_nil_of_length_eq_zero hn
    simp [numB]
  | n + 1, l, hn, h => by
    rcases List.eq_nil_or_concat l with rfl | ⟨l', b, rfl⟩
    · simp at hn
    · rw [List.concat_eq_append] at hn h ⊢
      rw [List.length_append] at hn
      have h1 := numB_bd n l' (by simpa using hn) (fun x hx => h x (List.mem_append_left _ hx))
      have h2 := h b (by simp)
      rw [numB_snoc, Int.pow_succ]
      omega
/-- the elements with some bits, w bits each -/
def elemsC (w : Nat) (bits : List Int) : List Int := (List.range (bits.length / w)).map fun i => numB ((bits.drop (i * w)).take w)
theorem elemsC_len (w : Nat) (bits : List Int) : (elemsC w bits).length = bits.length / w := by simp [elemsC]
theorem elemsC_bd {w : Nat} {bits : List Int} (h : Bits bits) : ∀ x ∈ elemsC w bits, 0 ≤ x ∧ x < 2 ^ w := fun x hx => by
  obtain ⟨i, hi, rfl⟩ := List.mem_map.1 hx
  rw [List.mem_range] at hi
  apply numB_bd w
  · rw [List.length_take, List.length_drop]
    have h1 : (i + 1) * w ≤ bits.length / w * w := Nat.mul_le_mul_right _ hi
    have h2 := Nat.div_mul_le_self bits.length w
    rw [Nat.add_mul] at h1
    omega
  · exact fun b hb => h b (List.mem_of_mem_drop (List.mem_of_mem_take hb))
/-- after k bits: the elements that are whole, and the number of the bits behind them -/
theorem elemsC_take_whole {w : Nat} {bits : List Int} {k : Nat} (hw : 1 ≤ w) (hk : k < bits.length) (h : k % w + 1 = w) :
    elemsC w (bits.take (k + 1)) = elemsC w (bits.take k) ++ [numB ((bits.take (k + 1)).drop (k - k % w))] := by
  have hd := Nat.div_add_mod k w
  have hq : (k + 1) / w = k / w + 1 := by
    rw [show k + 1 = w * (k / w) + w by omega]
    rw [show w * (k / w) + w = w * (k / w + 1) by rw [Nat.mul_add, Nat.mul_one], Nat.mul_div_cancel_left _ (by omega)]
  unfold elemsC
  rw [List.length_take, List.length_take, Nat.min_eq_left (by omega), Nat.min_eq_left (by omega), hq, List.range_succ, List.map_append, List.map_singleton]
  have hm : w * (k / w) = k / w * w := Nat.mul_comm _ _
  congr 1
  · apply List.map_congr_left
    intro i hi
    rw [List.mem_range] at hi
    have h1 : (i + 1) * w ≤ k / w * w := Nat.mul_le_mul_right _ hi
    rw [Nat.add_mul] at h1
    congr 1
    rw [List.drop_take, List.drop_take, List.take_take, List.take_take, Nat.min_eq_left (by omega), Nat.min_eq_left (by omega)]
  · congr 2
    rw [show k - k % w = k / w * w by omega]
    rw [List.take_of_length_le]
    rw [List.length_drop, List.length_take]; omega
theorem elemsC_take_part {w : Nat} {bits : List Int} {k : Nat} (hw : 1 ≤ w) (hk : k < bits.length) (h : k % w + 1 < w) :
    elemsC w (bits.take (k + 1)) = elemsC w (bits.take k) := by
  have hd := Nat.div_add_mod k w
  have hq : (k + 1) / w = k / w := by
    rw [Nat.div_eq_iff (by omega)]
    have hm : w * (k / w) = k / w * w := Nat.mul_comm _ _
    omega
  unfold elemsC
  rw [List.length_take, List.length_take, Nat.min_eq_left (by omega), Nat.min_eq_left (by omega), hq]
  have hm : w * (k / w) = k / w * w := Nat.mul_comm _ _
  apply List.map_congr_left
  intro i hi
  rw [List.mem_range] at hi
  have h1 : (i + 1) * w ≤ k / w * w := Nat.mul_le_mul_right _ hi
  rw [Nat.add_mul] at h1
  congr 1
  rw [List.drop_take, List.drop_take, List.take_take, List.take_take, Nat.min_eq_left (by omega), Nat.min_eq_left (by omega)]
theorem part_snoc {w : Nat} {bits : List Int} {k : Nat} {b : Int} (hb : bits[k]? = some b) :
    numB ((bits.take (k + 1)).drop (k - k % w)) = numB ((bits.take k).drop (k - k % w)) * 2 + b := by
  have hk : k < bits.length := (List.getElem?_eq_some_iff.1 hb).1
  have := Nat.mod_le k w
  rw [List.take_add_one, hb, Option.toList_some, List.drop_append_of_le_length (by rw [List.length_take]; omega), numB_snoc]

end Go.Proofs.YtlcglclojlffgaaGreat
