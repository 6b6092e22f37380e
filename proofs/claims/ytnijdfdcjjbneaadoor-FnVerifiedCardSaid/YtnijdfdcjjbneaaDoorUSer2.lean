import Derived.Test.YtnijdfdcjjbneaaDoorUSer0
namespace Go.Proofs.YtnijdfdcjjbneaaDoor
open Go.RowKit

/-- a decimal text's value -/
def valF (a : Nat) (l : List UInt8) : Nat := l.foldl (fun a c => a * 10 + (c.toNat - 48)) a
theorem valF_app (a : Nat) (l m : List UInt8) : valF a (l ++ m) = valF (valF a l) m := List.foldl_append
theorem valF_zeros : ∀ n, valF 0 (List.replicate n (48 : UInt8)) = 0
  | 0 => rfl
  | n + 1 => by
    rw [List.replicate_succ]
    show valF (0 * 10 + ((48 : UInt8).toNat - 48)) _ = 0
    exact valF_zeros n
theorem digit_nat {n : Nat} (h : n < 10) : (UInt8.ofNat (48 + n)).toNat = 48 + n := by
  rw [UInt8.toNat_ofNat']
  exact Nat.mod_eq_of_lt (by omega)
theorem valF_dec : ∀ a, valF 0 (Lib.decDigits a) = a := by
  intro a
  induction a using Nat.strongRecOn with
  | ind a ih =>
    by_cases h : a < 10
    · rw [decDigits_small h]
      show 0 * 10 + ((UInt8.ofNat (48 + a)).toNat - 48) = a
      rw [digit_nat h]; omega
    · rw [decDigits_big h, valF_app, ih _ (by omega)]
      show a / 10 * 10 + ((UInt8.ofNat (48 + a % 10)).toNat - 48) = a
      rw [digit_nat (by omega)]; omega

/-- the body as a list -/
theorem bodyB_list (p : ByteArray) (x1 x2 x4 i : Int) : (bodyB p x1 x2 x4 i).data.toList = p.data.toList ++ (List.replicate (x4.toNat - (decB (x1 + i * x2)).size) (48 : UInt8) ++ Lib.itoa (x1 + i * x2)) := by
  simp [bodyB, zerosB, decB]
theorem body_inj {p : ByteArray} {x1 x2 x4 i j : Int} (hi : 0 ≤ x1 + i * x2) (hj : 0 ≤ x1 + j * x2) (h : bodyB p x1 x2 x4 i = bodyB p x1 x2 x4 j) : x1 + i * x2 = x1 + j * x2 := by
  have h1 := congrArg (fun b : ByteArray => b.data.toList) h
  simp only [bodyB_list] at h1
  have h2 := congrArg (valF 0) (List.append_cancel_left h1)
  obtain ⟨m, hm⟩ := Int.eq_ofNat_of_zero_le hi
  obtain ⟨n, hn⟩ := Int.eq_ofNat_of_zero_le hj
  rw [hm, hn] at h2 ⊢
  rw [valF_app, valF_app, valF_zeros, valF_zeros, Lib.itoa_nonneg, Lib.itoa_nonneg, valF_dec, valF_dec] at h2
  omega

/-- the check digit's one byte -/
theorem chk_list (b : ByteArray) : (decB (chkB b)).data.toList = [UInt8.ofNat (48 + (chkB b).toNat)] := by
  obtain ⟨h0, h9⟩ := chkB_bd b
  obtain ⟨m, hm⟩ := Int.eq_ofNat_of_zero_le h0
  rw [hm]
  simp only [decB, Lib.itoa_nonneg, Int.toNat_natCast]
  rw [decDigits_small (by omega)]
theorem serB_list (p : ByteArray) (x1 x2 x4 i : Int) : (serB p x1 x2 x4 i).data.toList = (bodyB p x1 x2 x4 i).data.toList ++ [UInt8.ofNat (48 + (chkB (bodyB p x1 x2 x4 i)).toNat)] := by
  unfold serB
  rw [← chk_list]
  simp
/-- two serials are alike: so are their bodies -/
theorem body_of_ser {p : ByteArray} {x1 x2 x4 i j : Int} (h : serB p x1 x2 x4 i = serB p x1 x2 x4 j) : bodyB p x1 x2 x4 i = bodyB p x1 x2 x4 j := by
  have h1 := congrArg (fun b : ByteArray => b.data.toList) h
  simp only [serB_list] at h1
  have h2 := (List.append_inj' h1 rfl).1
  apply ByteArray.ext
  exact Array.toList_inj.1 h2
/-- a batch's serials differ -/
theorem ser_inj {p : ByteArray} {x1 x2 x3 x4 i j : Int} (hb : isBatchB p x1 x2 x3 x4 = true) (i0 : 0 ≤ i) (i1 : i < x3) (j0 : 0 ≤ j) (j1 : j < x3) (h : serB p x1 x2 x4 i = serB p x1 x2 x4 j) : i = j := by
  obtain ⟨_, a1, a2, _, a4, _, _, a5, _, a6, _⟩ := batch_parts hb
  have hi := (ser_bd a5 a1 a2 a4 a6 i0 i1).2.2.1
  have hj := (ser_bd a5 a1 a2 a4 a6 j0 j1).2.2.1
  have := body_inj hi hj (body_of_ser h)
  have h2 : i * x2 = j * x2 := by omega
  exact Int.eq_of_mul_eq_mul_right (by omega) h2

/-- one byte changed: the weighted sum -/
theorem ws_set (p q : ByteArray) (at_ : Nat) (v : UInt8) (hat : at_ < p.size) (hq : q.data.toList = p.data.toList.set at_ v) : ∀ k, k ≤ p.size →
    ws q k = ws p k + if p.size - 1 - at_ < k then wgt (p.size - 1 - at_) * (valC v - valC (p.data.toList.getD at_ 0)) else 0 := by
  have hs : q.size = p.size := by
    have := congrArg List.length hq
    simpa using this
  have hl : p.data.toList.length = p.size := by simp
  intro k
  induction k with
  | zero => intro _; simp [ws]
  | succ k ih =>
    intro hk
    have h1 := ih (by omega)
    unfold ws
    rw [h1, hs, hq]
    by_cases e : p.size - 1 - k = at_
    · have e2 : p.size - 1 - at_ = k := by omega
      rw [e, e2]
      have : (p.data.toList.set at_ v).getD at_ 0 = v := by
        rw [List.getD_eq_getElem?_getD, List.getElem?_set_self (by omega)]; rfl
      rw [this, if_neg (by omega), if_pos (by omega), Int.mul_sub]
      omega
    · have : (p.data.toList.set at_ v).getD (p.size - 1 - k) 0 = p.data.toList.getD (p.size - 1 - k) 0 := by
        rw [List.getD_eq_getElem?_getD, List.getElem?_set_ne (by omega), ← List.getD_eq_getElem?_getD]
      rw [this]
      by_cases c : p.size - 1 - at_ < k
      · rw [if_pos c, if_pos (by omega)]; omega
      · rw [if_neg c, if_neg (by omega)]; omega

theorem valC_digit {c : UInt8} (h : 48 ≤ c.toNat) (h' : c.toNat ≤ 57) : valC c = (c.toNat : Int) - 48 := by
  unfold valC; rw [if_pos (by omega)]

/-- one digit changed is no serial of the batch -/
theorem ser_changed {p : ByteArray} {x1 x2 x3 x4 n j : Int} {at_ : Nat} {u v : UInt8} (_hb : isBatchB p x1 x2 x3 x4 = true)
    (hu : (serB p x1 x2 x4 n).data.toList[at_]? = some u) (u0 : 48 ≤ u.toNat) (u9 : u.toNat ≤ 57) (v0 : 48 ≤ v.toNat) (v9 : v.toNat ≤ 57) (huv : u ≠ v) :
    (serB p x1 x2 x4 j).data.toList ≠ (serB p x1 x2 x4 n).data.toList.set at_ v := by
  intro h
  rw [serB_list, serB_list] at h
  rw [serB_list] at hu
  have hL := congrArg List.length h
  simp only [List.length_set, List.length_append, List.length_cons, List.length_nil] at hL
  have hlt : at_ < (bodyB p x1 x2 x4 n).data.toList.length + 1 := by
    have := (List.getElem?_eq_some_iff.1 hu).1
    simpa using this
  by_cases hm : at_ < (bodyB p x1 x2 x4 n).data.toList.length
  · rw [List.set_append_left _ _ hm] at h
    rw [List.getElem?_append_left hm] at hu
    obtain ⟨h1, h2⟩ := List.append_inj' h rfl
    have hsz : (bodyB p x1 x2 x4 n).data.toList.length = (bodyB p x1 x2 x4 n).size := by simp
    have hsj : (bodyB p x1 x2 x4 j).size = (bodyB p x1 x2 x4 n).size := by
      have := congrArg List.length h1
      simpa using this
    have hws := ws_set (bodyB p x1 x2 x4 n) (bodyB p x1 x2 x4 j) at_ v (by omega) h1 _ (Nat.le_refl _)
    rw [if_pos (by omega)] at hws
    have hg : (bodyB p x1 x2 x4 n).data.toList.getD at_ 0 = u := by rw [List.getD_eq_getElem?_getD, hu]; rfl
    rw [hg, valC_digit v0 v9, valC_digit u0 u9] at hws
    have hc : chkB (bodyB p x1 x2 x4 j) = chkB (bodyB p x1 x2 x4 n) := by
      have e := congrArg UInt8.toNat (List.cons.inj h2).1
      have b1 := chkB_bd (bodyB p x1 x2 x4 j)
      have b2 := chkB_bd (bodyB p x1 x2 x4 n)
      rw [digit_nat (by omega), digit_nat (by omega)] at e
      omega
    unfold chkB at hc
    rw [hsj, hws] at hc
    have hne : u.toNat ≠ v.toNat := fun e => huv (UInt8.toNat_inj.1 e)
    generalize ws (bodyB p x1 x2 x4 n) (bodyB p x1 x2 x4 n).size = s at hc
    unfold wgt at hc
    split at hc <;> omega
  · have e : at_ = (bodyB p x1 x2 x4 n).data.toList.length := by omega
    subst e
    rw [List.set_append_right _ _ (Nat.le_refl _)] at h
    rw [List.getElem?_append_right (Nat.le_refl _)] at hu
    simp only [Nat.sub_self, List.set_cons_zero, List.getElem?_cons_zero, Option.some.injEq] at h hu
    obtain ⟨h1, h2⟩ := List.append_inj' h rfl
    have hbj : bodyB p x1 x2 x4 j = bodyB p x1 x2 x4 n := by
      apply ByteArray.ext
      exact Array.toList_inj.1 h1
    rw [hbj, hu] at h2
    exact huv (List.cons.inj h2).1

end Go.Proofs.YtnijdfdcjjbneaaDoor
