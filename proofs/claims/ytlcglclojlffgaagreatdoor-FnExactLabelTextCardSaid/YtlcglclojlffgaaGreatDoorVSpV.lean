import Derived.Test.YtlcglclojlffgaaGreatDoorVSpL
import Derived.Test.YtlcglclojlffgaaGreatDoorM3
import Derived.Test.YtlcglclojlffgaaGreatDoorVRdN
namespace Go.Proofs.YtlcglclojlffgaaGreatDoor
open Go.RowKit

theorem dval_snoc (l : List UInt8) (x : UInt8) : dval (l ++ [x]) = 10 * dval l + (x.toNat - 48) := by simp [dval, List.foldl_append]
/-- all bytes are digits -/
def DigL (l : List UInt8) : Prop := ∀ x ∈ l, 48 ≤ x.toNat ∧ x.toNat ≤ 57
/-- while digits are read -/
structure ValI (l : List UInt8) (k n : Nat) : Prop where
  len : k ≤ l.length
  val : n = dval (l.take k)
  bd : n < 10 ^ k
  dig : DigL (l.take k)
theorem valI_start (l : List UInt8) : ValI l 0 0 := ⟨Nat.zero_le _, by simp [dval], by simp, by intro x hx; simp at hx⟩
theorem valI_step {l : List UInt8} {k n : Nat} {x : UInt8} (h : ValI l k n) (hx : l[k]? = some x) (h1 : 48 ≤ x.toNat) (h2 : x.toNat ≤ 57) : ValI l (k + 1) (10 * n + (x.toNat - 48)) := by
  have hk : k < l.length := (List.getElem?_eq_some_iff.1 hx).1
  have ht := take_snoc' hx
  refine ⟨by omega, ?_, ?_, ?_⟩
  · rw [ht, dval_snoc, ← h.val]
  · have := h.bd; rw [Nat.pow_succ]; omega
  · rw [ht]
    intro y hy
    rcases List.mem_append.1 hy with hy | hy
    · exact h.dig y hy
    · simp at hy; subst hy; exact ⟨h1, h2⟩
theorem valI_pow {l : List UInt8} {k n : Nat} (h : ValI l k n) (hl : l.length ≤ 12) : n < 1000000000000 := by
  have h1 := h.bd
  have h2 : 10 ^ k ≤ 10 ^ 12 := Nat.pow_le_pow_right (by omega) (by have := h.len; omega)
  have h3 : (10 : Nat) ^ 12 = 1000000000000 := by decide
  omega
theorem valS_bad {l : List UInt8} {k : Nat} {x : UInt8} (hx : l[k]? = some x) (hb : ¬ (48 ≤ x.toNat ∧ x.toNat ≤ 57)) : valS l = none := by
  rw [valS, if_neg]
  rintro ⟨_, _, h, _⟩
  exact hb (h x (List.mem_of_getElem? hx))
theorem valS_len {l : List UInt8} (h : ¬ (1 ≤ l.length ∧ l.length ≤ 12)) : valS l = none := by
  rw [valS, if_neg]
  rintro ⟨h1, h2, _⟩
  exact h ⟨h1, h2⟩
theorem valS_end {l : List UInt8} {n : Nat} (h : ValI l l.length n) (h1 : 1 ≤ l.length) (h2 : l.length ≤ 12) : valS l = if Lib.decDigits n = l then some (n : Int) else none := by
  have hv := h.val
  have hd := h.dig
  rw [List.take_of_length_le (Nat.le_refl _)] at hv hd
  rw [valS, ← hv]
  by_cases he : Lib.decDigits n = l
  · rw [if_pos ⟨h1, h2, hd, he⟩, if_pos he]
  · rw [if_neg (fun h => he h.2.2.2), if_neg he]

/-- a number, perhaps none -/
def RetVal (w : World) (o : Option Int) (e : Ending) (w' : World) : Prop :=
  ∃ v : Int, e = .returned (.tuple #[.int .i64 v, .bool o.isSome]) ∧ (∀ n, o = some n → v = n) ∧ (0 ≤ v ∧ v < 1000000000000) ∧ Below w.heap.size w w'
theorem retVal_no {w w' : World} {o : Option Int} (h : o = none) {v : Int} (h0 : 0 ≤ v) (h1 : v < 1000000000000) (hb : Below w.heap.size w w') : RetVal w o (.returned (.tuple #[.int .i64 v, .bool false])) w' := by
  subst h
  exact ⟨v, rfl, fun n e => (by cases e), ⟨h0, h1⟩, hb⟩

set_option maxRecDepth 100000 in
set_option maxHeartbeats 1000000 in
theorem l01Value_any (s : ByteArray) (w : World) (hs : s.size ≤ 1048576) :
    Calls Tryz.prog 60 #[.string s] w (RetVal w (valS s.data.toList)) := by
  have hsz : s.data.toList.length = s.size := rfl
  by_cases h1 : s.size < 1
  · have hi1 : ((s.size : Nat) : Int) < 1 := by omega
    have HN := Lib.hid (valS_len (l := s.data.toList) (by omega))
    go_enter Tryz.func60, Tryz.ntmps60
    go_wp2_with fail
    go_ret2
    exact retVal_no HN.out (by omega) (by omega) (Below.refl _ _)
  by_cases h2 : 12 < s.size
  · have hi1 : ¬ ((s.size : Nat) : Int) < 1 := by omega
    have hi2 : (12 : Int) < ((s.size : Nat) : Int) := by omega
    have HN := Lib.hid (valS_len (l := s.data.toList) (by omega))
    go_enter Tryz.func60, Tryz.ntmps60
    go_wp2_with fail
    go_ret2
    exact retVal_no HN.out (by omega) (by omega) (Below.refl _ _)
  have hi1 : ¬ ((s.size : Nat) : Int) < 1 := by omega
  have hi2 : ¬ (12 : Int) < ((s.size : Nat) : Int) := by omega
  go_enter Tryz.func60, Tryz.ntmps60
  go_wp2_with fail
  go_loopw [4, 5] (fun v i wr => ∃ (k n : Nat), i = .int .i64 k ∧ v = .int .i64 n ∧ ValI s.data.toList k n ∧ Below w.heap.size w wr) (fun _ i _ => s.size - (intOf i).toNat)
  case atStart => exact ⟨0, 0, rfl, rfl, valI_start _, Below.refl _ _⟩
  case round =>
    obtain ⟨k, n, rfl, rfl, hv, hb⟩ := hrel
    have HV := Lib.hid hv
    have HB := Lib.hid hb
    have hn := valI_pow hv (by omega)
    have hkl := hv.len
    clear hv hb
    by_cases hlt : k < s.size
    · obtain ⟨x, hx⟩ : ∃ x, s[k] = x := ⟨_, rfl⟩
      have hxk : Hid (s.data.toList[k]? = some x) := Lib.hid (by
        rw [List.getElem?_eq_getElem (by omega), ← hx]
        rfl)
      by_cases hx1 : x.toNat < 48
      · have hx2 : ((x.toNat : Nat) : Int) < 48 := by omega
        have HN := Lib.hid (valS_bad hxk.out (by omega))
        go_wp2_with fail
        go_ret2
        exact retVal_no HN.out (by omega) (by omega) HB.out
      · by_cases hx3 : 57 < x.toNat
        · have hx2 : ¬ ((x.toNat : Nat) : Int) < 48 := by omega
          have hx4 : (57 : Int) < ((x.toNat : Nat) : Int) := by omega
          have HN := Lib.hid (valS_bad hxk.out (by omega))
          go_wp2_with fail
          go_ret2
          exact retVal_no HN.out (by omega) (by omega) HB.out
        · have hx2 : ¬ ((x.toNat : Nat) : Int) < 48 := by omega
          have hx4 : ¬ (57 : Int) < ((x.toNat : Nat) : Int) := by omega
          have e1 : IntKind.u8.wrap ((x.toNat : Int) - 48) = (x.toNat : Int) - 48 := IntWalk.u8_in _ (by omega)
          have e2 : IntKind.i64.wrap (10 * (n : Int)) = 10 * (n : Int) := IntWalk.i64_in _ (by omega)
          have e3 : IntKind.i64.wrap ((x.toNat : Int) - 48) = (x.toNat : Int) - 48 := IntWalk.i64_in _ (by omega)
          have e4 : IntKind.i64.wrap (10 * (n : Int) + ((x.toNat : Int) - 48)) = 10 * (n : Int) + ((x.toNat : Int) - 48) := IntWalk.i64_in _ (by omega)
          have HS := Lib.hid (valI_step HV.out hxk.out (by omega) (by omega))
          go_wp2_with fail
          exact ⟨⟨k + 1, 10 * n + (x.toNat - 48), by go_num, by congr 1; omega, HS.out, HB.out⟩, by simp [intOf]; omega⟩
    · obtain rfl : k = s.size := by omega
      go_wp2_with fail
      refine (l01Dec_any n n _ (by omega) (by omega) (by omega)).mono ?_
      rintro e w1 ⟨rfl, hb1⟩
      have HB1 := Lib.hid (bt0 HB.out hb1 (Nat.le_refl _))
      have HVE := Lib.hid (valS_end (l := s.data.toList) HV.out (by omega) (by omega))
      clear hb1
      by_cases he : Lib.itoa (n : Int) = s.data.toList
      · have e2 : ((decB n).toList == s.toList) = true := by rw [decB_eq he]; simp
        rw [Lib.itoa_nonneg] at he
        have HE := Lib.hid (HVE.out.trans (if_pos he))
        clear he
        go_wp2_with fail
        go_ret2
        rw [HE.out]
        exact ⟨n, rfl, fun m hm => Option.some.inj hm, ⟨by omega, by omega⟩, HB1.out⟩
      · have e2 : ((decB n).toList == s.toList) = false := by
          rw [Bool.eq_false_iff]; intro h
          rw [beq_iff_eq, ByteArray.toList_eq, ByteArray.toList_eq] at h
          exact he (by rw [← h]; simp [decB])
        rw [Lib.itoa_nonneg] at he
        have HE := Lib.hid (HVE.out.trans (if_neg he))
        clear he
        go_wp2_with fail
        go_ret2
        exact retVal_no HE.out (by omega) (by omega) HB1.out

end Go.Proofs.YtlcglclojlffgaaGreatDoor
