import Derived.Test.YthnjfdhijpfekaaUBase
namespace Go.Proofs.Ythnjfdhijpfekaa
open Go.RowKit

/-- the first n marks from k on -/
def marks (k : Int) (n : Nat) : List Int := (List.range n).map fun (i : Nat) => k + (i : Int)
theorem marks_len (k : Int) (n : Nat) : (marks k n).length = n := by simp [marks]
theorem marks_at {k : Int} {n i : Nat} (h : i < n) : (marks k n)[i]? = some (k + i) := by simp [marks, h]

/-- what 'held' answers: the next mark, or -1 -/
def heldOf (m : Int) (xs : List Int) : Int := if xs = marks m xs.length then m + xs.length else -1

set_option maxHeartbeats 400000 in
theorem heldInt64S_any (a : Option Addr) (xs : List Int) (c : Nat) (m : Int) (w : World) (hx : IntsAt w a xs)
    (lx : xs.length ≤ 1099511627776) (hm0 : 0 ≤ m) (hm : m ≤ 1099511627776) :
    Calls Try.prog 42 #[.slice a xs.length c, .int .i64 m] w fun e w' => e = .returned (.int .i64 (heldOf m xs)) ∧ w = w' := by
  go_enter Try.func42, Try.ntmps42
  go_wp2
  go_loop [1, 5] (fun q i => ∃ k : Nat, k ≤ xs.length ∧ i = .int .i64 k ∧ q = .int .i64 (m + k) ∧ xs.take k = marks m k) (fun _ i => xs.length - (intOf i).toNat)
  case atStart => exact ⟨0, Nat.zero_le _, rfl, by simp, rfl⟩
  case round =>
    obtain ⟨k, hk, rfl, rfl, ht⟩ := hrel
    have HT := Lib.hid ht
    clear ht
    by_cases hlt : k < xs.length
    · obtain ⟨b1, o1, x, rfl, hxk, hb1, hc1⟩ := hx.at hlt
      have HX := Lib.hid hxk
      clear hxk hx
      by_cases hxy : x = m + k
      · have hxy' : (x != m + k) = false := by simp [hxy]
        have HE := Lib.hid hxy
        clear hxy
        go_wp2
        go_round
        case rel => exact ⟨k + 1, by omega, by go_num, by go_num, by rw [take_snoc' HX.out, HT.out, HE.out]; simp [marks, List.range_succ]⟩
        case measure => simp [intOf]; omega
      · have hxy' : (x != m + k) = true := by simp [hxy]
        have HE := Lib.hid hxy
        clear hxy
        go_wp2
        go_ret
        refine ⟨ret_int ?_, rfl⟩
        rw [heldOf, if_neg]
        intro e
        have h1 := HX.out
        rw [e, marks_at hlt] at h1
        exact HE.out (Option.some.inj h1).symm
    · clear hx
      go_wp2
      go_ret
      have e : xs = marks m xs.length := by
        have := HT.out
        rw [List.take_of_length_le (by omega)] at this
        have hk' : k = xs.length := by omega
        subst hk'
        exact this
      exact ⟨ret_int (by rw [heldOf, if_pos e]; omega), rfl⟩

end Go.Proofs.Ythnjfdhijpfekaa
