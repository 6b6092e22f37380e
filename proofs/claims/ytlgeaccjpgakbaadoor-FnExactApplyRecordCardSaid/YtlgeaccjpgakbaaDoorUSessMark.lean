import Derived.Test.YtlgeaccjpgakbaaDoorUSess0
namespace Go.Proofs.YtlgeaccjpgakbaaDoor
open Go.RowKit

set_option maxHeartbeats 1000000 in
theorem markSession_any (p : ByteArray) (x1 x2 x3 x4 : Int) (a : Option Addr) (xs : List Int) (c base : Nat) (m : Int) (w : World) (ho : OwnI w base (.slice a xs.length c) xs)
    (lx : xs.length ≤ 1099511627776) (hm0 : 0 ≤ m) (hm : m ≤ 1099511627776) :
    Calls Tryd.prog 27 #[.agg #[.string p, .int .i64 x1, .int .i64 x2, .int .i64 x3, .int .i64 x4, .slice a xs.length c], .int .i64 m] w fun e w' => e = .returned (.int .i64 (m + xs.length)) ∧
      OwnI w' base (.slice a xs.length c) (marks m xs.length) ∧ w.grownBy w' (Value.ownBlock (.slice a xs.length c)) := by
  have HO := Lib.hid ho
  clear ho
  go_enter Tryd.func27, Tryd.ntmps27
  go_wp2_with fail
  refine (markInt64S_any _ _ _ base _ _ (HO.out.grown (ba1 _ _)) lx hm0 hm).mono ?_
  rintro e w1 ⟨rfl, ho1, hg1⟩
  have HO1 := Lib.hid ho1
  have HG1 := Lib.hid hg1
  clear ho1 hg1
  go_wp2_with fail
  go_ret
  exact ⟨rfl, HO1.out, grownBy_trans (World.grownBy_alloc _ _ _) HG1.out⟩

set_option maxHeartbeats 1000000 in
theorem heldSession_any (p : ByteArray) (x1 x2 x3 x4 : Int) (a : Option Addr) (xs : List Int) (c : Nat) (m : Int) (w : World) (hx : IntsAt w a xs)
    (lx : xs.length ≤ 1099511627776) (hm0 : 0 ≤ m) (hm : m ≤ 1099511627776) :
    Calls Tryd.prog 28 #[.agg #[.string p, .int .i64 x1, .int .i64 x2, .int .i64 x3, .int .i64 x4, .slice a xs.length c], .int .i64 m] w fun e w' => e = .returned (.int .i64 (heldOf m xs)) ∧ Below w.heap.size w w' := by
  have HX := Lib.hid hx
  clear hx
  have hlo : -1 ≤ heldOf m xs := by unfold heldOf; split <;> omega
  have hhi : heldOf m xs ≤ 2199023255552 := by unfold heldOf; split <;> omega
  have hneg : heldOf m xs < 0 → heldOf m xs = -1 := by omega
  have HN := Lib.hid hneg
  clear hneg
  obtain ⟨r, hr⟩ : ∃ r, heldOf m xs = r := ⟨_, rfl⟩
  rw [hr] at hlo hhi
  have HR := Lib.hid hr
  clear hr
  by_cases h : r < 0
  all_goals
    go_enter Tryd.func28, Tryd.ntmps28
    go_wp2_with fail
    refine (heldInt64S_any _ _ _ _ _ (HX.out.below (ba1 _ _)) lx hm0 hm).mono ?_
    rintro e w1 ⟨rfl, rfl⟩
    rw [HR.out]
    go_wp2_with fail
    go_ret
    exact ⟨ret_int (by rw [HR.out]; try omega), ba1 _ _⟩

end Go.Proofs.YtlgeaccjpgakbaaDoor
