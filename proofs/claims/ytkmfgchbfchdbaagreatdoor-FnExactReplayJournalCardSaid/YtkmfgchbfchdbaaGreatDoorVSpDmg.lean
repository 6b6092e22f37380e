import Derived.Test.YtkmfgchbfchdbaaGreatDoorM0
import Derived.Test.YtkmfgchbfchdbaaGreatDoorVRas1
namespace Go.Proofs.YtkmfgchbfchdbaaGreatDoor
open Go.RowKit

/-- has a kind of damage the field i -/
def flB (k : Int) (i : Nat) : Bool :=
  if k = 1 then decide (i ≠ 3) else if k = 2 then true else if k = 3 then decide (2 ≤ i) else if k = 4 then decide (i = 0 ∨ i = 2 ∨ i = 4) else decide (i = 2 ∨ i = 4)
/-- the field i -/
def lsI (r c t w g : Int) : Nat → Int
  | 0 => r
  | 1 => c
  | 2 => t
  | 3 => w
  | _ => g

theorem row5 {w : World} {a b c d e : Value} {t : TypeId} {f : Nat → Value} (h0 : a = f 0) (h1 : b = f 1) (h2 : c = f 2) (h3 : d = f 3) (h4 : e = f 4) : RowF 5 f (.slice (some ⟨w.heap.size, 0, none⟩) 5 5) (w.alloc (.cells #[a, b, c, d, e] t (0, 0))) := by
  subst h0 h1 h2 h3 h4
  refine ⟨w.heap.size, rfl, fun i hi => ?_⟩
  rw [boxF0]
  match i, hi with
  | 0, _ => rfl
  | 1, _ => rfl
  | 2, _ => rfl
  | 3, _ => rfl
  | 4, _ => rfl

/-- a slice of n cells is handed back -/
def RetRow (w : World) (n : Nat) (f : Nat → Value) (e : Ending) (w' : World) : Prop := ∃ v, e = .returned v ∧ RowF n f v w' ∧ Below w.heap.size w w'

set_option maxHeartbeats 400000 in
theorem l27Fields_any (k : Int) (w : World) : Calls Tryz.prog 33 #[.int .i64 k] w (RetRow w 5 fun i => .bool (flB k i)) := by
  by_cases h1 : k = 1
  · subst h1
    go_enter Tryz.func33, Tryz.ntmps33
    go_wp2_with fail
    go_ret
    exact ⟨_, rfl, row5 rfl rfl rfl rfl rfl, ba1 _ _⟩
  by_cases h2 : k = 2
  · subst h2
    clear h1
    go_enter Tryz.func33, Tryz.ntmps33
    go_wp2_with fail
    go_ret
    exact ⟨_, rfl, row5 rfl rfl rfl rfl rfl, ba1 _ _⟩
  by_cases h3 : k = 3
  · subst h3
    clear h1 h2
    go_enter Tryz.func33, Tryz.ntmps33
    go_wp2_with fail
    go_ret
    exact ⟨_, rfl, row5 rfl rfl rfl rfl rfl, ba1 _ _⟩
  by_cases h4 : k = 4
  · subst h4
    clear h1 h2 h3
    go_enter Tryz.func33, Tryz.ntmps33
    go_wp2_with fail
    go_ret
    exact ⟨_, rfl, row5 rfl rfl rfl rfl rfl, ba1 _ _⟩
  have HF := Lib.hid (show ∀ i, flB k i = decide (i = 2 ∨ i = 4) from fun i => by rw [flB, if_neg h1, if_neg h2, if_neg h3, if_neg h4])
  have e1 : (k == 1) = false := by simp; omega
  have e2 : (k == 2) = false := by simp; omega
  have e3 : (k == 3) = false := by simp; omega
  have e4 : (k == 4) = false := by simp; omega
  clear h1 h2 h3 h4
  go_enter Tryz.func33, Tryz.ntmps33
  go_wp2_with fail
  go_ret
  refine ⟨_, rfl, row5 ?_ ?_ ?_ ?_ ?_, ba1 _ _⟩
  all_goals (rw [HF.out]; rfl)

set_option maxHeartbeats 400000 in
theorem l27List_any (k r c t w g : Int) (W : World) : Calls Tryz.prog 34 #[.agg #[.int .i64 k, .int .i64 r, .int .i64 c, .int .i64 t, .int .i64 w, .int .i64 g]] W (RetRow W 5 fun i => .int .i64 (lsI r c t w g i)) := by
  go_enter Tryz.func34, Tryz.ntmps34
  go_wp2_with fail
  go_ret
  have h := row5 (w := W.alloc (.cells #[.int .i64 k, .int .i64 r, .int .i64 c, .int .i64 t, .int .i64 w, .int .i64 g] 30 (0, 0))) (t := 2) (f := fun i => .int .i64 (lsI r c t w g i)) (a := .int .i64 r) (b := .int .i64 c) (c := .int .i64 t) (d := .int .i64 w) (e := .int .i64 g) rfl rfl rfl rfl rfl
  refine ⟨_, rfl, ?_, ba2 _ _ _⟩
  simpa using h

/-- is the field i as it may be -/
def okAt (k : Int) (i : Nat) (z : Int) : Bool := if flB k i = true then inB z (-400) 400 && (!decide (z < 0) || (decide (i = 3) && k == 3)) else (z == 0)
/-- what is asked of a kind besides -/
def lastB (k t w : Int) : Bool := if k = 2 then decide (1 ≤ t) && decide (1 ≤ w) else if k = 3 then decide (1 ≤ t) else if k = 5 then decide (t ≤ 256) else true
theorem dm_spec {k r c t w g : Int} (hk : 1 ≤ k ∧ k ≤ 5) (hg : inB g 0 255 = true) (h : ∀ i, i < 4 → okAt k i (lsI r c t w g i) = true) : dmOk k r c t w g = lastB k t w := by
  have h0 := h 0 (by omega)
  have h1 := h 1 (by omega)
  have h2 := h 2 (by omega)
  have h3 := h 3 (by omega)
  clear h
  unfold dmOk
  rw [hg, Bool.and_true]
  have : k = 1 ∨ k = 2 ∨ k = 3 ∨ k = 4 ∨ k = 5 := by omega
  rcases this with rfl | rfl | rfl | rfl | rfl
  all_goals (simp [okAt, flB, lsI, inB] at h0 h1 h2 h3)
  · rw [fine1, Bool.eq_iff_iff]; simp [lastB, inB]; omega
  · rw [fine2, Bool.eq_iff_iff]; simp [lastB, inB]; omega
  · rw [fine3, Bool.eq_iff_iff]; simp [lastB, inB]; omega
  · rw [fine4, Bool.eq_iff_iff]; simp [lastB, inB]; omega
  · rw [fine5, Bool.eq_iff_iff]; simp [lastB, inB]; omega
theorem dm_spec_no {k r c t w g : Int} {i : Nat} (hk : 1 ≤ k ∧ k ≤ 5) (hi : i < 4) (h : okAt k i (lsI r c t w g i) = false) : dmOk k r c t w g = false := by
  have : k = 1 ∨ k = 2 ∨ k = 3 ∨ k = 4 ∨ k = 5 := by omega
  have hi' : i = 0 ∨ i = 1 ∨ i = 2 ∨ i = 3 := by omega
  unfold dmOk
  rcases this with rfl | rfl | rfl | rfl | rfl
  all_goals
    rcases hi' with rfl | rfl | rfl | rfl
    all_goals
      simp [okAt, flB, lsI, inB] at h
      first
        | (rw [fine1, Bool.eq_false_iff]; simp [inB]; omega)
        | (rw [fine2, Bool.eq_false_iff]; simp [inB]; omega)
        | (rw [fine3, Bool.eq_false_iff]; simp [inB]; omega)
        | (rw [fine4, Bool.eq_false_iff]; simp [inB]; omega)
        | (rw [fine5, Bool.eq_false_iff]; simp [inB]; omega)

end Go.Proofs.YtkmfgchbfchdbaaGreatDoor
