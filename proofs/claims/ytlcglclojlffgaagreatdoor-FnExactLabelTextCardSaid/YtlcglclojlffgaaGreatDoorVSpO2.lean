import Derived.Test.YtlcglclojlffgaaGreatDoorVSpO
namespace Go.Proofs.YtlcglclojlffgaaGreatDoor
open Go.RowKit

/-- a cell that a pointer leads to -/
def spPtr (x : Value) : Sp KB := ⟨fun u W => ∃ b o, u = .pointer (some ⟨b, o, none⟩) ∧ W.cell? ⟨b, o, none⟩ = some x, fun _ _ _ hk ⟨b, o, e, h⟩ => ⟨b, o, e, by rw [hk.cell (p := ⟨b, o, none⟩) (lt_of_cell h)]; exact h⟩⟩

theorem retOne_no {w w' : World} {o : Option Dm} (h : o = none) (k r c t v g : Int) (hb : Below w.heap.size w w') : RetOne w o (.returned (.tuple #[.agg #[.int .i64 k, .int .i64 r, .int .i64 c, .int .i64 t, .int .i64 v, .int .i64 g], .bool false])) w' := by
  subst h
  exact ⟨⟨k, r, c, t, v, g⟩, rfl, fun _ e => (by cases e), hb⟩
theorem retOne_yes {w w' : World} {o : Option Dm} (k r c t v g : Int) (h : o = some ⟨k, r, c, t, v, g⟩) (hb : Below w.heap.size w w') : RetOne w o (.returned (.tuple #[.agg #[.int .i64 k, .int .i64 r, .int .i64 c, .int .i64 t, .int .i64 v, .int .i64 g], .bool true])) w' := by
  subst h
  exact ⟨⟨k, r, c, t, v, g⟩, rfl, fun _ e => Option.some.inj e, hb⟩
theorem minus_cons {x : ByteArray} (hp : 0 < x.size) (h : x[0] = 45) : x.data.toList = 45 :: (x.data.toList.drop 1).take (x.size - 1) := by
  have hl : x.data.toList.length = x.size := rfl
  have h0 : 0 < x.data.toList.length := by omega
  have h2 := List.drop_eq_getElem_cons h0
  rw [List.drop_zero] at h2
  have h3 : (x.data.toList.drop 1).take (x.size - 1) = x.data.toList.drop 1 := List.take_of_length_le (by rw [List.length_drop]; omega)
  have h4 : x.data.toList[0] = 45 := h
  rw [h3]
  rw [h4] at h2
  exact h2
theorem plus_cons {x : ByteArray} {r : List UInt8} (hp : 0 < x.size) (e : x.data.toList = 45 :: r) : x[0] = 45 := by
  have h2 : x.data.toList[0]? = some 45 := by rw [e]; rfl
  have hl : x.data.toList.length = x.size := rfl
  rw [List.getElem?_eq_getElem (by omega)] at h2
  exact Option.some.inj h2
theorem zs_set {nums : List Int} {k : Nat} (hl : nums.length = k) (hk : k < 5) (z : Int) : (nums ++ List.replicate (5 - k) 0).set k z = (nums ++ [z]) ++ List.replicate (5 - (k + 1)) 0 := by
  rw [List.set_append_right _ _ (by omega), hl, Nat.sub_self, show 5 - k = (5 - (k + 1)) + 1 by omega, List.replicate_succ, List.set_cons_zero, List.append_assoc]; rfl
theorem zs_skip {nums : List Int} {k : Nat} (hk : k < 5) : nums ++ List.replicate (5 - k) (0 : Int) = (nums ++ [0]) ++ List.replicate (5 - (k + 1)) 0 := by
  rw [show 5 - k = (5 - (k + 1)) + 1 by omega, List.replicate_succ, List.append_assoc]; rfl
theorem sgn_minus {x : ByteArray} {r : List UInt8} (h : x.data.toList = 45 :: r) : sgnS x.data.toList = (match valS r with | none => none | some n => some (-n)) := by
  rw [h, sgnS, if_pos rfl]
  all_goals (cases valS r <;> rfl)
theorem sgn_plus {x : ByteArray} (h : ∀ r, x.data.toList ≠ 45 :: r) : sgnS x.data.toList = valS x.data.toList := by
  cases hx : x.data.toList with
  | nil => rw [sgnS]
  | cons a r => rw [sgnS, if_neg (fun e => h r (by rw [hx, e]))]

end Go.Proofs.YtlcglclojlffgaaGreatDoor
