import Derived.Test.YtnijdfdcjjbneaaDoorUOwn2
import Derived.Test.YtnijdfdcjjbneaaDoorUSrc
import Derived.Maps.AppendAt
namespace Go.Proofs.YtnijdfdcjjbneaaDoor
open Go.RowKit

theorem own_snoc {w : World} {B : Nat} {v : Value} {M : List Int} {z : Int} (h : w.ownsRow B 2 1 v (M.length + 1) (M.map (Value.int .i64) ++ [.int .i64 z])) : OwnI w B v (M ++ [z]) := by
  unfold OwnI
  rw [List.length_append, List.map_append]
  exact h
/-- two slices of the call's own, in two blocks -/
def Two (w0 w : World) (vm vt : Value) (M T : List Int) : Prop :=
  OwnI w w0.heap.size vm M ∧ OwnI w w0.heap.size vt T ∧ (∀ k, vm.ownBlock = some k → vt.ownBlock ≠ some k) ∧ Below w0.heap.size w0 w
theorem Two.below {w0 w w' : World} {vm vt : Value} {M T : List Int} (h : Two w0 w vm vt M T) (hb : Below w.heap.size w w') : Two w0 w' vm vt M T :=
  ⟨h.1.grown hb, h.2.1.grown hb, h.2.2.1, bt0 h.2.2.2 hb (Nat.le_refl _)⟩
theorem own_empty (w : World) : OwnI (w.alloc (.cells #[] 2 (0, 0))) w.heap.size (.slice (some ⟨w.heap.size, 0, none⟩) 0 0) [] :=
  World.ownsRow_lit (base := w.heap.size) (size := 1) w #[] 0 (Nat.le_refl _) (by unfold maxLen; omega) rfl
theorem Two.start (w : World) : Two w ((w.alloc (.cells #[] 2 (0, 0))).alloc (.cells #[] 2 (0, 0))) (.slice (some ⟨w.heap.size, 0, none⟩) 0 0) (.slice (some ⟨w.heap.size + 1, 0, none⟩) 0 0) [] [] := by
  refine ⟨(own_empty w).grown (ba1 _ _), ?_, fun k hk e => ?_, ba2 w _ _⟩
  · have h := own_empty (w.alloc (.cells #[] 2 (0, 0)))
    have e : (w.alloc (.cells #[] 2 (0, 0))).heap.size = w.heap.size + 1 := by simp
    rw [e] at h
    exact h.weak (by omega)
  · simp only [Value.ownBlock, Option.some.injEq] at hk e
    omega
theorem Two.more1 {w0 w w1 : World} {o : Obj} {vm vt v' : Value} {M T : List Int} {z : Int} (h : Two w0 w vm vt M T) (hown : w1.ownsRow w0.heap.size 2 1 v' (M.length + 1) (M.map (Value.int .i64) ++ [.int .i64 z])) (hg : (w.alloc o).grownBy w1 vm.ownBlock)
    (hat : v'.ownBlock = vm.ownBlock ∨ v'.ownBlock = some (w.alloc o).heap.size) : Two w0 w1 v' vt (M ++ [z]) T := by
  refine ⟨own_snoc hown, (h.2.1.grown (ba1 w o)).other hg (fun k hk e => h.2.2.1 k e hk), fun k hk e => ?_, h.2.2.2.trans (below_of_grownBy (grownBy_trans (World.grownBy_alloc w o _) hg) h.2.2.2.size (fun k hk => h.1.lo k hk))⟩
  have hi := h.2.1.hi k e
  rcases hat with hat | hat
  · exact h.2.2.1 k (hat ▸ hk) e
  · rw [hat] at hk
    have := Option.some.inj hk
    simp at this
    omega
theorem Two.more2 {w0 w w1 : World} {o : Obj} {vm vt v' : Value} {M T : List Int} {z : Int} (h : Two w0 w vm vt M T) (hown : w1.ownsRow w0.heap.size 2 1 v' (T.length + 1) (T.map (Value.int .i64) ++ [.int .i64 z])) (hg : (w.alloc o).grownBy w1 vt.ownBlock)
    (hat : v'.ownBlock = vt.ownBlock ∨ v'.ownBlock = some (w.alloc o).heap.size) : Two w0 w1 vm v' M (T ++ [z]) := by
  have hs : Two w0 w vt vm T M := ⟨h.2.1, h.1, fun k hk e => h.2.2.1 k e hk, h.2.2.2⟩
  have h2 := hs.more1 hown hg hat
  exact ⟨h2.2.1, h2.1, fun k hk e => h2.2.2.1 k e hk, h2.2.2.2⟩
theorem Two.weak {w00 w0 w : World} {vm vt : Value} {M T : List Int} (h : Two w0 w vm vt M T) (hb : Below w00.heap.size w00 w0) : Two w00 w vm vt M T :=
  ⟨h.1.weak hb.size, h.2.1.weak hb.size, h.2.2.1, hb.trans (h.2.2.2.mono hb.size)⟩

/-- two lists, a number and a code are handed back -/
def RetTwo (w : World) (M T : List Int) (F cd : Int) (e : Ending) (w' : World) : Prop :=
  ∃ a c b d, e = .returned (.tuple #[.slice a M.length c, .slice b T.length d, .int .i64 F, .int .i64 cd]) ∧ Two w w' (.slice a M.length c) (.slice b T.length d) M T
theorem RetTwo.none {w w' : World} {F cd : Int} (hb : Below w.heap.size w w') : RetTwo w [] [] F cd (.returned (.tuple #[.slice none 0 0, .slice none 0 0, .int .i64 F, .int .i64 cd])) w' :=
  ⟨Option.none, 0, Option.none, 0, rfl, World.ownsRow_nil _ _ _ _, World.ownsRow_nil _ _ _ _, fun k hk => (by cases hk), hb⟩
theorem RetTwo.of {w w' : World} {vm vt : Value} {M T : List Int} {F cd : Int} (h : Two w w' vm vt M T) : RetTwo w M T F cd (.returned (.tuple #[vm, vt, .int .i64 F, .int .i64 cd])) w' := by
  obtain ⟨a, c, rfl, _⟩ := h.1.read
  obtain ⟨b, d, rfl, _⟩ := h.2.1.read
  exact ⟨a, c, b, d, rfl, h⟩

end Go.Proofs.YtnijdfdcjjbneaaDoor
