import Derived.Test.YtpilkgcghlfdmaaGreatDoorM0
import Derived.Test.YtpilkgcghlfdmaaGreatDoorM1
namespace Go.Proofs.YtpilkgcghlfdmaaGreatDoor
open Go.RowKit

theorem fiveT {p : Value → Prop} {a b c d e : Value} (ha : p a) (hb : p b) (hc : p c) (hd : p d) (he : p e) : ∀ i, i < 5 → ∃ u, (#[a, b, c, d, e] : Array Value)[i]? = some u ∧ p u
  | 0, _ => ⟨_, rfl, ha⟩
  | 1, _ => ⟨_, rfl, hb⟩
  | 2, _ => ⟨_, rfl, hc⟩
  | 3, _ => ⟨_, rfl, hd⟩
  | 4, _ => ⟨_, rfl, he⟩
theorem own_snoc {w : World} {base : Nat} {v : Value} {zs : List Int} {z : Int} (ho : w.ownsRow base 2 1 v (zs.length + 1) (zs.map (Value.int .i64) ++ [.int .i64 z])) : OwnI w base v (zs ++ [z]) := by
  unfold OwnI
  rw [List.map_append, List.length_append]
  exact ho
theorem own_snoc' {w : World} {base : Nat} {v : Value} {zs : List Int} {z : Int} (ho : w.ownsRow base 2 1 v (zs.length + 1) (zs.map (Value.int .i64) ++ [.int .i64 z])) : ∃ a c ys, v = .slice a (List.length ys) c ∧ ys.length = zs.length + 1 ∧ OwnI w base (.slice a ys.length c) ys := by
  have h := own_snoc ho
  obtain ⟨a, c, rfl, _⟩ := h.read
  exact ⟨a, c, zs ++ [z], rfl, by simp, h⟩
theorem stB_upA {b : Nat} {w w0 W : World} {o : Obj} (hg : (w.alloc o).grownBy w0 (some b)) (h : StB b w0 W) : StB b (w.alloc o) W := ⟨h.1, grownBy_trans hg h.2⟩
theorem nB {lo hi r : Int} (h : lo ≤ r) (h' : r ≤ hi) : NumB lo hi (.int .i64 r) := ⟨r, rfl, h, h'⟩
theorem prod7 {r s : Int} (h0 : 0 ≤ r) (h1 : r ≤ 6) (h2 : 0 ≤ s) (h3 : s ≤ 6) : 1 ≤ (1 + r) * (1 + s) ∧ (1 + r) * (1 + s) ≤ 49 := by
  rcases (show r = 0 ∨ r = 1 ∨ r = 2 ∨ r = 3 ∨ r = 4 ∨ r = 5 ∨ r = 6 by omega) with rfl | rfl | rfl | rfl | rfl | rfl | rfl <;> omega

end Go.Proofs.YtpilkgcghlfdmaaGreatDoor
