import Derived.Test.YtpilkgcghlfdmaaGreatDoorVDecX
import Derived.Test.YtpilkgcghlfdmaaGreatDoorVHarm
namespace Go.Proofs.YtpilkgcghlfdmaaGreatDoor
open Go.RowKit

/-- numbers are handed back -/
def RetNs (w : World) (zs : List Int) (e : Ending) (w' : World) : Prop :=
  ∃ (zs' : List Int) (a : Option Addr) (c : Nat), zs' = zs ∧ e = .returned (.slice a zs'.length c) ∧ IntsAt w' a zs' ∧ Below w.heap.size w w'
theorem ints_blk {w : World} {g : Nat} {cs : Array Value} {t : TypeId} {zs : List Int} (h : w.heap[g]? = some (.cells cs t (0, 0))) (hc : cs = (zs.map (Value.int .i64)).toArray) : IntsAt w (some ⟨g, 0, none⟩) zs := by
  intro i hi
  refine ⟨g, 0, rfl, ?_⟩
  rw [Nat.zero_add, (heap_cellR h).1, hc]
  simp [hi]
theorem methodWord1 (r c t w g : Int) (n : Nat) (W : World) : (method (n + 1) 109 (.agg #[.int .i64 1, .int .i64 r, .int .i64 c, .int .i64 t, .int .i64 w, .int .i64 g]) "loop.example/g00879/impl.word").run Tryz.prog W = .ok (187, (.agg #[.int .i64 1, .int .i64 r, .int .i64 c, .int .i64 t, .int .i64 w, .int .i64 g])) W := by kernel_rfl
theorem methodFields1 (r c t w g : Int) (n : Nat) (W : World) : (method (n + 1) 109 (.agg #[.int .i64 1, .int .i64 r, .int .i64 c, .int .i64 t, .int .i64 w, .int .i64 g]) "loop.example/g00879/impl.fields").run Tryz.prog W = .ok (185, (.agg #[.int .i64 1, .int .i64 r, .int .i64 c, .int .i64 t, .int .i64 w, .int .i64 g])) W := by kernel_rfl
set_option maxRecDepth 100000 in
theorem word1 (r c t w g : Int) (W : World) : Calls Tryz.prog 187 #[(.agg #[.int .i64 1, .int .i64 r, .int .i64 c, .int .i64 t, .int .i64 w, .int .i64 g])] W fun e W' => e = .returned (.string (wordB 0)) ∧ Below W.heap.size W W' := by
  go_enter Tryz.func187, Tryz.ntmps187
  go_wp2_with fail
  go_ret
  exact ⟨rfl, bt1 (Below.refl _ _)⟩
set_option maxRecDepth 100000 in
theorem fields1 (r c t w g : Int) (W : World) : Calls Tryz.prog 185 #[(.agg #[.int .i64 1, .int .i64 r, .int .i64 c, .int .i64 t, .int .i64 w, .int .i64 g])] W (RetNs W (numsD ⟨1, r, c, t, w, g⟩)) := by
  have hn : numsD ⟨1, r, c, t, w, g⟩ = [r, c, t, g] := by simp [numsD]
  rw [hn]
  clear hn
  go_enter Tryz.func185, Tryz.ntmps185
  go_wp2_with fail
  go_ret
  exact ⟨[r, c, t, g], _, _, rfl, rfl, ints_blk (heap2 _ _ _).2 rfl, bt1 (ba1 _ _)⟩
theorem methodWord2 (r c t w g : Int) (n : Nat) (W : World) : (method (n + 1) 110 (.agg #[.int .i64 2, .int .i64 r, .int .i64 c, .int .i64 t, .int .i64 w, .int .i64 g]) "loop.example/g00879/impl.word").run Tryz.prog W = .ok (191, (.agg #[.int .i64 2, .int .i64 r, .int .i64 c, .int .i64 t, .int .i64 w, .int .i64 g])) W := by kernel_rfl
theorem methodFields2 (r c t w g : Int) (n : Nat) (W : World) : (method (n + 1) 110 (.agg #[.int .i64 2, .int .i64 r, .int .i64 c, .int .i64 t, .int .i64 w, .int .i64 g]) "loop.example/g00879/impl.fields").run Tryz.prog W = .ok (189, (.agg #[.int .i64 2, .int .i64 r, .int .i64 c, .int .i64 t, .int .i64 w, .int .i64 g])) W := by kernel_rfl
set_option maxRecDepth 100000 in
theorem word2 (r c t w g : Int) (W : World) : Calls Tryz.prog 191 #[(.agg #[.int .i64 2, .int .i64 r, .int .i64 c, .int .i64 t, .int .i64 w, .int .i64 g])] W fun e W' => e = .returned (.string (wordB 1)) ∧ Below W.heap.size W W' := by
  go_enter Tryz.func191, Tryz.ntmps191
  go_wp2_with fail
  go_ret
  exact ⟨rfl, bt1 (Below.refl _ _)⟩
set_option maxRecDepth 100000 in
theorem fields2 (r c t w g : Int) (W : World) : Calls Tryz.prog 189 #[(.agg #[.int .i64 2, .int .i64 r, .int .i64 c, .int .i64 t, .int .i64 w, .int .i64 g])] W (RetNs W (numsD ⟨2, r, c, t, w, g⟩)) := by
  have hn : numsD ⟨2, r, c, t, w, g⟩ = [r, c, t, w, g] := by simp [numsD]
  rw [hn]
  clear hn
  go_enter Tryz.func189, Tryz.ntmps189
  go_wp2_with fail
  go_ret
  exact ⟨[r, c, t, w, g], _, _, rfl, rfl, ints_blk (heap2 _ _ _).2 rfl, bt1 (ba1 _ _)⟩
theorem methodWord3 (r c t w g : Int) (n : Nat) (W : World) : (method (n + 1) 111 (.agg #[.int .i64 3, .int .i64 r, .int .i64 c, .int .i64 t, .int .i64 w, .int .i64 g]) "loop.example/g00879/impl.word").run Tryz.prog W = .ok (195, (.agg #[.int .i64 3, .int .i64 r, .int .i64 c, .int .i64 t, .int .i64 w, .int .i64 g])) W := by kernel_rfl
theorem methodFields3 (r c t w g : Int) (n : Nat) (W : World) : (method (n + 1) 111 (.agg #[.int .i64 3, .int .i64 r, .int .i64 c, .int .i64 t, .int .i64 w, .int .i64 g]) "loop.example/g00879/impl.fields").run Tryz.prog W = .ok (193, (.agg #[.int .i64 3, .int .i64 r, .int .i64 c, .int .i64 t, .int .i64 w, .int .i64 g])) W := by kernel_rfl
set_option maxRecDepth 100000 in
theorem word3 (r c t w g : Int) (W : World) : Calls Tryz.prog 195 #[(.agg #[.int .i64 3, .int .i64 r, .int .i64 c, .int .i64 t, .int .i64 w, .int .i64 g])] W fun e W' => e = .returned (.string (wordB 2)) ∧ Below W.heap.size W W' := by
  go_enter Tryz.func195, Tryz.ntmps195
  go_wp2_with fail
  go_ret
  exact ⟨rfl, bt1 (Below.refl _ _)⟩
set_option maxRecDepth 100000 in
theorem fields3 (r c t w g : Int) (W : World) : Calls Tryz.prog 193 #[(.agg #[.int .i64 3, .int .i64 r, .int .i64 c, .int .i64 t, .int .i64 w, .int .i64 g])] W (RetNs W (numsD ⟨3, r, c, t, w, g⟩)) := by
  have hn : numsD ⟨3, r, c, t, w, g⟩ = [t, w, g] := by simp [numsD]
  rw [hn]
  clear hn
  go_enter Tryz.func193, Tryz.ntmps193
  go_wp2_with fail
  go_ret
  exact ⟨[t, w, g], _, _, rfl, rfl, ints_blk (heap2 _ _ _).2 rfl, bt1 (ba1 _ _)⟩
theorem methodWord4 (r c t w g : Int) (n : Nat) (W : World) : (method (n + 1) 112 (.agg #[.int .i64 4, .int .i64 r, .int .i64 c, .int .i64 t, .int .i64 w, .int .i64 g]) "loop.example/g00879/impl.word").run Tryz.prog W = .ok (199, (.agg #[.int .i64 4, .int .i64 r, .int .i64 c, .int .i64 t, .int .i64 w, .int .i64 g])) W := by kernel_rfl
theorem methodFields4 (r c t w g : Int) (n : Nat) (W : World) : (method (n + 1) 112 (.agg #[.int .i64 4, .int .i64 r, .int .i64 c, .int .i64 t, .int .i64 w, .int .i64 g]) "loop.example/g00879/impl.fields").run Tryz.prog W = .ok (197, (.agg #[.int .i64 4, .int .i64 r, .int .i64 c, .int .i64 t, .int .i64 w, .int .i64 g])) W := by kernel_rfl
set_option maxRecDepth 100000 in
theorem word4 (r c t w g : Int) (W : World) : Calls Tryz.prog 199 #[(.agg #[.int .i64 4, .int .i64 r, .int .i64 c, .int .i64 t, .int .i64 w, .int .i64 g])] W fun e W' => e = .returned (.string (wordB 3)) ∧ Below W.heap.size W W' := by
  go_enter Tryz.func199, Tryz.ntmps199
  go_wp2_with fail
  go_ret
  exact ⟨rfl, bt1 (Below.refl _ _)⟩
set_option maxRecDepth 100000 in
theorem fields4 (r c t w g : Int) (W : World) : Calls Tryz.prog 197 #[(.agg #[.int .i64 4, .int .i64 r, .int .i64 c, .int .i64 t, .int .i64 w, .int .i64 g])] W (RetNs W (numsD ⟨4, r, c, t, w, g⟩)) := by
  have hn : numsD ⟨4, r, c, t, w, g⟩ = [r, t, g] := by simp [numsD]
  rw [hn]
  clear hn
  go_enter Tryz.func197, Tryz.ntmps197
  go_wp2_with fail
  go_ret
  exact ⟨[r, t, g], _, _, rfl, rfl, ints_blk (heap2 _ _ _).2 rfl, bt1 (ba1 _ _)⟩
theorem methodWord5 (r c t w g : Int) (n : Nat) (W : World) : (method (n + 1) 113 (.agg #[.int .i64 5, .int .i64 r, .int .i64 c, .int .i64 t, .int .i64 w, .int .i64 g]) "loop.example/g00879/impl.word").run Tryz.prog W = .ok (203, (.agg #[.int .i64 5, .int .i64 r, .int .i64 c, .int .i64 t, .int .i64 w, .int .i64 g])) W := by kernel_rfl
theorem methodFields5 (r c t w g : Int) (n : Nat) (W : World) : (method (n + 1) 113 (.agg #[.int .i64 5, .int .i64 r, .int .i64 c, .int .i64 t, .int .i64 w, .int .i64 g]) "loop.example/g00879/impl.fields").run Tryz.prog W = .ok (201, (.agg #[.int .i64 5, .int .i64 r, .int .i64 c, .int .i64 t, .int .i64 w, .int .i64 g])) W := by kernel_rfl
set_option maxRecDepth 100000 in
theorem word5 (r c t w g : Int) (W : World) : Calls Tryz.prog 203 #[(.agg #[.int .i64 5, .int .i64 r, .int .i64 c, .int .i64 t, .int .i64 w, .int .i64 g])] W fun e W' => e = .returned (.string (wordB 4)) ∧ Below W.heap.size W W' := by
  go_enter Tryz.func203, Tryz.ntmps203
  go_wp2_with fail
  go_ret
  exact ⟨rfl, bt1 (Below.refl _ _)⟩
set_option maxRecDepth 100000 in
theorem fields5 (r c t w g : Int) (W : World) : Calls Tryz.prog 201 #[(.agg #[.int .i64 5, .int .i64 r, .int .i64 c, .int .i64 t, .int .i64 w, .int .i64 g])] W (RetNs W (numsD ⟨5, r, c, t, w, g⟩)) := by
  have hn : numsD ⟨5, r, c, t, w, g⟩ = [t, g] := by simp [numsD]
  rw [hn]
  clear hn
  go_enter Tryz.func201, Tryz.ntmps201
  go_wp2_with fail
  go_ret
  exact ⟨[t, g], _, _, rfl, rfl, ints_blk (heap2 _ _ _).2 rfl, bt1 (ba1 _ _)⟩

end Go.Proofs.YtpilkgcghlfdmaaGreatDoor
