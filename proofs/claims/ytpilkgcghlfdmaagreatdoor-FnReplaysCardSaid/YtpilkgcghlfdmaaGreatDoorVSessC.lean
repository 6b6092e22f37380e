import Derived.Test.YtpilkgcghlfdmaaGreatDoorM0
import Derived.Test.YtpilkgcghlfdmaaGreatDoorVSess0
namespace Go.Proofs.YtpilkgcghlfdmaaGreatDoor
open Go.RowKit

/-- a session of the call's own and a code are handed back -/
def RetSessC (w : World) (p : ByteArray) (x1 x2 x3 x4 : Int) (xs : List Int) (code : Int) (e : Ending) (w' : World) : Prop :=
  ∃ a c, e = .returned (.tuple #[.agg #[.string p, .int .i64 x1, .int .i64 x2, .int .i64 x3, .int .i64 x4, .slice a xs.length c], .int .i64 code]) ∧ OwnI w' w.heap.size (.slice a xs.length c) xs ∧ Below w.heap.size w w'

theorem make_ints (n : Nat) (hn : n ≤ 1099511627776) (w : World) :
    (Instr.makeSlice 35 (.int .i64 (n : Int)) (.int .i64 (n : Int))).run Tryz.prog w = .ok (.slice (some ⟨w.heap.size, 0, none⟩) n n) (w.alloc (.cells (madeCells #[.int .i64 0] n) 2)) := by
  obtain ⟨i0, hi, hz0, hz1, hz2⟩ := info_parts infoI
  have := run_make (P := Tryz.prog) w 35 2 i0 (.int .i64 0) Tryz.underlying35 hi hz0 .i64 .i64 n n (by omega) (Int.le_refl _) (by rw [hz2]; omega) (by omega)
  rw [hz1] at this
  simpa [Value.cells] using this

theorem ownI_made (w : World) (n : Nat) (hn : n ≤ 1099511627776) : OwnI (w.alloc (.cells (madeCells #[.int .i64 0] n) 2)) w.heap.size (.slice (some ⟨w.heap.size, 0, none⟩) n n) (List.replicate n 0) :=
  OwnI.of_made (World.ownsRow_lit (base := w.heap.size) (size := 1) w (madeCells #[.int .i64 0] n) n (Nat.le_refl _) (by unfold maxLen; omega) (by rw [size_madeCells]; omega))

theorem batch_count {p : ByteArray} {x1 x2 x3 x4 : Int} (h : isBatchB p x1 x2 x3 x4 = true) : 1 ≤ x3 ∧ x3 ≤ 200 := by
  simp only [isBatchB, Bool.and_eq_true] at h
  exact inB_iff.1 h.1.1.1.1.2

end Go.Proofs.YtpilkgcghlfdmaaGreatDoor
