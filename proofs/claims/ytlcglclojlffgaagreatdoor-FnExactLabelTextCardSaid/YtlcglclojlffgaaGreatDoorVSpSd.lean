import Derived.Test.YtlcglclojlffgaaGreatDoorVSpSc
import Derived.Test.YtlcglclojlffgaaGreatDoorM3
namespace Go.Proofs.YtlcglclojlffgaaGreatDoor
open Go.RowKit

/-- the length of the best segmentation -/
def lngC (s : List UInt8) : Int × Int := if s.length ≤ 400 then ((hdC s).l, 0) else (0, 3)
set_option maxRecDepth 100000 in
set_option maxHeartbeats 1000000 in
theorem spBestLen_any (s : ByteArray) (w : World) (hl : s.size ≤ 1048576) :
    Calls Tryz.prog 107 #[.string s] w fun e w' => e = .returned (.tuple #[.int .i64 (lngC s.data.toList).1, .int .i64 (lngC s.data.toList).2]) ∧ Below w.heap.size w w' := by
  have hSl : s.data.toList.length = s.size := rfl
  by_cases hs : s.size ≤ 400
  · have HE := Lib.hid (show lngC s.data.toList = ((hdC s.data.toList).l, 0) by rw [lngC, if_pos (by omega)])
    have hsi : ¬ (400 : Int) < (s.size : Int) := by omega
    go_enter Tryz.func107, Tryz.ntmps107
    go_wp2_with fail
    refine (spTable_any s _ hs).mono ?_
    rintro e w1 ⟨rfl, ht, hb⟩
    obtain ⟨x1, -, -, -, -⟩ := ht.cell (i := 0) (by omega)
    rw [Nat.zero_mul] at x1
    have e0 : tabF s.data.toList 0 0 = hdC s.data.toList := by simp [tabF]
    rw [e0] at x1
    obtain ⟨X, hX⟩ : ∃ X, X = (hdC s.data.toList).l := ⟨_, rfl⟩
    rw [← hX] at x1 HE
    have hlt := ht.lt
    have HB := Lib.hid hb
    have h0 : (0 : Int) < (s.size : Int) + 1 := by omega
    clear ht hb e0 hX hSl
    go_wp2_with fail
    go_ret2
    exact ⟨by rw [HE.out]; rfl, HB.out⟩
  · have HE := Lib.hid (show lngC s.data.toList = (0, 3) by rw [lngC, if_neg (by omega)])
    have hsi : (400 : Int) < (s.size : Int) := by omega
    go_enter Tryz.func107, Tryz.ntmps107
    go_wp2_with fail
    go_ret2
    exact ⟨by rw [HE.out]; rfl, Below.refl _ _⟩

end Go.Proofs.YtlcglclojlffgaaGreatDoor
