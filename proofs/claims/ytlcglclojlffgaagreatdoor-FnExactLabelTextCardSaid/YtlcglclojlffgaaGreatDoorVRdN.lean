import Derived.Test.YtlcglclojlffgaaGreatDoorVEnv
import Derived.Test.YtlcglclojlffgaaGreatDoorM3
import Derived.Test.YtlcglclojlffgaaGreatDoorVBase2
namespace Go.Proofs.YtlcglclojlffgaaGreatDoor
open Go.RowKit

theorem decB_eq {n : Int} {s : ByteArray} (h : Lib.itoa n = s.data.toList) : decB n = s := by
  apply ByteArray.ext; simp [decB, h]
theorem rnum_none {l : List UInt8} (h : ∀ n, Lib.parseIntB 64 l ≠ .ok n) : rnum l = none := by
  unfold rnum; split
  · rename_i n hn; exact absurd hn (h n)
  · rfl

end Go.Proofs.YtlcglclojlffgaaGreatDoor
