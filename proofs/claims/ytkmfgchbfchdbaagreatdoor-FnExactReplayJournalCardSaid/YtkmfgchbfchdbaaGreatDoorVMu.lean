import Derived.Test.YtkmfgchbfchdbaaGreatDoorM0
import Derived.Conc.MuLone
namespace Go.Proofs.YtkmfgchbfchdbaaGreatDoor
open Go.RowKit

/-- the library's lock in this program -/
def muLink : Go.Conc.Locks.MuLink := { lock := 75, unlock := 76, ilock := 100, iunlock := 101, lockSlow := 128, unlockSlow := 131, disable := 124, enable := 126, acquire := 127, relMerge := 129, cas32 := 125, add32 := 130, tMutex := 97, tIMutex := 95, tPMutex := 161, tPIMutex := 188, tPI32 := 190, tUP := 167, tNoCopy := 92, tU32 := 93 }
theorem muLib : Go.Conc.Locks.MuLib Tryz.prog muLink :=
  ⟨Tryz.func75, Tryz.func76, Tryz.func100, Tryz.func101, Tryz.func124, Tryz.func126, Tryz.func127, Tryz.func129, Tryz.func125, Tryz.func130,
    Tryz.underlying95, Tryz.runUnderlying95, Tryz.sizeOf95, Tryz.isAgg95, Tryz.zeroValue95,
    Tryz.underlying97, Tryz.runUnderlying97, Tryz.sizeOf97, Tryz.isAgg97, Tryz.zeroValue97,
    Tryz.underlying161, Tryz.runUnderlying161, Tryz.sizeOf161, Tryz.isAgg161, Tryz.zeroValue161,
    Tryz.underlying188, Tryz.runUnderlying188, Tryz.sizeOf188, Tryz.isAgg188, Tryz.zeroValue188,
    Tryz.underlying190, Tryz.runUnderlying190, Tryz.sizeOf190, Tryz.isAgg190, Tryz.zeroValue190,
    Tryz.underlying167, Tryz.runUnderlying167, Tryz.sizeOf167, Tryz.isAgg167, Tryz.zeroValue167,
    Tryz.underlying92, Tryz.runUnderlying92, Tryz.sizeOf92, Tryz.isAgg92, Tryz.zeroValue92,
    Tryz.underlying21, Tryz.runUnderlying21, Tryz.sizeOf21, Tryz.isAgg21, Tryz.zeroValue21, (by kernel_rfl)⟩

theorem lock_any (a : Addr) (w : World) (hc : w.cell? a = some (.int .i32 0)) (hz : w.frozen? a = false) :
    Calls Tryz.prog 75 #[.pointer (some a)] w fun e w' => e = .returned (.tuple #[]) ∧ w' = w.setCell a (.int .i32 1) :=
  Go.MuLone.lock_free muLib a w hc hz
theorem unlock_def (a : Addr) (u : FrameMode) (w : World) (hc : w.cell? a = some (.int .i32 1)) (hz : w.frozen? a = false) :
    CallsD Tryz.prog 76 #[.pointer (some a)] u w fun e u' w' => u' = u ∧ (e = .returned (.tuple #[]) ∧ w' = w.setCell a (.int .i32 0)) :=
  Go.MuLone.unlock_deferred muLib a u w hc hz

end Go.Proofs.YtkmfgchbfchdbaaGreatDoor
