import Derived.Test.YtlgeaccjpgakbaaDoorUBase
import Derived.Conc.MuLone
namespace Go.Proofs.YtlgeaccjpgakbaaDoor
open Go.RowKit

/-- the library's lock in this program -/
def muLink : Go.Conc.Locks.MuLink := { lock := 72, unlock := 73, ilock := 84, iunlock := 85, lockSlow := 100, unlockSlow := 103, disable := 96, enable := 98, acquire := 99, relMerge := 101, cas32 := 97, add32 := 102, tMutex := 87, tIMutex := 85, tPMutex := 120, tPIMutex := 141, tPI32 := 143, tUP := 145, tNoCopy := 82, tU32 := 83 }
theorem muLib : Go.Conc.Locks.MuLib Tryd.prog muLink :=
  ⟨Tryd.func72, Tryd.func73, Tryd.func84, Tryd.func85, Tryd.func96, Tryd.func98, Tryd.func99, Tryd.func101, Tryd.func97, Tryd.func102,
    Tryd.underlying85, Tryd.runUnderlying85, Tryd.sizeOf85, Tryd.isAgg85, Tryd.zeroValue85,
    Tryd.underlying87, Tryd.runUnderlying87, Tryd.sizeOf87, Tryd.isAgg87, Tryd.zeroValue87,
    Tryd.underlying120, Tryd.runUnderlying120, Tryd.sizeOf120, Tryd.isAgg120, Tryd.zeroValue120,
    Tryd.underlying141, Tryd.runUnderlying141, Tryd.sizeOf141, Tryd.isAgg141, Tryd.zeroValue141,
    Tryd.underlying143, Tryd.runUnderlying143, Tryd.sizeOf143, Tryd.isAgg143, Tryd.zeroValue143,
    Tryd.underlying145, Tryd.runUnderlying145, Tryd.sizeOf145, Tryd.isAgg145, Tryd.zeroValue145,
    Tryd.underlying82, Tryd.runUnderlying82, Tryd.sizeOf82, Tryd.isAgg82, Tryd.zeroValue82,
    Tryd.underlying21, Tryd.runUnderlying21, Tryd.sizeOf21, Tryd.isAgg21, Tryd.zeroValue21, (by kernel_rfl)⟩

theorem lock_any (a : Addr) (w : World) (hc : w.cell? a = some (.int .i32 0)) (hz : w.frozen? a = false) :
    Calls Tryd.prog 72 #[.pointer (some a)] w fun e w' => e = .returned (.tuple #[]) ∧ w' = w.setCell a (.int .i32 1) :=
  Go.MuLone.lock_free muLib a w hc hz
theorem unlock_def (a : Addr) (u : FrameMode) (w : World) (hc : w.cell? a = some (.int .i32 1)) (hz : w.frozen? a = false) :
    CallsD Tryd.prog 73 #[.pointer (some a)] u w fun e u' w' => u' = u ∧ (e = .returned (.tuple #[]) ∧ w' = w.setCell a (.int .i32 0)) :=
  Go.MuLone.unlock_deferred muLib a u w hc hz

end Go.Proofs.YtlgeaccjpgakbaaDoor
