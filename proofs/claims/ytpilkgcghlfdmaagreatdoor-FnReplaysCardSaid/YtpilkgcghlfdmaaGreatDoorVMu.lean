import Derived.Test.YtpilkgcghlfdmaaGreatDoorM0
import Derived.Conc.MuLone
namespace Go.Proofs.YtpilkgcghlfdmaaGreatDoor
open Go.RowKit

/-- the library's lock in this program -/
def muLink : Go.Conc.Locks.MuLink := { lock := 65, unlock := 66, ilock := 88, iunlock := 89, lockSlow := 118, unlockSlow := 121, disable := 114, enable := 116, acquire := 117, relMerge := 119, cas32 := 115, add32 := 120, tMutex := 91, tIMutex := 89, tPMutex := 152, tPIMutex := 180, tPI32 := 182, tUP := 159, tNoCopy := 86, tU32 := 87 }
theorem muLib : Go.Conc.Locks.MuLib Tryz.prog muLink :=
  ⟨Tryz.func65, Tryz.func66, Tryz.func88, Tryz.func89, Tryz.func114, Tryz.func116, Tryz.func117, Tryz.func119, Tryz.func115, Tryz.func120,
    Tryz.underlying89, Tryz.runUnderlying89, Tryz.sizeOf89, Tryz.isAgg89, Tryz.zeroValue89,
    Tryz.underlying91, Tryz.runUnderlying91, Tryz.sizeOf91, Tryz.isAgg91, Tryz.zeroValue91,
    Tryz.underlying152, Tryz.runUnderlying152, Tryz.sizeOf152, Tryz.isAgg152, Tryz.zeroValue152,
    Tryz.underlying180, Tryz.runUnderlying180, Tryz.sizeOf180, Tryz.isAgg180, Tryz.zeroValue180,
    Tryz.underlying182, Tryz.runUnderlying182, Tryz.sizeOf182, Tryz.isAgg182, Tryz.zeroValue182,
    Tryz.underlying159, Tryz.runUnderlying159, Tryz.sizeOf159, Tryz.isAgg159, Tryz.zeroValue159,
    Tryz.underlying86, Tryz.runUnderlying86, Tryz.sizeOf86, Tryz.isAgg86, Tryz.zeroValue86,
    Tryz.underlying21, Tryz.runUnderlying21, Tryz.sizeOf21, Tryz.isAgg21, Tryz.zeroValue21, (by kernel_rfl)⟩

theorem lock_any (a : Addr) (w : World) (hc : w.cell? a = some (.int .i32 0)) (hz : w.frozen? a = false) :
    Calls Tryz.prog 65 #[.pointer (some a)] w fun e w' => e = .returned (.tuple #[]) ∧ w' = w.setCell a (.int .i32 1) :=
  Go.MuLone.lock_free muLib a w hc hz
theorem unlock_def (a : Addr) (u : FrameMode) (w : World) (hc : w.cell? a = some (.int .i32 1)) (hz : w.frozen? a = false) :
    CallsD Tryz.prog 66 #[.pointer (some a)] u w fun e u' w' => u' = u ∧ (e = .returned (.tuple #[]) ∧ w' = w.setCell a (.int .i32 0)) :=
  Go.MuLone.unlock_deferred muLib a u w hc hz

end Go.Proofs.YtpilkgcghlfdmaaGreatDoor
