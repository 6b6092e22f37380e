import Derived.Test.YtkmfgchbfchdbaaDoorVEqI
namespace Go.Proofs.YtkmfgchbfchdbaaDoor
open Go.RowKit

theorem big_any (a : Option Addr) (n c : Nat) (w : World) :
    Calls Tryd.prog 11 #[.slice a n c] w fun e w' => e = .returned (.bool (decide ((4096 : Int) < n))) ∧ w' = w := by
  go_enter Tryd.func11, Tryd.ntmps11
  go_wp2
  go_ret
  exact ⟨rfl, rfl⟩

end Go.Proofs.YtkmfgchbfchdbaaDoor
