import Derived.Test.YtlcglclojlffgaaGreatDoorVLaw0
import Derived.Stop.LaidErr
namespace Go.Proofs.YtlcglclojlffgaaGreatDoor
open Go.ChangeShapes Go.WideShapes Go.ChangeAt Go.RowKit

/-- the cells of a table that a row lists -/
def tabCells : DataW Unit → Array Value
  | .agg l => (l.map fun | .lit (.int k n) => .int k n | _ => undef).toArray
  | _ => #[]
/-- a block with other cells -/
def withCells (cs : Array Value) : Obj → Obj
  | .cells _ t frozen => .cells cs t frozen
  | o => o
/-- the heap with the listed tables -/
def laidHeap (P : Program) (laid : List (String × DataW Unit)) (h : Array Obj) : Array Obj :=
  laid.foldl (fun h nd => h.modify ((P.globalNamed nd.1).getD 0) (withCells (tabCells nd.2))) h

/-- a world for the witness: the settled one, each listed table holding what its initialiser lays -/
noncomputable def laidWorld (laid : List (String × DataW Unit)) (os : Os) : World :=
  { World.holding Tryz.prog os ⟨#[], #[], []⟩ with heap := laidHeap Tryz.prog laid (World.holding Tryz.prog os ⟨#[], #[], []⟩).heap }

theorem laidMet_mem {P : Program} {W : World} {x : String × DataW Unit} : ∀ {laid : List (String × DataW Unit)}, laidMet P laid W → x ∈ laid → ∃ r, laidMet P (x :: r) W
  | y :: r, h, hm => by
    rcases List.mem_cons.1 hm with rfl | hm
    · exact ⟨r, h⟩
    · exact laidMet_mem h.tail hm

/-- the table of powers lies in memory -/
theorem tab_of {W : World} {laid : List (String × DataW Unit)} (h : laidMet Tryz.prog laid W) (hm : ("internal/strconv.uint64pow10", Lib.tabData .u64 Lib.pow10Tab) ∈ laid) : Tab W := by
  obtain ⟨r, hr⟩ := laidMet_mem h hm
  exact Lib.tabIs_of_head gTab gTabType Tryz.underlying192 Tryz.underlying134 cellsU64 cellsTab hr

end Go.Proofs.YtlcglclojlffgaaGreatDoor
