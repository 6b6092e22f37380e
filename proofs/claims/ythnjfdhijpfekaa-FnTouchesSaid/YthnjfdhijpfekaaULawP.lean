import Derived.Test.YthnjfdhijpfekaaUBase
import Derived.ProofKit
import Derived.OpenShut
import Derived.Deep.DeepHandedRow
import Derived.Lib.LaidTab
import Derived.Stop.LaidErr
namespace Go.Proofs.Ythnjfdhijpfekaa
open Go.ChangeShapes Go.WideShapes Go.ChangeAt Go.RowKit

theorem ownLaw : ownKnob Try.prog.godebug = none := by kernel_rfl
theorem laidOutLaw : laidOutB Try.prog = true := by kernel_rfl
/-- the arguments read behind a call that keeps memory as they did -/
theorem trodAll_below {H : Type} {enc : TypeId × Value → H} {P : Program} (hl : laidOutB P = true) {W W' : World} (hb : Below W.heap.size W W') :
    ∀ (ts : List TypeId) (vs : List Value) (ds : List (DataW H)) (ps : List MemPlace), (∀ t ∈ ts, P.readableRec t = true ∧ t < P.types.size) → DataW.TrodAll enc P W 0 (fun _ => true) true ts vs ds ps → (∀ x ∈ ps, x.block < W.heap.size) →
      DataW.TrodAll enc P W' 0 (fun b => decide (b < W.heap.size)) true ts vs ds ps
  | [], [], [], ps, _, h, _ => h
  | t :: ts, v :: vs, d :: ds, ps, hr, h, hlt => by
    obtain ⟨p, q, h1, h2, rfl⟩ := h
    refine ⟨p, q, ?_, ?_, rfl⟩
    · exact Below.trod hl (hr t (by simp)).1 (hr t (by simp)).2 h1 hb (fun x hx => hlt x (by simp [hx]))
    · exact trodAll_below hl hb ts vs ds q (fun t ht => hr t (by simp [ht])) h2 (fun x hx => hlt x (by simp [hx]))

/-- what a law owes behind its call -/
theorem law_post {H : Type} {enc : TypeId × Value → H} {f : Func} {s : ChangeSpec} {W W' : World} {args : Array Value} {ds gs : List (DataW H)} {before : List MemPlace}
    (hW : DataW.Whole enc Try.prog f.params.toList s.vars false W args.toList ds gs before) (hv : s.vars = []) (hres : f.resultTypes = #[4]) (hb : Below W.heap.size W W')
    (hfn : ∀ gs, gs = [] → s.fn H (ds ++ gs) = { results := [.lit (.bool true)], args := ds }) (hr : ∀ t ∈ f.params.toList, Try.prog.readableRec t = true ∧ t < Try.prog.types.size) :
    s.post enc Try.prog f false true false false W args (.bool true) W' := by
  have hW' := hW
  obtain ⟨p, q, hA, hV, rfl, hfz, hnd⟩ := hW
  rw [hv] at hV
  obtain ⟨rfl, rfl⟩ := trodVars_none hV
  have hlt : ∀ x ∈ p ++ [], x.block < W.heap.size := hW'.lt
  refine ⟨ds, [], p ++ [], [], p, [], hW', ?_, ?_, ?_, hb.frame _, fun h => by cases h⟩
  · rw [hfn [] rfl, hres]
    exact trodAll_mk1 (shut_bool Try.underlying4 _)
  · rw [hfn [] rfl]
    exact trodAll_below laidOutLaw hb _ _ _ _ hr hA (fun x hx => hlt x (by simpa using hx))
  · rw [hfn [] rfl, hv]
    exact rfl

/-- the cells of a table that a row lists -/
def tabCells : DataW Unit → Array Value
  | .agg l => (l.map fun | .lit (.int k n) => .int k n | _ => undef).toArray
  | _ => #[]
/-- a block with other cells -/
def withCells (cs : Array Value) : Obj → Obj
  | .cells _ t frozen => .cells cs t frozen
  | o => o
/-- the heap with the listed tables -/
def laidHeap (P : Program) (laid : List (String × DataW Unit)) (h : Array Obj) : Array Obj :=
  laid.foldl (fun h nd => h.modify ((P.globalNamed nd.1).getD 0) (withCells (tabCells nd.2))) h

/-- a world for the witness: the settled one, each listed table holding what its initialiser lays -/
noncomputable def laidWorld (laid : List (String × DataW Unit)) (os : Os) : World :=
  { World.holding Try.prog os ⟨#[], #[], []⟩ with heap := laidHeap Try.prog laid (World.holding Try.prog os ⟨#[], #[], []⟩).heap }

end Go.Proofs.Ythnjfdhijpfekaa
