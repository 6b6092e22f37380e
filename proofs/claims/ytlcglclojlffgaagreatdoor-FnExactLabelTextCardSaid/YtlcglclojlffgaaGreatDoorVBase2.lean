import Derived.Test.YtlcglclojlffgaaGreatDoorVDec
namespace Go.Proofs.YtlcglclojlffgaaGreatDoor
open Go.RowKit

/-- a call that keeps what is there, said of the world in which the caller began -/
theorem callB {P : Program} {f : FuncId} {args : Array Value} {w w0 : World} {B : Nat} {v : Value} (HB : Hid (Below B w0 w)) (hs : B ≤ w.heap.size)
    (h : Calls P f args w fun e w' => e = .returned v ∧ Below w.heap.size w w') :
    Calls P f args w fun e w' => e = .returned v ∧ Hid (Below B w0 w') ∧ Hid (Below w.heap.size w w') ∧ (∀ b o, b < w.heap.size → w'.cell? ⟨b, o, none⟩ = w.cell? ⟨b, o, none⟩) ∧ (∀ b o, b < w.heap.size → w'.frozen? ⟨b, o, none⟩ = w.frozen? ⟨b, o, none⟩) ∧ w.heap.size ≤ w'.heap.size :=
  h.mono fun _ _ ⟨he, hb⟩ => ⟨he, Lib.hid (HB.out.trans (hb.mono hs)), Lib.hid hb, (bcell hb).1, (bcell hb).2, hb.size⟩

theorem same_below {P : Program} {f : FuncId} {args : Array Value} {w : World} {v : Value} (h : Calls P f args w fun e w' => e = .returned v ∧ w = w') : Calls P f args w fun e w' => e = .returned v ∧ Below w.heap.size w w' :=
  h.mono fun _ _ ⟨he, hw⟩ => ⟨he, hw ▸ Below.refl _ _⟩

end Go.Proofs.YtlcglclojlffgaaGreatDoor
