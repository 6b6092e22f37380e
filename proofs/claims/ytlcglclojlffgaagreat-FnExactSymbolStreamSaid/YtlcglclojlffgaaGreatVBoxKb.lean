import Derived.Test.YtlcglclojlffgaaGreatM0
namespace Go.Proofs.YtlcglclojlffgaaGreat
open Go.RowKit

/-- a new box of the region's own -/
def BoxK (B : Nat) (cs : Array Value) (t : TypeId) (v : Value) (W : World) : Prop := ∃ b, v = .pointer (some ⟨b, 0, none⟩) ∧ B ≤ b ∧ W.heap[b]? = some (.cells cs t (0, 0))
def spBox (B : Nat) (cs : Array Value) (t : TypeId) : Sp KB := ⟨BoxK B cs t, fun _ _ _ hk ⟨b, hv, hb, hg⟩ => ⟨b, hv, hb, blkK hk hg⟩⟩
theorem kb_new {w0 W : World} {B : Nat} {cs : Array Value} {t : TypeId} (hst : StX w0 W) (hB : B ≤ w0.heap.size) : RsR (StX w0) (spBox B cs t) W (.pointer (some ⟨W.heap.size, 0, none⟩)) (W.alloc (.cells cs t (0, 0))) :=
  kb_below hst (ba1 _ _) ⟨W.heap.size, rfl, Nat.le_trans hB hst.size, push_at _ _⟩
theorem own_ne_box {w : World} {B b : Nat} {v : Value} {zs : List Int} {cs : Array Value} {t : TypeId} (ho : OwnI w B v zs) (hg : w.heap[b]? = some (.cells cs t (0, 0))) (ht : t ≠ 2) : v.ownBlock ≠ some b := by
  rcases ho.2 with ⟨rfl, h0⟩ | ⟨g, cap, cur, rfl, hb, hg2, r⟩
  · intro e; cases e
  · intro e
    obtain rfl := Option.some.inj e
    rw [hg] at hg2
    injection hg2 with hc
    injection hc with _ hc
    exact ht hc

end Go.Proofs.YtlcglclojlffgaaGreat
