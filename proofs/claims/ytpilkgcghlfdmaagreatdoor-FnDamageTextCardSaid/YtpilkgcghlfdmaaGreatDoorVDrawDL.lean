import Derived.Test.YtpilkgcghlfdmaaGreatDoorVDraw27
import Derived.Test.YtpilkgcghlfdmaaGreatDoorVOwnD
namespace Go.Proofs.YtpilkgcghlfdmaaGreatDoor
open Go.RowKit

theorem stB_ownD {b base : Nat} {w0 w wo w' : World} {v : Value} {ds : List Dm} (hst : StB b w0 w) (ho : OwnD wo base v ds) (hg : w.grownBy w' v.ownBlock) (hb : b < base) (h0 : w0.heap.size ≤ base) : StB b w0 w' :=
  ⟨hst.1.kept hg (fun k e => by have := ho.at k e; omega), hst.2.andThen hg (fun j e => Or.inl (by have := ho.at j e; omega))⟩
/-- drawn damages -/
def RetDL (w : World) (b : Nat) (e : Ending) (w' : World) : Prop :=
  ∃ (ds : List Dm) (a : Option Addr) (c : Nat), e = .returned (.slice a ds.length c) ∧ ds.length ≤ 21 ∧ OwnD w' w.heap.size (.slice a ds.length c) ds ∧ Src w' b ∧ w.grownBy w' (some b)
/-- while they are drawn -/
def StDL (w : World) (b : Nat) (v : Value) (ds : List Dm) (W : World) : Prop := StB b w W ∧ OwnD W w.heap.size v ds
theorem StDL.draw {w W W' : World} {b : Nat} {v : Value} {ds : List Dm} (h : StDL w b v ds W) (hlt : b < w.heap.size) (hs : Src W' b) (hg : W.grownBy W' (some b)) : StDL w b v ds W' := ⟨stB_trans h.1 hs hg, h.2.src hlt hg⟩
theorem StDL.below {w W W' : World} {b : Nat} {v : Value} {ds : List Dm} (h : StDL w b v ds W) (hlt : b < w.heap.size) (hb : Below W.heap.size W W') : StDL w b v ds W' :=
  h.draw hlt (h.1.1.below hb) ⟨hb.os, hb.tape, hb.output, hb.size, fun k hk _ => hb.block k hk⟩
/-- and box g, of this round, holds six numbers -/
def StDG (w : World) (b g : Nat) (v : Value) (ds : List Dm) (W : World) : Prop := StDL w b v ds W ∧ v.ownBlock ≠ some g ∧ w.heap.size ≤ g ∧ ∃ k r c t v' q : Int, W.heap[g]? = some (.cells #[.int .i64 k, .int .i64 r, .int .i64 c, .int .i64 t, .int .i64 v', .int .i64 q] 30 (0, 0))
theorem StDL.set {w W : World} {b g i : Nat} {v u : Value} {ds : List Dm} (h : StDL w b v ds W) (hlt : b < w.heap.size) (hg : w.heap.size ≤ g) (hne : v.ownBlock ≠ some g) : StDL w b v ds (W.setCell ⟨g, i, none⟩ u) :=
  ⟨stB_set h.1 (by omega) hg, h.2.other (grownBy_set _ _ _ _) (fun k hk e => hne (by rw [hk, ← e]))⟩

end Go.Proofs.YtpilkgcghlfdmaaGreatDoor
