import Derived.Test.YtlgeaccjpgakbaaDoorUFr
import Derived.Test.YtlgeaccjpgakbaaDoorUSessSz
import Derived.Test.YtlgeaccjpgakbaaDoorUSessTo
import Derived.Test.YtlgeaccjpgakbaaDoorUSessMark
import Derived.Test.YtlgeaccjpgakbaaDoorUSessHeld
import Derived.Test.YtlgeaccjpgakbaaDoorUSessC
namespace Go.Proofs.YtlgeaccjpgakbaaDoor
open Go.RowKit

/-- the calls of a law on sessions, said in facts -/
theorem toSession_f {L : List Fact} {p : ByteArray} {x1 x2 x3 x4 : Int} {a : Option Addr} {xs : List Int} {c : Nat} {w : World} (h : Facts L w) (hx : IntsAt w a xs) (lx : xs.length ≤ 1099511627776) :
    Calls Tryd.prog 24 #[.agg #[.string p, .int .i64 x1, .int .i64 x2, .int .i64 x3, .int .i64 x4, .slice a xs.length c]] w fun e w' =>
      ∃ a' c', e = .returned (.agg #[.string p, .int .i64 x1, .int .i64 x2, .int .i64 x3, .int .i64 x4, .slice a' xs.length c']) ∧ Facts (Fact.own w.heap.size w'.heap.size (.slice a' xs.length c') xs :: L) w' ∧ w.heap.size ≤ w'.heap.size :=
  (toSession_any p x1 x2 x3 x4 a xs c w hx lx).mono fun _ _ ⟨a', c', he, ho, hb⟩ => ⟨a', c', he, h.own hb ho, hb.size⟩
theorem markSession_f {L : List Fact} {p : ByteArray} {x1 x2 x3 x4 : Int} {a : Option Addr} {xs : List Int} {c : Nat} {m : Int} {w : World} (h : Facts L w) (i : Nat) {lo hi : Nat} (hF : L[i]? = some (Fact.own lo hi (.slice a xs.length c) xs))
    (lx : xs.length ≤ 1099511627776) (hm0 : 0 ≤ m) (hm : m ≤ 1099511627776) :
    Calls Tryd.prog 27 #[.agg #[.string p, .int .i64 x1, .int .i64 x2, .int .i64 x3, .int .i64 x4, .slice a xs.length c], .int .i64 m] w fun e w' => e = .returned (.int .i64 (m + xs.length)) ∧ Facts (L.set i (Fact.own lo hi (.slice a xs.length c) (marks m xs.length))) w' ∧ w.heap.size ≤ w'.heap.size :=
  (markSession_any p x1 x2 x3 x4 a xs c lo m w (h.get i hF).1 lx hm0 hm).mono fun _ _ ⟨he, ho, hg⟩ => ⟨he, h.turnOwn i hF hg ho, hg.size⟩
theorem heldSession_f {L : List Fact} {p : ByteArray} {x1 x2 x3 x4 : Int} {a : Option Addr} {n c : Nat} {m : Int} {w : World} (h : Facts L w) (i : Nat) {lo hi : Nat} (hF : L[i]? = some (Fact.own lo hi (.slice a n c) (marks m n)))
    (lx : n ≤ 1099511627776) (hm0 : 0 ≤ m) (hm : m ≤ 1099511627776) :
    Calls Tryd.prog 28 #[.agg #[.string p, .int .i64 x1, .int .i64 x2, .int .i64 x3, .int .i64 x4, .slice a n c], .int .i64 m] w fun e w' => e = .returned (.int .i64 (m + n)) ∧ Facts L w' ∧ w.heap.size ≤ w'.heap.size :=
  (heldSession_marks (ownF_ints (h.get i hF)) lx hm0 hm).mono fun _ _ ⟨he, hb⟩ => ⟨he, h.below hb, hb.size⟩
theorem eqSession_f {L : List Fact} {p : ByteArray} {x1 x2 x3 x4 : Int} {a b : Option Addr} {xs : List Int} {c d : Nat} {w : World} (h : Facts L w) (hx : IntsAt w a xs) (hy : IntsAt w b xs) (lx : xs.length ≤ maxLen) :
    Calls Tryd.prog 26 #[.agg #[.string p, .int .i64 x1, .int .i64 x2, .int .i64 x3, .int .i64 x4, .slice a xs.length c], .agg #[.string p, .int .i64 x1, .int .i64 x2, .int .i64 x3, .int .i64 x4, .slice b xs.length d]] w fun e w' =>
      e = .returned (.bool true) ∧ Facts L w' ∧ w.heap.size ≤ w'.heap.size :=
  (eqSession_same hx hy lx).mono fun _ _ ⟨he, hb⟩ => ⟨he, h.below hb, hb.size⟩

/-- a session's box and its states -/
def sessA (p : ByteArray) (x1 x2 x3 x4 : Int) (v : Value) : Array Value := #[.string p, .int .i64 x1, .int .i64 x2, .int .i64 x3, .int .i64 x4, v]

theorem box_stored {L : List Fact} {w : World} {b : Nat} {q : ByteArray} {z1 z2 z3 z4 : Int} {u : Value} {t : TypeId} (h : Facts (Fact.box b #[.string q, .int .i64 z1, .int .i64 z2, .int .i64 z3, .int .i64 z4, u] t :: L) w) (p : ByteArray) (x1 x2 x3 x4 : Int) (v : Value) :
    Facts (Fact.box b #[.string p, .int .i64 x1, .int .i64 x2, .int .i64 x3, .int .i64 x4, v] t :: L) ((((((w.setCell ⟨b, 0, none⟩ (.string p)).setCell ⟨b, 1, none⟩ (.int .i64 x1)).setCell ⟨b, 2, none⟩ (.int .i64 x2)).setCell ⟨b, 3, none⟩ (.int .i64 x3)).setCell ⟨b, 4, none⟩ (.int .i64 x4)).setCell ⟨b, 5, none⟩ v) := by
  have h0 := h.store 0 rfl 0 (.string p)
  have h1 := h0.store 0 rfl 1 (.int .i64 x1)
  have h2 := h1.store 0 rfl 2 (.int .i64 x2)
  have h3 := h2.store 0 rfl 3 (.int .i64 x3)
  have h4 := h3.store 0 rfl 4 (.int .i64 x4)
  exact h4.store 0 rfl 5 v

end Go.Proofs.YtlgeaccjpgakbaaDoor
