import Derived.Test.YthnjfdhijpfekaaUFr
import Derived.Test.YthnjfdhijpfekaaURG4
namespace Go.Proofs.Ythnjfdhijpfekaa
open Go.RowKit

/-- worlds that keep all that is there -/
def KeepX (w w' : World) : Prop := Below w.heap.size w w'
def xV (P : Value → Prop) : Sp KeepX := ⟨fun v _ => P v, fun _ _ _ _ h => h⟩
def xEq (u : Value) : Sp KeepX := xV (fun v => v = u)
/-- a new block that is known -/
def BoxV (B : Nat) (cs : Array Value) (t : TypeId) (v : Value) (w : World) : Prop := ∃ b, v = .pointer (some ⟨b, 0, none⟩) ∧ B ≤ b ∧ w.heap[b]? = some (.cells cs t (0, 0))
def xBox (B : Nat) (cs : Array Value) (t : TypeId) : Sp KeepX := ⟨BoxV B cs t, fun _ _ _ hk ⟨b, hv, hb, hg⟩ => ⟨b, hv, hb, (hk.block b (Array.getElem?_eq_some_iff.1 hg).1).trans hg⟩⟩

/-- the state: the facts, and how far the heap reaches -/
def StY (L : List Fact) (B : Nat) (w : World) : Prop := Facts L w ∧ B ≤ w.heap.size
theorem StY.below {L : List Fact} {B : Nat} {w w' : World} (h : StY L B w) (hb : Below w.heap.size w w') : StY L B w' := ⟨h.1.below hb, Nat.le_trans h.2 hb.size⟩

theorem rx_same {L : List Fact} {B : Nat} {w : World} {s : Sp KeepX} {v : Value} (hst : StY L B w) (h : s.holds v w) : RsR (StY L B) s w v w := ⟨hst, Below.refl _ _, h⟩
theorem rx_new {L : List Fact} {B : Nat} {w : World} {cs : Array Value} {t : TypeId} (hst : StY L B w) : RsR (StY L B) (xBox B cs t) w (.pointer (some ⟨w.heap.size, 0, none⟩)) (w.alloc (.cells cs t (0, 0))) :=
  ⟨hst.below (ba1 _ _), ba1 _ _, w.heap.size, rfl, hst.2, Array.getElem?_push_size⟩
/-- a call that keeps what is there -/
theorem rx_call {P : Program} {f : FuncId} {args : Array Value} {L : List Fact} {B : Nat} {w : World} {s : Sp KeepX} (hst : StY L B w) (h : Calls P f args w fun e w' => ∃ v, e = .returned v ∧ Below w.heap.size w w' ∧ s.holds v w') :
    Calls P f args w fun e w' => ∃ v, e = .returned v ∧ RsR (StY L B) s w v w' :=
  h.mono fun _ _ ⟨v, he, hb, hs⟩ => ⟨v, he, hst.below hb, hb, hs⟩
theorem rx_val {P : Program} {f : FuncId} {args : Array Value} {L : List Fact} {B : Nat} {w : World} {v : Value} (hst : StY L B w) (h : Calls P f args w fun e w' => e = .returned v ∧ Below w.heap.size w w') :
    Calls P f args w fun e w' => ∃ u, e = .returned u ∧ RsR (StY L B) (xEq v) w u w' :=
  rx_call hst (h.mono fun _ _ ⟨he, hb⟩ => ⟨v, he, hb, rfl⟩)

theorem Facts.cons {L : List Fact} {w : World} (h : Facts L w) (F : Fact) (hP : F.P w) (hle : F.lo ≤ F.hi) (hhi : F.hi ≤ w.heap.size) (hd : ∀ G ∈ L, G.hi ≤ F.lo ∨ F.hi ≤ G.lo) : Facts (F :: L) w := by
  refine ⟨fun G hG => ?_, List.Pairwise.cons hd h.2⟩
  rcases List.mem_cons.1 hG with rfl | hG
  · exact ⟨hP, hle, hhi⟩
  · exact h.1 G hG
/-- the stretch of a slice's own block -/
theorem own_stretch {w : World} {B : Nat} {v : Value} {zs : List Int} (ho : OwnI w B v zs) (hB : B ≤ w.heap.size) : ∃ lo hi, (Fact.own lo hi v zs).P w ∧ B ≤ lo ∧ lo ≤ hi ∧ hi ≤ w.heap.size ∧ (lo = B ∧ hi = B ∨ hi = lo + 1 ∧ ∃ cur, w.heap[lo]? = some (.cells cur 2 (0, 0))) := by
  rcases ho.2 with ⟨rfl, h0⟩ | ⟨g, cap, cur, rfl, hb, hg, r⟩
  · exact ⟨B, B, ⟨ho, fun k hk => by cases hk⟩, Nat.le_refl _, Nat.le_refl _, hB, Or.inl ⟨rfl, rfl⟩⟩
  · exact ⟨g, g + 1, ⟨⟨ho.1, Or.inr ⟨g, cap, cur, rfl, Nat.le_refl _, hg, r⟩⟩, fun k hk => by cases hk; exact Nat.lt_succ_self _⟩, hb, Nat.le_succ _, (Array.getElem?_eq_some_iff.1 hg).1, Or.inr ⟨rfl, cur, hg⟩⟩
/-- behind a region: a box and a slice -/
theorem facts_boxOwn {L : List Fact} {B b : Nat} {w : World} {cs : Array Value} {t : TypeId} {v : Value} {zs : List Int} (h : StY L B w) (hL : ∀ G ∈ L, G.hi ≤ B) (hb : B ≤ b) (hg : w.heap[b]? = some (.cells cs t (0, 0))) (ho : OwnI w B v zs) (ht : t ≠ 2) :
    ∃ lo hi, Facts (Fact.box b cs t :: Fact.own lo hi v zs :: L) w := by
  obtain ⟨lo, hi, hP, h1, h2, h3, h4⟩ := own_stretch ho h.2
  refine ⟨lo, hi, (h.1.cons (.own lo hi v zs) hP h2 h3 (fun G hG => Or.inl (Nat.le_trans (hL G hG) h1))).cons (.box b cs t) hg (Nat.le_succ _) (Array.getElem?_eq_some_iff.1 hg).1 (fun G hG => ?_)⟩
  rcases List.mem_cons.1 hG with rfl | hG
  · show hi ≤ b ∨ b + 1 ≤ lo
    rcases h4 with ⟨rfl, rfl⟩ | ⟨rfl, cur, hc⟩
    · exact Or.inl hb
    · have : b ≠ lo := fun e => by
        subst e
        rw [hg] at hc
        injection hc with hc
        injection hc with _ hc
        exact ht hc
      omega
  · exact Or.inl (Nat.le_trans (hL G hG) hb)
/-- a box is written whole -/
theorem facts_row {L : List Fact} {w : World} {b : Nat} {cs : Array Value} {t : TypeId} (h : Facts (Fact.box b cs t :: L) w) (ds : Array Value) : Facts (Fact.box b ds t :: L) (w.setRow b ds) := by
  have hp : w.heap[b]? = some (.cells cs t (0, 0)) := h.get 0 rfl
  have hg : w.grownBy (w.setRow b ds) (some b) := ⟨rfl, rfl, rfl, by simp [World.setRow], fun k _ hk => by
    simp only [World.setRow]
    rw [Array.getElem?_modify, if_neg (fun e => hk (by rw [e]))]⟩
  refine h.turn 0 rfl hg (fun k hk => ?_) (Fact.box b ds t) rfl rfl (setRow_heap w b _ _ t _ hp)
  cases hk; exact ⟨Nat.le_refl _, Nat.lt_succ_self _⟩
theorem facts_all {L : List Fact} {w : World} (h : Facts L w) : ∀ G ∈ L, G.hi ≤ w.heap.size := fun G hG => (h.1 G hG).2.2

end Go.Proofs.Ythnjfdhijpfekaa
