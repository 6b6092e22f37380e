import Derived.Test.YtpilkgcghlfdmaaGreatDoorM0
namespace Go.Proofs.YtpilkgcghlfdmaaGreatDoor
open Go.RowKit

/-- the blocks from lo on and below hi are as they were -/
structure Same (lo hi : Nat) (w w' : World) : Prop where
  os : w'.os = w.os
  tape : w'.tape = w.tape
  output : w'.output = w.output
  size : w.heap.size ≤ w'.heap.size
  block : ∀ k, lo ≤ k → k < hi → w'.heap[k]? = w.heap[k]?

theorem Same.of_below {lo hi : Nat} {w w' : World} (hb : Below w.heap.size w w') (h : hi ≤ w.heap.size) : Same lo hi w w' :=
  ⟨hb.os, hb.tape, hb.output, hb.size, fun k _ hk => hb.block k (by omega)⟩
theorem Same.of_grown {lo hi : Nat} {w w' : World} {row : Option Nat} (hg : w.grownBy w' row) (h : hi ≤ w.heap.size) (hr : ∀ k, row = some k → k < lo ∨ hi ≤ k) : Same lo hi w w' :=
  ⟨hg.os, hg.tape, hg.output, hg.size, fun k h1 hk => hg.block k (by omega) (fun e => by have := hr k e.symm; omega)⟩

/-- what is known of some blocks: a box, a slice of its own, numbers that a slice holds, all that lay below -/
inductive Fact where
  | box (b : Nat) (cs : Array Value) (t : TypeId)
  | own (lo hi : Nat) (v : Value) (zs : List Int)
  | below (w0 : World)
def Fact.lo : Fact → Nat
  | .box b _ _ => b
  | .own lo _ _ _ => lo
  | .below _ => 0
def Fact.hi : Fact → Nat
  | .box b _ _ => b + 1
  | .own _ hi _ _ => hi
  | .below w0 => w0.heap.size
def Fact.P : Fact → World → Prop
  | .box b cs t, w => w.heap[b]? = some (.cells cs t (0, 0))
  | .own lo hi v zs, w => OwnI w lo v zs ∧ (∀ k, v.ownBlock = some k → k < hi)
  | .below w0, w => Below w0.heap.size w0 w
theorem Fact.keep (F : Fact) (w w' : World) (hs : Same F.lo F.hi w w') (h : F.P w) : F.P w' := by
  cases F with
  | box b cs t => exact (hs.block b (Nat.le_refl _) (Nat.lt_succ_self _)).trans h
  | own lo hi v zs =>
    obtain ⟨ho, hh⟩ : OwnI w lo v zs ∧ (∀ k, v.ownBlock = some k → k < hi) := h
    refine ⟨⟨ho.1, ?_⟩, hh⟩
    rcases ho.2 with h2 | ⟨g, cap, cur, h1, hb, hg, r⟩
    · exact Or.inl h2
    · refine Or.inr ⟨g, cap, cur, h1, hb, ?_, r⟩
      rw [hs.block g hb (hh g (by rw [h1]; rfl))]
      exact hg
  | below w0 =>
    have h : Below w0.heap.size w0 w := h
    exact (⟨hs.os.trans h.os, hs.tape.trans h.tape, hs.output.trans h.output, Nat.le_trans h.size hs.size, fun k hk => (hs.block k (Nat.zero_le _) hk).trans (h.block k hk)⟩ : Below w0.heap.size w0 w')

/-- what is known, each of other blocks -/
def Facts (L : List Fact) (w : World) : Prop := (∀ F ∈ L, F.P w ∧ F.lo ≤ F.hi ∧ F.hi ≤ w.heap.size) ∧ L.Pairwise (fun F G => G.hi ≤ F.lo ∨ F.hi ≤ G.lo)

theorem Facts.nil (w : World) : Facts [] w := ⟨by simp, List.Pairwise.nil⟩
theorem Facts.get {L : List Fact} {w : World} (h : Facts L w) (i : Nat) {F : Fact} (hF : L[i]? = some F) : F.P w := (h.1 F (List.mem_of_getElem? hF)).1
theorem Facts.top {L : List Fact} {w : World} (h : Facts L w) (i : Nat) {F : Fact} (hF : L[i]? = some F) : F.hi ≤ w.heap.size := (h.1 F (List.mem_of_getElem? hF)).2.2
theorem Facts.ord {L : List Fact} {w : World} (h : Facts L w) {i j : Nat} {F G : Fact} (hF : L[i]? = some F) (hG : L[j]? = some G) (hij : i < j) : G.hi ≤ F.lo ∨ F.hi ≤ G.lo := by
  obtain ⟨hi, rfl⟩ := List.getElem?_eq_some_iff.1 hF
  obtain ⟨hj, rfl⟩ := List.getElem?_eq_some_iff.1 hG
  exact List.pairwise_iff_getElem.1 h.2 i j hi hj hij
theorem Facts.below {L : List Fact} {w w' : World} (h : Facts L w) (hb : Below w.heap.size w w') : Facts L w' :=
  ⟨fun F hF => let ⟨a, b, c⟩ := h.1 F hF; ⟨F.keep w w' (Same.of_below hb c) a, b, Nat.le_trans c hb.size⟩, h.2⟩
theorem Facts.add {L : List Fact} {w w' : World} (h : Facts L w) (hb : Below w.heap.size w w') (F : Fact) (hlo : w.heap.size ≤ F.lo) (hle : F.lo ≤ F.hi) (hhi : F.hi ≤ w'.heap.size) (hP : F.P w') : Facts (F :: L) w' := by
  have h' := h.below hb
  refine ⟨fun G hG => ?_, List.Pairwise.cons (fun G hG => Or.inl (Nat.le_trans (h.1 G hG).2.2 hlo)) h.2⟩
  rcases List.mem_cons.1 hG with rfl | hG
  · exact ⟨hP, hle, hhi⟩
  · exact h'.1 G hG
/-- one of them is written over -/
theorem Facts.turn {L : List Fact} {w w' : World} (h : Facts L w) (i : Nat) {F : Fact} (hF : L[i]? = some F) {row : Option Nat} (hg : w.grownBy w' row) (hr : ∀ k, row = some k → F.lo ≤ k ∧ k < F.hi) (F' : Fact) (h1 : F'.lo = F.lo) (h2 : F'.hi = F.hi) (hP : F'.P w') : Facts (L.set i F') w' := by
  obtain ⟨hi, he⟩ := List.getElem?_eq_some_iff.1 hF
  have hs := hg.size
  constructor
  · intro G hG
    obtain ⟨j, hj, rfl⟩ := List.mem_iff_getElem.1 hG
    rw [List.length_set] at hj
    rw [List.getElem_set]
    split
    · have := h.1 F (List.mem_of_getElem? hF)
      exact ⟨hP, by omega, by omega⟩
    · rename_i hne
      obtain ⟨a, b, c⟩ := h.1 L[j] (List.getElem_mem hj)
      refine ⟨L[j].keep w w' (Same.of_grown hg c (fun k hk => ?_)) a, b, Nat.le_trans c hs⟩
      obtain ⟨k1, k2⟩ := hr k hk
      have hij : i < j ∨ j < i := by omega
      rcases hij with hij | hij
      · have := h.ord hF (List.getElem?_eq_getElem hj) hij
        omega
      · have := h.ord (List.getElem?_eq_getElem hj) hF hij
        omega
  · rw [List.pairwise_iff_getElem]
    intro a b ha hb hab
    rw [List.length_set] at ha hb
    rw [List.getElem_set, List.getElem_set]
    have h0 := List.pairwise_iff_getElem.1 h.2
    by_cases e1 : i = a
    · subst e1
      rw [if_pos rfl, if_neg (by omega)]
      have := h0 i b hi hb hab
      rw [he] at this
      rw [h1, h2]
      exact this
    · rw [if_neg e1]
      by_cases e2 : i = b
      · subst e2
        rw [if_pos rfl]
        have := h0 a i ha hi hab
        rw [he] at this
        rw [h1, h2]
        exact this
      · rw [if_neg e2]
        exact h0 a b ha hb hab

theorem Facts.drew {L : List Fact} {w : World} (h : Facts L w) : Facts L w.drew :=
  ⟨fun F hF => let ⟨a, b, c⟩ := h.1 F hF; ⟨F.keep w w.drew ⟨rfl, rfl, rfl, Nat.le_refl _, fun _ _ _ => rfl⟩ a, b, c⟩, h.2⟩
theorem Facts.perm {L L' : List Fact} {w : World} (h : Facts L w) (hp : L.Perm L') : Facts L' w :=
  ⟨fun F hF => h.1 F (hp.mem_iff.2 hF), (List.Perm.pairwise_iff (fun hxy => hxy.symm) hp).1 h.2⟩
/-- the second to the front -/
theorem Facts.swap {L : List Fact} {F G : Fact} {w : World} (h : Facts (F :: G :: L) w) : Facts (G :: F :: L) w := h.perm (List.Perm.swap _ _ _)
theorem Facts.bring3 {L : List Fact} {F G H : Fact} {w : World} (h : Facts (F :: G :: H :: L) w) : Facts (H :: F :: G :: L) w := h.perm (((List.Perm.swap _ _ _).cons _).trans (List.Perm.swap _ _ _))
theorem Facts.tail {L : List Fact} {F : Fact} {w : World} (h : Facts (F :: L) w) : Facts L w := ⟨fun G hG => h.1 G (List.mem_cons_of_mem _ hG), (List.pairwise_cons.1 h.2).2⟩
theorem Facts.drop2 {L : List Fact} {F G : Fact} {w : World} (h : Facts (F :: G :: L) w) : Facts (F :: L) w := h.swap.tail

theorem Facts.drop3 {L : List Fact} {F G H : Fact} {w : World} (h : Facts (F :: G :: H :: L) w) : Facts (F :: G :: L) w := h.bring3.tail

theorem boxF_cells {b : Nat} {cs : Array Value} {t : TypeId} {w : World} (h : (Fact.box b cs t).P w) : ∀ i, w.cell? ⟨b, i, none⟩ = cs[i]? := fun i => by
  have h' : w.heap[b]? = some (.cells cs t (0, 0)) := h
  simp [World.cell?, h']
theorem boxF_free {b : Nat} {cs : Array Value} {t : TypeId} {w : World} (h : (Fact.box b cs t).P w) : ∀ i, w.frozen? ⟨b, i, none⟩ = false := fun i => by
  have h' : w.heap[b]? = some (.cells cs t (0, 0)) := h
  simp [World.frozen?, h']
theorem boxF_new (w : World) (cs : Array Value) (t : TypeId) : (Fact.box w.heap.size cs t).P (w.alloc (.cells cs t (0, 0))) := Array.getElem?_push_size
/-- a box is made -/
theorem Facts.box {L : List Fact} {w : World} (h : Facts L w) (cs : Array Value) (t : TypeId) : Facts (Fact.box w.heap.size cs t :: L) (w.alloc (.cells cs t (0, 0))) :=
  h.add (ba1 _ _) _ (Nat.le_refl _) (Nat.le_succ _) (by simp [Fact.hi]) (boxF_new _ _ _)

/-- a box is stored into -/
theorem Facts.store {L : List Fact} {w : World} (h : Facts L w) (i : Nat) {b : Nat} {cs : Array Value} {t : TypeId} (hF : L[i]? = some (Fact.box b cs t)) (j : Nat) (v : Value) : Facts (L.set i (Fact.box b (cs.setIfInBounds j v) t)) (w.setCell ⟨b, j, none⟩ v) := by
  have hp : w.heap[b]? = some (.cells cs t (0, 0)) := h.get i hF
  have hg : w.grownBy (w.setCell ⟨b, j, none⟩ v) (some b) := ⟨rfl, rfl, rfl, by simp, fun k _ hk => heap_setCell_other w ⟨b, j, none⟩ k v (fun e => hk (by simp [e]))⟩
  refine h.turn i hF hg (fun k hk => ?_) (Fact.box b (cs.setIfInBounds j v) t) rfl rfl ?_
  · cases hk; exact ⟨Nat.le_refl _, Nat.lt_succ_self _⟩
  · show (w.setCell ⟨b, j, none⟩ v).heap[b]? = _
    rw [setCell_eq_setRow w b j cs t (0, 0) v hp]
    exact setRow_heap w b _ _ t _ hp

theorem Facts.start (w : World) : Facts [Fact.below w] w := ⟨fun F hF => by
  rw [List.mem_singleton] at hF
  subst hF
  exact ⟨Below.refl _ _, Nat.zero_le _, Nat.le_refl _⟩, List.pairwise_singleton _ _⟩

theorem ownF_ints {lo hi : Nat} {a : Option Addr} {n c : Nat} {zs : List Int} {w : World} (h : (Fact.own lo hi (.slice a n c) zs).P w) : IntsAt w a zs := by
  obtain ⟨a', c', e, hx⟩ := (show OwnI w lo (.slice a n c) zs ∧ _ from h).1.read
  obtain ⟨rfl, _, _⟩ := Value.slice.inj e
  exact hx
/-- a slice that a call has made -/
theorem Facts.own {L : List Fact} {w w' : World} (h : Facts L w) (hb : Below w.heap.size w w') {v : Value} {zs : List Int} (ho : OwnI w' w.heap.size v zs) : Facts (Fact.own w.heap.size w'.heap.size v zs :: L) w' :=
  h.add hb _ (Nat.le_refl _) hb.size (Nat.le_refl _) ⟨ho, fun k hk => (World.ownsRow.lt ho k hk).2⟩
/-- a slice's cells are written over -/
theorem Facts.turnOwn {L : List Fact} {w w' : World} (h : Facts L w) (i : Nat) {lo hi : Nat} {v : Value} {zs zs' : List Int} (hF : L[i]? = some (Fact.own lo hi v zs)) (hg : w.grownBy w' v.ownBlock) (ho : OwnI w' lo v zs') : Facts (L.set i (Fact.own lo hi v zs')) w' := by
  have hp := h.get i hF
  exact h.turn i hF hg (fun k hk => ⟨(World.ownsRow.lt ho k hk).1, hp.2 k hk⟩) (Fact.own lo hi v zs') rfl rfl ⟨ho, hp.2⟩

end Go.Proofs.YtpilkgcghlfdmaaGreatDoor
