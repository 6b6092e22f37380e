import Derived.Test.YtlcglclojlffgaaGreatDoorL0
import Derived.Test.YtlcglclojlffgaaGreatDoorL1
import Derived.Laws.EntriesVeiled
import Derived.WalkMore
import Derived.Deep.DeepCutAuto
import Derived.Deep.CutBlock
namespace Go.Proofs.YtlcglclojlffgaaGreatDoor
open Go.RowKit

/-- the blocks from lo on and below hi are as they were -/
structure Same (lo hi : Nat) (w w' : World) : Prop where
  os : w'.os = w.os
  tape : w'.tape = w.tape
  output : w'.output = w.output
  size : w.heap.size ≤ w'.heap.size
  block : ∀ k, lo ≤ k → k < hi → w'.heap[k]? = w.heap[k]?

theorem Same.of_below {lo hi : Nat} {w w' : World} (hb : Below w.heap.size w w') (h : hi ≤ w.heap.size) : Same lo hi w w' :=
  ⟨hb.os, hb.tape, hb.output, hb.size, fun k _ hk => hb.block k (by omega)⟩
theorem Same.of_grown {lo hi : Nat} {w w' : World} {row : Option Nat} (hg : w.grownBy w' row) (h : hi ≤ w.heap.size) (hr : ∀ k, row = some k → k < lo ∨ hi ≤ k) : Same lo hi w w' :=
  ⟨hg.os, hg.tape, hg.output, hg.size, fun k h1 hk => hg.block k (by omega) (fun e => by have := hr k e.symm; omega)⟩

/-- what is known of some blocks: a box, a slice of its own, numbers that a slice holds, all that lay below -/
inductive Fact where
  | box (b : Nat) (cs : Array Value) (t : TypeId)
  | own (lo hi : Nat) (v : Value) (zs : List Int)
  | below (w0 : World)
def Fact.lo : Fact → Nat
  | .box b _ _ => b
  | .own lo _ _ _ => lo
  | .below _ => 0
def Fact.hi : Fact → Nat
  | .box b _ _ => b + 1
  | .own _ hi _ _ => hi
  | .below w0 => w0.heap.size
def Fact.P : Fact → World → Prop
  | .box b cs t, w => w.heap[b]? = some (.cells cs t (0, 0))
  | .own lo hi v zs, w => OwnI w lo v zs ∧ (∀ k, v.ownBlock = some k → k < hi)
  | .below w0, w => Below w0.heap.size w0 w
theorem Fact.keep (F : Fact) (w w' : World) (hs : Same F.lo F.hi w w') (h : F.P w) : F.P w' := by
  cases F with
  | box b cs t => exact (hs.block b (Nat.le_refl _) (Nat.lt_succ_self _)).trans h
  | own lo hi v zs =>
    obtain ⟨ho, hh⟩ : OwnI w lo v zs ∧ (∀ k, v.ownBlock = some k → k < hi) := h
    refine ⟨⟨ho.1, ?_⟩, hh⟩
    rcases ho.2 with h2 | ⟨g, cap, cur, h1, hb, hg, r⟩
    · exact Or.inl h2
    · refine Or.inr ⟨g, cap, cur, h1, hb, ?_, r⟩
      rw [hs.block g hb (hh g (by rw [h1]; rfl))]
      exact hg
  | below w0 =>
    have h : Below w0.heap.size w0 w := h
    exact (⟨hs.os.trans h.os, hs.tape.trans h.tape, hs.output.trans h.output, Nat.le_trans h.size hs.size, fun k hk => (hs.block k (Nat.zero_le _) hk).trans (h.block k hk)⟩ : Below w0.heap.size w0 w')

/-- what is known, each of other blocks -/
def Facts (L : List Fact) (w : World) : Prop := (∀ F ∈ L, F.P w ∧ F.lo ≤ F.hi ∧ F.hi ≤ w.heap.size) ∧ L.Pairwise (fun F G => G.hi ≤ F.lo ∨ F.hi ≤ G.lo)

theorem Facts.nil (w : World) : Facts [] w := ⟨by simp, List.Pairwise.nil⟩
theorem Facts.get {L : List Fact} {w : World} (h : Facts L w) (i : Nat) {F : Fact} (hF : L[i]? = some F) : F.P w := (h.1 F (List.mem_of_getElem? hF)).1
theorem Facts.ord {L : List Fact} {w : World} (h : Facts L w) {i j : Nat} {F G : Fact} (hF : L[i]? = some F) (hG : L[j]? = some G) (hij : i < j) : G.hi ≤ F.lo ∨ F.hi ≤ G.lo := by
  obtain ⟨hi, rfl⟩ := List.getElem?_eq_some_iff.1 hF
  obtain ⟨hj, rfl⟩ := List.getElem?_eq_some_iff.1 hG
  exact List.pairwise_iff_getElem.1 h.2 i j hi hj hij
theorem Facts.below {L : List Fact} {w w' : World} (h : Facts L w) (hb : Below w.heap.size w w') : Facts L w' :=
  ⟨fun F hF => let ⟨a, b, c⟩ := h.1 F hF; ⟨F.keep w w' (Same.of_below hb c) a, b, Nat.le_trans c hb.size⟩, h.2⟩
theorem Facts.add {L : List Fact} {w w' : World} (h : Facts L w) (hb : Below w.heap.size w w') (F : Fact) (hlo : w.heap.size ≤ F.lo) (hle : F.lo ≤ F.hi) (hhi : F.hi ≤ w'.heap.size) (hP : F.P w') : Facts (F :: L) w' := by
  have h' := h.below hb
  refine ⟨fun G hG => ?_, List.Pairwise.cons (fun G hG => Or.inl (Nat.le_trans (h.1 G hG).2.2 hlo)) h.2⟩
  rcases List.mem_cons.1 hG with rfl | hG
  · exact ⟨hP, hle, hhi⟩
  · exact h'.1 G hG
/-- one of them is written over -/
theorem Facts.turn {L : List Fact} {w w' : World} (h : Facts L w) (i : Nat) {F : Fact} (hF : L[i]? = some F) {row : Option Nat} (hg : w.grownBy w' row) (hr : ∀ k, row = some k → F.lo ≤ k ∧ k < F.hi) (F' : Fact) (h1 : F'.lo = F.lo) (h2 : F'.hi = F.hi) (hP : F'.P w') : Facts (L.set i F') w' := by
  obtain ⟨hi, he⟩ := List.getElem?_eq_some_iff.1 hF
  have hs := hg.size
  constructor
  · intro G hG
    obtain ⟨j, hj, rfl⟩ := List.mem_iff_getElem.1 hG
    rw [List.length_set] at hj
    rw [List.getElem_set]
    split
    · have := h.1 F (List.mem_of_getElem? hF)
      exact ⟨hP, by omega, by omega⟩
    · rename_i hne
      obtain ⟨a, b, c⟩ := h.1 L[j] (List.getElem_mem hj)
      refine ⟨L[j].keep w w' (Same.of_grown hg c (fun k hk => ?_)) a, b, Nat.le_trans c hs⟩
      obtain ⟨k1, k2⟩ := hr k hk
      have hij : i < j ∨ j < i := by omega
      rcases hij with hij | hij
      · have := h.ord hF (List.getElem?_eq_getElem hj) hij
        omega
      · have := h.ord (List.getElem?_eq_getElem hj) hF hij
        omega
  · rw [List.pairwise_iff_getElem]
    intro a b ha hb hab
    rw [List.length_set] at ha hb
    rw [List.getElem_set, List.getElem_set]
    have h0 := List.pairwise_iff_getElem.1 h.2
    by_cases e1 : i = a
    · subst e1
      rw [if_pos rfl, if_neg (by omega)]
      have := h0 i b hi hb hab
      rw [he] at this
      rw [h1, h2]
      exact this
    · rw [if_neg e1]
      by_cases e2 : i = b
      · subst e2
        rw [if_pos rfl]
        have := h0 a i ha hi hab
        rw [he] at this
        rw [h1, h2]
        exact this
      · rw [if_neg e2]
        exact h0 a b ha hb hab

theorem Facts.drew {L : List Fact} {w : World} (h : Facts L w) : Facts L w.drew :=
  ⟨fun F hF => let ⟨a, b, c⟩ := h.1 F hF; ⟨F.keep w w.drew ⟨rfl, rfl, rfl, Nat.le_refl _, fun _ _ _ => rfl⟩ a, b, c⟩, h.2⟩
theorem Facts.perm {L L' : List Fact} {w : World} (h : Facts L w) (hp : L.Perm L') : Facts L' w :=
  ⟨fun F hF => h.1 F (hp.mem_iff.2 hF), (List.Perm.pairwise_iff (fun hxy => hxy.symm) hp).1 h.2⟩
/-- the second to the front -/
theorem Facts.swap {L : List Fact} {F G : Fact} {w : World} (h : Facts (F :: G :: L) w) : Facts (G :: F :: L) w := h.perm (List.Perm.swap _ _ _)
theorem Facts.tail {L : List Fact} {F : Fact} {w : World} (h : Facts (F :: L) w) : Facts L w := ⟨fun G hG => h.1 G (List.mem_cons_of_mem _ hG), (List.pairwise_cons.1 h.2).2⟩
theorem boxF_new (w : World) (cs : Array Value) (t : TypeId) : (Fact.box w.heap.size cs t).P (w.alloc (.cells cs t (0, 0))) := Array.getElem?_push_size
/-- a box is made -/
theorem Facts.box {L : List Fact} {w : World} (h : Facts L w) (cs : Array Value) (t : TypeId) : Facts (Fact.box w.heap.size cs t :: L) (w.alloc (.cells cs t (0, 0))) :=
  h.add (ba1 _ _) _ (Nat.le_refl _) (Nat.le_succ _) (by simp [Fact.hi]) (boxF_new _ _ _)

/-- a box is stored into -/
theorem Facts.store {L : List Fact} {w : World} (h : Facts L w) (i : Nat) {b : Nat} {cs : Array Value} {t : TypeId} (hF : L[i]? = some (Fact.box b cs t)) (j : Nat) (v : Value) : Facts (L.set i (Fact.box b (cs.setIfInBounds j v) t)) (w.setCell ⟨b, j, none⟩ v) := by
  have hp : w.heap[b]? = some (.cells cs t (0, 0)) := h.get i hF
  have hg : w.grownBy (w.setCell ⟨b, j, none⟩ v) (some b) := ⟨rfl, rfl, rfl, by simp, fun k _ hk => heap_setCell_other w ⟨b, j, none⟩ k v (fun e => hk (by simp [e]))⟩
  refine h.turn i hF hg (fun k hk => ?_) (Fact.box b (cs.setIfInBounds j v) t) rfl rfl ?_
  · cases hk; exact ⟨Nat.le_refl _, Nat.lt_succ_self _⟩
  · show (w.setCell ⟨b, j, none⟩ v).heap[b]? = _
    rw [setCell_eq_setRow w b j cs t (0, 0) v hp]
    exact setRow_heap w b _ _ t _ hp

/-- a slice that a call has made -/
theorem Facts.own {L : List Fact} {w w' : World} (h : Facts L w) (hb : Below w.heap.size w w') {v : Value} {zs : List Int} (ho : OwnI w' w.heap.size v zs) : Facts (Fact.own w.heap.size w'.heap.size v zs :: L) w' :=
  h.add hb _ (Nat.le_refl _) hb.size (Nat.le_refl _) ⟨ho, fun k hk => (World.ownsRow.lt ho k hk).2⟩
end Go.Proofs.YtlcglclojlffgaaGreatDoor
namespace Go.Proofs.YtlcglclojlffgaaGreatDoor
open Go.RowKit

/-- after j rounds of a copy -/
def Copied (w : World) (base g : Nat) (xs : List Int) (j : Nat) : Prop :=
  ∃ zs : List Int, zs.length = xs.length ∧ OwnI w base (.slice (some ⟨g, 0, none⟩) xs.length xs.length) zs ∧ zs.take j = xs.take j

theorem Copied.step {w : World} {base g : Nat} {xs : List Int} {j : Nat} {x : Int} (h : Copied w base g xs j) (hx : xs[j]? = some x) : Copied (w.setCell ⟨g, j, none⟩ (.int .i64 x)) base g xs (j + 1) := by
  obtain ⟨zs, hl, ho, ht⟩ := h
  have hj : j < xs.length := (List.getElem?_eq_some_iff.1 hx).1
  refine ⟨zs.set j x, by simpa using hl, (ho.stored hl.symm j x).1, ?_⟩
  rw [take_snoc' hx, take_snoc' (zs := zs.set j x) (k := j) (z := x) (by simp [hl, hj]), List.take_set_of_le (Nat.le_refl _), ht]

theorem Copied.fin {w : World} {base g : Nat} {xs : List Int} (h : Copied w base g xs xs.length) : OwnI w base (.slice (some ⟨g, 0, none⟩) xs.length xs.length) xs := by
  obtain ⟨zs, hl, ho, ht⟩ := h
  rw [List.take_of_length_le (by omega), List.take_of_length_le (by omega)] at ht
  rwa [ht] at ho

end Go.Proofs.YtlcglclojlffgaaGreatDoor
namespace Go.Proofs.YtlcglclojlffgaaGreatDoor
open Go.RowKit

theorem marks_of {k : Int} {zs : List Int} (h : ∀ i, i < zs.length → zs[i]? = some (k + i)) : zs = marks k zs.length := by
  apply List.ext_getElem?
  intro i
  by_cases hi : i < zs.length
  · rw [h i hi, marks_at hi]
  · rw [List.getElem?_eq_none (by omega), List.getElem?_eq_none (by rw [marks_len]; omega)]

/-- after j rounds -/
def Marked (w0 w : World) (base : Nat) (v : Value) (n j : Nat) (m : Int) : Prop :=
  ∃ zs : List Int, zs.length = n ∧ OwnI w base v zs ∧ (∀ i, i < j → zs[i]? = some (m + i)) ∧ w0.grownBy w v.ownBlock ∧ w.heap.size = w0.heap.size

theorem Marked.step {w0 w : World} {base g n c j : Nat} {m : Int} (h : Marked w0 w base (.slice (some ⟨g, 0, none⟩) n c) n j m) (hj : j < n) :
    Marked w0 (w.setCell ⟨g, j, none⟩ (.int .i64 (m + j))) base (.slice (some ⟨g, 0, none⟩) n c) n (j + 1) m := by
  obtain ⟨zs, hl, ho, hz, hg, hs⟩ := h
  subst hl
  have hst := World.ownsRow.stored (h := ho) j (.int .i64 (m + j))
  refine ⟨zs.set j (m + j), by simp, ?_, ?_, grownBy_trans hg hst.2, by simpa using hs⟩
  · have h1 := hst.1
    unfold OwnI
    rw [List.map_set, List.length_set]
    exact h1
  · intro i hi
    rw [List.getElem?_set]
    by_cases e : j = i
    · subst e; simp [hj]
    · rw [if_neg e]; exact hz i (by omega)

theorem Marked.fin {w0 w : World} {base : Nat} {v : Value} {n : Nat} {m : Int} (h : Marked w0 w base v n n m) :
    OwnI w base v (marks m n) ∧ w0.grownBy w v.ownBlock := by
  obtain ⟨zs, hl, ho, hz, hg, _⟩ := h
  subst hl
  rw [← marks_of hz]
  exact ⟨ho, hg⟩

theorem Marked.cell {w0 w : World} {base : Nat} {a : Option Addr} {c n j : Nat} {m : Int} (h : Marked w0 w base (.slice a n c) n j m) (hj : j < n) :
    ∃ g z, a = some ⟨g, 0, none⟩ ∧ base ≤ g ∧ w.cell? ⟨g, j, none⟩ = some (.int .i64 z) ∧ w.frozen? ⟨g, j, none⟩ = false := by
  obtain ⟨zs, hl, ho, hz, hg, _⟩ := h
  subst hl
  obtain ⟨g, rfl, hb, _, _⟩ := ho.block (by omega)
  obtain ⟨z, _, h1, h2⟩ := ho.cellAt rfl hj
  exact ⟨g, z, rfl, hb, h1, h2⟩

end Go.Proofs.YtlcglclojlffgaaGreatDoor
namespace Go.Proofs.YtlcglclojlffgaaGreatDoor
open Go.RowKit

theorem eq_of_take {α : Type} {xs ys : List α} {k : Nat} (h : xs.take k = ys.take k) (hl : xs.length = ys.length) (hk : xs.length ≤ k) : xs = ys := by
  rwa [List.take_of_length_le hk, List.take_of_length_le (by omega)] at h

theorem ne_of_at {α : Type} {xs ys : List α} {k : Nat} {x y : α} (hx : xs[k]? = some x) (hy : ys[k]? = some y) (h : x ≠ y) : xs ≠ ys := by
  intro e; subst e; rw [hx] at hy; exact h (Option.some.inj hy)

end Go.Proofs.YtlcglclojlffgaaGreatDoor
namespace Go.Proofs.YtlcglclojlffgaaGreatDoor
open Go.RowKit

/-- a raster of the call's own is handed back -/
def RetRasL (w : World) (x1 x2 : Int) (xs : List Int) (e : Ending) (w' : World) : Prop :=
  ∃ a c, e = .returned (.agg #[.int .i64 x1, .int .i64 x2, .slice a xs.length c]) ∧ OwnI w' w.heap.size (.slice a xs.length c) xs ∧ Below w.heap.size w w'

/-! The calls of a law on rasters, said in facts. -/
/-! Damages by value. -/
end Go.Proofs.YtlcglclojlffgaaGreatDoor
namespace Go.Proofs.YtlcglclojlffgaaGreatDoor
open Go.RowKit

/-- a row of zeros whose first k cells are laid -/
def bvL (v : Int) (N k : Nat) : List Int := List.replicate k v ++ List.replicate (N - k) 0
theorem bvL_zero (v : Int) (N : Nat) : bvL v N 0 = List.replicate N 0 := by simp [bvL]
theorem bvL_all (v : Int) (N : Nat) : bvL v N N = List.replicate N v := by simp [bvL]
theorem bvL_len (v : Int) {N k : Nat} (h : k ≤ N) : (bvL v N k).length = N := by simp [bvL]; omega
theorem bvL_set (v : Int) {N k : Nat} (h : k < N) : (bvL v N k).set k v = bvL v N (k + 1) := by
  obtain ⟨j, hj⟩ : ∃ j, N - k = j + 1 := ⟨N - k - 1, by omega⟩
  rw [bvL, bvL, hj, show N - (k + 1) = j by omega, List.set_append_right _ _ (by simp), List.length_replicate, Nat.sub_self, List.replicate_succ, List.set_cons_zero, List.replicate_succ', List.append_assoc]
  rfl
/-- while a grid of one value is laid -/
def StBv (v : Int) (k : Nat) (W wr : World) (n m N BG : Nat) : Prop := W.heap.size + 1 < BG ∧ OwnI wr (W.heap.size + 1) (.slice (some ⟨W.heap.size + 1, 0, none⟩) N N) (bvL v N k) ∧ wr.heap[BG]? = some (.cells #[.int .i64 (n : Int), .int .i64 (m : Int), .slice (some ⟨W.heap.size + 1, 0, none⟩) N N] 205 (0, 0)) ∧ wr.heap[W.heap.size]? = some (.cells #[.int .i64 0, .int .i64 0, .slice none 0 0] 205 (0, 0)) ∧ Below W.heap.size W wr
set_option maxRecDepth 100000 in
set_option maxHeartbeats 1000000 in
theorem blankV_any (v : Int) (n m N : Nat) (W : World) (hNN : N = n * m) (hN : N ≤ 40000) (_hn : n ≤ 40000) (_hm : m ≤ 40000) :
    Calls Tryz.prog 246 #[.int .i64 (n : Int), .int .i64 (m : Int), .int .i64 v] W (RetRasL W n m (List.replicate N v)) := by
  have hnm : (n : Int) * (m : Int) = (N : Int) := by rw [hNN]; simp
  have hw : IntKind.i64.wrap (N : Int) = N := IntWalk.i64_in _ (by omega)
  have hw6 : wrap64 (N : Int) = N := IntWalk.wrap64_in _ (by omega)
  obtain ⟨i0, hi, hz0, hz1, hz2⟩ := info_parts infoI
  clear hNN
  go_enter Tryz.func246, Tryz.ntmps246
  go_wp2_with (at_make; refine wpList_make_full _ rfl _ _ 67 rfl (W.heap.size + 1) 2 i0 (.int .i64 0) 1 Tryz.underlying67 hi hz0 hz1 _ _ _ _ N rfl rfl rfl rfl ?c1 ?c2 ?c3 ?_)
  case c1 => rw [hz2]; omega
  case c2 => unfold maxLen; omega
  case c3 => simp
  intro w1 hown hg
  have ho := OwnI.of_made hown
  have hbW := (ba1 W (.cells #[.int .i64 0, .int .i64 0, .slice none 0 0] 205 (0, 0))).trans (below_of_grownBy hg (B := W.heap.size) (by simp) (fun k h => by cases h))
  have hR1 : w1.heap[W.heap.size]? = some (.cells #[.int .i64 0, .int .i64 0, .slice none 0 0] 205 (0, 0)) := (hg.block _ (by simp) (by simp)).trans (push_at _ _)
  have hWw : W.heap.size + 1 < w1.heap.size := by
    rcases ho.2 with ⟨h, _⟩ | ⟨g, cap, cur, h, hb, hgg, _⟩
    · cases h
    · simp only [Value.slice.injEq, Option.some.injEq, Addr.mk.injEq, and_true] at h
      obtain ⟨rfl, _⟩ := h
      exact blkLt hgg
  obtain ⟨BG, hBG⟩ : ∃ BG, w1.heap.size = BG := ⟨_, rfl⟩
  have H0 : Hid (StBv v 0 W (w1.alloc (.cells #[.int .i64 (n : Int), .int .i64 (m : Int), .slice (some ⟨W.heap.size + 1, 0, none⟩) N N] 205 (0, 0))) n m N BG) := Lib.hid ⟨by omega, by rw [bvL_zero]; exact ho.grown (ba1 _ _), by rw [← hBG]; exact push_at _ _, push_old hR1, bt0 hbW (ba1 _ _) (by simp)⟩
  clear hown hg ho hbW hR1 hi hz0 hz1 hz2
  go_wp2_with fail
  go_loopw [19] (fun i wr => ∃ k : Nat, k ≤ N ∧ i = .int .i64 k ∧ StBv v k W wr n m N BG) (fun i _ => N - (intOf i).toNat)
  case atStart => exact ⟨0, Nat.zero_le _, rfl, H0.out⟩
  case round =>
    clear H0
    obtain ⟨k, hk, rfl, hBB, ho, hg, hr, hb⟩ := hrel
    have hc := (heap_cellR hg).1
    have hwg := blkLt hg
    by_cases hlt : k < N
    · obtain ⟨z, hz, hcz, hfz⟩ := ho.cellAt (by rw [bvL_len v hk]) (k := k) (by rw [bvL_len v hk]; exact hlt)
      have hkN : (k : Int) < (N : Int) := by omega
      have HS := Lib.hid (ho.stored (by rw [bvL_len v hk]) k v)
      have HG := Lib.hid hg
      have HR := Lib.hid hr
      have HB := Lib.hid hb
      clear ho hg hr hb hz
      go_wp2_with fail
      obtain ⟨h1, h2⟩ := HS.out
      rw [bvL_set v hlt] at h1
      exact ⟨⟨k + 1, by omega, by go_num, hBB, h1, (h2.block _ hwg (fun e => by have := Option.some.inj e; omega)).trans HG.out, (h2.block _ (blkLt HR.out) (fun e => by have := Option.some.inj e; omega)).trans HR.out, HB.out.trans (below_of_grownBy h2 HB.out.size (fun k e => by have := Option.some.inj e; omega))⟩, by simp [intOf]; omega⟩
    · rw [show k = N by omega, bvL_all] at ho
      obtain ⟨hcr, hfr⟩ := heap_cellR hr
      have hwr := blkLt hr
      have HO := Lib.hid ho
      have HB := Lib.hid hb
      clear ho hg hr hb
      go_wp2_with fail
      refine bodyPost_ret (v := .agg #[.int .i64 (n : Int), .int .i64 (m : Int), .slice (some ⟨W.heap.size + 1, 0, none⟩) N N]) (by simp [results, Tryz.results246, go_sem, hcr]) rfl ⟨some ⟨W.heap.size + 1, 0, none⟩, N, by rw [List.length_replicate], ?_, ?_⟩
      · rw [List.length_replicate]
        refine OwnI.weak (base := W.heap.size + 1) ?_ (by omega)
        iterate 3 (refine OwnI.setOld ?_ (by dsimp only; omega) _)
        exact HO.out
      · iterate 3 (refine Below.setCell ?_ (by dsimp only; omega) _)
        exact HB.out

set_option maxHeartbeats 1000000 in
theorem patterns_any (w : World) :
    Calls Tryz.prog 247 #[] w fun e w' => e = .returned (.slice (some ⟨w.heap.size, 0, none⟩) 4 4) ∧ w' = w.alloc (.cells #[.func (.func 249) #[] #[], .func (.func 252) #[] #[], .func (.func 254) #[] #[], .func (.func 255) #[] #[], .func (.func 256) #[] #[], .func (.func 257) #[] #[], .func (.func 258) #[] #[], .func (.func 259) #[] #[]] 320 (0, 0)) := by
  go_enter Tryz.func247, Tryz.ntmps247
  go_wp2_with fail
  go_ret
  exact ⟨rfl, rfl⟩
set_option maxHeartbeats 1000000 in
theorem gridSet_any (n r c m : Nat) (N cp : Nat) (g : Nat) (zs : List Int) (x : Int) (base : Nat) (w : World) (hN : zs.length = N) (hi : r * m + c < N) (hl : N ≤ 40000) (ho : OwnI w base (.slice (some ⟨g, 0, none⟩) N cp) zs) :
    Calls Tryz.prog 248 #[.agg #[.int .i64 n, .int .i64 m, .slice (some ⟨g, 0, none⟩) N cp], .agg #[.int .i64 r, .int .i64 c], .int .i64 x] w fun e w' => e = .returned (.tuple #[]) ∧ OwnI w' base (.slice (some ⟨g, 0, none⟩) N cp) (zs.set (r * m + c) x) ∧ w.grownBy w' (some g) := by
  have hg := ho.hi g rfl
  obtain ⟨z, hz, hcz, hfz⟩ := ho.cellAt hN.symm (k := r * m + c) (by omega)
  obtain ⟨i, hi'⟩ : ∃ i, i = r * m + c := ⟨_, rfl⟩
  have hrm : (r : Int) * (m : Int) + (c : Int) = (i : Int) := by rw [hi']; push_cast; rfl
  obtain ⟨p, hp⟩ : ∃ p, p = r * m := ⟨_, rfl⟩
  have hrm2 : (r : Int) * (m : Int) = (p : Int) := by rw [hp]; push_cast; rfl
  have hpc : (p : Int) + (c : Int) = (i : Int) := by rw [hi', hp]; push_cast; rfl
  have hpb : p ≤ 40000 := by omega
  rw [← hi'] at hi hcz hfz ⊢
  have HO := Lib.hid ho
  clear ho hz hi' hp hrm
  go_enter Tryz.func248, Tryz.ntmps248
  go_wp2_with fail
  have h1 := HO.out.stored hN.symm i x
  exact bodyPost_end (results_none rfl _ _ _) rfl ⟨rfl, h1.1.grown (ba2 _ _ _), grownBy_trans h1.2 (grownBy_trans (World.grownBy_alloc _ _ _) (World.grownBy_alloc _ _ _))⟩

/-- the program's fixed cells, the first k laid -/
def fxL (n : Nat) (k : Nat) : List Int := (List.range k).map (fun i => fixI n ((i / n : Nat) : Int) ((i % n : Nat) : Int)) ++ List.replicate (n * n - k) (-1)
theorem fxL_zero (n : Nat) : fxL n 0 = List.replicate (n * n) (-1) := by simp [fxL]
theorem fxL_len {n k : Nat} (h : k ≤ n * n) : (fxL n k).length = n * n := by simp [fxL]; omega
theorem fxL_set {n k : Nat} (h : k < n * n) : (fxL n k).set k (fixI n ((k / n : Nat) : Int) ((k % n : Nat) : Int)) = fxL n (k + 1) := by
  obtain ⟨j, hj⟩ : ∃ j, n * n - k = j + 1 := ⟨n * n - k - 1, by omega⟩
  rw [fxL, fxL, hj, show n * n - (k + 1) = j by omega, List.set_append_right _ _ (by simp), List.length_map, List.length_range, Nat.sub_self, List.replicate_succ, List.set_cons_zero, List.range_succ, List.map_append, List.append_assoc]
  rfl
theorem fxL_same {n k : Nat} (h : k < n * n) (hf : fixI n ((k / n : Nat) : Int) ((k % n : Nat) : Int) = -1) : fxL n k = fxL n (k + 1) := by
  obtain ⟨j, hj⟩ : ∃ j, n * n - k = j + 1 := ⟨n * n - k - 1, by omega⟩
  rw [fxL, fxL, hj, show n * n - (k + 1) = j by omega, List.range_succ, List.map_append, List.map_singleton, hf, List.replicate_succ, List.append_assoc]
  rfl

end Go.Proofs.YtlcglclojlffgaaGreatDoor
namespace Go.Proofs.YtlcglclojlffgaaGreatDoor
open Go.RowKit

theorem fixI_case (n r c : Int) : (inF n r c = true ∧ fixI n r c = findI (r - midI n r) (c - midI n c)) ∨ (inF n r c = false ∧ decide (r = 6 ∧ 8 ≤ c ∧ c ≤ n - 9) = true ∧ fixI n r c = 1 - c % 2) ∨
    (inF n r c = false ∧ decide (r = 6 ∧ 8 ≤ c ∧ c ≤ n - 9) = false ∧ decide (c = 6 ∧ 8 ≤ r ∧ r ≤ n - 9) = true ∧ fixI n r c = 1 - r % 2) ∨
    (inF n r c = false ∧ decide (r = 6 ∧ 8 ≤ c ∧ c ≤ n - 9) = false ∧ decide (c = 6 ∧ 8 ≤ r ∧ r ≤ n - 9) = false ∧ decide (r = n - 8 ∧ c = 8) = true ∧ fixI n r c = 1) ∨
    (inF n r c = false ∧ decide (r = 6 ∧ 8 ≤ c ∧ c ≤ n - 9) = false ∧ decide (c = 6 ∧ 8 ≤ r ∧ r ≤ n - 9) = false ∧ decide (r = n - 8 ∧ c = 8) = false ∧ fixI n r c = -1) := by
  unfold fixI
  cases inF n r c
  · by_cases h1 : r = 6 ∧ 8 ≤ c ∧ c ≤ n - 9
    · right; left; exact ⟨rfl, decide_eq_true h1, by rw [if_neg (by decide), if_pos h1]⟩
    · by_cases h2 : c = 6 ∧ 8 ≤ r ∧ r ≤ n - 9
      · right; right; left; exact ⟨rfl, decide_eq_false h1, decide_eq_true h2, by rw [if_neg (by decide), if_neg h1, if_pos h2]⟩
      · by_cases h3 : r = n - 8 ∧ c = 8
        · right; right; right; left; exact ⟨rfl, decide_eq_false h1, decide_eq_false h2, decide_eq_true h3, by rw [if_neg (by decide), if_neg h1, if_neg h2, if_pos h3]⟩
        · right; right; right; right; exact ⟨rfl, decide_eq_false h1, decide_eq_false h2, decide_eq_false h3, by rw [if_neg (by decide), if_neg h1, if_neg h2, if_neg h3]⟩
  · left; exact ⟨rfl, by rw [if_pos rfl]⟩
/-- while the fixed cells are laid: result variable, grid, its variable, the kinds -/
structure StF (w wr : World) (n N cp g0 BG BP k : Nat) : Prop where
  g : w.heap.size < g0
  gb : g0 < BG
  bp : BG < BP
  own : OwnI wr (w.heap.size + 1) (.slice (some ⟨g0, 0, none⟩) N cp) (fxL n k)
  bg : wr.heap[BG]? = some (.cells #[.int .i64 n, .int .i64 n, .slice (some ⟨g0, 0, none⟩) N cp] 205 (0, 0))
  pat : wr.heap[BP]? = some (.cells #[.func (.func 249) #[] #[], .func (.func 252) #[] #[], .func (.func 254) #[] #[], .func (.func 255) #[] #[], .func (.func 256) #[] #[], .func (.func 257) #[] #[], .func (.func 258) #[] #[], .func (.func 259) #[] #[]] 320 (0, 0))
  res : wr.heap[w.heap.size]? = some (.cells #[.int .i64 0, .int .i64 0, .slice none 0 0] 205 (0, 0))
  below : Below w.heap.size w wr
theorem StF.grown {w wr w2 : World} {n N cp g0 BG BP k : Nat} (h : StF w wr n N cp g0 BG BP k) (hb : Below wr.heap.size wr w2) : StF w w2 n N cp g0 BG BP k :=
  ⟨h.g, h.gb, h.bp, h.own.grown hb, blkK hb h.bg, blkK hb h.pat, blkK hb h.res, bt0 h.below hb (Nat.le_refl _)⟩
theorem StF.set {w wr w2 : World} {n N cp g0 BG BP k k' : Nat} (h : StF w wr n N cp g0 BG BP k) (hg : wr.grownBy w2 (some g0)) (ho : OwnI w2 (w.heap.size + 1) (.slice (some ⟨g0, 0, none⟩) N cp) (fxL n k')) : StF w w2 n N cp g0 BG BP k' := by
  have h1 := h.g
  have h2 := h.gb
  have h3 := h.bp
  refine ⟨h.g, h.gb, h.bp, ho, (hg.block _ (blkLt h.bg) (fun e => by have := Option.some.inj e; omega)).trans h.bg, (hg.block _ (blkLt h.pat) (fun e => by have := Option.some.inj e; omega)).trans h.pat, (hg.block _ (blkLt h.res) (fun e => by have := Option.some.inj e; omega)).trans h.res, h.below.trans (below_of_grownBy hg h.below.size (fun k e => by have := Option.some.inj e; omega))⟩
theorem StF.same {w wr : World} {n N cp g0 BG BP k k' : Nat} (h : StF w wr n N cp g0 BG BP k) (e : fxL n k = fxL n k') : StF w wr n N cp g0 BG BP k' :=
  ⟨h.g, h.gb, h.bp, e ▸ h.own, h.bg, h.pat, h.res, h.below⟩
set_option maxRecDepth 100000 in
set_option maxHeartbeats 8000000 in
theorem fixed_any (n : Nat) (w : World) (hn : 17 ≤ n) (hn2 : n ≤ 41) :
    Calls Tryz.prog 237 #[.int .i64 n] w (RetRasL w n n (fxL n (n * n))) := by
  have hN := Nat.mul_le_mul hn2 hn2
  obtain ⟨N, hNe⟩ : ∃ N, N = n * n := ⟨_, rfl⟩
  have hN1 : 1 ≤ N := by have := Nat.mul_le_mul hn hn; omega
  rw [← hNe] at hN
  have HN := Lib.hid hNe
  clear hNe
  go_enter Tryz.func237, Tryz.ntmps237
  go_wp2_with fail
  refine (blankV_any (-1) n n N _ HN.out (by omega) (by omega) (by omega)).mono ?_
  rintro e w1 ⟨a1, cp, rfl, ho1, hb1⟩
  obtain ⟨g0, rfl, hg1, -, hg2⟩ := ho1.block (by rw [List.length_replicate]; exact hN1)
  rw [List.length_replicate] at ho1 ⊢
  have HO1 := Lib.hid (ho1.weak (show w.heap.size + 1 ≤ _ by simp))
  have HB1 := Lib.hid (bt1 hb1)
  have HRes := Lib.hid (blkK hb1 (push_at w (.cells #[.int .i64 0, .int .i64 0, .slice none 0 0] 205 (0, 0))))
  have hgw : w.heap.size < g0 := by simp at hg1; omega
  clear ho1 hb1 hg1
  go_wp2_with fail
  refine (patterns_any _).mono ?_
  rintro e w2 ⟨rfl, hw2⟩
  have HS0 := Lib.hid (show StF w w2 n N cp g0 w1.heap.size (w1.heap.size + 1) 0 by
    subst hw2
    have h2 := heap2 w1 (.cells #[.int .i64 n, .int .i64 n, .slice (some ⟨g0, 0, none⟩) N cp] 205 (0, 0)) (.cells #[.func (.func 249) #[] #[], .func (.func 252) #[] #[], .func (.func 254) #[] #[], .func (.func 255) #[] #[], .func (.func 256) #[] #[], .func (.func 257) #[] #[], .func (.func 258) #[] #[], .func (.func 259) #[] #[]] 320 (0, 0))
    refine ⟨hgw, hg2, by omega, ?_, h2.1, ?_, ?_, ?_⟩
    · rw [fxL_zero, ← HN.out]; exact HO1.out.grown (ba2 _ _ _)
    · exact h2.2
    · exact blkK (ba2 _ _ _) HRes.out
    · exact bt0 HB1.out (ba2 _ _ _) (Nat.le_refl _))
  clear hw2
  go_wp2_with fail
  obtain ⟨BG, hBG⟩ : ∃ BG, BG = w1.heap.size := ⟨_, rfl⟩
  rw [← hBG] at HS0 ⊢
  clear hBG HO1 HB1 HRes hgw hg2
  have hni : (17 : Int) ≤ (n : Int) ∧ (n : Int) ≤ 41 := by omega
  go_loopw [5, 6, 7, 9] (fun r _ _ _ wr => ∃ r' : Nat, r' ≤ n ∧ r = .int .i64 r' ∧ StF w wr n N cp g0 BG (BG + 1) (r' * n)) (fun r _ _ _ _ => n - (intOf r).toNat)
  case atStart => exact ⟨0, Nat.zero_le _, rfl, by rw [Nat.zero_mul]; exact HS0.out⟩
  case round =>
    obtain ⟨r', hr, rfl, hst⟩ := hrel
    have HST := Lib.hid hst
    have hbg := (heap_cellR hst.bg).1
    have hlb := blkLt hst.bg
    clear hst
    obtain ⟨wo, rfl⟩ : ∃ wo : World, wo = wr := ⟨_, rfl⟩
    by_cases hrl : r' < n
    · have hrn : (r' : Int) < (n : Int) := by omega
      go_wp2_with fail
      go_loopw [6, 7, 9] (fun c _ _ wr => ∃ c' : Nat, c' ≤ n ∧ c = .int .i64 c' ∧ StF w wr n N cp g0 BG (BG + 1) (r' * n + c')) (fun c _ _ _ => n - (intOf c).toNat)
      case atStart => exact ⟨0, Nat.zero_le _, rfl, HST.out⟩
      case round =>
        obtain ⟨c', hc, rfl, hst⟩ := hrel
        have HST2 := Lib.hid hst
        have hbg2 := (heap_cellR hst.bg).1
        have hlb2 := blkLt hst.bg
        clear hst hbg hlb
        by_cases hcl : c' < n
        · have hcn : (c' : Int) < (n : Int) := by omega
          have HK : Hid (r' * n + c' < N) := Lib.hid (by
            rw [HN.out]
            have h1 : (r' + 1) * n ≤ n * n := Nat.mul_le_mul_right _ hrl
            rw [Nat.add_mul, Nat.one_mul] at h1
            omega)
          have HDM : Hid ((r' * n + c') / n = r' ∧ (r' * n + c') % n = c') := Lib.hid ⟨by rw [Nat.mul_comm, Nat.mul_add_div (by omega), Nat.div_eq_of_lt hcl, Nat.add_zero], by rw [Nat.mul_comm, Nat.mul_add_mod, Nat.mod_eq_of_lt hcl]⟩
          have HCase := Lib.hid (fixI_case (n : Int) (r' : Int) (c' : Int))
          have HRC : Hid ((0 : Int) ≤ (r' : Int) ∧ (r' : Int) ≤ 41 ∧ (0 : Int) ≤ (c' : Int) ∧ (c' : Int) ≤ 41) := Lib.hid (by omega)
          obtain ⟨PB, hPB⟩ : ∃ PB, PB = wr.heap.size := ⟨_, rfl⟩
          obtain ⟨W', hW'⟩ : ∃ W', W' = wr.alloc (.cells #[.int .i64 r', .int .i64 c'] 299 (0, 0)) := ⟨_, rfl⟩
          have HST3 := Lib.hid (show StF w W' n N cp g0 BG (BG + 1) (r' * n + c') by rw [hW']; exact HST2.out.grown (ba1 _ _))
          have HPB := Lib.hid (show W'.heap[PB]? = some (.cells #[.int .i64 r', .int .i64 c'] 299 (0, 0)) by rw [hW', hPB]; exact push_at _ _)
          have HPW := Lib.hid hPB
          have HWW := Lib.hid hW'
          clear hPB hW'
          go_wp2_with fail
          rw [← HPW.out, ← HWW.out]
          clear HPW HWW hbg2 hlb2 HST2
          go_loopw [9, 29] (fun _ i wr => ∃ i' : Int, 0 ≤ i' ∧ i' ≤ 4 ∧ i = .int .i64 i' ∧ (0 < i' → inF (n : Int) (r' : Int) (c' : Int) = false) ∧ (1 < i' → decide ((r' : Int) = 6 ∧ 8 ≤ (c' : Int) ∧ (c' : Int) ≤ (n : Int) - 9) = false) ∧ (2 < i' → decide ((c' : Int) = 6 ∧ 8 ≤ (r' : Int) ∧ (r' : Int) ≤ (n : Int) - 9) = false) ∧ (3 < i' → decide ((r' : Int) = (n : Int) - 8 ∧ (c' : Int) = 8) = false) ∧ Below W'.heap.size W' wr) (fun _ i _ => (4 - intOf i).toNat)
          case atStart => exact ⟨0, by omega, by omega, rfl, fun h => by omega, fun h => by omega, fun h => by omega, fun h => by omega, Below.refl _ _⟩
          case round =>
            obtain ⟨i', hi0, hi4, rfl, h0, h1, h2, h3, hb⟩ := hrel
            have H0 := Lib.hid h0
            have H1 := Lib.hid h1
            have H2 := Lib.hid h2
            have H3 := Lib.hid h3
            have HB := Lib.hid hb
            have HST4 := Lib.hid (HST3.out.grown hb)
            have hpb := (heap_cellR (blkK hb HPB.out)).1
            have hlpb := blkLt (blkK hb HPB.out)
            have hpat := (heap_cellR HST4.out.pat).1
            have hlpat := blkLt HST4.out.pat
            have hbg := (heap_cellR HST4.out.bg).1
            have hlbg := blkLt HST4.out.bg
            clear h0 h1 h2 h3 hb
            rcases (show i' = 0 ∨ i' = 1 ∨ i' = 2 ∨ i' = 3 ∨ i' = 4 by omega) with rfl | rfl | rfl | rfl | rfl
            · rcases Bool.eq_false_or_eq_true (inF (n : Int) (r' : Int) (c' : Int)) with he | he
              · have HF : Hid (fixI (n : Int) (r' : Int) (c' : Int) = findI ((r' : Int) - midI n r') ((c' : Int) - midI n c')) := Lib.hid (by
                  rcases HCase.out with ⟨-, e⟩ | ⟨e, -⟩ | ⟨e, -⟩ | ⟨e, -⟩ | ⟨e, -⟩
                  · exact e
                  all_goals (rw [he] at e; cases e))
                go_wp2_with fail
                refine (pat1_any (n : Int) (r' : Int) (c' : Int) _ hni.1 hni.2 (by omega) (by omega) (by omega) (by omega)).mono ?_
                rw [he]
                rintro e w5 ⟨rfl, hb5⟩
                have HST5 := Lib.hid (HST4.out.grown (bt1 hb5))
                have HPB5 := Lib.hid (blkK (bt1 hb5) (blkK HB.out HPB.out))
                obtain ⟨KB, hKB⟩ : ∃ KB, KB = wr.heap.size := ⟨_, rfl⟩
                have HKB5 := Lib.hid (show w5.heap[KB]? = some (.cells #[.func (.func 249) #[] #[], .func (.func 252) #[] #[]] 320 (0, 0)) by rw [hKB]; exact blkK hb5 (push_at _ _))
                rw [← hKB]
                clear hb5 hKB hpb hlpb hpat hlpat hbg hlbg
                have hbg := (heap_cellR HST5.out.bg).1
                have hlbg := blkLt HST5.out.bg
                have hpb := (heap_cellR HPB5.out).1
                have hlpb := blkLt HPB5.out
                have hkb := (heap_cellR HKB5.out).1
                have hlkb := blkLt HKB5.out
                go_wp2_with fail
                refine wp_region_ext_tail 7 (by kernel_rfl) (by kernel_rfl) ?_
                simp only [List.take_succ_cons, List.take_zero, List.drop_succ_cons, List.drop_zero]
                repeat (go_big_quiet_step ((go_at_call 252; go_must (refine calls_ext _ (pat2_any (n : Int) (r' : Int) (c' : Int) _ hni.1 hni.2 HRC.out.1 HRC.out.2.1 HRC.out.2.2.1 HRC.out.2.2.2)))))
                refine wpQuiet_nil ?_
                rintro _ ⟨s, rfl⟩
                have HST6 := Lib.hid (HST5.out.grown s.below)
                clear hbg hlbg hpb hlpb hkb hlkb
                go_wp2_with fail
                refine (gridSet_any n r' c' n N cp g0 (fxL n (r' * n + c')) (findI ((r' : Int) - midI n r') ((c' : Int) - midI n c')) (w.heap.size + 1) _ (by rw [HN.out]; exact fxL_len (by rw [← HN.out]; exact Nat.le_of_lt HK.out)) HK.out (by omega) HST6.out.own).mono ?_
                rintro e w6 ⟨rfl, ho6, hg6⟩
                have HST7 := Lib.hid (show StF w w6 n N cp g0 BG (BG + 1) (r' * n + (c' + 1)) from HST6.out.set hg6 (by
                  have h := fxL_set (n := n) (k := r' * n + c') (by rw [← HN.out]; exact HK.out)
                  rw [HDM.out.1, HDM.out.2, HF.out] at h
                  rw [← Nat.add_assoc, ← h]
                  exact ho6))
                clear ho6 hg6
                go_wp2_with fail
                exact ⟨⟨c' + 1, by omega, by go_num, HST7.out⟩, by simp [intOf]; omega⟩
              · go_wp2_with fail
                refine (pat1_any (n : Int) (r' : Int) (c' : Int) _ hni.1 hni.2 (by omega) (by omega) (by omega) (by omega)).mono ?_
                rw [he]
                rintro e w5 ⟨rfl, hb5⟩
                have HB5 := Lib.hid (bt0 HB.out (bt1 hb5) (Nat.le_refl _))
                clear hb5
                go_wp2_with fail
                exact ⟨⟨1, by omega, by omega, rfl, fun _ => he, fun h => by omega, fun h => by omega, fun h => by omega, HB5.out⟩, by simp [intOf]⟩
            · rcases Bool.eq_false_or_eq_true (decide ((r' : Int) = 6 ∧ 8 ≤ (c' : Int) ∧ (c' : Int) ≤ (n : Int) - 9)) with he | he
              · have HF : Hid (fixI (n : Int) (r' : Int) (c' : Int) = 1 - (c' : Int) % 2) := Lib.hid (by
                  have f0 := H0.out (by omega)
                  rcases HCase.out with ⟨e, -⟩ | ⟨-, -, e⟩ | ⟨-, e, -⟩ | ⟨-, e, -⟩ | ⟨-, e, -⟩
                  · rw [f0] at e; cases e
                  · exact e
                  all_goals (rw [he] at e; cases e))
                go_wp2_with fail
                refine (pat3_any (n : Int) (r' : Int) (c' : Int) _ hni.1 hni.2).mono ?_
                rw [he]
                rintro e w5 ⟨rfl, hb5⟩
                have HST5 := Lib.hid (HST4.out.grown (bt1 hb5))
                have HPB5 := Lib.hid (blkK (bt1 hb5) (blkK HB.out HPB.out))
                obtain ⟨KB, hKB⟩ : ∃ KB, KB = wr.heap.size := ⟨_, rfl⟩
                have HKB5 := Lib.hid (show w5.heap[KB]? = some (.cells #[.func (.func 254) #[] #[], .func (.func 255) #[] #[]] 320 (0, 0)) by rw [hKB]; exact blkK hb5 (push_at _ _))
                rw [← hKB]
                clear hb5 hKB hpb hlpb hpat hlpat hbg hlbg
                have hbg := (heap_cellR HST5.out.bg).1
                have hlbg := blkLt HST5.out.bg
                have hpb := (heap_cellR HPB5.out).1
                have hlpb := blkLt HPB5.out
                have hkb := (heap_cellR HKB5.out).1
                have hlkb := blkLt HKB5.out
                go_wp2_with fail
                refine wp_region_ext_tail 7 (by kernel_rfl) (by kernel_rfl) ?_
                simp only [List.take_succ_cons, List.take_zero, List.drop_succ_cons, List.drop_zero]
                repeat (go_big_quiet_step ((go_at_call 255; go_must (refine calls_ext _ (pat4_any (n : Int) (r' : Int) (c' : Int) _ HRC.out.2.2.1 HRC.out.2.2.2)))))
                refine wpQuiet_nil ?_
                rintro _ ⟨s, rfl⟩
                have HST6 := Lib.hid (HST5.out.grown s.below)
                clear hbg hlbg hpb hlpb hkb hlkb
                go_wp2_with fail
                refine (gridSet_any n r' c' n N cp g0 (fxL n (r' * n + c')) (1 - (c' : Int) % 2) (w.heap.size + 1) _ (by rw [HN.out]; exact fxL_len (by rw [← HN.out]; exact Nat.le_of_lt HK.out)) HK.out (by omega) HST6.out.own).mono ?_
                rintro e w6 ⟨rfl, ho6, hg6⟩
                have HST7 := Lib.hid (show StF w w6 n N cp g0 BG (BG + 1) (r' * n + (c' + 1)) from HST6.out.set hg6 (by
                  have h := fxL_set (n := n) (k := r' * n + c') (by rw [← HN.out]; exact HK.out)
                  rw [HDM.out.1, HDM.out.2, HF.out] at h
                  rw [← Nat.add_assoc, ← h]
                  exact ho6))
                clear ho6 hg6
                go_wp2_with fail
                exact ⟨⟨c' + 1, by omega, by go_num, HST7.out⟩, by simp [intOf]; omega⟩
              · go_wp2_with fail
                refine (pat3_any (n : Int) (r' : Int) (c' : Int) _ hni.1 hni.2).mono ?_
                rw [he]
                rintro e w5 ⟨rfl, hb5⟩
                have HB5 := Lib.hid (bt0 HB.out (bt1 hb5) (Nat.le_refl _))
                clear hb5
                go_wp2_with fail
                exact ⟨⟨2, by omega, by omega, rfl, fun _ => H0.out (by omega), fun _ => he, fun h => by omega, fun h => by omega, HB5.out⟩, by simp [intOf]⟩
            · rcases Bool.eq_false_or_eq_true (decide ((c' : Int) = 6 ∧ 8 ≤ (r' : Int) ∧ (r' : Int) ≤ (n : Int) - 9)) with he | he
              · have HF : Hid (fixI (n : Int) (r' : Int) (c' : Int) = 1 - (r' : Int) % 2) := Lib.hid (by
                  have f0 := H0.out (by omega)
                  have f1 := H1.out (by omega)
                  rcases HCase.out with ⟨e, -⟩ | ⟨-, e, -⟩ | ⟨-, -, -, e⟩ | ⟨-, -, e, -⟩ | ⟨-, -, e, -⟩
                  · rw [f0] at e; cases e
                  · rw [f1] at e; cases e
                  · exact e
                  all_goals (rw [he] at e; cases e))
                go_wp2_with fail
                refine (pat5_any (n : Int) (r' : Int) (c' : Int) _ hni.1 hni.2).mono ?_
                rw [he]
                rintro e w5 ⟨rfl, hb5⟩
                have HST5 := Lib.hid (HST4.out.grown (bt1 hb5))
                have HPB5 := Lib.hid (blkK (bt1 hb5) (blkK HB.out HPB.out))
                obtain ⟨KB, hKB⟩ : ∃ KB, KB = wr.heap.size := ⟨_, rfl⟩
                have HKB5 := Lib.hid (show w5.heap[KB]? = some (.cells #[.func (.func 256) #[] #[], .func (.func 257) #[] #[]] 320 (0, 0)) by rw [hKB]; exact blkK hb5 (push_at _ _))
                rw [← hKB]
                clear hb5 hKB hpb hlpb hpat hlpat hbg hlbg
                have hbg := (heap_cellR HST5.out.bg).1
                have hlbg := blkLt HST5.out.bg
                have hpb := (heap_cellR HPB5.out).1
                have hlpb := blkLt HPB5.out
                have hkb := (heap_cellR HKB5.out).1
                have hlkb := blkLt HKB5.out
                go_wp2_with fail
                refine wp_region_ext_tail 7 (by kernel_rfl) (by kernel_rfl) ?_
                simp only [List.take_succ_cons, List.take_zero, List.drop_succ_cons, List.drop_zero]
                repeat (go_big_quiet_step ((go_at_call 257; go_must (refine calls_ext _ (pat6_any (n : Int) (r' : Int) (c' : Int) _ HRC.out.1 HRC.out.2.1)))))
                refine wpQuiet_nil ?_
                rintro _ ⟨s, rfl⟩
                have HST6 := Lib.hid (HST5.out.grown s.below)
                clear hbg hlbg hpb hlpb hkb hlkb
                go_wp2_with fail
                refine (gridSet_any n r' c' n N cp g0 (fxL n (r' * n + c')) (1 - (r' : Int) % 2) (w.heap.size + 1) _ (by rw [HN.out]; exact fxL_len (by rw [← HN.out]; exact Nat.le_of_lt HK.out)) HK.out (by omega) HST6.out.own).mono ?_
                rintro e w6 ⟨rfl, ho6, hg6⟩
                have HST7 := Lib.hid (show StF w w6 n N cp g0 BG (BG + 1) (r' * n + (c' + 1)) from HST6.out.set hg6 (by
                  have h := fxL_set (n := n) (k := r' * n + c') (by rw [← HN.out]; exact HK.out)
                  rw [HDM.out.1, HDM.out.2, HF.out] at h
                  rw [← Nat.add_assoc, ← h]
                  exact ho6))
                clear ho6 hg6
                go_wp2_with fail
                exact ⟨⟨c' + 1, by omega, by go_num, HST7.out⟩, by simp [intOf]; omega⟩
              · go_wp2_with fail
                refine (pat5_any (n : Int) (r' : Int) (c' : Int) _ hni.1 hni.2).mono ?_
                rw [he]
                rintro e w5 ⟨rfl, hb5⟩
                have HB5 := Lib.hid (bt0 HB.out (bt1 hb5) (Nat.le_refl _))
                clear hb5
                go_wp2_with fail
                exact ⟨⟨3, by omega, by omega, rfl, fun _ => H0.out (by omega), fun _ => H1.out (by omega), fun _ => he, fun h => by omega, HB5.out⟩, by simp [intOf]⟩
            · rcases Bool.eq_false_or_eq_true (decide ((r' : Int) = (n : Int) - 8 ∧ (c' : Int) = 8)) with he | he
              · have HF : Hid (fixI (n : Int) (r' : Int) (c' : Int) = 1) := Lib.hid (by
                  have f0 := H0.out (by omega)
                  have f1 := H1.out (by omega)
                  have f2 := H2.out (by omega)
                  rcases HCase.out with ⟨e, -⟩ | ⟨-, e, -⟩ | ⟨-, -, e, -⟩ | ⟨-, -, -, -, e⟩ | ⟨-, -, -, e, -⟩
                  · rw [f0] at e; cases e
                  · rw [f1] at e; cases e
                  · rw [f2] at e; cases e
                  · exact e
                  · rw [he] at e; cases e)
                go_wp2_with fail
                refine (pat7_any (n : Int) (r' : Int) (c' : Int) _ hni.1 hni.2).mono ?_
                rw [he]
                rintro e w5 ⟨rfl, hb5⟩
                have HST5 := Lib.hid (HST4.out.grown (bt1 hb5))
                have HPB5 := Lib.hid (blkK (bt1 hb5) (blkK HB.out HPB.out))
                obtain ⟨KB, hKB⟩ : ∃ KB, KB = wr.heap.size := ⟨_, rfl⟩
                have HKB5 := Lib.hid (show w5.heap[KB]? = some (.cells #[.func (.func 258) #[] #[], .func (.func 259) #[] #[]] 320 (0, 0)) by rw [hKB]; exact blkK hb5 (push_at _ _))
                rw [← hKB]
                clear hb5 hKB hpb hlpb hpat hlpat hbg hlbg
                have hbg := (heap_cellR HST5.out.bg).1
                have hlbg := blkLt HST5.out.bg
                have hpb := (heap_cellR HPB5.out).1
                have hlpb := blkLt HPB5.out
                have hkb := (heap_cellR HKB5.out).1
                have hlkb := blkLt HKB5.out
                go_wp2_with fail
                refine wp_region_ext_tail 7 (by kernel_rfl) (by kernel_rfl) ?_
                simp only [List.take_succ_cons, List.take_zero, List.drop_succ_cons, List.drop_zero]
                repeat (go_big_quiet_step ((go_at_call 259; go_must (refine calls_ext _ (pat8_any (n : Int) (r' : Int) (c' : Int) _)))))
                refine wpQuiet_nil ?_
                rintro _ ⟨s, rfl⟩
                have HST6 := Lib.hid (HST5.out.grown s.below)
                clear hbg hlbg hpb hlpb hkb hlkb
                go_wp2_with fail
                refine (gridSet_any n r' c' n N cp g0 (fxL n (r' * n + c')) (1) (w.heap.size + 1) _ (by rw [HN.out]; exact fxL_len (by rw [← HN.out]; exact Nat.le_of_lt HK.out)) HK.out (by omega) HST6.out.own).mono ?_
                rintro e w6 ⟨rfl, ho6, hg6⟩
                have HST7 := Lib.hid (show StF w w6 n N cp g0 BG (BG + 1) (r' * n + (c' + 1)) from HST6.out.set hg6 (by
                  have h := fxL_set (n := n) (k := r' * n + c') (by rw [← HN.out]; exact HK.out)
                  rw [HDM.out.1, HDM.out.2, HF.out] at h
                  rw [← Nat.add_assoc, ← h]
                  exact ho6))
                clear ho6 hg6
                go_wp2_with fail
                exact ⟨⟨c' + 1, by omega, by go_num, HST7.out⟩, by simp [intOf]; omega⟩
              · go_wp2_with fail
                refine (pat7_any (n : Int) (r' : Int) (c' : Int) _ hni.1 hni.2).mono ?_
                rw [he]
                rintro e w5 ⟨rfl, hb5⟩
                have HB5 := Lib.hid (bt0 HB.out (bt1 hb5) (Nat.le_refl _))
                clear hb5
                go_wp2_with fail
                exact ⟨⟨4, by omega, by omega, rfl, fun _ => H0.out (by omega), fun _ => H1.out (by omega), fun _ => H2.out (by omega), fun _ => he, HB5.out⟩, by simp [intOf]⟩
            · have HF : Hid (fixI (n : Int) (r' : Int) (c' : Int) = -1) := Lib.hid (by
                have f0 := H0.out (by omega)
                have f1 := H1.out (by omega)
                have f2 := H2.out (by omega)
                have f3 := H3.out (by omega)
                rcases HCase.out with ⟨e, -⟩ | ⟨-, e, -⟩ | ⟨-, -, e, -⟩ | ⟨-, -, -, e, -⟩ | ⟨-, -, -, -, e⟩
                · rw [f0] at e; cases e
                · rw [f1] at e; cases e
                · rw [f2] at e; cases e
                · rw [f3] at e; cases e
                · exact e)
              have HST5 := Lib.hid (HST4.out.same (fxL_same (k := r' * n + c') (by rw [← HN.out]; exact HK.out) (by rw [HDM.out.1, HDM.out.2]; exact HF.out)))
              go_wp2_with fail
              exact ⟨⟨c' + 1, by omega, by go_num, HST5.out⟩, by simp [intOf]; omega⟩
        · have hcn : ¬ (c' : Int) < (n : Int) := by omega
          have HCN : Hid (r' * n + c' = (r' + 1) * n) := Lib.hid (by rw [Nat.add_mul, Nat.one_mul, show c' = n by omega])
          have HST3 := Lib.hid (HST2.out.same (k' := (r' + 1) * n) (by rw [HCN.out]))
          go_wp2_with fail
          exact ⟨⟨r' + 1, by omega, by go_num, HST3.out⟩, by simp [intOf]; omega⟩
    · have hrn : ¬ (r' : Int) < (n : Int) := by omega
      have HRN : Hid (r' * n = n * n) := Lib.hid (by rw [show r' = n by omega])
      have HSTE := Lib.hid (HST.out.same (k' := n * n) (by rw [HRN.out]))
      have hres := (heap_cellR HSTE.out.res).1
      have hfres := (heap_cellR HSTE.out.res).2
      have hlres := blkLt HSTE.out.res
      have HLen := Lib.hid (show (fxL n (n * n)).length = N by rw [HN.out]; exact fxL_len (Nat.le_refl _))
      go_wp2_with fail
      have h8 := HSTE.out.own
      refine bodyPost_ret (v := .agg #[.int .i64 n, .int .i64 n, .slice (some ⟨g0, 0, none⟩) N cp]) (by simp [results, Tryz.results237, go_sem, hres]) rfl ⟨some ⟨g0, 0, none⟩, cp, by rw [HLen.out], ?_, ?_⟩
      · rw [HLen.out]
        refine OwnI.weak (base := w.heap.size + 1) ?_ (by omega)
        iterate 3 (refine OwnI.setOld ?_ (by dsimp only; omega) _)
        exact h8
      · iterate 3 (refine Below.setCell ?_ (by dsimp only; omega) _)
        exact HSTE.out.below

end Go.Proofs.YtlcglclojlffgaaGreatDoor
namespace Go.Proofs.YtlcglclojlffgaaGreatDoor
open Go.RowKit Go.Maps

/-- append of places of another list of the call's own -/
theorem wpList_append_zz {ops : Array Oper} {rest : List Oper} {o : Oper} {a : Act} {Q : Exit → Act → World → Prop} {W : World} (hgd : o.guard = none) (s x : Operand) (T : TypeId) (hT : Tryz.prog.underlying T = some (.slice 299))
    (ho : o.op = .call { callee := .builtin .append, args := #[s, x], argTypes := #[T, T] })
    (base base' : Nat) (v : Value) (l m : List (Int × Int)) (hs : a.eval s = v) (hown : OwnZ W base v l) (g c : Nat) (hx : a.eval x = .slice (some ⟨g, 0, none⟩) m.length c)
    (hg : OwnZ W base' (.slice (some ⟨g, 0, none⟩) m.length c) m) (hl : l.length + m.length ≤ 100000000) (hb : base ≤ W.heap.size)
    (h : ∀ a' c' l' w', l' = l ++ m → OwnZ w' base (.slice a' l'.length c') l' → W.grownBy w' v.ownBlock → Below base W w' → wpList Tryz.prog ops Q rest (a.put o.dst (.slice a' l'.length c')) w') : wpList Tryz.prog ops Q (o :: rest) a W := by
  obtain ⟨i0, hi, y0, y1, y2⟩ := info_parts infoZ
  refine wpList_append_own_at _ hgd s x T ho base 299 i0 _ 2 16 hT hi y0 y1 y2 rfl (by decide) v l.length (l.flatMap plZ) hs hown ⟨g, 0, none⟩ m.length c (m.flatMap plZ) hx (zflat_len m) ?_ zflat_one (by unfold maxLen; omega) (by omega) hb
    (fun v' w' h1 h2 _ h4 => ?_)
  · intro j u hu
    have hj : j < m.length * 2 := by
      have := (List.getElem?_eq_some_iff.1 hu).1
      rwa [zflat_len] at this
    rw [Addr.add_lit, Nat.zero_add, World.ownsRow.cellAt hg j hj, hu]
  · have ho : OwnZ w' base v' (l ++ m) := by
      unfold OwnZ
      rw [List.length_append, List.flatMap_append]
      exact h1
    obtain ⟨a', c', e, _⟩ := ho.read
    exact h a' c' _ w' rfl ho h2 (below_of_grownBy h2 hb (fun k hk => hown.lo k hk))
theorem OwnZ.addr {w : World} {base : Nat} {a : Option Addr} {n c : Nat} {ps : List (Int × Int)} (h : OwnZ w base (.slice a n c) ps) (hp : 1 ≤ ps.length) : ∃ g, a = some ⟨g, 0, none⟩ ∧ base ≤ g := by
  rcases h.2 with ⟨h1, h0⟩ | ⟨g, cap, cur, h1, hb, hg, q1, q2, q3, q4⟩
  · omega
  · simp only [Value.slice.injEq] at h1
    exact ⟨g, h1.1, hb⟩
theorem Held.mono {w : World} {b n m : Nat} {T : Int × Int → Bool} (h : Held w b n T) (hn : n ≤ m) : Held w b m T := by
  obtain ⟨D, h1, h2, h3⟩ := h
  exact ⟨D, h1.mono hn, h2, h3⟩
theorem Held.belowB {w w' : World} {B b n : Nat} {T : Int × Int → Bool} (h : Held w b n T) (hb : Below B w w') (hlt : b < B) : Held w' b n T := by
  obtain ⟨D, ⟨es, clock, h1, h4, h5, h6⟩, h2, h3⟩ := h
  exact ⟨D, ⟨es, clock, (hb.block b hlt).trans h1, h4, h5, h6⟩, h2, h3⟩
theorem fmt_in {n : Int} (h : 17 ≤ n ∧ n ≤ 41) : ∀ p ∈ fmtA ++ fmtB n, (0 ≤ p.1 ∧ p.1 ≤ 41) ∧ 0 ≤ p.2 ∧ p.2 ≤ 41 := by
  intro p hp
  simp only [fmtA, fmtB, List.cons_append, List.nil_append, List.mem_cons, List.not_mem_nil, or_false] at hp
  rcases hp with rfl | rfl | rfl | rfl | rfl | rfl | rfl | rfl | rfl | rfl | rfl | rfl | rfl | rfl | rfl | rfl | rfl | rfl | rfl | rfl | rfl | rfl | rfl | rfl | rfl | rfl | rfl | rfl | rfl | rfl <;> simp <;> omega
theorem take_has {l : List (Int × Int)} {j : Nat} {q : Int × Int} (h : l[j]? = some q) (T : Int × Int → Bool) (p : Int × Int) : (decide (p = q) || ((l.take j).contains p || T p)) = ((l.take (j + 1)).contains p || T p) := by
  rw [take_snoc' h, List.contains_append, Bool.or_comm ((l.take j).contains p), ← Bool.or_assoc]
  simp only [List.contains_cons, List.contains_nil, Bool.or_false]
  rw [Bool.or_assoc, Bool.or_left_comm]
  cases (List.contains (l.take j) p) <;> by_cases e : p = q <;> simp [e]
/-- the fixed cells among the first k -/
def fxT (n k : Nat) (p : Int × Int) : Bool := (List.range k).any fun i => decide (0 ≤ fixI n ((i / n : Nat) : Int) ((i % n : Nat) : Int)) && decide (p = (((i / n : Nat) : Int), ((i % n : Nat) : Int)))
theorem fxT_step (n k : Nat) (p : Int × Int) : fxT n (k + 1) p = (fxT n k p || (decide (0 ≤ fixI n ((k / n : Nat) : Int) ((k % n : Nat) : Int)) && decide (p = (((k / n : Nat) : Int), ((k % n : Nat) : Int))))) := by
  unfold fxT
  rw [List.range_succ, List.any_append]
  simp
theorem fxT_yes {n k : Nat} (h : 0 ≤ fixI n ((k / n : Nat) : Int) ((k % n : Nat) : Int)) (p : Int × Int) : (decide (p = (((k / n : Nat) : Int), ((k % n : Nat) : Int))) || fxT n k p) = fxT n (k + 1) p := by
  rw [fxT_step, decide_eq_true h, Bool.true_and, Bool.or_comm]
theorem fxT_no {n k : Nat} (h : ¬ 0 ≤ fixI n ((k / n : Nat) : Int) ((k % n : Nat) : Int)) (p : Int × Int) : fxT n k p = fxT n (k + 1) p := by
  rw [fxT_step, decide_eq_false h, Bool.false_and, Bool.or_false]
theorem fxT_all {n : Nat} (r c : Nat) (hr : r < n) (hc : c < n) : fxT n (n * n) ((r : Int), (c : Int)) = decide (0 ≤ fixI n (r : Int) (c : Int)) := by
  have h1 : (r * n + c) / n = r := by rw [Nat.mul_comm, Nat.mul_add_div (by omega), Nat.div_eq_of_lt hc, Nat.add_zero]
  have h2 : (r * n + c) % n = c := by rw [Nat.mul_comm, Nat.mul_add_mod, Nat.mod_eq_of_lt hc]
  rw [Bool.eq_iff_iff]
  unfold fxT
  simp only [List.any_eq_true, List.mem_range, Bool.and_eq_true, decide_eq_true_eq, Prod.mk.injEq]
  constructor
  · rintro ⟨i, hi, hf, e1, e2⟩
    rwa [e1, e2]
  · intro hf
    have h3 : (r + 1) * n ≤ n * n := Nat.mul_le_mul_right _ hr
    rw [Nat.add_mul, Nat.one_mul] at h3
    exact ⟨r * n + c, by omega, by rw [h1, h2]; exact hf, by rw [h1], by rw [h2]⟩
theorem fxL_get {n k : Nat} (h : k < n * n) : (fxL n (n * n))[k]? = some (fixI n ((k / n : Nat) : Int) ((k % n : Nat) : Int)) := by
  unfold fxL
  rw [List.getElem?_append_left (by simpa using h), List.getElem?_map, List.getElem?_range h]
  rfl
theorem wfN {q : Nat} (h : q ≤ 10000) : (Lit.int .i64 (q : Int)).wf = true := wf64 (by omega)
theorem fieldG (w : World) (x y : Int) (a : Option Addr) (k c : Nat) : (Instr.field 205 (.agg #[.int .i64 x, .int .i64 y, .slice a k c]) 2).run Tryz.prog w = .ok (.slice a k c) w := by kernel_rfl
/-- the map of the places that are no data cells is handed back -/
def RetHeld (n : Nat) (w : World) (e : Ending) (w' : World) : Prop :=
  ∃ b k T, e = .returned (.map (some b)) ∧ Held w' b k T ∧ w.heap.size ≤ b ∧ Below w.heap.size w w' ∧ ∀ r c : Nat, r < n → c < n → T ((r : Int), (c : Int)) = takenI n (r : Int) (c : Int)
set_option maxRecDepth 100000 in
set_option maxHeartbeats 4000000 in
theorem noData_any (n : Nat) (w : World) (hn : 17 ≤ n) (hn2 : n ≤ 41) :
    Calls Tryz.prog 227 #[.int .i64 n] w (RetHeld n w) := by
  have hN := Nat.mul_le_mul hn2 hn2
  obtain ⟨N, hNe⟩ : ∃ N, N = n * n := ⟨_, rfl⟩
  rw [← hNe] at hN
  have HN := Lib.hid hNe
  clear hNe
  have hmm := @run_makeMap Tryz.prog
  go_enter Tryz.func227, Tryz.ntmps227
  go_wp2_with fail
  refine (fixed_any n _ hn hn2).mono ?_
  rintro e w1 ⟨a1, cp, rfl, ho1, hb1⟩
  have HL1 := Lib.hid (show (fxL n (n * n)).length = N by rw [HN.out]; exact fxL_len (Nat.le_refl _))
  have HM1 := Lib.hid ((Held.made w).below hb1)
  have HB1 := Lib.hid (bt1 hb1)
  rw [HL1.out] at ho1 ⊢
  have HO1 := Lib.hid (ho1.weak (show w.heap.size + 1 ≤ _ by simp))
  clear ho1 hb1 hmm
  have hfg := fieldG
  go_wp2_with fail
  clear hfg
  go_loopw [4, 5, 15] (fun _ _ i wr => ∃ k : Nat, k ≤ N ∧ i = .int .i64 k ∧ Held wr w.heap.size k (fxT n k) ∧ OwnI wr (w.heap.size + 1) (.slice a1 N cp) (fxL n (n * n)) ∧ Below w.heap.size w wr) (fun _ _ i _ => N - (intOf i).toNat)
  case atStart => exact ⟨0, Nat.zero_le _, rfl, HM1.out.like (fun p => rfl), HO1.out, HB1.out⟩
  case round =>
    obtain ⟨k, hk, rfl, hm, ho, hb⟩ := hrel
    have HM := Lib.hid hm
    have HO := Lib.hid ho
    have HB := Lib.hid hb
    clear hm ho hb
    by_cases hlt : k < N
    · obtain ⟨b1, o1, z, rfl, hz, hb1, hc1⟩ := HO.out.ints.at (by rw [HL1.out]; exact hlt)
      have hlti : (k : Int) < (N : Int) := by omega
      rw [fxL_get (by rw [← HN.out]; exact hlt)] at hz
      have HZ := Lib.hid (Option.some.inj hz)
      clear hz
      by_cases h0 : 0 ≤ z
      · have HY := Lib.hid (fun p => fxT_yes (n := n) (k := k) (by rw [HZ.out]; exact h0) p)
        have HW : Hid ((Lit.int .i64 ((k / n : Nat) : Int)).wf = true ∧ (Lit.int .i64 ((k % n : Nat) : Int)).wf = true) := Lib.hid (by
          have h1 := Nat.div_le_self k n
          have h2 := Nat.mod_le k n
          exact ⟨wfN (Nat.le_trans h1 (by omega)), wfN (Nat.le_trans h2 (by omega))⟩)
        have hni : (17 : Int) ≤ (n : Int) ∧ (n : Int) ≤ 41 := by omega
        have hk0 : (0 : Int) ≤ (k : Int) := by omega
        have hkq : (0 : Int) ≤ (k : Int) / (n : Int) ∧ (k : Int) / (n : Int) ≤ 1681 := ⟨Int.ediv_nonneg hk0 (by omega), Int.le_trans (Int.ediv_le_self _ hk0) (by omega)⟩
        go_wp2_with fail
        refine wp_region_ext_tail 8 (by kernel_rfl) (by kernel_rfl) ?_
        simp only [List.take_succ_cons, List.take_zero, List.drop_succ_cons, List.drop_zero]
        repeat (go_big_quiet_step (fail))
        refine wpQuiet_nil ?_
        rintro _ ⟨s, rfl⟩
        have HM2 := Lib.hid (HM.out.below s.below)
        go_wp2_with (at_mapUpdate; refine wpList_mapSet (o := _) rfl _ _ _ 296 rfl Tryz.underlying296 w.heap.size k (fxT n k) rfl HM2.out (by unfold maxLen; omega) ((k : Int) / (n : Int)) ((k : Int) % (n : Int)) HW.out.1 HW.out.2 rfl rfl ?_; intro w3 hm3 hg3)
        exact ⟨⟨k + 1, by omega, by go_num, hm3.like HY.out, (HO.out.grown s.below).other hg3 (fun j hj e => by have := HO.out.lo j hj; have := Option.some.inj e; omega), (bt0 HB.out s.below (Nat.le_refl _)).trans (below_of_grownBy hg3 (by have := HB.out.size; have := s.below.size; omega) (fun j hj => by cases hj; exact Nat.le_refl _))⟩, by simp [intOf]; omega⟩
      · have HY := Lib.hid (fun p => fxT_no (n := n) (k := k) (by rw [HZ.out]; exact h0) p)
        go_wp2_with fail
        exact ⟨⟨k + 1, by omega, by go_num, (HM.out.like HY.out).mono (by omega), HO.out, HB.out⟩, by simp [intOf]; omega⟩
    · have hlti : ¬ (k : Int) < (N : Int) := by omega
      obtain rfl : k = N := by omega
      rw [HN.out] at HM
      go_wp2_with fail
      refine (formats_any (n : Int) _ (by omega) (by omega)).mono ?_
      rintro e w2 ⟨fa, fc, fb, fd, rfl, ht⟩
      obtain ⟨gb, rfl, hgb⟩ := ht.b.addr (show 1 ≤ (fmtB (n : Int)).length from by simp [fmtB])
      have HT := Lib.hid ht
      have HM2 := Lib.hid (HM.out.below ht.below)
      have HB2 := Lib.hid (bt0 HB.out ht.below (Nat.le_refl _))
      clear ht
      obtain ⟨A, hA⟩ : ∃ A, A = fmtA := ⟨_, rfl⟩
      obtain ⟨B, hB⟩ : ∃ B, B = fmtB (n : Int) := ⟨_, rfl⟩
      rw [← hA, ← hB] at HT ⊢
      have HA := Lib.hid hA
      have HB' := Lib.hid hB
      have HLA := Lib.hid (show A.length = 15 by rw [hA]; rfl)
      have HLB := Lib.hid (show B.length = 15 by rw [hB]; rfl)
      clear hA hB
      go_wp2_with (at_builtin; refine wpList_append_zz (o := _) rfl (.tmp 36) (.tmp 37) 282 Tryz.underlying282 rfl wr.heap.size wr.heap.size (.slice fa A.length fc) A B rfl HT.out.a gb fd rfl HT.out.b (by rw [HLA.out, HLB.out]; omega) HT.out.below.size ?_; intro a9 c9 l9 w9 he9 ho9 hg9 hb9; have HE0 := Lib.hid he9; clear he9)
      have HE9 := Lib.hid (show l9 = fmtA ++ fmtB (n : Int) by rw [HE0.out, HA.out, HB'.out])
      have HL9 := Lib.hid (show l9.length = 30 by rw [HE0.out, List.length_append, HLA.out, HLB.out])
      have hwl := HM.out.lt
      have HM9 := Lib.hid (HM2.out.belowB hb9 hwl)
      have HO9 := Lib.hid ho9
      have HB9 := Lib.hid (HB2.out.trans (hb9.mono (Nat.le_of_lt hwl)))
      have HWL := Lib.hid hwl
      clear HE0 ho9 hg9 hb9 HA HB' HLA HLB HT HM2 hwl
      go_loopw [9, 40] (fun _ i wx => ∃ j : Nat, j ≤ 30 ∧ i = .int .i64 j ∧ Held wx w.heap.size (n * n + j) (fun p => (l9.take j).contains p || fxT n (n * n) p) ∧ OwnZ wx wr.heap.size (.slice a9 l9.length c9) l9 ∧ Below w.heap.size w wx) (fun _ i _ => 30 - (intOf i).toNat)
      case atStart => exact ⟨0, by omega, rfl, HM9.out.like (fun p => by simp), HO9.out, HB9.out⟩
      case round =>
        obtain ⟨j, hj, rfl, hm, ho, hb⟩ := hrel
        have HMx := Lib.hid hm
        have HOx := Lib.hid ho
        have HBx := Lib.hid hb
        clear hm ho hb
        by_cases hlt : j < 30
        · have hlti : (j : Int) < (l9.length : Int) := by rw [HL9.out]; omega
          have hjl : j < l9.length := by rw [HL9.out]; exact hlt
          obtain ⟨b1, o1, rfl, hc0, hc1⟩ := HOx.out.pls j hjl
          have HG := Lib.hid (List.getElem?_eq_getElem hjl)
          have hin := fmt_in (n := (n : Int)) (by omega) (l9[j]) (by rw [← HE9.out]; exact List.getElem_mem hjl)
          obtain ⟨⟨r, c⟩, hrc⟩ : ∃ q, q = l9[j] := ⟨_, rfl⟩
          rw [← hrc] at hin hc0 hc1 HG
          have HW : Hid ((Lit.int .i64 r).wf = true ∧ (Lit.int .i64 c).wf = true) := Lib.hid ⟨wf64 (by have := hin.1; simp at this; omega), wf64 (by have := hin.2; simp at this; omega)⟩
          have hlb := lt_of_cell hc0
          clear hin hrc
          go_wp2_with (at_mapUpdate; refine wpList_mapSet (o := _) rfl _ _ _ 296 rfl Tryz.underlying296 w.heap.size (n * n + j) (fun p => (l9.take j).contains p || fxT n (n * n) p) rfl (HMx.out.below (ba1 _ _)) (by have := Nat.mul_le_mul hn2 hn2; unfold maxLen; omega) r c HW.out.1 HW.out.2 rfl rfl ?_; intro w3 hm3 hg3)
          exact ⟨⟨j + 1, by omega, by go_num, hm3.like (take_has HG.out _), (HOx.out.grown (ba1 _ _)).other hg3 (fun q hq e => by have := HOx.out.lo q hq; have := Option.some.inj e; have := HWL.out; omega), (bt0 HBx.out (ba1 _ _) (Nat.le_refl _)).trans (below_of_grownBy hg3 (by have := HBx.out.size; simp; omega) (fun q hq => by cases hq; exact Nat.le_refl _))⟩, by simp [intOf]; omega⟩
        · have hlti : ¬ (j : Int) < (l9.length : Int) := by rw [HL9.out]; omega
          go_wp2_with fail
          refine bodyPost_ret (v := .map (some w.heap.size)) (by simp [results, Tryz.results227, go_sem]) rfl ?_
          refine ⟨_, _, _, rfl, HMx.out, Nat.le_refl _, HBx.out, fun r c hr hc => ?_⟩
          rw [List.take_of_length_le (by rw [HL9.out]; omega), HE9.out, fxT_all r c hr hc, takenI, List.contains_append, Bool.or_comm, Bool.or_assoc]

end Go.Proofs.YtlcglclojlffgaaGreatDoor
namespace Go.Proofs.YtlcglclojlffgaaGreatDoor
open Go.RowKit Go.Maps

/-- the k-th place of a pair of columns -/
def colQ (n right : Int) (up : Bool) (k : Nat) : Int × Int := ((if up then n - 1 - (k : Int) / 2 else (k : Int) / 2), right - (k : Int) % 2)
/-- the places among the first K of a pair of columns -/
def colK (n right : Int) (up : Bool) (K : Nat) : List (Int × Int) := ((List.range K).map (colQ n right up)).filter fun p => !takenI n p.1 p.2
theorem colK_all (n right : Int) (up : Bool) : colI n right up = colK n right up (2 * n.toNat) := rfl
theorem colK_yes {n right : Int} {up : Bool} {K : Nat} (h : takenI n (colQ n right up K).1 (colQ n right up K).2 = true) : colK n right up (K + 1) = colK n right up K := by
  unfold colK
  rw [List.range_succ, List.map_append, List.filter_append]
  simp [h]
theorem colK_no {n right : Int} {up : Bool} {K : Nat} (h : takenI n (colQ n right up K).1 (colQ n right up K).2 = false) : colK n right up (K + 1) = colK n right up K ++ [colQ n right up K] := by
  unfold colK
  rw [List.range_succ, List.map_append, List.filter_append]
  simp [h]
theorem colK_len (n right : Int) (up : Bool) (K : Nat) : (colK n right up K).length ≤ K := by
  unfold colK
  refine Nat.le_trans (List.length_filter_le _ _) ?_
  simp
theorem rights_step {f : Nat} {r : Int} (h : 0 < r) (hf : r ≤ f) : ∃ g : Nat, (g : Int) = f - 1 ∧ rightsI f r = (if r = 6 then 5 else r) :: rightsI g ((if r = 6 then 5 else r) - 2) := by
  cases f with
  | zero => omega
  | succ g => exact ⟨g, by omega, by rw [rightsI, if_pos h]⟩
theorem rights_end {f : Nat} {r : Int} (h : ¬ 0 < r) : rightsI f r = [] := by
  cases f with
  | zero => rfl
  | succ g => rw [rightsI, if_neg h]
/-- places of the call's own are handed back -/
def RetZ (w : World) (l : List (Int × Int)) (e : Ending) (w' : World) : Prop :=
  ∃ a c, e = .returned (.slice a l.length c) ∧ OwnZ w' w.heap.size (.slice a l.length c) l ∧ Below w.heap.size w w'
set_option maxRecDepth 100000 in
set_option maxHeartbeats 4000000 in
theorem dataPlaces_any (n : Nat) (w : World) (hn : 17 ≤ n) (hn2 : n ≤ 41) :
    Calls Tryz.prog 220 #[.int .i64 n] w (RetZ w (placesI n)) := by
  have hni : (17 : Int) ≤ (n : Int) ∧ (n : Int) ≤ 41 := by omega
  go_enter Tryz.func220, Tryz.ntmps220
  go_wp2_with fail
  refine (noData_any n _ hn hn2).mono ?_
  rintro e w1 ⟨b, kk, T, rfl, hm, hbl, hb1, hT⟩
  have HM1 := Lib.hid hm
  have HB1 := Lib.hid hb1
  have HT := Lib.hid hT
  have HBL := Lib.hid hm.lt
  clear hm hbl hb1 hT
  go_wp2_with fail
  have HO1 := Lib.hid (OwnZ.new w1)
  go_loopw [4, 5, 6, 7, 8] (fun s u r _ _ wr => ∃ (f : Nat) (rt : Int) (up : Bool) (a : Option Addr) (c : Nat) (l : List (Int × Int)), -2 ≤ rt ∧ rt ≤ f ∧ f ≤ n ∧ rt ≤ n - 1 ∧ r = .int .i64 rt ∧ u = .bool up ∧ s = .slice a l.length c ∧ placesI n = l ++ placesF n (rightsI f rt) up ∧ l.length + 100 * f ≤ 4100 ∧ OwnZ wr w1.heap.size (.slice a l.length c) l ∧ Below w1.heap.size w1 wr) (fun _ _ r _ _ _ => (intOf r + 2).toNat)
  case atStart => exact ⟨n, n - 1, true, _, _, [], by omega, by omega, by omega, by omega, by go_num, rfl, rfl, by rw [placesI]; rfl, by simp; omega, HO1.out, ba1 _ _⟩
  case round =>
    obtain ⟨f, rt, up, a, c, l, h1, h2, h3, h4, rfl, rfl, rfl, hp, hl, ho, hb⟩ := hrel
    have HP := Lib.hid hp
    have HLn := Lib.hid hl
    have HO := Lib.hid ho
    have HB := Lib.hid hb
    clear hp hl ho hb
    by_cases hr : 0 < rt
    · obtain ⟨g, hg, hs⟩ := rights_step hr h2
      rw [hs, placesF] at HP
      clear hs
      obtain ⟨rt', hrt⟩ : ∃ x, x = (if rt = 6 then 5 else rt) := ⟨_, rfl⟩
      rw [← hrt] at HP
      have hq : 1 ≤ rt' ∧ rt' ≤ rt := by rw [hrt]; split <;> omega
      go_wp2_with fail
      go_step3
      go_upto_if 19 with fail
      go_cut [6] (fun r wx => r = .int .i64 rt' ∧ wx = wr)
      case first =>
        by_cases h6 : rt = 6
        · rw [if_pos h6] at hrt
          subst h6 hrt
          go_wp2_with fail
          go_meet
          exact ⟨rfl, rfl⟩
        · rw [if_neg h6] at hrt
          subst hrt
          go_wp2_with fail
          go_meet
          exact ⟨rfl, rfl⟩
      case rest =>
        obtain ⟨rfl, rfl⟩ := hcut
        clear hrt
        cases up
        · go_wp2_with fail
          go_step3
          go_wp2_with fail
          go_loopw [4, 7, 8] (fun s v _ wr => ∃ (k : Nat) (a : Option Addr) (c : Nat) (m : List (Int × Int)), k ≤ 2 * n ∧ v = .int .i64 k ∧ s = .slice a m.length c ∧ m = l ++ colK n (rt') false k ∧ OwnZ wr w1.heap.size (.slice a m.length c) m ∧ Below w1.heap.size w1 wr) (fun _ v _ _ => 2 * n - (intOf v).toNat)
          case atStart => exact ⟨0, _, _, l, by omega, by go_num, rfl, by simp [colK], HO.out, HB.out⟩
          case round =>
            obtain ⟨k, a, c, m, hk, rfl, rfl, hm, ho, hb⟩ := hrel
            have HMm := Lib.hid hm
            have HO2 := Lib.hid ho
            have HB2 := Lib.hid hb
            clear hm ho hb
            by_cases hlt : k < 2 * n
            · have hlti : (k : Int) < 2 * (n : Int) := by omega
              have HW : Hid ((Lit.int .i64 ((k : Int) / 2)).wf = true ∧ (Lit.int .i64 ((rt') - (k : Int) % 2)).wf = true) := Lib.hid ⟨wf64 (by omega), wf64 (by omega)⟩
              have HTk := Lib.hid (show T (((k : Int) / 2), (rt') - (k : Int) % 2) = takenI n ((k : Int) / 2) ((rt') - (k : Int) % 2) by
                have h := HT.out (((k : Int) / 2)).toNat ((rt') - (k : Int) % 2).toNat (by omega) (by omega)
                rwa [Int.toNat_of_nonneg (by omega), Int.toNat_of_nonneg (by omega)] at h)
              have HLm := Lib.hid (show m.length ≤ 4100 by
                have e1 := colK_len (n : Int) (rt') false k
                have e2 := HLn.out
                rw [HMm.out, List.length_append]; omega)
              rcases Bool.eq_false_or_eq_true (takenI n ((k : Int) / 2) ((rt') - (k : Int) % 2)) with ht | ht
              · have HS := Lib.hid (colK_yes (n := (n : Int)) (right := rt') (up := false) (K := k) (by simpa [colQ] using ht))
                go_wp2_with (at_lookup; refine wpList_mapGet (o := _) rfl _ _ 296 rfl Tryz.underlying296 b kk T rfl ((HM1.out.belowB HB2.out HBL.out).below (ba1 _ _)) ((k : Int) / 2) ((rt') - (k : Int) % 2) HW.out.1 HW.out.2 rfl ?_; rw [HTk.out, ht])
                exact ⟨⟨k + 1, a, c, m, by omega, by go_num, rfl, by rw [HMm.out, HS.out], HO2.out.grown (ba1 _ _), bt0 HB2.out (ba1 _ _) (Nat.le_refl _)⟩, by simp [intOf]; omega⟩
              · have HS := Lib.hid (colK_no (n := (n : Int)) (right := rt') (up := false) (K := k) (by simpa [colQ] using ht))
                go_wp2_with (first | (at_lookup; refine wpList_mapGet (o := _) rfl _ _ 296 rfl Tryz.underlying296 b kk T rfl ((HM1.out.belowB HB2.out HBL.out).below (ba1 _ _)) ((k : Int) / 2) ((rt') - (k : Int) % 2) HW.out.1 HW.out.2 rfl ?_; rw [HTk.out, ht]) | (at_builtin; refine wpList_append_zs (o := _) rfl (.tmp 45) (.tmp 47) 282 Tryz.underlying282 rfl w1.heap.size (.slice a m.length c) m [((k : Int) / 2, rt' - (k : Int) % 2)] rfl ((HO2.out.grown (ba1 _ _)).grown (ba1 _ _)) (wr.heap.size + 1) 1 rfl rfl ((heap2 wr _ _).2) (by have := HLm.out; simp; omega) (by have := HB2.out.size; simp; omega) ?_; intro a8 c8 l8 w8 he8 ho8 hg8 hb8 hat8; have HE8 := Lib.hid he8; clear he8))
                exact ⟨⟨k + 1, a8, c8, l8, by omega, by go_num, rfl, by rw [HE8.out, HMm.out, HS.out, List.append_assoc]; rfl, ho8, (bt0 HB2.out (ba2 _ _ _) (Nat.le_refl _)).trans hb8⟩, by simp [intOf]; omega⟩
            · have hlti : ¬ (k : Int) < 2 * (n : Int) := by omega
              obtain rfl : k = 2 * n := by omega
              go_wp2_with fail
              exact ⟨⟨g, rt' - 2, true, a, c, m, by omega, by omega, by omega, by omega, by go_num, rfl, rfl, by
                have e := HP.out
                rw [colK_all, Int.toNat_natCast, ← List.append_assoc, ← HMm.out] at e
                exact e, by
                have e1 := colK_len (n : Int) rt' false (2 * n)
                have e2 := HLn.out
                rw [HMm.out, List.length_append]; omega, HO2.out, HB2.out⟩, by simp [intOf]; omega⟩
        · go_wp2_with fail
          go_step3
          go_wp2_with fail
          go_loopw [4, 7, 8] (fun s v _ wr => ∃ (k : Nat) (a : Option Addr) (c : Nat) (m : List (Int × Int)), k ≤ 2 * n ∧ v = .int .i64 k ∧ s = .slice a m.length c ∧ m = l ++ colK n (rt') true k ∧ OwnZ wr w1.heap.size (.slice a m.length c) m ∧ Below w1.heap.size w1 wr) (fun _ v _ _ => 2 * n - (intOf v).toNat)
          case atStart => exact ⟨0, _, _, l, by omega, by go_num, rfl, by simp [colK], HO.out, HB.out⟩
          case round =>
            obtain ⟨k, a, c, m, hk, rfl, rfl, hm, ho, hb⟩ := hrel
            have HMm := Lib.hid hm
            have HO2 := Lib.hid ho
            have HB2 := Lib.hid hb
            clear hm ho hb
            by_cases hlt : k < 2 * n
            · have hlti : (k : Int) < 2 * (n : Int) := by omega
              have HW : Hid ((Lit.int .i64 ((n : Int) - 1 - (k : Int) / 2)).wf = true ∧ (Lit.int .i64 ((rt') - (k : Int) % 2)).wf = true) := Lib.hid ⟨wf64 (by omega), wf64 (by omega)⟩
              have HTk := Lib.hid (show T (((n : Int) - 1 - (k : Int) / 2), (rt') - (k : Int) % 2) = takenI n ((n : Int) - 1 - (k : Int) / 2) ((rt') - (k : Int) % 2) by
                have h := HT.out (((n : Int) - 1 - (k : Int) / 2)).toNat ((rt') - (k : Int) % 2).toNat (by omega) (by omega)
                rwa [Int.toNat_of_nonneg (by omega), Int.toNat_of_nonneg (by omega)] at h)
              have HLm := Lib.hid (show m.length ≤ 4100 by
                have e1 := colK_len (n : Int) (rt') true k
                have e2 := HLn.out
                rw [HMm.out, List.length_append]; omega)
              rcases Bool.eq_false_or_eq_true (takenI n ((n : Int) - 1 - (k : Int) / 2) ((rt') - (k : Int) % 2)) with ht | ht
              · have HS := Lib.hid (colK_yes (n := (n : Int)) (right := rt') (up := true) (K := k) (by simpa [colQ] using ht))
                go_wp2_with (at_lookup; refine wpList_mapGet (o := _) rfl _ _ 296 rfl Tryz.underlying296 b kk T rfl ((HM1.out.belowB HB2.out HBL.out).below (ba1 _ _)) ((n : Int) - 1 - (k : Int) / 2) ((rt') - (k : Int) % 2) HW.out.1 HW.out.2 rfl ?_; rw [HTk.out, ht])
                exact ⟨⟨k + 1, a, c, m, by omega, by go_num, rfl, by rw [HMm.out, HS.out], HO2.out.grown (ba1 _ _), bt0 HB2.out (ba1 _ _) (Nat.le_refl _)⟩, by simp [intOf]; omega⟩
              · have HS := Lib.hid (colK_no (n := (n : Int)) (right := rt') (up := true) (K := k) (by simpa [colQ] using ht))
                go_wp2_with (first | (at_lookup; refine wpList_mapGet (o := _) rfl _ _ 296 rfl Tryz.underlying296 b kk T rfl ((HM1.out.belowB HB2.out HBL.out).below (ba1 _ _)) ((n : Int) - 1 - (k : Int) / 2) ((rt') - (k : Int) % 2) HW.out.1 HW.out.2 rfl ?_; rw [HTk.out, ht]) | (at_builtin; refine wpList_append_zs (o := _) rfl (.tmp 45) (.tmp 47) 282 Tryz.underlying282 rfl w1.heap.size (.slice a m.length c) m [((n : Int) - 1 - (k : Int) / 2, rt' - (k : Int) % 2)] rfl ((HO2.out.grown (ba1 _ _)).grown (ba1 _ _)) (wr.heap.size + 1) 1 rfl rfl ((heap2 wr _ _).2) (by have := HLm.out; simp; omega) (by have := HB2.out.size; simp; omega) ?_; intro a8 c8 l8 w8 he8 ho8 hg8 hb8 hat8; have HE8 := Lib.hid he8; clear he8))
                exact ⟨⟨k + 1, a8, c8, l8, by omega, by go_num, rfl, by rw [HE8.out, HMm.out, HS.out, List.append_assoc]; rfl, ho8, (bt0 HB2.out (ba2 _ _ _) (Nat.le_refl _)).trans hb8⟩, by simp [intOf]; omega⟩
            · have hlti : ¬ (k : Int) < 2 * (n : Int) := by omega
              obtain rfl : k = 2 * n := by omega
              go_wp2_with fail
              exact ⟨⟨g, rt' - 2, false, a, c, m, by omega, by omega, by omega, by omega, by go_num, rfl, rfl, by
                have e := HP.out
                rw [colK_all, Int.toNat_natCast, ← List.append_assoc, ← HMm.out] at e
                exact e, by
                have e1 := colK_len (n : Int) rt' true (2 * n)
                have e2 := HLn.out
                rw [HMm.out, List.length_append]; omega, HO2.out, HB2.out⟩, by simp [intOf]; omega⟩
    · rw [rights_end hr, placesF, List.append_nil] at HP
      go_wp2_with fail
      refine bodyPost_ret (v := .slice a l.length c) (by simp [results, Tryz.results220, go_sem]) rfl ?_
      have hp := HP.out
      subst hp
      exact ⟨_, _, rfl, HO.out.weak (Nat.le_trans (by simp) HB1.out.size), HB1.out.trans (HB.out.mono HB1.out.size)⟩

end Go.Proofs.YtlcglclojlffgaaGreatDoor
namespace Go.Proofs.YtlcglclojlffgaaGreatDoor
open Go.RowKit

theorem msz_bd {n : Int} (h : msz n = true) : 17 ≤ n ∧ n ≤ 41 := by
  unfold msz at h
  simp at h
  omega
set_option maxRecDepth 100000 in
set_option maxHeartbeats 2000000 in
theorem dataCount_any (n : Int) (w : World) (h1 : -9223372036854775808 ≤ n) (h2 : n ≤ 9223372036854775807) :
    Calls Tryz.prog 208 #[.int .i64 n] w (fun e w' => e = .returned (.int .i64 (if msz n = true then (dcnt n : Int) else 0)) ∧ Below w.heap.size w w') := by
  rcases Bool.eq_false_or_eq_true (msz n) with h | h
  · have hb := msz_bd h
    obtain ⟨m, rfl⟩ : ∃ m : Nat, n = (m : Int) := ⟨n.toNat, by omega⟩
    have HL := Lib.hid (places_len h)
    rw [if_pos h]
    go_enter Tryz.func208, Tryz.ntmps208
    go_wp2_with fail
    refine (isMsz_any _ _ h1 h2).mono ?_
    rw [h]
    rintro e w' ⟨rfl, rfl⟩
    go_wp2_with fail
    refine (dataPlaces_any m _ (by omega) (by omega)).mono ?_
    rintro e w2 ⟨a, c, rfl, -, hb2⟩
    have HB := Lib.hid hb2
    clear hb2
    rw [HL.out]
    go_wp2_with fail
    refine bodyPost_ret (v := .int .i64 (dcnt (m : Int) : Nat)) (by simp [results, Tryz.results208, go_sem]) rfl ?_
    exact ⟨rfl, HB.out⟩
  · rw [if_neg (by rw [h]; decide)]
    go_enter Tryz.func208, Tryz.ntmps208
    go_wp2_with fail
    refine (isMsz_any _ _ h1 h2).mono ?_
    rw [h]
    rintro e w' ⟨rfl, rfl⟩
    go_wp2_with fail
    refine bodyPost_ret (v := .int .i64 0) (by simp [results, Tryz.results208, go_sem]) rfl ?_
    exact ⟨rfl, Below.refl _ _⟩

end Go.Proofs.YtlcglclojlffgaaGreatDoor
namespace Go.Proofs.YtlcglclojlffgaaGreatDoor
open Go.RowKit

theorem all_msz_no {l : List Int} {k : Nat} {x : Int} (h : l[k]? = some x) (hx : msz x = false) : l.all msz = false := by
  rw [List.all_eq_false]; exact ⟨x, List.mem_of_getElem? h, by rw [hx]; decide⟩
theorem all_msz_snoc {l : List Int} {k : Nat} {x : Int} (h : l[k]? = some x) (h1 : (l.take k).all msz = true) (hx : msz x = true) : (l.take (k + 1)).all msz = true := by
  rw [take_snoc' h, List.all_append, h1]; simp [hx]
set_option maxRecDepth 100000 in
set_option maxHeartbeats 4000000 in
theorem isFamily_any (nm : ByteArray) (kd p k g : Int) (a1 : Option Addr) (szs : List Int) (c1 : Nat) (cl : Int) (a2 : Option Addr) (lvs : List Int) (c2 : Nat) (w : World) (h1 : IntsAt w a1 szs) (h2 : IntsAt w a2 lvs) (l1 : szs.length ≤ 1048576) (l2 : lvs.length ≤ 1048576) (ln : nm.size ≤ 1048576) (hw : ∀ x ∈ szs, -9223372036854775808 ≤ x ∧ x ≤ 9223372036854775807) :
    Calls Tryz.prog 179 #[(.agg #[.string nm, .int .i64 kd, .int .i64 p, .int .i64 k, .int .i64 g, .slice a1 szs.length c1, .int .i64 cl, .slice a2 lvs.length c2])] w fun e w' => e = .returned (.bool (Fam.ok ⟨nm, kd, p, k, g, szs, cl, lvs⟩)) ∧ Below w.heap.size w w' := by
  have H1 := Lib.hid h1
  have H2 := Lib.hid h2
  have HW := Lib.hid hw
  clear h1 h2 hw
  have hsl : inB (szs.length : Int) 1 8 = (decide (1 ≤ szs.length) && decide (szs.length ≤ 8)) := by rw [Bool.eq_iff_iff]; simp [inB]; omega
  have hll : inB (lvs.length : Int) 1 4 = (decide (1 ≤ lvs.length) && decide (lvs.length ≤ 4)) := by rw [Bool.eq_iff_iff]; simp [inB]; omega
  obtain ⟨ok, hok⟩ : ∃ ok, ok = Fam.ok ⟨nm, kd, p, k, g, szs, cl, lvs⟩ := ⟨_, rfl⟩
  rw [← hok]
  have HOK := Lib.hid (show ok = (nameB nm.data.toList && inB (lvs.length : Int) 1 4 && risB 1 80 lvs && inB (szs.length : Int) 1 8 && if kd = 1 then szs.all msz && fldB p k g && decide (cl = 0) && risB 17 41 szs else if kd = 2 then decide (p = 2) && decide (k = 5) && decide (g = 37) && decide (1 ≤ cl) && decide (cl ≤ 8) && risB 3 24 szs else false) by
    rw [hok, hsl, hll]; simp only [Fam.ok, Bool.and_assoc])
  clear hsl hll hok
  rcases Bool.eq_false_or_eq_true (nameB nm.data.toList) with n1 | n1
  · rcases Bool.eq_false_or_eq_true (inB (szs.length : Int) 1 8) with n2 | n2
    · rcases Bool.eq_false_or_eq_true (inB (lvs.length : Int) 1 4) with n3 | n3
      · rcases Bool.eq_false_or_eq_true (risB 1 80 lvs) with n4 | n4
        · by_cases k1 : kd = 1
          · subst k1
            have HOK2 := Lib.hid (show ok = (szs.all msz && fldB p k g && decide (cl = 0) && risB 17 41 szs) by rw [HOK.out, n1, n2, n3, n4, if_pos rfl]; rfl)
            go_enter Tryz.func179, Tryz.ntmps179
            go_wp2_with fail
            refine (isName_any nm _ ln).mono ?_
            rw [n1]
            rintro e w' ⟨rfl, rfl⟩
            go_wp2_with fail
            refine (inRange_any _ _ _ _).mono ?_
            rw [n2]
            rintro e w' ⟨rfl, rfl⟩
            go_wp2_with fail
            refine (inRange_any _ _ _ _).mono ?_
            rw [n3]
            rintro e w' ⟨rfl, rfl⟩
            go_wp2_with fail
            refine (rises_any 1 80 a2 lvs c2 _ (H2.out.below (ba1 _ _)) (by omega)).mono ?_
            rw [n4]
            rintro e w' ⟨rfl, rfl⟩
            go_wp2_with fail
            go_loop [4, 38] (fun _ i => ∃ j : Nat, j ≤ szs.length ∧ i = .int .i64 j ∧ (szs.take j).all msz = true) (fun _ i => szs.length - (intOf i).toNat)
            case atStart => exact ⟨0, Nat.zero_le _, rfl, rfl⟩
            case round =>
              obtain ⟨j, hj, rfl, hall⟩ := hrel
              have HA := Lib.hid hall
              clear hall
              by_cases hlt : j < szs.length
              · obtain ⟨b1, o1, x, rfl, hxk, hb1, hc1⟩ := (H1.out.below (ba1 w (.cells #[.string nm, .int .i64 1, .int .i64 p, .int .i64 k, .int .i64 g, .slice a1 szs.length c1, .int .i64 cl, .slice a2 lvs.length c2] 123 (0, 0)))).at hlt
                have hji : (j : Int) < (szs.length : Int) := by omega
                have HXK := Lib.hid hxk
                have hxr := HW.out x (List.mem_of_getElem? hxk)
                clear hxk
                rcases Bool.eq_false_or_eq_true (msz x) with hm | hm
                · go_wp2_with fail
                  refine (isMsz_any x _ hxr.1 hxr.2).mono ?_
                  rw [hm]
                  rintro e w' ⟨rfl, rfl⟩
                  go_wp2_with fail
                  exact ⟨⟨j + 1, by omega, by go_num, all_msz_snoc HXK.out HA.out hm⟩, by simp [intOf]; omega⟩
                · have HOK3 := Lib.hid (show ok = false by rw [HOK2.out, all_msz_no HXK.out hm]; simp)
                  go_wp2_with fail
                  refine (isMsz_any x _ hxr.1 hxr.2).mono ?_
                  rw [hm]
                  rintro e w' ⟨rfl, rfl⟩
                  go_wp2_with fail
                  go_ret
                  exact ⟨ret_bool HOK3.out.symm, ba1 _ _⟩
              · have hji : ¬ (j : Int) < (szs.length : Int) := by omega
                have HAll : Hid (szs.all msz = true) := Lib.hid (by have := HA.out; rwa [List.take_of_length_le (by omega)] at this)
                by_cases p2 : p = 2
                · subst p2
                  rcases Bool.eq_false_or_eq_true (fldB 2 k g) with f1 | f1
                  · by_cases c0 : cl = 0
                    · subst c0
                      have HOK3 := Lib.hid (show ok = risB 17 41 szs by rw [HOK2.out, HAll.out, f1]; simp)
                      go_wp2_with fail
                      refine (isField_two k g _).mono ?_
                      rw [f1]
                      rintro e w2 ⟨rfl, hb2⟩
                      have hbox := box1 hb2
                      have hz : w.heap.size < w2.heap.size := by have := hb2.size; simp at this; omega
                      have HB2 := Lib.hid (bt1 hb2)
                      clear hb2
                      go_wp2_with fail
                      refine (rises_any 17 41 a1 szs c1 _ (H1.out.below HB2.out) (by omega)).mono ?_
                      rintro e w' ⟨rfl, rfl⟩
                      go_wp2_with fail
                      go_ret
                      exact ⟨ret_bool HOK3.out.symm, HB2.out⟩
                    · have c0' : (cl == 0) = false := by rw [beq_eq_false_iff_ne]; exact c0
                      have HOK3 := Lib.hid (show ok = false by rw [HOK2.out, decide_eq_false c0]; simp)
                      clear c0
                      go_wp2_with fail
                      refine (isField_two k g _).mono ?_
                      rw [f1]
                      rintro e w2 ⟨rfl, hb2⟩
                      have hbox := box1 hb2
                      have hz : w.heap.size < w2.heap.size := by have := hb2.size; simp at this; omega
                      have HB2 := Lib.hid (bt1 hb2)
                      clear hb2
                      go_wp2_with fail
                      go_ret
                      exact ⟨ret_bool HOK3.out.symm, HB2.out⟩
                  · have HOK3 := Lib.hid (show ok = false by rw [HOK2.out, f1]; simp)
                    go_wp2_with fail
                    refine (isField_two k g _).mono ?_
                    rw [f1]
                    rintro e w2 ⟨rfl, hb2⟩
                    have hbox := box1 hb2
                    have hz : w.heap.size < w2.heap.size := by have := hb2.size; simp at this; omega
                    have HB2 := Lib.hid (bt1 hb2)
                    clear hb2
                    go_wp2_with fail
                    go_ret
                    exact ⟨ret_bool HOK3.out.symm, HB2.out⟩
                · have p2' : (p == 2) = false := by rw [beq_eq_false_iff_ne]; exact p2
                  have HOK3 := Lib.hid (show ok = false by rw [HOK2.out, fldB, decide_eq_false p2]; simp)
                  clear p2
                  go_wp2_with fail
                  go_ret
                  exact ⟨ret_bool HOK3.out.symm, ba1 _ _⟩
          · have k1' : (kd == 1) = false := by rw [beq_eq_false_iff_ne]; exact k1
            by_cases k2 : kd = 2
            · subst k2
              have HOK2 := Lib.hid (show ok = (decide (p = 2) && decide (k = 5) && decide (g = 37) && decide (1 ≤ cl) && decide (cl ≤ 8) && risB 3 24 szs) by rw [HOK.out, n1, n2, n3, n4, if_neg (by decide), if_pos rfl]; rfl)
              clear k1 HOK
              by_cases e1 : p = 2
              · subst e1
                by_cases e2 : k = 5
                · subst e2
                  by_cases e3 : g = 37
                  · subst e3
                    rcases Bool.eq_false_or_eq_true (inB cl 1 8) with e4 | e4
                    · have hcl := inB_iff.1 e4
                      have HOK3 := Lib.hid (show ok = risB 3 24 szs by rw [HOK2.out, decide_eq_true hcl.1, decide_eq_true hcl.2]; simp)
                      go_enter Tryz.func179, Tryz.ntmps179
                      go_wp2_with fail
                      refine (isName_any nm _ ln).mono ?_
                      rw [n1]
                      rintro e w' ⟨rfl, rfl⟩
                      go_wp2_with fail
                      refine (inRange_any _ _ _ _).mono ?_
                      rw [n2]
                      rintro e w' ⟨rfl, rfl⟩
                      go_wp2_with fail
                      refine (inRange_any _ _ _ _).mono ?_
                      rw [n3]
                      rintro e w' ⟨rfl, rfl⟩
                      go_wp2_with fail
                      refine (rises_any 1 80 a2 lvs c2 _ (H2.out.below (ba1 _ _)) (by omega)).mono ?_
                      rw [n4]
                      rintro e w' ⟨rfl, rfl⟩
                      go_wp2_with fail
                      refine (fieldOf_32 _).mono ?_
                      rintro e w2 ⟨rfl, hb2⟩
                      have hbox := box1 hb2
                      have hz : w.heap.size < w2.heap.size := by have := hb2.size; simp at this; omega
                      have HB2 := Lib.hid (bt1 hb2)
                      clear hb2
                      go_wp2_with fail
                      refine (inRange_any _ _ _ _).mono ?_
                      rw [e4]
                      rintro e w' ⟨rfl, rfl⟩
                      go_wp2_with fail
                      refine (rises_any 3 24 a1 szs c1 _ (H1.out.below (bt0 HB2.out (ba1 _ _) (Nat.le_refl _))) (by omega)).mono ?_
                      rintro e w' ⟨rfl, rfl⟩
                      go_wp2_with fail
                      go_ret
                      exact ⟨ret_bool HOK3.out.symm, bt0 HB2.out (ba1 _ _) (Nat.le_refl _)⟩
                    · have hcl := inB_not.1 e4
                      have HOK3 := Lib.hid (show ok = false by rw [HOK2.out]; rcases hcl with h | h <;> simp <;> omega)
                      go_enter Tryz.func179, Tryz.ntmps179
                      go_wp2_with fail
                      refine (isName_any nm _ ln).mono ?_
                      rw [n1]
                      rintro e w' ⟨rfl, rfl⟩
                      go_wp2_with fail
                      refine (inRange_any _ _ _ _).mono ?_
                      rw [n2]
                      rintro e w' ⟨rfl, rfl⟩
                      go_wp2_with fail
                      refine (inRange_any _ _ _ _).mono ?_
                      rw [n3]
                      rintro e w' ⟨rfl, rfl⟩
                      go_wp2_with fail
                      refine (rises_any 1 80 a2 lvs c2 _ (H2.out.below (ba1 _ _)) (by omega)).mono ?_
                      rw [n4]
                      rintro e w' ⟨rfl, rfl⟩
                      go_wp2_with fail
                      refine (fieldOf_32 _).mono ?_
                      rintro e w2 ⟨rfl, hb2⟩
                      have hbox := box1 hb2
                      have hz : w.heap.size < w2.heap.size := by have := hb2.size; simp at this; omega
                      have HB2 := Lib.hid (bt1 hb2)
                      clear hb2
                      go_wp2_with fail
                      refine (inRange_any _ _ _ _).mono ?_
                      rw [e4]
                      rintro e w' ⟨rfl, rfl⟩
                      go_wp2_with fail
                      go_ret
                      exact ⟨ret_bool HOK3.out.symm, bt0 HB2.out (ba1 _ _) (Nat.le_refl _)⟩
                  · have HOK3 := Lib.hid (show ok = false by rw [HOK2.out, decide_eq_false e3]; simp)
                    go_enter Tryz.func179, Tryz.ntmps179
                    go_wp2_with fail
                    refine (isName_any nm _ ln).mono ?_
                    rw [n1]
                    rintro e w' ⟨rfl, rfl⟩
                    go_wp2_with fail
                    refine (inRange_any _ _ _ _).mono ?_
                    rw [n2]
                    rintro e w' ⟨rfl, rfl⟩
                    go_wp2_with fail
                    refine (inRange_any _ _ _ _).mono ?_
                    rw [n3]
                    rintro e w' ⟨rfl, rfl⟩
                    go_wp2_with fail
                    refine (rises_any 1 80 a2 lvs c2 _ (H2.out.below (ba1 _ _)) (by omega)).mono ?_
                    rw [n4]
                    rintro e w' ⟨rfl, rfl⟩
                    go_wp2_with fail
                    refine (fieldOf_32 _).mono ?_
                    rintro e w2 ⟨rfl, hb2⟩
                    have hbox := box1 hb2
                    have hz : w.heap.size < w2.heap.size := by have := hb2.size; simp at this; omega
                    have HB2 := Lib.hid (bt1 hb2)
                    clear hb2
                    go_wp2_with fail
                    go_ret
                    exact ⟨ret_bool HOK3.out.symm, bt0 HB2.out (ba1 _ _) (Nat.le_refl _)⟩
                · have HOK3 := Lib.hid (show ok = false by rw [HOK2.out, decide_eq_false e2]; simp)
                  go_enter Tryz.func179, Tryz.ntmps179
                  go_wp2_with fail
                  refine (isName_any nm _ ln).mono ?_
                  rw [n1]
                  rintro e w' ⟨rfl, rfl⟩
                  go_wp2_with fail
                  refine (inRange_any _ _ _ _).mono ?_
                  rw [n2]
                  rintro e w' ⟨rfl, rfl⟩
                  go_wp2_with fail
                  refine (inRange_any _ _ _ _).mono ?_
                  rw [n3]
                  rintro e w' ⟨rfl, rfl⟩
                  go_wp2_with fail
                  refine (rises_any 1 80 a2 lvs c2 _ (H2.out.below (ba1 _ _)) (by omega)).mono ?_
                  rw [n4]
                  rintro e w' ⟨rfl, rfl⟩
                  go_wp2_with fail
                  refine (fieldOf_32 _).mono ?_
                  rintro e w2 ⟨rfl, hb2⟩
                  have hbox := box1 hb2
                  have hz : w.heap.size < w2.heap.size := by have := hb2.size; simp at this; omega
                  have HB2 := Lib.hid (bt1 hb2)
                  clear hb2
                  go_wp2_with fail
                  go_ret
                  exact ⟨ret_bool HOK3.out.symm, bt0 HB2.out (ba1 _ _) (Nat.le_refl _)⟩
              · have HOK3 := Lib.hid (show ok = false by rw [HOK2.out, decide_eq_false e1]; simp)
                go_enter Tryz.func179, Tryz.ntmps179
                go_wp2_with fail
                refine (isName_any nm _ ln).mono ?_
                rw [n1]
                rintro e w' ⟨rfl, rfl⟩
                go_wp2_with fail
                refine (inRange_any _ _ _ _).mono ?_
                rw [n2]
                rintro e w' ⟨rfl, rfl⟩
                go_wp2_with fail
                refine (inRange_any _ _ _ _).mono ?_
                rw [n3]
                rintro e w' ⟨rfl, rfl⟩
                go_wp2_with fail
                refine (rises_any 1 80 a2 lvs c2 _ (H2.out.below (ba1 _ _)) (by omega)).mono ?_
                rw [n4]
                rintro e w' ⟨rfl, rfl⟩
                go_wp2_with fail
                refine (fieldOf_32 _).mono ?_
                rintro e w2 ⟨rfl, hb2⟩
                have hbox := box1 hb2
                have hz : w.heap.size < w2.heap.size := by have := hb2.size; simp at this; omega
                have HB2 := Lib.hid (bt1 hb2)
                clear hb2
                go_wp2_with fail
                go_ret
                exact ⟨ret_bool HOK3.out.symm, bt0 HB2.out (ba1 _ _) (Nat.le_refl _)⟩
            · have k2' : (kd == 2) = false := by rw [beq_eq_false_iff_ne]; exact k2
              have HOK2 := Lib.hid (show ok = false by rw [HOK.out, n1, n2, n3, n4, if_neg k1, if_neg k2]; rfl)
              clear k1 k2
              go_enter Tryz.func179, Tryz.ntmps179
              go_wp2_with fail
              refine (isName_any nm _ ln).mono ?_
              rw [n1]
              rintro e w' ⟨rfl, rfl⟩
              go_wp2_with fail
              refine (inRange_any _ _ _ _).mono ?_
              rw [n2]
              rintro e w' ⟨rfl, rfl⟩
              go_wp2_with fail
              refine (inRange_any _ _ _ _).mono ?_
              rw [n3]
              rintro e w' ⟨rfl, rfl⟩
              go_wp2_with fail
              refine (rises_any 1 80 a2 lvs c2 _ (H2.out.below (ba1 _ _)) (by omega)).mono ?_
              rw [n4]
              rintro e w' ⟨rfl, rfl⟩
              go_wp2_with fail
              go_ret
              exact ⟨ret_bool HOK2.out.symm, ba1 _ _⟩
        · have HOK2 := Lib.hid (show ok = false by rw [HOK.out, n4]; simp)
          go_enter Tryz.func179, Tryz.ntmps179
          go_wp2_with fail
          refine (isName_any nm _ ln).mono ?_
          rw [n1]
          rintro e w' ⟨rfl, rfl⟩
          go_wp2_with fail
          refine (inRange_any _ _ _ _).mono ?_
          rw [n2]
          rintro e w' ⟨rfl, rfl⟩
          go_wp2_with fail
          refine (inRange_any _ _ _ _).mono ?_
          rw [n3]
          rintro e w' ⟨rfl, rfl⟩
          go_wp2_with fail
          refine (rises_any 1 80 a2 lvs c2 _ (H2.out.below (ba1 _ _)) (by omega)).mono ?_
          rw [n4]
          rintro e w' ⟨rfl, rfl⟩
          go_wp2_with fail
          go_ret
          exact ⟨ret_bool HOK2.out.symm, ba1 _ _⟩
      · have HOK2 := Lib.hid (show ok = false by rw [HOK.out, n3]; simp)
        go_enter Tryz.func179, Tryz.ntmps179
        go_wp2_with fail
        refine (isName_any nm _ ln).mono ?_
        rw [n1]
        rintro e w' ⟨rfl, rfl⟩
        go_wp2_with fail
        refine (inRange_any _ _ _ _).mono ?_
        rw [n2]
        rintro e w' ⟨rfl, rfl⟩
        go_wp2_with fail
        refine (inRange_any _ _ _ _).mono ?_
        rw [n3]
        rintro e w' ⟨rfl, rfl⟩
        go_wp2_with fail
        go_ret
        exact ⟨ret_bool HOK2.out.symm, ba1 _ _⟩
    · have HOK2 := Lib.hid (show ok = false by rw [HOK.out, n2]; simp)
      go_enter Tryz.func179, Tryz.ntmps179
      go_wp2_with fail
      refine (isName_any nm _ ln).mono ?_
      rw [n1]
      rintro e w' ⟨rfl, rfl⟩
      go_wp2_with fail
      refine (inRange_any _ _ _ _).mono ?_
      rw [n2]
      rintro e w' ⟨rfl, rfl⟩
      go_wp2_with fail
      go_ret
      exact ⟨ret_bool HOK2.out.symm, ba1 _ _⟩
  · have HOK2 := Lib.hid (show ok = false by rw [HOK.out, n1]; simp)
    go_enter Tryz.func179, Tryz.ntmps179
    go_wp2_with fail
    refine (isName_any nm _ ln).mono ?_
    rw [n1]
    rintro e w' ⟨rfl, rfl⟩
    go_wp2_with fail
    go_ret
    exact ⟨ret_bool HOK2.out.symm, ba1 _ _⟩

end Go.Proofs.YtlcglclojlffgaaGreatDoor
namespace Go.Proofs.YtlcglclojlffgaaGreatDoor
open Go.RowKit

set_option maxHeartbeats 400000 in
theorem fieldSize_any {p k g : Int} {F : Fd} (h : FV p k g F) (w : World) :
    Calls Tryz.prog 196 #[.agg #[.int .i64 p, .int .i64 k, .int .i64 g]] w fun e w' => e = .returned (.int .i64 F.q) ∧ Below w.heap.size w w' := by
  have H := Lib.hid h
  clear h
  go_enter Tryz.func196, Tryz.ntmps196
  go_wp2_with fail
  refine (calc_fv H.out _).mono ?_
  rintro e w1 ⟨hb1, a1, rfl, ha⟩
  obtain ⟨b, rfl, -, hA⟩ := ha rfl
  have hqc := hA.cell.2.1
  have HB := Lib.hid (bt1 hb1)
  clear hb1 ha hA
  go_wp2_with fail
  go_ret
  exact ⟨rfl, HB.out⟩
set_option maxHeartbeats 400000 in
theorem fieldWidth_any {p k g : Int} {F : Fd} (h : FV p k g F) (w : World) :
    Calls Tryz.prog 209 #[.agg #[.int .i64 p, .int .i64 k, .int .i64 g]] w fun e w' => e = .returned (.int .i64 F.k) ∧ Below w.heap.size w w' := by
  have H := Lib.hid h
  clear h
  go_enter Tryz.func209, Tryz.ntmps209
  go_wp2_with fail
  refine (calc_fv H.out _).mono ?_
  rintro e w1 ⟨hb1, a1, rfl, ha⟩
  obtain ⟨b, rfl, -, hA⟩ := ha rfl
  have HA := Lib.hid hA
  have HB := Lib.hid (bt1 hb1)
  clear hb1 ha hA
  go_wp2_with fail
  refine (width_any F H.out.fd b _ HA.out).mono ?_
  rintro e w2 h2
  obtain ⟨rfl, hb2⟩ := h2.below
  have HB2 := Lib.hid (bt0 HB.out hb2 (Nat.le_refl _))
  clear h2 hb2
  go_wp2_with fail
  go_ret
  exact ⟨rfl, HB2.out⟩

end Go.Proofs.YtlcglclojlffgaaGreatDoor
namespace Go.Proofs.YtlcglclojlffgaaGreatDoor
open Go.RowKit

/-- what a valid family says in numbers -/
theorem fam_ok {nm : ByteArray} {kd p k g : Int} {szs : List Int} {cl : Int} {lvs : List Int} (h : Fam.ok ⟨nm, kd, p, k, g, szs, cl, lvs⟩ = true) :
    fldB p k g = true ∧ (1 ≤ lvs.length ∧ lvs.length ≤ 4) ∧ risB 1 80 lvs = true ∧ (1 ≤ szs.length ∧ szs.length ≤ 8) ∧
      ((kd = 1 ∧ szs.all msz = true ∧ cl = 0) ∨ (kd = 2 ∧ p = 2 ∧ k = 5 ∧ g = 37 ∧ (1 ≤ cl ∧ cl ≤ 8) ∧ risB 3 24 szs = true)) := by
  simp only [Fam.ok, Bool.and_eq_true, decide_eq_true_eq] at h
  obtain ⟨⟨⟨⟨⟨⟨h1, h2⟩, h3⟩, h4⟩, h5⟩, h6⟩, h7⟩ := h
  by_cases k1 : kd = 1
  · rw [if_pos k1] at h7
    simp only [Bool.and_eq_true, decide_eq_true_eq] at h7
    obtain ⟨⟨⟨h8, h9⟩, h10⟩, h11⟩ := h7
    exact ⟨h9, ⟨h2, h3⟩, h4, ⟨h5, h6⟩, .inl ⟨k1, h8, h10⟩⟩
  · rw [if_neg k1] at h7
    by_cases k2 : kd = 2
    · rw [if_pos k2] at h7
      simp only [Bool.and_eq_true, decide_eq_true_eq] at h7
      obtain ⟨⟨⟨⟨⟨h8, h9⟩, h10⟩, h11⟩, h12⟩, h13⟩ := h7
      subst h8 h9 h10
      exact ⟨least5.2.2.2.2.1, ⟨h2, h3⟩, h4, ⟨h5, h6⟩, .inr ⟨k2, rfl, rfl, rfl, ⟨h11, h12⟩, h13⟩⟩
    · rw [if_neg k2] at h7
      cases h7
theorem ris_in {lo hi : Int} {l : List Int} (h : risB lo hi l = true) {x : Int} (hx : x ∈ l) : lo ≤ x ∧ x ≤ hi := by
  rw [risB, decide_eq_true_eq] at h
  obtain ⟨i, hi', rfl⟩ := List.mem_iff_getElem.1 hx
  have h1 := (h i hi').1
  rwa [List.getD_eq_getElem?_getD, List.getElem?_eq_getElem hi'] at h1
theorem hasI_mem {xs : List Int} {n : Int} (h : hasI xs n = true) : n ∈ xs := by simpa [hasI] using h
/-- the number of elements: bounds -/
theorem elems_bd {nm : ByteArray} {kd p k g : Int} {szs : List Int} {cl : Int} {lvs : List Int} {n : Int} (h : Fam.ok ⟨nm, kd, p, k, g, szs, cl, lvs⟩ = true) (hn : hasI szs n = true) :
    3 ≤ Fam.elems ⟨nm, kd, p, k, g, szs, cl, lvs⟩ n ∧ Fam.elems ⟨nm, kd, p, k, g, szs, cl, lvs⟩ n ≤ 1408 := by
  obtain ⟨h1, h2, h3, h4, h5⟩ := fam_ok h
  have hf := fldB_ok h1
  have hk := hf.k
  have hk3 := hf.k3
  have hk8 := hf.k8
  have hm := hasI_mem hn
  unfold Fam.elems
  dsimp only
  rcases h5 with ⟨rfl, h6, h7⟩ | ⟨rfl, -, -, -, h6, h7⟩
  · rw [if_neg (by decide)]
    have hd := dcnt_bd n
    rw [hk]
    obtain ⟨K, hK⟩ : ∃ K, K = (bF k.toNat g.toNat).k := ⟨_, rfl⟩
    rw [← hK] at hk3 hk8 ⊢
    have e : ((dcnt n : Int) / (K : Int)) = ((dcnt n / K : Nat) : Int) := by push_cast; rfl
    rw [e]
    have h8 : 8 * K ≤ dcnt n := by omega
    have h9 : 8 ≤ dcnt n / K := (Nat.le_div_iff_mul_le (by omega)).2 h8
    have h10 := Nat.div_le_self (dcnt n) K
    omega
  · rw [if_pos rfl]
    have h8 := ris_in h7 hm
    have h9 : 3 * 1 ≤ n * cl := Int.mul_le_mul h8.1 h6.1 (by omega) (by omega)
    have h10 : n * cl ≤ 24 * 8 := Int.mul_le_mul h8.2 h6.2 (by omega) (by omega)
    omega

set_option maxRecDepth 100000 in
set_option maxHeartbeats 2000000 in
theorem elements_any (nm : ByteArray) (kd p k g : Int) (a1 : Option Addr) (szs : List Int) (c1 : Nat) (cl : Int) (a2 : Option Addr) (lvs : List Int) (c2 : Nat) (n : Int) (w : World) (h : Fam.ok ⟨nm, kd, p, k, g, szs, cl, lvs⟩ = true) (hn : hasI szs n = true) :
    Calls Tryz.prog 195 #[(.agg #[.string nm, .int .i64 kd, .int .i64 p, .int .i64 k, .int .i64 g, .slice a1 szs.length c1, .int .i64 cl, .slice a2 lvs.length c2]), .int .i64 n] w fun e w' => e = .returned (.int .i64 (Fam.elems ⟨nm, kd, p, k, g, szs, cl, lvs⟩ n)) ∧ Below w.heap.size w w' := by
  have hbd := elems_bd h hn
  obtain ⟨E, hE⟩ : ∃ E, E = Fam.elems ⟨nm, kd, p, k, g, szs, cl, lvs⟩ n := ⟨_, rfl⟩
  rw [← hE] at hbd ⊢
  obtain ⟨h1, h2, h3, h4, h5⟩ := fam_ok h
  have hm := hasI_mem hn
  unfold Fam.elems at hE
  dsimp only at hE
  have HE := Lib.hid hE
  clear hE
  rcases h5 with ⟨rfl, h6, h7⟩ | ⟨rfl, -, -, -, h6, h7⟩
  · have HS := Lib.hid (List.all_eq_true.1 h6 n hm)
    have hb := msz_bd HS.out
    rw [if_neg (by decide)] at HE
    have HF := Lib.hid (fv_of h1)
    have hk := HF.out.ok.k
    have hk3 := HF.out.ok.k3
    have hk8 := HF.out.ok.k8
    obtain ⟨F, hFe⟩ : ∃ F, F = bF k.toNat g.toNat := ⟨_, rfl⟩
    rw [← hFe] at HF hk hk3 hk8
    have HK := Lib.hid hk
    have hd := dcnt_bd n
    obtain ⟨D, hD⟩ : ∃ D, D = dcnt n := ⟨_, rfl⟩
    rw [← hD] at hd HE
    have HD := Lib.hid (show (if msz n = true then (dcnt n : Int) else 0) = (D : Int) by rw [if_pos HS.out, hD])
    obtain ⟨K, hKe⟩ : ∃ K, K = F.k := ⟨_, rfl⟩
    rw [← hKe] at hk3 hk8 HK
    have HKe := Lib.hid hKe
    rw [HK.out] at HE
    have hq : (0 : Int) ≤ (D : Int) / (K : Int) ∧ (D : Int) / (K : Int) ≤ 1408 := by rw [← HE.out]; omega
    have hK0 : ((K : Int) == 0) = false := by rw [beq_eq_false_iff_ne]; omega
    clear h1 h2 h3 h4 h6 h7 hm hk hFe hD hKe
    go_enter Tryz.func195, Tryz.ntmps195
    go_wp2_with fail
    refine wp_region_ext (by kernel_rfl) (by kernel_rfl) ?_
    repeat (go_big_quiet_step ((first
      | ((go_at_call 208; go_must (refine calls_ext _ ((dataCount_any n _ (by omega) (by omega)).mono (R' := fun e w' => e = .returned (.int .i64 (D : Int)) ∧ _) (fun e w' h => ⟨by rw [h.1, HD.out], h.2⟩)))))
      | ((go_at_call 209; go_must (refine calls_ext _ ((fieldWidth_any HF.out _).mono (R' := fun e w' => e = .returned (.int .i64 (K : Int)) ∧ _) (fun e w' h => ⟨by rw [h.1, HKe.out], h.2⟩))))))))
    refine wpQuiet_nil ?_
    rintro _ ⟨s, rfl⟩
    go_wp2_with fail
    go_ret
    exact ⟨ret_int HE.out.symm, bt0 (ba1 _ _) s.below (Nat.le_refl _)⟩
  · rw [if_pos rfl] at HE
    have HW := Lib.hid (show wrap64 (n * cl) = E by rw [← HE.out]; unfold wrap64; omega)
    clear h1 h2 h3 h4 h6 h7 hm
    go_enter Tryz.func195, Tryz.ntmps195
    go_wp2_with fail
    go_ret
    exact ⟨ret_int HW.out, ba1 _ _⟩

end Go.Proofs.YtlcglclojlffgaaGreatDoor
namespace Go.Proofs.YtlcglclojlffgaaGreatDoor
open Go.RowKit

/-- what the reference says of a family's kind -/
def kindB (kd p k g : Int) (szs : List Int) (cl : Int) : Bool :=
  if kd = 2 then decide (p = 2 ∧ k = 5 ∧ g = 37) && inB cl 1 8 && risS 8 3 24 szs
  else decide (kd = 1) && fldB p k g && decide (cl = 0) && risS 8 17 41 szs && szs.all fun x => x % 4 == 1
theorem fam_eq (nm : ByteArray) (kd p k g : Int) (szs : List Int) (cl : Int) (lvs : List Int) :
    Fam.ok ⟨nm, kd, p, k, g, szs, cl, lvs⟩ = (nameB nm.data.toList && risS 4 1 80 lvs && kindB kd p k g szs cl) := by
  have hm : risB 17 41 szs = true → szs.all msz = szs.all fun x => x % 4 == 1 := fun h => by
    rw [Bool.eq_iff_iff, List.all_eq_true, List.all_eq_true]
    constructor
    · intro h2 x hx
      have := h2 x hx
      simp only [msz, Bool.and_eq_true] at this
      exact this.2
    · intro h2 x hx
      have h3 := ris_in h hx
      simp only [msz, Bool.and_eq_true, decide_eq_true_eq]
      exact ⟨h3, h2 x hx⟩
  rw [Bool.eq_iff_iff]
  simp only [Fam.ok, kindB, risS, Bool.and_eq_true, decide_eq_true_eq]
  by_cases k1 : kd = 1
  · have k2 : ¬ kd = 2 := by omega
    rw [if_pos k1, if_neg k2]
    simp only [Bool.and_eq_true, decide_eq_true_eq]
    constructor
    · rintro ⟨⟨⟨⟨⟨⟨h1, h2⟩, h3⟩, h4⟩, h5⟩, h6⟩, ⟨⟨h7, h8⟩, h9⟩, h10⟩
      exact ⟨⟨h1, ⟨h2, h3⟩, h4⟩, ⟨⟨⟨k1, h8⟩, h9⟩, ⟨h5, h6⟩, h10⟩, by rw [← hm h10]; exact h7⟩
    · rintro ⟨⟨h1, ⟨h2, h3⟩, h4⟩, ⟨⟨⟨-, h8⟩, h9⟩, ⟨h5, h6⟩, h10⟩, h7⟩
      exact ⟨⟨⟨⟨⟨⟨h1, h2⟩, h3⟩, h4⟩, h5⟩, h6⟩, ⟨⟨by rw [hm h10]; exact h7, h8⟩, h9⟩, h10⟩
  · rw [if_neg k1]
    by_cases k2 : kd = 2
    · rw [if_pos k2, if_pos k2]
      simp only [Bool.and_eq_true, decide_eq_true_eq, inB]
      constructor
      · rintro ⟨⟨⟨⟨⟨⟨h1, h2⟩, h3⟩, h4⟩, h5⟩, h6⟩, ⟨⟨⟨⟨h7, h8⟩, h9⟩, h10⟩, h11⟩, h12⟩
        exact ⟨⟨h1, ⟨h2, h3⟩, h4⟩, ⟨⟨h7, h8, h9⟩, h10, h11⟩, ⟨h5, h6⟩, h12⟩
      · rintro ⟨⟨h1, ⟨h2, h3⟩, h4⟩, ⟨⟨h7, h8, h9⟩, h10, h11⟩, ⟨h5, h6⟩, h12⟩
        exact ⟨⟨⟨⟨⟨⟨h1, h2⟩, h3⟩, h4⟩, h5⟩, h6⟩, ⟨⟨⟨⟨h7, h8⟩, h9⟩, h10⟩, h11⟩, h12⟩
    · rw [if_neg k2, if_neg k2]
      simp [k1]
theorem kind_fld {kd p k g : Int} {szs : List Int} {cl : Int} (h : fldB p k g = false) : kindB kd p k g szs cl = false := by
  unfold kindB
  split
  · have : ¬ (p = 2 ∧ k = 5 ∧ g = 37) := by
      rintro ⟨rfl, rfl, rfl⟩
      have h2 : fldB 2 5 37 = true := least5.2.2.2.2.1
      rw [h2] at h; cases h
    rw [decide_eq_false this]; rfl
  · rw [h]; simp
set_option maxRecDepth 100000 in
set_option maxHeartbeats 4000000 in
theorem spFamily_any (nm : ByteArray) (kd p k g : Int) (a1 : Option Addr) (szs : List Int) (c1 : Nat) (cl : Int) (a2 : Option Addr) (lvs : List Int) (c2 : Nat) (w : World) (h1 : IntsAt w a1 szs) (h2 : IntsAt w a2 lvs) (l1 : szs.length ≤ 1048576) (l2 : lvs.length ≤ 1048576) (ln : nm.size ≤ 1048576) :
    Calls Tryz.prog 89 #[(.agg #[.string nm, .int .i64 kd, .int .i64 p, .int .i64 k, .int .i64 g, .slice a1 szs.length c1, .int .i64 cl, .slice a2 lvs.length c2])] w fun e w' => e = .returned (.bool (Fam.ok ⟨nm, kd, p, k, g, szs, cl, lvs⟩)) ∧ Below w.heap.size w w' := by
  have H1 := Lib.hid h1
  have H2 := Lib.hid h2
  obtain ⟨ok, hok⟩ : ∃ ok, ok = Fam.ok ⟨nm, kd, p, k, g, szs, cl, lvs⟩ := ⟨_, rfl⟩
  rw [← hok]
  have HOK := Lib.hid (hok.trans (fam_eq nm kd p k g szs cl lvs))
  clear h1 h2 hok
  go_enter Tryz.func89, Tryz.ntmps89
  go_wp2_with fail
  have hz := push_at w (.cells #[.string nm, .int .i64 kd, .int .i64 p, .int .i64 k, .int .i64 g, .slice a1 szs.length c1, .int .i64 cl, .slice a2 lvs.length c2] 123 (0, 0))
  have HB0 := Lib.hid (ba1 w (.cells #[.string nm, .int .i64 kd, .int .i64 p, .int .i64 k, .int .i64 g, .slice a1 szs.length c1, .int .i64 cl, .slice a2 lvs.length c2] 123 (0, 0)))
  obtain ⟨w1, hw1⟩ : ∃ w1, w1 = w.alloc (.cells #[.string nm, .int .i64 kd, .int .i64 p, .int .i64 k, .int .i64 g, .slice a1 szs.length c1, .int .i64 cl, .slice a2 lvs.length c2] 123 (0, 0)) := ⟨_, rfl⟩
  rw [← hw1] at hz HB0 ⊢
  have HX1 := Lib.hid hz
  obtain ⟨hcA, hfA⟩ := heap_cellR hz
  have hltA := blkLt hz
  clear hw1 hz
  refine (spName_any nm w1 ln).mono ?_
  rintro e w2 ⟨rfl, rfl⟩
  rcases Bool.eq_false_or_eq_true (nameB nm.data.toList) with n1 | n1
  · rw [n1]
    go_wp2_with fail
    refine (spField_any p k g w1).mono ?_
    rintro e w2 ⟨b, rfl, hb1, hb2, hb3⟩
    have HX2 := Lib.hid (blkK hb3 HX1.out)
    have HB2 := Lib.hid (bt0 HB0.out hb3 (Nat.le_refl _))
    clear hb3 hcA hfA hltA
    obtain ⟨hcA, hfA⟩ := heap_cellR HX2.out
    have hltA := blkLt HX2.out
    cases b with
    | false =>
      have HE := Lib.hid (show ok = false by
        rw [HOK.out, kind_fld, Bool.and_false]
        by_cases hk : k = 1
        · rw [hk, fldB_1]
        · exact (hb1 hk).symm)
      clear hb1 hb2
      go_wp2_with fail
      go_ret
      exact ⟨ret_bool HE.out.symm, HB2.out⟩
    | true =>
      have HBt := Lib.hid hb1
      have HBo := Lib.hid hb2
      clear hb1 hb2
      go_wp2_with fail
      refine (spRises_any 4 (by decide) 1 80 a2 lvs c2 w2 (H2.out.below HB2.out) (by omega)).mono ?_
      rintro e w3 ⟨rfl, n3, rfl⟩
      have HX3 := Lib.hid (blkK (below_drewN (Below.refl _ _) n3) HX2.out)
      have HB3 := Lib.hid (bt0 HB2.out (below_drewN (Below.refl _ _) n3) (Nat.le_refl _))
      obtain ⟨w3, hw3⟩ : ∃ w3, w3 = w2.drewN n3 := ⟨_, rfl⟩
      rw [← hw3] at HX3 HB3 ⊢
      clear hcA hfA hltA hw3
      obtain ⟨hcA, hfA⟩ := heap_cellR HX3.out
      have hltA := blkLt HX3.out
      rcases Bool.eq_false_or_eq_true (risS 4 1 80 lvs) with n2 | n2
      · rw [n2]
        have HOK2 := Lib.hid (show ok = kindB kd p k g szs cl by rw [HOK.out, n1, n2]; rfl)
        by_cases k2 : kd = 2
        · subst k2
          go_wp2_with fail
          refine (spFieldOf_32 w3).mono ?_
          rintro e w4 ⟨rfl, hb4⟩
          have HX4 := Lib.hid (blkK hb4 HX3.out)
          have HB4 := Lib.hid (bt0 HB3.out hb4 (Nat.le_refl _))
          clear hb4 hcA hfA hltA
          obtain ⟨hcA, hfA⟩ := heap_cellR HX4.out
          have hltA := blkLt HX4.out
          have HOK3 := Lib.hid (show ok = (decide (p = 2 ∧ k = 5 ∧ g = 37) && inB cl 1 8 && risS 8 3 24 szs) from HOK2.out)
          have HB5 := Lib.hid (bt0 HB4.out (ba1 w4 (.cells #[.int .i64 2, .int .i64 5, .int .i64 37] 121 (0, 0))) (Nat.le_refl _))
          have HX5 := Lib.hid (push_old (A := .cells #[.int .i64 2, .int .i64 5, .int .i64 37] 121 (0, 0)) HX4.out)
          by_cases e1 : p = 2
          · subst e1
            by_cases e2 : k = 5
            · subst e2
              by_cases e3 : g = 37
              · subst e3
                have HOK4 := Lib.hid (show ok = (inB cl 1 8 && risS 8 3 24 szs) by rw [HOK3.out]; rfl)
                go_wp2_with fail
                refine (spIn_any cl 1 8 _).mono ?_
                rintro e w5 ⟨rfl, rfl⟩
                rcases Bool.eq_false_or_eq_true (inB cl 1 8) with i1 | i1
                · rw [i1]
                  have HOK5 := Lib.hid (show ok = risS 8 3 24 szs by rw [HOK4.out, i1]; rfl)
                  obtain ⟨hcB, hfB⟩ := heap_cellR HX5.out
                  have hltB := blkLt HX5.out
                  go_wp2_with fail
                  refine (spRises_any 8 (by decide) 3 24 a1 szs c1 _ (H1.out.below HB5.out) (by omega)).mono ?_
                  rintro e w6 ⟨rfl, n6, rfl⟩
                  have HB6 := Lib.hid (bt0 HB5.out (below_drewN (Below.refl _ _) n6) (Nat.le_refl _))
                  rw [← HOK5.out]
                  go_wp2_with fail
                  go_ret
                  exact ⟨rfl, HB6.out⟩
                · rw [i1]
                  have HE := Lib.hid (show ok = false by rw [HOK4.out, i1]; rfl)
                  go_wp2_with fail
                  go_ret
                  exact ⟨ret_bool HE.out.symm, HB5.out⟩
              · have e3b : (g == 37) = false := by rw [beq_eq_false_iff_ne]; exact e3
                have HE := Lib.hid (show ok = false by rw [HOK3.out, decide_eq_false (fun h => e3 h.2.2)]; rfl)
                go_wp2_with fail
                go_ret
                exact ⟨ret_bool HE.out.symm, HB5.out⟩
            · have e2b : (k == 5) = false := by rw [beq_eq_false_iff_ne]; exact e2
              have HE := Lib.hid (show ok = false by rw [HOK3.out, decide_eq_false (fun h => e2 h.2.1)]; rfl)
              go_wp2_with fail
              go_ret
              exact ⟨ret_bool HE.out.symm, HB5.out⟩
          · have e1b : (p == 2) = false := by rw [beq_eq_false_iff_ne]; exact e1
            have HE := Lib.hid (show ok = false by rw [HOK3.out, decide_eq_false (fun h => e1 h.1)]; rfl)
            go_wp2_with fail
            go_ret
            exact ⟨ret_bool HE.out.symm, HB5.out⟩
        · have k2b : (kd == 2) = false := by rw [beq_eq_false_iff_ne]; exact k2
          have HOK3 := Lib.hid (HOK2.out.trans (if_neg k2))
          by_cases k1 : kd = 1
          · subst k1
            by_cases p2 : p = 2
            · subst p2
              have hf : fldB 2 k g = true := by
                have hk : k ≠ 1 := fun e => by have := HBo.out e trivial; omega
                exact (HBt.out hk).symm
              by_cases c0 : cl = 0
              · subst c0
                have HOK4 := Lib.hid (show ok = (risS 8 17 41 szs && szs.all fun x => x % 4 == 1) by rw [HOK3.out, hf]; rfl)
                clear hf
                go_wp2_with fail
                refine (spRises_any 8 (by decide) 17 41 a1 szs c1 w3 (H1.out.below HB3.out) (by omega)).mono ?_
                rintro e w4 ⟨rfl, n4, rfl⟩
                have HX4 := Lib.hid (blkK (below_drewN (Below.refl _ _) n4) HX3.out)
                have HB4 := Lib.hid (bt0 HB3.out (below_drewN (Below.refl _ _) n4) (Nat.le_refl _))
                obtain ⟨w4, hw4⟩ : ∃ w4, w4 = w3.drewN n4 := ⟨_, rfl⟩
                rw [← hw4] at HX4 HB4 ⊢
                clear hcA hfA hltA hw4
                obtain ⟨hcA, hfA⟩ := heap_cellR HX4.out
                have hltA := blkLt HX4.out
                have HI4 := Lib.hid (H1.out.below HB4.out)
                rcases Bool.eq_false_or_eq_true (risS 8 17 41 szs) with r1 | r1
                · rw [r1]
                  have HOK5 := Lib.hid (show ok = szs.all fun x => x % 4 == 1 by rw [HOK4.out, r1]; rfl)
                  have HRB := Lib.hid (show risB 17 41 szs = true by rw [risS, Bool.and_eq_true] at r1; exact r1.2)
                  go_wp2_with fail
                  go_loopw [5] (fun i wr => ∃ j : Nat, j ≤ szs.length ∧ i = .int .i64 j ∧ (szs.take j).all (fun x => x % 4 == 1) = true ∧ wr = w4) (fun i _ => szs.length - (intOf i).toNat)
                  case atStart => exact ⟨0, Nat.zero_le _, rfl, rfl, rfl⟩
                  case round =>
                    obtain ⟨j, hj, rfl, hall, rfl⟩ := hrel
                    have HA := Lib.hid hall
                    clear hall
                    by_cases hlt : j < szs.length
                    · obtain ⟨b1, o1, x, rfl, hxk, hb1, hc1⟩ := HI4.out.at hlt
                      have hji : (j : Int) < (szs.length : Int) := by omega
                      have hxr := ris_in HRB.out (List.mem_of_getElem? hxk)
                      have HXK := Lib.hid hxk
                      have htm : x.tmod 4 = x % 4 := Int.tmod_eq_emod_of_nonneg (by omega)
                      have hwr : IntKind.i64.wrap (x % 4) = x % 4 := by rw [IntKind.wrap_i64]; omega
                      clear hxk
                      cases hm : (x % 4 == 1) with
                      | true =>
                        have hmb : (x % 4 != 1) = false := by rw [bne, hm]; rfl
                        have HAL := Lib.hid (show (szs.take (j + 1)).all (fun x => x % 4 == 1) = true by rw [take_snoc' HXK.out, List.all_append, HA.out]; simp [hm])
                        clear hm
                        go_wp2_with fail
                        exact ⟨⟨j + 1, by omega, by push_cast; rfl, HAL.out, trivial⟩, by simp [intOf]; omega⟩
                      | false =>
                        have hmb : (x % 4 != 1) = true := by rw [bne, hm]; rfl
                        have HE := Lib.hid (show ok = false by
                          rw [HOK5.out, List.all_eq_false]
                          exact ⟨x, List.mem_of_getElem? HXK.out, by simp [hm]⟩)
                        clear hm
                        go_wp2_with fail
                        go_ret
                        exact ⟨ret_bool HE.out.symm, HB4.out⟩
                    · have hji : ¬ (j : Int) < (szs.length : Int) := by omega
                      have HE := Lib.hid (show ok = true by
                        have h1 := HA.out
                        rw [List.take_of_length_le (by omega)] at h1
                        rw [HOK5.out, h1])
                      go_wp2_with fail
                      go_ret
                      exact ⟨ret_bool HE.out.symm, HB4.out⟩
                · rw [r1]
                  have HE := Lib.hid (show ok = false by rw [HOK4.out, r1]; rfl)
                  go_wp2_with fail
                  go_ret
                  exact ⟨ret_bool HE.out.symm, HB4.out⟩
              · have c0b : (cl != 0) = true := by rw [bne_iff_ne]; exact c0
                have HE := Lib.hid (show ok = false by rw [HOK3.out, decide_eq_false c0]; simp)
                clear hf
                go_wp2_with fail
                go_ret
                exact ⟨ret_bool HE.out.symm, HB3.out⟩
            · have p2b : (p != 2) = true := by rw [bne_iff_ne]; exact p2
              have HE := Lib.hid (show ok = false by rw [HOK3.out, fldB, decide_eq_false p2]; simp)
              go_wp2_with fail
              go_ret
              exact ⟨ret_bool HE.out.symm, HB3.out⟩
          · have k1b : (kd != 1) = true := by rw [bne_iff_ne]; exact k1
            have HE := Lib.hid (show ok = false by rw [HOK3.out, decide_eq_false k1]; rfl)
            go_wp2_with fail
            go_ret
            exact ⟨ret_bool HE.out.symm, HB3.out⟩
      · rw [n2]
        have HE := Lib.hid (show ok = false by rw [HOK.out, n2]; simp)
        go_wp2_with fail
        go_ret
        exact ⟨ret_bool HE.out.symm, HB3.out⟩
  · rw [n1]
    have HE := Lib.hid (show ok = false by rw [HOK.out, n1]; rfl)
    go_wp2_with fail
    go_ret
    exact ⟨ret_bool HE.out.symm, HB0.out⟩

end Go.Proofs.YtlcglclojlffgaaGreatDoor
namespace Go.Proofs.YtlcglclojlffgaaGreatDoor
open Go.RowKit

set_option maxRecDepth 100000 in
theorem spHas_any (a : Option Addr) (xs : List Int) (c : Nat) (n : Int) (w : World) (hx : IntsAt w a xs) (lx : xs.length ≤ 1099511627776) :
    Calls Tryz.prog 123 #[.slice a xs.length c, .int .i64 n] w fun e w' => e = .returned (.bool (hasI xs n)) ∧ w = w' := by
  have HX := Lib.hid hx
  clear hx
  go_enter Tryz.func123, Tryz.ntmps123
  go_wp2_with fail
  go_loopw [5] (fun i wr => ∃ k : Nat, k ≤ xs.length ∧ i = .int .i64 k ∧ (∀ j, j < k → xs.getD j 0 ≠ n) ∧ wr = w) (fun i _ => xs.length - (intOf i).toNat)
  case atStart => exact ⟨0, Nat.zero_le _, rfl, fun j h => by omega, rfl⟩
  case round =>
    obtain ⟨k, hk, rfl, hall, rfl⟩ := hrel
    have HA := Lib.hid hall
    clear hall
    by_cases hlt : k < xs.length
    · obtain ⟨b1, o1, x, rfl, hxk, hb1, hc1⟩ := HX.out.at hlt
      have hki : (k : Int) < (xs.length : Int) := by omega
      have HG := Lib.hid (getD_of hxk)
      have HXK := Lib.hid hxk
      clear hxk
      by_cases hxn : x = n
      · subst hxn
        have HE := Lib.hid (show hasI xs x = true by rw [hasI, List.contains_iff_mem]; exact List.mem_of_getElem? HXK.out)
        go_wp2_with fail
        go_ret
        exact ⟨ret_bool HE.out.symm, rfl⟩
      · have hxb : (x == n) = false := by rw [beq_eq_false_iff_ne]; exact hxn
        have HK : Hid (∀ j, j < k + 1 → xs.getD j 0 ≠ n) := Lib.hid (fun j hj => by
          by_cases e : j = k
          · subst e; rw [HG.out]; exact hxn
          · exact HA.out j (by omega))
        clear hxn
        go_wp2_with fail
        exact ⟨⟨k + 1, by omega, by push_cast; rfl, HK.out, trivial⟩, by simp [intOf]; omega⟩
    · have hki : ¬ (k : Int) < (xs.length : Int) := by omega
      have HE := Lib.hid (hasI_no (fun j hj => HA.out j (by omega)))
      go_wp2_with fail
      go_ret
      exact ⟨ret_bool HE.out.symm, rfl⟩
/-- the code of a family and a size -/
def famC (f : Fam) (n : Int) : Int := if f.ok = true then (if hasI f.sizes n = true then 0 else 2) else 1
set_option maxRecDepth 100000 in
set_option maxHeartbeats 1000000 in
theorem spCode_any (nm : ByteArray) (kd p k g : Int) (a1 : Option Addr) (szs : List Int) (c1 : Nat) (cl : Int) (a2 : Option Addr) (lvs : List Int) (c2 : Nat) (n : Int) (w : World) (h1 : IntsAt w a1 szs) (h2 : IntsAt w a2 lvs) (l1 : szs.length ≤ 1048576) (l2 : lvs.length ≤ 1048576) (ln : nm.size ≤ 1048576) :
    Calls Tryz.prog 109 #[(.agg #[.string nm, .int .i64 kd, .int .i64 p, .int .i64 k, .int .i64 g, .slice a1 szs.length c1, .int .i64 cl, .slice a2 lvs.length c2]), .int .i64 n] w fun e w' => e = .returned (.int .i64 (famC ⟨nm, kd, p, k, g, szs, cl, lvs⟩ n)) ∧ Below w.heap.size w w' := by
  have H1 := Lib.hid h1
  have H2 := Lib.hid h2
  obtain ⟨f, hf⟩ : ∃ f, f = Fam.mk nm kd p k g szs cl lvs := ⟨_, rfl⟩
  have HFI := Lib.hid (fun w (h1 : IntsAt w a1 szs) (h2 : IntsAt w a2 lvs) => spFamily_any nm kd p k g a1 szs c1 cl a2 lvs c2 w h1 h2 l1 l2 ln)
  rw [← hf] at HFI ⊢
  have HS := Lib.hid (show f.sizes = szs by rw [hf])
  clear h1 h2 hf
  go_enter Tryz.func109, Tryz.ntmps109
  go_wp2_with fail
  have hz := push_at w (.cells #[.string nm, .int .i64 kd, .int .i64 p, .int .i64 k, .int .i64 g, .slice a1 szs.length c1, .int .i64 cl, .slice a2 lvs.length c2] 123 (0, 0))
  have HB0 := Lib.hid (ba1 w (.cells #[.string nm, .int .i64 kd, .int .i64 p, .int .i64 k, .int .i64 g, .slice a1 szs.length c1, .int .i64 cl, .slice a2 lvs.length c2] 123 (0, 0)))
  obtain ⟨w1, hw1⟩ : ∃ w1, w1 = w.alloc (.cells #[.string nm, .int .i64 kd, .int .i64 p, .int .i64 k, .int .i64 g, .slice a1 szs.length c1, .int .i64 cl, .slice a2 lvs.length c2] 123 (0, 0)) := ⟨_, rfl⟩
  rw [← hw1] at hz HB0 ⊢
  have HX1 := Lib.hid hz
  clear hw1 hz
  refine (HFI.out w1 (H1.out.below HB0.out) (H2.out.below HB0.out)).mono ?_
  rintro e w2 ⟨rfl, hb2⟩
  have HX2 := Lib.hid (blkK hb2 HX1.out)
  have HB2 := Lib.hid (bt0 HB0.out hb2 (Nat.le_refl _))
  obtain ⟨hcA, hfA⟩ := heap_cellR HX2.out
  have hltA := blkLt HX2.out
  clear hb2
  rcases Bool.eq_false_or_eq_true f.ok with o1 | o1
  · rw [o1]
    go_wp2_with fail
    refine (spHas_any a1 szs c1 n w2 (H1.out.below HB2.out) (by omega)).mono ?_
    rintro e w3 ⟨rfl, rfl⟩
    rcases Bool.eq_false_or_eq_true (hasI szs n) with s1 | s1
    · rw [s1]
      have HE := Lib.hid (show famC f n = 0 by rw [famC, if_pos o1, HS.out, if_pos s1])
      go_wp2_with fail
      go_ret
      exact ⟨ret_int HE.out.symm, HB2.out⟩
    · rw [s1]
      have HE := Lib.hid (show famC f n = 2 by rw [famC, if_pos o1, HS.out, if_neg (by rw [s1]; decide)])
      go_wp2_with fail
      go_ret
      exact ⟨ret_int HE.out.symm, HB2.out⟩
  · rw [o1]
    have HE := Lib.hid (show famC f n = 1 by rw [famC, if_neg (by rw [o1]; decide)])
    go_wp2_with fail
    go_ret
    exact ⟨ret_int HE.out.symm, HB2.out⟩

end Go.Proofs.YtlcglclojlffgaaGreatDoor
namespace Go.Proofs.YtlcglclojlffgaaGreatDoor
open Go.RowKit

set_option maxHeartbeats 1000000 in
theorem spShare_any (p k g d c n b : Int) (w : World) (hd : 0 ≤ d) (hd2 : d ≤ 1500) (hn : 1 ≤ n) (hn2 : n ≤ 16) :
    Calls Tryz.prog 138 #[.agg #[.int .i64 p, .int .i64 k, .int .i64 g, .int .i64 d, .int .i64 c, .int .i64 n], .int .i64 b] w fun e w' => e = .returned (.int .i64 (Lay.share ⟨d, c, n⟩ b)) ∧ Below w.heap.size w w' := by
  have h1 : 0 ≤ d % n := Int.emod_nonneg _ (by omega)
  have h2 : d % n < n := Int.emod_lt_of_pos _ (by omega)
  have h3 : 0 ≤ d / n := Int.ediv_nonneg hd (by omega)
  have h4 : d / n ≤ d := Int.ediv_le_self _ hd
  have HS := Lib.hid (show Lay.share ⟨d, c, n⟩ b = d / n + if n - d % n ≤ b then 1 else 0 from rfl)
  have e1 : d.tmod n = d % n := Int.tmod_eq_emod_of_nonneg hd
  have e2 : d.tdiv n = d / n := Int.tdiv_eq_ediv_of_nonneg hd
  obtain ⟨r, hr⟩ : ∃ r, r = d % n := ⟨_, rfl⟩
  obtain ⟨q, hq⟩ : ∃ q, q = d / n := ⟨_, rfl⟩
  rw [← hr] at h1 h2 e1 HS
  rw [← hq] at h3 h4 e2 HS
  have e1' : d % n = r := hr.symm
  have e2' : d / n = q := hq.symm
  clear hr hq
  by_cases hb : n - r ≤ b
  · have hbd : decide (n - r ≤ b) = true := decide_eq_true hb
    have HE := Lib.hid (HS.out.trans (by rw [if_pos hb]))
    go_enter Tryz.func138, Tryz.ntmps138
    go_wp2_with fail
    go_quiet (fail)
    go_wp2_with fail
    go_ret
    exact ⟨ret_int HE.out.symm, (ba1 _ _).trans (below_drewN (Below.refl _ _) nq)⟩
  · have hbd : decide (n - r ≤ b) = false := decide_eq_false hb
    have HE := Lib.hid (HS.out.trans (by rw [if_neg hb, Int.add_zero]))
    go_enter Tryz.func138, Tryz.ntmps138
    go_wp2_with fail
    go_quiet (fail)
    go_wp2_with fail
    go_ret
    exact ⟨ret_int HE.out.symm, (ba1 _ _).trans (below_drewN (Below.refl _ _) nq)⟩
set_option maxHeartbeats 1000000 in
theorem spBlock_any (p k g d c n b : Int) (w : World) (hd : 0 ≤ d) (hd2 : d ≤ 1500) (hc : 0 ≤ c) (hc2 : c ≤ 1000) (hn : 1 ≤ n) (hn2 : n ≤ 16) :
    Calls Tryz.prog 126 #[.agg #[.int .i64 p, .int .i64 k, .int .i64 g, .int .i64 d, .int .i64 c, .int .i64 n], .int .i64 b] w fun e w' => e = .returned (.agg #[.int .i64 p, .int .i64 k, .int .i64 g, .int .i64 (Lay.share ⟨d, c, n⟩ b + c), .int .i64 c]) ∧ Below w.heap.size w w' := by
  have hs := share_bd (c := c) (b := b) hd hd2 hn
  obtain ⟨s, hS⟩ : ∃ s, s = Lay.share ⟨d, c, n⟩ b := ⟨_, rfl⟩
  have HS := Lib.hid hS
  rw [← hS] at hs
  clear hS
  go_enter Tryz.func126, Tryz.ntmps126
  go_wp2_with fail
  have hbox1 := heap2 w (.cells #[.int .i64 p, .int .i64 k, .int .i64 g, .int .i64 d, .int .i64 c, .int .i64 n] 146 (0, 0)) (.cells #[.int .i64 0, .int .i64 0, .int .i64 0, .int .i64 0, .int .i64 0] 189 (0, 0))
  have HB := Lib.hid (ba2 w (.cells #[.int .i64 p, .int .i64 k, .int .i64 g, .int .i64 d, .int .i64 c, .int .i64 n] 146 (0, 0)) (.cells #[.int .i64 0, .int .i64 0, .int .i64 0, .int .i64 0, .int .i64 0] 189 (0, 0)))
  obtain ⟨W, hW⟩ : ∃ W, W = (w.alloc (.cells #[.int .i64 p, .int .i64 k, .int .i64 g, .int .i64 d, .int .i64 c, .int .i64 n] 146 (0, 0))).alloc (.cells #[.int .i64 0, .int .i64 0, .int .i64 0, .int .i64 0, .int .i64 0] 189 (0, 0)) := ⟨_, rfl⟩
  rw [← hW] at hbox1 HB ⊢
  clear hW
  obtain ⟨hc1, hf1⟩ := heap_cellR hbox1.1
  obtain ⟨hc3, hf3⟩ := heap_cellR hbox1.2
  have hz1 : w.heap.size < W.heap.size := blkLt hbox1.1
  have hz3 : w.heap.size + 1 < W.heap.size := blkLt hbox1.2
  clear hbox1
  refine wp_region_ext_tail 11 (by kernel_rfl) (by kernel_rfl) ?_
  simp only [List.take_succ_cons, List.take_zero, List.drop_succ_cons, List.drop_zero]
  repeat (go_big_quiet_step ((go_at_call 138; go_must (exact calls_ext _ (spShare_any p k g d c n b _ hd hd2 hn hn2)))))
  refine wpQuiet_nil ?_
  rintro _ ⟨s', rfl⟩
  have hz' : w.heap.size + 1 < s'.w.heap.size := by have := s'.below.size; omega
  have HB2 := Lib.hid (bt0 HB.out s'.below (Nat.le_refl _))
  have hw : wrap64 (s + c) = s + c := by unfold wrap64; omega
  rw [← HS.out]
  go_wp2_with fail
  refine bodyPost_ret (v := .agg #[.int .i64 p, .int .i64 k, .int .i64 g, .int .i64 (s + c), .int .i64 c]) (by simp [results, Tryz.results126, go_sem, hc3, hz3, hw]) rfl ⟨by rw [HS.out], ?_⟩
  iterate 5 (refine Below.setCell ?_ (by dsimp only; omega) _)
  exact HB2.out

theorem spIn_below {n lo hi : Int} {b : Bool} {w : World} (h : inB n lo hi = b) :
    Calls Tryz.prog 44 #[.int .i64 n, .int .i64 lo, .int .i64 hi] w fun e w' => e = .returned (.bool b) ∧ Below w.heap.size w w' :=
  (spIn_val h).mono fun _ _ ⟨h1, h2⟩ => ⟨h1, h2 ▸ Below.refl _ _⟩
set_option maxRecDepth 100000 in
set_option maxHeartbeats 1000000 in
theorem spIsCode_any {p k g : Int} {F : Fd} (h : FV p k g F) (len chk : Int) (w : World) :
    Calls Tryz.prog 125 #[.agg #[.int .i64 p, .int .i64 k, .int .i64 g, .int .i64 len, .int .i64 chk]] w fun e w' => e = .returned (.bool (codB F.q len chk)) ∧ Below w.heap.size w w' := by
  have H := Lib.hid h
  have hq := h.fd.q_bd
  have HV := Lib.hid (fun w => h.v ▸ spSize_any F h.r.toFdB w)
  clear h
  go_enter Tryz.func125, Tryz.ntmps125
  go_wp2_with fail
  have hz := push_at w (.cells #[.int .i64 p, .int .i64 k, .int .i64 g, .int .i64 len, .int .i64 chk] 189 (0, 0))
  have HB0 := Lib.hid (ba1 w (.cells #[.int .i64 p, .int .i64 k, .int .i64 g, .int .i64 len, .int .i64 chk] 189 (0, 0)))
  obtain ⟨w1, hw1⟩ : ∃ w1, w1 = w.alloc (.cells #[.int .i64 p, .int .i64 k, .int .i64 g, .int .i64 len, .int .i64 chk] 189 (0, 0)) := ⟨_, rfl⟩
  rw [← hw1] at hz HB0 ⊢
  have HX1 := Lib.hid hz
  clear hw1 hz
  refine (spField_yes H.out.b w1).mono ?_
  rintro e w2 ⟨rfl, hb2⟩
  have HX2 := Lib.hid (blkK hb2 HX1.out)
  have HB2 := Lib.hid (bt0 HB0.out hb2 (Nat.le_refl _))
  obtain ⟨hcA, hfA⟩ := heap_cellR HX2.out
  have hltA := blkLt HX2.out
  clear hb2
  go_wp2_with fail
  refine (spIn_any chk 1 64 w2).mono ?_
  rintro e w3 ⟨rfl, rfl⟩
  rcases Bool.eq_false_or_eq_true (inB chk 1 64) with h1 | h1
  · rw [h1]
    have hc := inB_iff.1 h1
    have hw : wrap64 (chk + 1) = chk + 1 := by unfold wrap64; omega
    rcases Bool.eq_false_or_eq_true (inB len (chk + 1) 255) with h2 | h2
    · have hl := inB_iff.1 h2
      have HI := Lib.hid (fun w => spIn_below (w := w) h2)
      by_cases h3 : len < F.q
      · have HE := Lib.hid (show codB F.q len chk = true by simp [codB]; omega)
        have h3' : decide (len < (F.q : Int)) = true := decide_eq_true h3
        clear h3 hw
        go_wp2_with fail
        refine wp_region_ext (by kernel_rfl) (by kernel_rfl) ?_
        repeat (go_big_quiet_step ((first
          | (go_at_call 44; go_must (exact calls_ext _ (HI.out _)))
          | (go_at_call 122; go_must (exact calls_ext _ (HV.out _))))))
        refine wpQuiet_nil ?_
        rintro _ ⟨s', rfl⟩
        go_wp2_with fail
        go_ret
        exact ⟨ret_bool HE.out.symm, bt0 HB2.out s'.below (Nat.le_refl _)⟩
      · have HE := Lib.hid (show codB F.q len chk = false by simp [codB]; omega)
        have h3' : decide (len < (F.q : Int)) = false := decide_eq_false h3
        clear h3 hw
        go_wp2_with fail
        refine wp_region_ext (by kernel_rfl) (by kernel_rfl) ?_
        repeat (go_big_quiet_step ((first
          | (go_at_call 44; go_must (exact calls_ext _ (HI.out _)))
          | (go_at_call 122; go_must (exact calls_ext _ (HV.out _))))))
        refine wpQuiet_nil ?_
        rintro _ ⟨s', rfl⟩
        go_wp2_with fail
        go_ret
        exact ⟨ret_bool HE.out.symm, bt0 HB2.out s'.below (Nat.le_refl _)⟩
    · have HI := Lib.hid (fun w => spIn_below (w := w) h2)
      have HE := Lib.hid (show codB F.q len chk = false by
        have h4 : ¬ (chk + 1 ≤ len ∧ len ≤ 255) := of_decide_eq_false h2
        simp [codB]; omega)
      clear hw
      go_wp2_with fail
      refine wp_region_ext (by kernel_rfl) (by kernel_rfl) ?_
      repeat (go_big_quiet_step ((go_at_call 44; go_must (exact calls_ext _ (HI.out _)))))
      refine wpQuiet_nil ?_
      rintro _ ⟨s', rfl⟩
      go_wp2_with fail
      go_ret
      exact ⟨ret_bool HE.out.symm, bt0 HB2.out s'.below (Nat.le_refl _)⟩
  · rw [h1]
    have HE := Lib.hid (show codB F.q len chk = false by
      have h4 : ¬ (1 ≤ chk ∧ chk ≤ 64) := of_decide_eq_false h1
      simp [codB]; omega)
    go_wp2_with fail
    go_ret
    exact ⟨ret_bool HE.out.symm, HB2.out⟩

end Go.Proofs.YtlcglclojlffgaaGreatDoor
