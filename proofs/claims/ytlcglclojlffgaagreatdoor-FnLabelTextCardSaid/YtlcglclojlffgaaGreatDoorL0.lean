import Derived.Test.YtlcglclojlffgaaGreatDoorRows
import Derived.WalkKit
import Derived.WalkSpells
import Derived.WalkLawsBesides
import Derived.Deep.QuietTactic
import Derived.BigQuiet
import Derived.Deep.RegionLaw
import Derived.Deep.DeepFit
import Derived.Deep.DeepMust
import Derived.Lib.Hide
import Derived.IntWalk
import Derived.Laws.BitsLemmas
import Derived.Deep.RegionHeld
import Derived.Laws.RangeString
namespace Go.Proofs.YtlcglclojlffgaaGreatDoor
open Go.RowKit

theorem bcell {W w1 : World} {B : Nat} (hb : Below B W w1) : (∀ b o, b < B → w1.cell? ⟨b, o, none⟩ = W.cell? ⟨b, o, none⟩) ∧ (∀ b o, b < B → w1.frozen? ⟨b, o, none⟩ = W.frozen? ⟨b, o, none⟩) :=
  ⟨fun b o h => hb.cell (p := ⟨b, o, none⟩) h, fun b o h => hb.frozen (p := ⟨b, o, none⟩) h⟩

theorem lt_of_cell {w : World} {b o : Nat} {v : Value} (h : w.cell? ⟨b, o, none⟩ = some v) : b < w.heap.size := World.block_lt_of_cell? w ⟨b, o, none⟩ h

theorem ba1 (w : World) (o : Obj) : Below w.heap.size w (w.alloc o) := (Below.refl _ _).alloc (Nat.le_refl _) _
theorem ba2 (w : World) (o o' : Obj) : Below w.heap.size w ((w.alloc o).alloc o') := (ba1 w o).alloc (by simp) _
theorem ba3 (w : World) (o o' o'' : Obj) : Below w.heap.size w (((w.alloc o).alloc o').alloc o'') := (ba2 w o o').alloc (by simp; omega) _
theorem bt0 {B : Nat} {a b c : World} (h : Below B a b) (k : Below b.heap.size b c) (hB : B ≤ a.heap.size) : Below B a c := h.trans (k.mono (Nat.le_trans hB h.size))
theorem bt1 {w w1 : World} {o : Obj} (h : Below (w.alloc o).heap.size (w.alloc o) w1) : Below w.heap.size w w1 := bt0 (ba1 w o) h (Nat.le_refl _)
theorem bt2 {w w1 : World} {o o' : Obj} (h : Below ((w.alloc o).alloc o').heap.size ((w.alloc o).alloc o') w1) : Below w.heap.size w w1 := bt0 (ba2 w o o') h (Nat.le_refl _)
/-- a new block's cells, behind a call -/
theorem box1 {w w1 : World} {cs : Array Value} {t : TypeId} (hb : Below (w.alloc (.cells cs t)).heap.size (w.alloc (.cells cs t)) w1) : ∀ i, w1.cell? ⟨w.heap.size, i, none⟩ = cs[i]? := fun i => by
  rw [hb.cell (p := ⟨w.heap.size, i, none⟩) (by simp)]; simp
theorem boxK {w w1 : World} {b : Nat} {cs : Array Value} (hb : Below w.heap.size w w1) (h : ∀ i, w.cell? ⟨b, i, none⟩ = cs[i]?) (h0 : 0 < cs.size) : ∀ i, w1.cell? ⟨b, i, none⟩ = cs[i]? := fun i => by
  have h1 : b < w.heap.size := lt_of_cell (v := cs[0]) (by rw [h 0]; simp [h0])
  rw [hb.cell (p := ⟨b, i, none⟩) h1]; exact h i
/-- the slice at address a holds the numbers zs -/
def IntsAt (w : World) (a : Option Addr) (zs : List Int) : Prop :=
  ∀ i (h : i < zs.length), ∃ b o, a = some ⟨b, o, none⟩ ∧ w.cell? ⟨b, o + i, none⟩ = some (.int .i64 zs[i])

theorem IntsAt.at {w : World} {a : Option Addr} {zs : List Int} (H : IntsAt w a zs) {k : Nat} (hk : k < zs.length) :
    ∃ b o z, a = some ⟨b, o, none⟩ ∧ zs[k]? = some z ∧ b < w.heap.size ∧ w.cell? ⟨b, o + k, none⟩ = some (.int .i64 z) := by
  obtain ⟨b, o, ha, hc⟩ := H k hk
  exact ⟨b, o, zs[k], ha, List.getElem?_eq_getElem hk, lt_of_cell hc, hc⟩

theorem IntsAt.below {w w' : World} {a : Option Addr} {zs : List Int} (H : IntsAt w a zs) (hb : Below w.heap.size w w') : IntsAt w' a zs := by
  intro i h
  obtain ⟨b, o, ha, hc⟩ := H i h
  exact ⟨b, o, ha, by rw [hb.cell (p := ⟨b, o + i, none⟩) (lt_of_cell hc)]; exact hc⟩

theorem IntsAt.nil {w : World} {a : Option Addr} : IntsAt w a [] := fun i h => absurd h (by simp)

theorem take_snoc' {α : Type} {zs : List α} {k : Nat} {z : α} (h : zs[k]? = some z) : zs.take (k + 1) = zs.take k ++ [z] := by
  rw [List.take_add_one, h]; rfl

theorem ret_int {k : IntKind} {a b : Int} (h : a = b) : Ending.returned (.int k a) = .returned (.int k b) := by rw [h]
theorem ret_str {a b : ByteArray} (h : a = b) : Ending.returned (.string a) = .returned (.string b) := by rw [h]
theorem ret_bool {a b : Bool} (h : a = b) : Ending.returned (.bool a) = .returned (.bool b) := by rw [h]

/-- the worlds that keep all that is in w -/
def Ext (w : World) : Type := { w' : World // Below w.heap.size w w' }
instance extNonempty (w : World) : Nonempty (Ext w) := ⟨⟨w, Below.refl _ _⟩⟩
def Ext.w {w : World} (s : Ext w) : World := s.1
theorem Ext.below {w : World} (s : Ext w) : Below w.heap.size w s.w := s.2
@[go_sem] theorem Ext.cell {w : World} (s : Ext w) (b o : Nat) (h : b < w.heap.size) : s.w.cell? ⟨b, o, none⟩ = w.cell? ⟨b, o, none⟩ := s.2.cell (p := ⟨b, o, none⟩) h
@[go_sem] theorem Ext.frozen {w : World} (s : Ext w) (b o : Nat) (h : b < w.heap.size) : s.w.frozen? ⟨b, o, none⟩ = w.frozen? ⟨b, o, none⟩ := s.2.frozen (p := ⟨b, o, none⟩) h

theorem wp_region_ext {P : Program} {id : Nat} {Q : Exit → Act → World → Prop} {a : Act} {w : World} {l : List Oper} (hm : P.follows .mixedOrders = true) (hB : Region.lexB .any l.toArray = true)
    (h : wpQuiet P l.toArray (fun w' => ∃ s : Ext w, w' = s.w) (fun a' => ∀ w', (∃ s : Ext w, w' = s.w) → Q .normal a' w') l a) : (Code.region id l.toArray true).wp P Q a w :=
  wp_region_quiet (C := fun w' => ∃ s : Ext w, w' = s.w) hm hB ⟨⟨_, (Below.refl _ _).drew⟩, rfl⟩ (by simpa using h)

theorem calls_ext {P : Program} {f : FuncId} {args : Array Value} {w : World} {v : Value} (s : Ext w)
    (h : Calls P f args s.w fun e w' => e = .returned v ∧ Below s.w.heap.size s.w w') : Calls P f args s.w fun e w'' => e = .returned v ∧ ∃ s' : Ext w, w'' = s'.w :=
  h.mono fun _ w' ⟨he, hb⟩ => ⟨he, ⟨w', s.below.trans (hb.mono s.below.size)⟩, rfl⟩
/-- the slice v is the call's own (blocks from base on) and holds the numbers zs -/
def OwnI (w : World) (base : Nat) (v : Value) (zs : List Int) : Prop := w.ownsRow base 2 1 v zs.length (zs.map (Value.int .i64))

theorem OwnI.read {w : World} {base : Nat} {v : Value} {zs : List Int} (h : OwnI w base v zs) : ∃ a c, v = .slice a zs.length c ∧ IntsAt w a zs := by
  unfold OwnI at h
  have h2 := h.2
  rcases h2 with ⟨rfl, h0⟩ | ⟨g, cap, cur, rfl, hb, hg, hn, hm, hs, ht⟩
  · refine ⟨none, 0, by rw [h0], ?_⟩
    intro i hi; omega
  · refine ⟨some ⟨g, 0, none⟩, cap, rfl, ?_⟩
    intro i hi
    refine ⟨g, 0, rfl, ?_⟩
    rw [Nat.zero_add, h.cellAt i (by omega)]
    simp [hi]

theorem OwnI.len {w : World} {base : Nat} {v : Value} {zs : List Int} (h : OwnI w base v zs) : zs.length ≤ maxLen := by
  rcases h.2 with ⟨_, h0⟩ | ⟨g, cap, cur, rfl, hb, hg, hn, hm, hs, ht⟩
  · rw [h0]; exact Nat.zero_le _
  · omega

/-- a slice of the call's own that is not empty -/
theorem OwnI.block {w : World} {base : Nat} {a : Option Addr} {n c : Nat} {zs : List Int} (h : OwnI w base (.slice a n c) zs) (hk : 0 < zs.length) : ∃ g, a = some ⟨g, 0, none⟩ ∧ base ≤ g ∧ n = zs.length ∧ g < w.heap.size := by
  rcases h.2 with ⟨h1, h0⟩ | ⟨g, cap, cur, h1, hb, hg, _⟩
  · omega
  · simp only [Value.slice.injEq] at h1
    obtain ⟨rfl, rfl, rfl⟩ := h1
    exact ⟨g, rfl, hb, rfl, (Array.getElem?_eq_some_iff.1 hg).1⟩

theorem OwnI.grown {w w' : World} {base : Nat} {v : Value} {zs : List Int} (h : OwnI w base v zs) (hb : Below w.heap.size w w') : OwnI w' base v zs :=
  h.kept (row := none) ⟨hb.os, hb.tape, hb.output, hb.size, fun k hk _ => hb.block k hk⟩ (by cases hv : v.ownBlock <;> simp)

theorem OwnI.weak {w : World} {base base' : Nat} {v : Value} {zs : List Int} (h : OwnI w base v zs) (hb : base' ≤ base) : OwnI w base' v zs := by
  refine ⟨h.1, ?_⟩
  rcases h.2 with h2 | ⟨g, cap, cur, h1, hb', r⟩
  · exact Or.inl h2
  · exact Or.inr ⟨g, cap, cur, h1, by omega, r⟩

theorem OwnI.setOld {w : World} {base : Nat} {v : Value} {zs : List Int} (h : OwnI w base v zs) {a : Addr} (ha : a.block < base) (u : Value) : OwnI (w.setCell a u) base v zs := ownsRow_setCell_below h ha u

theorem OwnI.drew {w : World} {base : Nat} {v : Value} {zs : List Int} (h : OwnI w base v zs) : OwnI w.drew base v zs := h

theorem grownBy_trans {a b c : World} {row : Option Nat} (h : a.grownBy b row) (k : b.grownBy c row) : a.grownBy c row :=
  ⟨k.os.trans h.os, k.tape.trans h.tape, k.output.trans h.output, Nat.le_trans h.size k.size, fun i hi hr => (k.block i (Nat.lt_of_lt_of_le hi h.size) hr).trans (h.block i hi hr)⟩

theorem below_of_grownBy {B : Nat} {w w' : World} {row : Option Nat} (h : w.grownBy w' row) (hB : B ≤ w.heap.size) (hr : ∀ k, row = some k → B ≤ k) : Below B w w' :=
  (Below.refl B w).grown h hB hr


theorem infoI : (Tryz.prog.info? 2).map (fun i => (i.zero, i.size, i.bytes)) = some (some (.int .i64 0), 1, 8) := by kernel_rfl

theorem OwnI.cellAt {w : World} {base g n c : Nat} {zs : List Int} (h : OwnI w base (.slice (some ⟨g, 0, none⟩) n c) zs) (hn : n = zs.length) {k : Nat} (hk : k < zs.length) :
    ∃ z, zs[k]? = some z ∧ w.cell? ⟨g, k, none⟩ = some (.int .i64 z) ∧ w.frozen? ⟨g, k, none⟩ = false := by
  subst hn
  refine ⟨zs[k], by simp [hk], ?_, h.frozenAt k⟩
  rw [World.ownsRow.cellAt h k (by omega)]
  simp [hk]

theorem OwnI.stored {w : World} {base g n c : Nat} {zs : List Int} (h : OwnI w base (.slice (some ⟨g, 0, none⟩) n c) zs) (hn : n = zs.length) (k : Nat) (z : Int) :
    OwnI (w.setCell ⟨g, k, none⟩ (.int .i64 z)) base (.slice (some ⟨g, 0, none⟩) n c) (zs.set k z) ∧ w.grownBy (w.setCell ⟨g, k, none⟩ (.int .i64 z)) (some g) := by
  subst hn
  have hst := World.ownsRow.stored (h := h) k (.int .i64 z)
  refine ⟨?_, hst.2⟩
  unfold OwnI
  rw [List.map_set, List.length_set]
  exact hst.1

theorem OwnI.of_made {w : World} {base : Nat} {v : Value} {n : Nat} (h : w.ownsRow base 2 1 v n (madeCells #[.int .i64 0] n).toList) : OwnI w base v (List.replicate n 0) := by
  unfold OwnI
  rw [toList_madeCells_one] at h
  simpa using h

theorem heap_cellR {w : World} {g : Nat} {C : Array Value} {t : TypeId} (h : w.heap[g]? = some (.cells C t (0, 0))) : (∀ i, w.cell? ⟨g, i, none⟩ = C[i]?) ∧ (∀ i, w.frozen? ⟨g, i, none⟩ = false) := ⟨fun i => by simp [World.cell?, h], fun i => by simp [World.frozen?, h]⟩

end Go.Proofs.YtlcglclojlffgaaGreatDoor
namespace Go.Proofs.YtlcglclojlffgaaGreatDoor
open Go.RowKit

/-- n bytes at a, in blocks below base -/
def BytesAt (w : World) (base : Nat) (a : Option Addr) (n : Nat) : Prop :=
  ∀ i, i < n → ∃ b o z, a = some ⟨b, o, none⟩ ∧ b < base ∧ w.cell? ⟨b, o + i, none⟩ = some (.int .u8 z) ∧ 0 ≤ z ∧ z ≤ 255

theorem BytesAt.kept {w w' : World} {base : Nat} {a : Option Addr} {n : Nat} (h : BytesAt w base a n) (hb : ∀ k, k < base → w'.heap[k]? = w.heap[k]?) : BytesAt w' base a n := by
  intro i hi
  obtain ⟨b, o, z, ha, hlt, hc, hz⟩ := h i hi
  exact ⟨b, o, z, ha, hlt, by rw [World.cell?_of_block (w := w) (a := ⟨b, o + i, none⟩) (hb b hlt)]; exact hc, hz⟩

/-- block b is a source of drawn numbers -/
def SrcAt (w : World) (b : Nat) (a : Option Addr) (n c : Nat) (at_ seed : Int) (base : Nat) : Prop :=
  base ≤ b ∧ BytesAt w base a n ∧ w.heap[b]? = some (.cells #[.slice a n c, .int .i64 at_, .int .i64 seed] 91 (0, 0)) ∧ n ≤ 4096 ∧ 0 ≤ at_ ∧ at_ ≤ n ∧ 0 ≤ seed ∧ seed < 2147483647
def Src (w : World) (b : Nat) : Prop := ∃ a n c at_ seed base, SrcAt w b a n c at_ seed base

theorem Src.lt {w : World} {b : Nat} (h : Src w b) : b < w.heap.size := by
  obtain ⟨a, n, c, at_, seed, base, _, _, hb, _⟩ := h
  exact (Array.getElem?_eq_some_iff.1 hb).1

/-- a source stays one while other blocks are written or made -/
theorem Src.kept {w w' : World} {b : Nat} {row : Option Nat} (h : Src w b) (hg : w.grownBy w' row) (hne : ∀ k, row = some k → b < k) : Src w' b := by
  have hlt := h.lt
  obtain ⟨a, n, c, at_, seed, base, h1, h2, h3, h4⟩ := h
  refine ⟨a, n, c, at_, seed, base, h1, h2.kept (fun k hk => hg.block k (by omega) (fun e => by have := hne k e.symm; omega)), ?_, h4⟩
  rw [hg.block b hlt (fun e => by have := hne b e.symm; omega)]
  exact h3
theorem Src.below {w w' : World} {b : Nat} (h : Src w b) (hb : Below w.heap.size w w') : Src w' b :=
  h.kept (row := none) ⟨hb.os, hb.tape, hb.output, hb.size, fun k hk _ => hb.block k hk⟩ (fun k e => by cases e)

/-- a number is drawn -/
def RetNum (w : World) (b : Nat) (n : Int) (e : Ending) (w' : World) : Prop :=
  ∃ r : Int, e = .returned (.int .i64 r) ∧ 0 ≤ r ∧ (r < n ∨ r = 0) ∧ Src w' b ∧ w.grownBy w' (some b)

theorem RetNum.mk {w w' : World} {b : Nat} {n : Int} {a : Option Addr} {m c : Nat} {at_ seed at2 seed2 r : Int} {base : Nat} (h : SrcAt w b a m c at_ seed base)
    (h' : w'.heap[b]? = some (.cells #[.slice a m c, .int .i64 at2, .int .i64 seed2] 91 (0, 0))) (hg : w.grownBy w' (some b)) (h1 : 0 ≤ at2) (h2 : at2 ≤ m) (h3 : 0 ≤ seed2) (h4 : seed2 < 2147483647) (h5 : 0 ≤ r) (h6 : r < n ∨ r = 0) :
    RetNum w b n (.returned (.int .i64 r)) w' := by
  obtain ⟨q1, q2, q3, q4, _⟩ := h
  have hlt : b < w.heap.size := (Array.getElem?_eq_some_iff.1 q3).1
  exact ⟨r, rfl, h5, h6, ⟨a, m, c, at2, seed2, base, q1, q2.kept (fun k hk => hg.block k (by omega) (fun e => by have := Option.some.inj e; omega)), h', q4, h1, h2, h3, h4⟩, hg⟩

theorem src_set {w : World} {b : Nat} {C : Array Value} {t : TypeId} {fr : Nat × Nat} (h : w.heap[b]? = some (.cells C t fr)) (i : Nat) (v : Value) : (w.setCell ⟨b, i, none⟩ v).heap[b]? = some (.cells (C.setIfInBounds i v) t fr) := by
  rw [setCell_eq_setRow w b i C t fr v h]
  exact setRow_heap w b _ _ t _ h
theorem grownBy_set (w : World) (b i : Nat) (v : Value) : w.grownBy (w.setCell ⟨b, i, none⟩ v) (some b) :=
  ⟨rfl, rfl, rfl, by simp, fun k _ hk => heap_setCell_other w ⟨b, i, none⟩ k v (fun e => hk (by simp [e]))⟩

theorem grownBy_drewN (w : World) (k : Nat) (row : Option Nat) : w.grownBy (w.drewN k) row := ⟨rfl, rfl, rfl, Nat.le_refl _, fun _ _ _ => rfl⟩
theorem src_one {w : World} {b : Nat} {x0 x1 x2 v2 : Value} {t : TypeId} {fr : Nat × Nat} (h : w.heap[b]? = some (.cells #[x0, x1, x2] t fr)) (k : Nat) :
    ((w.setCell ⟨b, 2, none⟩ v2).drewN k).heap[b]? = some (.cells #[x0, x1, v2] t fr) ∧ w.grownBy ((w.setCell ⟨b, 2, none⟩ v2).drewN k) (some b) :=
  ⟨src_set h 2 v2, grownBy_trans (grownBy_set _ _ _ _) (grownBy_drewN _ _ _)⟩
theorem src_two {w : World} {b : Nat} {x0 x1 x2 v1 v2 : Value} {t : TypeId} {fr : Nat × Nat} (h : w.heap[b]? = some (.cells #[x0, x1, x2] t fr)) (k : Nat) :
    (((w.setCell ⟨b, 2, none⟩ v2).drewN k).setCell ⟨b, 1, none⟩ v1).heap[b]? = some (.cells #[x0, v1, v2] t fr) ∧ w.grownBy (((w.setCell ⟨b, 2, none⟩ v2).drewN k).setCell ⟨b, 1, none⟩ v1) (some b) :=
  ⟨src_set (src_one h k).1 1 v1, grownBy_trans (src_one h k).2 (grownBy_set _ _ _ _)⟩

set_option maxHeartbeats 1000000 in
theorem l01Next_any (b : Nat) (n : Int) (w : World) (hs : Src w b) (hn1 : -1152921504606846976 ≤ n) (hn2 : n ≤ 1152921504606846976) :
    Calls Tryz.prog 50 #[.pointer (some ⟨b, 0, none⟩), .int .i64 n] w (RetNum w b n) := by
  obtain ⟨a, m, c, at_, seed, base, HS⟩ := hs
  have HS' := HS
  obtain ⟨q1, q2, q3, q4, q5, q6, q7, q8⟩ := HS'
  have hc0 : w.cell? ⟨b, 0, none⟩ = some (.slice a m c) := by simp [World.cell?, q3]
  have hc1 : w.cell? ⟨b, 1, none⟩ = some (.int .i64 at_) := by simp [World.cell?, q3]
  have hc2 : w.cell? ⟨b, 2, none⟩ = some (.int .i64 seed) := by simp [World.cell?, q3]
  have hf1 : w.frozen? ⟨b, 1, none⟩ = false := by simp [World.frozen?, q3]
  have hf2 : w.frozen? ⟨b, 2, none⟩ = false := by simp [World.frozen?, q3]
  have HH := Lib.hid HS
  have HB := Lib.hid q3
  have HC := Lib.hid q2
  clear HS q3 q2
  by_cases h1 : n ≤ 1
  · go_enter Tryz.func50, Tryz.ntmps50
    go_wp2_with fail
    go_ret
    exact RetNum.mk HH.out HB.out (World.grownBy.refl _ _) q5 q6 q7 q8 (Int.le_refl _) (Or.inr rfl)
  · obtain ⟨t, rfl⟩ := Int.eq_ofNat_of_zero_le q5
    have g0 : 0 ≤ (seed * 48271 + 11) % 2147483647 := by omega
    have g1 : (seed * 48271 + 11) % 2147483647 < 2147483647 := by omega
    by_cases h2 : t < m
    · obtain ⟨b1, o1, z, rfl, hb1, hz, z0, z1⟩ := HC.out t h2
      have h2' : (t : Int) < (m : Int) := by omega
      have hne : ¬ b1 = b := by have := HH.out.1; omega
      rcases (show (¬ n ≤ 256) ∨ (n ≤ 256 ∧ (((t : Int) + 1) % 2 == 0) = false) ∨ (n ≤ 256 ∧ (((t : Int) + 1) % 2 == 0) = true) by
        by_cases h : n ≤ 256
        · rcases Bool.eq_false_or_eq_true ((((t : Int) + 1) % 2 == 0)) with h4 | h4
          · exact Or.inr (Or.inr ⟨h, h4⟩)
          · exact Or.inr (Or.inl ⟨h, h4⟩)
        · exact Or.inl h) with h3 | ⟨h3, h4⟩ | ⟨h3, h4⟩
      all_goals
        go_enter Tryz.func50, Tryz.ntmps50
        go_wp2_with fail
        generalize (seed * 48271 + 11) % 2147483647 = s2 at *
        obtain ⟨x, hx⟩ : ∃ x, s2 / 17 = x := ⟨_, rfl⟩
        have x0 : 0 ≤ x := by omega
        have x1 : x < 2147483647 := by omega
        rw [hx]
        clear hx
        go_quiet (fail)
        go_wp2_with fail
        go_quiet (fail)
        go_wp2_with fail
      · go_ret
        exact RetNum.mk HH.out (src_two HB.out _).1 (src_two HB.out _).2 (by omega) (by omega) g0 g1 (Int.emod_nonneg _ (by omega)) (Or.inl (Int.emod_lt_of_pos _ (by omega)))
      · go_ret
        exact RetNum.mk HH.out (src_two HB.out _).1 (src_two HB.out _).2 (by omega) (by omega) g0 g1 (Int.emod_nonneg _ (by omega)) (Or.inl (Int.emod_lt_of_pos _ (by omega)))
      · go_quiet (fail)
        go_wp2_with fail
        go_ret
        exact RetNum.mk HH.out (src_two HB.out _).1 (grownBy_trans (src_two HB.out _).2 (grownBy_drewN _ _ _)) (by omega) (by omega) g0 g1 (Int.emod_nonneg _ (by omega)) (Or.inl (Int.emod_lt_of_pos _ (by omega)))
    · go_enter Tryz.func50, Tryz.ntmps50
      go_wp2_with fail
      generalize (seed * 48271 + 11) % 2147483647 = s2 at *
      obtain ⟨x, hx⟩ : ∃ x, s2 / 17 = x := ⟨_, rfl⟩
      have x0 : 0 ≤ x := by omega
      have x1 : x < 2147483647 := by omega
      rw [hx]
      clear hx
      go_quiet (fail)
      go_wp2_with fail
      go_ret
      exact RetNum.mk HH.out (src_one HB.out _).1 (src_one HB.out _).2 (by omega) (by omega) g0 g1 (Int.emod_nonneg _ (by omega)) (Or.inl (Int.emod_lt_of_pos _ (by omega)))

end Go.Proofs.YtlcglclojlffgaaGreatDoor
namespace Go.Proofs.YtlcglclojlffgaaGreatDoor
open Go.RowKit

/-- a source is made -/
def RetSrc (w : World) (e : Ending) (w' : World) : Prop :=
  ∃ b, e = .returned (.pointer (some ⟨b, 0, none⟩)) ∧ w.heap.size ≤ b ∧ Src w' b ∧ Below w.heap.size w w'

/-- the state of the loop that makes the seed -/
def Seeding (w wr : World) (a : Option Addr) (n c : Nat) : Prop :=
  ∃ s : Int, 0 ≤ s ∧ s < 2147483647 ∧ wr.heap[w.heap.size]? = some (.cells #[.slice a n c, .int .i64 0, .int .i64 s] 91 (0, 0)) ∧ Below w.heap.size w wr

set_option maxHeartbeats 1000000 in
theorem l01From_any (a : Option Addr) (n c : Nat) (w : World) (hx : BytesAt w w.heap.size a n) (hn : n ≤ 4096) :
    Calls Tryz.prog 29 #[.slice a n c] w (RetSrc w) := by
  have HX := Lib.hid hx
  clear hx
  go_enter Tryz.func29, Tryz.ntmps29
  go_wp2_with fail
  go_loopw [4] (fun i wr => ∃ k : Nat, k ≤ n ∧ i = .int .i64 k ∧ Seeding w wr a n c) (fun i _ => n - (intOf i).toNat)
  case atStart => exact ⟨0, Nat.zero_le _, rfl, 60617, by omega, by omega, heap_alloc_new w _, ba1 _ _⟩
  case round =>
    obtain ⟨k, hk, rfl, hsd⟩ := hrel
    obtain ⟨s, s0, s1, hb, hbl⟩ := hsd
    have hc2 : wr.cell? ⟨w.heap.size, 2, none⟩ = some (.int .i64 s) := by simp [World.cell?, hb]
    have hf2 : wr.frozen? ⟨w.heap.size, 2, none⟩ = false := by simp [World.frozen?, hb]
    have HB := Lib.hid hb
    have HL := Lib.hid hbl
    clear hb hbl
    by_cases hlt : k < n
    · by_cases h64 : k < 64
      · obtain ⟨b1, o1, z, rfl, hb1, hz, z0, z1⟩ := HX.out k hlt
        have hzr : wr.cell? ⟨b1, o1 + k, none⟩ = some (.int .u8 z) := (HL.out.cell (p := ⟨b1, o1 + k, none⟩) hb1).trans hz
        have hne : ¬ b1 = w.heap.size := by omega
        have hkn : (k : Int) < (n : Int) := by omega
        have w1 : IntKind.i64.wrap (s * 43) = s * 43 := IntWalk.i64_in _ (by omega)
        have w2 : IntKind.i64.wrap z = z := IntWalk.i64_in _ (by omega)
        have w3 : IntKind.i64.wrap (s * 43 + z) = s * 43 + z := IntWalk.i64_in _ (by omega)
        have w4 : (s * 43 + z).tmod 2147483647 = (s * 43 + z) % 2147483647 := Int.tmod_eq_emod_of_nonneg (by omega)
        clear hz
        go_wp2_with fail
        go_region
        all_goals
          go_wp2_with fail
          exact ⟨⟨k + 1, by omega, by go_num, (s * 43 + z) % 2147483647, by omega, by omega, src_set HB.out 2 _, (HL.out.setCell (Nat.le_refl _) _).drew⟩, by simp [intOf]; omega⟩
      · go_wp2_with fail
        go_ret
        exact ⟨w.heap.size, rfl, Nat.le_refl _, ⟨a, n, c, 0, s, w.heap.size, Nat.le_refl _, HX.out.kept (fun k hk => HL.out.block k hk), HB.out, hn, Int.le_refl _, by omega, s0, s1⟩, HL.out⟩
    · go_wp2_with fail
      go_ret
      exact ⟨w.heap.size, rfl, Nat.le_refl _, ⟨a, n, c, 0, s, w.heap.size, Nat.le_refl _, HX.out.kept (fun k hk => HL.out.block k hk), HB.out, hn, Int.le_refl _, by omega, s0, s1⟩, HL.out⟩

end Go.Proofs.YtlcglclojlffgaaGreatDoor
namespace Go.Proofs.YtlcglclojlffgaaGreatDoor
open Go.RowKit

/-! A REGION THAT DRAWS ITS ORDER, each operation by what it leaves: whatever the order, what each operation has left stands at the end, if nothing that comes in between does away with it. -/

/-- how many are not listed -/
def unl : List Bool → Nat
  | [] => 0
  | b :: r => (if b then 0 else 1) + unl r
theorem unl_set : ∀ (l : List Bool) (i : Nat), l[i]? = some false → unl (l.set i true) + 1 = unl l
  | [], i, h => by simp at h
  | b :: r, 0, h => by simp at h; subst h; simp [unl]; omega
  | b :: r, i + 1, h => by
    have := unl_set r i (by simpa using h)
    simp only [List.set_cons_succ, unl]
    omega
theorem unl_zero : ∀ (l : List Bool), unl l = 0 → ∀ i, l.getD i true = true
  | [], _, i => by simp
  | b :: r, h, i => by
    simp only [unl] at h
    cases b with
    | false => simp at h
    | true =>
      cases i with
      | zero => simp
      | succ i => simpa using unl_zero r (by simpa using h) i
theorem unl_replicate (n : Nat) : unl (List.replicate n false) = n := by
  induction n with
  | zero => rfl
  | succ n ih => simp [List.replicate_succ, unl, ih]; omega

/-- the frame with the values us in the slots ds -/
def over (a : Act) (ds : List Nat) (us : Nat → Value) : Act := { a with tmps := a.tmps.mapIdx fun t v => if ds.contains t then us t else v }
/-- one value more -/
def upd (us : Nat → Value) (d : Option Nat) (v : Value) : Nat → Value :=
  match d with
  | some d => fun t => if t = d then v else us t
  | none => us
theorem upd_ne {us : Nat → Value} {d : Option Nat} {v : Value} {t : Nat} (h : d ≠ some t) : upd us d v t = us t := by
  cases d with
  | none => rfl
  | some d => simp only [upd]; rw [if_neg (fun e => h (by rw [e]))]

theorem over_put {a : Act} {ds : List Nat} {us : Nat → Value} {d : Option Nat} {v : Value} (h : ∀ t, d = some t → ds.contains t = true) : (over a ds us).put d v = over a ds (upd us d v) := by
  cases d with
  | none => rfl
  | some t =>
    have ht := h t rfl
    simp only [Act.put, over]
    congr 1
    apply Array.ext_getElem?
    intro i
    rw [Array.getElem?_setIfInBounds]
    simp only [Array.getElem?_mapIdx, Array.size_mapIdx]
    by_cases e : t = i
    · subst e
      simp only [if_true]
      by_cases hb : t < a.tmps.size
      · simp only [hb, if_true, Array.getElem?_eq_getElem hb, Option.map_some, ht, upd]
      · simp only [hb, if_false, Array.getElem?_eq_none (Nat.le_of_not_lt hb), Option.map_none]
    · simp only [e, if_false, upd, show ¬ i = t from fun h => e h.symm]

/-- what the tape may not do: the operations' edges, looked at once -/
def rgOk (ops : Array Oper) (m : Nat) (ds : List Nat) (sup : Nat → List Nat) : Bool :=
  (List.range ops.size).all fun j => match ops[j]? with
    | none => true
    | some o =>
      -- the slots written by the head lie in ds; what is said of an operation speaks of its own slot and of those that it waits for
      (decide (m ≤ j) || ((match o.dst with | some d => ds.contains d | none => true) &&
        (sup j).all fun t => (List.range ops.size).all fun i => match ops[i]? with
          | none => true
          | some oi => oi.dst != some t || i == j || o.after.any fun e => Region.binds .any e && e.on == i)) &&
      -- each of the tail waits for all before it, and none waits for a later one
      (decide (j < m) || (List.range j).all (fun i => o.after.any fun e => Region.binds .any e && e.on == i)) && o.after.all fun e => !Region.binds .any e || decide (e.on < j)

variable {P : Program} {ops : Array Oper} {Q : Exit → Act → World → Prop}

theorem getD_toList (l : Array Bool) (i : Nat) (d : Bool) : l.getD i d = l.toList.getD i d := by simp [Array.getD_eq_getD_getElem?, List.getD_eq_getElem?_getD]

/-- the tail, in its one order -/
theorem wpAny_tail {m : Nat} {ds : List Nat} {sup : Nat → List Nat} (hB : rgOk ops m ds sup = true) : ∀ (r k : Nat) (listed : Array Bool) (a : Act) (w : World), m ≤ k → k + r = ops.size →
    (∀ j, j < ops.size → listed.getD j true = decide (j < k)) → listed.size = ops.size → ∀ fuel, r ≤ fuel → wpOps P ops Q (List.range' k r) a w → wpAny P .any ops Q fuel listed a w
  | 0, k, listed, a, w, hm, hk, hl, hs, fuel, hf, h => by
    have hr : Region.ready .any ops listed = [] := by
      rw [List.eq_nil_iff_forall_not_mem]
      intro j hj
      obtain ⟨h1, o, ho, _⟩ := mem_ready.1 hj
      have hlt : j < ops.size := (Array.getElem?_eq_some_iff.1 ho).1
      rw [hl j hlt] at h1
      simp at h1; omega
    have hq : Q .normal a w := h
    cases fuel with
    | zero => exact ⟨hr, hq⟩
    | succ f => exact ⟨fun _ => hq, fun i hi => by rw [hr] at hi; cases hi⟩
  | r + 1, k, listed, a, w, hm, hk, hl, hs, fuel, hf, h => by
    have hkn : k < ops.size := by omega
    have hready : ∀ j ∈ Region.ready .any ops listed, j = k := by
      intro j hj
      obtain ⟨h1, o, ho, hdep⟩ := mem_ready.1 hj
      have hlt : j < ops.size := (Array.getElem?_eq_some_iff.1 ho).1
      rw [hl j hlt] at h1
      have hjk : k ≤ j := by simpa using h1
      rcases Nat.lt_or_ge k j with hlt' | hge
      · exfalso
        have hb := List.all_eq_true.1 hB j (List.mem_range.2 hlt)
        simp only [ho, Bool.and_eq_true, Bool.or_eq_true, decide_eq_true_eq] at hb
        rcases hb.1.2 with hb2 | hb2
        · omega
        · have := List.all_eq_true.1 hb2 k (List.mem_range.2 hlt')
          obtain ⟨e, he, hee⟩ := Array.any_eq_true'.1 this
          simp only [Bool.and_eq_true, beq_iff_eq] at hee
          have hd := hdep e he hee.1
          rw [hee.2] at hd
          have := hl k hkn
          rw [getD_toList] at this hd
          rw [List.getD_eq_getElem?_getD] at this hd
          cases hx : listed.toList[k]? with
          | none => rw [hx] at hd; simp at hd
          | some b => rw [hx] at this hd; simp at this hd; rw [this] at hd; cases hd
      · omega
    cases fuel with
    | zero => omega
    | succ f =>
      refine ⟨fun h0 => ?_, fun i hi => ?_⟩
      · exfalso
        obtain ⟨o, ho⟩ : ∃ o, ops[k]? = some o := ⟨ops[k], Array.getElem?_eq_getElem hkn⟩
        have : k ∈ Region.ready .any ops listed := by
          refine mem_ready.2 ⟨?_, o, ho, ?_⟩
          · rw [hl k hkn]; simp
          · intro e he hbind
            have hb := List.all_eq_true.1 hB k (List.mem_range.2 hkn)
            simp only [ho, Bool.and_eq_true, Bool.or_eq_true, decide_eq_true_eq] at hb
            · have h2 := Array.all_eq_true'.1 hb.2 e he
              simp only [hbind, Bool.not_true, Bool.or_eq_true, Bool.false_eq_true, false_or, decide_eq_true_eq] at h2
              have := hl e.on (by omega)
              rw [getD_toList, List.getD_eq_getElem?_getD] at this ⊢
              cases hx : listed.toList[e.on]? with
              | none =>
                have := List.getElem?_eq_none_iff.1 hx
                simp [hs] at this; omega
              | some b => rw [hx] at this; simp at this; simp [this]; exact h2
        rw [h0] at this; cases this
      · obtain rfl := hready i hi
        rw [List.range'_succ, wpOps_cons] at h
        refine wpOp_mono (fun a' w' h' => ?_) h
        refine wpAny_tail hB r (i + 1) _ a' w' (by omega) (by omega) ?_ (by simpa using hs) f (by omega) h'
        intro j hj
        by_cases e : i = j
        · subst e
          rw [getD_toList, Array.toList_setIfInBounds, List.getD_eq_getElem?_getD, List.getElem?_set]
          simp [hs, hj]
        · rw [getD_toList, Array.toList_setIfInBounds, List.getD_eq_getElem?_getD, List.getElem?_set, if_neg e, ← List.getD_eq_getElem?_getD, ← getD_toList, hl j hj]
          simp; omega


/-- what stands while the head is under way -/
structure Under (ops : Array Oper) (m : Nat) (a0 : Act) (ds : List Nat) (G : Nat → (Nat → Value) → World → Prop) (St : World → Prop) (listed : Array Bool) (a : Act) (w : World) : Prop where
  size : listed.size = ops.size
  tail : ∀ j, m ≤ j → j < ops.size → listed.getD j true = false
  closed : ∀ j o, ops[j]? = some o → listed.getD j false = true → ∀ e ∈ o.after, Region.binds .any e = true → listed.getD e.on false = true
  st : St w
  left : ∃ us, a = over a0 ds us ∧ ∀ j, j < m → listed.getD j false = true → G j us w

theorem getD_set_true {listed : Array Bool} {i j : Nat} (h : listed.getD j false = true) : (listed.setIfInBounds i true).getD j false = true := by
  rw [getD_toList, Array.toList_setIfInBounds, List.getD_eq_getElem?_getD, List.getElem?_set]
  rw [getD_toList, List.getD_eq_getElem?_getD] at h
  by_cases e : i = j
  · subst e
    cases hx : listed.toList[i]? with
    | none => rw [hx] at h; simp at h
    | some b =>
      have h3 := (List.getElem?_eq_some_iff.1 hx).1
      rw [if_pos rfl, if_pos h3]; rfl
  · rw [if_neg e]; exact h
theorem getD_set_other {listed : Array Bool} {i j : Nat} {d : Bool} (e : i ≠ j) : (listed.setIfInBounds i true).getD j d = listed.getD j d := by
  rw [getD_toList, Array.toList_setIfInBounds, List.getD_eq_getElem?_getD, List.getElem?_set, if_neg e, ← List.getD_eq_getElem?_getD, ← getD_toList]

/-- what one operation of the head owes: IN EVERY FRAME AND WORLD in which what it waits for stands, it leaves what is said of it, and does away with nothing -/
def Owes (P : Program) (ops : Array Oper) (Q : Exit → Act → World → Prop) (a0 : Act) (ds : List Nat) (G : Nat → (Nat → Value) → World → Prop) (St : World → Prop) (Keep : World → World → Prop) (i : Nat) (o : Oper) : Prop :=
  ∀ (us : Nat → Value) (w : World), St w → (∀ e ∈ o.after, Region.binds .any e = true → G e.on us w) →
    if Region.wanted o (yielded ops (over a0 ds us).tmps) then o.wp P (over a0 ds us) w (fun a' w' => ∃ v, a' = (over a0 ds us).put o.dst v ∧ St w' ∧ Keep w w' ∧ G i (upd us o.dst v) w') Q
    else G i (upd us o.dst undef) w

theorem wpAny_head {m : Nat} {a0 : Act} {ds : List Nat} {sup : Nat → List Nat} {G : Nat → (Nat → Value) → World → Prop} {St : World → Prop} {Keep : World → World → Prop} (hB : rgOk ops m ds sup = true) (hm : m ≤ ops.size)
    (hkeep : ∀ j us w w', j < m → Keep w w' → G j us w → G j us w') (hrefl : ∀ w, Keep w w) (hsup : ∀ j us us' w, j < m → (∀ t ∈ sup j, us t = us' t) → G j us w → G j us' w)
    (howe : ∀ i o, i < m → ops[i]? = some o → Owes P ops Q a0 ds G St Keep i o)
    (hend : ∀ us w, St w → (∀ j, j < m → G j us w) → wpOps P ops Q (List.range' m (ops.size - m)) (over a0 ds us) w) :
    ∀ (fuel : Nat) (listed : Array Bool) (a : Act) (w : World), unl listed.toList ≤ fuel → Under ops m a0 ds G St listed a w → wpAny P .any ops Q fuel listed a w := by
  have hdepOk : ∀ j o, j < m → ops[j]? = some o → (∀ d, o.dst = some d → ds.contains d = true) ∧ ∀ t ∈ sup j, ∀ i oi, ops[i]? = some oi → oi.dst = some t → i = j ∨ ∃ e ∈ o.after, Region.binds .any e = true ∧ e.on = i := by
    intro j o hj ho
    have hlt : j < ops.size := (Array.getElem?_eq_some_iff.1 ho).1
    have hb := List.all_eq_true.1 hB j (List.mem_range.2 hlt)
    simp only [ho, Bool.and_eq_true, Bool.or_eq_true, decide_eq_true_eq] at hb
    rcases hb.1.1 with h | h
    · omega
    · refine ⟨?_, ?_⟩
      · intro d hd
        have := h.1
        rw [hd] at this
        exact this
      · intro t ht i oi hi hd
        have h2 := List.all_eq_true.1 (List.all_eq_true.1 h.2 t ht) i (List.mem_range.2 (Array.getElem?_eq_some_iff.1 hi).1)
        simp only [hi, Bool.or_eq_true, bne_iff_ne, beq_iff_eq, hd] at h2
        rcases h2 with (h2 | h2) | h2
        · exact absurd rfl h2
        · exact Or.inl h2
        · obtain ⟨e, he, hee⟩ := Array.any_eq_true'.1 h2
          simp only [Bool.and_eq_true, beq_iff_eq] at hee
          exact Or.inr ⟨e, he, hee.1, hee.2⟩
  have step : ∀ (fuel : Nat) (listed : Array Bool) (a : Act) (w : World), unl listed.toList ≤ fuel → Under ops m a0 ds G St listed a w →
      (∀ j, j < m → listed.getD j true = true) → wpAny P .any ops Q fuel listed a w := by
    intro fuel listed a w hf U hall
    obtain ⟨us, rfl, hG⟩ := U.left
    have hx : ∀ j, j < m → listed.getD j false = true := by
      intro j hj
      have := hall j hj
      rw [getD_toList, List.getD_eq_getElem?_getD] at this ⊢
      cases hy : listed.toList[j]? with
      | none =>
        have h1 := List.getElem?_eq_none_iff.1 hy
        have := U.size
        simp at h1; omega
      | some b => rw [hy] at this; simpa using this
    have hr : ops.size - m ≤ fuel := by
      refine Nat.le_trans ?_ hf
      have : ∀ (n : Nat) (l : List Bool), (∀ j, n ≤ j → j < l.length → l.getD j true = false) → l.length - n ≤ unl l := by
        intro n l
        induction l generalizing n with
        | nil => intro _; simp
        | cons b r ih =>
          intro hb
          cases n with
          | zero =>
            have h0 := hb 0 (Nat.le_refl _) (by simp)
            have h1 := ih 0 (fun j _ hj => by have := hb (j + 1) (by omega) (by simpa using hj); simpa using this)
            simp at h0
            subst h0
            simp [unl] at h1 ⊢; omega
          | succ n =>
            have h1 := ih n (fun j hj hj' => by have := hb (j + 1) (by omega) (by simpa using hj'); simpa using this)
            simp only [unl, List.length_cons]; omega
      have h2 := this m listed.toList (fun j hj hj' => by rw [← getD_toList]; exact U.tail j hj (by have := U.size; simp at hj'; omega))
      have := U.size
      simp at h2; omega
    refine wpAny_tail hB (ops.size - m) m listed _ w (Nat.le_refl _) (by omega) ?_ U.size fuel hr (hend us w U.st (fun j hj => hG j hj (hx j hj)))
    intro j hj
    rcases Nat.lt_or_ge j m with h | h
    · rw [hall j h]; simp [h]
    · rw [U.tail j h hj]; simp; omega
  intro fuel
  induction fuel with
  | zero =>
    intro listed a w hf U
    exact step 0 listed a w hf U (fun j _ => by rw [getD_toList]; exact unl_zero _ (by omega) j)
  | succ fuel ih =>
    intro listed a w hf U
    by_cases hall : ∀ j, j < m → listed.getD j true = true
    · exact step _ listed a w hf U hall
    · obtain ⟨us, rfl, hG⟩ := U.left
      have hnot : ∃ j, j < m ∧ listed.getD j true = false := by
        apply Classical.byContradiction
        intro hn
        apply hall
        intro j hj
        cases hx : listed.getD j true with
        | true => rfl
        | false => exact absurd ⟨j, hj, hx⟩ hn
      refine ⟨fun h0 => ?_, fun i hi => ?_⟩
      · -- the least that is not listed may come up
        have least : ∀ n j, j ≤ n → j < m → listed.getD j true = false → False := by
          intro n
          induction n with
          | zero =>
            intro j hj hjm hjl
            obtain rfl : j = 0 := by omega
            obtain ⟨oj, hoj⟩ : ∃ oj, ops[0]? = some oj := ⟨ops[0], Array.getElem?_eq_getElem (by omega)⟩
            have : 0 ∈ Region.ready .any ops listed := mem_ready.2 ⟨hjl, oj, hoj, fun e he hbind => by
              have hb := List.all_eq_true.1 hB 0 (List.mem_range.2 (by omega))
              simp only [hoj, Bool.and_eq_true] at hb
              have h2 := Array.all_eq_true'.1 hb.2 e he
              simp only [hbind, Bool.not_true, Bool.or_eq_true, Bool.false_eq_true, false_or, decide_eq_true_eq] at h2
              omega⟩
            rw [h0] at this; cases this
          | succ n ihn =>
            intro j hj hjm hjl
            obtain ⟨oj, hoj⟩ : ∃ oj, ops[j]? = some oj := ⟨ops[j], Array.getElem?_eq_getElem (by omega)⟩
            have : j ∈ Region.ready .any ops listed := mem_ready.2 ⟨hjl, oj, hoj, fun e he hbind => by
              have hb := List.all_eq_true.1 hB j (List.mem_range.2 (by omega))
              simp only [hoj, Bool.and_eq_true] at hb
              have h2 := Array.all_eq_true'.1 hb.2 e he
              simp only [hbind, Bool.not_true, Bool.or_eq_true, Bool.false_eq_true, false_or, decide_eq_true_eq] at h2
              cases hx : listed.getD e.on true with
              | false => exact (ihn e.on (by omega) (by omega) hx).elim
              | true =>
                rw [getD_toList, List.getD_eq_getElem?_getD] at hx ⊢
                cases hy : listed.toList[e.on]? with
                | none =>
                  have h4 := List.getElem?_eq_none_iff.1 hy
                  have := U.size
                  simp at h4; omega
                | some b => rw [hy] at hx; simpa using hx⟩
            rw [h0] at this; cases this
        obtain ⟨j, hj, hjl⟩ := hnot
        exact (least j j (Nat.le_refl _) hj hjl).elim
      · obtain ⟨h1, o, ho, hdep⟩ := mem_ready.1 hi
        have hlt : i < ops.size := (Array.getElem?_eq_some_iff.1 ho).1
        have him : i < m := by
          rcases Nat.lt_or_ge i m with h | h
          · exact h
          · exfalso
            obtain ⟨j, hj, hjl⟩ := hnot
            have hb := List.all_eq_true.1 hB i (List.mem_range.2 hlt)
            simp only [ho, Bool.and_eq_true, Bool.or_eq_true, decide_eq_true_eq] at hb
            rcases hb.1.2 with hb2 | hb2
            · omega
            · have := List.all_eq_true.1 hb2 j (List.mem_range.2 (by omega))
              obtain ⟨e, he, hee⟩ := Array.any_eq_true'.1 this
              simp only [Bool.and_eq_true, beq_iff_eq] at hee
              have hd := hdep e he hee.1
              rw [hee.2] at hd
              rw [getD_toList, List.getD_eq_getElem?_getD] at hd hjl
              cases hx : listed.toList[j]? with
              | none => rw [hx] at hd; simp at hd
              | some b => rw [hx] at hd hjl; simp at hd hjl; rw [hd] at hjl; cases hjl
        obtain ⟨hds, hdp⟩ := hdepOk i o him ho
        have hil : listed.toList[i]? = some false := by
          rw [getD_toList, List.getD_eq_getElem?_getD] at h1
          cases hx : listed.toList[i]? with
          | none => rw [hx] at h1; simp at h1
          | some b => rw [hx] at h1; simp at h1; rw [h1]
        have hdm : ∀ e ∈ o.after, Region.binds .any e = true → e.on < m := by
          intro e he hbind
          have hd := hdep e he hbind
          rcases Nat.lt_or_ge e.on m with h | h
          · exact h
          · exfalso
            rcases Nat.lt_or_ge e.on ops.size with h2 | h2
            · have := U.tail e.on h h2
              rw [getD_toList, List.getD_eq_getElem?_getD] at this hd
              cases hx : listed.toList[e.on]? with
              | none => rw [hx] at hd; simp at hd
              | some b => rw [hx] at hd this; simp at hd this; rw [hd] at this; cases this
            · rw [getD_toList, List.getD_eq_getElem?_getD, List.getElem?_eq_none (by have := U.size; simp; omega)] at hd
              simp at hd
        have next : ∀ v w', St w' → Keep w w' → G i (upd us o.dst v) w' → wpAny P .any ops Q fuel (listed.setIfInBounds i true) ((over a0 ds us).put o.dst v) w' := by
          intro v w' hst hk hg
          refine ih _ _ _ ?_ ⟨by simpa using U.size, ?_, ?_, hst, upd us o.dst v, over_put hds, ?_⟩
          · have := unl_set listed.toList i hil
            rw [Array.toList_setIfInBounds]; omega
          · intro j hj hj'
            rw [getD_set_other (by omega)]; exact U.tail j hj hj'
          · intro j oj hoj hlj e he hbind
            by_cases ej : i = j
            · subst ej
              rw [ho] at hoj
              cases hoj
              exact getD_set_true (hdep e he hbind)
            · rw [getD_set_other ej] at hlj
              exact getD_set_true (U.closed j oj hoj hlj e he hbind)
          · intro j hj hlj
            by_cases ej : i = j
            · subst ej; exact hg
            · rw [getD_set_other ej] at hlj
              refine hsup j us _ w' hj (fun t ht => ?_) (hkeep j us w w' hj hk (hG j hj hlj))
              symm
              refine upd_ne (fun hd => ?_)
              have hjs : j < ops.size := by omega
              obtain ⟨oj, hoj⟩ : ∃ oj, ops[j]? = some oj := ⟨ops[j], Array.getElem?_eq_getElem hjs⟩
              rcases (hdepOk j oj hj hoj).2 t ht i o ho hd with h | ⟨e, he, hbind, heq⟩
              · exact ej h
              · have := U.closed j oj hoj hlj e he hbind
                rw [heq, getD_toList, List.getD_eq_getElem?_getD, hil] at this
                simp at this
        have howes := howe i o him ho us w U.st (fun e he hbind => hG e.on (hdm e he hbind) (hdep e he hbind))
        unfold wpOp
        rw [ho]
        simp only
        by_cases hw : Region.wanted o (yielded ops (over a0 ds us).tmps) = true
        · rw [if_pos hw] at howes ⊢
          refine Or.inl (Oper.wp_mono (fun a' w' h => ?_) howes)
          obtain ⟨v, rfl, hst, hk, hg⟩ := h
          exact next v w' hst hk hg
        · rw [if_neg hw] at howes ⊢
          exact next undef w U.st (hrefl w) howes

end Go.Proofs.YtlcglclojlffgaaGreatDoor
namespace Go.Proofs.YtlcglclojlffgaaGreatDoor
open Go.RowKit

/-- what one operation yields, and the world that it leaves -/
def leavesUpon (P : Program) (R : Value → World → Prop) : Result Next → Prop
  | .ok (.value v) w' => R v w'
  | .ok .skip w' => R undef w'
  | .ok (.enter f args) w' => Calls P f args w' (fun e w'' => ∃ v, e = .returned v ∧ R v w'')
  | _ => False
def leaves (P : Program) (o : Oper) (a : Act) (w : World) (R : Value → World → Prop) : Prop := leavesUpon P R ((execOp a.eval o).run P w)
attribute [go_sem] leavesUpon leaves

theorem wp_of_leaves {P : Program} {o : Oper} {a : Act} {w : World} {R : Value → World → Prop} {K : Act → World → Prop} {Q : Exit → Act → World → Prop} (h : ∀ v w', R v w' → K (a.put o.dst v) w') (hh : leaves P o a w R) : o.wp P a w K Q := by
  unfold leaves at hh
  unfold Oper.wp
  generalize (execOp a.eval o).run P w = r at *
  cases r with
  | ok n w' =>
    cases n <;> simp only [leavesUpon] at hh <;> simp only [Oper.upon]
    case value v => exact h _ _ hh
    case skip => exact h _ _ hh
    case enter f args => exact hh.mono fun e w'' ⟨v, he, hr⟩ => by subst he; exact h _ _ hr
  | halt x w' => simp only [leavesUpon] at hh

/-- behind an operation: it has kept what it had to, and what is said of it holds -/
def RgR (G : Nat → (Nat → Value) → World → Prop) (St : World → Prop) (Keep : World → World → Prop) (us : Nat → Value) (w : World) (i : Nat) (d : Option Nat) (v : Value) (w' : World) : Prop :=
  St w' ∧ Keep w w' ∧ G i (upd us d v) w'
/-- the head's operations, one by one -/
def rgAll (P : Program) (ops : Array Oper) (A : (Nat → Value) → Act) (G : Nat → (Nat → Value) → World → Prop) (St : World → Prop) (Keep : World → World → Prop) : Nat → List Oper → Prop
  | _, [] => True
  | i, o :: r => (∀ (us : Nat → Value) (w : World), St w → (∀ e ∈ o.after, Region.binds .any e = true → G e.on us w) →
      if Region.wanted o (yielded ops (A us).tmps) then leaves P o (A us) w (RgR G St Keep us w i o.dst) else G i (upd us o.dst undef) w) ∧ rgAll P ops A G St Keep (i + 1) r

theorem rgAll_at {P : Program} {ops : Array Oper} {A : (Nat → Value) → Act} {G : Nat → (Nat → Value) → World → Prop} {St : World → Prop} {Keep : World → World → Prop} : ∀ (l : List Oper) (k : Nat), rgAll P ops A G St Keep k l → ∀ i o, l[i]? = some o →
    ∀ (us : Nat → Value) (w : World), St w → (∀ e ∈ o.after, Region.binds .any e = true → G e.on us w) →
      if Region.wanted o (yielded ops (A us).tmps) then leaves P o (A us) w (RgR G St Keep us w (k + i) o.dst) else G (k + i) (upd us o.dst undef) w
  | [], _, _, i, o, h => by simp at h
  | o' :: r, k, hall, 0, o, h => by simp at h; subst h; exact hall.1
  | o' :: r, k, hall, i + 1, o, h => by
    have := rgAll_at r (k + 1) hall.2 i o (by simpa using h)
    rw [show k + 1 + i = k + (i + 1) by omega] at this
    exact this

/-- **A REGION THAT DRAWS ITS ORDER, EACH OPERATION OF ITS HEAD BY WHAT IT LEAVES; the tail in its one order.** -/
theorem wp_region_rg {P : Program} {id : Nat} {l : List Oper} {Q : Exit → Act → World → Prop} {a0 : Act} {w0 : World} (m : Nat) (ds : List Nat) (sup : Nat → List Nat) (A : (Nat → Value) → Act) (G : Nat → (Nat → Value) → World → Prop) (St : World → Prop) (Keep : World → World → Prop)
    (hmix : P.follows .mixedOrders = true) (hB : rgOk l.toArray m ds sup = true) (hm : m ≤ l.length) (hA : ∀ us, over a0 ds us = A us) (h0 : St w0.drew) (hrefl : ∀ w, Keep w w)
    (hkeep : ∀ j us w w', j < m → Keep w w' → G j us w → G j us w') (hsup : ∀ j us us' w, j < m → (∀ t ∈ sup j, us t = us' t) → G j us w → G j us' w)
    (hall : rgAll P l.toArray A G St Keep 0 (l.take m))
    (hend : ∀ us w, St w → (∀ j, j < m → G j us w) → wpList P l.toArray Q (l.drop m) (A us) w) : (Code.region id l.toArray true).wp P Q a0 w0 := by
  refine wp_region_any hmix ?_
  refine wpAny_head (a0 := a0) (ds := ds) (G := G) (St := St) (Keep := Keep) hB (by simpa using hm) hkeep hrefl hsup ?_ ?_ _ _ _ _ (by rw [Array.toList_replicate, unl_replicate]; exact Nat.le_refl _) ?_
  · intro i o hi ho us w hst hd
    have ho' : (l.take m)[i]? = some o := by rw [List.getElem?_take, if_pos hi]; simpa using ho
    have := rgAll_at _ 0 hall i o ho' us w hst hd
    rw [Nat.zero_add] at this
    rw [hA]
    by_cases hw : Region.wanted o (yielded l.toArray (A us).tmps) = true
    · rw [if_pos hw] at this ⊢
      exact wp_of_leaves (fun v w' h => ⟨v, rfl, h.1, h.2.1, h.2.2⟩) this
    · rw [if_neg hw] at this ⊢
      exact this
  · intro us w hst hg
    have := hend us w hst hg
    rw [hA]
    have e := wpOps_eq_wpList (P := P) (ops := l.toArray) (Q := Q) (l.drop m) m (fun j => by simp [List.getElem?_drop])
    rw [List.length_drop] at e
    have e2 : l.toArray.size - m = l.length - m := by simp
    rw [e2, e]
    exact this
  · refine ⟨by simp, ?_, ?_, h0, fun t => a0.tmps.getD t undef, ?_, ?_⟩
    · intro j _ hj
      rw [getD_toList, Array.toList_replicate, List.getD_eq_getElem?_getD, List.getElem?_replicate]
      simp at hj
      simp [hj]
    · intro j o _ hj
      rw [getD_toList, Array.toList_replicate, List.getD_eq_getElem?_getD, List.getElem?_replicate] at hj
      split at hj <;> simp at hj
    · unfold over
      cases a0 with
      | mk tmps defers =>
        congr 1
        apply Array.ext_getElem?
        intro i
        rw [Array.getElem?_mapIdx]
        cases hx : tmps[i]? with
        | none => rfl
        | some v =>
          simp only [Option.map_some, Array.getD_eq_getD_getElem?, hx, Option.getD_some]
          split <;> rfl
    · intro j _ hj
      rw [getD_toList, Array.toList_replicate, List.getD_eq_getElem?_getD, List.getElem?_replicate] at hj
      split at hj <;> simp at hj

end Go.Proofs.YtlcglclojlffgaaGreatDoor
namespace Go.Proofs.YtlcglclojlffgaaGreatDoor
open Go.RowKit

/-- what is said of an operation's value: it stays true while the world is kept -/
structure Sp (Keep : World → World → Prop) where
  holds : Value → World → Prop
  kept : ∀ v w w', Keep w w' → holds v w → holds v w'

/-- what is said of operation j -/
def depHolds {Keep : World → World → Prop} (l : List Oper) (sp : List (Sp Keep)) (us : Nat → Value) (w : World) (j : Nat) : Prop :=
  match l[j]?, sp[j]? with
  | some o, some s => match o.dst with
    | some d => s.holds (us d) w
    | none => True
  | _, _ => True
def supOf (l : List Oper) (j : Nat) : List Nat :=
  match l[j]? with
  | some o => o.dst.toList
  | none => []

theorem depHolds_kept {Keep : World → World → Prop} {l : List Oper} {sp : List (Sp Keep)} {us : Nat → Value} {w w' : World} {j : Nat} (hk : Keep w w') (h : depHolds l sp us w j) : depHolds l sp us w' j := by
  unfold depHolds at *
  split
  · rename_i o s ho hs
    simp only [ho, hs] at h
    split
    · rename_i d hd
      simp only [hd] at h
      exact s.kept _ _ _ hk h
    · trivial
  · trivial
theorem depHolds_sup {Keep : World → World → Prop} {l : List Oper} {sp : List (Sp Keep)} {us us' : Nat → Value} {w : World} {j : Nat} (he : ∀ t ∈ supOf l j, us t = us' t) (h : depHolds l sp us w j) : depHolds l sp us' w j := by
  unfold depHolds at *
  split
  · rename_i o s ho hs
    simp only [ho, hs] at h
    split
    · rename_i d hd
      simp only [hd] at h
      have := he d (by simp [supOf, ho, hd])
      rwa [← this]
    · trivial
  · trivial

/-- behind an operation -/
def RsR {Keep : World → World → Prop} (St : World → Prop) (s : Sp Keep) (w : World) (v : Value) (w' : World) : Prop := St w' ∧ Keep w w' ∧ s.holds v w'
def rsAll (P : Program) (l : List Oper) (A : (Nat → Value) → Act) {Keep : World → World → Prop} (sp : List (Sp Keep)) (St : World → Prop) : List Oper → List (Sp Keep) → Prop
  | o :: r, s :: t => (∀ (us : Nat → Value) (w : World), St w → (∀ e ∈ o.after, Region.binds .any e = true → depHolds l sp us w e.on) →
      if Region.wanted o (yielded l.toArray (A us).tmps) then leaves P o (A us) w (RsR St s w) else s.holds undef w) ∧ rsAll P l A sp St r t
  | _, _ => True

theorem rg_of_rs {P : Program} {l : List Oper} {A : (Nat → Value) → Act} {Keep : World → World → Prop} {sp : List (Sp Keep)} {St : World → Prop} : ∀ (r : List Oper) (t : List (Sp Keep)) (k : Nat), r.length = t.length → (∀ j, r[j]? = some r[j]! → l[k + j]? = r[j]?) → (∀ j, j < r.length → l[k + j]? = r[j]?) → (∀ j, j < t.length → sp[k + j]? = t[j]?) → rsAll P l A sp St r t →
    rgAll P l.toArray A (fun i us w => depHolds l sp us w i) St Keep k r
  | [], [], _, _, _, _, _, _ => trivial
  | o :: r, s :: t, k, hlen, hx, hl, hs, h => by
    refine ⟨fun us w hst hd => ?_, rg_of_rs r t (k + 1) (by simpa using hlen) (fun j _ => ?_) (fun j hj => ?_) (fun j hj => ?_) h.2⟩
    · have h1 := h.1 us w hst hd
      have e1 : l[k]? = some o := by simpa using hl 0 (by simp)
      have e2 : sp[k]? = some s := by simpa using hs 0 (by simp)
      have dep : ∀ v w', s.holds v w' → depHolds l sp (upd us o.dst v) w' k := fun v w' hv => by
        unfold depHolds
        simp only [e1, e2]
        cases hd : o.dst with
        | none => trivial
        | some d => simpa [upd] using hv
      by_cases hw : Region.wanted o (yielded l.toArray (A us).tmps) = true
      · rw [if_pos hw] at h1 ⊢
        unfold leaves at *
        generalize (execOp (A us).eval o).run P w = q at *
        cases q with
        | ok n w' =>
          cases n <;> simp only [leavesUpon] at h1 ⊢
          case value v => exact ⟨h1.1, h1.2.1, dep _ _ h1.2.2⟩
          case skip => exact ⟨h1.1, h1.2.1, dep _ _ h1.2.2⟩
          case enter f args => exact h1.mono fun e w'' ⟨v, he, hr⟩ => ⟨v, he, hr.1, hr.2.1, dep _ _ hr.2.2⟩
        | halt x w' => simp only [leavesUpon] at h1
      · rw [if_neg hw] at h1 ⊢
        exact dep _ _ h1
    · have := hl (j + 1)
      by_cases hj : j < r.length
      · have := this (by simpa using hj)
        simpa [Nat.add_assoc, Nat.add_comm 1 j] using this
      · rename_i hh
        rw [List.getElem?_eq_none (by omega)] at hh; cases hh
    · have := hl (j + 1) (by simpa using hj)
      simpa [Nat.add_assoc, Nat.add_comm 1 j] using this
    · have := hs (j + 1) (by simpa using hj)
      simpa [Nat.add_assoc, Nat.add_comm 1 j] using this

/-- **A REGION THAT DRAWS ITS ORDER: what is said of each operation of its head (the first |sp|), whatever the order; then the tail.** -/
theorem wp_region_rs {P : Program} {id : Nat} {l : List Oper} {Q : Exit → Act → World → Prop} {a0 : Act} {w0 : World} (ds : List Nat) (A : (Nat → Value) → Act) {Keep : World → World → Prop} (sp : List (Sp Keep)) (St : World → Prop)
    (hmix : P.follows .mixedOrders = true) (hB : rgOk l.toArray sp.length ds (supOf l) = true) (hm : sp.length ≤ l.length) (hA : ∀ us, over a0 ds us = A us) (h0 : St w0.drew) (hrefl : ∀ w, Keep w w)
    (hall : rsAll P l A sp St (l.take sp.length) sp)
    (hend : ∀ us w, St w → (∀ j, j < sp.length → depHolds l sp us w j) → wpList P l.toArray Q (l.drop sp.length) (A us) w) : (Code.region id l.toArray true).wp P Q a0 w0 := by
  refine wp_region_rg sp.length ds (supOf l) A (fun i us w => depHolds l sp us w i) St Keep hmix hB hm hA h0 hrefl (fun j us w w' _ hk h => depHolds_kept hk h) (fun j us us' w _ he h => depHolds_sup he h) ?_ hend
  refine rg_of_rs _ _ 0 (by rw [List.length_take]; omega) (fun j hj => ?_) (fun j hj => ?_) (fun j _ => by simp) hall
  · have : j < (l.take sp.length).length := by
      apply Classical.byContradiction
      intro h
      rw [List.getElem?_eq_none (by omega)] at hj; cases hj
    rw [List.length_take] at this
    rw [Nat.zero_add, List.getElem?_take, if_pos (by omega)]
  · rw [List.length_take] at hj
    rw [Nat.zero_add, List.getElem?_take, if_pos (by omega)]

end Go.Proofs.YtlcglclojlffgaaGreatDoor
namespace Go.Proofs.YtlcglclojlffgaaGreatDoor
open Go.RowKit

/-- worlds in which block b alone has turned -/
def KeepB (b : Nat) (w w' : World) : Prop := w.grownBy w' (some b)

def NumB (lo hi : Int) (v : Value) : Prop := ∃ r : Int, v = .int .i64 r ∧ lo ≤ r ∧ r ≤ hi
def StrB (n : Nat) (v : Value) : Prop := ∃ s : ByteArray, v = .string s ∧ s.size ≤ n
/-- a table of n values in memory of the call's own, each as p says -/
def TabP (b n : Nat) (p : Value → Prop) (v : Value) (w : World) : Prop := ∃ g, v = .slice (some ⟨g, 0, none⟩) n n ∧ b < g ∧ ∀ i, i < n → ∃ u, w.cell? ⟨g, i, none⟩ = some u ∧ p u
def AtP (b : Nat) (p : Value → Prop) (v : Value) (w : World) : Prop := ∃ g i u, v = .pointer (some ⟨g, i, none⟩) ∧ b < g ∧ w.cell? ⟨g, i, none⟩ = some u ∧ p u
theorem kept_cell {w w' : World} {b g i : Nat} {u : Value} (hg : w.grownBy w' (some b)) (hlt : b < g) (hc : w.cell? ⟨g, i, none⟩ = some u) : w'.cell? ⟨g, i, none⟩ = some u :=
  hg.cell hc (by simp; omega)

def spV (b : Nat) (p : Value → Prop) : Sp (KeepB b) := ⟨fun v _ => p v, fun _ _ _ _ h => h⟩
def spEq (b : Nat) (x : Value) : Sp (KeepB b) := spV b (fun v => v = x)
def spTab (b n : Nat) (p : Value → Prop) : Sp (KeepB b) := ⟨TabP b n p, fun _ _ _ hg h => by
  obtain ⟨g, hv, hlt, hc⟩ := h
  exact ⟨g, hv, hlt, fun i hi => by obtain ⟨u, h1, h2⟩ := hc i hi; exact ⟨u, kept_cell hg hlt h1, h2⟩⟩⟩
def spAt (b : Nat) (p : Value → Prop) : Sp (KeepB b) := ⟨AtP b p, fun _ _ _ hg h => by
  obtain ⟨g, i, u, hv, hlt, hc, hs⟩ := h
  exact ⟨g, i, u, hv, hlt, kept_cell hg hlt hc, hs⟩⟩
/-- the state of a draw that goes on: the source stands, all else is as it was -/
def StB (b : Nat) (w0 w : World) : Prop := Src w b ∧ w0.grownBy w (some b)

theorem stB_alloc {b : Nat} {w0 w : World} (hst : StB b w0 w) (o : Obj) : StB b w0 (w.alloc o) :=
  ⟨hst.1.kept (World.grownBy_alloc w o none) (by simp), grownBy_trans hst.2 (World.grownBy_alloc _ _ _)⟩
theorem rs_tab {b n : Nat} {w0 w : World} {p : Value → Prop} {C : Array Value} {t : TypeId} (hst : StB b w0 w) (hn : ∀ i, i < n → ∃ u, C[i]? = some u ∧ p u) :
    RsR (StB b w0) (spTab b n p) w (.slice (some ⟨w.heap.size, 0, none⟩) n n) (w.alloc (.cells C t (0, 0))) :=
  ⟨stB_alloc hst _, World.grownBy_alloc _ _ _, _, rfl, hst.1.lt, fun i hi => by
    obtain ⟨u, h1, h2⟩ := hn i hi
    exact ⟨u, by rw [box1 (Below.refl _ _)]; exact h1, h2⟩⟩
theorem fourT {p : Value → Prop} {a b c d : Value} (ha : p a) (hb : p b) (hc : p c) (hd : p d) : ∀ i, i < 4 → ∃ u, (#[a, b, c, d] : Array Value)[i]? = some u ∧ p u
  | 0, _ => ⟨_, rfl, ha⟩
  | 1, _ => ⟨_, rfl, hb⟩
  | 2, _ => ⟨_, rfl, hc⟩
  | 3, _ => ⟨_, rfl, hd⟩
theorem threeT {p : Value → Prop} {a b c : Value} (ha : p a) (hb : p b) (hc : p c) : ∀ i, i < 3 → ∃ u, (#[a, b, c] : Array Value)[i]? = some u ∧ p u
  | 0, _ => ⟨_, rfl, ha⟩
  | 1, _ => ⟨_, rfl, hb⟩
  | 2, _ => ⟨_, rfl, hc⟩
theorem strB {n : Nat} (s : ByteArray) (h : s.size ≤ n) : StrB n (.string s) := ⟨s, rfl, h⟩
theorem numDb {lo hi : Int} (r : Int) (h : lo ≤ r) (h' : r ≤ hi) : NumB lo hi (.int .i64 r) := ⟨r, rfl, h, h'⟩

theorem stB_set {b g i : Nat} {w0 w : World} {v : Value} (hst : StB b w0 w) (hbg : b < g) (hwg : w0.heap.size ≤ g) : StB b w0 (w.setCell ⟨g, i, none⟩ v) :=
  ⟨hst.1.kept (grownBy_set w g i v) (fun k e => by have := Option.some.inj e; omega), hst.2.andThen (grownBy_set w g i v) (fun j e => by have := Option.some.inj e; omega)⟩
theorem stB_trans {b : Nat} {w0 w w' : World} (hst : StB b w0 w) (hs : Src w' b) (hg : w.grownBy w' (some b)) : StB b w0 w' := ⟨hs, grownBy_trans hst.2 hg⟩
theorem tab_kept {b n : Nat} {p : Value → Prop} {W1 W2 : World} {C : Array Value} {t : TypeId} {r : Int} (hlt : b < W1.heap.size) (hg : (W1.alloc (.cells C t (0, 0))).grownBy W2 (some b)) (hn : ∀ i, i < n → ∃ u, C[i]? = some u ∧ p u) (h0 : 0 ≤ r) (h1 : r < n) :
    ∃ u, W2.cell? ⟨W1.heap.size, r.toNat, none⟩ = some u ∧ p u := by
  obtain ⟨u, c1, c2⟩ := hn r.toNat (by omega)
  exact ⟨u, kept_cell hg hlt (by rw [box1 (Below.refl _ _)]; exact c1), c2⟩

end Go.Proofs.YtlcglclojlffgaaGreatDoor
namespace Go.Proofs.YtlcglclojlffgaaGreatDoor
open Go.RowKit

/-- the first n marks from k on -/
def marks (k : Int) (n : Nat) : List Int := (List.range n).map fun (i : Nat) => k + (i : Int)
theorem marks_len (k : Int) (n : Nat) : (marks k n).length = n := by simp [marks]
theorem marks_at {k : Int} {n i : Nat} (h : i < n) : (marks k n)[i]? = some (k + i) := by simp [marks, h]

end Go.Proofs.YtlcglclojlffgaaGreatDoor
namespace Go.Proofs.YtlcglclojlffgaaGreatDoor
open Go.RowKit

theorem OwnI.other {w w' : World} {base : Nat} {v : Value} {zs : List Int} {row : Option Nat} (h : OwnI w base v zs) (hg : w.grownBy w' row) (hne : ∀ k, v.ownBlock = some k → row ≠ some k) : OwnI w' base v zs :=
  h.kept hg (by
    cases hv : v.ownBlock with
    | none => exact Or.inl rfl
    | some k => exact Or.inr (fun e => hne k hv e.symm))
theorem OwnI.lo {w : World} {base : Nat} {v : Value} {zs : List Int} (h : OwnI w base v zs) : ∀ k, v.ownBlock = some k → base ≤ k := fun k hk => (World.ownsRow.lt h k hk).1
theorem OwnI.hi {w : World} {base : Nat} {v : Value} {zs : List Int} (h : OwnI w base v zs) : ∀ k, v.ownBlock = some k → k < w.heap.size := fun k hk => (World.ownsRow.lt h k hk).2
theorem OwnI.ints {w : World} {base : Nat} {a : Option Addr} {n c : Nat} {zs : List Int} (h : OwnI w base (.slice a n c) zs) : IntsAt w a zs := by
  obtain ⟨a', c', e, hx⟩ := h.read
  obtain ⟨rfl, _, _⟩ := Value.slice.inj e
  exact hx
end Go.Proofs.YtlcglclojlffgaaGreatDoor
namespace Go.Proofs.YtlcglclojlffgaaGreatDoor
open Go.RowKit

theorem twoT {p : Value → Prop} {a b : Value} (ha : p a) (hb : p b) : ∀ i, i < 2 → ∃ u, (#[a, b] : Array Value)[i]? = some u ∧ p u
  | 0, _ => ⟨_, rfl, ha⟩
  | 1, _ => ⟨_, rfl, hb⟩
end Go.Proofs.YtlcglclojlffgaaGreatDoor
namespace Go.Proofs.YtlcglclojlffgaaGreatDoor
open Go.RowKit

/-! Rows of things that take k cells each. -/
structure Enc (α : Type) where
  enc : α → List Value
  k : Nat
  t : TypeId
  bytes : Nat
  len : ∀ x, (enc x).length = k
  one : ∀ x, ∀ u ∈ enc x, u.oneCell' = true
  pos : 0 < k
variable {α : Type} {E : Enc α}

/-- the slice v is the call's own and holds the things xs -/
def Enc.Own (E : Enc α) (w : World) (base : Nat) (v : Value) (xs : List α) : Prop := w.ownsRow base E.t E.k v xs.length (xs.flatMap E.enc)
/-- the things xs lie at a -/
def Enc.At (E : Enc α) (w : World) (a : Option Addr) (xs : List α) : Prop := ∀ i x, xs[i]? = some x → ∃ b o, a = some ⟨b, o, none⟩ ∧ ∀ j u, (E.enc x)[j]? = some u → w.cell? ⟨b, o + (i * E.k + j), none⟩ = some u
theorem Enc.At.below {w w' : World} {a : Option Addr} {xs : List α} (h : E.At w a xs) (hb : Below w.heap.size w w') : E.At w' a xs := fun i x hx => by
  obtain ⟨b, o, e, hc⟩ := h i x hx
  exact ⟨b, o, e, fun j u hu => by rw [hb.cell (p := ⟨b, _, none⟩) (lt_of_cell (hc j u hu))]; exact hc j u hu⟩
theorem Enc.At.nil {w : World} {a : Option Addr} : E.At w a [] := fun i x hx => by simp at hx
theorem Enc.flat (E : Enc α) : ∀ (xs : List α) (i : Nat) (x : α), xs[i]? = some x → ∀ j u, (E.enc x)[j]? = some u → (xs.flatMap E.enc)[i * E.k + j]? = some u
  | [], i, x, h, _, _, _ => by simp at h
  | y :: xs, 0, x, h, j, u, hu => by
    simp at h
    subst h
    rw [List.flatMap_cons, Nat.zero_mul, Nat.zero_add, List.getElem?_append_left (List.getElem?_eq_some_iff.1 hu).1, hu]
  | y :: xs, i + 1, x, h, j, u, hu => by
    have ih := E.flat xs i x (by simpa using h) j u hu
    have hl := E.len y
    have e : (i + 1) * E.k = i * E.k + E.k := Nat.succ_mul i E.k
    rw [List.flatMap_cons, List.getElem?_append_right (by omega), ← ih]
    congr 1
    omega
theorem Enc.flat_len (E : Enc α) : ∀ xs : List α, (xs.flatMap E.enc).length = xs.length * E.k
  | [] => by simp
  | x :: xs => by rw [List.flatMap_cons, List.length_append, E.flat_len xs, E.len, List.length_cons, Nat.succ_mul]; omega
theorem Enc.Own.at {w : World} {base : Nat} {a : Option Addr} {n c : Nat} {xs : List α} (h : E.Own w base (.slice a n c) xs) : E.At w a xs := by
  intro i x hx
  have hi : i < xs.length := (List.getElem?_eq_some_iff.1 hx).1
  rcases h.2 with ⟨h1, h0⟩ | ⟨g, cap, cur, h1, hb, hg, q1, q2, q3, q4⟩
  · omega
  · simp only [Value.slice.injEq] at h1
    obtain ⟨rfl, rfl, rfl⟩ := h1
    refine ⟨g, 0, rfl, fun j u hu => ?_⟩
    have hj : j < E.k := by rw [← E.len x]; exact (List.getElem?_eq_some_iff.1 hu).1
    have hlt : i * E.k + j < xs.length * E.k := by
      have := Nat.mul_le_mul_right E.k (show i + 1 ≤ xs.length from hi)
      rw [Nat.succ_mul] at this; omega
    rw [Nat.zero_add, World.ownsRow.cellAt h (i * E.k + j) hlt]
    exact E.flat xs i x hx j u hu
theorem Enc.Own.read {w : World} {base : Nat} {v : Value} {xs : List α} (h : E.Own w base v xs) : ∃ a c, v = .slice a xs.length c := by
  rcases h.2 with ⟨rfl, h0⟩ | ⟨g, cap, cur, rfl, _⟩
  · exact ⟨none, 0, by rw [h0]⟩
  · exact ⟨_, _, rfl⟩
theorem Enc.Own.lo {w : World} {base : Nat} {v : Value} {xs : List α} (h : E.Own w base v xs) : ∀ k, v.ownBlock = some k → base ≤ k := fun k hk => (World.ownsRow.lt h k hk).1
theorem Enc.Own.hi {w : World} {base : Nat} {v : Value} {xs : List α} (h : E.Own w base v xs) : ∀ k, v.ownBlock = some k → k < w.heap.size := fun k hk => (World.ownsRow.lt h k hk).2
theorem Enc.Own.other {w w' : World} {base : Nat} {v : Value} {xs : List α} {row : Option Nat} (h : E.Own w base v xs) (hg : w.grownBy w' row) (hne : ∀ k, v.ownBlock = some k → row ≠ some k) : E.Own w' base v xs :=
  h.kept hg (by
    cases hv : v.ownBlock with
    | none => exact Or.inl rfl
    | some k => exact Or.inr (fun e => hne k hv e.symm))
theorem Enc.Own.src {w w' : World} {base b : Nat} {v : Value} {xs : List α} (h : E.Own w base v xs) (hb : b < base) (hg : w.grownBy w' (some b)) : E.Own w' base v xs :=
  h.other hg (fun k hk e => by have := h.lo k hk; have := Option.some.inj e; omega)
theorem Enc.Own.grown {w w' : World} {base : Nat} {v : Value} {xs : List α} (h : E.Own w base v xs) (hb : Below w.heap.size w w') : E.Own w' base v xs :=
  h.other (row := none) ⟨hb.os, hb.tape, hb.output, hb.size, fun k hk _ => hb.block k hk⟩ (fun k _ e => by cases e)
theorem Enc.Own.weak {w : World} {base base' : Nat} {v : Value} {xs : List α} (h : E.Own w base v xs) (hb : base' ≤ base) : E.Own w base' v xs := by
  refine ⟨h.1, ?_⟩
  rcases h.2 with h2 | ⟨g, cap, cur, h1, hb', r⟩
  · exact Or.inl h2
  · exact Or.inr ⟨g, cap, cur, h1, by omega, r⟩
theorem Enc.Own.snoc {w : World} {base : Nat} {v : Value} {xs : List α} {x : α} (h : w.ownsRow base E.t E.k v (xs.length + 1) (xs.flatMap E.enc ++ E.enc x)) : E.Own w base v (xs ++ [x]) := by
  unfold Enc.Own
  rw [List.length_append, List.flatMap_append]
  simpa using h
theorem Enc.Own.nil (E : Enc α) (w : World) (base : Nat) : E.Own w base (.slice none 0 0) [] := World.ownsRow_nil _ _ _ _
theorem Enc.Own.new (E : Enc α) (w : World) : E.Own (w.alloc (.cells #[] E.t (0, 0))) w.heap.size (.slice (some ⟨w.heap.size, 0, none⟩) 0 0) [] :=
  World.ownsRow_lit (base := w.heap.size) (size := E.k) w #[] 0 (Nat.le_refl _) (by unfold maxLen; omega) (by simp)
/-- a block with one thing -/
theorem Enc.new_at (E : Enc α) {w : World} {g : Nat} {x : α} {C : Array Value} {t : TypeId} (h : w.heap[g]? = some (.cells C t (0, 0))) (hC : C.toList = E.enc x) : ∀ j u, (E.enc x)[j]? = some u → w.cell? ((⟨g, 0, none⟩ : Addr).add j) = some u := by
  intro j u hu
  rw [Addr.add_lit, Nat.zero_add, (heap_cellR h).1, ← hu, ← hC]
  simp

/-- append of one thing to things of the call's own -/
theorem wpList_append_e (E : Enc α) {P : Program} {ops : Array Oper} {rest : List Oper} {o : Oper} {a : Act} {Q : Exit → Act → World → Prop} {W : World} (hgd : o.guard = none) (s x : Operand) (T : TypeId)
    (ho : o.op = .call { callee := .builtin .append, args := #[s, x], argTypes := #[T, T] }) (hT : P.underlying T = some (.slice E.t)) (i0 : TypeInfo) (z : Value) (hi : P.info? E.t = some i0) (y0 : i0.zero = some z) (y1 : i0.size = E.k) (y2 : i0.bytes = E.bytes) (y3 : z.cells.size = E.k) (hby : E.bytes ≤ 4096)
    (base : Nat) (v : Value) (xs : List α) (y : α) (hs : a.eval s = v) (hown : E.Own W base v xs) (g : Nat) (C : Array Value) (hx : a.eval x = .slice (some ⟨g, 0, none⟩) 1 1)
    (hg : W.heap[g]? = some (.cells C E.t (0, 0))) (hC : C.toList = E.enc y) (hl : xs.length ≤ 1000000000) (hb : base ≤ W.heap.size)
    (h : ∀ a' c' xs' w', xs' = xs ++ [y] → E.Own w' base (.slice a' xs'.length c') xs' → W.grownBy w' v.ownBlock → Below base W w' → wpList P ops Q rest (a.put o.dst (.slice a' xs'.length c')) w') : wpList P ops Q (o :: rest) a W := by
  refine wpList_append_own _ hgd s x T ho base E.t i0 z E.k E.bytes hT hi y0 y1 y2 y3 E.pos v xs.length (xs.flatMap E.enc) hs hown ⟨g, 0, none⟩ 1 1 (E.enc y) hx (by rw [E.len, Nat.one_mul]) (E.new_at hg hC) (E.one y) (by unfold maxLen; omega) ?_ hb ?_
  · calc (xs.length + 1) * E.bytes ≤ (xs.length + 1) * 4096 := Nat.mul_le_mul_left _ hby
      _ ≤ 140737488355328 := by omega
  · intro v' w' h1 h2 _
    have h3 := Enc.Own.snoc h1
    obtain ⟨a', c', rfl⟩ := h3.read
    exact h a' c' _ w' rfl h3 h2 (below_of_grownBy h2 hb (fun k hk => hown.lo k hk))

end Go.Proofs.YtlcglclojlffgaaGreatDoor
namespace Go.Proofs.YtlcglclojlffgaaGreatDoor
open Go.RowKit

/-- while things are drawn into a row of the call's own -/
def StE {α : Type} (E : Enc α) (w : World) (b : Nat) (v : Value) (xs : List α) (W : World) : Prop := StB b w W ∧ E.Own W w.heap.size v xs
theorem StE.draw {α : Type} {E : Enc α} {w W W' : World} {b : Nat} {v : Value} {xs : List α} (h : StE E w b v xs W) (hlt : b < w.heap.size) (hs : Src W' b) (hg : W.grownBy W' (some b)) : StE E w b v xs W' := ⟨stB_trans h.1 hs hg, h.2.src hlt hg⟩
theorem StE.app {α : Type} {E : Enc α} {w W w' : World} {b : Nat} {v v' : Value} {xs ys : List α} {o : Obj} (h : StE E w b v xs W) (hlt : b < w.heap.size) (hg : (W.alloc o).grownBy w' v.ownBlock) (ho : E.Own w' w.heap.size v' ys) : StE E w b v' ys w' :=
  ⟨⟨(stB_alloc h.1 o).1.kept hg (fun k e => by have := h.2.lo k e; omega), (stB_alloc h.1 o).2.andThen hg (fun j e => Or.inl (by have := h.2.lo j e; omega))⟩, ho⟩

end Go.Proofs.YtlcglclojlffgaaGreatDoor
namespace Go.Proofs.YtlcglclojlffgaaGreatDoor

/-- a best segmentation of the rest of a message: its length, its segments, the bytes and the mode of the first -/
structure Ch where
  l : Int
  c : Int
  t : Int
  m : Int
def chZ : Ch := ⟨0, 0, 0, 0⟩
def chB (a b : Ch) : Bool := if a.l != b.l then decide (a.l < b.l) else if a.c != b.c then decide (a.c < b.c) else if a.t != b.t then decide (b.t < a.t) else decide (a.m < b.m)

/-- the characters of the modes 1 to 3 -/
def chars : Nat → List UInt8
  | 1 => [48, 49, 50, 51, 52, 53, 54, 55, 56, 57]
  | 2 => [48, 49, 50, 51, 52, 53, 54, 55, 56, 57, 65, 66, 67, 68, 69, 70, 71, 72, 73, 74, 75, 76, 77, 78, 79, 80, 81, 82, 83, 84, 85, 86, 87, 88, 89, 90, 32, 33, 35, 38, 40, 41, 43, 45, 47]
  | _ => [97, 98, 99, 100, 101, 102, 103, 104, 105, 106, 107, 108, 109, 110, 111, 112, 113, 114, 115, 116, 117, 118, 119, 120, 121, 122, 32, 10, 44, 46, 39, 63]
/-- the index of the first one of these characters that a number is, or -1 -/
def idxC : List UInt8 → Int → Int → Int
  | [], _, _ => -1
  | c :: l, b, k => if (c.toNat : Int) = b then k else idxC l b (k + 1)
def valC (m : Nat) (b : Int) : Int := if m = 4 then b else idxC (chars m) b 0
theorem idxC_ge : ∀ (l : List UInt8) (b k : Int), 0 ≤ k → idxC l b k = -1 ∨ (k ≤ idxC l b k ∧ idxC l b k < k + l.length)
  | [], _, _, _ => Or.inl rfl
  | c :: l, b, k, hk => by
    rw [idxC, List.length_cons]
    split
    · right; omega
    · rcases idxC_ge l b (k + 1) (by omega) with h | h
      · left; exact h
      · right; omega
theorem valC_ge (m : Nat) (b : Int) (hb : 0 ≤ b) : -1 ≤ valC m b := by
  unfold valC
  split
  · omega
  · rcases idxC_ge (chars m) b 0 (by omega) with h | h <;> omega
theorem valC_le (m : Nat) (b : Int) (hb2 : b ≤ 255) : valC m b ≤ 255 := by
  unfold valC
  split
  · omega
  · have hl : (chars m).length ≤ 45 := by unfold chars; split <;> decide
    rcases idxC_ge (chars m) b 0 (by omega) with h | h <;> omega
/-- a byte has a value in a mode -/
def inM (m : Nat) (b : UInt8) : Bool := decide (0 ≤ valC m b.toNat)
theorem inM_four (b : UInt8) : inM 4 b = true := by simp [inM, valC]

/-- bytes of a group; bits of a group -/
def grpM (m : Nat) : Nat := match m with | 1 => 3 | 2 => 2 | _ => 1
def widM (m g : Nat) : Nat := match m with
  | 1 => (match g with | 1 => 4 | 2 => 7 | 3 => 10 | _ => 0)
  | 2 => (match g with | 1 => 6 | 2 => 11 | _ => 0)
  | 3 => 5
  | _ => 8
def baseM (m : Nat) : Nat := match m with | 1 => 10 | 2 => 45 | 3 => 32 | _ => 256
theorem grpM_bd (m : Nat) : 1 ≤ grpM m ∧ grpM m ≤ 3 := by unfold grpM; split <;> decide
theorem widM_bd (m g : Nat) (hg : 1 ≤ g) (hg2 : g ≤ 3) : widM m g ≤ 8 * g := by
  unfold widM
  split
  · split <;> omega
  · split <;> omega
  · omega
  · omega
/-- the bits of the text of n bytes -/
def txtW (m n : Nat) : Nat := n / grpM m * widM m (grpM m) + if n % grpM m > 0 then widM m (n % grpM m) else 0
def segW (m n : Nat) : Nat := 11 + txtW m n
theorem txtW_le (m n : Nat) : txtW m n ≤ 8 * n := by
  unfold txtW
  obtain ⟨h1, h2⟩ := grpM_bd m
  have h3 := widM_bd m (grpM m) h1 h2
  have h4 : n / grpM m * widM m (grpM m) ≤ n / grpM m * (8 * grpM m) := Nat.mul_le_mul_left _ h3
  have h5 := Nat.div_add_mod n (grpM m)
  have h6 : n / grpM m * (8 * grpM m) = 8 * (grpM m * (n / grpM m)) := by
    rw [Nat.mul_comm, Nat.mul_assoc]
  have h7 := Nat.mod_lt n (show 0 < grpM m by omega)
  split
  · rename_i h8
    have h9 := widM_bd m (n % grpM m) h8 (by omega)
    omega
  · omega
theorem segW_le (m n : Nat) (hn : 1 ≤ n) : segW m n ≤ 19 * n := by have := txtW_le m n; unfold segW; omega

/-- how many bytes in a row have a value in a mode, at most those of a segment -/
def runL (m : Nat) : List UInt8 → Nat
  | [] => 0
  | c :: l => if inM m c then min (runL m l + 1) 255 else 0
theorem runL_le (m : Nat) : ∀ s, runL m s ≤ s.length ∧ runL m s ≤ 255
  | [] => by simp [runL]
  | c :: l => by
    have := runL_le m l
    rw [runL, List.length_cons]
    split <;> omega
theorem runL_in (m : Nat) : ∀ (s : List UInt8) (k : Nat) (c : UInt8), k < runL m s → s[k]? = some c → inM m c = true
  | [], _, _, h, _ => by simp [runL] at h
  | c :: l, k, d, h, e => by
    rw [runL] at h
    split at h
    · rename_i hc
      rcases k with - | k
      · simp at e; rw [← e]; exact hc
      · exact runL_in m l k d (by omega) (by simpa using e)
    · omega
theorem runL_out (m : Nat) : ∀ (s : List UInt8) (c : UInt8), runL m s < 255 → s[runL m s]? = some c → inM m c = false
  | [], _, _, e => by simp at e
  | c :: l, d, h, e => by
    rw [runL] at h e
    split at h
    · rename_i hc
      rw [if_pos hc] at e
      have h2 : min (runL m l + 1) 255 = runL m l + 1 := by omega
      rw [h2, List.getElem?_cons_succ] at e
      exact runL_out m l d (by omega) e
    · rename_i hc
      rw [if_neg hc, List.getElem?_cons_zero] at e
      rw [← Option.some.inj e]
      simpa using hc
theorem runL_four : ∀ (s : List UInt8), s ≠ [] → 1 ≤ runL 4 s
  | [], h => absurd rfl h
  | c :: l, _ => by rw [runL, if_pos (inM_four c)]; omega

/-- a candidate: n bytes in mode m, then the best of the rest -/
def candC (tab : List Ch) (m n : Nat) : Ch := ⟨(segW m n : Int) + (tab.getD (n - 1) chZ).l, (tab.getD (n - 1) chZ).c + 1, n, m⟩
def betC (b x : Ch) : Ch := if b.c = 0 ∨ chB x b = true then x else b
/-- the candidates of 1 to n bytes -/
def tryC (tab : List Ch) (m : Nat) : Nat → Ch → Ch
  | 0, b => b
  | n + 1, b => betC (tryC tab m n b) (candC tab m (n + 1))
/-- the candidates of the modes 1 to m -/
def modC (s : List UInt8) (tab : List Ch) : Nat → Ch
  | 0 => chZ
  | m + 1 => tryC tab (m + 1) (runL (m + 1) s) (modC s tab m)
/-- the best segmentations of all endings of a message -/
def tabC : List UInt8 → List Ch
  | [] => [chZ]
  | c :: l => modC (c :: l) (tabC l) 4 :: tabC l
theorem tabC_len : ∀ s, (tabC s).length = s.length + 1
  | [] => rfl
  | c :: l => by rw [tabC, List.length_cons, tabC_len l, List.length_cons]
theorem tabC_drop : ∀ (s : List UInt8) (k : Nat), k ≤ s.length → (tabC s).drop k = tabC (s.drop k)
  | s, 0, _ => by simp
  | [], k + 1, h => by simp at h
  | c :: l, k + 1, h => by rw [tabC, List.drop_succ_cons, List.drop_succ_cons]; exact tabC_drop l k (by simpa using h)
def hdC (s : List UInt8) : Ch := (tabC s).headD chZ
theorem tabC_at (s : List UInt8) (k : Nat) (h : k ≤ s.length) : (tabC s)[k]? = some (hdC (s.drop k)) := by
  have h1 : (tabC s)[k]? = ((tabC s).drop k)[0]? := by simp
  rw [h1, tabC_drop s k h]
  unfold hdC
  have h2 := tabC_len (s.drop k)
  cases h3 : tabC (s.drop k) with
  | nil => rw [h3] at h2; simp at h2
  | cons x r => rfl

/-- what holds of a best segmentation of some bytes -/
structure ChOk (s : List UInt8) (x : Ch) : Prop where
  t : ∃ n m : Nat, x.t = n ∧ x.m = m ∧ 1 ≤ n ∧ n ≤ s.length ∧ n ≤ 255 ∧ 1 ≤ m ∧ m ≤ 4 ∧ n ≤ runL m s ∧ x.l = (segW m n : Int) + (hdC (s.drop n)).l ∧ x.c = (hdC (s.drop n)).c + 1
/-- bounds of what stands in the table -/
def ChBd (n : Nat) (x : Ch) : Prop := 0 ≤ x.l ∧ x.l ≤ 19 * n ∧ 0 ≤ x.c ∧ x.c ≤ n
theorem betC_or (b x : Ch) : betC b x = x ∨ (betC b x = b ∧ b.c ≠ 0) := by
  unfold betC
  split
  · exact Or.inl rfl
  · rename_i h
    exact Or.inr ⟨rfl, fun e => h (Or.inl e)⟩
theorem tryC_ok {P : Ch → Prop} {tab : List Ch} {m : Nat} (b : Ch) (hb : b.c = 0 ∨ P b) : ∀ n, (∀ k, 1 ≤ k → k ≤ n → P (candC tab m k)) → (tryC tab m n b = b ∨ P (tryC tab m n b)) ∧ ((tryC tab m n b).c = 0 ∨ P (tryC tab m n b)) ∧ (1 ≤ n → P (tryC tab m n b))
  | 0, _ => ⟨Or.inl rfl, hb, fun h => by omega⟩
  | n + 1, h => by
    obtain ⟨h1, h2, h3⟩ := tryC_ok b hb n (fun k hk hk2 => h k hk (by omega))
    rw [tryC]
    have hx := h (n + 1) (by omega) (Nat.le_refl _)
    have hP : P (betC (tryC tab m n b) (candC tab m (n + 1))) := by
      rcases betC_or (tryC tab m n b) (candC tab m (n + 1)) with e | ⟨e, he⟩
      · rw [e]; exact hx
      · rw [e]; rcases h2 with h | h
        · exact absurd h he
        · exact h
    exact ⟨Or.inr hP, Or.inr hP, fun _ => hP⟩
theorem modC_ok {P : Ch → Prop} {s : List UInt8} {tab : List Ch} (h : ∀ m k : Nat, 1 ≤ m → m ≤ 4 → 1 ≤ k → k ≤ runL m s → P (candC tab m k)) : ∀ n, n ≤ 4 → (modC s tab n).c = 0 ∨ P (modC s tab n)
  | 0, _ => Or.inl rfl
  | n + 1, hn => by
    rw [modC]
    exact (tryC_ok _ (modC_ok h n (by omega)) _ (fun k hk hk2 => h (n + 1) k (by omega) hn hk hk2)).2.1
theorem modC_four {P : Ch → Prop} {s : List UInt8} {tab : List Ch} (hs : s ≠ []) (h : ∀ m k : Nat, 1 ≤ m → m ≤ 4 → 1 ≤ k → k ≤ runL m s → P (candC tab m k)) : P (modC s tab 4) := by
  show P (tryC tab 4 (runL 4 s) (modC s tab 3))
  exact (tryC_ok _ (modC_ok h 3 (by omega)) _ (fun k hk hk2 => h 4 k (by omega) (by omega) hk hk2)).2.2 (runL_four s hs)
theorem hdC_ok {s : List UInt8} (hs : s ≠ []) : ChOk s (hdC s) := by
  cases s with
  | nil => exact absurd rfl hs
  | cons c l =>
    show ChOk (c :: l) (modC (c :: l) (tabC l) 4)
    apply modC_four hs
    intro m k hm hm4 hk hkr
    have h1 := runL_le m (c :: l)
    have h2 : (tabC l).getD (k - 1) chZ = hdC ((c :: l).drop k) := by
      obtain ⟨j, rfl⟩ : ∃ j, k = j + 1 := ⟨k - 1, by omega⟩
      rw [List.drop_succ_cons, Nat.add_sub_cancel, List.getD_eq_getElem?_getD, tabC_at l j (by simp at h1; omega)]
      rfl
    exact ⟨k, m, rfl, rfl, hk, by omega, by omega, hm, hm4, hkr, by rw [candC, h2], by rw [candC, h2]⟩
theorem hdC_bd : ∀ (n : Nat) (s : List UInt8), s.length ≤ n → ChBd s.length (hdC s)
  | n, [], _ => by simp [ChBd, hdC, tabC, chZ]
  | 0, c :: l, h => by simp at h
  | n + 1, c :: l, h => by
    obtain ⟨k, m, h1, h2, h3, h4, h5, h6, h7, h8, h9, h10⟩ := (hdC_ok (s := c :: l) (by simp)).t
    have h11 := hdC_bd n ((c :: l).drop k) (by rw [List.length_drop]; omega)
    rw [List.length_drop] at h11
    obtain ⟨g1, g2, g3, g4⟩ := h11
    have h12 := segW_le m k h3
    exact ⟨by omega, by omega, by omega, by omega⟩
end Go.Proofs.YtlcglclojlffgaaGreatDoor
namespace Go.Proofs.YtlcglclojlffgaaGreatDoor

/-- a field in four numbers: is it binary, the power, the size, the polynomial or the generator -/
structure Fd where
  bin : Bool
  k : Nat
  q : Nat
  g : Nat

def rstep (k g j x : Nat) : Nat := if x.testBit j then x ^^^ (g <<< (j - k)) else x
/-- times the generator -/
def Fd.T (F : Fd) (x : Nat) : Nat := if F.bin then rstep F.k F.g F.k (x <<< 1) else x * F.g % F.q
def Fd.pw (F : Fd) : Nat → Nat
  | 0 => 1
  | n + 1 => F.T (F.pw n)
def Fd.it (F : Fd) : Nat → Nat → Nat
  | 0, x => x
  | n + 1, x => F.T (F.it n x)
theorem Fd.it_add (F : Fd) (i j x : Nat) : F.it (i + j) x = F.it i (F.it j x) := by
  induction i with
  | zero => simp [Fd.it]
  | succ i ih => rw [show i + 1 + j = (i + j) + 1 by omega, Fd.it, ih, Fd.it]
theorem Fd.pw_it (F : Fd) (n : Nat) : F.pw n = F.it n 1 := by
  induction n with
  | zero => rfl
  | succ n ih => rw [Fd.pw, Fd.it, ih]
theorem Fd.pw_add (F : Fd) (i j : Nat) : F.pw (i + j) = F.it i (F.pw j) := by rw [F.pw_it, F.it_add, ← F.pw_it]

def redN (k g : Nat) : Nat → Nat → Nat
  | 0, x => x
  | m + 1, x => redN k g m (rstep k g (k + m) x)
theorem rstep_xor (k g j x y : Nat) : rstep k g j (x ^^^ y) = rstep k g j x ^^^ rstep k g j y := by
  unfold rstep
  rw [Nat.testBit_xor]
  cases x.testBit j <;> cases y.testBit j <;> simp
  · rw [Nat.xor_assoc]
  · rw [Nat.xor_assoc, Nat.xor_assoc, Nat.xor_comm y]
  · rw [Nat.xor_assoc x (g <<< (j - k)), Nat.xor_comm y (g <<< (j - k)), ← Nat.xor_assoc (g <<< (j - k)) (g <<< (j - k)) y, Nat.xor_self, Nat.zero_xor]
theorem redN_xor (k g : Nat) : ∀ m x y, redN k g m (x ^^^ y) = redN k g m x ^^^ redN k g m y
  | 0, x, y => rfl
  | m + 1, x, y => by rw [redN, rstep_xor, redN_xor k g m, redN, redN]
theorem rstep_two (k g m x : Nat) : rstep k g (k + m + 1) (x <<< 1) = rstep k g (k + m) x <<< 1 := by
  unfold rstep
  rw [Nat.testBit_shiftLeft, show k + m + 1 - 1 = k + m by omega, show k + m + 1 - k = m + 1 by omega, show k + m - k = m by omega]
  have : (k + m + 1 ≥ 1) := by omega
  simp only [this, decide_true, Bool.true_and]
  split
  · rw [Nat.shiftLeft_xor_distrib, Nat.shiftLeft_add]
  · rfl
theorem redN_two (k g : Nat) : ∀ m x, redN k g (m + 1) (x <<< 1) = rstep k g k (redN k g m x <<< 1)
  | 0, x => rfl
  | m + 1, x => by
    rw [redN, show k + (m + 1) = k + m + 1 by omega, rstep_two, redN_two k g m, redN]
theorem redN_low (k g m x : Nat) (h : x < 2 ^ (k + m)) : redN k g (m + 1) x = redN k g m x := by
  rw [redN, rstep, Nat.testBit_lt_two_pow h]; rfl
theorem redN_low' (k g m x : Nat) (h : x < 2 ^ (k + m)) : ∀ d, redN k g (m + d) x = redN k g m x
  | 0 => rfl
  | d + 1 => by
    rw [← Nat.add_assoc, redN_low, redN_low' k g m x h d]
    exact Nat.lt_of_lt_of_le h (Nat.pow_le_pow_right (by omega) (by omega))

variable (F : Fd) (hb : F.bin = true)
include hb
theorem T_bin (x : Nat) : F.T x = rstep F.k F.g F.k (x <<< 1) := by simp [Fd.T, hb]
theorem T_xor (x y : Nat) : F.T (x ^^^ y) = F.T x ^^^ F.T y := by
  rw [T_bin F hb, T_bin F hb, T_bin F hb, Nat.shiftLeft_xor_distrib, rstep_xor]
theorem it_xor (x y : Nat) : ∀ i, F.it i (x ^^^ y) = F.it i x ^^^ F.it i y
  | 0 => rfl
  | i + 1 => by rw [Fd.it, it_xor x y i, T_xor F hb, Fd.it, Fd.it]
theorem it_zero : ∀ i, F.it i 0 = 0
  | 0 => rfl
  | i + 1 => by rw [Fd.it, it_zero i, T_bin F hb]; simp [rstep]
theorem redN_it (a : Nat) : ∀ m, redN F.k F.g m (a <<< m) = F.it m a
  | 0 => by simp [redN, Fd.it]
  | m + 1 => by rw [Nat.shiftLeft_add, redN_two, redN_it a m, Fd.it, T_bin F hb]
omit hb in
/-- the sum of the shifts of a by the bits of b below n -/
def clm (a b : Nat) : Nat → Nat
  | 0 => 0
  | n + 1 => clm a b n ^^^ (if b.testBit n then a <<< n else 0)
theorem redN_clm (a b : Nat) (ha : a < 2 ^ F.k) : ∀ n d, redN F.k F.g (n + d) (clm a b n) = (List.range n).foldl (fun s m => s ^^^ (if b.testBit m then F.it m a else 0)) 0
  | 0, d => by
    rw [clm]
    have : ∀ m, redN F.k F.g m 0 = 0 := by
      intro m
      induction m with
      | zero => rfl
      | succ m ih => rw [redN, rstep]; simp [ih]
    rw [this]; rfl
  | n + 1, d => by
    rw [clm, redN_xor, List.range_succ, List.foldl_append, show n + 1 + d = n + (d + 1) by omega, redN_clm a b ha n (d + 1)]
    simp only [List.foldl_cons, List.foldl_nil]
    congr 1
    split
    · rw [← redN_it F hb, redN_low']
      rw [Nat.shiftLeft_eq, Nat.pow_add]
      exact Nat.mul_lt_mul_of_pos_right ha (Nat.two_pow_pos n)
    · have : ∀ m, redN F.k F.g m 0 = 0 := by
        intro m
        induction m with
        | zero => rfl
        | succ m ih => rw [redN, rstep]; simp [ih]
      rw [this]
theorem it_low (hg : 2 ^ F.k ≤ F.g) : ∀ m, m < F.k → F.it m 1 = 2 ^ m
  | 0, _ => rfl
  | m + 1, h => by
    rw [Fd.it, it_low hg m (by omega), T_bin F hb, rstep, Nat.testBit_lt_two_pow]
    · simp [Nat.shiftLeft_eq, Nat.pow_succ]
    · rw [Nat.shiftLeft_eq, ← Nat.pow_add]
      exact Nat.pow_lt_pow_right (by omega) (by omega)
theorem fold_it (a b i : Nat) (hg : 2 ^ F.k ≤ F.g) (hai : a = F.it i 1) : ∀ n, n ≤ F.k → (List.range n).foldl (fun s m => s ^^^ (if b.testBit m then F.it m a else 0)) 0 = F.it i (b % 2 ^ n)
  | 0, _ => by simp [it_zero F hb, Nat.mod_one]
  | n + 1, h => by
    rw [List.range_succ, List.foldl_append, fold_it a b i hg hai n (by omega)]
    simp only [List.foldl_cons, List.foldl_nil]
    have e : b % 2 ^ (n + 1) = (b % 2 ^ n) ^^^ (if b.testBit n then 2 ^ n else 0) := by
      apply Nat.eq_of_testBit_eq
      intro j
      rw [Nat.testBit_xor, Nat.testBit_mod_two_pow, Nat.testBit_mod_two_pow]
      by_cases hj : j = n
      · subst hj
        cases b.testBit j <;> simp [Nat.testBit_two_pow_self]
      · have : (if b.testBit n then 2 ^ n else 0).testBit j = false := by
          split
          · rw [Nat.testBit_two_pow]; simp; omega
          · simp
        rw [this]
        have : decide (j < n + 1) = decide (j < n) := by
          by_cases h1 : j < n
          · simp [h1]; omega
          · simp [h1]; omega
        rw [this]; simp
    rw [e, it_xor F hb]
    congr 1
    split
    · rw [hai, ← it_low F hb hg n (by omega), ← F.it_add, ← F.it_add, Nat.add_comm]
    · rw [it_zero F hb]

/-- the reference's product -/
def Fd.mulB (F : Fd) (a b : Nat) : Nat := redN F.k F.g (F.k + 1) (clm a b F.k)
theorem mulB_pw (hg : 2 ^ F.k ≤ F.g) (i j : Nat) (hi : F.pw i < 2 ^ F.k) (hj : F.pw j < 2 ^ F.k) : F.mulB (F.pw i) (F.pw j) = F.pw (i + j) := by
  rw [Fd.mulB, redN_clm F hb _ _ hi, fold_it F hb _ _ i hg (F.pw_it i) _ (Nat.le_refl _), Nat.mod_eq_of_lt hj, F.pw_add]

omit hb
/-- the field's numbers are as they should be -/
structure Fd.Fit (F : Fd) : Prop where
  q3 : 3 ≤ F.q
  bin : F.bin = true → F.q = 2 ^ F.k ∧ 2 ^ F.k ≤ F.g ∧ F.g < 2 ^ (F.k + 1)
  num : F.bin = false → F.g < F.q
theorem Fd.T_lt {F : Fd} (h : F.Fit) {x : Nat} (hx : x < F.q) : F.T x < F.q := by
  cases hb : F.bin with
  | false =>
    simp only [Fd.T, hb]
    exact Nat.mod_lt _ (by have := h.q3; omega)
  | true =>
    obtain ⟨h1, h2, h3⟩ := h.bin hb
    rw [T_bin F hb, rstep, h1]
    rw [h1] at hx
    have h4 : x <<< 1 < 2 ^ (F.k + 1) := by rw [Nat.shiftLeft_eq, Nat.pow_succ]; omega
    split
    · rename_i hk
      simp only [Nat.sub_self, Nat.shiftLeft_zero]
      apply Nat.lt_pow_two_of_testBit
      intro i hi
      rw [Nat.testBit_xor]
      rcases Nat.eq_or_lt_of_le hi with rfl | hi
      · rw [hk, Nat.testBit_of_two_pow_le_and_two_pow_add_one_gt h2 h3]; rfl
      · rw [Nat.testBit_lt_two_pow (Nat.lt_of_lt_of_le h4 (Nat.pow_le_pow_right (by omega) hi)), Nat.testBit_lt_two_pow (Nat.lt_of_lt_of_le h3 (Nat.pow_le_pow_right (by omega) hi))]; rfl
    · rename_i hk
      apply Nat.lt_pow_two_of_testBit
      intro i hi
      rcases Nat.eq_or_lt_of_le hi with rfl | hi
      · simpa using hk
      · exact Nat.testBit_lt_two_pow (Nat.lt_of_lt_of_le h4 (Nat.pow_le_pow_right (by omega) hi))
theorem Fd.pw_lt {F : Fd} (h : F.Fit) : ∀ n, F.pw n < F.q
  | 0 => by have := h.q3; simp [Fd.pw]; omega
  | n + 1 => F.T_lt h (F.pw_lt h n)
/-- the powers of the generator run through all elements but 0 -/
def Fd.Runs (F : Fd) : Prop := (∀ n, n < F.q - 1 → F.pw n ≠ 0 ∧ (0 < n → F.pw n ≠ 1)) ∧ F.pw (F.q - 1) = 1
theorem Fd.pw_per {F : Fd} (hr : F.Runs) (n : Nat) : F.pw (n + (F.q - 1)) = F.pw n := by rw [F.pw_add, hr.2, ← F.pw_it]
theorem Fd.pw_mod {F : Fd} (hr : F.Runs) (h : F.Fit) (n : Nat) : F.pw (n % (F.q - 1)) = F.pw n := by
  have h3 := h.q3
  induction n using Nat.strongRecOn with
  | _ n ih =>
    by_cases hn : n < F.q - 1
    · rw [Nat.mod_eq_of_lt hn]
    · have e : n = (n - (F.q - 1)) + (F.q - 1) := by omega
      rw [e, Nat.add_mod_right, ih _ (by omega), F.pw_per hr]
theorem Fd.pw_ne {F : Fd} (hr : F.Runs) (h : F.Fit) (n : Nat) : F.pw n ≠ 0 := by
  rw [← F.pw_mod hr h]
  exact (hr.1 _ (Nat.mod_lt _ (by have := h.q3; omega))).1
theorem Fd.pw_inj {F : Fd} (hr : F.Runs) {i j : Nat} (hij : i < j) (hj : j < F.q - 1) : F.pw i ≠ F.pw j := by
  intro e
  have h1 : F.pw (F.q - 1 - i + i) = F.pw (F.q - 1 - i + j) := by rw [F.pw_add, F.pw_add, e]
  rw [show F.q - 1 - i + i = F.q - 1 by omega, hr.2, show F.q - 1 - i + j = (j - i) + (F.q - 1) by omega, F.pw_per hr] at h1
  exact (hr.1 (j - i) (by omega)).2 (by omega) h1.symm
theorem pigeon : ∀ (n : Nat) (f : Nat → Nat), (∀ i, i < n → f i < n) → (∀ i j, i < j → j < n → f i ≠ f j) → ∀ y, y < n → ∃ i, i < n ∧ f i = y
  | 0, _, _, _, y, hy => by omega
  | n + 1, f, hf, hi, y, hy => by
    -- g: f with the value n put in the place of f n
    by_cases hfn : f n = y
    · exact ⟨n, by omega, hfn⟩
    -- swap: values below n
    let s : Nat → Nat := fun x => if f x = n then f n else f x
    have hs : ∀ i, i < n → s i < n := by
      intro i hin
      have h1 := hf i (by omega)
      have h2 := hf n (by omega)
      have h3 := hi i n hin (by omega)
      show (if f i = n then f n else f i) < n
      split <;> omega
    have hsi : ∀ i j, i < j → j < n → s i ≠ s j := by
      intro i j hij hjn
      have h1 := hi i j hij (by omega)
      have h2 := hi i n (by omega) (by omega)
      have h3 := hi j n (by omega) (by omega)
      show (if f i = n then f n else f i) ≠ (if f j = n then f n else f j)
      split <;> split <;> omega
    by_cases hyn : y = n
    · subst hyn
      -- f n < y; find i with s i = f n
      have h2 := hf y (by omega)
      obtain ⟨i, h4, h5⟩ := pigeon y s hs hsi (f y) (by omega)
      refine ⟨i, by omega, ?_⟩
      have h6 := hi i y h4 (by omega)
      change (if f i = y then f y else f i) = f y at h5
      split at h5 <;> omega
    · obtain ⟨i, h4, h5⟩ := pigeon n s hs hsi y (by omega)
      refine ⟨i, by omega, ?_⟩
      change (if f i = n then f n else f i) = y at h5
      split at h5 <;> omega
/-- each element but 0 is a power of the generator -/
theorem Fd.log {F : Fd} (hr : F.Runs) (h : F.Fit) {x : Nat} (h0 : x ≠ 0) (hx : x < F.q) : ∃ i, i < F.q - 1 ∧ F.pw i = x := by
  obtain ⟨i, hi, e⟩ := pigeon (F.q - 1) (fun i => F.pw i - 1) (fun i hi => by have h1 := F.pw_lt h i; have h2 := F.pw_ne hr h i; have := h.q3; show F.pw i - 1 < _; omega)
    (fun i j hij hj e => by
      have h1 := F.pw_ne hr h i
      have h2 := F.pw_ne hr h j
      have h3 := F.pw_inj hr hij hj
      change F.pw i - 1 = F.pw j - 1 at e
      omega) (x - 1) (by omega)
  have h1 := F.pw_ne hr h i
  change F.pw i - 1 = x - 1 at e
  exact ⟨i, hi, by omega⟩

/-- the product -/
def Fd.mul (F : Fd) (a b : Nat) : Nat := if F.bin then F.mulB a b else a * b % F.q
def Fd.add (F : Fd) (a b : Nat) : Nat := if F.bin then a ^^^ b else (a + b) % F.q
theorem Fd.pw_num {F : Fd} (hb : F.bin = false) (h : F.Fit) : ∀ n, F.pw n = F.g ^ n % F.q
  | 0 => by rw [Fd.pw, Nat.pow_zero, Nat.mod_eq_of_lt]; have := h.q3; omega
  | n + 1 => by
    rw [Fd.pw, F.pw_num hb h n, Nat.pow_succ]
    simp only [Fd.T, hb]
    exact Nat.mod_mul_mod _ _ _
theorem Fd.mul_pw {F : Fd} (h : F.Fit) (i j : Nat) : F.mul (F.pw i) (F.pw j) = F.pw (i + j) := by
  unfold Fd.mul
  cases hb : F.bin with
  | false => simp only [Bool.false_eq_true, if_false]; rw [F.pw_num hb h, F.pw_num hb h, F.pw_num hb h, ← Nat.mul_mod, Nat.pow_add]
  | true =>
    simp only [if_true]
    obtain ⟨h1, h2, h3⟩ := h.bin hb
    exact mulB_pw F hb h2 i j (h1 ▸ F.pw_lt h i) (h1 ▸ F.pw_lt h j)
theorem redN_zero (k g : Nat) : ∀ m, redN k g m 0 = 0
  | 0 => rfl
  | m + 1 => by rw [redN, rstep]; simp [redN_zero k g m]
theorem clm_zero (b : Nat) : ∀ n, clm 0 b n = 0
  | 0 => rfl
  | n + 1 => by rw [clm, clm_zero b n]; simp
theorem clm_zero_right (a : Nat) : ∀ n, clm a 0 n = 0
  | 0 => rfl
  | n + 1 => by rw [clm, clm_zero_right a n]; simp
theorem Fd.mul_zero (F : Fd) (a : Nat) : F.mul a 0 = 0 := by
  unfold Fd.mul Fd.mulB
  split
  · rw [clm_zero_right, redN_zero]
  · simp
theorem Fd.zero_mul (F : Fd) (a : Nat) : F.mul 0 a = 0 := by
  unfold Fd.mul Fd.mulB
  split
  · rw [clm_zero, redN_zero]
  · simp
end Go.Proofs.YtlcglclojlffgaaGreatDoor
namespace Go.Proofs.YtlcglclojlffgaaGreatDoor

/-- a matrix size -/
def msz (n : Int) : Bool := decide (17 ≤ n) && decide (n ≤ 41) && n % 4 == 1
theorem msz_cases {n : Int} (h : msz n = true) : n = 17 ∨ n = 21 ∨ n = 25 ∨ n = 29 ∨ n = 33 ∨ n = 37 ∨ n = 41 := by
  simp [msz] at h; omega
def absI (n : Int) : Int := if n < 0 then -n else n
/-- the greater distance -/
def dst (r c : Int) : Int := if absI r ≤ absI c then absI c else absI r
/-- the program's finder pattern round its middle -/
def findI (r c : Int) : Int := if dst r c = 2 ∨ dst r c = 4 then 0 else 1
def midI (n r : Int) : Int := if n / 2 < r then n - 4 else 3
def inF (n r c : Int) : Bool := (midI n r == 3 || midI n c == 3) && decide (dst (r - midI n r) (c - midI n c) ≤ 4)
/-- the program's fixed cells -/
def fixI (n r c : Int) : Int :=
  if inF n r c then findI (r - midI n r) (c - midI n c)
  else if r = 6 ∧ 8 ≤ c ∧ c ≤ n - 9 then 1 - c % 2
  else if c = 6 ∧ 8 ≤ r ∧ r ≤ n - 9 then 1 - r % 2
  else if r = n - 8 ∧ c = 8 then 1 else -1
/-- the reference's finder -/
def findS (r c : Int) : Int := if 4 < dst (r - 3) (c - 3) then -1 else if dst (r - 3) (c - 3) = 2 ∨ dst (r - 3) (c - 3) = 4 then 0 else 1
def fixS (n r c : Int) : Int :=
  if 0 ≤ findS r c then findS r c
  else if 0 ≤ findS r (c - (n - 7)) then findS r (c - (n - 7))
  else if 0 ≤ findS (r - (n - 7)) c then findS (r - (n - 7)) c
  else if r = 6 ∧ 8 ≤ c ∧ c ≤ n - 9 then 1 - c % 2
  else if c = 6 ∧ 8 ≤ r ∧ r ≤ n - 9 then 1 - r % 2
  else if r = n - 8 ∧ c = 8 then 1 else -1
/-- the places of the format -/
def fmtA : List (Int × Int) := [(8, 0), (8, 1), (8, 2), (8, 3), (8, 4), (8, 5), (8, 7), (8, 8), (7, 8), (5, 8), (4, 8), (3, 8), (2, 8), (1, 8), (0, 8)]
def fmtB (n : Int) : List (Int × Int) := [(n - 1, 8), (n - 2, 8), (n - 3, 8), (n - 4, 8), (n - 5, 8), (n - 6, 8), (n - 7, 8), (8, n - 8), (8, n - 7), (8, n - 6), (8, n - 5), (8, n - 4), (8, n - 3), (8, n - 2), (8, n - 1)]
/-- a place that is no data cell -/
def takenI (n r c : Int) : Bool := decide (0 ≤ fixI n r c) || (fmtA.contains (r, c)) || ((fmtB n).contains (r, c))
/-- the places of a pair of columns -/
def colI (n right : Int) (up : Bool) : List (Int × Int) :=
  ((List.range (2 * n.toNat)).map fun (k : Nat) => ((if up then n - 1 - (k : Int) / 2 else (k : Int) / 2), right - (k : Int) % 2)).filter fun p => !takenI n p.1 p.2
/-- the columns from the right on, in pairs -/
def rightsI : Nat → Int → List Int
  | 0, _ => []
  | f + 1, r => if 0 < r then (if r = 6 then 5 else r) :: rightsI f ((if r = 6 then 5 else r) - 2) else []
def placesF (n : Int) : List Int → Bool → List (Int × Int)
  | [], _ => []
  | r :: l, up => colI n r up ++ placesF n l (!up)
def placesI (n : Int) : List (Int × Int) := placesF n (rightsI n.toNat (n - 1)) true
/-- the reference's count of data cells -/
def cntS (n : Nat) : Int := -30 + (((List.range (n * n)).filter fun i => decide (fixS n (i / n : Nat) (i % n : Nat) < 0)).length : Int)

end Go.Proofs.YtlcglclojlffgaaGreatDoor
namespace Go.Proofs.YtlcglclojlffgaaGreatDoor

/-- the number of data cells -/
def dcnt (n : Int) : Nat := if n = 17 then 64 else if n = 21 then 208 else if n = 25 then 384 else if n = 29 then 592 else if n = 33 then 832 else if n = 37 then 1104 else 1408
set_option maxRecDepth 100000 in
theorem places_len {n : Int} (h : msz n = true) : (placesI n).length = dcnt n := by
  rcases msz_cases h with rfl | rfl | rfl | rfl | rfl | rfl | rfl <;> decide +kernel
set_option maxRecDepth 100000 in
theorem cntS_eq {n : Int} (h : msz n = true) : cntS n.toNat = dcnt n := by
  rcases msz_cases h with rfl | rfl | rfl | rfl | rfl | rfl | rfl <;> decide +kernel
theorem dcnt_bd (n : Int) : 64 ≤ dcnt n ∧ dcnt n ≤ 1408 := by unfold dcnt; repeat' split
                                                              all_goals omega

end Go.Proofs.YtlcglclojlffgaaGreatDoor
namespace Go.Proofs.YtlcglclojlffgaaGreatDoor

instance (F : Fd) : Decidable F.Runs := inferInstanceAs (Decidable (_ ∧ _))
/-- the binary field with a power and a polynomial -/
def bF (k g : Nat) : Fd := ⟨true, k, 2 ^ k, g⟩
/-- a valid binary field: prime, power, polynomial -/
def fldB (p k g : Int) : Bool := decide (p = 2) && decide (3 ≤ k) && decide (k ≤ 8) && decide (((2 ^ k.toNat : Nat) : Int) ≤ g) && decide (g < ((2 * 2 ^ k.toNat : Nat) : Int)) && decide (bF k.toNat g.toNat).Runs
structure FldOk (p k g : Int) (F : Fd) : Prop where
  p : p = 2
  k : k = F.k
  g : g = F.g
  k3 : 3 ≤ F.k
  k8 : F.k ≤ 8
  self : F = bF F.k F.g
  fit : F.Fit
  runs : F.Runs
theorem fldB_ok {p k g : Int} (h : fldB p k g = true) : FldOk p k g (bF k.toNat g.toNat) := by
  simp only [fldB, Bool.and_eq_true, decide_eq_true_eq] at h
  obtain ⟨⟨⟨⟨⟨h1, h2⟩, h3⟩, h4⟩, h5⟩, h6⟩ := h
  have hp : 1 ≤ 2 ^ k.toNat := Nat.one_le_two_pow
  have h8 : 2 ^ 3 ≤ 2 ^ k.toNat := Nat.pow_le_pow_right (by omega) (by omega)
  refine ⟨h1, ?_, ?_, ?_, ?_, rfl, ⟨?_, ?_, ?_⟩, h6⟩
  · show k = (k.toNat : Int); omega
  · show g = (g.toNat : Int); omega
  · show 3 ≤ k.toNat; omega
  · show k.toNat ≤ 8; omega
  · show 3 ≤ 2 ^ k.toNat; omega
  · intro _
    refine ⟨rfl, ?_, ?_⟩
    · show 2 ^ k.toNat ≤ g.toNat; omega
    · show g.toNat < 2 ^ (k.toNat + 1); rw [Nat.pow_succ]; omega
  · intro h; cases h
theorem FldOk.q {p k g : Int} {F : Fd} (h : FldOk p k g F) : F.q = 2 ^ F.k := by rw [h.self]; rfl
theorem FldOk.bin {p k g : Int} {F : Fd} (h : FldOk p k g F) : F.bin = true := by rw [h.self]; rfl
theorem FldOk.q_bd {p k g : Int} {F : Fd} (h : FldOk p k g F) : 8 ≤ F.q ∧ F.q ≤ 256 := by
  rw [h.q]
  exact ⟨Nat.pow_le_pow_right (n := 2) (by omega) h.k3, Nat.pow_le_pow_right (n := 2) (by omega) h.k8⟩
/-- a list that rises within bounds -/
def risB (lo hi : Int) (l : List Int) : Bool := decide (∀ i, i < l.length → (lo ≤ l.getD i 0 ∧ l.getD i 0 ≤ hi) ∧ (0 < i → l.getD (i - 1) 0 < l.getD i 0))
def nameB (s : List UInt8) : Bool := (s.all fun c => decide (97 ≤ c.toNat) && decide (c.toNat ≤ 122)) && decide (1 ≤ s.length) && decide (s.length ≤ 8)
/-- a family in numbers -/
structure Fam where
  name : ByteArray
  kind : Int
  fp : Int
  fk : Int
  fg : Int
  sizes : List Int
  cols : Int
  levels : List Int
def Fam.ok (f : Fam) : Bool := nameB f.name.data.toList && decide (1 ≤ f.levels.length) && decide (f.levels.length ≤ 4) && risB 1 80 f.levels && decide (1 ≤ f.sizes.length) && decide (f.sizes.length ≤ 8) &&
  if f.kind = 1 then f.sizes.all msz && fldB f.fp f.fk f.fg && decide (f.cols = 0) && risB 17 41 f.sizes
  else if f.kind = 2 then decide (f.fp = 2) && decide (f.fk = 5) && decide (f.fg = 37) && decide (1 ≤ f.cols) && decide (f.cols ≤ 8) && risB 3 24 f.sizes else false

end Go.Proofs.YtlcglclojlffgaaGreatDoor
namespace Go.Proofs.YtlcglclojlffgaaGreatDoor

/-- the inverse, as the program finds it: by the logarithm -/
def Fd.IsInv (F : Fd) (a b : Nat) : Prop := ∃ i, i < F.q - 1 ∧ F.pw i = a ∧ b = F.pw ((F.q - 1 - i) % (F.q - 1))
end Go.Proofs.YtlcglclojlffgaaGreatDoor
namespace Go.Proofs.YtlcglclojlffgaaGreatDoor

/-- all coefficients are elements -/
def AllE (F : Fd) (l : List Nat) : Prop := ∀ x ∈ l, x < F.q
theorem AllE.set {F : Fd} {l : List Nat} (h : AllE F l) {i x : Nat} (hx : x < F.q) : AllE F (l.set i x) := fun y hy => by
  rcases List.mem_or_eq_of_mem_set hy with h1 | rfl
  · exact h y h1
  · exact hx
theorem AllE.take {F : Fd} {l : List Nat} (h : AllE F l) (k : Nat) : AllE F (l.take k) := fun y hy => h y (List.mem_of_mem_take hy)
theorem Fd.one_mul {F : Fd} (hr : F.Runs) (h : F.Fit) {a : Nat} (ha : a < F.q) : F.mul 1 a = a ∧ F.mul a 1 = a := by
  by_cases h0 : a = 0
  · subst h0; exact ⟨F.mul_zero _, F.zero_mul _⟩
  · obtain ⟨i, _, rfl⟩ := F.log hr h h0 ha
    have h1 : (1 : Nat) = F.pw 0 := rfl
    constructor
    · have := F.mul_pw h 0 i
      rw [Nat.zero_add] at this; exact this
    · exact F.mul_pw h i 0
end Go.Proofs.YtlcglclojlffgaaGreatDoor
namespace Go.Proofs.YtlcglclojlffgaaGreatDoor
open Go.RowKit

/-! Regions that draw their order and only read or make memory: what stands in world w0 stands still. -/
def KB (W W' : World) : Prop := Below W.heap.size W W'
def StX (w0 W : World) : Prop := Below w0.heap.size w0 W
def spE (v : Value) : Sp KB := ⟨fun u _ => u = v, fun _ _ _ _ h => h⟩
/-- a slice of n cells, each as f tells -/
def RowF (n : Nat) (f : Nat → Value) (u : Value) (W : World) : Prop := ∃ b, u = .slice (some ⟨b, 0, none⟩) n n ∧ ∀ i, i < n → W.cell? ⟨b, i, none⟩ = some (f i)
theorem RowF.below {n : Nat} {f : Nat → Value} {u : Value} {W W' : World} (h : RowF n f u W) (hb : Below W.heap.size W W') : RowF n f u W' := by
  obtain ⟨b, e, hc⟩ := h
  exact ⟨b, e, fun i hi => by rw [hb.cell (p := ⟨b, i, none⟩) (lt_of_cell (hc i hi))]; exact hc i hi⟩
theorem stX0 (w : World) : StX w w.drew := (Below.refl _ _).drew
theorem kbr (w : World) : KB w w := Below.refl _ _
theorem kb_same {w0 W : World} {s : Sp KB} {v : Value} (hst : StX w0 W) (h : s.holds v W) : RsR (StX w0) s W v W := ⟨hst, Below.refl _ _, h⟩
theorem kb_below {w0 W W' : World} {s : Sp KB} {v : Value} (hst : StX w0 W) (hb : Below W.heap.size W W') (h : s.holds v W') : RsR (StX w0) s W v W' := ⟨bt0 hst hb (Nat.le_refl _), hb, h⟩
end Go.Proofs.YtlcglclojlffgaaGreatDoor
namespace Go.Proofs.YtlcglclojlffgaaGreatDoor
open Go.RowKit

theorem push_at (w : World) (A : Obj) : (w.alloc A).heap[w.heap.size]? = some A := Array.getElem?_push_size
theorem push_old {w : World} {i : Nat} {A B : Obj} (h : w.heap[i]? = some B) : (w.alloc A).heap[i]? = some B := ((ba1 w A).block i (Array.getElem?_eq_some_iff.1 h).1).trans h
theorem heap2 (w : World) (A B : Obj) : ((w.alloc A).alloc B).heap[w.heap.size]? = some A ∧ ((w.alloc A).alloc B).heap[w.heap.size + 1]? = some B := by
  refine ⟨push_old (push_at w A), ?_⟩
  have h := push_at (w.alloc A) B
  rw [World.size_alloc] at h
  exact h
theorem heap3 (w : World) (A B C : Obj) : (((w.alloc A).alloc B).alloc C).heap[w.heap.size]? = some A ∧ (((w.alloc A).alloc B).alloc C).heap[w.heap.size + 1]? = some B ∧ (((w.alloc A).alloc B).alloc C).heap[w.heap.size + 1 + 1]? = some C := by
  refine ⟨push_old (heap2 w A B).1, push_old (heap2 w A B).2, ?_⟩
  have h := push_at ((w.alloc A).alloc B) C
  rw [World.size_alloc, World.size_alloc] at h
  exact h
theorem blk {w w' : World} {B i : Nat} {A : Obj} (hb : Below B w w') (h : w.heap[i]? = some A) (hB : i < B) : w'.heap[i]? = some A := (hb.block i hB).trans h
theorem blkK {w w' : World} {i : Nat} {A : Obj} (hb : Below w.heap.size w w') (h : w.heap[i]? = some A) : w'.heap[i]? = some A := (hb.block i (Array.getElem?_eq_some_iff.1 h).1).trans h
theorem blkLt {w : World} {i : Nat} {A : Obj} (h : w.heap[i]? = some A) : i < w.heap.size := (Array.getElem?_eq_some_iff.1 h).1

end Go.Proofs.YtlcglclojlffgaaGreatDoor
namespace Go.Proofs.YtlcglclojlffgaaGreatDoor
open Go.RowKit

/-- a field's tables, filled up to n: whether it is binary, its size, powers, logarithms -/
structure CalcTo (F : Fd) (n : Nat) (C : Array Value) : Prop where
  size : C.size = 2044
  bin : C[0]? = some (.bool F.bin)
  q : C[1]? = some (.int .i64 F.q)
  exp : ∀ i, i < n → C[2 + i]? = some (.int .i64 (F.pw i))
  log : ∀ i, i < n → C[1023 + F.pw i]? = some (.int .i64 i)
theorem CalcTo.step {F : Fd} {n : Nat} {C : Array Value} (h : CalcTo F n C) (hn : n < 1021) (hp : F.pw n < 1021) (hne : ∀ i, i < n → F.pw i ≠ F.pw n) :
    CalcTo F (n + 1) ((C.setIfInBounds (2 + n) (.int .i64 (F.pw n))).setIfInBounds (1023 + F.pw n) (.int .i64 n)) := by
  have hs := h.size
  refine ⟨by simp [hs], ?_, ?_, ?_, ?_⟩
  · rw [Array.getElem?_setIfInBounds_ne (by omega), Array.getElem?_setIfInBounds_ne (by omega)]; exact h.bin
  · rw [Array.getElem?_setIfInBounds_ne (by omega), Array.getElem?_setIfInBounds_ne (by omega)]; exact h.q
  · intro i hi
    rw [Array.getElem?_setIfInBounds_ne (by omega)]
    by_cases e : i = n
    · subst e
      rw [Array.getElem?_setIfInBounds_self_of_lt (by omega)]
    · rw [Array.getElem?_setIfInBounds_ne (by omega)]; exact h.exp i (by omega)
  · intro i hi
    by_cases e : i = n
    · subst e
      rw [Array.getElem?_setIfInBounds_self_of_lt (by rw [Array.size_setIfInBounds]; omega)]
    · have := hne i (by omega)
      rw [Array.getElem?_setIfInBounds_ne (by omega), Array.getElem?_setIfInBounds_ne (by omega)]; exact h.log i (by omega)
/-- the block of a field's arithmetic -/
def CalcAt (w : World) (b : Nat) (F : Fd) : Prop := ∃ C t, w.heap[b]? = some (.cells C t (0, 0)) ∧ CalcTo F (F.q - 1) C
theorem CalcAt.below {w w' : World} {b : Nat} {F : Fd} (h : CalcAt w b F) (hb : Below w.heap.size w w') : CalcAt w' b F := by
  obtain ⟨C, t, h1, h2⟩ := h
  exact ⟨C, t, blkK hb h1, h2⟩
theorem CalcAt.lt {w : World} {b : Nat} {F : Fd} (h : CalcAt w b F) : b < w.heap.size := by
  obtain ⟨C, t, h1, h2⟩ := h
  exact blkLt h1
theorem CalcAt.cell {w : World} {b : Nat} {F : Fd} (h : CalcAt w b F) : w.cell? ⟨b, 0, none⟩ = some (.bool F.bin) ∧ w.cell? ⟨b, 1, none⟩ = some (.int .i64 F.q) ∧ (∀ i, i < F.q - 1 → w.cell? ⟨b, 2 + i, none⟩ = some (.int .i64 (F.pw i))) ∧
    (∀ i, i < F.q - 1 → w.cell? ⟨b, 1023 + F.pw i, none⟩ = some (.int .i64 i)) := by
  obtain ⟨C, t, h1, h2⟩ := h
  have hc := (heap_cellR h1).1
  exact ⟨by rw [hc]; exact h2.bin, by rw [hc]; exact h2.q, fun i hi => by rw [hc]; exact h2.exp i hi, fun i hi => by rw [hc]; exact h2.log i hi⟩

end Go.Proofs.YtlcglclojlffgaaGreatDoor
namespace Go.Proofs.YtlcglclojlffgaaGreatDoor
open Go.RowKit

theorem wraps64 (n : Int) (h₀ : 0 ≤ n) (h₁ : n < 2 ^ 62) : IntKind.i64.wrap n = n := by rw [IntKind.wrap_i64]; omega
theorem and64 (a b : Nat) (ha : a < 2 ^ 62) (hb : b < 2 ^ 62) : bits .and .i64 (a : Int) (b : Int) = ((a &&& b : Nat) : Int) := (bits_nat .i64 62 (by decide) wraps64 a b ha hb).1
theorem xor64 (a b : Nat) (ha : a < 2 ^ 62) (hb : b < 2 ^ 62) : bits .xor .i64 (a : Int) (b : Int) = ((a ^^^ b : Nat) : Int) := by
  have hp : (2 : Nat) ^ 62 ≤ 2 ^ IntKind.i64.bits := Nat.pow_le_pow_right (by decide) (by decide)
  have ha' : a % 2 ^ IntKind.i64.bits = a := Nat.mod_eq_of_lt (Nat.lt_of_lt_of_le ha hp)
  have hb' : b % 2 ^ IntKind.i64.bits = b := Nat.mod_eq_of_lt (Nat.lt_of_lt_of_le hb hp)
  simp only [bits, BitVec.ofInt_natCast, BitVec.toNat_xor, BitVec.toNat_ofNat, ha', hb']
  exact wraps64 _ (Int.natCast_nonneg _) (by exact_mod_cast Nat.xor_lt_two_pow ha hb)
theorem and64I (a b : Int) (h1 : 0 ≤ a) (h2 : 0 ≤ b) (h3 : a < 2 ^ 62) (h4 : b < 2 ^ 62) : bits .and .i64 a b = ((a.toNat &&& b.toNat : Nat) : Int) := by
  obtain ⟨a, rfl⟩ := Int.eq_ofNat_of_zero_le h1
  obtain ⟨b, rfl⟩ := Int.eq_ofNat_of_zero_le h2
  exact and64 a b (by exact_mod_cast h3) (by exact_mod_cast h4)
theorem andOne (a : Int) (h1 : 0 ≤ a) (h3 : a < 2 ^ 62) : bits .and .i64 a 1 = a % 2 := by
  have := and64I a 1 h1 (by omega) h3 (by omega)
  rw [this, show (1 : Int).toNat = 1 from rfl, Nat.and_one_is_mod]
  omega

end Go.Proofs.YtlcglclojlffgaaGreatDoor
namespace Go.Proofs.YtlcglclojlffgaaGreatDoor
open Go.RowKit

theorem and_pow (x k : Nat) : x &&& 2 ^ k = if x.testBit k then 2 ^ k else 0 := by
  apply Nat.eq_of_testBit_eq
  intro j
  rw [Nat.testBit_and, Nat.testBit_two_pow]
  by_cases h : k = j
  · subst h
    cases x.testBit k <;> simp
  · have h2 : decide (k = j) = false := by simp [h]
    rw [h2, Bool.and_false]
    split
    · rw [Nat.testBit_two_pow]; simp [h]
    · simp
theorem T_yes {F : Fd} (hb : F.bin = true) {x : Nat} (h : (x * 2 &&& 2 ^ F.k) ≠ 0) : F.T x = (x * 2) ^^^ F.g := by
  have e : x <<< 1 = x * 2 := by rw [Nat.shiftLeft_eq]
  rw [T_bin F hb, rstep, e]
  rw [and_pow] at h
  have : (x * 2).testBit F.k = true := by
    cases h2 : (x * 2).testBit F.k
    · rw [h2] at h; simp at h
    · rfl
  rw [if_pos this, Nat.sub_self, Nat.shiftLeft_zero]
theorem T_no {F : Fd} (hb : F.bin = true) {x : Nat} (h : (x * 2 &&& 2 ^ F.k) = 0) : F.T x = x * 2 := by
  have e : x <<< 1 = x * 2 := by rw [Nat.shiftLeft_eq]
  rw [T_bin F hb, rstep, e]
  rw [and_pow] at h
  have : ¬ (x * 2).testBit F.k = true := by
    intro h2
    rw [h2] at h
    have := Nat.two_pow_pos F.k
    simp at h
  rw [if_neg this]
set_option maxHeartbeats 400000 in
theorem times_any (F : Fd) (hb : F.bin = true) (hq : F.q = 2 ^ F.k) (hk : F.k ≤ 8) (hg : F.g < 1024) (x c1 c2 b : Nat) (hx : x < F.q) (w : World) (h1 : w.cell? ⟨c1, 0, none⟩ = some (.pointer (some ⟨b, 0, none⟩))) (h2 : w.cell? ⟨b, 1, none⟩ = some (.int .i64 F.q)) (h3 : w.cell? ⟨c2, 2, none⟩ = some (.int .i64 F.g)) :
    Calls Tryz.prog 206 #[.int .i64 x, .pointer (some ⟨c1, 0, none⟩), .pointer (some ⟨c2, 0, none⟩)] w fun e w' => e = .returned (.int .i64 (F.T x : Nat)) ∧ w = w' := by
  have hq2 : F.q ≤ 256 := by rw [hq]; exact Nat.pow_le_pow_right (n := 2) (by omega) hk
  have ha : bits BinOp.and IntKind.i64 (↑x * 2) ↑F.q = ((x * 2 &&& 2 ^ F.k : Nat) : Int) := by
    rw [show ((x : Int) * 2) = ((x * 2 : Nat) : Int) by simp, and64 _ _ (by omega) (by omega), hq]
  have HXR := Lib.hid (show bits BinOp.xor IntKind.i64 (↑x * 2) ↑F.g = (((x * 2) ^^^ F.g : Nat) : Int) by
    rw [show ((x : Int) * 2) = ((x * 2 : Nat) : Int) by simp, xor64 _ _ (by omega) (by omega)])
  have HQ := Lib.hid hq
  clear hq
  by_cases hz : (x * 2 &&& 2 ^ F.k) = 0
  · have hd : (bits BinOp.and IntKind.i64 (↑x * 2) ↑F.q != 0) = false := by rw [ha, hz]; rfl
    have HT := Lib.hid (T_no hb hz)
    clear ha hz
    go_enter Tryz.func206, Tryz.ntmps206
    go_wp2_with fail
    go_ret
    exact ⟨ret_int (by rw [HT.out]; simp), rfl⟩
  · have hd : (bits BinOp.and IntKind.i64 (↑x * 2) ↑F.q != 0) = true := by rw [ha, bne_iff_ne]; exact_mod_cast hz
    have HT := Lib.hid (T_yes hb hz)
    clear ha hz
    go_enter Tryz.func206, Tryz.ntmps206
    go_wp2_with fail
    go_ret
    exact ⟨ret_int (by rw [HT.out, HXR.out]), rfl⟩

/-- the numbers of a field that is tried -/
structure FdTry (F : Fd) : Prop where
  bin : F.bin = true
  q : F.q = 2 ^ F.k
  k3 : 3 ≤ F.k
  k8 : F.k ≤ 8
  fit : F.Fit
theorem FdTry.q_bd {F : Fd} (h : FdTry F) : 8 ≤ F.q ∧ F.q ≤ 256 := by
  rw [h.q]
  exact ⟨Nat.pow_le_pow_right (n := 2) (by omega) h.k3, Nat.pow_le_pow_right (n := 2) (by omega) h.k8⟩
/-- the table is filled, or a power shows that it can't be -/
def fillB (F : Fd) : Bool := decide F.Runs
theorem fill_stop {F : Fd} {n : Nat} (hn : n < F.q - 1) (h : F.pw n = 0 ∨ (0 < n ∧ F.pw n = 1)) : fillB F = false := by
  rw [fillB, decide_eq_false_iff_not]
  intro hr
  have := hr.1 n hn
  rcases h with h | ⟨h0, h⟩
  · exact this.1 h
  · exact this.2 h0 h
theorem fill_end {F : Fd} (h : ∀ i, i < F.q - 1 → F.pw i ≠ 0 ∧ (0 < i → F.pw i ≠ 1)) : fillB F = decide (F.pw (F.q - 1) = 1) := by
  unfold fillB
  by_cases h1 : F.pw (F.q - 1) = 1
  · rw [decide_eq_true h1, decide_eq_true_iff]; exact ⟨h, h1⟩
  · rw [decide_eq_false h1, decide_eq_false_iff_not]; exact fun hr => h1 hr.2

/-- what is held of the blocks while the table is filled -/
structure FillAt (w0 w : World) (F : Fd) (b c1 c2 : Nat) (C : Array Value) (t : TypeId) : Prop where
  blk : w.heap[b]? = some (.cells C t (0, 0))
  p : w.cell? ⟨c1, 0, none⟩ = some (.pointer (some ⟨b, 0, none⟩))
  g : w.cell? ⟨c2, 2, none⟩ = some (.int .i64 F.g)
  size : C.size = 2044
  bin : C[0]? = some (.bool F.bin)
  q : C[1]? = some (.int .i64 F.q)
theorem FillAt.q2 {w0 w : World} {F : Fd} {b c1 c2 : Nat} {C : Array Value} {t : TypeId} (h : FillAt w0 w F b c1 c2 C t) : w.cell? ⟨b, 1, none⟩ = some (.int .i64 F.q) := by rw [(heap_cellR h.blk).1]; exact h.q
/-- two cells of the block are written -/
theorem FillAt.two {w0 w : World} {F : Fd} {b c1 c2 : Nat} {C : Array Value} {t : TypeId} (h : FillAt w0 w F b c1 c2 C t) (h1 : c1 ≠ b) (h2 : c2 ≠ b) (i j : Nat) (hi : 2 ≤ i) (hj : 2 ≤ j) (u v : Value) :
    FillAt w0 ((w.setCell ⟨b, i, none⟩ u).setCell ⟨b, j, none⟩ v) F b c1 c2 ((C.setIfInBounds i u).setIfInBounds j v) t := by
  have hb := h.blk
  have e : (w.setCell ⟨b, i, none⟩ u).heap[b]? = some (.cells (C.setIfInBounds i u) t (0, 0)) := by
    rw [setCell_eq_setRow w b i C t (0, 0) u hb]
    exact setRow_heap w b _ _ t _ hb
  have e2 : ((w.setCell ⟨b, i, none⟩ u).setCell ⟨b, j, none⟩ v).heap[b]? = some (.cells ((C.setIfInBounds i u).setIfInBounds j v) t (0, 0)) := by
    rw [setCell_eq_setRow _ b j _ t (0, 0) v e]
    exact setRow_heap _ b _ _ t _ e
  have hs := h.size
  refine ⟨e2, ?_, ?_, by simp [hs], ?_, ?_⟩
  · rw [World.cell?_setCell_far _ _ _ _ (by simp; omega), World.cell?_setCell_far _ _ _ _ (by simp; omega)]; exact h.p
  · rw [World.cell?_setCell_far _ _ _ _ (by simp; omega), World.cell?_setCell_far _ _ _ _ (by simp; omega)]; exact h.g
  · rw [Array.getElem?_setIfInBounds_ne (by omega), Array.getElem?_setIfInBounds_ne (by omega)]; exact h.bin
  · rw [Array.getElem?_setIfInBounds_ne (by omega), Array.getElem?_setIfInBounds_ne (by omega)]; exact h.q

end Go.Proofs.YtlcglclojlffgaaGreatDoor
namespace Go.Proofs.YtlcglclojlffgaaGreatDoor
open Go.RowKit

/-- the closure that multiplies by the generator -/
def timesF (c1 c2 : Nat) : Value := .func (.func 206) #[] #[.pointer (some ⟨c1, 0, none⟩), .pointer (some ⟨c2, 0, none⟩)]
/-- the tables are filled, if the powers are all elements but 0 -/
def RetFill (F : Fd) (b : Nat) (t : TypeId) (w : World) (e : Ending) (w' : World) : Prop :=
  e = .returned (.bool (fillB F)) ∧ w.grownBy w' (some b) ∧ ∃ C, w'.heap[b]? = some (.cells C t (0, 0)) ∧ C.size = 2044 ∧ C[0]? = some (.bool F.bin) ∧ C[1]? = some (.int .i64 F.q) ∧ (F.Runs → CalcTo F (F.q - 1) C)
theorem grownBy_refl (w : World) (row : Option Nat) : w.grownBy w row := ⟨rfl, rfl, rfl, Nat.le_refl _, fun _ _ _ => rfl⟩
set_option maxRecDepth 100000 in
set_option maxHeartbeats 1000000 in
theorem fill_any (F : Fd) (hF : FdTry F) (hg : F.g < 1024) (b c1 c2 : Nat) (C : Array Value) (t : TypeId) (w : World) (h1 : c1 ≠ b) (h2 : c2 ≠ b) (hA : FillAt w w F b c1 c2 C t) :
    Calls Tryz.prog 205 #[.pointer (some ⟨b, 0, none⟩), timesF c1 c2] w (RetFill F b t w) := by
  have hq := hF.q_bd
  have HA := Lib.hid hA
  have HF := Lib.hid hF
  have HN1 := Lib.hid h1
  have HN2 := Lib.hid h2
  clear hA hF h1 h2
  unfold timesF
  go_enter Tryz.func205, Tryz.ntmps205
  go_wp2_with fail
  go_loopw [5, 6] (fun x n wr => ∃ (k : Nat) (C : Array Value), k ≤ F.q - 1 ∧ n = .int .i64 k ∧ x = .int .i64 (F.pw k : Nat) ∧ (∀ i, i < k → F.pw i ≠ 0 ∧ (0 < i → F.pw i ≠ 1)) ∧ (F.Runs → CalcTo F k C) ∧ FillAt w wr F b c1 c2 C t ∧ w.grownBy wr (some b)) (fun _ n _ => F.q - 1 - (intOf n).toNat)
  case atStart => exact ⟨0, C, Nat.zero_le _, rfl, rfl, fun i h => by omega, fun _ => ⟨HA.out.size, HA.out.bin, HA.out.q, fun i h => by omega, fun i h => by omega⟩, HA.out, grownBy_refl _ _⟩
  case round =>
    obtain ⟨k, C1, hk, rfl, rfl, hall, hC, hA1, hb⟩ := hrel
    have HALL := Lib.hid hall
    have HC := Lib.hid hC
    have HA1 := Lib.hid hA1
    have HB1 := Lib.hid hb
    have hq1 := hA1.q2
    clear hall hC hA1 hb
    have hpl : F.pw k < F.q := F.pw_lt HF.out.fit k
    by_cases hlt : k < F.q - 1
    · have hki : (k : Int) < (F.q : Int) - 1 := by omega
      by_cases h0 : F.pw k = 0
      · have hz : (((F.pw k : Nat) : Int) == 0) = true := by rw [beq_iff_eq]; omega
        have HR := Lib.hid (fill_stop hlt (Or.inl h0))
        clear h0
        go_wp2_with fail
        go_ret
        exact ⟨ret_bool HR.out.symm, HB1.out, C1, HA1.out.blk, HA1.out.size, HA1.out.bin, HA1.out.q, fun hr => absurd hr (by have := HR.out; rwa [fillB, decide_eq_false_iff_not] at this)⟩
      · have hz : (((F.pw k : Nat) : Int) == 0) = false := by rw [beq_eq_false_iff_ne]; omega
        by_cases h1 : 0 < k ∧ F.pw k = 1
        · have hz1 : (((F.pw k : Nat) : Int) == 1) = true := by rw [beq_iff_eq]; omega
          have hk0 : (0 : Int) < (k : Int) := by omega
          have HR := Lib.hid (fill_stop hlt (Or.inr h1))
          clear h0 h1
          go_wp2_with fail
          go_ret
          exact ⟨ret_bool HR.out.symm, HB1.out, C1, HA1.out.blk, HA1.out.size, HA1.out.bin, HA1.out.q, fun hr => absurd hr (by have := HR.out; rwa [fillB, decide_eq_false_iff_not] at this)⟩
        · have HN0 := Lib.hid h0
          have HN1' := Lib.hid h1
          have hc2 : ∃ v, wr.cell? ⟨b, 2 + k, none⟩ = some v := ⟨C1[2 + k]'(by rw [HA1.out.size]; omega), by rw [(heap_cellR HA1.out.blk).1]; exact Array.getElem?_eq_getElem _⟩
          obtain ⟨v2, hc2⟩ := hc2
          have hf : ∀ i, wr.frozen? ⟨b, i, none⟩ = false := (heap_cellR HA1.out.blk).2
          have hlb := blkLt HA1.out.blk
          have h2' : ∃ C2 v, (wr.setCell ⟨b, 2 + k, none⟩ (.int .i64 (F.pw k : Nat))).heap[b]? = some (.cells C2 t (0, 0)) ∧ (wr.setCell ⟨b, 2 + k, none⟩ (.int .i64 (F.pw k : Nat))).cell? ⟨b, 1023 + F.pw k, none⟩ = some v := by
            have e : (wr.setCell ⟨b, 2 + k, none⟩ (.int .i64 (F.pw k : Nat))).heap[b]? = some (.cells (C1.setIfInBounds (2 + k) (.int .i64 (F.pw k : Nat))) t (0, 0)) := by
              rw [setCell_eq_setRow wr b _ C1 t (0, 0) _ HA1.out.blk]
              exact setRow_heap wr b _ _ t _ HA1.out.blk
            have hs := HA1.out.size
            exact ⟨_, (C1.setIfInBounds (2 + k) (.int .i64 (F.pw k : Nat)))[1023 + F.pw k]'(by rw [Array.size_setIfInBounds]; omega), e, by rw [(heap_cellR e).1]; exact Array.getElem?_eq_getElem _⟩
          obtain ⟨C2, v3, -, hc3⟩ := h2'
          have hpi : ((F.pw k : Nat) : Int) < 1021 := by omega
          have hki2 : (k : Int) < 1021 := by omega
          clear h0
          have HA2 := Lib.hid (HA1.out.two HN1.out HN2.out (2 + k) (1023 + F.pw k) (by omega) (by omega) (.int .i64 (F.pw k : Nat)) (.int .i64 k))
          have HB2 := Lib.hid (grownBy_trans (grownBy_trans HB1.out (grownBy_set wr b (2 + k) (.int .i64 (F.pw k : Nat)))) (grownBy_set _ b (1023 + F.pw k) (.int .i64 k)))
          have HALL2 : Hid (∀ i, i < k + 1 → F.pw i ≠ 0 ∧ (0 < i → F.pw i ≠ 1)) := Lib.hid (fun i hi => by
            by_cases e : i = k
            · subst e; exact ⟨HN0.out, fun h2 h3 => HN1'.out ⟨h2, h3⟩⟩
            · exact HALL.out i (by omega))
          have HC2 : Hid (F.Runs → CalcTo F (k + 1) ((C1.setIfInBounds (2 + k) (.int .i64 (F.pw k : Nat))).setIfInBounds (1023 + F.pw k) (.int .i64 k))) := Lib.hid (fun hr => (HC.out hr).step (by omega) (by omega) (fun i hi => F.pw_inj hr hi hlt))
          by_cases hk0 : 0 < k
          · have hz1 : (((F.pw k : Nat) : Int) == 1) = false := by rw [beq_eq_false_iff_ne]; omega
            have hk0' : (0 : Int) < (k : Int) := by omega
            clear h1
            go_wp2_with fail
            refine (times_any F HF.out.bin HF.out.q HF.out.k8 hg (F.pw k) c1 c2 b hpl _ HA2.out.p HA2.out.q2 HA2.out.g).mono ?_
            rintro e w3 ⟨rfl, rfl⟩
            go_wp2_with fail
            exact ⟨⟨k + 1, _, by omega, by go_num, rfl, HALL2.out, HC2.out, HA2.out, HB2.out⟩, by simp [intOf]; omega⟩
          · have hk0' : ¬ (0 : Int) < (k : Int) := by omega
            clear h1
            go_wp2_with fail
            refine (times_any F HF.out.bin HF.out.q HF.out.k8 hg (F.pw k) c1 c2 b hpl _ HA2.out.p HA2.out.q2 HA2.out.g).mono ?_
            rintro e w3 ⟨rfl, rfl⟩
            go_wp2_with fail
            exact ⟨⟨k + 1, _, by omega, by go_num, rfl, HALL2.out, HC2.out, HA2.out, HB2.out⟩, by simp [intOf]; omega⟩
    · have hki : ¬ (k : Int) < (F.q : Int) - 1 := by omega
      have HK : Hid (k = F.q - 1) := Lib.hid (by omega)
      have HR := Lib.hid (fill_end (F := F) (by rw [← HK.out]; exact HALL.out))
      have HT := Lib.hid (show ((((F.pw k : Nat) : Int)) == 1) = fillB F by
        rw [HR.out, ← HK.out]
        by_cases e : F.pw k = 1
        · rw [e]; rfl
        · rw [decide_eq_false e, beq_eq_false_iff_ne]; omega)
      go_wp2_with fail
      go_ret
      exact ⟨ret_bool HT.out, HB1.out, C1, HA1.out.blk, HA1.out.size, HA1.out.bin, HA1.out.q, fun hr => by have := HC.out hr; rwa [HK.out] at this⟩

end Go.Proofs.YtlcglclojlffgaaGreatDoor
namespace Go.Proofs.YtlcglclojlffgaaGreatDoor
open Go.RowKit

/-- low <= n <= high -/
def inB (n lo hi : Int) : Bool := decide (lo ≤ n ∧ n ≤ hi)
theorem inB_iff {n lo hi : Int} : inB n lo hi = true ↔ lo ≤ n ∧ n ≤ hi := by simp [inB]
theorem inB_not {n lo hi : Int} : inB n lo hi = false ↔ n < lo ∨ hi < n := by simp [inB]; omega

set_option maxHeartbeats 400000 in
theorem inRange_any (n lo hi : Int) (w : World) :
    Calls Tryz.prog 71 #[.int .i64 n, .int .i64 lo, .int .i64 hi] w fun e w' => e = .returned (.bool (inB n lo hi)) ∧ w = w' := by
  have e : inB n lo hi = (decide (lo ≤ n) && decide (n ≤ hi)) := by simp [inB]
  rw [e]
  clear e
  go_enter Tryz.func71, Tryz.ntmps71
  go_wp2
  all_goals go_ret
  all_goals exact ⟨ret_bool (by simp; try omega), rfl⟩

set_option maxHeartbeats 400000 in
theorem l01In_any (n lo hi : Int) (w : World) :
    Calls Tryz.prog 44 #[.int .i64 n, .int .i64 lo, .int .i64 hi] w fun e w' => e = .returned (.bool (inB n lo hi)) ∧ w = w' := by
  have e : inB n lo hi = (decide (lo ≤ n) && decide (n ≤ hi)) := by simp [inB]
  rw [e]
  clear e
  go_enter Tryz.func44, Tryz.ntmps44
  go_wp2
  all_goals go_ret
  all_goals exact ⟨ret_bool (by simp; try omega), rfl⟩

theorem inRange_val {n lo hi : Int} {b : Bool} {w : World} (h : inB n lo hi = b) :
    Calls Tryz.prog 71 #[.int .i64 n, .int .i64 lo, .int .i64 hi] w fun e w' => e = .returned (.bool b) ∧ w = w' := h ▸ inRange_any n lo hi w
theorem l01In_val {n lo hi : Int} {b : Bool} {w : World} (h : inB n lo hi = b) :
    Calls Tryz.prog 44 #[.int .i64 n, .int .i64 lo, .int .i64 hi] w fun e w' => e = .returned (.bool b) ∧ w = w' := h ▸ l01In_any n lo hi w

end Go.Proofs.YtlcglclojlffgaaGreatDoor
namespace Go.Proofs.YtlcglclojlffgaaGreatDoor
open Go.RowKit

theorem calc_zero : Tryz.zeroCells262.size = 2044 := by kernel_rfl
/-- the arithmetic of a field is handed back -/
def RetCalc (ok : Bool) (F : Fd) (w : World) (e : Ending) (w' : World) : Prop :=
  Below w.heap.size w w' ∧ ∃ a, e = .returned (.tuple #[.pointer a, .bool ok]) ∧ (ok = true → ∃ b, a = some ⟨b, 0, none⟩ ∧ w.heap.size ≤ b ∧ CalcAt w' b F)
theorem retCalc_no {F : Fd} {w w' : World} {a : Option Addr} (hb : Below w.heap.size w w') : RetCalc false F w (.returned (.tuple #[.pointer a, .bool false])) w' :=
  ⟨hb, a, rfl, fun h => by cases h⟩
set_option maxRecDepth 100000 in
set_option maxHeartbeats 1000000 in
theorem calc_low (k g : Int) (F : Fd) (w : World) (h : ¬ (3 ≤ k ∧ k ≤ 8)) :
    Calls Tryz.prog 192 #[.agg #[.int .i64 2, .int .i64 k, .int .i64 g]] w (RetCalc false F w) := by
  have hr : inB k 3 8 = false := by simp [inB]; omega
  have h13 : inB 2 3 1021 = false := by decide
  by_cases h1 : k = 1
  · subst h1
    clear h
    go_enter Tryz.func192, Tryz.ntmps192
    go_wp2_with fail
    refine (inRange_any _ _ _ _).mono ?_
    rintro e w' ⟨rfl, rfl⟩
    go_wp2_with fail
    refine (inRange_any _ _ _ _).mono ?_
    rintro e w' ⟨rfl, rfl⟩
    go_wp2_with fail
    go_ret2
    exact retCalc_no (ba1 _ _)
  · have h1' : (k == 1) = false := by rw [beq_eq_false_iff_ne]; exact h1
    clear h
    go_enter Tryz.func192, Tryz.ntmps192
    go_wp2_with fail
    refine (inRange_any _ _ _ _).mono ?_
    rintro e w' ⟨rfl, rfl⟩
    go_wp2_with fail
    go_ret2
    exact retCalc_no (ba1 _ _)
theorem calcNew (w : World) (k q : Nat) (g : Int) (hq : q = 2 ^ k) (hk : 3 ≤ k ∧ k ≤ 8) (hg : g / 2 ^ k = 1) :
    FdTry (bF k g.toNat) ∧ (bF k g.toNat).g < 1024 ∧
    FillAt (((w.alloc (.cells #[.int .i64 2, .int .i64 k, .int .i64 g] 121 (0, 0))).alloc (.cells ((Tryz.zeroCells262.setIfInBounds 0 (.bool true)).setIfInBounds 1 (.int .i64 q)) 262 (0, 0))).alloc (.cells #[.pointer (some ⟨w.heap.size + 1, 0, none⟩)] 250 (0, 0)))
      (((w.alloc (.cells #[.int .i64 2, .int .i64 k, .int .i64 g] 121 (0, 0))).alloc (.cells ((Tryz.zeroCells262.setIfInBounds 0 (.bool true)).setIfInBounds 1 (.int .i64 q)) 262 (0, 0))).alloc (.cells #[.pointer (some ⟨w.heap.size + 1, 0, none⟩)] 250 (0, 0)))
      (bF k g.toNat) (w.heap.size + 1) (w.heap.size + 1 + 1) w.heap.size ((Tryz.zeroCells262.setIfInBounds 0 (.bool true)).setIfInBounds 1 (.int .i64 q)) 262 := by
  have hp3 : 2 ^ 3 ≤ 2 ^ k := Nat.pow_le_pow_right (by omega) hk.1
  have hp8 : 2 ^ k ≤ 2 ^ 8 := Nat.pow_le_pow_right (by omega) hk.2
  have hc : ((2 : Int) ^ k) = ((2 ^ k : Nat) : Int) := by push_cast; rfl
  rw [hc] at hg
  have h0 : (0 : Int) < ((2 ^ k : Nat) : Int) := by omega
  have h1 := Int.mul_ediv_self_le (x := g) (k := ((2 ^ k : Nat) : Int)) (by omega)
  have h2 := Int.lt_mul_ediv_self_add (x := g) (k := ((2 ^ k : Nat) : Int)) h0
  rw [hg, Int.mul_one] at h1 h2
  obtain ⟨e1, e2, e3⟩ := heap3 w (.cells #[.int .i64 2, .int .i64 k, .int .i64 g] 121 (0, 0)) (.cells ((Tryz.zeroCells262.setIfInBounds 0 (.bool true)).setIfInBounds 1 (.int .i64 q)) 262 (0, 0)) (.cells #[.pointer (some ⟨w.heap.size + 1, 0, none⟩)] 250 (0, 0))
  have hz := calc_zero
  refine ⟨⟨rfl, rfl, hk.1, hk.2, ⟨?_, ?_, ?_⟩⟩, ?_, ⟨e2, ?_, ?_, ?_, ?_, ?_⟩⟩
  · show 3 ≤ 2 ^ k; omega
  · intro _
    refine ⟨rfl, ?_, ?_⟩
    · show 2 ^ k ≤ g.toNat; omega
    · show g.toNat < 2 ^ (k + 1); rw [Nat.pow_succ]; omega
  · intro h; cases h
  · show g.toNat < 1024; omega
  · rw [(heap_cellR e3).1]; rfl
  · rw [(heap_cellR e1).1]
    show some (Value.int .i64 g) = some (Value.int .i64 (g.toNat : Nat))
    rw [Int.toNat_of_nonneg (by omega)]
  · rw [Array.size_setIfInBounds, Array.size_setIfInBounds, hz]
  · rw [Array.getElem?_setIfInBounds_ne (by omega), Array.getElem?_setIfInBounds_self_of_lt (by omega)]; rfl
  · rw [Array.getElem?_setIfInBounds_self_of_lt (by rw [Array.size_setIfInBounds]; omega), hq]; rfl
set_option maxRecDepth 100000 in
set_option maxHeartbeats 1000000 in
theorem calc_mid (k : Nat) (g : Int) (w : World) (h : 3 ≤ k ∧ k ≤ 8) (hg : g / 2 ^ k ≠ 1) :
    Calls Tryz.prog 192 #[.agg #[.int .i64 2, .int .i64 k, .int .i64 g]] w (RetCalc false (bF k g.toNat) w) := by
  have h1 : ((k : Int) == 1) = false := by rw [beq_eq_false_iff_ne]; omega
  have hr : inB (k : Int) 3 8 = true := by simp [inB]; omega
  have hg' : (g / 2 ^ k == 1) = false := by rw [beq_eq_false_iff_ne]; exact hg
  clear hg
  go_enter Tryz.func192, Tryz.ntmps192
  go_wp2_with fail
  refine (inRange_any _ _ _ _).mono ?_
  rintro e w' ⟨rfl, rfl⟩
  go_wp2_with fail
  go_ret2
  exact retCalc_no (ba1 _ _)
set_option maxRecDepth 100000 in
set_option maxHeartbeats 1000000 in
theorem calc_top (k : Nat) (g : Int) (w : World) (h : 3 ≤ k ∧ k ≤ 8) (hg : g / 2 ^ k = 1) :
    Calls Tryz.prog 192 #[.agg #[.int .i64 2, .int .i64 k, .int .i64 g]] w (RetCalc (fillB (bF k g.toNat)) (bF k g.toNat) w) := by
  have h1 : ((k : Int) == 1) = false := by rw [beq_eq_false_iff_ne]; omega
  have hr : inB (k : Int) 3 8 = true := by simp [inB]; omega
  have hg' : (g / 2 ^ k == 1) = true := by rw [beq_iff_eq]; exact hg
  obtain ⟨q, hq⟩ : ∃ q : Nat, q = 2 ^ k := ⟨_, rfl⟩
  have hw : wrap64 ((2 : Int) ^ k) = (q : Int) := by
    have hp8 : 2 ^ k ≤ 2 ^ 8 := Nat.pow_le_pow_right (by omega) h.2
    have hc : ((2 : Int) ^ k) = ((2 ^ k : Nat) : Int) := by push_cast; rfl
    rw [hc, ← hq]
    have : q ≤ 256 := by omega
    unfold wrap64; omega
  have HN := Lib.hid (calcNew w k q g hq h hg)
  clear hg hq
  go_enter Tryz.func192, Tryz.ntmps192
  go_wp2_with fail
  refine (inRange_any _ _ _ _).mono ?_
  rintro e w' ⟨rfl, rfl⟩
  go_wp2_with fail
  refine (fill_any (bF k g.toNat) HN.out.1 HN.out.2.1 (w.heap.size + 1) (w.heap.size + 1 + 1) w.heap.size _ _ _ (by omega) (by omega) HN.out.2.2).mono ?_
  rintro e w2 ⟨rfl, hg2, C, hC, -, -, -, hR⟩
  have hp : w2.cell? ⟨w.heap.size + 1 + 1, 0, none⟩ = some (.pointer (some ⟨w.heap.size + 1, 0, none⟩)) := by
    have e3 := (heap3 w (.cells #[.int .i64 2, .int .i64 k, .int .i64 g] 121 (0, 0)) (.cells ((Tryz.zeroCells262.setIfInBounds 0 (.bool true)).setIfInBounds 1 (.int .i64 q)) 262 (0, 0)) (.cells #[.pointer (some ⟨w.heap.size + 1, 0, none⟩)] 250 (0, 0))).2.2
    have e4 := (hg2.block (w.heap.size + 1 + 1) (blkLt e3) (by simp)).trans e3
    rw [(heap_cellR e4).1]; rfl
  have HB := Lib.hid ((ba3 _ _ _ _).trans (below_of_grownBy hg2 (by simp; omega) (fun j e => by cases e; omega)))
  have HR : Hid (fillB (bF k g.toNat) = true → CalcAt w2 (w.heap.size + 1) (bF k g.toNat)) := Lib.hid (fun h => ⟨C, _, hC, hR (by rwa [fillB, decide_eq_true_iff] at h)⟩)
  clear hg2 hC hR
  go_wp2_with fail
  go_ret2
  exact ⟨HB.out, _, rfl, fun h => ⟨_, rfl, by omega, HR.out h⟩⟩
/-- the arithmetic of a field whose prime is 2 -/
theorem calc_two (k g : Int) (w : World) :
    Calls Tryz.prog 192 #[.agg #[.int .i64 2, .int .i64 k, .int .i64 g]] w (RetCalc (fldB 2 k g) (bF k.toNat g.toNat) w) := by
  by_cases h : 3 ≤ k ∧ k ≤ 8
  · obtain ⟨k, rfl⟩ := Int.eq_ofNat_of_zero_le (show 0 ≤ k by omega)
    have hc : ((2 : Int) ^ k) = ((2 ^ k : Nat) : Int) := by push_cast; rfl
    have h0 : (0 : Int) < ((2 ^ k : Nat) : Int) := by have := Nat.two_pow_pos k; omega
    by_cases hg : g / 2 ^ k = 1
    · have e : fldB 2 k g = fillB (bF k g.toNat) := by
        have h1 := Int.mul_ediv_self_le (x := g) (k := ((2 ^ k : Nat) : Int)) (by omega)
        have h2 := Int.lt_mul_ediv_self_add (x := g) (k := ((2 ^ k : Nat) : Int)) h0
        rw [← hc, hg, Int.mul_one, hc] at h1 h2
        unfold fldB fillB
        have e1 : decide ((3 : Int) ≤ k) = true := by simp; omega
        have e2 : decide ((k : Int) ≤ 8) = true := by simp; omega
        have e3 : decide (((2 ^ (k : Int).toNat : Nat) : Int) ≤ g) = true := by rw [Int.toNat_natCast]; exact decide_eq_true h1
        have e4 : decide (g < ((2 * 2 ^ (k : Int).toNat : Nat) : Int)) = true := by rw [Int.toNat_natCast]; exact decide_eq_true (by omega)
        rw [e1, e2, e3, e4]; rfl
      rw [e]
      exact calc_top k g w (by omega) hg
    · have e : fldB 2 k g = false := by
        cases hf : fldB 2 k g with
        | false => rfl
        | true =>
          exfalso
          apply hg
          have ho := fldB_ok hf
          simp only [fldB, Bool.and_eq_true, decide_eq_true_eq, Int.toNat_natCast] at hf
          rw [hc]
          have h3 := hf.1.1.2
          have h4 := hf.1.2
          have h5 := Int.emod_add_mul_ediv g ((2 ^ k : Nat) : Int)
          have h6 : g = ((2 ^ k : Nat) : Int) * 1 + (g - ((2 ^ k : Nat) : Int)) := by omega
          rw [h6, Int.add_comm, Int.add_mul_ediv_left _ _ (by omega), Int.ediv_eq_zero_of_lt (by omega) (by omega)]; rfl
      rw [e]
      exact calc_mid k g w (by omega) hg
  · have e : fldB 2 k g = false := by
      cases hf : fldB 2 k g with
      | false => rfl
      | true =>
        exfalso
        simp only [fldB, Bool.and_eq_true, decide_eq_true_eq] at hf
        exact h ⟨hf.1.1.1.1.2, hf.1.1.1.2⟩
    rw [e]
    exact calc_low k g _ w h

end Go.Proofs.YtlcglclojlffgaaGreatDoor
namespace Go.Proofs.YtlcglclojlffgaaGreatDoor
open Go.RowKit

/-- a valid field's numbers -/
structure FdOk (F : Fd) : Prop where
  try' : FdTry F
  runs : F.Runs
theorem FldOk.ok {p k g : Int} {F : Fd} (h : FldOk p k g F) : FdOk F := ⟨⟨h.bin, h.q, h.k3, h.k8, h.fit⟩, h.runs⟩
theorem FdOk.fit {F : Fd} (h : FdOk F) : F.Fit := h.try'.fit
theorem FdOk.q_bd {F : Fd} (h : FdOk F) : 8 ≤ F.q ∧ F.q ≤ 256 := h.try'.q_bd
/-- a value is handed back; the world stands, but for what has been drawn -/
def RetQ (v : Value) (w : World) (e : Ending) (w' : World) : Prop := e = .returned v ∧ ∃ n, w' = w.drewN n
theorem RetQ.below {v : Value} {w w' : World} {e : Ending} (h : RetQ v w e w') : e = .returned v ∧ Below w.heap.size w w' := by
  obtain ⟨h1, n, rfl⟩ := h
  exact ⟨h1, below_drewN (Below.refl _ _) n⟩
/-- numbers as the memory holds them -/
def natI (zs : List Nat) : List Int := zs.map fun (n : Nat) => (n : Int)
end Go.Proofs.YtlcglclojlffgaaGreatDoor
namespace Go.Proofs.YtlcglclojlffgaaGreatDoor
open Go.RowKit

/-- the characters of a mode, as a string; the bits of its groups -/
def charS (m : Nat) : ByteArray := ⟨(chars m).toArray⟩
def widsM (m : Nat) : List Int := (List.range (grpM m)).map fun i => ((widM m (i + 1) : Nat) : Int)
theorem charS_size (m : Nat) : (charS m).size = (chars m).length := by simp [charS, ByteArray.size]
theorem chars_low (m : Nat) : ∀ c ∈ chars m, c.toNat < 128 := by unfold chars; split <;> decide
theorem chars_le (m : Nat) : (chars m).length ≤ 45 := by unfold chars; split <;> decide
theorem idxC_at : ∀ (l : List UInt8) (x j : Int) (k : Nat), (∀ i c, i < k → l[i]? = some c → (c.toNat : Int) ≠ x) → (∃ c, l[k]? = some c ∧ (c.toNat : Int) = x) → idxC l x j = j + k
  | [], _, _, k, _, ⟨c, hc, _⟩ => by simp at hc
  | c :: l, x, j, 0, _, ⟨d, hd, he⟩ => by
    simp at hd
    subst hd
    rw [idxC, if_pos he]; simp
  | c :: l, x, j, k + 1, h, ⟨d, hd, he⟩ => by
    rw [idxC, if_neg (h 0 c (by omega) rfl), idxC_at l x (j + 1) k (fun i e hi hl => h (i + 1) e (by omega) (by simpa using hl)) ⟨d, by simpa using hd, he⟩]
    push_cast; omega
theorem idxC_none : ∀ (l : List UInt8) (x j : Int), (∀ c ∈ l, (c.toNat : Int) ≠ x) → idxC l x j = -1
  | [], _, _, _ => rfl
  | c :: l, x, j, h => by
    rw [idxC, if_neg (h c (by simp)), idxC_none l x (j + 1) (fun d hd => h d (by simp [hd]))]
/-- the next character -/
theorem next_char {P : Program} (w : World) (m k : Nat) (hk : k < (chars m).length) : ∃ (c : UInt8) (z : Nat), (chars m)[k]? = some c ∧ c.toNat = z ∧ z < 128 ∧ ∀ ty, (Instr.next (.pointer (some ⟨w.heap.size, 0, none⟩)) true ty).run P (w.iter (charS m) k) = .ok (.tuple #[.bool true, .int .i64 k, .int .i32 z]) (w.iter (charS m) (k + 1)) := by
  have hs : k < (charS m).size := by rw [charS_size]; exact hk
  have e : (charS m)[k]'hs = (chars m)[k] := rfl
  refine ⟨(chars m)[k], (chars m)[k].toNat, List.getElem?_eq_getElem hk, rfl, chars_low m _ (List.getElem_mem hk), fun ty => ?_⟩
  have h := run_next_ascii (P := P) w (charS m) k ty hs (by rw [e]; exact chars_low m _ (List.getElem_mem hk))
  rw [e] at h
  exact h
theorem iter_below (w : World) (s : ByteArray) (k : Nat) : Below w.heap.size w (w.iter s k) := ba1 w _

set_option maxRecDepth 100000 in
set_option maxHeartbeats 1000000 in
theorem value_listed (m : Nat) (h1 : 1 ≤ m) (h3 : m ≤ 3) (a : Option Addr) (n c : Nat) (x : Int) (w : World) :
    Calls Tryz.prog 271 #[.agg #[.string (charS m), .slice a n c], .int .i64 x] w fun e w' => e = .returned (.int .i64 (valC m x)) ∧ Below w.heap.size w w' := by
  have HV := Lib.hid (show valC m x = idxC (chars m) x 0 by unfold valC; rw [if_neg (by omega)])
  have hl := chars_le m
  go_enter Tryz.func271, Tryz.ntmps271
  go_wp2_with fail
  obtain ⟨w1, hw1⟩ : ∃ w1, w1 = w.alloc (.cells #[.string (charS m), .slice a n c] 308 (0, 0)) := ⟨_, rfl⟩
  have HB := Lib.hid (show Below w.heap.size w w1 by rw [hw1]; exact ba1 _ _)
  have hsz : w.heap.size + 1 = w1.heap.size := by rw [hw1]; simp
  try rw [← hw1]
  try rw [hsz]
  clear hw1
  go_loopw [5, 6] (fun _ _ wr => ∃ k : Nat, k ≤ (chars m).length ∧ wr = w1.iter (charS m) k ∧ ∀ i c, i < k → (chars m)[i]? = some c → (c.toNat : Int) ≠ x) (fun _ _ wr => (chars m).length - World.iterPos wr w1.heap.size)
  case atStart => exact ⟨0, Nat.zero_le _, rfl, fun i c h => by omega⟩
  case round =>
    obtain ⟨k, hk, rfl, hall⟩ := hrel
    have HA := Lib.hid hall
    clear hall
    by_cases hlt : k < (chars m).length
    · obtain ⟨ch, z, hc, hz, hz8, hnx⟩ := next_char (P := Tryz.prog) w1 m k hlt
      have HC := Lib.hid hc
      have HZ := Lib.hid hz
      clear hc hz
      by_cases hx : (z : Int) = x
      · have hx' : ((z : Int) == x) = true := by rw [beq_iff_eq]; exact hx
        have HX := Lib.hid hx
        clear hx
        go_wp2_with fail
        go_ret
        refine ⟨ret_int ?_, HB.out.trans ((iter_below w1 _ _).mono HB.out.size)⟩
        rw [HV.out, idxC_at _ x 0 k HA.out ⟨ch, HC.out, by rw [HZ.out, HX.out]⟩]; omega
      · have hx' : ((z : Int) == x) = false := by rw [beq_eq_false_iff_ne]; exact hx
        have HX := Lib.hid hx
        clear hx
        go_wp2_with fail
        refine ⟨⟨k + 1, by omega, rfl, fun i c hi he => ?_⟩, ?_⟩
        · by_cases hik : i = k
          · subst hik
            rw [HC.out] at he
            cases he
            rw [HZ.out]; exact HX.out
          · exact HA.out i c (by omega) he
        · simp [World.iterPos, World.iter_heap]; omega
    · have hnx := fun ty => run_next_end (P := Tryz.prog) w1 (charS m) k ty (by rw [charS_size]; omega)
      go_wp2_with fail
      go_ret
      refine ⟨ret_int ?_, HB.out.trans ((iter_below w1 _ _).mono HB.out.size)⟩
      rw [HV.out, idxC_none]
      intro c hc
      obtain ⟨i, hi, rfl⟩ := List.mem_iff_getElem.1 hc
      exact HA.out i _ (by omega) (List.getElem?_eq_getElem hi)

end Go.Proofs.YtlcglclojlffgaaGreatDoor
