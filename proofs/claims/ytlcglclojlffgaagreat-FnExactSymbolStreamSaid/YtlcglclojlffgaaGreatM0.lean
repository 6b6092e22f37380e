import Derived.Test.YtlcglclojlffgaaGreatRows
import Derived.WalkKit
import Derived.WalkSpells
import Derived.WalkLawsBesides
import Derived.Deep.QuietTactic
import Derived.BigQuiet
import Derived.Deep.RegionLaw
import Derived.Deep.DeepFit
import Derived.Deep.DeepMust
import Derived.Lib.Hide
import Derived.ProofKit
import Derived.OpenShut
import Derived.Deep.DeepHandedRow
import Derived.Lib.LaidTab
import Derived.Stop.LaidErr
import Derived.Laws.BitsLemmas
import Derived.Deep.RegionHeld
namespace Go.Proofs.YtlcglclojlffgaaGreat
open Go.RowKit

theorem bcell {W w1 : World} {B : Nat} (hb : Below B W w1) : (∀ b o, b < B → w1.cell? ⟨b, o, none⟩ = W.cell? ⟨b, o, none⟩) ∧ (∀ b o, b < B → w1.frozen? ⟨b, o, none⟩ = W.frozen? ⟨b, o, none⟩) :=
  ⟨fun b o h => hb.cell (p := ⟨b, o, none⟩) h, fun b o h => hb.frozen (p := ⟨b, o, none⟩) h⟩

theorem lt_of_cell {w : World} {b o : Nat} {v : Value} (h : w.cell? ⟨b, o, none⟩ = some v) : b < w.heap.size := World.block_lt_of_cell? w ⟨b, o, none⟩ h

theorem ba1 (w : World) (o : Obj) : Below w.heap.size w (w.alloc o) := (Below.refl _ _).alloc (Nat.le_refl _) _
theorem ba2 (w : World) (o o' : Obj) : Below w.heap.size w ((w.alloc o).alloc o') := (ba1 w o).alloc (by simp) _
theorem ba3 (w : World) (o o' o'' : Obj) : Below w.heap.size w (((w.alloc o).alloc o').alloc o'') := (ba2 w o o').alloc (by simp; omega) _
theorem ba4 (w : World) (o o' o'' o3 : Obj) : Below w.heap.size w ((((w.alloc o).alloc o').alloc o'').alloc o3) := (ba3 w o o' o'').alloc (by simp; omega) _
theorem bt0 {B : Nat} {a b c : World} (h : Below B a b) (k : Below b.heap.size b c) (hB : B ≤ a.heap.size) : Below B a c := h.trans (k.mono (Nat.le_trans hB h.size))
theorem bt1 {w w1 : World} {o : Obj} (h : Below (w.alloc o).heap.size (w.alloc o) w1) : Below w.heap.size w w1 := bt0 (ba1 w o) h (Nat.le_refl _)
theorem bt2 {w w1 : World} {o o' : Obj} (h : Below ((w.alloc o).alloc o').heap.size ((w.alloc o).alloc o') w1) : Below w.heap.size w w1 := bt0 (ba2 w o o') h (Nat.le_refl _)
theorem bt3 {w w1 : World} {o o' o'' : Obj} (h : Below (((w.alloc o).alloc o').alloc o'').heap.size (((w.alloc o).alloc o').alloc o'') w1) : Below w.heap.size w w1 := bt0 (ba3 w o o' o'') h (Nat.le_refl _)

theorem undrew {w w1 : World} (h : Below w.drew.heap.size w.drew w1) : Below w.heap.size w w1 := ⟨h.os, h.tape, h.output, h.size, h.block⟩

/-- a new block's cells, behind a call -/
theorem box1 {w w1 : World} {cs : Array Value} {t : TypeId} (hb : Below (w.alloc (.cells cs t)).heap.size (w.alloc (.cells cs t)) w1) : ∀ i, w1.cell? ⟨w.heap.size, i, none⟩ = cs[i]? := fun i => by
  rw [hb.cell (p := ⟨w.heap.size, i, none⟩) (by simp)]; simp
theorem boxK {w w1 : World} {b : Nat} {cs : Array Value} (hb : Below w.heap.size w w1) (h : ∀ i, w.cell? ⟨b, i, none⟩ = cs[i]?) (h0 : 0 < cs.size) : ∀ i, w1.cell? ⟨b, i, none⟩ = cs[i]? := fun i => by
  have h1 : b < w.heap.size := lt_of_cell (v := cs[0]) (by rw [h 0]; simp [h0])
  rw [hb.cell (p := ⟨b, i, none⟩) h1]; exact h i
theorem boxLt {w : World} {b : Nat} {cs : Array Value} (h : ∀ i, w.cell? ⟨b, i, none⟩ = cs[i]?) (h0 : 0 < cs.size) : b < w.heap.size := lt_of_cell (v := cs[0]) (by rw [h 0]; simp [h0])

/-- the slice at address a holds the numbers zs -/
def IntsAt (w : World) (a : Option Addr) (zs : List Int) : Prop :=
  ∀ i (h : i < zs.length), ∃ b o, a = some ⟨b, o, none⟩ ∧ w.cell? ⟨b, o + i, none⟩ = some (.int .i64 zs[i])

theorem IntsAt.at {w : World} {a : Option Addr} {zs : List Int} (H : IntsAt w a zs) {k : Nat} (hk : k < zs.length) :
    ∃ b o z, a = some ⟨b, o, none⟩ ∧ zs[k]? = some z ∧ b < w.heap.size ∧ w.cell? ⟨b, o + k, none⟩ = some (.int .i64 z) := by
  obtain ⟨b, o, ha, hc⟩ := H k hk
  exact ⟨b, o, zs[k], ha, List.getElem?_eq_getElem hk, lt_of_cell hc, hc⟩

theorem IntsAt.below {w w' : World} {a : Option Addr} {zs : List Int} (H : IntsAt w a zs) (hb : Below w.heap.size w w') : IntsAt w' a zs := by
  intro i h
  obtain ⟨b, o, ha, hc⟩ := H i h
  exact ⟨b, o, ha, by rw [hb.cell (p := ⟨b, o + i, none⟩) (lt_of_cell hc)]; exact hc⟩

theorem IntsAt.nil {w : World} {a : Option Addr} : IntsAt w a [] := fun i h => absurd h (by simp)

theorem take_snoc' {α : Type} {zs : List α} {k : Nat} {z : α} (h : zs[k]? = some z) : zs.take (k + 1) = zs.take k ++ [z] := by
  rw [List.take_add_one, h]; rfl

theorem ret_int {k : IntKind} {a b : Int} (h : a = b) : Ending.returned (.int k a) = .returned (.int k b) := by rw [h]
theorem ret_str {a b : ByteArray} (h : a = b) : Ending.returned (.string a) = .returned (.string b) := by rw [h]
theorem ret_bool {a b : Bool} (h : a = b) : Ending.returned (.bool a) = .returned (.bool b) := by rw [h]

/-- the worlds that keep all that is in w -/
def Ext (w : World) : Type := { w' : World // Below w.heap.size w w' }
instance extNonempty (w : World) : Nonempty (Ext w) := ⟨⟨w, Below.refl _ _⟩⟩
def Ext.w {w : World} (s : Ext w) : World := s.1
theorem Ext.below {w : World} (s : Ext w) : Below w.heap.size w s.w := s.2
@[go_sem] theorem Ext.cell {w : World} (s : Ext w) (b o : Nat) (h : b < w.heap.size) : s.w.cell? ⟨b, o, none⟩ = w.cell? ⟨b, o, none⟩ := s.2.cell (p := ⟨b, o, none⟩) h
@[go_sem] theorem Ext.frozen {w : World} (s : Ext w) (b o : Nat) (h : b < w.heap.size) : s.w.frozen? ⟨b, o, none⟩ = w.frozen? ⟨b, o, none⟩ := s.2.frozen (p := ⟨b, o, none⟩) h

theorem wp_region_ext {P : Program} {id : Nat} {Q : Exit → Act → World → Prop} {a : Act} {w : World} {l : List Oper} (hm : P.follows .mixedOrders = true) (hB : Region.lexB .any l.toArray = true)
    (h : wpQuiet P l.toArray (fun w' => ∃ s : Ext w, w' = s.w) (fun a' => ∀ w', (∃ s : Ext w, w' = s.w) → Q .normal a' w') l a) : (Code.region id l.toArray true).wp P Q a w :=
  wp_region_quiet (C := fun w' => ∃ s : Ext w, w' = s.w) hm hB ⟨⟨_, (Below.refl _ _).drew⟩, rfl⟩ (by simpa using h)

theorem calls_ext {P : Program} {f : FuncId} {args : Array Value} {w : World} {v : Value} (s : Ext w)
    (h : Calls P f args s.w fun e w' => e = .returned v ∧ Below s.w.heap.size s.w w') : Calls P f args s.w fun e w'' => e = .returned v ∧ ∃ s' : Ext w, w'' = s'.w :=
  h.mono fun _ w' ⟨he, hb⟩ => ⟨he, ⟨w', s.below.trans (hb.mono s.below.size)⟩, rfl⟩
theorem calls_ext_same {P : Program} {f : FuncId} {args : Array Value} {w : World} {v : Value} (s : Ext w)
    (h : Calls P f args s.w fun e w' => e = .returned v ∧ s.w = w') : Calls P f args s.w fun e w'' => e = .returned v ∧ ∃ s' : Ext w, w'' = s'.w :=
  h.mono fun _ _ ⟨he, hb⟩ => ⟨he, s, hb.symm⟩

/-- the slice v is the call's own (blocks from base on) and holds the numbers zs -/
def OwnI (w : World) (base : Nat) (v : Value) (zs : List Int) : Prop := w.ownsRow base 2 1 v zs.length (zs.map (Value.int .i64))

theorem OwnI.read {w : World} {base : Nat} {v : Value} {zs : List Int} (h : OwnI w base v zs) : ∃ a c, v = .slice a zs.length c ∧ IntsAt w a zs := by
  unfold OwnI at h
  have h2 := h.2
  rcases h2 with ⟨rfl, h0⟩ | ⟨g, cap, cur, rfl, hb, hg, hn, hm, hs, ht⟩
  · refine ⟨none, 0, by rw [h0], ?_⟩
    intro i hi; omega
  · refine ⟨some ⟨g, 0, none⟩, cap, rfl, ?_⟩
    intro i hi
    refine ⟨g, 0, rfl, ?_⟩
    rw [Nat.zero_add, h.cellAt i (by omega)]
    simp [hi]

theorem OwnI.len {w : World} {base : Nat} {v : Value} {zs : List Int} (h : OwnI w base v zs) : zs.length ≤ maxLen := by
  rcases h.2 with ⟨_, h0⟩ | ⟨g, cap, cur, rfl, hb, hg, hn, hm, hs, ht⟩
  · rw [h0]; exact Nat.zero_le _
  · omega

/-- a slice of the call's own that is not empty -/
theorem OwnI.block {w : World} {base : Nat} {a : Option Addr} {n c : Nat} {zs : List Int} (h : OwnI w base (.slice a n c) zs) (hk : 0 < zs.length) : ∃ g, a = some ⟨g, 0, none⟩ ∧ base ≤ g ∧ n = zs.length ∧ g < w.heap.size := by
  rcases h.2 with ⟨h1, h0⟩ | ⟨g, cap, cur, h1, hb, hg, _⟩
  · omega
  · simp only [Value.slice.injEq] at h1
    obtain ⟨rfl, rfl, rfl⟩ := h1
    exact ⟨g, rfl, hb, rfl, (Array.getElem?_eq_some_iff.1 hg).1⟩

theorem OwnI.grown {w w' : World} {base : Nat} {v : Value} {zs : List Int} (h : OwnI w base v zs) (hb : Below w.heap.size w w') : OwnI w' base v zs :=
  h.kept (row := none) ⟨hb.os, hb.tape, hb.output, hb.size, fun k hk _ => hb.block k hk⟩ (by cases hv : v.ownBlock <;> simp)

theorem OwnI.weak {w : World} {base base' : Nat} {v : Value} {zs : List Int} (h : OwnI w base v zs) (hb : base' ≤ base) : OwnI w base' v zs := by
  refine ⟨h.1, ?_⟩
  rcases h.2 with h2 | ⟨g, cap, cur, h1, hb', r⟩
  · exact Or.inl h2
  · exact Or.inr ⟨g, cap, cur, h1, by omega, r⟩

theorem OwnI.setOld {w : World} {base : Nat} {v : Value} {zs : List Int} (h : OwnI w base v zs) {a : Addr} (ha : a.block < base) (u : Value) : OwnI (w.setCell a u) base v zs := ownsRow_setCell_below h ha u

theorem OwnI.drew {w : World} {base : Nat} {v : Value} {zs : List Int} (h : OwnI w base v zs) : OwnI w.drew base v zs := h

theorem grownBy_trans {a b c : World} {row : Option Nat} (h : a.grownBy b row) (k : b.grownBy c row) : a.grownBy c row :=
  ⟨k.os.trans h.os, k.tape.trans h.tape, k.output.trans h.output, Nat.le_trans h.size k.size, fun i hi hr => (k.block i (Nat.lt_of_lt_of_le hi h.size) hr).trans (h.block i hi hr)⟩

theorem below_of_grownBy {B : Nat} {w w' : World} {row : Option Nat} (h : w.grownBy w' row) (hB : B ≤ w.heap.size) (hr : ∀ k, row = some k → B ≤ k) : Below B w w' :=
  (Below.refl B w).grown h hB hr


theorem infoI : (Tryz.prog.info? 2).map (fun i => (i.zero, i.size, i.bytes)) = some (some (.int .i64 0), 1, 8) := by kernel_rfl

theorem OwnI.cellAt {w : World} {base g n c : Nat} {zs : List Int} (h : OwnI w base (.slice (some ⟨g, 0, none⟩) n c) zs) (hn : n = zs.length) {k : Nat} (hk : k < zs.length) :
    ∃ z, zs[k]? = some z ∧ w.cell? ⟨g, k, none⟩ = some (.int .i64 z) ∧ w.frozen? ⟨g, k, none⟩ = false := by
  subst hn
  refine ⟨zs[k], by simp [hk], ?_, h.frozenAt k⟩
  rw [World.ownsRow.cellAt h k (by omega)]
  simp [hk]

theorem OwnI.stored {w : World} {base g n c : Nat} {zs : List Int} (h : OwnI w base (.slice (some ⟨g, 0, none⟩) n c) zs) (hn : n = zs.length) (k : Nat) (z : Int) :
    OwnI (w.setCell ⟨g, k, none⟩ (.int .i64 z)) base (.slice (some ⟨g, 0, none⟩) n c) (zs.set k z) ∧ w.grownBy (w.setCell ⟨g, k, none⟩ (.int .i64 z)) (some g) := by
  subst hn
  have hst := World.ownsRow.stored (h := h) k (.int .i64 z)
  refine ⟨?_, hst.2⟩
  unfold OwnI
  rw [List.map_set, List.length_set]
  exact hst.1

theorem OwnI.of_made {w : World} {base : Nat} {v : Value} {n : Nat} (h : w.ownsRow base 2 1 v n (madeCells #[.int .i64 0] n).toList) : OwnI w base v (List.replicate n 0) := by
  unfold OwnI
  rw [toList_madeCells_one] at h
  simpa using h

theorem heap_cellR {w : World} {g : Nat} {C : Array Value} {t : TypeId} (h : w.heap[g]? = some (.cells C t (0, 0))) : (∀ i, w.cell? ⟨g, i, none⟩ = C[i]?) ∧ (∀ i, w.frozen? ⟨g, i, none⟩ = false) := ⟨fun i => by simp [World.cell?, h], fun i => by simp [World.frozen?, h]⟩

end Go.Proofs.YtlcglclojlffgaaGreat
namespace Go.Proofs.YtlcglclojlffgaaGreat
open Go.ChangeShapes Go.WideShapes Go.ChangeAt Go.RowKit

theorem ownLaw : ownKnob Tryz.prog.godebug = none := by kernel_rfl
theorem laidOutLaw : laidOutB Tryz.prog = true := by kernel_rfl
/-- the arguments read behind a call that keeps memory as they did -/
theorem trodAll_below {H : Type} {enc : TypeId × Value → H} {P : Program} (hl : laidOutB P = true) {W W' : World} (hb : Below W.heap.size W W') :
    ∀ (ts : List TypeId) (vs : List Value) (ds : List (DataW H)) (ps : List MemPlace), (∀ t ∈ ts, P.readableRec t = true ∧ t < P.types.size) → DataW.TrodAll enc P W 0 (fun _ => true) true ts vs ds ps → (∀ x ∈ ps, x.block < W.heap.size) →
      DataW.TrodAll enc P W' 0 (fun b => decide (b < W.heap.size)) true ts vs ds ps
  | [], [], [], ps, _, h, _ => h
  | t :: ts, v :: vs, d :: ds, ps, hr, h, hlt => by
    obtain ⟨p, q, h1, h2, rfl⟩ := h
    refine ⟨p, q, ?_, ?_, rfl⟩
    · exact Below.trod hl (hr t (by simp)).1 (hr t (by simp)).2 h1 hb (fun x hx => hlt x (by simp [hx]))
    · exact trodAll_below hl hb ts vs ds q (fun t ht => hr t (by simp [ht])) h2 (fun x hx => hlt x (by simp [hx]))

/-- what a law owes behind its call -/
theorem law_post {H : Type} {enc : TypeId × Value → H} {f : Func} {s : ChangeSpec} {W W' : World} {args : Array Value} {ds gs : List (DataW H)} {before : List MemPlace}
    (hW : DataW.Whole enc Tryz.prog f.params.toList s.vars false W args.toList ds gs before) (hv : s.vars = []) (hres : f.resultTypes = #[4]) (hb : Below W.heap.size W W')
    (hfn : ∀ gs, gs = [] → s.fn H (ds ++ gs) = { results := [.lit (.bool true)], args := ds }) (hr : ∀ t ∈ f.params.toList, Tryz.prog.readableRec t = true ∧ t < Tryz.prog.types.size) :
    s.post enc Tryz.prog f false true false false W args (.bool true) W' := by
  have hW' := hW
  obtain ⟨p, q, hA, hV, rfl, hfz, hnd⟩ := hW
  rw [hv] at hV
  obtain ⟨rfl, rfl⟩ := trodVars_none hV
  have hlt : ∀ x ∈ p ++ [], x.block < W.heap.size := hW'.lt
  refine ⟨ds, [], p ++ [], [], p, [], hW', ?_, ?_, ?_, hb.frame _, fun h => by cases h⟩
  · rw [hfn [] rfl, hres]
    exact trodAll_mk1 (shut_bool Tryz.underlying4 _)
  · rw [hfn [] rfl]
    exact trodAll_below laidOutLaw hb _ _ _ _ hr hA (fun x hx => hlt x (by simpa using hx))
  · rw [hfn [] rfl, hv]
    exact rfl

/-- the cells of a table that a row lists -/
def tabCells : DataW Unit → Array Value
  | .agg l => (l.map fun | .lit (.int k n) => .int k n | _ => undef).toArray
  | _ => #[]
/-- a block with other cells -/
def withCells (cs : Array Value) : Obj → Obj
  | .cells _ t frozen => .cells cs t frozen
  | o => o
/-- the heap with the listed tables -/
def laidHeap (P : Program) (laid : List (String × DataW Unit)) (h : Array Obj) : Array Obj :=
  laid.foldl (fun h nd => h.modify ((P.globalNamed nd.1).getD 0) (withCells (tabCells nd.2))) h

/-- a world for the witness: the settled one, each listed table holding what its initialiser lays -/
noncomputable def laidWorld (laid : List (String × DataW Unit)) (os : Os) : World :=
  { World.holding Tryz.prog os ⟨#[], #[], []⟩ with heap := laidHeap Tryz.prog laid (World.holding Tryz.prog os ⟨#[], #[], []⟩).heap }

end Go.Proofs.YtlcglclojlffgaaGreat
namespace Go.Proofs.YtlcglclojlffgaaGreat
open Go.ChangeShapes Go.WideShapes Go.ChangeAt Go.RowKit

section
variable {H : Type} {enc : TypeId × Value → H} {w : World} {base : Nat} {spare : Nat → Bool} {held : Bool} {fuel : Nat} {cs : List Value} {x : DataW H × List MemPlace}

theorem int_cell {k : IntKind} {t : TypeId} (ht : Tryz.prog.underlying t = some (.int k)) (hc : Tryz.prog.cellsOf t = 1) {o : Nat} (_hl : o < cs.length)
    (h : DataW.trod enc Tryz.prog w base spare held fuel t ((cs.drop o).take (Tryz.prog.cellsOf t)) = some x) : ∃ n, cs[o]? = some (.int k n) ∧ (Lit.int k n).wf = true := by
  obtain ⟨n, h1, _, h2⟩ := DataW.trod_int ht h
  refine ⟨n, ?_, h2⟩
  rw [hc] at h1
  have h3 := congrArg (fun l => l[0]?) h1
  simpa [List.getElem?_take, List.getElem?_drop] using h3
theorem string_cell {t : TypeId} (ht : Tryz.prog.underlying t = some .string) (hc : Tryz.prog.cellsOf t = 1) {o : Nat} (_hl : o < cs.length)
    (h : DataW.trod enc Tryz.prog w base spare held fuel t ((cs.drop o).take (Tryz.prog.cellsOf t)) = some x) : ∃ s : ByteArray, cs[o]? = some (.string s) ∧ s.size ≤ maxLen := by
  obtain ⟨s, h1, _, h2⟩ := DataW.trod_string ht h
  refine ⟨s, ?_, h2⟩
  rw [hc] at h1
  have h3 := congrArg (fun l => l[0]?) h1
  simpa [List.getElem?_take, List.getElem?_drop] using h3

theorem cellsI64 : Tryz.prog.cellsOf 2 = 1 := by kernel_rfl
theorem cellsStr : Tryz.prog.cellsOf 9 = 1 := by kernel_rfl
end

theorem cellsIs : Tryz.prog.cellsOf 24 = 1 := by kernel_rfl
theorem intsAt_of {w : World} {a : Addr} {zs : List Int} (h : ∀ i, i < zs.length → w.cell? (a.add i) = some (.int .i64 (zs.getD i 0))) {n : Nat} : IntsAt w (some a) (zs.take n) := by
  intro i hi
  have hi' : i < zs.length := by have := List.length_take_le' n zs; omega
  have h0 := h 0 (by omega)
  have hs : a.spot = none := by
    obtain ⟨b, o, s⟩ := a
    cases s with
    | none => rfl
    | some s =>
      simp only [Addr.add, if_true] at h0
      unfold World.cell? at h0
      split at h0 <;> simp at h0
  obtain ⟨b, o, s⟩ := a
  obtain rfl : s = none := hs
  refine ⟨b, o, rfl, ?_⟩
  have := h i hi'
  rw [Addr.add_lit] at this
  rw [this]
  simp [hi']

/-- a slice of numbers among the arguments -/
theorem ints_cell {H : Type} {enc : TypeId × Value → H} {w : World} {base : Nat} {spare : Nat → Bool} {held : Bool} {fuel : Nat} {cs : List Value} {x : DataW H × List MemPlace}
    (h : DataW.trod enc Tryz.prog w base spare held fuel 24 cs = some x) : ∃ (a : Option Addr) (zs : List Int) (c : Nat), cs = [.slice a zs.length c] ∧ IntsAt w a zs ∧ zs.length ≤ maxLen ∧ (∀ n ∈ zs, (Lit.int .i64 n).wf = true) := by
  rcases open_ints Tryz.underlying24 Tryz.underlying2 cellsI64 h with ⟨rfl, _⟩ | ⟨a, len, cap, zs, rfl, _, hl, hm, hz, _, hc, hw⟩
  · exact ⟨Option.none, [], 0, rfl, IntsAt.nil, Nat.zero_le _, fun n hn => absurd hn (by simp)⟩
  · have e : (zs.take len).length = len := by rw [List.length_take]; split at hz <;> omega
    exact ⟨some a, zs.take len, cap, by rw [e], intsAt_of hc, by rw [e]; omega, fun n hn => hw n (List.mem_of_mem_take hn)⟩

end Go.Proofs.YtlcglclojlffgaaGreat
namespace Go.Proofs.YtlcglclojlffgaaGreat
open Go.ChangeShapes Go.WideShapes Go.ChangeAt Go.RowKit

theorem cellsLFam : Tryz.prog.cellsOf 26 = 8 := by kernel_rfl
theorem cellsLFld : Tryz.prog.cellsOf 23 = 3 := by kernel_rfl
section
variable {H : Type} {enc : TypeId × Value → H} {w : World} {base : Nat} {spare : Nat → Bool} {held : Bool} {fuel : Nat} {cs : List Value} {x : DataW H × List MemPlace}
set_option maxRecDepth 100000 in
/-- a field among the arguments -/
theorem field_cells (h : DataW.trod enc Tryz.prog w base spare held fuel 23 cs = some x) :
    ∃ (x1 x2 x3 : Int), cs = [.int .i64 x1, .int .i64 x2, .int .i64 x3] ∧ (Lit.int .i64 x1).wf = true ∧ (Lit.int .i64 x2).wf = true ∧ (Lit.int .i64 x3).wf = true := by
  obtain ⟨xs, n, _, hx, hl, hlen, hf⟩ := DataW.trod_struct Tryz.underlying23 h
  rw [cellsLFld] at hl
  obtain ⟨y0, e0⟩ : ∃ y, xs[0]? = some y := by rw [List.getElem?_eq_getElem (by rw [hlen]; decide)]; exact ⟨_, rfl⟩
  obtain ⟨y1, e1⟩ : ∃ y, xs[1]? = some y := by rw [List.getElem?_eq_getElem (by rw [hlen]; decide)]; exact ⟨_, rfl⟩
  obtain ⟨y2, e2⟩ : ∃ y, xs[2]? = some y := by rw [List.getElem?_eq_getElem (by rw [hlen]; decide)]; exact ⟨_, rfl⟩
  obtain ⟨x1, h1, w1⟩ := int_cell Tryz.underlying2 cellsI64 (o := 0) (by omega) ((hf 0 _ rfl).trans e0)
  obtain ⟨x2, h2, w2⟩ := int_cell Tryz.underlying2 cellsI64 (o := 1) (by omega) ((hf 1 _ rfl).trans e1)
  obtain ⟨x3, h3, w3⟩ := int_cell Tryz.underlying2 cellsI64 (o := 2) (by omega) ((hf 2 _ rfl).trans e2)
  refine ⟨x1, x2, x3, ?_, w1, w2, w3⟩
  match cs, hl with
  | [c0, c1, c2], _ => simp_all
end

set_option maxRecDepth 100000 in
/-- a family as an argument -/
theorem open_family {H : Type} {enc : TypeId × Value → H} {W : World} {base b0 : Nat} {r : Reach} {spare : Nat → Bool} {held : Bool} {v : Value} {d : DataW H} {ps : List MemPlace} (hv : Value.okWide Tryz.prog W r b0 26 v) (h : DataW.Trod enc Tryz.prog W base spare held 26 v d ps) :
    ∃ (nm : ByteArray) (kd p k g : Int) (a1 : Option Addr) (szs : List Int) (c1 : Nat) (cl : Int) (a2 : Option Addr) (lvs : List Int) (c2 : Nat), v = .agg #[.string nm, .int .i64 kd, .int .i64 p, .int .i64 k, .int .i64 g, .slice a1 szs.length c1, .int .i64 cl, .slice a2 lvs.length c2] ∧ nm.size ≤ maxLen ∧
      IntsAt W a1 szs ∧ szs.length ≤ maxLen ∧ (∀ n ∈ szs, (Lit.int .i64 n).wf = true) ∧ IntsAt W a2 lvs ∧ lvs.length ≤ maxLen := by
  obtain ⟨cs, rfl, hsz⟩ := okWide_struct Tryz.underlying26 hv
  obtain ⟨fuel, hf⟩ := h
  obtain ⟨ys, n, _, hx, hl, hlen, hg⟩ := DataW.trod_struct Tryz.underlying26 hf
  rw [cellsLFam] at hl
  obtain ⟨y0, e0⟩ : ∃ y, ys[0]? = some y := by rw [List.getElem?_eq_getElem (by rw [hlen]; decide)]; exact ⟨_, rfl⟩
  obtain ⟨y1, e1⟩ : ∃ y, ys[1]? = some y := by rw [List.getElem?_eq_getElem (by rw [hlen]; decide)]; exact ⟨_, rfl⟩
  obtain ⟨y2, e2⟩ : ∃ y, ys[2]? = some y := by rw [List.getElem?_eq_getElem (by rw [hlen]; decide)]; exact ⟨_, rfl⟩
  obtain ⟨y3, e3⟩ : ∃ y, ys[3]? = some y := by rw [List.getElem?_eq_getElem (by rw [hlen]; decide)]; exact ⟨_, rfl⟩
  obtain ⟨y4, e4⟩ : ∃ y, ys[4]? = some y := by rw [List.getElem?_eq_getElem (by rw [hlen]; decide)]; exact ⟨_, rfl⟩
  obtain ⟨y5, e5⟩ : ∃ y, ys[5]? = some y := by rw [List.getElem?_eq_getElem (by rw [hlen]; decide)]; exact ⟨_, rfl⟩
  have hl' : cs.toList.length = 8 := by simpa [Value.cells] using hl
  obtain ⟨nm, h0, hnm⟩ := string_cell Tryz.underlying9 cellsStr (o := 0) (by simp [Value.cells]; simp at hl'; omega) ((hg 0 _ rfl).trans e0)
  obtain ⟨kd, h1, w1⟩ := int_cell Tryz.underlying2 cellsI64 (o := 1) (by simp [Value.cells]; simp at hl'; omega) ((hg 1 _ rfl).trans e1)
  obtain ⟨p, k, g, h2, w2, w3, w4⟩ := field_cells ((hg 2 _ rfl).trans e2)
  obtain ⟨a1, szs, c1, h3, hi1, hzl1, hzw1⟩ := ints_cell ((hg 3 _ rfl).trans e3)
  obtain ⟨cl, h4, w5⟩ := int_cell Tryz.underlying2 cellsI64 (o := 6) (by simp [Value.cells]; simp at hl'; omega) ((hg 4 _ rfl).trans e4)
  obtain ⟨a2, lvs, c2, h5, hi2, hzl2, -⟩ := ints_cell ((hg 5 _ rfl).trans e5)
  refine ⟨nm, kd, p, k, g, a1, szs, c1, cl, a2, lvs, c2, ?_, hnm, hi1, hzl1, hzw1, hi2, hzl2⟩
  obtain ⟨l⟩ := cs
  simp only [Value.cells] at hl h0 h1 h2 h3 h4 h5
  match l, hl with
  | [q0, q1, q2, q3, q4, q5, q6, q7], _ => simp_all [cellsIs, cellsLFld]

end Go.Proofs.YtlcglclojlffgaaGreat
namespace Go.Proofs.YtlcglclojlffgaaGreat

/-- a best segmentation of the rest of a message: its length, its segments, the bytes and the mode of the first -/
structure Ch where
  l : Int
  c : Int
  t : Int
  m : Int
def chZ : Ch := ⟨0, 0, 0, 0⟩
def chB (a b : Ch) : Bool := if a.l != b.l then decide (a.l < b.l) else if a.c != b.c then decide (a.c < b.c) else if a.t != b.t then decide (b.t < a.t) else decide (a.m < b.m)

/-- the characters of the modes 1 to 3 -/
def chars : Nat → List UInt8
  | 1 => [48, 49, 50, 51, 52, 53, 54, 55, 56, 57]
  | 2 => [48, 49, 50, 51, 52, 53, 54, 55, 56, 57, 65, 66, 67, 68, 69, 70, 71, 72, 73, 74, 75, 76, 77, 78, 79, 80, 81, 82, 83, 84, 85, 86, 87, 88, 89, 90, 32, 33, 35, 38, 40, 41, 43, 45, 47]
  | _ => [97, 98, 99, 100, 101, 102, 103, 104, 105, 106, 107, 108, 109, 110, 111, 112, 113, 114, 115, 116, 117, 118, 119, 120, 121, 122, 32, 10, 44, 46, 39, 63]
/-- the index of the first one of these characters that a number is, or -1 -/
def idxC : List UInt8 → Int → Int → Int
  | [], _, _ => -1
  | c :: l, b, k => if (c.toNat : Int) = b then k else idxC l b (k + 1)
def valC (m : Nat) (b : Int) : Int := if m = 4 then b else idxC (chars m) b 0
theorem idxC_ge : ∀ (l : List UInt8) (b k : Int), 0 ≤ k → idxC l b k = -1 ∨ (k ≤ idxC l b k ∧ idxC l b k < k + l.length)
  | [], _, _, _ => Or.inl rfl
  | c :: l, b, k, hk => by
    rw [idxC, List.length_cons]
    split
    · right; omega
    · rcases idxC_ge l b (k + 1) (by omega) with h | h
      · left; exact h
      · right; omega
theorem valC_ge (m : Nat) (b : Int) (hb : 0 ≤ b) : -1 ≤ valC m b := by
  unfold valC
  split
  · omega
  · rcases idxC_ge (chars m) b 0 (by omega) with h | h <;> omega
theorem valC_le (m : Nat) (b : Int) (hb2 : b ≤ 255) : valC m b ≤ 255 := by
  unfold valC
  split
  · omega
  · have hl : (chars m).length ≤ 45 := by unfold chars; split <;> decide
    rcases idxC_ge (chars m) b 0 (by omega) with h | h <;> omega
/-- a byte has a value in a mode -/
def inM (m : Nat) (b : UInt8) : Bool := decide (0 ≤ valC m b.toNat)
theorem inM_four (b : UInt8) : inM 4 b = true := by simp [inM, valC]

/-- bytes of a group; bits of a group -/
def grpM (m : Nat) : Nat := match m with | 1 => 3 | 2 => 2 | _ => 1
def widM (m g : Nat) : Nat := match m with
  | 1 => (match g with | 1 => 4 | 2 => 7 | 3 => 10 | _ => 0)
  | 2 => (match g with | 1 => 6 | 2 => 11 | _ => 0)
  | 3 => 5
  | _ => 8
def baseM (m : Nat) : Nat := match m with | 1 => 10 | 2 => 45 | 3 => 32 | _ => 256
theorem grpM_bd (m : Nat) : 1 ≤ grpM m ∧ grpM m ≤ 3 := by unfold grpM; split <;> decide
theorem widM_bd (m g : Nat) (hg : 1 ≤ g) (hg2 : g ≤ 3) : widM m g ≤ 8 * g := by
  unfold widM
  split
  · split <;> omega
  · split <;> omega
  · omega
  · omega
/-- the bits of the text of n bytes -/
def txtW (m n : Nat) : Nat := n / grpM m * widM m (grpM m) + if n % grpM m > 0 then widM m (n % grpM m) else 0
def segW (m n : Nat) : Nat := 11 + txtW m n
theorem txtW_le (m n : Nat) : txtW m n ≤ 8 * n := by
  unfold txtW
  obtain ⟨h1, h2⟩ := grpM_bd m
  have h3 := widM_bd m (grpM m) h1 h2
  have h4 : n / grpM m * widM m (grpM m) ≤ n / grpM m * (8 * grpM m) := Nat.mul_le_mul_left _ h3
  have h5 := Nat.div_add_mod n (grpM m)
  have h6 : n / grpM m * (8 * grpM m) = 8 * (grpM m * (n / grpM m)) := by
    rw [Nat.mul_comm, Nat.mul_assoc]
  have h7 := Nat.mod_lt n (show 0 < grpM m by omega)
  split
  · rename_i h8
    have h9 := widM_bd m (n % grpM m) h8 (by omega)
    omega
  · omega
theorem segW_le (m n : Nat) (hn : 1 ≤ n) : segW m n ≤ 19 * n := by have := txtW_le m n; unfold segW; omega

/-- how many bytes in a row have a value in a mode, at most those of a segment -/
def runL (m : Nat) : List UInt8 → Nat
  | [] => 0
  | c :: l => if inM m c then min (runL m l + 1) 255 else 0
theorem runL_le (m : Nat) : ∀ s, runL m s ≤ s.length ∧ runL m s ≤ 255
  | [] => by simp [runL]
  | c :: l => by
    have := runL_le m l
    rw [runL, List.length_cons]
    split <;> omega
theorem runL_in (m : Nat) : ∀ (s : List UInt8) (k : Nat) (c : UInt8), k < runL m s → s[k]? = some c → inM m c = true
  | [], _, _, h, _ => by simp [runL] at h
  | c :: l, k, d, h, e => by
    rw [runL] at h
    split at h
    · rename_i hc
      rcases k with - | k
      · simp at e; rw [← e]; exact hc
      · exact runL_in m l k d (by omega) (by simpa using e)
    · omega
theorem runL_out (m : Nat) : ∀ (s : List UInt8) (c : UInt8), runL m s < 255 → s[runL m s]? = some c → inM m c = false
  | [], _, _, e => by simp at e
  | c :: l, d, h, e => by
    rw [runL] at h e
    split at h
    · rename_i hc
      rw [if_pos hc] at e
      have h2 : min (runL m l + 1) 255 = runL m l + 1 := by omega
      rw [h2, List.getElem?_cons_succ] at e
      exact runL_out m l d (by omega) e
    · rename_i hc
      rw [if_neg hc, List.getElem?_cons_zero] at e
      rw [← Option.some.inj e]
      simpa using hc
theorem runL_four : ∀ (s : List UInt8), s ≠ [] → 1 ≤ runL 4 s
  | [], h => absurd rfl h
  | c :: l, _ => by rw [runL, if_pos (inM_four c)]; omega

/-- a candidate: n bytes in mode m, then the best of the rest -/
def candC (tab : List Ch) (m n : Nat) : Ch := ⟨(segW m n : Int) + (tab.getD (n - 1) chZ).l, (tab.getD (n - 1) chZ).c + 1, n, m⟩
def betC (b x : Ch) : Ch := if b.c = 0 ∨ chB x b = true then x else b
/-- the candidates of 1 to n bytes -/
def tryC (tab : List Ch) (m : Nat) : Nat → Ch → Ch
  | 0, b => b
  | n + 1, b => betC (tryC tab m n b) (candC tab m (n + 1))
/-- the candidates of the modes 1 to m -/
def modC (s : List UInt8) (tab : List Ch) : Nat → Ch
  | 0 => chZ
  | m + 1 => tryC tab (m + 1) (runL (m + 1) s) (modC s tab m)
/-- the best segmentations of all endings of a message -/
def tabC : List UInt8 → List Ch
  | [] => [chZ]
  | c :: l => modC (c :: l) (tabC l) 4 :: tabC l
theorem tabC_len : ∀ s, (tabC s).length = s.length + 1
  | [] => rfl
  | c :: l => by rw [tabC, List.length_cons, tabC_len l, List.length_cons]
theorem tabC_drop : ∀ (s : List UInt8) (k : Nat), k ≤ s.length → (tabC s).drop k = tabC (s.drop k)
  | s, 0, _ => by simp
  | [], k + 1, h => by simp at h
  | c :: l, k + 1, h => by rw [tabC, List.drop_succ_cons, List.drop_succ_cons]; exact tabC_drop l k (by simpa using h)
def hdC (s : List UInt8) : Ch := (tabC s).headD chZ
theorem tabC_at (s : List UInt8) (k : Nat) (h : k ≤ s.length) : (tabC s)[k]? = some (hdC (s.drop k)) := by
  have h1 : (tabC s)[k]? = ((tabC s).drop k)[0]? := by simp
  rw [h1, tabC_drop s k h]
  unfold hdC
  have h2 := tabC_len (s.drop k)
  cases h3 : tabC (s.drop k) with
  | nil => rw [h3] at h2; simp at h2
  | cons x r => rfl

/-- what holds of a best segmentation of some bytes -/
structure ChOk (s : List UInt8) (x : Ch) : Prop where
  t : ∃ n m : Nat, x.t = n ∧ x.m = m ∧ 1 ≤ n ∧ n ≤ s.length ∧ n ≤ 255 ∧ 1 ≤ m ∧ m ≤ 4 ∧ n ≤ runL m s ∧ x.l = (segW m n : Int) + (hdC (s.drop n)).l ∧ x.c = (hdC (s.drop n)).c + 1
/-- bounds of what stands in the table -/
def ChBd (n : Nat) (x : Ch) : Prop := 0 ≤ x.l ∧ x.l ≤ 19 * n ∧ 0 ≤ x.c ∧ x.c ≤ n
theorem betC_or (b x : Ch) : betC b x = x ∨ (betC b x = b ∧ b.c ≠ 0) := by
  unfold betC
  split
  · exact Or.inl rfl
  · rename_i h
    exact Or.inr ⟨rfl, fun e => h (Or.inl e)⟩
theorem tryC_ok {P : Ch → Prop} {tab : List Ch} {m : Nat} (b : Ch) (hb : b.c = 0 ∨ P b) : ∀ n, (∀ k, 1 ≤ k → k ≤ n → P (candC tab m k)) → (tryC tab m n b = b ∨ P (tryC tab m n b)) ∧ ((tryC tab m n b).c = 0 ∨ P (tryC tab m n b)) ∧ (1 ≤ n → P (tryC tab m n b))
  | 0, _ => ⟨Or.inl rfl, hb, fun h => by omega⟩
  | n + 1, h => by
    obtain ⟨h1, h2, h3⟩ := tryC_ok b hb n (fun k hk hk2 => h k hk (by omega))
    rw [tryC]
    have hx := h (n + 1) (by omega) (Nat.le_refl _)
    have hP : P (betC (tryC tab m n b) (candC tab m (n + 1))) := by
      rcases betC_or (tryC tab m n b) (candC tab m (n + 1)) with e | ⟨e, he⟩
      · rw [e]; exact hx
      · rw [e]; rcases h2 with h | h
        · exact absurd h he
        · exact h
    exact ⟨Or.inr hP, Or.inr hP, fun _ => hP⟩
theorem modC_ok {P : Ch → Prop} {s : List UInt8} {tab : List Ch} (h : ∀ m k : Nat, 1 ≤ m → m ≤ 4 → 1 ≤ k → k ≤ runL m s → P (candC tab m k)) : ∀ n, n ≤ 4 → (modC s tab n).c = 0 ∨ P (modC s tab n)
  | 0, _ => Or.inl rfl
  | n + 1, hn => by
    rw [modC]
    exact (tryC_ok _ (modC_ok h n (by omega)) _ (fun k hk hk2 => h (n + 1) k (by omega) hn hk hk2)).2.1
theorem modC_four {P : Ch → Prop} {s : List UInt8} {tab : List Ch} (hs : s ≠ []) (h : ∀ m k : Nat, 1 ≤ m → m ≤ 4 → 1 ≤ k → k ≤ runL m s → P (candC tab m k)) : P (modC s tab 4) := by
  show P (tryC tab 4 (runL 4 s) (modC s tab 3))
  exact (tryC_ok _ (modC_ok h 3 (by omega)) _ (fun k hk hk2 => h 4 k (by omega) (by omega) hk hk2)).2.2 (runL_four s hs)
theorem hdC_ok {s : List UInt8} (hs : s ≠ []) : ChOk s (hdC s) := by
  cases s with
  | nil => exact absurd rfl hs
  | cons c l =>
    show ChOk (c :: l) (modC (c :: l) (tabC l) 4)
    apply modC_four hs
    intro m k hm hm4 hk hkr
    have h1 := runL_le m (c :: l)
    have h2 : (tabC l).getD (k - 1) chZ = hdC ((c :: l).drop k) := by
      obtain ⟨j, rfl⟩ : ∃ j, k = j + 1 := ⟨k - 1, by omega⟩
      rw [List.drop_succ_cons, Nat.add_sub_cancel, List.getD_eq_getElem?_getD, tabC_at l j (by simp at h1; omega)]
      rfl
    exact ⟨k, m, rfl, rfl, hk, by omega, by omega, hm, hm4, hkr, by rw [candC, h2], by rw [candC, h2]⟩
theorem hdC_bd : ∀ (n : Nat) (s : List UInt8), s.length ≤ n → ChBd s.length (hdC s)
  | n, [], _ => by simp [ChBd, hdC, tabC, chZ]
  | 0, c :: l, h => by simp at h
  | n + 1, c :: l, h => by
    obtain ⟨k, m, h1, h2, h3, h4, h5, h6, h7, h8, h9, h10⟩ := (hdC_ok (s := c :: l) (by simp)).t
    have h11 := hdC_bd n ((c :: l).drop k) (by rw [List.length_drop]; omega)
    rw [List.length_drop] at h11
    obtain ⟨g1, g2, g3, g4⟩ := h11
    have h12 := segW_le m k h3
    exact ⟨by omega, by omega, by omega, by omega⟩
theorem tabC_bd (s : List UInt8) {x : Ch} {k : Nat} (h : (tabC s)[k]? = some x) : ChBd s.length x := by
  have h1 : k ≤ s.length := by
    have := (List.getElem?_eq_some_iff.1 h).1
    rw [tabC_len] at this; omega
  rw [tabC_at s k h1] at h
  obtain rfl := Option.some.inj h
  obtain ⟨g1, g2, g3, g4⟩ := hdC_bd _ (s.drop k) (Nat.le_refl _)
  rw [List.length_drop] at g2 g4
  exact ⟨g1, by omega, g3, by omega⟩

/-- the best segmentation: modes and texts -/
def segsF : Nat → List UInt8 → List (Nat × List UInt8)
  | 0, _ => []
  | _ + 1, [] => []
  | f + 1, c :: l => ((hdC (c :: l)).m.toNat, (c :: l).take (hdC (c :: l)).t.toNat) :: segsF f ((c :: l).drop (hdC (c :: l)).t.toNat)
def segsC (s : List UInt8) : List (Nat × List UInt8) := segsF s.length s
theorem segsF_any : ∀ (f g : Nat) (s : List UInt8), s.length ≤ f → s.length ≤ g → segsF f s = segsF g s
  | 0, 0, _, _, _ => rfl
  | 0, g + 1, [], _, _ => rfl
  | 0, g + 1, c :: l, h, _ => by simp at h
  | f + 1, 0, [], _, _ => rfl
  | f + 1, 0, c :: l, _, h => by simp at h
  | f + 1, g + 1, [], _, _ => rfl
  | f + 1, g + 1, c :: l, hf, hg => by
    rw [segsF, segsF]
    obtain ⟨k, m, h1, h2, h3, h4, h5, h6, h7, h8, h9, h10⟩ := (hdC_ok (s := c :: l) (by simp)).t
    rw [h1]
    congr 1
    apply segsF_any <;> rw [List.length_drop] <;> simp at hf hg ⊢ <;> omega
theorem segsC_cons (c : UInt8) (l : List UInt8) : segsC (c :: l) = ((hdC (c :: l)).m.toNat, (c :: l).take (hdC (c :: l)).t.toNat) :: segsC ((c :: l).drop (hdC (c :: l)).t.toNat) := by
  unfold segsC
  obtain ⟨k, m, h1, h2, h3, h4, h5, h6, h7, h8, h9, h10⟩ := (hdC_ok (s := c :: l) (by simp)).t
  rw [List.length_cons, segsF, h1]
  congr 1
  apply segsF_any <;> rw [List.length_drop] <;> simp <;> omega
/-- a segment: its mode, its bytes, all with a value -/
def SegOk (x : Nat × List UInt8) : Prop := 1 ≤ x.1 ∧ x.1 ≤ 4 ∧ 1 ≤ x.2.length ∧ x.2.length ≤ 255 ∧ ∀ b ∈ x.2, inM x.1 b = true
theorem segsC_ok : ∀ (n : Nat) (s : List UInt8), s.length ≤ n → ∀ x ∈ segsC s, SegOk x
  | n, [], _ => fun x hx => by simp [segsC, segsF] at hx
  | 0, c :: l, h => by simp at h
  | n + 1, c :: l, h => by
    intro x hx
    rw [segsC_cons] at hx
    obtain ⟨k, m, h1, h2, h3, h4, h5, h6, h7, h8, h9, h10⟩ := (hdC_ok (s := c :: l) (by simp)).t
    rw [h1, h2] at hx
    rcases List.mem_cons.1 hx with rfl | hx
    · refine ⟨by simpa using h6, by simpa using h7, ?_, ?_, ?_⟩
      · show 1 ≤ ((c :: l).take k).length
        rw [List.length_take]; omega
      · show ((c :: l).take k).length ≤ 255
        rw [List.length_take]; omega
      · intro b hb
        have hb' : b ∈ (c :: l).take k := hb
        obtain ⟨i, hi, e⟩ := List.mem_iff_getElem.1 hb'
        rw [List.length_take] at hi
        rw [List.getElem_take] at e
        exact runL_in m (c :: l) i b (by omega) (by rw [List.getElem?_eq_getElem (by omega), e])
    · exact segsC_ok n _ (by rw [List.length_drop]; simp at h ⊢; omega) x hx

/-- the bits of a number -/
def bitsC (v : Nat) (w : Nat) : List Int := (List.range w).map fun i => ((v >>> (w - 1 - i) % 2 : Nat) : Int)
theorem bitsC_len (v w : Nat) : (bitsC v w).length = w := by simp [bitsC]
/-- the number of a group -/
def numC (m : Nat) (t : List UInt8) : Nat := t.foldl (fun n b => n * baseM m + (valC m b.toNat).toNat) 0
def grpsF (m : Nat) : Nat → List UInt8 → List Int
  | 0, _ => []
  | _ + 1, [] => []
  | f + 1, c :: l => bitsC (numC m ((c :: l).take (grpM m))) (widM m ((c :: l).take (grpM m)).length) ++ grpsF m f ((c :: l).drop (grpM m))
def segB (x : Nat × List UInt8) : List Int := bitsC x.1 3 ++ bitsC x.2.length 8 ++ grpsF x.1 x.2.length x.2
theorem txtW_step (m n : Nat) (h : grpM m ≤ n) : txtW m n = widM m (grpM m) + txtW m (n - grpM m) := by
  obtain ⟨h1, h2⟩ := grpM_bd m
  unfold txtW
  obtain ⟨j, rfl⟩ : ∃ j, n = j + grpM m := ⟨n - grpM m, by omega⟩
  rw [Nat.add_sub_cancel, Nat.add_div_right _ (by omega), Nat.add_mod_right, Nat.succ_mul]
  omega
theorem txtW_low (m n : Nat) (h : n < grpM m) : txtW m n = if n > 0 then widM m n else 0 := by
  unfold txtW
  rw [Nat.div_eq_of_lt h, Nat.mod_eq_of_lt h]; simp
theorem grpsF_len (m : Nat) : ∀ (f : Nat) (t : List UInt8), t.length ≤ f → (grpsF m f t).length = txtW m t.length
  | 0, [], _ => by simp [grpsF, txtW]
  | 0, c :: l, h => by simp at h
  | f + 1, [], _ => by simp [grpsF, txtW]
  | f + 1, c :: l, h => by
    obtain ⟨h1, h2⟩ := grpM_bd m
    rw [grpsF, List.length_append, bitsC_len, List.length_take, grpsF_len m f _ (by rw [List.length_drop]; simp at h ⊢; omega), List.length_drop]
    by_cases hg : grpM m ≤ (c :: l).length
    · rw [txtW_step m _ hg, Nat.min_eq_left hg]
    · rw [Nat.min_eq_right (by omega), show (c :: l).length - grpM m = 0 by omega, txtW_low m 0 (by omega), if_neg (by omega), txtW_low m (c :: l).length (by omega), if_pos (by simp), Nat.add_zero]
theorem segB_len (x : Nat × List UInt8) : (segB x).length = segW x.1 x.2.length := by
  rw [segB, List.length_append, List.length_append, bitsC_len, bitsC_len, grpsF_len _ _ _ (Nat.le_refl _), segW]
/-- the bits of the best segmentation -/
def msgB (s : List UInt8) : List Int := (segsC s).flatMap segB
theorem msgB_len : ∀ (n : Nat) (s : List UInt8), s.length ≤ n → ((msgB s).length : Int) = (hdC s).l
  | n, [], _ => by simp [msgB, segsC, segsF, hdC, tabC, chZ]
  | 0, c :: l, h => by simp at h
  | n + 1, c :: l, h => by
    obtain ⟨k, m, h1, h2, h3, h4, h5, h6, h7, h8, h9, h10⟩ := (hdC_ok (s := c :: l) (by simp)).t
    have h11 := msgB_len n ((c :: l).drop k) (by rw [List.length_drop]; simp at h ⊢; omega)
    unfold msgB at h11 ⊢
    rw [segsC_cons, h1, h2, List.flatMap_cons, List.length_append, segB_len, h9, ← h11]
    simp only [Int.toNat_natCast]
    rw [List.length_take, Nat.min_eq_left h4]
    push_cast
    rfl

end Go.Proofs.YtlcglclojlffgaaGreat
namespace Go.Proofs.YtlcglclojlffgaaGreat

/-- a field in four numbers: is it binary, the power, the size, the polynomial or the generator -/
structure Fd where
  bin : Bool
  k : Nat
  q : Nat
  g : Nat

def rstep (k g j x : Nat) : Nat := if x.testBit j then x ^^^ (g <<< (j - k)) else x
/-- times the generator -/
def Fd.T (F : Fd) (x : Nat) : Nat := if F.bin then rstep F.k F.g F.k (x <<< 1) else x * F.g % F.q
def Fd.pw (F : Fd) : Nat → Nat
  | 0 => 1
  | n + 1 => F.T (F.pw n)
def Fd.it (F : Fd) : Nat → Nat → Nat
  | 0, x => x
  | n + 1, x => F.T (F.it n x)
theorem Fd.it_add (F : Fd) (i j x : Nat) : F.it (i + j) x = F.it i (F.it j x) := by
  induction i with
  | zero => simp [Fd.it]
  | succ i ih => rw [show i + 1 + j = (i + j) + 1 by omega, Fd.it, ih, Fd.it]
theorem Fd.pw_it (F : Fd) (n : Nat) : F.pw n = F.it n 1 := by
  induction n with
  | zero => rfl
  | succ n ih => rw [Fd.pw, Fd.it, ih]
theorem Fd.pw_add (F : Fd) (i j : Nat) : F.pw (i + j) = F.it i (F.pw j) := by rw [F.pw_it, F.it_add, ← F.pw_it]

def redN (k g : Nat) : Nat → Nat → Nat
  | 0, x => x
  | m + 1, x => redN k g m (rstep k g (k + m) x)
theorem rstep_xor (k g j x y : Nat) : rstep k g j (x ^^^ y) = rstep k g j x ^^^ rstep k g j y := by
  unfold rstep
  rw [Nat.testBit_xor]
  cases x.testBit j <;> cases y.testBit j <;> simp
  · rw [Nat.xor_assoc]
  · rw [Nat.xor_assoc, Nat.xor_assoc, Nat.xor_comm y]
  · rw [Nat.xor_assoc x (g <<< (j - k)), Nat.xor_comm y (g <<< (j - k)), ← Nat.xor_assoc (g <<< (j - k)) (g <<< (j - k)) y, Nat.xor_self, Nat.zero_xor]
theorem redN_xor (k g : Nat) : ∀ m x y, redN k g m (x ^^^ y) = redN k g m x ^^^ redN k g m y
  | 0, x, y => rfl
  | m + 1, x, y => by rw [redN, rstep_xor, redN_xor k g m, redN, redN]
theorem rstep_two (k g m x : Nat) : rstep k g (k + m + 1) (x <<< 1) = rstep k g (k + m) x <<< 1 := by
  unfold rstep
  rw [Nat.testBit_shiftLeft, show k + m + 1 - 1 = k + m by omega, show k + m + 1 - k = m + 1 by omega, show k + m - k = m by omega]
  have : (k + m + 1 ≥ 1) := by omega
  simp only [this, decide_true, Bool.true_and]
  split
  · rw [Nat.shiftLeft_xor_distrib, Nat.shiftLeft_add]
  · rfl
theorem redN_two (k g : Nat) : ∀ m x, redN k g (m + 1) (x <<< 1) = rstep k g k (redN k g m x <<< 1)
  | 0, x => rfl
  | m + 1, x => by
    rw [redN, show k + (m + 1) = k + m + 1 by omega, rstep_two, redN_two k g m, redN]
theorem redN_low (k g m x : Nat) (h : x < 2 ^ (k + m)) : redN k g (m + 1) x = redN k g m x := by
  rw [redN, rstep, Nat.testBit_lt_two_pow h]; rfl
theorem redN_low' (k g m x : Nat) (h : x < 2 ^ (k + m)) : ∀ d, redN k g (m + d) x = redN k g m x
  | 0 => rfl
  | d + 1 => by
    rw [← Nat.add_assoc, redN_low, redN_low' k g m x h d]
    exact Nat.lt_of_lt_of_le h (Nat.pow_le_pow_right (by omega) (by omega))

variable (F : Fd) (hb : F.bin = true)
include hb
theorem T_bin (x : Nat) : F.T x = rstep F.k F.g F.k (x <<< 1) := by simp [Fd.T, hb]
theorem T_xor (x y : Nat) : F.T (x ^^^ y) = F.T x ^^^ F.T y := by
  rw [T_bin F hb, T_bin F hb, T_bin F hb, Nat.shiftLeft_xor_distrib, rstep_xor]
theorem it_xor (x y : Nat) : ∀ i, F.it i (x ^^^ y) = F.it i x ^^^ F.it i y
  | 0 => rfl
  | i + 1 => by rw [Fd.it, it_xor x y i, T_xor F hb, Fd.it, Fd.it]
theorem it_zero : ∀ i, F.it i 0 = 0
  | 0 => rfl
  | i + 1 => by rw [Fd.it, it_zero i, T_bin F hb]; simp [rstep]
theorem redN_it (a : Nat) : ∀ m, redN F.k F.g m (a <<< m) = F.it m a
  | 0 => by simp [redN, Fd.it]
  | m + 1 => by rw [Nat.shiftLeft_add, redN_two, redN_it a m, Fd.it, T_bin F hb]
omit hb in
/-- the sum of the shifts of a by the bits of b below n -/
def clm (a b : Nat) : Nat → Nat
  | 0 => 0
  | n + 1 => clm a b n ^^^ (if b.testBit n then a <<< n else 0)
theorem redN_clm (a b : Nat) (ha : a < 2 ^ F.k) : ∀ n d, redN F.k F.g (n + d) (clm a b n) = (List.range n).foldl (fun s m => s ^^^ (if b.testBit m then F.it m a else 0)) 0
  | 0, d => by
    rw [clm]
    have : ∀ m, redN F.k F.g m 0 = 0 := by
      intro m
      induction m with
      | zero => rfl
      | succ m ih => rw [redN, rstep]; simp [ih]
    rw [this]; rfl
  | n + 1, d => by
    rw [clm, redN_xor, List.range_succ, List.foldl_append, show n + 1 + d = n + (d + 1) by omega, redN_clm a b ha n (d + 1)]
    simp only [List.foldl_cons, List.foldl_nil]
    congr 1
    split
    · rw [← redN_it F hb, redN_low']
      rw [Nat.shiftLeft_eq, Nat.pow_add]
      exact Nat.mul_lt_mul_of_pos_right ha (Nat.two_pow_pos n)
    · have : ∀ m, redN F.k F.g m 0 = 0 := by
        intro m
        induction m with
        | zero => rfl
        | succ m ih => rw [redN, rstep]; simp [ih]
      rw [this]
theorem it_low (hg : 2 ^ F.k ≤ F.g) : ∀ m, m < F.k → F.it m 1 = 2 ^ m
  | 0, _ => rfl
  | m + 1, h => by
    rw [Fd.it, it_low hg m (by omega), T_bin F hb, rstep, Nat.testBit_lt_two_pow]
    · simp [Nat.shiftLeft_eq, Nat.pow_succ]
    · rw [Nat.shiftLeft_eq, ← Nat.pow_add]
      exact Nat.pow_lt_pow_right (by omega) (by omega)
theorem fold_it (a b i : Nat) (hg : 2 ^ F.k ≤ F.g) (hai : a = F.it i 1) : ∀ n, n ≤ F.k → (List.range n).foldl (fun s m => s ^^^ (if b.testBit m then F.it m a else 0)) 0 = F.it i (b % 2 ^ n)
  | 0, _ => by simp [it_zero F hb, Nat.mod_one]
  | n + 1, h => by
    rw [List.range_succ, List.foldl_append, fold_it a b i hg hai n (by omega)]
    simp only [List.foldl_cons, List.foldl_nil]
    have e : b % 2 ^ (n + 1) = (b % 2 ^ n) ^^^ (if b.testBit n then 2 ^ n else 0) := by
      apply Nat.eq_of_testBit_eq
      intro j
      rw [Nat.testBit_xor, Nat.testBit_mod_two_pow, Nat.testBit_mod_two_pow]
      by_cases hj : j = n
      · subst hj
        cases b.testBit j <;> simp [Nat.testBit_two_pow_self]
      · have : (if b.testBit n then 2 ^ n else 0).testBit j = false := by
          split
          · rw [Nat.testBit_two_pow]; simp; omega
          · simp
        rw [this]
        have : decide (j < n + 1) = decide (j < n) := by
          by_cases h1 : j < n
          · simp [h1]; omega
          · simp [h1]; omega
        rw [this]; simp
    rw [e, it_xor F hb]
    congr 1
    split
    · rw [hai, ← it_low F hb hg n (by omega), ← F.it_add, ← F.it_add, Nat.add_comm]
    · rw [it_zero F hb]

/-- the reference's product -/
def Fd.mulB (F : Fd) (a b : Nat) : Nat := redN F.k F.g (F.k + 1) (clm a b F.k)
theorem mulB_pw (hg : 2 ^ F.k ≤ F.g) (i j : Nat) (hi : F.pw i < 2 ^ F.k) (hj : F.pw j < 2 ^ F.k) : F.mulB (F.pw i) (F.pw j) = F.pw (i + j) := by
  rw [Fd.mulB, redN_clm F hb _ _ hi, fold_it F hb _ _ i hg (F.pw_it i) _ (Nat.le_refl _), Nat.mod_eq_of_lt hj, F.pw_add]

omit hb
/-- the field's numbers are as they should be -/
structure Fd.Fit (F : Fd) : Prop where
  q3 : 3 ≤ F.q
  bin : F.bin = true → F.q = 2 ^ F.k ∧ 2 ^ F.k ≤ F.g ∧ F.g < 2 ^ (F.k + 1)
  num : F.bin = false → F.g < F.q
theorem Fd.T_lt {F : Fd} (h : F.Fit) {x : Nat} (hx : x < F.q) : F.T x < F.q := by
  cases hb : F.bin with
  | false =>
    simp only [Fd.T, hb]
    exact Nat.mod_lt _ (by have := h.q3; omega)
  | true =>
    obtain ⟨h1, h2, h3⟩ := h.bin hb
    rw [T_bin F hb, rstep, h1]
    rw [h1] at hx
    have h4 : x <<< 1 < 2 ^ (F.k + 1) := by rw [Nat.shiftLeft_eq, Nat.pow_succ]; omega
    split
    · rename_i hk
      simp only [Nat.sub_self, Nat.shiftLeft_zero]
      apply Nat.lt_pow_two_of_testBit
      intro i hi
      rw [Nat.testBit_xor]
      rcases Nat.eq_or_lt_of_le hi with rfl | hi
      · rw [hk, Nat.testBit_of_two_pow_le_and_two_pow_add_one_gt h2 h3]; rfl
      · rw [Nat.testBit_lt_two_pow (Nat.lt_of_lt_of_le h4 (Nat.pow_le_pow_right (by omega) hi)), Nat.testBit_lt_two_pow (Nat.lt_of_lt_of_le h3 (Nat.pow_le_pow_right (by omega) hi))]; rfl
    · rename_i hk
      apply Nat.lt_pow_two_of_testBit
      intro i hi
      rcases Nat.eq_or_lt_of_le hi with rfl | hi
      · simpa using hk
      · exact Nat.testBit_lt_two_pow (Nat.lt_of_lt_of_le h4 (Nat.pow_le_pow_right (by omega) hi))
theorem Fd.pw_lt {F : Fd} (h : F.Fit) : ∀ n, F.pw n < F.q
  | 0 => by have := h.q3; simp [Fd.pw]; omega
  | n + 1 => F.T_lt h (F.pw_lt h n)
/-- the powers of the generator run through all elements but 0 -/
def Fd.Runs (F : Fd) : Prop := (∀ n, n < F.q - 1 → F.pw n ≠ 0 ∧ (0 < n → F.pw n ≠ 1)) ∧ F.pw (F.q - 1) = 1
theorem Fd.pw_per {F : Fd} (hr : F.Runs) (n : Nat) : F.pw (n + (F.q - 1)) = F.pw n := by rw [F.pw_add, hr.2, ← F.pw_it]
theorem Fd.pw_mod {F : Fd} (hr : F.Runs) (h : F.Fit) (n : Nat) : F.pw (n % (F.q - 1)) = F.pw n := by
  have h3 := h.q3
  induction n using Nat.strongRecOn with
  | _ n ih =>
    by_cases hn : n < F.q - 1
    · rw [Nat.mod_eq_of_lt hn]
    · have e : n = (n - (F.q - 1)) + (F.q - 1) := by omega
      rw [e, Nat.add_mod_right, ih _ (by omega), F.pw_per hr]
theorem Fd.pw_ne {F : Fd} (hr : F.Runs) (h : F.Fit) (n : Nat) : F.pw n ≠ 0 := by
  rw [← F.pw_mod hr h]
  exact (hr.1 _ (Nat.mod_lt _ (by have := h.q3; omega))).1
theorem Fd.pw_inj {F : Fd} (hr : F.Runs) {i j : Nat} (hij : i < j) (hj : j < F.q - 1) : F.pw i ≠ F.pw j := by
  intro e
  have h1 : F.pw (F.q - 1 - i + i) = F.pw (F.q - 1 - i + j) := by rw [F.pw_add, F.pw_add, e]
  rw [show F.q - 1 - i + i = F.q - 1 by omega, hr.2, show F.q - 1 - i + j = (j - i) + (F.q - 1) by omega, F.pw_per hr] at h1
  exact (hr.1 (j - i) (by omega)).2 (by omega) h1.symm
theorem pigeon : ∀ (n : Nat) (f : Nat → Nat), (∀ i, i < n → f i < n) → (∀ i j, i < j → j < n → f i ≠ f j) → ∀ y, y < n → ∃ i, i < n ∧ f i = y
  | 0, _, _, _, y, hy => by omega
  | n + 1, f, hf, hi, y, hy => by
    -- g: f with the value n put in the place of f n
    by_cases hfn : f n = y
    · exact ⟨n, by omega, hfn⟩
    -- swap: values below n
    let s : Nat → Nat := fun x => if f x = n then f n else f x
    have hs : ∀ i, i < n → s i < n := by
      intro i hin
      have h1 := hf i (by omega)
      have h2 := hf n (by omega)
      have h3 := hi i n hin (by omega)
      show (if f i = n then f n else f i) < n
      split <;> omega
    have hsi : ∀ i j, i < j → j < n → s i ≠ s j := by
      intro i j hij hjn
      have h1 := hi i j hij (by omega)
      have h2 := hi i n (by omega) (by omega)
      have h3 := hi j n (by omega) (by omega)
      show (if f i = n then f n else f i) ≠ (if f j = n then f n else f j)
      split <;> split <;> omega
    by_cases hyn : y = n
    · subst hyn
      -- f n < y; find i with s i = f n
      have h2 := hf y (by omega)
      obtain ⟨i, h4, h5⟩ := pigeon y s hs hsi (f y) (by omega)
      refine ⟨i, by omega, ?_⟩
      have h6 := hi i y h4 (by omega)
      change (if f i = y then f y else f i) = f y at h5
      split at h5 <;> omega
    · obtain ⟨i, h4, h5⟩ := pigeon n s hs hsi y (by omega)
      refine ⟨i, by omega, ?_⟩
      change (if f i = n then f n else f i) = y at h5
      split at h5 <;> omega
/-- each element but 0 is a power of the generator -/
theorem Fd.log {F : Fd} (hr : F.Runs) (h : F.Fit) {x : Nat} (h0 : x ≠ 0) (hx : x < F.q) : ∃ i, i < F.q - 1 ∧ F.pw i = x := by
  obtain ⟨i, hi, e⟩ := pigeon (F.q - 1) (fun i => F.pw i - 1) (fun i hi => by have h1 := F.pw_lt h i; have h2 := F.pw_ne hr h i; have := h.q3; show F.pw i - 1 < _; omega)
    (fun i j hij hj e => by
      have h1 := F.pw_ne hr h i
      have h2 := F.pw_ne hr h j
      have h3 := F.pw_inj hr hij hj
      change F.pw i - 1 = F.pw j - 1 at e
      omega) (x - 1) (by omega)
  have h1 := F.pw_ne hr h i
  change F.pw i - 1 = x - 1 at e
  exact ⟨i, hi, by omega⟩

/-- the product -/
def Fd.mul (F : Fd) (a b : Nat) : Nat := if F.bin then F.mulB a b else a * b % F.q
def Fd.add (F : Fd) (a b : Nat) : Nat := if F.bin then a ^^^ b else (a + b) % F.q
def Fd.neg (F : Fd) (a : Nat) : Nat := if F.bin then a else (F.q - a) % F.q
theorem Fd.pw_num {F : Fd} (hb : F.bin = false) (h : F.Fit) : ∀ n, F.pw n = F.g ^ n % F.q
  | 0 => by rw [Fd.pw, Nat.pow_zero, Nat.mod_eq_of_lt]; have := h.q3; omega
  | n + 1 => by
    rw [Fd.pw, F.pw_num hb h n, Nat.pow_succ]
    simp only [Fd.T, hb]
    exact Nat.mod_mul_mod _ _ _
theorem Fd.mul_pw {F : Fd} (h : F.Fit) (i j : Nat) : F.mul (F.pw i) (F.pw j) = F.pw (i + j) := by
  unfold Fd.mul
  cases hb : F.bin with
  | false => simp only [Bool.false_eq_true, if_false]; rw [F.pw_num hb h, F.pw_num hb h, F.pw_num hb h, ← Nat.mul_mod, Nat.pow_add]
  | true =>
    simp only [if_true]
    obtain ⟨h1, h2, h3⟩ := h.bin hb
    exact mulB_pw F hb h2 i j (h1 ▸ F.pw_lt h i) (h1 ▸ F.pw_lt h j)
theorem redN_zero (k g : Nat) : ∀ m, redN k g m 0 = 0
  | 0 => rfl
  | m + 1 => by rw [redN, rstep]; simp [redN_zero k g m]
theorem clm_zero (b : Nat) : ∀ n, clm 0 b n = 0
  | 0 => rfl
  | n + 1 => by rw [clm, clm_zero b n]; simp
theorem clm_zero_right (a : Nat) : ∀ n, clm a 0 n = 0
  | 0 => rfl
  | n + 1 => by rw [clm, clm_zero_right a n]; simp
theorem Fd.mul_zero (F : Fd) (a : Nat) : F.mul a 0 = 0 := by
  unfold Fd.mul Fd.mulB
  split
  · rw [clm_zero_right, redN_zero]
  · simp
theorem Fd.zero_mul (F : Fd) (a : Nat) : F.mul 0 a = 0 := by
  unfold Fd.mul Fd.mulB
  split
  · rw [clm_zero, redN_zero]
  · simp
theorem Fd.mul_lt {F : Fd} (hr : F.Runs) (h : F.Fit) {a b : Nat} (ha : a < F.q) (hb : b < F.q) : F.mul a b < F.q := by
  by_cases h0 : a = 0
  · rw [h0, F.zero_mul]; have := h.q3; omega
  by_cases h1 : b = 0
  · rw [h1, F.mul_zero]; have := h.q3; omega
  obtain ⟨i, _, rfl⟩ := F.log hr h h0 ha
  obtain ⟨j, _, rfl⟩ := F.log hr h h1 hb
  rw [F.mul_pw h]
  exact F.pw_lt h _
theorem Fd.add_lt {F : Fd} (h : F.Fit) {a b : Nat} (ha : a < F.q) (hb : b < F.q) : F.add a b < F.q := by
  unfold Fd.add
  split
  · rename_i hbn
    rw [(h.bin hbn).1] at ha hb ⊢
    exact Nat.xor_lt_two_pow ha hb
  · exact Nat.mod_lt _ (by omega)
theorem Fd.neg_lt {F : Fd} {a : Nat} (ha : a < F.q) : F.neg a < F.q := by
  unfold Fd.neg
  split
  · exact ha
  · exact Nat.mod_lt _ (by omega)

end Go.Proofs.YtlcglclojlffgaaGreat
namespace Go.Proofs.YtlcglclojlffgaaGreat

/-- a matrix size -/
def msz (n : Int) : Bool := decide (17 ≤ n) && decide (n ≤ 41) && n % 4 == 1
theorem msz_cases {n : Int} (h : msz n = true) : n = 17 ∨ n = 21 ∨ n = 25 ∨ n = 29 ∨ n = 33 ∨ n = 37 ∨ n = 41 := by
  simp [msz] at h; omega
def absI (n : Int) : Int := if n < 0 then -n else n
/-- the greater distance -/
def dst (r c : Int) : Int := if absI r ≤ absI c then absI c else absI r
/-- the program's finder pattern round its middle -/
def findI (r c : Int) : Int := if dst r c = 2 ∨ dst r c = 4 then 0 else 1
def midI (n r : Int) : Int := if n / 2 < r then n - 4 else 3
def inF (n r c : Int) : Bool := (midI n r == 3 || midI n c == 3) && decide (dst (r - midI n r) (c - midI n c) ≤ 4)
/-- the program's fixed cells -/
def fixI (n r c : Int) : Int :=
  if inF n r c then findI (r - midI n r) (c - midI n c)
  else if r = 6 ∧ 8 ≤ c ∧ c ≤ n - 9 then 1 - c % 2
  else if c = 6 ∧ 8 ≤ r ∧ r ≤ n - 9 then 1 - r % 2
  else if r = n - 8 ∧ c = 8 then 1 else -1
/-- the reference's finder -/
def findS (r c : Int) : Int := if 4 < dst (r - 3) (c - 3) then -1 else if dst (r - 3) (c - 3) = 2 ∨ dst (r - 3) (c - 3) = 4 then 0 else 1
def fixS (n r c : Int) : Int :=
  if 0 ≤ findS r c then findS r c
  else if 0 ≤ findS r (c - (n - 7)) then findS r (c - (n - 7))
  else if 0 ≤ findS (r - (n - 7)) c then findS (r - (n - 7)) c
  else if r = 6 ∧ 8 ≤ c ∧ c ≤ n - 9 then 1 - c % 2
  else if c = 6 ∧ 8 ≤ r ∧ r ≤ n - 9 then 1 - r % 2
  else if r = n - 8 ∧ c = 8 then 1 else -1
theorem dst_le (r c k : Int) : dst r c ≤ k ↔ (-k ≤ r ∧ r ≤ k) ∧ (-k ≤ c ∧ c ≤ k) := by
  unfold dst absI; repeat' split
  all_goals omega
theorem findS_ge (r c : Int) : 0 ≤ findS r c ↔ (-1 ≤ r ∧ r ≤ 7) ∧ (-1 ≤ c ∧ c ≤ 7) := by
  have h := dst_le (r - 3) (c - 3) 4
  unfold findS
  split
  · omega
  · split <;> omega
theorem findS_val {r c : Int} (h : 0 ≤ findS r c) : findS r c = findI (r - 3) (c - 3) := by
  unfold findS at h ⊢
  unfold findI
  split
  · rename_i h1; rw [if_pos h1] at h; omega
  · rfl
theorem fix_eq {n r c : Int} (hn : 17 ≤ n) (hr : 0 ≤ r) (hr2 : r < n) (hc : 0 ≤ c) (hc2 : c < n) : fixI n r c = fixS n r c := by
  unfold fixI fixS
  have e1 := findS_ge r c
  have e2 := findS_ge r (c - (n - 7))
  have e3 := findS_ge (r - (n - 7)) c
  have hF : inF n r c = true ↔ (midI n r = 3 ∨ midI n c = 3) ∧ (-4 ≤ r - midI n r ∧ r - midI n r ≤ 4) ∧ (-4 ≤ c - midI n c ∧ c - midI n c ≤ 4) := by
    rw [inF, Bool.and_eq_true, Bool.or_eq_true, beq_iff_eq, beq_iff_eq, decide_eq_true_eq, dst_le]
  have m1 : midI n r = 3 ∧ r ≤ n / 2 ∨ midI n r = n - 4 ∧ n / 2 < r := by unfold midI; split <;> omega
  have m2 : midI n c = 3 ∧ c ≤ n / 2 ∨ midI n c = n - 4 ∧ n / 2 < c := by unfold midI; split <;> omega
  by_cases a1 : 0 ≤ findS r c
  · rw [if_pos a1, if_pos (hF.2 (by omega)), findS_val a1]
    have : midI n r = 3 := by omega
    have : midI n c = 3 := by omega
    simp only [*]
  · rw [if_neg a1]
    by_cases a2 : 0 ≤ findS r (c - (n - 7))
    · rw [if_pos a2, if_pos (hF.2 (by omega)), findS_val a2]
      have h1 : midI n r = 3 := by omega
      have h2 : midI n c = n - 4 := by omega
      rw [h1, h2]
      congr 1; omega
    · rw [if_neg a2]
      by_cases a3 : 0 ≤ findS (r - (n - 7)) c
      · rw [if_pos a3, if_pos (hF.2 (by omega)), findS_val a3]
        have h1 : midI n r = n - 4 := by omega
        have h2 : midI n c = 3 := by omega
        rw [h1, h2]
        congr 1; omega
      · rw [if_neg a3, if_neg (fun h => by have := hF.1 h; omega)]
theorem fixI_bd (n r c : Int) : -1 ≤ fixI n r c ∧ fixI n r c ≤ 1 := by
  unfold fixI findI
  repeat' split
  all_goals omega

/-- the places of the format -/
def fmtA : List (Int × Int) := [(8, 0), (8, 1), (8, 2), (8, 3), (8, 4), (8, 5), (8, 7), (8, 8), (7, 8), (5, 8), (4, 8), (3, 8), (2, 8), (1, 8), (0, 8)]
def fmtB (n : Int) : List (Int × Int) := [(n - 1, 8), (n - 2, 8), (n - 3, 8), (n - 4, 8), (n - 5, 8), (n - 6, 8), (n - 7, 8), (8, n - 8), (8, n - 7), (8, n - 6), (8, n - 5), (8, n - 4), (8, n - 3), (8, n - 2), (8, n - 1)]
/-- a place that is no data cell -/
def takenI (n r c : Int) : Bool := decide (0 ≤ fixI n r c) || (fmtA.contains (r, c)) || ((fmtB n).contains (r, c))
/-- the places of a pair of columns -/
def colI (n right : Int) (up : Bool) : List (Int × Int) :=
  ((List.range (2 * n.toNat)).map fun (k : Nat) => ((if up then n - 1 - (k : Int) / 2 else (k : Int) / 2), right - (k : Int) % 2)).filter fun p => !takenI n p.1 p.2
/-- the columns from the right on, in pairs -/
def rightsI : Nat → Int → List Int
  | 0, _ => []
  | f + 1, r => if 0 < r then (if r = 6 then 5 else r) :: rightsI f ((if r = 6 then 5 else r) - 2) else []
def placesF (n : Int) : List Int → Bool → List (Int × Int)
  | [], _ => []
  | r :: l, up => colI n r up ++ placesF n l (!up)
def placesI (n : Int) : List (Int × Int) := placesF n (rightsI n.toNat (n - 1)) true
/-- the reference's count of data cells -/
def cntS (n : Nat) : Int := -30 + (((List.range (n * n)).filter fun i => decide (fixS n (i / n : Nat) (i % n : Nat) < 0)).length : Int)

end Go.Proofs.YtlcglclojlffgaaGreat
namespace Go.Proofs.YtlcglclojlffgaaGreat

/-- the number of data cells -/
def dcnt (n : Int) : Nat := if n = 17 then 64 else if n = 21 then 208 else if n = 25 then 384 else if n = 29 then 592 else if n = 33 then 832 else if n = 37 then 1104 else 1408
set_option maxRecDepth 100000 in
theorem places_len {n : Int} (h : msz n = true) : (placesI n).length = dcnt n := by
  rcases msz_cases h with rfl | rfl | rfl | rfl | rfl | rfl | rfl <;> decide +kernel
set_option maxRecDepth 100000 in
theorem cntS_eq {n : Int} (h : msz n = true) : cntS n.toNat = dcnt n := by
  rcases msz_cases h with rfl | rfl | rfl | rfl | rfl | rfl | rfl <;> decide +kernel
theorem dcnt_bd (n : Int) : 64 ≤ dcnt n ∧ dcnt n ≤ 1408 := by unfold dcnt; repeat' split
                                                              all_goals omega

end Go.Proofs.YtlcglclojlffgaaGreat
namespace Go.Proofs.YtlcglclojlffgaaGreat

instance (F : Fd) : Decidable F.Runs := inferInstanceAs (Decidable (_ ∧ _))
/-- the binary field with a power and a polynomial -/
def bF (k g : Nat) : Fd := ⟨true, k, 2 ^ k, g⟩
/-- a valid binary field: prime, power, polynomial -/
def fldB (p k g : Int) : Bool := decide (p = 2) && decide (3 ≤ k) && decide (k ≤ 8) && decide (((2 ^ k.toNat : Nat) : Int) ≤ g) && decide (g < ((2 * 2 ^ k.toNat : Nat) : Int)) && decide (bF k.toNat g.toNat).Runs
structure FldOk (p k g : Int) (F : Fd) : Prop where
  p : p = 2
  k : k = F.k
  g : g = F.g
  k3 : 3 ≤ F.k
  k8 : F.k ≤ 8
  self : F = bF F.k F.g
  fit : F.Fit
  runs : F.Runs
theorem fldB_ok {p k g : Int} (h : fldB p k g = true) : FldOk p k g (bF k.toNat g.toNat) := by
  simp only [fldB, Bool.and_eq_true, decide_eq_true_eq] at h
  obtain ⟨⟨⟨⟨⟨h1, h2⟩, h3⟩, h4⟩, h5⟩, h6⟩ := h
  have hp : 1 ≤ 2 ^ k.toNat := Nat.one_le_two_pow
  have h8 : 2 ^ 3 ≤ 2 ^ k.toNat := Nat.pow_le_pow_right (by omega) (by omega)
  refine ⟨h1, ?_, ?_, ?_, ?_, rfl, ⟨?_, ?_, ?_⟩, h6⟩
  · show k = (k.toNat : Int); omega
  · show g = (g.toNat : Int); omega
  · show 3 ≤ k.toNat; omega
  · show k.toNat ≤ 8; omega
  · show 3 ≤ 2 ^ k.toNat; omega
  · intro _
    refine ⟨rfl, ?_, ?_⟩
    · show 2 ^ k.toNat ≤ g.toNat; omega
    · show g.toNat < 2 ^ (k.toNat + 1); rw [Nat.pow_succ]; omega
  · intro h; cases h
theorem FldOk.q {p k g : Int} {F : Fd} (h : FldOk p k g F) : F.q = 2 ^ F.k := by rw [h.self]; rfl
theorem FldOk.bin {p k g : Int} {F : Fd} (h : FldOk p k g F) : F.bin = true := by rw [h.self]; rfl
theorem FldOk.q_bd {p k g : Int} {F : Fd} (h : FldOk p k g F) : 8 ≤ F.q ∧ F.q ≤ 256 := by
  rw [h.q]
  exact ⟨Nat.pow_le_pow_right (n := 2) (by omega) h.k3, Nat.pow_le_pow_right (n := 2) (by omega) h.k8⟩
/-- a list that rises within bounds -/
def risB (lo hi : Int) (l : List Int) : Bool := decide (∀ i, i < l.length → (lo ≤ l.getD i 0 ∧ l.getD i 0 ≤ hi) ∧ (0 < i → l.getD (i - 1) 0 < l.getD i 0))
def nameB (s : List UInt8) : Bool := (s.all fun c => decide (97 ≤ c.toNat) && decide (c.toNat ≤ 122)) && decide (1 ≤ s.length) && decide (s.length ≤ 8)
/-- a family in numbers -/
structure Fam where
  name : ByteArray
  kind : Int
  fp : Int
  fk : Int
  fg : Int
  sizes : List Int
  cols : Int
  levels : List Int
def Fam.ok (f : Fam) : Bool := nameB f.name.data.toList && decide (1 ≤ f.levels.length) && decide (f.levels.length ≤ 4) && risB 1 80 f.levels && decide (1 ≤ f.sizes.length) && decide (f.sizes.length ≤ 8) &&
  if f.kind = 1 then f.sizes.all msz && fldB f.fp f.fk f.fg && decide (f.cols = 0) && risB 17 41 f.sizes
  else if f.kind = 2 then decide (f.fp = 2) && decide (f.fk = 5) && decide (f.fg = 37) && decide (1 ≤ f.cols) && decide (f.cols ≤ 8) && risB 3 24 f.sizes else false

end Go.Proofs.YtlcglclojlffgaaGreat
namespace Go.Proofs.YtlcglclojlffgaaGreat

/-- the reference's power: squares and products -/
def powS (F : Fd) : Nat → Nat → Nat → Nat → Nat
  | 0, _, _, out => out
  | f + 1, a, n, out => if n = 0 then out else powS F f (F.mul a a) (n / 2) (if n % 2 = 1 then F.mul out a else out)
theorem powS_pw {F : Fd} (h : F.Fit) : ∀ (f i n o : Nat), n < 2 ^ f → powS F f (F.pw i) n (F.pw o) = F.pw (o + i * n)
  | 0, i, n, o, hn => by
    obtain rfl : n = 0 := by simp at hn; omega
    rfl
  | f + 1, i, n, o, hn => by
    rw [powS]
    by_cases h0 : n = 0
    · subst h0; rw [if_pos rfl]; rfl
    · rw [if_neg h0, F.mul_pw h]
      have h2 : n / 2 < 2 ^ f := by rw [Nat.pow_succ] at hn; omega
      by_cases h1 : n % 2 = 1
      · rw [if_pos h1, F.mul_pw h, powS_pw h f _ _ _ h2]
        congr 1
        have e : n = 2 * (n / 2) + 1 := by omega
        generalize n / 2 = m at e
        subst e
        rw [Nat.add_mul, Nat.mul_add, Nat.mul_one, Nat.two_mul, Nat.mul_add]
        omega
      · rw [if_neg h1, powS_pw h f _ _ _ h2]
        congr 1
        have e : n = 2 * (n / 2) := by omega
        generalize n / 2 = m at e
        subst e
        rw [Nat.add_mul, Nat.two_mul, Nat.mul_add]
/-- the inverse, as the program finds it: by the logarithm -/
def Fd.IsInv (F : Fd) (a b : Nat) : Prop := ∃ i, i < F.q - 1 ∧ F.pw i = a ∧ b = F.pw ((F.q - 1 - i) % (F.q - 1))
theorem Fd.inv_pow {F : Fd} (hr : F.Runs) (h : F.Fit) {a b : Nat} (hb : F.IsInv a b) (f : Nat) (hf : F.q - 2 < 2 ^ f) : powS F f a (F.q - 2) 1 = b := by
  obtain ⟨i, hi, rfl, rfl⟩ := hb
  have h0 := powS_pw h f i (F.q - 2) 0 hf
  rw [show F.pw 0 = 1 from rfl, Nat.zero_add] at h0
  rw [h0, F.pw_mod hr h]
  have h3 := h.q3
  -- i (q-2) + i = i (q-1), and q-1-i + i = q-1
  have e1 : F.pw (i * (F.q - 2) + i) = 1 := by
    rw [show i * (F.q - 2) + i = i * (F.q - 1) by rw [← Nat.mul_succ]; congr 1; omega, ← F.pw_mod hr h, Nat.mul_mod_left]; rfl
  have e2 : F.pw ((F.q - 1 - i) + i) = 1 := by rw [show F.q - 1 - i + i = F.q - 1 by omega, hr.2]
  -- both are the powers at one remainder
  rw [← F.pw_mod hr h (i * (F.q - 2)), ← F.pw_mod hr h (F.q - 1 - i)]
  congr 1
  have hm : ∀ x, F.pw (x + i) = 1 → x % (F.q - 1) = (F.q - 1 - i) % (F.q - 1) := by
    intro x hx
    rw [← F.pw_mod hr h] at hx
    have hz : (x + i) % (F.q - 1) = 0 := by
      rcases Nat.eq_zero_or_pos ((x + i) % (F.q - 1)) with h0 | h0
      · exact h0
      · exact absurd hx ((hr.1 _ (Nat.mod_lt _ (by omega))).2 h0)
    have h5 : (F.q - 1 - i + i) % (F.q - 1) = 0 := by rw [show F.q - 1 - i + i = F.q - 1 by omega, Nat.mod_self]
    obtain ⟨u, hu⟩ := Nat.dvd_of_mod_eq_zero hz
    have hxu : x + i = (F.q - 1) * u := hu
    rcases u with - | u
    · have : x = 0 := by omega
      have : i = 0 := by omega
      subst_vars
      simp
    · have e : x = (F.q - 1 - i) + (F.q - 1) * u := by rw [Nat.mul_succ] at hxu; omega
      rw [e, Nat.add_mul_mod_self_left]
  exact hm _ e1

end Go.Proofs.YtlcglclojlffgaaGreat
namespace Go.Proofs.YtlcglclojlffgaaGreat

/-- a coefficient, 0 beyond the end -/
def co (l : List Nat) (i : Nat) : Nat := l.getD i 0
theorem co_set (l : List Nat) (i j x : Nat) (hi : i < l.length) : co (l.set i x) j = if i = j then x else co l j := by
  unfold co
  rw [List.getD_eq_getElem?_getD, List.getD_eq_getElem?_getD, List.getElem?_set]
  by_cases h : i = j
  · subst h; simp [hi]
  · simp [h]
theorem co_some {l : List Nat} {i x : Nat} (h : l[i]? = some x) : co l i = x := by rw [co, List.getD_eq_getElem?_getD, h]; rfl
/-- all coefficients are elements -/
def AllE (F : Fd) (l : List Nat) : Prop := ∀ x ∈ l, x < F.q
theorem AllE.co {F : Fd} (h3 : 3 ≤ F.q) {l : List Nat} (h : AllE F l) (i : Nat) : co l i < F.q := by
  unfold Go.Proofs.YtlcglclojlffgaaGreat.co
  rw [List.getD_eq_getElem?_getD]
  cases hx : l[i]? with
  | none => show 0 < _; omega
  | some x => exact h x (List.mem_of_getElem? hx)
theorem AllE.set {F : Fd} {l : List Nat} (h : AllE F l) {i x : Nat} (hx : x < F.q) : AllE F (l.set i x) := fun y hy => by
  rcases List.mem_or_eq_of_mem_set hy with h1 | rfl
  · exact h y h1
  · exact hx
theorem AllE.take {F : Fd} {l : List Nat} (h : AllE F l) (k : Nat) : AllE F (l.take k) := fun y hy => h y (List.mem_of_mem_take hy)
theorem AllE.rep {F : Fd} (h3 : 3 ≤ F.q) (n : Nat) : AllE F (List.replicate n 0) := fun y hy => by
  rw [List.eq_of_mem_replicate hy]; omega

/-- zeros at the end removed: how many coefficients stay -/
def trimK (l : List Nat) : Nat → Nat
  | 0 => 0
  | n + 1 => if co l n = 0 then trimK l n else n + 1
def trimN (l : List Nat) : List Nat := l.take (trimK l l.length)
theorem trimK_le (l : List Nat) : ∀ n, trimK l n ≤ n
  | 0 => Nat.le_refl _
  | n + 1 => by
    rw [trimK]
    split
    · exact Nat.le_succ_of_le (trimK_le l n)
    · exact Nat.le_refl _
theorem trimN_len (l : List Nat) : (trimN l).length = trimK l l.length := by
  rw [trimN, List.length_take, Nat.min_eq_left (trimK_le _ _)]
theorem trimN_le (l : List Nat) : (trimN l).length ≤ l.length := by rw [trimN_len]; exact trimK_le _ _

/-- the first k products of a row, added -/
def rowAdd (F : Fd) (out : List Nat) (i x : Nat) (q : List Nat) : Nat → List Nat
  | 0 => out
  | k + 1 => (rowAdd F out i x q k).set (i + k) (F.add (co (rowAdd F out i x q k) (i + k)) (F.mul x (co q k)))
theorem rowAdd_len (F : Fd) (out : List Nat) (i x : Nat) (q : List Nat) : ∀ k, (rowAdd F out i x q k).length = out.length
  | 0 => rfl
  | k + 1 => by rw [rowAdd, List.length_set, rowAdd_len F out i x q k]
theorem rowAdd_all {F : Fd} (hr : F.Runs) (h : F.Fit) {out q : List Nat} {i x : Nat} (ho : AllE F out) (hq : AllE F q) (hx : x < F.q) : ∀ k, AllE F (rowAdd F out i x q k)
  | 0 => ho
  | k + 1 => (rowAdd_all hr h ho hq hx k).set (F.add_lt h ((rowAdd_all hr h ho hq hx k).co h.q3 _) (F.mul_lt hr h hx (hq.co h.q3 _)))
theorem rowAdd_co {F : Fd} {out q : List Nat} {i x : Nat} (j : Nat) : ∀ k, i + k ≤ j → co (rowAdd F out i x q k) j = co out j
  | 0, _ => rfl
  | k + 1, hj => by
    rw [rowAdd]
    by_cases hl : i + k < (rowAdd F out i x q k).length
    · rw [co_set _ _ _ _ hl, if_neg (by omega), rowAdd_co j k (by omega)]
    · rw [List.set_eq_of_length_le (by omega), rowAdd_co j k (by omega)]
/-- the first i rows of a product -/
def mulTo (F : Fd) (p q : List Nat) : Nat → List Nat
  | 0 => List.replicate (p.length + q.length - 1) 0
  | i + 1 => rowAdd F (mulTo F p q i) i (co p i) q q.length
theorem mulTo_len (F : Fd) (p q : List Nat) : ∀ i, (mulTo F p q i).length = p.length + q.length - 1
  | 0 => List.length_replicate
  | i + 1 => by rw [mulTo, rowAdd_len, mulTo_len F p q i]
theorem mulTo_all {F : Fd} (hr : F.Runs) (h : F.Fit) {p q : List Nat} (hp : AllE F p) (hq : AllE F q) : ∀ i, AllE F (mulTo F p q i)
  | 0 => AllE.rep h.q3 _
  | i + 1 => rowAdd_all hr h (mulTo_all hr h hp hq i) hq (hp.co h.q3 i) _
/-- the product of polynomials -/
def pMul (F : Fd) (p q : List Nat) : List Nat := if p.length = 0 ∨ q.length = 0 then [] else trimN (mulTo F p q p.length)
theorem pMul_all {F : Fd} (hr : F.Runs) (h : F.Fit) {p q : List Nat} (hp : AllE F p) (hq : AllE F q) : AllE F (pMul F p q) := by
  unfold pMul
  split
  · intro x hx; cases hx
  · exact (mulTo_all hr h hp hq _).take _
theorem mulTo_co {F : Fd} {p q : List Nat} (j : Nat) : ∀ i, i + q.length ≤ j + 1 → co (mulTo F p q i) j = 0
  | 0, _ => by
    unfold mulTo co
    rw [List.getD_eq_getElem?_getD, List.getElem?_replicate]
    split <;> rfl
  | i + 1, h => by rw [mulTo, rowAdd_co j _ (by omega), mulTo_co j i (by omega)]
theorem Fd.add_zero_left {F : Fd} {a : Nat} (ha : a < F.q) : F.add 0 a = a := by
  unfold Fd.add
  split
  · simp
  · rw [Nat.zero_add, Nat.mod_eq_of_lt ha]
theorem Fd.add_zero_right {F : Fd} {a : Nat} (ha : a < F.q) : F.add a 0 = a := by
  unfold Fd.add
  split
  · simp
  · rw [Nat.add_zero, Nat.mod_eq_of_lt ha]
theorem Fd.neg_zero (F : Fd) : F.neg 0 = 0 := by
  unfold Fd.neg
  split
  · rfl
  · simp
theorem Fd.one_mul {F : Fd} (hr : F.Runs) (h : F.Fit) {a : Nat} (ha : a < F.q) : F.mul 1 a = a ∧ F.mul a 1 = a := by
  by_cases h0 : a = 0
  · subst h0; exact ⟨F.mul_zero _, F.zero_mul _⟩
  · obtain ⟨i, _, rfl⟩ := F.log hr h h0 ha
    have h1 : (1 : Nat) = F.pw 0 := rfl
    constructor
    · have := F.mul_pw h 0 i
      rw [Nat.zero_add] at this; exact this
    · exact F.mul_pw h i 0
/-- the last coefficient of a product of polynomials whose last coefficients are 1 is 1 -/
theorem pMul_top {F : Fd} (hr : F.Runs) (h : F.Fit) {p q : List Nat} (n m : Nat) (hp : p.length = n + 1) (hq : q.length = m + 1) (h1 : co p n = 1) (h2 : co q m = 1) :
    (pMul F p q).length = n + m + 1 ∧ co (pMul F p q) (n + m) = 1 := by
  have hlen := mulTo_len F p q (n + 1)
  have h3 := h.q3
  have hc : co (mulTo F p q (n + 1)) (n + m) = 1 := by
    rw [mulTo, hq, rowAdd]
    have hl := rowAdd_len F (mulTo F p q n) n (co p n) q m
    rw [mulTo_len] at hl
    rw [co_set _ _ _ _ (by omega), if_pos rfl, rowAdd_co _ _ (Nat.le_refl _), mulTo_co _ _ (by omega), h1, h2, (F.one_mul hr h (by omega)).1, F.add_zero_left (by omega)]
  have hk : trimK (mulTo F p q (n + 1)) (n + m + 1) = n + m + 1 := by
    rw [trimK, if_neg (by omega)]
  have he : pMul F p q = (mulTo F p q (n + 1)).take (n + m + 1) := by
    unfold pMul
    rw [if_neg (by omega), hp, trimN, hlen, show p.length + q.length - 1 = n + m + 1 by omega, hk]
  have hl2 : (mulTo F p q (n + 1)).length = n + m + 1 := by omega
  rw [he, List.take_of_length_le (by omega)]
  exact ⟨hl2, hc⟩
/-- the generator polynomial with j roots -/
def genP (F : Fd) : Nat → List Nat
  | 0 => [1]
  | j + 1 => pMul F (genP F j) [F.neg (F.pw (j + 1)), 1]
theorem genP_all {F : Fd} (hr : F.Runs) (h : F.Fit) : ∀ j, AllE F (genP F j)
  | 0 => fun x hx => by have := h.q3; simp [genP] at hx; omega
  | j + 1 => pMul_all hr h (genP_all hr h j) (fun x hx => by
      have := h.q3
      have := F.neg_lt (F.pw_lt h (j + 1))
      simp only [List.mem_cons, List.not_mem_nil, or_false] at hx
      omega)
theorem genP_top {F : Fd} (hr : F.Runs) (h : F.Fit) : ∀ j, (genP F j).length = j + 1 ∧ co (genP F j) j = 1
  | 0 => ⟨rfl, rfl⟩
  | j + 1 => by
    obtain ⟨h1, h2⟩ := genP_top hr h j
    exact pMul_top hr h j 1 h1 rfl h2 rfl

/-- the first i subtractions of a row -/
def rowSub (F : Fd) (rest : List Nat) (k x : Nat) (q : List Nat) : Nat → List Nat
  | 0 => rest
  | i + 1 => (rowSub F rest k x q i).set (k + i) (F.add (co (rowSub F rest k x q i) (k + i)) (F.neg (F.mul x (co q i))))
theorem rowSub_len (F : Fd) (rest : List Nat) (k x : Nat) (q : List Nat) : ∀ i, (rowSub F rest k x q i).length = rest.length
  | 0 => rfl
  | i + 1 => by rw [rowSub, List.length_set, rowSub_len F rest k x q i]
theorem rowSub_all {F : Fd} (hr : F.Runs) (h : F.Fit) {rest q : List Nat} {k x : Nat} (ho : AllE F rest) (hq : AllE F q) (hx : x < F.q) : ∀ i, AllE F (rowSub F rest k x q i)
  | 0 => ho
  | i + 1 => (rowSub_all hr h ho hq hx i).set (F.add_lt h ((rowSub_all hr h ho hq hx i).co h.q3 _) (F.neg_lt (F.mul_lt hr h hx (hq.co h.q3 _))))
/-- a row of nothing changes nothing -/
theorem rowSub_zero {F : Fd} (h3 : 3 ≤ F.q) {rest q : List Nat} {k : Nat} (ho : AllE F rest) : ∀ i, rowSub F rest k 0 q i = rest
  | 0 => rfl
  | i + 1 => by
    rw [rowSub, rowSub_zero h3 ho i, F.zero_mul, F.neg_zero, F.add_zero_right (ho.co h3 _)]
    apply List.ext_getElem?
    intro j
    rw [List.getElem?_set]
    split
    · rename_i e; subst e
      split
      · rename_i hl
        rw [co, List.getD_eq_getElem?_getD, List.getElem?_eq_getElem hl]; rfl
      · rename_i hl
        rw [List.getElem?_eq_none (by omega)]
    · rfl
/-- what is left when the j coefficients from n - 1 down of the quotient are found -/
def divTo (F : Fd) (p q : List Nat) (lead n : Nat) : Nat → List Nat
  | 0 => p
  | j + 1 => rowSub F (divTo F p q lead n j) (n - 1 - j) (F.mul (co (divTo F p q lead n j) (n - 1 - j + q.length - 1)) lead) q q.length
theorem divTo_len (F : Fd) (p q : List Nat) (lead n : Nat) : ∀ j, (divTo F p q lead n j).length = p.length
  | 0 => rfl
  | j + 1 => by rw [divTo, rowSub_len, divTo_len F p q lead n j]
theorem divTo_all {F : Fd} (hr : F.Runs) (h : F.Fit) {p q : List Nat} {lead n : Nat} (hp : AllE F p) (hq : AllE F q) (hl : lead < F.q) : ∀ j, AllE F (divTo F p q lead n j)
  | 0 => hp
  | j + 1 => rowSub_all hr h (divTo_all hr h hp hq hl j) hq (F.mul_lt hr h ((divTo_all hr h hp hq hl j).co h.q3 _) hl) _
/-- the remainder -/
def pRem (F : Fd) (p q : List Nat) (lead : Nat) : List Nat := if p.length < q.length then p else trimN (divTo F p q lead (p.length - q.length + 1) (p.length - q.length + 1))
theorem pRem_all {F : Fd} (hr : F.Runs) (h : F.Fit) {p q : List Nat} {lead : Nat} (hp : AllE F p) (hq : AllE F q) (hl : lead < F.q) : AllE F (pRem F p q lead) := by
  unfold pRem
  split
  · exact hp
  · exact (divTo_all hr h hp hq hl _).take _
theorem pRem_le {F : Fd} {p q : List Nat} {lead : Nat} : (pRem F p q lead).length ≤ p.length := by
  unfold pRem
  split
  · exact Nat.le_refl _
  · exact Nat.le_trans (trimN_le _) (Nat.le_of_eq (divTo_len ..))
/-- the j checks of a word, from the last coefficient down -/
def chkTo (F : Fd) (rest : List Nat) (n : Nat) : Nat → List Nat
  | 0 => []
  | j + 1 => chkTo F rest n j ++ [F.neg (co rest (n - 1 - j))]
theorem chkTo_len (F : Fd) (rest : List Nat) (n : Nat) : ∀ j, (chkTo F rest n j).length = j
  | 0 => rfl
  | j + 1 => by rw [chkTo, List.length_append, chkTo_len F rest n j]; rfl
/-- the code word with a message: len elements, n of them checks -/
def encW (F : Fd) (len n : Nat) (m : List Nat) : List Nat := m ++ chkTo F (pRem F (trimN (m.reverse |> fun r => List.replicate (len - m.length) 0 ++ r)) (genP F n) 1) n n

end Go.Proofs.YtlcglclojlffgaaGreat
namespace Go.Proofs.YtlcglclojlffgaaGreat
open Go.RowKit

/-! A REGION THAT DRAWS ITS ORDER, each operation by what it leaves: whatever the order, what each operation has left stands at the end, if nothing that comes in between does away with it. -/

/-- how many are not listed -/
def unl : List Bool → Nat
  | [] => 0
  | b :: r => (if b then 0 else 1) + unl r
theorem unl_set : ∀ (l : List Bool) (i : Nat), l[i]? = some false → unl (l.set i true) + 1 = unl l
  | [], i, h => by simp at h
  | b :: r, 0, h => by simp at h; subst h; simp [unl]; omega
  | b :: r, i + 1, h => by
    have := unl_set r i (by simpa using h)
    simp only [List.set_cons_succ, unl]
    omega
theorem unl_zero : ∀ (l : List Bool), unl l = 0 → ∀ i, l.getD i true = true
  | [], _, i => by simp
  | b :: r, h, i => by
    simp only [unl] at h
    cases b with
    | false => simp at h
    | true =>
      cases i with
      | zero => simp
      | succ i => simpa using unl_zero r (by simpa using h) i
theorem unl_replicate (n : Nat) : unl (List.replicate n false) = n := by
  induction n with
  | zero => rfl
  | succ n ih => simp [List.replicate_succ, unl, ih]; omega

/-- the frame with the values us in the slots ds -/
def over (a : Act) (ds : List Nat) (us : Nat → Value) : Act := { a with tmps := a.tmps.mapIdx fun t v => if ds.contains t then us t else v }
/-- one value more -/
def upd (us : Nat → Value) (d : Option Nat) (v : Value) : Nat → Value :=
  match d with
  | some d => fun t => if t = d then v else us t
  | none => us
theorem upd_ne {us : Nat → Value} {d : Option Nat} {v : Value} {t : Nat} (h : d ≠ some t) : upd us d v t = us t := by
  cases d with
  | none => rfl
  | some d => simp only [upd]; rw [if_neg (fun e => h (by rw [e]))]

theorem over_put {a : Act} {ds : List Nat} {us : Nat → Value} {d : Option Nat} {v : Value} (h : ∀ t, d = some t → ds.contains t = true) : (over a ds us).put d v = over a ds (upd us d v) := by
  cases d with
  | none => rfl
  | some t =>
    have ht := h t rfl
    simp only [Act.put, over]
    congr 1
    apply Array.ext_getElem?
    intro i
    rw [Array.getElem?_setIfInBounds]
    simp only [Array.getElem?_mapIdx, Array.size_mapIdx]
    by_cases e : t = i
    · subst e
      simp only [if_true]
      by_cases hb : t < a.tmps.size
      · simp only [hb, if_true, Array.getElem?_eq_getElem hb, Option.map_some, ht, upd]
      · simp only [hb, if_false, Array.getElem?_eq_none (Nat.le_of_not_lt hb), Option.map_none]
    · simp only [e, if_false, upd, show ¬ i = t from fun h => e h.symm]

/-- what the tape may not do: the operations' edges, looked at once -/
def rgOk (ops : Array Oper) (m : Nat) (ds : List Nat) (sup : Nat → List Nat) : Bool :=
  (List.range ops.size).all fun j => match ops[j]? with
    | none => true
    | some o =>
      -- the slots written by the head lie in ds; what is said of an operation speaks of its own slot and of those that it waits for
      (decide (m ≤ j) || ((match o.dst with | some d => ds.contains d | none => true) &&
        (sup j).all fun t => (List.range ops.size).all fun i => match ops[i]? with
          | none => true
          | some oi => oi.dst != some t || i == j || o.after.any fun e => Region.binds .any e && e.on == i)) &&
      -- each of the tail waits for all before it, and none waits for a later one
      (decide (j < m) || (List.range j).all (fun i => o.after.any fun e => Region.binds .any e && e.on == i)) && o.after.all fun e => !Region.binds .any e || decide (e.on < j)

variable {P : Program} {ops : Array Oper} {Q : Exit → Act → World → Prop}

theorem getD_toList (l : Array Bool) (i : Nat) (d : Bool) : l.getD i d = l.toList.getD i d := by simp [Array.getD_eq_getD_getElem?, List.getD_eq_getElem?_getD]

/-- the tail, in its one order -/
theorem wpAny_tail {m : Nat} {ds : List Nat} {sup : Nat → List Nat} (hB : rgOk ops m ds sup = true) : ∀ (r k : Nat) (listed : Array Bool) (a : Act) (w : World), m ≤ k → k + r = ops.size →
    (∀ j, j < ops.size → listed.getD j true = decide (j < k)) → listed.size = ops.size → ∀ fuel, r ≤ fuel → wpOps P ops Q (List.range' k r) a w → wpAny P .any ops Q fuel listed a w
  | 0, k, listed, a, w, hm, hk, hl, hs, fuel, hf, h => by
    have hr : Region.ready .any ops listed = [] := by
      rw [List.eq_nil_iff_forall_not_mem]
      intro j hj
      obtain ⟨h1, o, ho, _⟩ := mem_ready.1 hj
      have hlt : j < ops.size := (Array.getElem?_eq_some_iff.1 ho).1
      rw [hl j hlt] at h1
      simp at h1; omega
    have hq : Q .normal a w := h
    cases fuel with
    | zero => exact ⟨hr, hq⟩
    | succ f => exact ⟨fun _ => hq, fun i hi => by rw [hr] at hi; cases hi⟩
  | r + 1, k, listed, a, w, hm, hk, hl, hs, fuel, hf, h => by
    have hkn : k < ops.size := by omega
    have hready : ∀ j ∈ Region.ready .any ops listed, j = k := by
      intro j hj
      obtain ⟨h1, o, ho, hdep⟩ := mem_ready.1 hj
      have hlt : j < ops.size := (Array.getElem?_eq_some_iff.1 ho).1
      rw [hl j hlt] at h1
      have hjk : k ≤ j := by simpa using h1
      rcases Nat.lt_or_ge k j with hlt' | hge
      · exfalso
        have hb := List.all_eq_true.1 hB j (List.mem_range.2 hlt)
        simp only [ho, Bool.and_eq_true, Bool.or_eq_true, decide_eq_true_eq] at hb
        rcases hb.1.2 with hb2 | hb2
        · omega
        · have := List.all_eq_true.1 hb2 k (List.mem_range.2 hlt')
          obtain ⟨e, he, hee⟩ := Array.any_eq_true'.1 this
          simp only [Bool.and_eq_true, beq_iff_eq] at hee
          have hd := hdep e he hee.1
          rw [hee.2] at hd
          have := hl k hkn
          rw [getD_toList] at this hd
          rw [List.getD_eq_getElem?_getD] at this hd
          cases hx : listed.toList[k]? with
          | none => rw [hx] at hd; simp at hd
          | some b => rw [hx] at this hd; simp at this hd; rw [this] at hd; cases hd
      · omega
    cases fuel with
    | zero => omega
    | succ f =>
      refine ⟨fun h0 => ?_, fun i hi => ?_⟩
      · exfalso
        obtain ⟨o, ho⟩ : ∃ o, ops[k]? = some o := ⟨ops[k], Array.getElem?_eq_getElem hkn⟩
        have : k ∈ Region.ready .any ops listed := by
          refine mem_ready.2 ⟨?_, o, ho, ?_⟩
          · rw [hl k hkn]; simp
          · intro e he hbind
            have hb := List.all_eq_true.1 hB k (List.mem_range.2 hkn)
            simp only [ho, Bool.and_eq_true, Bool.or_eq_true, decide_eq_true_eq] at hb
            · have h2 := Array.all_eq_true'.1 hb.2 e he
              simp only [hbind, Bool.not_true, Bool.or_eq_true, Bool.false_eq_true, false_or, decide_eq_true_eq] at h2
              have := hl e.on (by omega)
              rw [getD_toList, List.getD_eq_getElem?_getD] at this ⊢
              cases hx : listed.toList[e.on]? with
              | none =>
                have := List.getElem?_eq_none_iff.1 hx
                simp [hs] at this; omega
              | some b => rw [hx] at this; simp at this; simp [this]; exact h2
        rw [h0] at this; cases this
      · obtain rfl := hready i hi
        rw [List.range'_succ, wpOps_cons] at h
        refine wpOp_mono (fun a' w' h' => ?_) h
        refine wpAny_tail hB r (i + 1) _ a' w' (by omega) (by omega) ?_ (by simpa using hs) f (by omega) h'
        intro j hj
        by_cases e : i = j
        · subst e
          rw [getD_toList, Array.toList_setIfInBounds, List.getD_eq_getElem?_getD, List.getElem?_set]
          simp [hs, hj]
        · rw [getD_toList, Array.toList_setIfInBounds, List.getD_eq_getElem?_getD, List.getElem?_set, if_neg e, ← List.getD_eq_getElem?_getD, ← getD_toList, hl j hj]
          simp; omega


/-- what stands while the head is under way -/
structure Under (ops : Array Oper) (m : Nat) (a0 : Act) (ds : List Nat) (G : Nat → (Nat → Value) → World → Prop) (St : World → Prop) (listed : Array Bool) (a : Act) (w : World) : Prop where
  size : listed.size = ops.size
  tail : ∀ j, m ≤ j → j < ops.size → listed.getD j true = false
  closed : ∀ j o, ops[j]? = some o → listed.getD j false = true → ∀ e ∈ o.after, Region.binds .any e = true → listed.getD e.on false = true
  st : St w
  left : ∃ us, a = over a0 ds us ∧ ∀ j, j < m → listed.getD j false = true → G j us w

theorem getD_set_true {listed : Array Bool} {i j : Nat} (h : listed.getD j false = true) : (listed.setIfInBounds i true).getD j false = true := by
  rw [getD_toList, Array.toList_setIfInBounds, List.getD_eq_getElem?_getD, List.getElem?_set]
  rw [getD_toList, List.getD_eq_getElem?_getD] at h
  by_cases e : i = j
  · subst e
    cases hx : listed.toList[i]? with
    | none => rw [hx] at h; simp at h
    | some b =>
      have h3 := (List.getElem?_eq_some_iff.1 hx).1
      rw [if_pos rfl, if_pos h3]; rfl
  · rw [if_neg e]; exact h
theorem getD_set_other {listed : Array Bool} {i j : Nat} {d : Bool} (e : i ≠ j) : (listed.setIfInBounds i true).getD j d = listed.getD j d := by
  rw [getD_toList, Array.toList_setIfInBounds, List.getD_eq_getElem?_getD, List.getElem?_set, if_neg e, ← List.getD_eq_getElem?_getD, ← getD_toList]

/-- what one operation of the head owes: IN EVERY FRAME AND WORLD in which what it waits for stands, it leaves what is said of it, and does away with nothing -/
def Owes (P : Program) (ops : Array Oper) (Q : Exit → Act → World → Prop) (a0 : Act) (ds : List Nat) (G : Nat → (Nat → Value) → World → Prop) (St : World → Prop) (Keep : World → World → Prop) (i : Nat) (o : Oper) : Prop :=
  ∀ (us : Nat → Value) (w : World), St w → (∀ e ∈ o.after, Region.binds .any e = true → G e.on us w) →
    if Region.wanted o (yielded ops (over a0 ds us).tmps) then o.wp P (over a0 ds us) w (fun a' w' => ∃ v, a' = (over a0 ds us).put o.dst v ∧ St w' ∧ Keep w w' ∧ G i (upd us o.dst v) w') Q
    else G i (upd us o.dst undef) w

theorem wpAny_head {m : Nat} {a0 : Act} {ds : List Nat} {sup : Nat → List Nat} {G : Nat → (Nat → Value) → World → Prop} {St : World → Prop} {Keep : World → World → Prop} (hB : rgOk ops m ds sup = true) (hm : m ≤ ops.size)
    (hkeep : ∀ j us w w', j < m → Keep w w' → G j us w → G j us w') (hrefl : ∀ w, Keep w w) (hsup : ∀ j us us' w, j < m → (∀ t ∈ sup j, us t = us' t) → G j us w → G j us' w)
    (howe : ∀ i o, i < m → ops[i]? = some o → Owes P ops Q a0 ds G St Keep i o)
    (hend : ∀ us w, St w → (∀ j, j < m → G j us w) → wpOps P ops Q (List.range' m (ops.size - m)) (over a0 ds us) w) :
    ∀ (fuel : Nat) (listed : Array Bool) (a : Act) (w : World), unl listed.toList ≤ fuel → Under ops m a0 ds G St listed a w → wpAny P .any ops Q fuel listed a w := by
  have hdepOk : ∀ j o, j < m → ops[j]? = some o → (∀ d, o.dst = some d → ds.contains d = true) ∧ ∀ t ∈ sup j, ∀ i oi, ops[i]? = some oi → oi.dst = some t → i = j ∨ ∃ e ∈ o.after, Region.binds .any e = true ∧ e.on = i := by
    intro j o hj ho
    have hlt : j < ops.size := (Array.getElem?_eq_some_iff.1 ho).1
    have hb := List.all_eq_true.1 hB j (List.mem_range.2 hlt)
    simp only [ho, Bool.and_eq_true, Bool.or_eq_true, decide_eq_true_eq] at hb
    rcases hb.1.1 with h | h
    · omega
    · refine ⟨?_, ?_⟩
      · intro d hd
        have := h.1
        rw [hd] at this
        exact this
      · intro t ht i oi hi hd
        have h2 := List.all_eq_true.1 (List.all_eq_true.1 h.2 t ht) i (List.mem_range.2 (Array.getElem?_eq_some_iff.1 hi).1)
        simp only [hi, Bool.or_eq_true, bne_iff_ne, beq_iff_eq, hd] at h2
        rcases h2 with (h2 | h2) | h2
        · exact absurd rfl h2
        · exact Or.inl h2
        · obtain ⟨e, he, hee⟩ := Array.any_eq_true'.1 h2
          simp only [Bool.and_eq_true, beq_iff_eq] at hee
          exact Or.inr ⟨e, he, hee.1, hee.2⟩
  have step : ∀ (fuel : Nat) (listed : Array Bool) (a : Act) (w : World), unl listed.toList ≤ fuel → Under ops m a0 ds G St listed a w →
      (∀ j, j < m → listed.getD j true = true) → wpAny P .any ops Q fuel listed a w := by
    intro fuel listed a w hf U hall
    obtain ⟨us, rfl, hG⟩ := U.left
    have hx : ∀ j, j < m → listed.getD j false = true := by
      intro j hj
      have := hall j hj
      rw [getD_toList, List.getD_eq_getElem?_getD] at this ⊢
      cases hy : listed.toList[j]? with
      | none =>
        have h1 := List.getElem?_eq_none_iff.1 hy
        have := U.size
        simp at h1; omega
      | some b => rw [hy] at this; simpa using this
    have hr : ops.size - m ≤ fuel := by
      refine Nat.le_trans ?_ hf
      have : ∀ (n : Nat) (l : List Bool), (∀ j, n ≤ j → j < l.length → l.getD j true = false) → l.length - n ≤ unl l := by
        intro n l
        induction l generalizing n with
        | nil => intro _; simp
        | cons b r ih =>
          intro hb
          cases n with
          | zero =>
            have h0 := hb 0 (Nat.le_refl _) (by simp)
            have h1 := ih 0 (fun j _ hj => by have := hb (j + 1) (by omega) (by simpa using hj); simpa using this)
            simp at h0
            subst h0
            simp [unl] at h1 ⊢; omega
          | succ n =>
            have h1 := ih n (fun j hj hj' => by have := hb (j + 1) (by omega) (by simpa using hj'); simpa using this)
            simp only [unl, List.length_cons]; omega
      have h2 := this m listed.toList (fun j hj hj' => by rw [← getD_toList]; exact U.tail j hj (by have := U.size; simp at hj'; omega))
      have := U.size
      simp at h2; omega
    refine wpAny_tail hB (ops.size - m) m listed _ w (Nat.le_refl _) (by omega) ?_ U.size fuel hr (hend us w U.st (fun j hj => hG j hj (hx j hj)))
    intro j hj
    rcases Nat.lt_or_ge j m with h | h
    · rw [hall j h]; simp [h]
    · rw [U.tail j h hj]; simp; omega
  intro fuel
  induction fuel with
  | zero =>
    intro listed a w hf U
    exact step 0 listed a w hf U (fun j _ => by rw [getD_toList]; exact unl_zero _ (by omega) j)
  | succ fuel ih =>
    intro listed a w hf U
    by_cases hall : ∀ j, j < m → listed.getD j true = true
    · exact step _ listed a w hf U hall
    · obtain ⟨us, rfl, hG⟩ := U.left
      have hnot : ∃ j, j < m ∧ listed.getD j true = false := by
        apply Classical.byContradiction
        intro hn
        apply hall
        intro j hj
        cases hx : listed.getD j true with
        | true => rfl
        | false => exact absurd ⟨j, hj, hx⟩ hn
      refine ⟨fun h0 => ?_, fun i hi => ?_⟩
      · -- the least that is not listed may come up
        have least : ∀ n j, j ≤ n → j < m → listed.getD j true = false → False := by
          intro n
          induction n with
          | zero =>
            intro j hj hjm hjl
            obtain rfl : j = 0 := by omega
            obtain ⟨oj, hoj⟩ : ∃ oj, ops[0]? = some oj := ⟨ops[0], Array.getElem?_eq_getElem (by omega)⟩
            have : 0 ∈ Region.ready .any ops listed := mem_ready.2 ⟨hjl, oj, hoj, fun e he hbind => by
              have hb := List.all_eq_true.1 hB 0 (List.mem_range.2 (by omega))
              simp only [hoj, Bool.and_eq_true] at hb
              have h2 := Array.all_eq_true'.1 hb.2 e he
              simp only [hbind, Bool.not_true, Bool.or_eq_true, Bool.false_eq_true, false_or, decide_eq_true_eq] at h2
              omega⟩
            rw [h0] at this; cases this
          | succ n ihn =>
            intro j hj hjm hjl
            obtain ⟨oj, hoj⟩ : ∃ oj, ops[j]? = some oj := ⟨ops[j], Array.getElem?_eq_getElem (by omega)⟩
            have : j ∈ Region.ready .any ops listed := mem_ready.2 ⟨hjl, oj, hoj, fun e he hbind => by
              have hb := List.all_eq_true.1 hB j (List.mem_range.2 (by omega))
              simp only [hoj, Bool.and_eq_true] at hb
              have h2 := Array.all_eq_true'.1 hb.2 e he
              simp only [hbind, Bool.not_true, Bool.or_eq_true, Bool.false_eq_true, false_or, decide_eq_true_eq] at h2
              cases hx : listed.getD e.on true with
              | false => exact (ihn e.on (by omega) (by omega) hx).elim
              | true =>
                rw [getD_toList, List.getD_eq_getElem?_getD] at hx ⊢
                cases hy : listed.toList[e.on]? with
                | none =>
                  have h4 := List.getElem?_eq_none_iff.1 hy
                  have := U.size
                  simp at h4; omega
                | some b => rw [hy] at hx; simpa using hx⟩
            rw [h0] at this; cases this
        obtain ⟨j, hj, hjl⟩ := hnot
        exact (least j j (Nat.le_refl _) hj hjl).elim
      · obtain ⟨h1, o, ho, hdep⟩ := mem_ready.1 hi
        have hlt : i < ops.size := (Array.getElem?_eq_some_iff.1 ho).1
        have him : i < m := by
          rcases Nat.lt_or_ge i m with h | h
          · exact h
          · exfalso
            obtain ⟨j, hj, hjl⟩ := hnot
            have hb := List.all_eq_true.1 hB i (List.mem_range.2 hlt)
            simp only [ho, Bool.and_eq_true, Bool.or_eq_true, decide_eq_true_eq] at hb
            rcases hb.1.2 with hb2 | hb2
            · omega
            · have := List.all_eq_true.1 hb2 j (List.mem_range.2 (by omega))
              obtain ⟨e, he, hee⟩ := Array.any_eq_true'.1 this
              simp only [Bool.and_eq_true, beq_iff_eq] at hee
              have hd := hdep e he hee.1
              rw [hee.2] at hd
              rw [getD_toList, List.getD_eq_getElem?_getD] at hd hjl
              cases hx : listed.toList[j]? with
              | none => rw [hx] at hd; simp at hd
              | some b => rw [hx] at hd hjl; simp at hd hjl; rw [hd] at hjl; cases hjl
        obtain ⟨hds, hdp⟩ := hdepOk i o him ho
        have hil : listed.toList[i]? = some false := by
          rw [getD_toList, List.getD_eq_getElem?_getD] at h1
          cases hx : listed.toList[i]? with
          | none => rw [hx] at h1; simp at h1
          | some b => rw [hx] at h1; simp at h1; rw [h1]
        have hdm : ∀ e ∈ o.after, Region.binds .any e = true → e.on < m := by
          intro e he hbind
          have hd := hdep e he hbind
          rcases Nat.lt_or_ge e.on m with h | h
          · exact h
          · exfalso
            rcases Nat.lt_or_ge e.on ops.size with h2 | h2
            · have := U.tail e.on h h2
              rw [getD_toList, List.getD_eq_getElem?_getD] at this hd
              cases hx : listed.toList[e.on]? with
              | none => rw [hx] at hd; simp at hd
              | some b => rw [hx] at hd this; simp at hd this; rw [hd] at this; cases this
            · rw [getD_toList, List.getD_eq_getElem?_getD, List.getElem?_eq_none (by have := U.size; simp; omega)] at hd
              simp at hd
        have next : ∀ v w', St w' → Keep w w' → G i (upd us o.dst v) w' → wpAny P .any ops Q fuel (listed.setIfInBounds i true) ((over a0 ds us).put o.dst v) w' := by
          intro v w' hst hk hg
          refine ih _ _ _ ?_ ⟨by simpa using U.size, ?_, ?_, hst, upd us o.dst v, over_put hds, ?_⟩
          · have := unl_set listed.toList i hil
            rw [Array.toList_setIfInBounds]; omega
          · intro j hj hj'
            rw [getD_set_other (by omega)]; exact U.tail j hj hj'
          · intro j oj hoj hlj e he hbind
            by_cases ej : i = j
            · subst ej
              rw [ho] at hoj
              cases hoj
              exact getD_set_true (hdep e he hbind)
            · rw [getD_set_other ej] at hlj
              exact getD_set_true (U.closed j oj hoj hlj e he hbind)
          · intro j hj hlj
            by_cases ej : i = j
            · subst ej; exact hg
            · rw [getD_set_other ej] at hlj
              refine hsup j us _ w' hj (fun t ht => ?_) (hkeep j us w w' hj hk (hG j hj hlj))
              symm
              refine upd_ne (fun hd => ?_)
              have hjs : j < ops.size := by omega
              obtain ⟨oj, hoj⟩ : ∃ oj, ops[j]? = some oj := ⟨ops[j], Array.getElem?_eq_getElem hjs⟩
              rcases (hdepOk j oj hj hoj).2 t ht i o ho hd with h | ⟨e, he, hbind, heq⟩
              · exact ej h
              · have := U.closed j oj hoj hlj e he hbind
                rw [heq, getD_toList, List.getD_eq_getElem?_getD, hil] at this
                simp at this
        have howes := howe i o him ho us w U.st (fun e he hbind => hG e.on (hdm e he hbind) (hdep e he hbind))
        unfold wpOp
        rw [ho]
        simp only
        by_cases hw : Region.wanted o (yielded ops (over a0 ds us).tmps) = true
        · rw [if_pos hw] at howes ⊢
          refine Or.inl (Oper.wp_mono (fun a' w' h => ?_) howes)
          obtain ⟨v, rfl, hst, hk, hg⟩ := h
          exact next v w' hst hk hg
        · rw [if_neg hw] at howes ⊢
          exact next undef w U.st (hrefl w) howes

end Go.Proofs.YtlcglclojlffgaaGreat
namespace Go.Proofs.YtlcglclojlffgaaGreat
open Go.RowKit

/-- what one operation yields, and the world that it leaves -/
def leavesUpon (P : Program) (R : Value → World → Prop) : Result Next → Prop
  | .ok (.value v) w' => R v w'
  | .ok .skip w' => R undef w'
  | .ok (.enter f args) w' => Calls P f args w' (fun e w'' => ∃ v, e = .returned v ∧ R v w'')
  | _ => False
def leaves (P : Program) (o : Oper) (a : Act) (w : World) (R : Value → World → Prop) : Prop := leavesUpon P R ((execOp a.eval o).run P w)
attribute [go_sem] leavesUpon leaves

theorem wp_of_leaves {P : Program} {o : Oper} {a : Act} {w : World} {R : Value → World → Prop} {K : Act → World → Prop} {Q : Exit → Act → World → Prop} (h : ∀ v w', R v w' → K (a.put o.dst v) w') (hh : leaves P o a w R) : o.wp P a w K Q := by
  unfold leaves at hh
  unfold Oper.wp
  generalize (execOp a.eval o).run P w = r at *
  cases r with
  | ok n w' =>
    cases n <;> simp only [leavesUpon] at hh <;> simp only [Oper.upon]
    case value v => exact h _ _ hh
    case skip => exact h _ _ hh
    case enter f args => exact hh.mono fun e w'' ⟨v, he, hr⟩ => by subst he; exact h _ _ hr
  | halt x w' => simp only [leavesUpon] at hh

/-- behind an operation: it has kept what it had to, and what is said of it holds -/
def RgR (G : Nat → (Nat → Value) → World → Prop) (St : World → Prop) (Keep : World → World → Prop) (us : Nat → Value) (w : World) (i : Nat) (d : Option Nat) (v : Value) (w' : World) : Prop :=
  St w' ∧ Keep w w' ∧ G i (upd us d v) w'
/-- the head's operations, one by one -/
def rgAll (P : Program) (ops : Array Oper) (A : (Nat → Value) → Act) (G : Nat → (Nat → Value) → World → Prop) (St : World → Prop) (Keep : World → World → Prop) : Nat → List Oper → Prop
  | _, [] => True
  | i, o :: r => (∀ (us : Nat → Value) (w : World), St w → (∀ e ∈ o.after, Region.binds .any e = true → G e.on us w) →
      if Region.wanted o (yielded ops (A us).tmps) then leaves P o (A us) w (RgR G St Keep us w i o.dst) else G i (upd us o.dst undef) w) ∧ rgAll P ops A G St Keep (i + 1) r

theorem rgAll_at {P : Program} {ops : Array Oper} {A : (Nat → Value) → Act} {G : Nat → (Nat → Value) → World → Prop} {St : World → Prop} {Keep : World → World → Prop} : ∀ (l : List Oper) (k : Nat), rgAll P ops A G St Keep k l → ∀ i o, l[i]? = some o →
    ∀ (us : Nat → Value) (w : World), St w → (∀ e ∈ o.after, Region.binds .any e = true → G e.on us w) →
      if Region.wanted o (yielded ops (A us).tmps) then leaves P o (A us) w (RgR G St Keep us w (k + i) o.dst) else G (k + i) (upd us o.dst undef) w
  | [], _, _, i, o, h => by simp at h
  | o' :: r, k, hall, 0, o, h => by simp at h; subst h; exact hall.1
  | o' :: r, k, hall, i + 1, o, h => by
    have := rgAll_at r (k + 1) hall.2 i o (by simpa using h)
    rw [show k + 1 + i = k + (i + 1) by omega] at this
    exact this

/-- **A REGION THAT DRAWS ITS ORDER, EACH OPERATION OF ITS HEAD BY WHAT IT LEAVES; the tail in its one order.** -/
theorem wp_region_rg {P : Program} {id : Nat} {l : List Oper} {Q : Exit → Act → World → Prop} {a0 : Act} {w0 : World} (m : Nat) (ds : List Nat) (sup : Nat → List Nat) (A : (Nat → Value) → Act) (G : Nat → (Nat → Value) → World → Prop) (St : World → Prop) (Keep : World → World → Prop)
    (hmix : P.follows .mixedOrders = true) (hB : rgOk l.toArray m ds sup = true) (hm : m ≤ l.length) (hA : ∀ us, over a0 ds us = A us) (h0 : St w0.drew) (hrefl : ∀ w, Keep w w)
    (hkeep : ∀ j us w w', j < m → Keep w w' → G j us w → G j us w') (hsup : ∀ j us us' w, j < m → (∀ t ∈ sup j, us t = us' t) → G j us w → G j us' w)
    (hall : rgAll P l.toArray A G St Keep 0 (l.take m))
    (hend : ∀ us w, St w → (∀ j, j < m → G j us w) → wpList P l.toArray Q (l.drop m) (A us) w) : (Code.region id l.toArray true).wp P Q a0 w0 := by
  refine wp_region_any hmix ?_
  refine wpAny_head (a0 := a0) (ds := ds) (G := G) (St := St) (Keep := Keep) hB (by simpa using hm) hkeep hrefl hsup ?_ ?_ _ _ _ _ (by rw [Array.toList_replicate, unl_replicate]; exact Nat.le_refl _) ?_
  · intro i o hi ho us w hst hd
    have ho' : (l.take m)[i]? = some o := by rw [List.getElem?_take, if_pos hi]; simpa using ho
    have := rgAll_at _ 0 hall i o ho' us w hst hd
    rw [Nat.zero_add] at this
    rw [hA]
    by_cases hw : Region.wanted o (yielded l.toArray (A us).tmps) = true
    · rw [if_pos hw] at this ⊢
      exact wp_of_leaves (fun v w' h => ⟨v, rfl, h.1, h.2.1, h.2.2⟩) this
    · rw [if_neg hw] at this ⊢
      exact this
  · intro us w hst hg
    have := hend us w hst hg
    rw [hA]
    have e := wpOps_eq_wpList (P := P) (ops := l.toArray) (Q := Q) (l.drop m) m (fun j => by simp [List.getElem?_drop])
    rw [List.length_drop] at e
    have e2 : l.toArray.size - m = l.length - m := by simp
    rw [e2, e]
    exact this
  · refine ⟨by simp, ?_, ?_, h0, fun t => a0.tmps.getD t undef, ?_, ?_⟩
    · intro j _ hj
      rw [getD_toList, Array.toList_replicate, List.getD_eq_getElem?_getD, List.getElem?_replicate]
      simp at hj
      simp [hj]
    · intro j o _ hj
      rw [getD_toList, Array.toList_replicate, List.getD_eq_getElem?_getD, List.getElem?_replicate] at hj
      split at hj <;> simp at hj
    · unfold over
      cases a0 with
      | mk tmps defers =>
        congr 1
        apply Array.ext_getElem?
        intro i
        rw [Array.getElem?_mapIdx]
        cases hx : tmps[i]? with
        | none => rfl
        | some v =>
          simp only [Option.map_some, Array.getD_eq_getD_getElem?, hx, Option.getD_some]
          split <;> rfl
    · intro j _ hj
      rw [getD_toList, Array.toList_replicate, List.getD_eq_getElem?_getD, List.getElem?_replicate] at hj
      split at hj <;> simp at hj

end Go.Proofs.YtlcglclojlffgaaGreat
namespace Go.Proofs.YtlcglclojlffgaaGreat
open Go.RowKit

/-- what is said of an operation's value: it stays true while the world is kept -/
structure Sp (Keep : World → World → Prop) where
  holds : Value → World → Prop
  kept : ∀ v w w', Keep w w' → holds v w → holds v w'

/-- what is said of operation j -/
def depHolds {Keep : World → World → Prop} (l : List Oper) (sp : List (Sp Keep)) (us : Nat → Value) (w : World) (j : Nat) : Prop :=
  match l[j]?, sp[j]? with
  | some o, some s => match o.dst with
    | some d => s.holds (us d) w
    | none => True
  | _, _ => True
def supOf (l : List Oper) (j : Nat) : List Nat :=
  match l[j]? with
  | some o => o.dst.toList
  | none => []

theorem depHolds_kept {Keep : World → World → Prop} {l : List Oper} {sp : List (Sp Keep)} {us : Nat → Value} {w w' : World} {j : Nat} (hk : Keep w w') (h : depHolds l sp us w j) : depHolds l sp us w' j := by
  unfold depHolds at *
  split
  · rename_i o s ho hs
    simp only [ho, hs] at h
    split
    · rename_i d hd
      simp only [hd] at h
      exact s.kept _ _ _ hk h
    · trivial
  · trivial
theorem depHolds_sup {Keep : World → World → Prop} {l : List Oper} {sp : List (Sp Keep)} {us us' : Nat → Value} {w : World} {j : Nat} (he : ∀ t ∈ supOf l j, us t = us' t) (h : depHolds l sp us w j) : depHolds l sp us' w j := by
  unfold depHolds at *
  split
  · rename_i o s ho hs
    simp only [ho, hs] at h
    split
    · rename_i d hd
      simp only [hd] at h
      have := he d (by simp [supOf, ho, hd])
      rwa [← this]
    · trivial
  · trivial

/-- behind an operation -/
def RsR {Keep : World → World → Prop} (St : World → Prop) (s : Sp Keep) (w : World) (v : Value) (w' : World) : Prop := St w' ∧ Keep w w' ∧ s.holds v w'
def rsAll (P : Program) (l : List Oper) (A : (Nat → Value) → Act) {Keep : World → World → Prop} (sp : List (Sp Keep)) (St : World → Prop) : List Oper → List (Sp Keep) → Prop
  | o :: r, s :: t => (∀ (us : Nat → Value) (w : World), St w → (∀ e ∈ o.after, Region.binds .any e = true → depHolds l sp us w e.on) →
      if Region.wanted o (yielded l.toArray (A us).tmps) then leaves P o (A us) w (RsR St s w) else s.holds undef w) ∧ rsAll P l A sp St r t
  | _, _ => True

theorem rg_of_rs {P : Program} {l : List Oper} {A : (Nat → Value) → Act} {Keep : World → World → Prop} {sp : List (Sp Keep)} {St : World → Prop} : ∀ (r : List Oper) (t : List (Sp Keep)) (k : Nat), r.length = t.length → (∀ j, r[j]? = some r[j]! → l[k + j]? = r[j]?) → (∀ j, j < r.length → l[k + j]? = r[j]?) → (∀ j, j < t.length → sp[k + j]? = t[j]?) → rsAll P l A sp St r t →
    rgAll P l.toArray A (fun i us w => depHolds l sp us w i) St Keep k r
  | [], [], _, _, _, _, _, _ => trivial
  | o :: r, s :: t, k, hlen, hx, hl, hs, h => by
    refine ⟨fun us w hst hd => ?_, rg_of_rs r t (k + 1) (by simpa using hlen) (fun j _ => ?_) (fun j hj => ?_) (fun j hj => ?_) h.2⟩
    · have h1 := h.1 us w hst hd
      have e1 : l[k]? = some o := by simpa using hl 0 (by simp)
      have e2 : sp[k]? = some s := by simpa using hs 0 (by simp)
      have dep : ∀ v w', s.holds v w' → depHolds l sp (upd us o.dst v) w' k := fun v w' hv => by
        unfold depHolds
        simp only [e1, e2]
        cases hd : o.dst with
        | none => trivial
        | some d => simpa [upd] using hv
      by_cases hw : Region.wanted o (yielded l.toArray (A us).tmps) = true
      · rw [if_pos hw] at h1 ⊢
        unfold leaves at *
        generalize (execOp (A us).eval o).run P w = q at *
        cases q with
        | ok n w' =>
          cases n <;> simp only [leavesUpon] at h1 ⊢
          case value v => exact ⟨h1.1, h1.2.1, dep _ _ h1.2.2⟩
          case skip => exact ⟨h1.1, h1.2.1, dep _ _ h1.2.2⟩
          case enter f args => exact h1.mono fun e w'' ⟨v, he, hr⟩ => ⟨v, he, hr.1, hr.2.1, dep _ _ hr.2.2⟩
        | halt x w' => simp only [leavesUpon] at h1
      · rw [if_neg hw] at h1 ⊢
        exact dep _ _ h1
    · have := hl (j + 1)
      by_cases hj : j < r.length
      · have := this (by simpa using hj)
        simpa [Nat.add_assoc, Nat.add_comm 1 j] using this
      · rename_i hh
        rw [List.getElem?_eq_none (by omega)] at hh; cases hh
    · have := hl (j + 1) (by simpa using hj)
      simpa [Nat.add_assoc, Nat.add_comm 1 j] using this
    · have := hs (j + 1) (by simpa using hj)
      simpa [Nat.add_assoc, Nat.add_comm 1 j] using this

/-- **A REGION THAT DRAWS ITS ORDER: what is said of each operation of its head (the first |sp|), whatever the order; then the tail.** -/
theorem wp_region_rs {P : Program} {id : Nat} {l : List Oper} {Q : Exit → Act → World → Prop} {a0 : Act} {w0 : World} (ds : List Nat) (A : (Nat → Value) → Act) {Keep : World → World → Prop} (sp : List (Sp Keep)) (St : World → Prop)
    (hmix : P.follows .mixedOrders = true) (hB : rgOk l.toArray sp.length ds (supOf l) = true) (hm : sp.length ≤ l.length) (hA : ∀ us, over a0 ds us = A us) (h0 : St w0.drew) (hrefl : ∀ w, Keep w w)
    (hall : rsAll P l A sp St (l.take sp.length) sp)
    (hend : ∀ us w, St w → (∀ j, j < sp.length → depHolds l sp us w j) → wpList P l.toArray Q (l.drop sp.length) (A us) w) : (Code.region id l.toArray true).wp P Q a0 w0 := by
  refine wp_region_rg sp.length ds (supOf l) A (fun i us w => depHolds l sp us w i) St Keep hmix hB hm hA h0 hrefl (fun j us w w' _ hk h => depHolds_kept hk h) (fun j us us' w _ he h => depHolds_sup he h) ?_ hend
  refine rg_of_rs _ _ 0 (by rw [List.length_take]; omega) (fun j hj => ?_) (fun j hj => ?_) (fun j _ => by simp) hall
  · have : j < (l.take sp.length).length := by
      apply Classical.byContradiction
      intro h
      rw [List.getElem?_eq_none (by omega)] at hj; cases hj
    rw [List.length_take] at this
    rw [Nat.zero_add, List.getElem?_take, if_pos (by omega)]
  · rw [List.length_take] at hj
    rw [Nat.zero_add, List.getElem?_take, if_pos (by omega)]

end Go.Proofs.YtlcglclojlffgaaGreat
namespace Go.Proofs.YtlcglclojlffgaaGreat
open Go.RowKit

theorem boxF0 (w : World) (A : Array Value) (t : TypeId) (i : Nat) : (w.alloc (.cells A t (0, 0))).cell? ⟨w.heap.size, i, none⟩ = A[i]? := by simp
theorem boxF1 (w : World) (A : Array Value) (t : TypeId) (i : Nat) : (w.alloc (.cells A t (0, 0))).frozen? ⟨w.heap.size, i, none⟩ = false := by simp
/-- two new blocks' cells, behind a call -/
theorem box2s {w w1 : World} {A B : Array Value} {t u : TypeId} (hb : Below ((w.alloc (.cells A t (0, 0))).alloc (.cells B u (0, 0))).heap.size ((w.alloc (.cells A t (0, 0))).alloc (.cells B u (0, 0))) w1) :
    (∀ i, w1.cell? ⟨w.heap.size, i, none⟩ = A[i]?) ∧ (∀ i, w1.cell? ⟨w.heap.size + 1, i, none⟩ = B[i]?) ∧ (∀ i, w1.frozen? ⟨w.heap.size + 1, i, none⟩ = false) := by
  refine ⟨fun i => ?_, fun i => ?_, fun i => ?_⟩
  · rw [hb.cell (p := ⟨w.heap.size, i, none⟩) (by simp only [World.size_alloc]; omega)]; simp
  · rw [hb.cell (p := ⟨w.heap.size + 1, i, none⟩) (by simp only [World.size_alloc]; omega)]; simp
  · rw [hb.frozen (p := ⟨w.heap.size + 1, i, none⟩) (by simp only [World.size_alloc]; omega)]; simp
/-- three new blocks' cells, behind a call -/
theorem box3s {w w1 : World} {A B C : Array Value} {t u v : TypeId} (hb : Below (((w.alloc (.cells A t (0, 0))).alloc (.cells B u (0, 0))).alloc (.cells C v (0, 0))).heap.size (((w.alloc (.cells A t (0, 0))).alloc (.cells B u (0, 0))).alloc (.cells C v (0, 0))) w1) :
    (∀ i, w1.cell? ⟨w.heap.size, i, none⟩ = A[i]?) ∧ (∀ i, w1.cell? ⟨w.heap.size + 1, i, none⟩ = B[i]?) ∧ (∀ i, w1.cell? ⟨w.heap.size + 1 + 1, i, none⟩ = C[i]?) ∧ (∀ i, w1.frozen? ⟨w.heap.size + 1 + 1, i, none⟩ = false) ∧ w.heap.size + 1 + 1 < w1.heap.size := by
  refine ⟨fun i => ?_, fun i => ?_, fun i => ?_, fun i => ?_, ?_⟩
  · rw [hb.cell (p := ⟨w.heap.size, i, none⟩) (by simp only [World.size_alloc]; omega), (ba2 (w.alloc (.cells A t (0, 0))) _ _).cell (p := ⟨w.heap.size, i, none⟩) (by simp)]; simp
  · have h := (ba1 ((w.alloc (.cells A t (0, 0))).alloc (.cells B u (0, 0))) (.cells C v (0, 0))).cell (p := ⟨w.heap.size + 1, i, none⟩) (by simp)
    rw [hb.cell (p := ⟨w.heap.size + 1, i, none⟩) (by simp only [World.size_alloc]; omega), h]
    simp
  · rw [hb.cell (p := ⟨w.heap.size + 1 + 1, i, none⟩) (by simp only [World.size_alloc]; omega)]
    have := boxF0 ((w.alloc (.cells A t (0, 0))).alloc (.cells B u (0, 0))) C v i
    simpa using this
  · rw [hb.frozen (p := ⟨w.heap.size + 1 + 1, i, none⟩) (by simp only [World.size_alloc]; omega)]
    have := boxF1 ((w.alloc (.cells A t (0, 0))).alloc (.cells B u (0, 0))) C v i
    simpa using this
  · have := hb.size; simp at this; omega
/-- a block's marks, behind a call -/
theorem freeK {w w1 : World} {b : Nat} (hb : Below w.heap.size w w1) (h : ∀ i, w.frozen? ⟨b, i, none⟩ = false) (h0 : b < w.heap.size) : ∀ i, w1.frozen? ⟨b, i, none⟩ = false := fun i => by
  rw [hb.frozen (p := ⟨b, i, none⟩) h0]; exact h i

/-- a block's cells, where less is kept -/
theorem boxB {w w1 : World} {B b : Nat} {cs : Array Value} (hb : Below B w w1) (h : ∀ i, w.cell? ⟨b, i, none⟩ = cs[i]?) (h0 : b < B) : ∀ i, w1.cell? ⟨b, i, none⟩ = cs[i]? := fun i => by
  rw [hb.cell (p := ⟨b, i, none⟩) h0]; exact h i
theorem freeB {w w1 : World} {B b : Nat} (hb : Below B w w1) (h : ∀ i, w.frozen? ⟨b, i, none⟩ = false) (h0 : b < B) : ∀ i, w1.frozen? ⟨b, i, none⟩ = false := fun i => by
  rw [hb.frozen (p := ⟨b, i, none⟩) h0]; exact h i

end Go.Proofs.YtlcglclojlffgaaGreat
namespace Go.Proofs.YtlcglclojlffgaaGreat
open Go.RowKit

/-! Regions that draw their order and only read or make memory: what stands in world w0 stands still. -/
def KB (W W' : World) : Prop := Below W.heap.size W W'
def StX (w0 W : World) : Prop := Below w0.heap.size w0 W
def spE (v : Value) : Sp KB := ⟨fun u _ => u = v, fun _ _ _ _ h => h⟩
/-- a slice of n cells, each as f tells -/
def RowF (n : Nat) (f : Nat → Value) (u : Value) (W : World) : Prop := ∃ b, u = .slice (some ⟨b, 0, none⟩) n n ∧ ∀ i, i < n → W.cell? ⟨b, i, none⟩ = some (f i)
theorem RowF.below {n : Nat} {f : Nat → Value} {u : Value} {W W' : World} (h : RowF n f u W) (hb : Below W.heap.size W W') : RowF n f u W' := by
  obtain ⟨b, e, hc⟩ := h
  exact ⟨b, e, fun i hi => by rw [hb.cell (p := ⟨b, i, none⟩) (lt_of_cell (hc i hi))]; exact hc i hi⟩
def spRow (n : Nat) (f : Nat → Value) : Sp KB := ⟨RowF n f, fun _ _ _ hk h => h.below hk⟩
theorem stX0 (w : World) : StX w w.drew := (Below.refl _ _).drew
theorem kbr (w : World) : KB w w := Below.refl _ _
theorem kb_same {w0 W : World} {s : Sp KB} {v : Value} (hst : StX w0 W) (h : s.holds v W) : RsR (StX w0) s W v W := ⟨hst, Below.refl _ _, h⟩
theorem kb_below {w0 W W' : World} {s : Sp KB} {v : Value} (hst : StX w0 W) (hb : Below W.heap.size W W') (h : s.holds v W') : RsR (StX w0) s W v W' := ⟨bt0 hst hb (Nat.le_refl _), hb, h⟩
/-- a slice of the call's own: blocks from base on -/
def spOwn (base : Nat) (zs : List Int) : Sp KB := ⟨fun v W => OwnI W base v zs, fun _ _ _ hk h => h.grown hk⟩

def spN (p : Value → Prop) : Sp (fun _ _ : World => True) := ⟨fun v _ => p v, fun _ _ _ _ h => h⟩
theorem n_same {St : World → Prop} {W : World} {s : Sp (fun _ _ : World => True)} {v : Value} (h : St W) (hs : s.holds v W) : RsR St s W v W := ⟨h, trivial, hs⟩

/-- a raster of the call's own -/
def RasV (base : Nat) (n m : Int) (zs : List Int) (v : Value) (W : World) : Prop := ∃ a c, v = .agg #[.int .i64 n, .int .i64 m, .slice a zs.length c] ∧ OwnI W base (.slice a zs.length c) zs
def spRas (base : Nat) (n m : Int) (zs : List Int) : Sp KB := ⟨RasV base n m zs, fun _ _ _ hk ⟨a, c, e, h⟩ => ⟨a, c, e, h.grown hk⟩⟩

end Go.Proofs.YtlcglclojlffgaaGreat
namespace Go.Proofs.YtlcglclojlffgaaGreat
open Go.RowKit

theorem push_at (w : World) (A : Obj) : (w.alloc A).heap[w.heap.size]? = some A := Array.getElem?_push_size
theorem push_old {w : World} {i : Nat} {A B : Obj} (h : w.heap[i]? = some B) : (w.alloc A).heap[i]? = some B := ((ba1 w A).block i (Array.getElem?_eq_some_iff.1 h).1).trans h
theorem heap2 (w : World) (A B : Obj) : ((w.alloc A).alloc B).heap[w.heap.size]? = some A ∧ ((w.alloc A).alloc B).heap[w.heap.size + 1]? = some B := by
  refine ⟨push_old (push_at w A), ?_⟩
  have h := push_at (w.alloc A) B
  rw [World.size_alloc] at h
  exact h
theorem heap3 (w : World) (A B C : Obj) : (((w.alloc A).alloc B).alloc C).heap[w.heap.size]? = some A ∧ (((w.alloc A).alloc B).alloc C).heap[w.heap.size + 1]? = some B ∧ (((w.alloc A).alloc B).alloc C).heap[w.heap.size + 1 + 1]? = some C := by
  refine ⟨push_old (heap2 w A B).1, push_old (heap2 w A B).2, ?_⟩
  have h := push_at ((w.alloc A).alloc B) C
  rw [World.size_alloc, World.size_alloc] at h
  exact h
theorem heap4 (w : World) (A B C D : Obj) : ((((w.alloc A).alloc B).alloc C).alloc D).heap[w.heap.size]? = some A ∧ ((((w.alloc A).alloc B).alloc C).alloc D).heap[w.heap.size + 1]? = some B ∧ ((((w.alloc A).alloc B).alloc C).alloc D).heap[w.heap.size + 1 + 1]? = some C ∧ ((((w.alloc A).alloc B).alloc C).alloc D).heap[w.heap.size + 1 + 1 + 1]? = some D := by
  refine ⟨push_old (heap3 w A B C).1, push_old (heap3 w A B C).2.1, push_old (heap3 w A B C).2.2, ?_⟩
  have h := push_at (((w.alloc A).alloc B).alloc C) D
  rw [World.size_alloc, World.size_alloc, World.size_alloc] at h
  exact h
theorem blk {w w' : World} {B i : Nat} {A : Obj} (hb : Below B w w') (h : w.heap[i]? = some A) (hB : i < B) : w'.heap[i]? = some A := (hb.block i hB).trans h
theorem blkK {w w' : World} {i : Nat} {A : Obj} (hb : Below w.heap.size w w') (h : w.heap[i]? = some A) : w'.heap[i]? = some A := (hb.block i (Array.getElem?_eq_some_iff.1 h).1).trans h
theorem blkLt {w : World} {i : Nat} {A : Obj} (h : w.heap[i]? = some A) : i < w.heap.size := (Array.getElem?_eq_some_iff.1 h).1

end Go.Proofs.YtlcglclojlffgaaGreat
namespace Go.Proofs.YtlcglclojlffgaaGreat
open Go.RowKit

/-- a field's tables, filled up to n: whether it is binary, its size, powers, logarithms -/
structure CalcTo (F : Fd) (n : Nat) (C : Array Value) : Prop where
  size : C.size = 2044
  bin : C[0]? = some (.bool F.bin)
  q : C[1]? = some (.int .i64 F.q)
  exp : ∀ i, i < n → C[2 + i]? = some (.int .i64 (F.pw i))
  log : ∀ i, i < n → C[1023 + F.pw i]? = some (.int .i64 i)
theorem CalcTo.step {F : Fd} {n : Nat} {C : Array Value} (h : CalcTo F n C) (hn : n < 1021) (hp : F.pw n < 1021) (hne : ∀ i, i < n → F.pw i ≠ F.pw n) :
    CalcTo F (n + 1) ((C.setIfInBounds (2 + n) (.int .i64 (F.pw n))).setIfInBounds (1023 + F.pw n) (.int .i64 n)) := by
  have hs := h.size
  refine ⟨by simp [hs], ?_, ?_, ?_, ?_⟩
  · rw [Array.getElem?_setIfInBounds_ne (by omega), Array.getElem?_setIfInBounds_ne (by omega)]; exact h.bin
  · rw [Array.getElem?_setIfInBounds_ne (by omega), Array.getElem?_setIfInBounds_ne (by omega)]; exact h.q
  · intro i hi
    rw [Array.getElem?_setIfInBounds_ne (by omega)]
    by_cases e : i = n
    · subst e
      rw [Array.getElem?_setIfInBounds_self_of_lt (by omega)]
    · rw [Array.getElem?_setIfInBounds_ne (by omega)]; exact h.exp i (by omega)
  · intro i hi
    by_cases e : i = n
    · subst e
      rw [Array.getElem?_setIfInBounds_self_of_lt (by rw [Array.size_setIfInBounds]; omega)]
    · have := hne i (by omega)
      rw [Array.getElem?_setIfInBounds_ne (by omega), Array.getElem?_setIfInBounds_ne (by omega)]; exact h.log i (by omega)
/-- the block of a field's arithmetic -/
def CalcAt (w : World) (b : Nat) (F : Fd) : Prop := ∃ C t, w.heap[b]? = some (.cells C t (0, 0)) ∧ CalcTo F (F.q - 1) C
theorem CalcAt.below {w w' : World} {b : Nat} {F : Fd} (h : CalcAt w b F) (hb : Below w.heap.size w w') : CalcAt w' b F := by
  obtain ⟨C, t, h1, h2⟩ := h
  exact ⟨C, t, blkK hb h1, h2⟩
theorem CalcAt.lt {w : World} {b : Nat} {F : Fd} (h : CalcAt w b F) : b < w.heap.size := by
  obtain ⟨C, t, h1, h2⟩ := h
  exact blkLt h1
theorem CalcAt.cell {w : World} {b : Nat} {F : Fd} (h : CalcAt w b F) : w.cell? ⟨b, 0, none⟩ = some (.bool F.bin) ∧ w.cell? ⟨b, 1, none⟩ = some (.int .i64 F.q) ∧ (∀ i, i < F.q - 1 → w.cell? ⟨b, 2 + i, none⟩ = some (.int .i64 (F.pw i))) ∧
    (∀ i, i < F.q - 1 → w.cell? ⟨b, 1023 + F.pw i, none⟩ = some (.int .i64 i)) := by
  obtain ⟨C, t, h1, h2⟩ := h
  have hc := (heap_cellR h1).1
  exact ⟨by rw [hc]; exact h2.bin, by rw [hc]; exact h2.q, fun i hi => by rw [hc]; exact h2.exp i hi, fun i hi => by rw [hc]; exact h2.log i hi⟩

end Go.Proofs.YtlcglclojlffgaaGreat
namespace Go.Proofs.YtlcglclojlffgaaGreat
open Go.RowKit

theorem wraps64 (n : Int) (h₀ : 0 ≤ n) (h₁ : n < 2 ^ 62) : IntKind.i64.wrap n = n := by rw [IntKind.wrap_i64]; omega
theorem and64 (a b : Nat) (ha : a < 2 ^ 62) (hb : b < 2 ^ 62) : bits .and .i64 (a : Int) (b : Int) = ((a &&& b : Nat) : Int) := (bits_nat .i64 62 (by decide) wraps64 a b ha hb).1
theorem or64 (a b : Nat) (ha : a < 2 ^ 62) (hb : b < 2 ^ 62) : bits .or .i64 (a : Int) (b : Int) = ((a ||| b : Nat) : Int) := (bits_nat .i64 62 (by decide) wraps64 a b ha hb).2
theorem xor64 (a b : Nat) (ha : a < 2 ^ 62) (hb : b < 2 ^ 62) : bits .xor .i64 (a : Int) (b : Int) = ((a ^^^ b : Nat) : Int) := by
  have hp : (2 : Nat) ^ 62 ≤ 2 ^ IntKind.i64.bits := Nat.pow_le_pow_right (by decide) (by decide)
  have ha' : a % 2 ^ IntKind.i64.bits = a := Nat.mod_eq_of_lt (Nat.lt_of_lt_of_le ha hp)
  have hb' : b % 2 ^ IntKind.i64.bits = b := Nat.mod_eq_of_lt (Nat.lt_of_lt_of_le hb hp)
  simp only [bits, BitVec.ofInt_natCast, BitVec.toNat_xor, BitVec.toNat_ofNat, ha', hb']
  exact wraps64 _ (Int.natCast_nonneg _) (by exact_mod_cast Nat.xor_lt_two_pow ha hb)
theorem xor64I (a b : Int) (h1 : 0 ≤ a) (h2 : 0 ≤ b) (h3 : a < 2 ^ 62) (h4 : b < 2 ^ 62) : bits .xor .i64 a b = ((a.toNat ^^^ b.toNat : Nat) : Int) := by
  obtain ⟨a, rfl⟩ := Int.eq_ofNat_of_zero_le h1
  obtain ⟨b, rfl⟩ := Int.eq_ofNat_of_zero_le h2
  exact xor64 a b (by exact_mod_cast h3) (by exact_mod_cast h4)
theorem and64I (a b : Int) (h1 : 0 ≤ a) (h2 : 0 ≤ b) (h3 : a < 2 ^ 62) (h4 : b < 2 ^ 62) : bits .and .i64 a b = ((a.toNat &&& b.toNat : Nat) : Int) := by
  obtain ⟨a, rfl⟩ := Int.eq_ofNat_of_zero_le h1
  obtain ⟨b, rfl⟩ := Int.eq_ofNat_of_zero_le h2
  exact and64 a b (by exact_mod_cast h3) (by exact_mod_cast h4)
theorem andOne (a : Int) (h1 : 0 ≤ a) (h3 : a < 2 ^ 62) : bits .and .i64 a 1 = a % 2 := by
  have := and64I a 1 h1 (by omega) h3 (by omega)
  rw [this, show (1 : Int).toNat = 1 from rfl, Nat.and_one_is_mod]
  omega

end Go.Proofs.YtlcglclojlffgaaGreat
namespace Go.Proofs.YtlcglclojlffgaaGreat
open Go.RowKit

theorem and_pow (x k : Nat) : x &&& 2 ^ k = if x.testBit k then 2 ^ k else 0 := by
  apply Nat.eq_of_testBit_eq
  intro j
  rw [Nat.testBit_and, Nat.testBit_two_pow]
  by_cases h : k = j
  · subst h
    cases x.testBit k <;> simp
  · have h2 : decide (k = j) = false := by simp [h]
    rw [h2, Bool.and_false]
    split
    · rw [Nat.testBit_two_pow]; simp [h]
    · simp
theorem T_yes {F : Fd} (hb : F.bin = true) {x : Nat} (h : (x * 2 &&& 2 ^ F.k) ≠ 0) : F.T x = (x * 2) ^^^ F.g := by
  have e : x <<< 1 = x * 2 := by rw [Nat.shiftLeft_eq]
  rw [T_bin F hb, rstep, e]
  rw [and_pow] at h
  have : (x * 2).testBit F.k = true := by
    cases h2 : (x * 2).testBit F.k
    · rw [h2] at h; simp at h
    · rfl
  rw [if_pos this, Nat.sub_self, Nat.shiftLeft_zero]
theorem T_no {F : Fd} (hb : F.bin = true) {x : Nat} (h : (x * 2 &&& 2 ^ F.k) = 0) : F.T x = x * 2 := by
  have e : x <<< 1 = x * 2 := by rw [Nat.shiftLeft_eq]
  rw [T_bin F hb, rstep, e]
  rw [and_pow] at h
  have : ¬ (x * 2).testBit F.k = true := by
    intro h2
    rw [h2] at h
    have := Nat.two_pow_pos F.k
    simp at h
  rw [if_neg this]
set_option maxHeartbeats 400000 in
theorem times_any (F : Fd) (hb : F.bin = true) (hq : F.q = 2 ^ F.k) (hk : F.k ≤ 8) (hg : F.g < 1024) (x c1 c2 b : Nat) (hx : x < F.q) (w : World) (h1 : w.cell? ⟨c1, 0, none⟩ = some (.pointer (some ⟨b, 0, none⟩))) (h2 : w.cell? ⟨b, 1, none⟩ = some (.int .i64 F.q)) (h3 : w.cell? ⟨c2, 2, none⟩ = some (.int .i64 F.g)) :
    Calls Tryz.prog 75 #[.int .i64 x, .pointer (some ⟨c1, 0, none⟩), .pointer (some ⟨c2, 0, none⟩)] w fun e w' => e = .returned (.int .i64 (F.T x : Nat)) ∧ w = w' := by
  have hq2 : F.q ≤ 256 := by rw [hq]; exact Nat.pow_le_pow_right (n := 2) (by omega) hk
  have ha : bits BinOp.and IntKind.i64 (↑x * 2) ↑F.q = ((x * 2 &&& 2 ^ F.k : Nat) : Int) := by
    rw [show ((x : Int) * 2) = ((x * 2 : Nat) : Int) by simp, and64 _ _ (by omega) (by omega), hq]
  have HXR := Lib.hid (show bits BinOp.xor IntKind.i64 (↑x * 2) ↑F.g = (((x * 2) ^^^ F.g : Nat) : Int) by
    rw [show ((x : Int) * 2) = ((x * 2 : Nat) : Int) by simp, xor64 _ _ (by omega) (by omega)])
  have HQ := Lib.hid hq
  clear hq
  by_cases hz : (x * 2 &&& 2 ^ F.k) = 0
  · have hd : (bits BinOp.and IntKind.i64 (↑x * 2) ↑F.q != 0) = false := by rw [ha, hz]; rfl
    have HT := Lib.hid (T_no hb hz)
    clear ha hz
    go_enter Tryz.func75, Tryz.ntmps75
    go_wp2_with fail
    go_ret
    exact ⟨ret_int (by rw [HT.out]; simp), rfl⟩
  · have hd : (bits BinOp.and IntKind.i64 (↑x * 2) ↑F.q != 0) = true := by rw [ha, bne_iff_ne]; exact_mod_cast hz
    have HT := Lib.hid (T_yes hb hz)
    clear ha hz
    go_enter Tryz.func75, Tryz.ntmps75
    go_wp2_with fail
    go_ret
    exact ⟨ret_int (by rw [HT.out, HXR.out]), rfl⟩

/-- the numbers of a field that is tried -/
structure FdTry (F : Fd) : Prop where
  bin : F.bin = true
  q : F.q = 2 ^ F.k
  k3 : 3 ≤ F.k
  k8 : F.k ≤ 8
  fit : F.Fit
theorem FdTry.q_bd {F : Fd} (h : FdTry F) : 8 ≤ F.q ∧ F.q ≤ 256 := by
  rw [h.q]
  exact ⟨Nat.pow_le_pow_right (n := 2) (by omega) h.k3, Nat.pow_le_pow_right (n := 2) (by omega) h.k8⟩
/-- the table is filled, or a power shows that it can't be -/
def fillB (F : Fd) : Bool := decide F.Runs
theorem fill_stop {F : Fd} {n : Nat} (hn : n < F.q - 1) (h : F.pw n = 0 ∨ (0 < n ∧ F.pw n = 1)) : fillB F = false := by
  rw [fillB, decide_eq_false_iff_not]
  intro hr
  have := hr.1 n hn
  rcases h with h | ⟨h0, h⟩
  · exact this.1 h
  · exact this.2 h0 h
theorem fill_end {F : Fd} (h : ∀ i, i < F.q - 1 → F.pw i ≠ 0 ∧ (0 < i → F.pw i ≠ 1)) : fillB F = decide (F.pw (F.q - 1) = 1) := by
  unfold fillB
  by_cases h1 : F.pw (F.q - 1) = 1
  · rw [decide_eq_true h1, decide_eq_true_iff]; exact ⟨h, h1⟩
  · rw [decide_eq_false h1, decide_eq_false_iff_not]; exact fun hr => h1 hr.2

/-- what is held of the blocks while the table is filled -/
structure FillAt (w0 w : World) (F : Fd) (b c1 c2 : Nat) (C : Array Value) (t : TypeId) : Prop where
  blk : w.heap[b]? = some (.cells C t (0, 0))
  p : w.cell? ⟨c1, 0, none⟩ = some (.pointer (some ⟨b, 0, none⟩))
  g : w.cell? ⟨c2, 2, none⟩ = some (.int .i64 F.g)
  size : C.size = 2044
  bin : C[0]? = some (.bool F.bin)
  q : C[1]? = some (.int .i64 F.q)
theorem FillAt.q2 {w0 w : World} {F : Fd} {b c1 c2 : Nat} {C : Array Value} {t : TypeId} (h : FillAt w0 w F b c1 c2 C t) : w.cell? ⟨b, 1, none⟩ = some (.int .i64 F.q) := by rw [(heap_cellR h.blk).1]; exact h.q
/-- two cells of the block are written -/
theorem FillAt.two {w0 w : World} {F : Fd} {b c1 c2 : Nat} {C : Array Value} {t : TypeId} (h : FillAt w0 w F b c1 c2 C t) (h1 : c1 ≠ b) (h2 : c2 ≠ b) (i j : Nat) (hi : 2 ≤ i) (hj : 2 ≤ j) (u v : Value) :
    FillAt w0 ((w.setCell ⟨b, i, none⟩ u).setCell ⟨b, j, none⟩ v) F b c1 c2 ((C.setIfInBounds i u).setIfInBounds j v) t := by
  have hb := h.blk
  have e : (w.setCell ⟨b, i, none⟩ u).heap[b]? = some (.cells (C.setIfInBounds i u) t (0, 0)) := by
    rw [setCell_eq_setRow w b i C t (0, 0) u hb]
    exact setRow_heap w b _ _ t _ hb
  have e2 : ((w.setCell ⟨b, i, none⟩ u).setCell ⟨b, j, none⟩ v).heap[b]? = some (.cells ((C.setIfInBounds i u).setIfInBounds j v) t (0, 0)) := by
    rw [setCell_eq_setRow _ b j _ t (0, 0) v e]
    exact setRow_heap _ b _ _ t _ e
  have hs := h.size
  refine ⟨e2, ?_, ?_, by simp [hs], ?_, ?_⟩
  · rw [World.cell?_setCell_far _ _ _ _ (by simp; omega), World.cell?_setCell_far _ _ _ _ (by simp; omega)]; exact h.p
  · rw [World.cell?_setCell_far _ _ _ _ (by simp; omega), World.cell?_setCell_far _ _ _ _ (by simp; omega)]; exact h.g
  · rw [Array.getElem?_setIfInBounds_ne (by omega), Array.getElem?_setIfInBounds_ne (by omega)]; exact h.bin
  · rw [Array.getElem?_setIfInBounds_ne (by omega), Array.getElem?_setIfInBounds_ne (by omega)]; exact h.q

end Go.Proofs.YtlcglclojlffgaaGreat
namespace Go.Proofs.YtlcglclojlffgaaGreat
open Go.RowKit

/-- the closure that multiplies by the generator -/
def timesF (c1 c2 : Nat) : Value := .func (.func 75) #[] #[.pointer (some ⟨c1, 0, none⟩), .pointer (some ⟨c2, 0, none⟩)]
/-- the tables are filled, if the powers are all elements but 0 -/
def RetFill (F : Fd) (b : Nat) (t : TypeId) (w : World) (e : Ending) (w' : World) : Prop :=
  e = .returned (.bool (fillB F)) ∧ w.grownBy w' (some b) ∧ ∃ C, w'.heap[b]? = some (.cells C t (0, 0)) ∧ C.size = 2044 ∧ C[0]? = some (.bool F.bin) ∧ C[1]? = some (.int .i64 F.q) ∧ (F.Runs → CalcTo F (F.q - 1) C)
theorem grownBy_set (w : World) (b i : Nat) (v : Value) : w.grownBy (w.setCell ⟨b, i, none⟩ v) (some b) :=
  ⟨rfl, rfl, rfl, by simp, fun k _ hk => heap_setCell_other w ⟨b, i, none⟩ k v (fun e => hk (by simp [e]))⟩
theorem grownBy_refl (w : World) (row : Option Nat) : w.grownBy w row := ⟨rfl, rfl, rfl, Nat.le_refl _, fun _ _ _ => rfl⟩
set_option maxRecDepth 100000 in
set_option maxHeartbeats 1000000 in
theorem fill_any (F : Fd) (hF : FdTry F) (hg : F.g < 1024) (b c1 c2 : Nat) (C : Array Value) (t : TypeId) (w : World) (h1 : c1 ≠ b) (h2 : c2 ≠ b) (hA : FillAt w w F b c1 c2 C t) :
    Calls Tryz.prog 74 #[.pointer (some ⟨b, 0, none⟩), timesF c1 c2] w (RetFill F b t w) := by
  have hq := hF.q_bd
  have HA := Lib.hid hA
  have HF := Lib.hid hF
  have HN1 := Lib.hid h1
  have HN2 := Lib.hid h2
  clear hA hF h1 h2
  unfold timesF
  go_enter Tryz.func74, Tryz.ntmps74
  go_wp2_with fail
  go_loopw [5, 6] (fun x n wr => ∃ (k : Nat) (C : Array Value), k ≤ F.q - 1 ∧ n = .int .i64 k ∧ x = .int .i64 (F.pw k : Nat) ∧ (∀ i, i < k → F.pw i ≠ 0 ∧ (0 < i → F.pw i ≠ 1)) ∧ (F.Runs → CalcTo F k C) ∧ FillAt w wr F b c1 c2 C t ∧ w.grownBy wr (some b)) (fun _ n _ => F.q - 1 - (intOf n).toNat)
  case atStart => exact ⟨0, C, Nat.zero_le _, rfl, rfl, fun i h => by omega, fun _ => ⟨HA.out.size, HA.out.bin, HA.out.q, fun i h => by omega, fun i h => by omega⟩, HA.out, grownBy_refl _ _⟩
  case round =>
    obtain ⟨k, C1, hk, rfl, rfl, hall, hC, hA1, hb⟩ := hrel
    have HALL := Lib.hid hall
    have HC := Lib.hid hC
    have HA1 := Lib.hid hA1
    have HB1 := Lib.hid hb
    have hq1 := hA1.q2
    clear hall hC hA1 hb
    have hpl : F.pw k < F.q := F.pw_lt HF.out.fit k
    by_cases hlt : k < F.q - 1
    · have hki : (k : Int) < (F.q : Int) - 1 := by omega
      by_cases h0 : F.pw k = 0
      · have hz : (((F.pw k : Nat) : Int) == 0) = true := by rw [beq_iff_eq]; omega
        have HR := Lib.hid (fill_stop hlt (Or.inl h0))
        clear h0
        go_wp2_with fail
        go_ret
        exact ⟨ret_bool HR.out.symm, HB1.out, C1, HA1.out.blk, HA1.out.size, HA1.out.bin, HA1.out.q, fun hr => absurd hr (by have := HR.out; rwa [fillB, decide_eq_false_iff_not] at this)⟩
      · have hz : (((F.pw k : Nat) : Int) == 0) = false := by rw [beq_eq_false_iff_ne]; omega
        by_cases h1 : 0 < k ∧ F.pw k = 1
        · have hz1 : (((F.pw k : Nat) : Int) == 1) = true := by rw [beq_iff_eq]; omega
          have hk0 : (0 : Int) < (k : Int) := by omega
          have HR := Lib.hid (fill_stop hlt (Or.inr h1))
          clear h0 h1
          go_wp2_with fail
          go_ret
          exact ⟨ret_bool HR.out.symm, HB1.out, C1, HA1.out.blk, HA1.out.size, HA1.out.bin, HA1.out.q, fun hr => absurd hr (by have := HR.out; rwa [fillB, decide_eq_false_iff_not] at this)⟩
        · have HN0 := Lib.hid h0
          have HN1' := Lib.hid h1
          have hc2 : ∃ v, wr.cell? ⟨b, 2 + k, none⟩ = some v := ⟨C1[2 + k]'(by rw [HA1.out.size]; omega), by rw [(heap_cellR HA1.out.blk).1]; exact Array.getElem?_eq_getElem _⟩
          obtain ⟨v2, hc2⟩ := hc2
          have hf : ∀ i, wr.frozen? ⟨b, i, none⟩ = false := (heap_cellR HA1.out.blk).2
          have hlb := blkLt HA1.out.blk
          have h2' : ∃ C2 v, (wr.setCell ⟨b, 2 + k, none⟩ (.int .i64 (F.pw k : Nat))).heap[b]? = some (.cells C2 t (0, 0)) ∧ (wr.setCell ⟨b, 2 + k, none⟩ (.int .i64 (F.pw k : Nat))).cell? ⟨b, 1023 + F.pw k, none⟩ = some v := by
            have e : (wr.setCell ⟨b, 2 + k, none⟩ (.int .i64 (F.pw k : Nat))).heap[b]? = some (.cells (C1.setIfInBounds (2 + k) (.int .i64 (F.pw k : Nat))) t (0, 0)) := by
              rw [setCell_eq_setRow wr b _ C1 t (0, 0) _ HA1.out.blk]
              exact setRow_heap wr b _ _ t _ HA1.out.blk
            have hs := HA1.out.size
            exact ⟨_, (C1.setIfInBounds (2 + k) (.int .i64 (F.pw k : Nat)))[1023 + F.pw k]'(by rw [Array.size_setIfInBounds]; omega), e, by rw [(heap_cellR e).1]; exact Array.getElem?_eq_getElem _⟩
          obtain ⟨C2, v3, -, hc3⟩ := h2'
          have hpi : ((F.pw k : Nat) : Int) < 1021 := by omega
          have hki2 : (k : Int) < 1021 := by omega
          clear h0
          have HA2 := Lib.hid (HA1.out.two HN1.out HN2.out (2 + k) (1023 + F.pw k) (by omega) (by omega) (.int .i64 (F.pw k : Nat)) (.int .i64 k))
          have HB2 := Lib.hid (grownBy_trans (grownBy_trans HB1.out (grownBy_set wr b (2 + k) (.int .i64 (F.pw k : Nat)))) (grownBy_set _ b (1023 + F.pw k) (.int .i64 k)))
          have HALL2 : Hid (∀ i, i < k + 1 → F.pw i ≠ 0 ∧ (0 < i → F.pw i ≠ 1)) := Lib.hid (fun i hi => by
            by_cases e : i = k
            · subst e; exact ⟨HN0.out, fun h2 h3 => HN1'.out ⟨h2, h3⟩⟩
            · exact HALL.out i (by omega))
          have HC2 : Hid (F.Runs → CalcTo F (k + 1) ((C1.setIfInBounds (2 + k) (.int .i64 (F.pw k : Nat))).setIfInBounds (1023 + F.pw k) (.int .i64 k))) := Lib.hid (fun hr => (HC.out hr).step (by omega) (by omega) (fun i hi => F.pw_inj hr hi hlt))
          by_cases hk0 : 0 < k
          · have hz1 : (((F.pw k : Nat) : Int) == 1) = false := by rw [beq_eq_false_iff_ne]; omega
            have hk0' : (0 : Int) < (k : Int) := by omega
            clear h1
            go_wp2_with fail
            refine (times_any F HF.out.bin HF.out.q HF.out.k8 hg (F.pw k) c1 c2 b hpl _ HA2.out.p HA2.out.q2 HA2.out.g).mono ?_
            rintro e w3 ⟨rfl, rfl⟩
            go_wp2_with fail
            exact ⟨⟨k + 1, _, by omega, by go_num, rfl, HALL2.out, HC2.out, HA2.out, HB2.out⟩, by simp [intOf]; omega⟩
          · have hk0' : ¬ (0 : Int) < (k : Int) := by omega
            clear h1
            go_wp2_with fail
            refine (times_any F HF.out.bin HF.out.q HF.out.k8 hg (F.pw k) c1 c2 b hpl _ HA2.out.p HA2.out.q2 HA2.out.g).mono ?_
            rintro e w3 ⟨rfl, rfl⟩
            go_wp2_with fail
            exact ⟨⟨k + 1, _, by omega, by go_num, rfl, HALL2.out, HC2.out, HA2.out, HB2.out⟩, by simp [intOf]; omega⟩
    · have hki : ¬ (k : Int) < (F.q : Int) - 1 := by omega
      have HK : Hid (k = F.q - 1) := Lib.hid (by omega)
      have HR := Lib.hid (fill_end (F := F) (by rw [← HK.out]; exact HALL.out))
      have HT := Lib.hid (show ((((F.pw k : Nat) : Int)) == 1) = fillB F by
        rw [HR.out, ← HK.out]
        by_cases e : F.pw k = 1
        · rw [e]; rfl
        · rw [decide_eq_false e, beq_eq_false_iff_ne]; omega)
      go_wp2_with fail
      go_ret
      exact ⟨ret_bool HT.out, HB1.out, C1, HA1.out.blk, HA1.out.size, HA1.out.bin, HA1.out.q, fun hr => by have := HC.out hr; rwa [HK.out] at this⟩

end Go.Proofs.YtlcglclojlffgaaGreat
namespace Go.Proofs.YtlcglclojlffgaaGreat
open Go.RowKit

/-- low <= n <= high -/
def inB (n lo hi : Int) : Bool := decide (lo ≤ n ∧ n ≤ hi)
theorem inB_iff {n lo hi : Int} : inB n lo hi = true ↔ lo ≤ n ∧ n ≤ hi := by simp [inB]
theorem inB_not {n lo hi : Int} : inB n lo hi = false ↔ n < lo ∨ hi < n := by simp [inB]; omega

set_option maxHeartbeats 400000 in
theorem inRange_any (n lo hi : Int) (w : World) :
    Calls Tryz.prog 34 #[.int .i64 n, .int .i64 lo, .int .i64 hi] w fun e w' => e = .returned (.bool (inB n lo hi)) ∧ w = w' := by
  have e : inB n lo hi = (decide (lo ≤ n) && decide (n ≤ hi)) := by simp [inB]
  rw [e]
  clear e
  go_enter Tryz.func34, Tryz.ntmps34
  go_wp2
  all_goals go_ret
  all_goals exact ⟨ret_bool (by simp; try omega), rfl⟩

set_option maxHeartbeats 400000 in
theorem l01In_any (n lo hi : Int) (w : World) :
    Calls Tryz.prog 23 #[.int .i64 n, .int .i64 lo, .int .i64 hi] w fun e w' => e = .returned (.bool (inB n lo hi)) ∧ w = w' := by
  have e : inB n lo hi = (decide (lo ≤ n) && decide (n ≤ hi)) := by simp [inB]
  rw [e]
  clear e
  go_enter Tryz.func23, Tryz.ntmps23
  go_wp2
  all_goals go_ret
  all_goals exact ⟨ret_bool (by simp; try omega), rfl⟩

theorem inRange_val {n lo hi : Int} {b : Bool} {w : World} (h : inB n lo hi = b) :
    Calls Tryz.prog 34 #[.int .i64 n, .int .i64 lo, .int .i64 hi] w fun e w' => e = .returned (.bool b) ∧ w = w' := h ▸ inRange_any n lo hi w
theorem l01In_val {n lo hi : Int} {b : Bool} {w : World} (h : inB n lo hi = b) :
    Calls Tryz.prog 23 #[.int .i64 n, .int .i64 lo, .int .i64 hi] w fun e w' => e = .returned (.bool b) ∧ w = w' := h ▸ l01In_any n lo hi w

end Go.Proofs.YtlcglclojlffgaaGreat
namespace Go.Proofs.YtlcglclojlffgaaGreat
open Go.RowKit

theorem calc_zero : Tryz.zeroCells96.size = 2044 := by kernel_rfl
/-- the arithmetic of a field is handed back -/
def RetCalc (ok : Bool) (F : Fd) (w : World) (e : Ending) (w' : World) : Prop :=
  Below w.heap.size w w' ∧ ∃ a, e = .returned (.tuple #[.pointer a, .bool ok]) ∧ (ok = true → ∃ b, a = some ⟨b, 0, none⟩ ∧ w.heap.size ≤ b ∧ CalcAt w' b F)
theorem retCalc_no {F : Fd} {w w' : World} {a : Option Addr} (hb : Below w.heap.size w w') : RetCalc false F w (.returned (.tuple #[.pointer a, .bool false])) w' :=
  ⟨hb, a, rfl, fun h => by cases h⟩
set_option maxRecDepth 100000 in
set_option maxHeartbeats 1000000 in
theorem calc_low (k g : Int) (F : Fd) (w : World) (h : ¬ (3 ≤ k ∧ k ≤ 8)) :
    Calls Tryz.prog 33 #[.agg #[.int .i64 2, .int .i64 k, .int .i64 g]] w (RetCalc false F w) := by
  have hr : inB k 3 8 = false := by simp [inB]; omega
  have h13 : inB 2 3 1021 = false := by decide
  by_cases h1 : k = 1
  · subst h1
    clear h
    go_enter Tryz.func33, Tryz.ntmps33
    go_wp2_with fail
    refine (inRange_any _ _ _ _).mono ?_
    rintro e w' ⟨rfl, rfl⟩
    go_wp2_with fail
    refine (inRange_any _ _ _ _).mono ?_
    rintro e w' ⟨rfl, rfl⟩
    go_wp2_with fail
    go_ret2
    exact retCalc_no (ba1 _ _)
  · have h1' : (k == 1) = false := by rw [beq_eq_false_iff_ne]; exact h1
    clear h
    go_enter Tryz.func33, Tryz.ntmps33
    go_wp2_with fail
    refine (inRange_any _ _ _ _).mono ?_
    rintro e w' ⟨rfl, rfl⟩
    go_wp2_with fail
    go_ret2
    exact retCalc_no (ba1 _ _)
theorem calcNew (w : World) (k q : Nat) (g : Int) (hq : q = 2 ^ k) (hk : 3 ≤ k ∧ k ≤ 8) (hg : g / 2 ^ k = 1) :
    FdTry (bF k g.toNat) ∧ (bF k g.toNat).g < 1024 ∧
    FillAt (((w.alloc (.cells #[.int .i64 2, .int .i64 k, .int .i64 g] 30 (0, 0))).alloc (.cells ((Tryz.zeroCells96.setIfInBounds 0 (.bool true)).setIfInBounds 1 (.int .i64 q)) 96 (0, 0))).alloc (.cells #[.pointer (some ⟨w.heap.size + 1, 0, none⟩)] 57 (0, 0)))
      (((w.alloc (.cells #[.int .i64 2, .int .i64 k, .int .i64 g] 30 (0, 0))).alloc (.cells ((Tryz.zeroCells96.setIfInBounds 0 (.bool true)).setIfInBounds 1 (.int .i64 q)) 96 (0, 0))).alloc (.cells #[.pointer (some ⟨w.heap.size + 1, 0, none⟩)] 57 (0, 0)))
      (bF k g.toNat) (w.heap.size + 1) (w.heap.size + 1 + 1) w.heap.size ((Tryz.zeroCells96.setIfInBounds 0 (.bool true)).setIfInBounds 1 (.int .i64 q)) 96 := by
  have hp3 : 2 ^ 3 ≤ 2 ^ k := Nat.pow_le_pow_right (by omega) hk.1
  have hp8 : 2 ^ k ≤ 2 ^ 8 := Nat.pow_le_pow_right (by omega) hk.2
  have hc : ((2 : Int) ^ k) = ((2 ^ k : Nat) : Int) := by push_cast; rfl
  rw [hc] at hg
  have h0 : (0 : Int) < ((2 ^ k : Nat) : Int) := by omega
  have h1 := Int.mul_ediv_self_le (x := g) (k := ((2 ^ k : Nat) : Int)) (by omega)
  have h2 := Int.lt_mul_ediv_self_add (x := g) (k := ((2 ^ k : Nat) : Int)) h0
  rw [hg, Int.mul_one] at h1 h2
  obtain ⟨e1, e2, e3⟩ := heap3 w (.cells #[.int .i64 2, .int .i64 k, .int .i64 g] 30 (0, 0)) (.cells ((Tryz.zeroCells96.setIfInBounds 0 (.bool true)).setIfInBounds 1 (.int .i64 q)) 96 (0, 0)) (.cells #[.pointer (some ⟨w.heap.size + 1, 0, none⟩)] 57 (0, 0))
  have hz := calc_zero
  refine ⟨⟨rfl, rfl, hk.1, hk.2, ⟨?_, ?_, ?_⟩⟩, ?_, ⟨e2, ?_, ?_, ?_, ?_, ?_⟩⟩
  · show 3 ≤ 2 ^ k; omega
  · intro _
    refine ⟨rfl, ?_, ?_⟩
    · show 2 ^ k ≤ g.toNat; omega
    · show g.toNat < 2 ^ (k + 1); rw [Nat.pow_succ]; omega
  · intro h; cases h
  · show g.toNat < 1024; omega
  · rw [(heap_cellR e3).1]; rfl
  · rw [(heap_cellR e1).1]
    show some (Value.int .i64 g) = some (Value.int .i64 (g.toNat : Nat))
    rw [Int.toNat_of_nonneg (by omega)]
  · rw [Array.size_setIfInBounds, Array.size_setIfInBounds, hz]
  · rw [Array.getElem?_setIfInBounds_ne (by omega), Array.getElem?_setIfInBounds_self_of_lt (by omega)]; rfl
  · rw [Array.getElem?_setIfInBounds_self_of_lt (by rw [Array.size_setIfInBounds]; omega), hq]; rfl
set_option maxRecDepth 100000 in
set_option maxHeartbeats 1000000 in
theorem calc_mid (k : Nat) (g : Int) (w : World) (h : 3 ≤ k ∧ k ≤ 8) (hg : g / 2 ^ k ≠ 1) :
    Calls Tryz.prog 33 #[.agg #[.int .i64 2, .int .i64 k, .int .i64 g]] w (RetCalc false (bF k g.toNat) w) := by
  have h1 : ((k : Int) == 1) = false := by rw [beq_eq_false_iff_ne]; omega
  have hr : inB (k : Int) 3 8 = true := by simp [inB]; omega
  have hg' : (g / 2 ^ k == 1) = false := by rw [beq_eq_false_iff_ne]; exact hg
  clear hg
  go_enter Tryz.func33, Tryz.ntmps33
  go_wp2_with fail
  refine (inRange_any _ _ _ _).mono ?_
  rintro e w' ⟨rfl, rfl⟩
  go_wp2_with fail
  go_ret2
  exact retCalc_no (ba1 _ _)
set_option maxRecDepth 100000 in
set_option maxHeartbeats 1000000 in
theorem calc_top (k : Nat) (g : Int) (w : World) (h : 3 ≤ k ∧ k ≤ 8) (hg : g / 2 ^ k = 1) :
    Calls Tryz.prog 33 #[.agg #[.int .i64 2, .int .i64 k, .int .i64 g]] w (RetCalc (fillB (bF k g.toNat)) (bF k g.toNat) w) := by
  have h1 : ((k : Int) == 1) = false := by rw [beq_eq_false_iff_ne]; omega
  have hr : inB (k : Int) 3 8 = true := by simp [inB]; omega
  have hg' : (g / 2 ^ k == 1) = true := by rw [beq_iff_eq]; exact hg
  obtain ⟨q, hq⟩ : ∃ q : Nat, q = 2 ^ k := ⟨_, rfl⟩
  have hw : wrap64 ((2 : Int) ^ k) = (q : Int) := by
    have hp8 : 2 ^ k ≤ 2 ^ 8 := Nat.pow_le_pow_right (by omega) h.2
    have hc : ((2 : Int) ^ k) = ((2 ^ k : Nat) : Int) := by push_cast; rfl
    rw [hc, ← hq]
    have : q ≤ 256 := by omega
    unfold wrap64; omega
  have HN := Lib.hid (calcNew w k q g hq h hg)
  clear hg hq
  go_enter Tryz.func33, Tryz.ntmps33
  go_wp2_with fail
  refine (inRange_any _ _ _ _).mono ?_
  rintro e w' ⟨rfl, rfl⟩
  go_wp2_with fail
  refine (fill_any (bF k g.toNat) HN.out.1 HN.out.2.1 (w.heap.size + 1) (w.heap.size + 1 + 1) w.heap.size _ _ _ (by omega) (by omega) HN.out.2.2).mono ?_
  rintro e w2 ⟨rfl, hg2, C, hC, -, -, -, hR⟩
  have hp : w2.cell? ⟨w.heap.size + 1 + 1, 0, none⟩ = some (.pointer (some ⟨w.heap.size + 1, 0, none⟩)) := by
    have e3 := (heap3 w (.cells #[.int .i64 2, .int .i64 k, .int .i64 g] 30 (0, 0)) (.cells ((Tryz.zeroCells96.setIfInBounds 0 (.bool true)).setIfInBounds 1 (.int .i64 q)) 96 (0, 0)) (.cells #[.pointer (some ⟨w.heap.size + 1, 0, none⟩)] 57 (0, 0))).2.2
    have e4 := (hg2.block (w.heap.size + 1 + 1) (blkLt e3) (by simp)).trans e3
    rw [(heap_cellR e4).1]; rfl
  have HB := Lib.hid ((ba3 _ _ _ _).trans (below_of_grownBy hg2 (by simp; omega) (fun j e => by cases e; omega)))
  have HR : Hid (fillB (bF k g.toNat) = true → CalcAt w2 (w.heap.size + 1) (bF k g.toNat)) := Lib.hid (fun h => ⟨C, _, hC, hR (by rwa [fillB, decide_eq_true_iff] at h)⟩)
  clear hg2 hC hR
  go_wp2_with fail
  go_ret2
  exact ⟨HB.out, _, rfl, fun h => ⟨_, rfl, by omega, HR.out h⟩⟩
/-- the arithmetic of a field whose prime is 2 -/
theorem calc_two (k g : Int) (w : World) :
    Calls Tryz.prog 33 #[.agg #[.int .i64 2, .int .i64 k, .int .i64 g]] w (RetCalc (fldB 2 k g) (bF k.toNat g.toNat) w) := by
  by_cases h : 3 ≤ k ∧ k ≤ 8
  · obtain ⟨k, rfl⟩ := Int.eq_ofNat_of_zero_le (show 0 ≤ k by omega)
    have hc : ((2 : Int) ^ k) = ((2 ^ k : Nat) : Int) := by push_cast; rfl
    have h0 : (0 : Int) < ((2 ^ k : Nat) : Int) := by have := Nat.two_pow_pos k; omega
    by_cases hg : g / 2 ^ k = 1
    · have e : fldB 2 k g = fillB (bF k g.toNat) := by
        have h1 := Int.mul_ediv_self_le (x := g) (k := ((2 ^ k : Nat) : Int)) (by omega)
        have h2 := Int.lt_mul_ediv_self_add (x := g) (k := ((2 ^ k : Nat) : Int)) h0
        rw [← hc, hg, Int.mul_one, hc] at h1 h2
        unfold fldB fillB
        have e1 : decide ((3 : Int) ≤ k) = true := by simp; omega
        have e2 : decide ((k : Int) ≤ 8) = true := by simp; omega
        have e3 : decide (((2 ^ (k : Int).toNat : Nat) : Int) ≤ g) = true := by rw [Int.toNat_natCast]; exact decide_eq_true h1
        have e4 : decide (g < ((2 * 2 ^ (k : Int).toNat : Nat) : Int)) = true := by rw [Int.toNat_natCast]; exact decide_eq_true (by omega)
        rw [e1, e2, e3, e4]; rfl
      rw [e]
      exact calc_top k g w (by omega) hg
    · have e : fldB 2 k g = false := by
        cases hf : fldB 2 k g with
        | false => rfl
        | true =>
          exfalso
          apply hg
          have ho := fldB_ok hf
          simp only [fldB, Bool.and_eq_true, decide_eq_true_eq, Int.toNat_natCast] at hf
          rw [hc]
          have h3 := hf.1.1.2
          have h4 := hf.1.2
          have h5 := Int.emod_add_mul_ediv g ((2 ^ k : Nat) : Int)
          have h6 : g = ((2 ^ k : Nat) : Int) * 1 + (g - ((2 ^ k : Nat) : Int)) := by omega
          rw [h6, Int.add_comm, Int.add_mul_ediv_left _ _ (by omega), Int.ediv_eq_zero_of_lt (by omega) (by omega)]; rfl
      rw [e]
      exact calc_mid k g w (by omega) hg
  · have e : fldB 2 k g = false := by
      cases hf : fldB 2 k g with
      | false => rfl
      | true =>
        exfalso
        simp only [fldB, Bool.and_eq_true, decide_eq_true_eq] at hf
        exact h ⟨hf.1.1.1.1.2, hf.1.1.1.2⟩
    rw [e]
    exact calc_low k g _ w h

end Go.Proofs.YtlcglclojlffgaaGreat
namespace Go.Proofs.YtlcglclojlffgaaGreat
open Go.RowKit

/-- a valid field's numbers -/
structure FdOk (F : Fd) : Prop where
  try' : FdTry F
  runs : F.Runs
theorem FldOk.ok {p k g : Int} {F : Fd} (h : FldOk p k g F) : FdOk F := ⟨⟨h.bin, h.q, h.k3, h.k8, h.fit⟩, h.runs⟩
theorem FdOk.fit {F : Fd} (h : FdOk F) : F.Fit := h.try'.fit
theorem FdOk.q_bd {F : Fd} (h : FdOk F) : 8 ≤ F.q ∧ F.q ≤ 256 := h.try'.q_bd
/-- a value is handed back; the world stands, but for what has been drawn -/
def RetQ (v : Value) (w : World) (e : Ending) (w' : World) : Prop := e = .returned v ∧ ∃ n, w' = w.drewN n
theorem RetQ.below {v : Value} {w w' : World} {e : Ending} (h : RetQ v w e w') : e = .returned v ∧ Below w.heap.size w w' := by
  obtain ⟨h1, n, rfl⟩ := h
  exact ⟨h1, below_drewN (Below.refl _ _) n⟩
theorem calls_quiet {P : Program} {f : FuncId} {args : Array Value} {w : World} {n : Nat} {v : Value} (h : Calls P f args (w.drewN n) (RetQ v (w.drewN n))) : Calls P f args (w.drewN n) fun e w'' => e = .returned v ∧ ∃ m, w'' = w.drewN m :=
  Calls.quiet_of h

set_option maxHeartbeats 400000 in
theorem has_any (F : Fd) (hF : FdOk F) (b : Nat) (x : Int) (w : World) (hA : CalcAt w b F) :
    Calls Tryz.prog 79 #[.pointer (some ⟨b, 0, none⟩), .int .i64 x] w fun e w' => e = .returned (.bool (inB x 0 ((F.q : Int) - 1))) ∧ w = w' := by
  obtain ⟨h0, h1, -, -⟩ := hA.cell
  have hq := hF.q_bd
  clear hA hF
  go_enter Tryz.func79, Tryz.ntmps79
  go_wp2_with fail
  refine (inRange_any _ _ _ _).mono ?_
  rintro e w' ⟨rfl, rfl⟩
  go_wp2_with fail
  go_ret
  exact ⟨rfl, rfl⟩
/-- all numbers of a list are elements -/
def elsB (q : Nat) (xs : List Int) : Bool := xs.all fun x => inB x 0 ((q : Int) - 1)
theorem elsB_snoc {q : Nat} {xs : List Int} {k : Nat} {x : Int} (h : xs[k]? = some x) : elsB q (xs.take (k + 1)) = (elsB q (xs.take k) && inB x 0 ((q : Int) - 1)) := by
  rw [elsB, take_snoc' h, List.all_append]; simp [elsB]
theorem elsB_no {q : Nat} {xs : List Int} {k : Nat} {x : Int} (h : xs[k]? = some x) (hx : inB x 0 ((q : Int) - 1) = false) : elsB q xs = false := by
  rw [elsB, List.all_eq_false]
  exact ⟨x, List.mem_of_getElem? h, by rw [hx]; decide⟩
/-- numbers as the memory holds them -/
def natI (zs : List Nat) : List Int := zs.map fun (n : Nat) => (n : Int)
theorem natI_len (zs : List Nat) : (natI zs).length = zs.length := List.length_map _
theorem natI_at {zs : List Nat} {k : Nat} {x : Int} (h : (natI zs)[k]? = some x) : ∃ z, zs[k]? = some z ∧ x = z := by
  rw [natI, List.getElem?_map] at h
  cases hz : zs[k]? with
  | none => rw [hz] at h; cases h
  | some z => rw [hz] at h; exact ⟨z, rfl, (Option.some.inj h).symm⟩
theorem elsB_nat {q : Nat} {xs : List Int} (h : elsB q xs = true) : xs = natI (xs.map Int.toNat) ∧ ∀ x ∈ xs.map Int.toNat, x < q := by
  rw [elsB, List.all_eq_true] at h
  constructor
  · rw [natI, List.map_map]
    apply List.ext_getElem (by simp)
    intro i h1 h2
    have := inB_iff.1 (h xs[i] (List.getElem_mem h1))
    simp; omega
  · intro x hx
    obtain ⟨y, hy, rfl⟩ := List.mem_map.1 hx
    have := inB_iff.1 (h y hy)
    omega
theorem elsB_of {q : Nat} {zs : List Nat} (h : ∀ z ∈ zs, z < q) : elsB q (natI zs) = true := by
  rw [elsB, List.all_eq_true]
  intro x hx
  obtain ⟨z, hz, rfl⟩ := List.mem_map.1 hx
  have := h z hz
  rw [inB_iff]; omega
set_option maxHeartbeats 1000000 in
theorem hasAll_any (F : Fd) (hF : FdOk F) (b : Nat) (a : Option Addr) (xs : List Int) (c : Nat) (w : World) (hA : CalcAt w b F) (hx : IntsAt w a xs) (lx : xs.length ≤ 1099511627776) :
    Calls Tryz.prog 41 #[.pointer (some ⟨b, 0, none⟩), .slice a xs.length c] w fun e w' => e = .returned (.bool (elsB F.q xs)) ∧ w = w' := by
  have HA := Lib.hid hA
  have HX := Lib.hid hx
  clear hA hx
  go_enter Tryz.func41, Tryz.ntmps41
  go_wp2_with fail
  go_loop [6, 9] (fun _ i => ∃ k : Nat, k ≤ xs.length ∧ i = .int .i64 k ∧ elsB F.q (xs.take k) = true) (fun _ i => xs.length - (intOf i).toNat)
  case atStart => exact ⟨0, Nat.zero_le _, rfl, rfl⟩
  case round =>
    obtain ⟨k, hk, rfl, hE⟩ := hrel
    have HE := Lib.hid hE
    clear hE
    by_cases hlt : k < xs.length
    · obtain ⟨b1, o1, x, rfl, hxk, hb1, hc1⟩ := HX.out.at hlt
      have hki : (k : Int) < (xs.length : Int) := by omega
      have HS := Lib.hid (elsB_snoc (q := F.q) hxk)
      have HXK := Lib.hid hxk
      clear hxk
      rcases Bool.eq_false_or_eq_true (inB x 0 ((F.q : Int) - 1)) with hin | hin
      · go_wp2_with fail
        refine (has_any F hF b x _ HA.out).mono ?_
        rw [hin]
        rintro e w' ⟨rfl, rfl⟩
        go_wp2_with fail
        exact ⟨⟨k + 1, by omega, by go_num, by rw [HS.out, HE.out, hin]; rfl⟩, by simp [intOf]; omega⟩
      · have HR := Lib.hid (elsB_no HXK.out hin)
        go_wp2_with fail
        refine (has_any F hF b x _ HA.out).mono ?_
        rw [hin]
        rintro e w' ⟨rfl, rfl⟩
        go_wp2_with fail
        go_ret
        exact ⟨ret_bool HR.out.symm, rfl⟩
    · have hki : ¬ (k : Int) < (xs.length : Int) := by omega
      obtain rfl : k = xs.length := by omega
      have HR : Hid (elsB F.q xs = true) := Lib.hid (by have := HE.out; rwa [List.take_length] at this)
      go_wp2_with fail
      go_ret
      exact ⟨ret_bool HR.out.symm, rfl⟩
set_option maxHeartbeats 400000 in
theorem add_any (F : Fd) (hF : FdOk F) (b x y : Nat) (hx : x < F.q) (hy : y < F.q) (w : World) (hA : CalcAt w b F) :
    Calls Tryz.prog 129 #[.pointer (some ⟨b, 0, none⟩), .int .i64 x, .int .i64 y] w fun e w' => e = .returned (.int .i64 (F.add x y : Nat)) ∧ w = w' := by
  have h0 := hA.cell.1
  have hq := hF.q_bd
  rw [hF.try'.bin] at h0
  have HR : Hid (bits BinOp.xor IntKind.i64 (x : Int) (y : Int) = ((F.add x y : Nat) : Int)) := Lib.hid (by
    rw [xor64 _ _ (by omega) (by omega), Fd.add, if_pos hF.try'.bin])
  clear hA hF
  go_enter Tryz.func129, Tryz.ntmps129
  go_wp2_with fail
  go_ret
  exact ⟨ret_int HR.out, rfl⟩
set_option maxHeartbeats 400000 in
theorem neg_any (F : Fd) (hF : FdOk F) (b x : Nat) (w : World) (hA : CalcAt w b F) :
    Calls Tryz.prog 83 #[.pointer (some ⟨b, 0, none⟩), .int .i64 x] w fun e w' => e = .returned (.int .i64 (F.neg x : Nat)) ∧ w = w' := by
  have h0 := hA.cell.1
  rw [hF.try'.bin] at h0
  have HR : Hid (F.neg x = x) := Lib.hid (by rw [Fd.neg, if_pos hF.try'.bin])
  clear hA hF
  go_enter Tryz.func83, Tryz.ntmps83
  go_wp2_with fail
  go_ret
  exact ⟨ret_int (by rw [HR.out]), rfl⟩
set_option maxHeartbeats 400000 in
theorem sub_any (F : Fd) (hF : FdOk F) (b x y : Nat) (hx : x < F.q) (hy : y < F.q) (w : World) (hA : CalcAt w b F) :
    Calls Tryz.prog 113 #[.pointer (some ⟨b, 0, none⟩), .int .i64 x, .int .i64 y] w fun e w' => e = .returned (.int .i64 (F.add x (F.neg y) : Nat)) ∧ w = w' := by
  have HA := Lib.hid hA
  clear hA
  go_enter Tryz.func113, Tryz.ntmps113
  go_wp2_with fail
  refine (neg_any F hF b y _ HA.out).mono ?_
  rintro e w' ⟨rfl, rfl⟩
  go_wp2_with fail
  refine (add_any F hF b x (F.neg y) hx (F.neg_lt hy) _ HA.out).mono ?_
  rintro e w' ⟨rfl, rfl⟩
  go_wp2_with fail
  go_ret
  exact ⟨rfl, rfl⟩
set_option maxHeartbeats 400000 in
theorem power_any (F : Fd) (hF : FdOk F) (b n : Nat) (hn : n ≤ 1000000) (w : World) (hA : CalcAt w b F) :
    Calls Tryz.prog 115 #[.pointer (some ⟨b, 0, none⟩), .int .i64 n] w (RetQ (.int .i64 (F.pw n : Nat)) w) := by
  obtain ⟨-, h1, h2, -⟩ := hA.cell
  have hq := hF.q_bd
  have hm : n % (F.q - 1) < F.q - 1 := Nat.mod_lt _ (by omega)
  have hc := h2 _ hm
  rw [F.pw_mod hF.runs hF.fit] at hc
  have e1 : (n : Int) % ((F.q : Int) - 1) = ((n % (F.q - 1) : Nat) : Int) := by push_cast; rw [Int.natCast_sub (by omega)]; rfl
  clear h2 hA hF
  generalize n % (F.q - 1) = m at *
  go_enter Tryz.func115, Tryz.ntmps115
  go_wp2_with fail
  go_quiet (fail)
  go_wp2_with fail
  go_ret
  exact ⟨rfl, _, rfl⟩

end Go.Proofs.YtlcglclojlffgaaGreat
