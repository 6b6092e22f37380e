import Derived.Test.YtkmfgchbfchdbaaGreatDoorRows
import Derived.WalkKit
import Derived.WalkSpells
import Derived.WalkLawsBesides
import Derived.Deep.QuietTactic
import Derived.BigQuiet
import Derived.Deep.RegionLaw
import Derived.Deep.DeepFit
import Derived.Deep.DeepMust
import Derived.Lib.Hide
import Derived.Test.YtkmfgchbfchdbaaGreatDoorShelf
import Derived.Lib.ItoaLen
import Derived.Lib.ItoaMem
import Derived.Test.YtkmfgchbfchdbaaGreatDoorCards
import Derived.Test.YtkmfgchbfchdbaaGreatDoorTie
import Derived.ProofKit
import Derived.OpenShut
import Derived.Deep.DeepHandedRow
import Derived.Lib.LaidTab
import Derived.Stop.LaidErr
import Derived.Lib.ParseIntBTie
import Derived.Lib.AppendStr
import Derived.Laws.BytesArg
import Derived.Lib.SplitLaws
import Derived.Lib.ParseIntBCases
namespace Go.Proofs.YtkmfgchbfchdbaaGreatDoor
open Go.RowKit

theorem bcell {W w1 : World} {B : Nat} (hb : Below B W w1) : (∀ b o, b < B → w1.cell? ⟨b, o, none⟩ = W.cell? ⟨b, o, none⟩) ∧ (∀ b o, b < B → w1.frozen? ⟨b, o, none⟩ = W.frozen? ⟨b, o, none⟩) :=
  ⟨fun b o h => hb.cell (p := ⟨b, o, none⟩) h, fun b o h => hb.frozen (p := ⟨b, o, none⟩) h⟩

theorem lt_of_cell {w : World} {b o : Nat} {v : Value} (h : w.cell? ⟨b, o, none⟩ = some v) : b < w.heap.size := World.block_lt_of_cell? w ⟨b, o, none⟩ h

theorem ba1 (w : World) (o : Obj) : Below w.heap.size w (w.alloc o) := (Below.refl _ _).alloc (Nat.le_refl _) _
theorem ba2 (w : World) (o o' : Obj) : Below w.heap.size w ((w.alloc o).alloc o') := (ba1 w o).alloc (by simp) _
theorem ba3 (w : World) (o o' o'' : Obj) : Below w.heap.size w (((w.alloc o).alloc o').alloc o'') := (ba2 w o o').alloc (by simp; omega) _
theorem ba4 (w : World) (o o' o'' o3 : Obj) : Below w.heap.size w ((((w.alloc o).alloc o').alloc o'').alloc o3) := (ba3 w o o' o'').alloc (by simp; omega) _
theorem bt0 {B : Nat} {a b c : World} (h : Below B a b) (k : Below b.heap.size b c) (hB : B ≤ a.heap.size) : Below B a c := h.trans (k.mono (Nat.le_trans hB h.size))
theorem bt1 {w w1 : World} {o : Obj} (h : Below (w.alloc o).heap.size (w.alloc o) w1) : Below w.heap.size w w1 := bt0 (ba1 w o) h (Nat.le_refl _)
theorem bt2 {w w1 : World} {o o' : Obj} (h : Below ((w.alloc o).alloc o').heap.size ((w.alloc o).alloc o') w1) : Below w.heap.size w w1 := bt0 (ba2 w o o') h (Nat.le_refl _)
theorem bt3 {w w1 : World} {o o' o'' : Obj} (h : Below (((w.alloc o).alloc o').alloc o'').heap.size (((w.alloc o).alloc o').alloc o'') w1) : Below w.heap.size w w1 := bt0 (ba3 w o o' o'') h (Nat.le_refl _)

theorem undrew {w w1 : World} (h : Below w.drew.heap.size w.drew w1) : Below w.heap.size w w1 := ⟨h.os, h.tape, h.output, h.size, h.block⟩

/-- a new block's cells, behind a call -/
theorem box1 {w w1 : World} {cs : Array Value} {t : TypeId} (hb : Below (w.alloc (.cells cs t)).heap.size (w.alloc (.cells cs t)) w1) : ∀ i, w1.cell? ⟨w.heap.size, i, none⟩ = cs[i]? := fun i => by
  rw [hb.cell (p := ⟨w.heap.size, i, none⟩) (by simp)]; simp
theorem boxK {w w1 : World} {b : Nat} {cs : Array Value} (hb : Below w.heap.size w w1) (h : ∀ i, w.cell? ⟨b, i, none⟩ = cs[i]?) (h0 : 0 < cs.size) : ∀ i, w1.cell? ⟨b, i, none⟩ = cs[i]? := fun i => by
  have h1 : b < w.heap.size := lt_of_cell (v := cs[0]) (by rw [h 0]; simp [h0])
  rw [hb.cell (p := ⟨b, i, none⟩) h1]; exact h i
theorem boxLt {w : World} {b : Nat} {cs : Array Value} (h : ∀ i, w.cell? ⟨b, i, none⟩ = cs[i]?) (h0 : 0 < cs.size) : b < w.heap.size := lt_of_cell (v := cs[0]) (by rw [h 0]; simp [h0])

/-- the slice at address a holds the numbers zs -/
def IntsAt (w : World) (a : Option Addr) (zs : List Int) : Prop :=
  ∀ i (h : i < zs.length), ∃ b o, a = some ⟨b, o, none⟩ ∧ w.cell? ⟨b, o + i, none⟩ = some (.int .i64 zs[i])

theorem IntsAt.at {w : World} {a : Option Addr} {zs : List Int} (H : IntsAt w a zs) {k : Nat} (hk : k < zs.length) :
    ∃ b o z, a = some ⟨b, o, none⟩ ∧ zs[k]? = some z ∧ b < w.heap.size ∧ w.cell? ⟨b, o + k, none⟩ = some (.int .i64 z) := by
  obtain ⟨b, o, ha, hc⟩ := H k hk
  exact ⟨b, o, zs[k], ha, List.getElem?_eq_getElem hk, lt_of_cell hc, hc⟩

theorem IntsAt.below {w w' : World} {a : Option Addr} {zs : List Int} (H : IntsAt w a zs) (hb : Below w.heap.size w w') : IntsAt w' a zs := by
  intro i h
  obtain ⟨b, o, ha, hc⟩ := H i h
  exact ⟨b, o, ha, by rw [hb.cell (p := ⟨b, o + i, none⟩) (lt_of_cell hc)]; exact hc⟩

theorem IntsAt.nil {w : World} {a : Option Addr} : IntsAt w a [] := fun i h => absurd h (by simp)

theorem take_snoc' {α : Type} {zs : List α} {k : Nat} {z : α} (h : zs[k]? = some z) : zs.take (k + 1) = zs.take k ++ [z] := by
  rw [List.take_add_one, h]; rfl

theorem ret_int {k : IntKind} {a b : Int} (h : a = b) : Ending.returned (.int k a) = .returned (.int k b) := by rw [h]
theorem ret_str {a b : ByteArray} (h : a = b) : Ending.returned (.string a) = .returned (.string b) := by rw [h]
theorem ret_bool {a b : Bool} (h : a = b) : Ending.returned (.bool a) = .returned (.bool b) := by rw [h]

/-- the worlds that keep all that is in w -/
def Ext (w : World) : Type := { w' : World // Below w.heap.size w w' }
instance extNonempty (w : World) : Nonempty (Ext w) := ⟨⟨w, Below.refl _ _⟩⟩
def Ext.w {w : World} (s : Ext w) : World := s.1
theorem Ext.below {w : World} (s : Ext w) : Below w.heap.size w s.w := s.2
@[go_sem] theorem Ext.cell {w : World} (s : Ext w) (b o : Nat) (h : b < w.heap.size) : s.w.cell? ⟨b, o, none⟩ = w.cell? ⟨b, o, none⟩ := s.2.cell (p := ⟨b, o, none⟩) h
@[go_sem] theorem Ext.frozen {w : World} (s : Ext w) (b o : Nat) (h : b < w.heap.size) : s.w.frozen? ⟨b, o, none⟩ = w.frozen? ⟨b, o, none⟩ := s.2.frozen (p := ⟨b, o, none⟩) h

theorem wp_region_ext {P : Program} {id : Nat} {Q : Exit → Act → World → Prop} {a : Act} {w : World} {l : List Oper} (hm : P.follows .mixedOrders = true) (hB : Region.lexB .any l.toArray = true)
    (h : wpQuiet P l.toArray (fun w' => ∃ s : Ext w, w' = s.w) (fun a' => ∀ w', (∃ s : Ext w, w' = s.w) → Q .normal a' w') l a) : (Code.region id l.toArray true).wp P Q a w :=
  wp_region_quiet (C := fun w' => ∃ s : Ext w, w' = s.w) hm hB ⟨⟨_, (Below.refl _ _).drew⟩, rfl⟩ (by simpa using h)

theorem calls_ext {P : Program} {f : FuncId} {args : Array Value} {w : World} {v : Value} (s : Ext w)
    (h : Calls P f args s.w fun e w' => e = .returned v ∧ Below s.w.heap.size s.w w') : Calls P f args s.w fun e w'' => e = .returned v ∧ ∃ s' : Ext w, w'' = s'.w :=
  h.mono fun _ w' ⟨he, hb⟩ => ⟨he, ⟨w', s.below.trans (hb.mono s.below.size)⟩, rfl⟩
theorem calls_ext_same {P : Program} {f : FuncId} {args : Array Value} {w : World} {v : Value} (s : Ext w)
    (h : Calls P f args s.w fun e w' => e = .returned v ∧ s.w = w') : Calls P f args s.w fun e w'' => e = .returned v ∧ ∃ s' : Ext w, w'' = s'.w :=
  h.mono fun _ _ ⟨he, hb⟩ => ⟨he, s, hb.symm⟩

/-- the slice v is the call's own (blocks from base on) and holds the numbers zs -/
def OwnI (w : World) (base : Nat) (v : Value) (zs : List Int) : Prop := w.ownsRow base 2 1 v zs.length (zs.map (Value.int .i64))

theorem OwnI.read {w : World} {base : Nat} {v : Value} {zs : List Int} (h : OwnI w base v zs) : ∃ a c, v = .slice a zs.length c ∧ IntsAt w a zs := by
  unfold OwnI at h
  have h2 := h.2
  rcases h2 with ⟨rfl, h0⟩ | ⟨g, cap, cur, rfl, hb, hg, hn, hm, hs, ht⟩
  · refine ⟨none, 0, by rw [h0], ?_⟩
    intro i hi; omega
  · refine ⟨some ⟨g, 0, none⟩, cap, rfl, ?_⟩
    intro i hi
    refine ⟨g, 0, rfl, ?_⟩
    rw [Nat.zero_add, h.cellAt i (by omega)]
    simp [hi]

theorem OwnI.len {w : World} {base : Nat} {v : Value} {zs : List Int} (h : OwnI w base v zs) : zs.length ≤ maxLen := by
  rcases h.2 with ⟨_, h0⟩ | ⟨g, cap, cur, rfl, hb, hg, hn, hm, hs, ht⟩
  · rw [h0]; exact Nat.zero_le _
  · omega

/-- a slice of the call's own that is not empty -/
theorem OwnI.block {w : World} {base : Nat} {a : Option Addr} {n c : Nat} {zs : List Int} (h : OwnI w base (.slice a n c) zs) (hk : 0 < zs.length) : ∃ g, a = some ⟨g, 0, none⟩ ∧ base ≤ g ∧ n = zs.length ∧ g < w.heap.size := by
  rcases h.2 with ⟨h1, h0⟩ | ⟨g, cap, cur, h1, hb, hg, _⟩
  · omega
  · simp only [Value.slice.injEq] at h1
    obtain ⟨rfl, rfl, rfl⟩ := h1
    exact ⟨g, rfl, hb, rfl, (Array.getElem?_eq_some_iff.1 hg).1⟩

theorem OwnI.grown {w w' : World} {base : Nat} {v : Value} {zs : List Int} (h : OwnI w base v zs) (hb : Below w.heap.size w w') : OwnI w' base v zs :=
  h.kept (row := none) ⟨hb.os, hb.tape, hb.output, hb.size, fun k hk _ => hb.block k hk⟩ (by cases hv : v.ownBlock <;> simp)

theorem OwnI.weak {w : World} {base base' : Nat} {v : Value} {zs : List Int} (h : OwnI w base v zs) (hb : base' ≤ base) : OwnI w base' v zs := by
  refine ⟨h.1, ?_⟩
  rcases h.2 with h2 | ⟨g, cap, cur, h1, hb', r⟩
  · exact Or.inl h2
  · exact Or.inr ⟨g, cap, cur, h1, by omega, r⟩

theorem OwnI.setOld {w : World} {base : Nat} {v : Value} {zs : List Int} (h : OwnI w base v zs) {a : Addr} (ha : a.block < base) (u : Value) : OwnI (w.setCell a u) base v zs := ownsRow_setCell_below h ha u

theorem OwnI.drew {w : World} {base : Nat} {v : Value} {zs : List Int} (h : OwnI w base v zs) : OwnI w.drew base v zs := h

theorem grownBy_trans {a b c : World} {row : Option Nat} (h : a.grownBy b row) (k : b.grownBy c row) : a.grownBy c row :=
  ⟨k.os.trans h.os, k.tape.trans h.tape, k.output.trans h.output, Nat.le_trans h.size k.size, fun i hi hr => (k.block i (Nat.lt_of_lt_of_le hi h.size) hr).trans (h.block i hi hr)⟩

theorem below_of_grownBy {B : Nat} {w w' : World} {row : Option Nat} (h : w.grownBy w' row) (hB : B ≤ w.heap.size) (hr : ∀ k, row = some k → B ≤ k) : Below B w w' :=
  (Below.refl B w).grown h hB hr


theorem infoI : (Tryz.prog.info? 2).map (fun i => (i.zero, i.size, i.bytes)) = some (some (.int .i64 0), 1, 8) := by kernel_rfl

theorem OwnI.cellAt {w : World} {base g n c : Nat} {zs : List Int} (h : OwnI w base (.slice (some ⟨g, 0, none⟩) n c) zs) (hn : n = zs.length) {k : Nat} (hk : k < zs.length) :
    ∃ z, zs[k]? = some z ∧ w.cell? ⟨g, k, none⟩ = some (.int .i64 z) ∧ w.frozen? ⟨g, k, none⟩ = false := by
  subst hn
  refine ⟨zs[k], by simp [hk], ?_, h.frozenAt k⟩
  rw [World.ownsRow.cellAt h k (by omega)]
  simp [hk]

theorem OwnI.stored {w : World} {base g n c : Nat} {zs : List Int} (h : OwnI w base (.slice (some ⟨g, 0, none⟩) n c) zs) (hn : n = zs.length) (k : Nat) (z : Int) :
    OwnI (w.setCell ⟨g, k, none⟩ (.int .i64 z)) base (.slice (some ⟨g, 0, none⟩) n c) (zs.set k z) ∧ w.grownBy (w.setCell ⟨g, k, none⟩ (.int .i64 z)) (some g) := by
  subst hn
  have hst := World.ownsRow.stored (h := h) k (.int .i64 z)
  refine ⟨?_, hst.2⟩
  unfold OwnI
  rw [List.map_set, List.length_set]
  exact hst.1

theorem OwnI.of_made {w : World} {base : Nat} {v : Value} {n : Nat} (h : w.ownsRow base 2 1 v n (madeCells #[.int .i64 0] n).toList) : OwnI w base v (List.replicate n 0) := by
  unfold OwnI
  rw [toList_madeCells_one] at h
  simpa using h

theorem heap_cellR {w : World} {g : Nat} {C : Array Value} {t : TypeId} (h : w.heap[g]? = some (.cells C t (0, 0))) : (∀ i, w.cell? ⟨g, i, none⟩ = C[i]?) ∧ (∀ i, w.frozen? ⟨g, i, none⟩ = false) := ⟨fun i => by simp [World.cell?, h], fun i => by simp [World.frozen?, h]⟩

end Go.Proofs.YtkmfgchbfchdbaaGreatDoor
namespace Go.Proofs.YtkmfgchbfchdbaaGreatDoor
open Go.RowKit

/-- the library's table of powers of ten lies in memory -/
def Tab (w : World) : Prop := Lib.TabIs Tryz.prog w "internal/strconv.uint64pow10" .u64 Lib.pow10Tab

theorem gTab : Tryz.prog.globalNamed "internal/strconv.uint64pow10" = some 1 := by kernel_rfl

theorem Tab.lt {w : World} (h : Tab w) : 1 < w.heap.size := by
  have hc := Lib.TabIs.cell h gTab 0 (by decide)
  exact lt_of_cell hc

theorem Tab.below {w w' : World} {B : Nat} (h : Tab w) (hb : Below B w w') (hB : 1 < B) : Tab w' :=
  var?_below hb gTab hB h

theorem Tab.next {w w' : World} (h : Tab w) (hb : Below w.heap.size w w') : Tab w' := h.below hb h.lt

theorem Tab.alloc {w : World} (h : Tab w) (o : Obj) : Tab (w.alloc o) := h.next ((Below.refl _ _).alloc (Nat.le_refl _) _)
theorem Tab.ext {w : World} (h : Tab w) (s : Ext w) : Tab s.w := h.next s.below

/-- a number in decimal -/
def decB (n : Int) : ByteArray := ⟨(Lib.itoa n).toArray⟩

theorem decB_size (n : Int) : (decB n).size = (Lib.itoa n).length := by simp [decB, ByteArray.size]

theorem below_grow (w : World) (k : Nat) (os : Array Obj) : Below w.heap.size w (Go.Sort.grow (w.drewN k) os) := by
  refine ⟨rfl, rfl, rfl, ?_, ?_⟩
  · simp [Go.Sort.grow, World.drewN]
  · intro i hi
    simp only [Go.Sort.grow, World.drewN]
    rw [Array.getElem?_append_left hi]

theorem formatInt_any (n : Int) (w : World) (h0 : -9223372036854775808 ≤ n) (h1 : n ≤ 9223372036854775807) (ht : Tab w) :
    Calls Tryz.prog 72 #[.int .i64 n, .int .i64 10] w fun e w' => e = .returned (.string (decB n)) ∧ Below w.heap.size w w' :=
  (Tryz.strconv_FormatInt_10 n h0 h1 w ht).mono fun _ _ ⟨he, k, os, hw⟩ => ⟨he, by rw [hw]; exact below_grow _ _ _⟩

end Go.Proofs.YtkmfgchbfchdbaaGreatDoor
namespace Go.Proofs.YtkmfgchbfchdbaaGreatDoor
open Go.ChangeShapes Go.WideShapes Go.ChangeAt Go.RowKit

theorem ownLaw : ownKnob Tryz.prog.godebug = none := by kernel_rfl
theorem laidOutLaw : laidOutB Tryz.prog = true := by kernel_rfl
theorem gTabType : (Tryz.prog.globals[1]?).map (·.type) = some 197 := by kernel_rfl
theorem cellsTab : Tryz.prog.cellsOf 197 = 20 := by kernel_rfl
theorem cellsU64 : Tryz.prog.cellsOf 52 = 1 := by kernel_rfl

/-- the arguments read behind a call that keeps memory as they did -/
theorem trodAll_below {H : Type} {enc : TypeId × Value → H} {P : Program} (hl : laidOutB P = true) {W W' : World} (hb : Below W.heap.size W W') :
    ∀ (ts : List TypeId) (vs : List Value) (ds : List (DataW H)) (ps : List MemPlace), (∀ t ∈ ts, P.readableRec t = true ∧ t < P.types.size) → DataW.TrodAll enc P W 0 (fun _ => true) true ts vs ds ps → (∀ x ∈ ps, x.block < W.heap.size) →
      DataW.TrodAll enc P W' 0 (fun b => decide (b < W.heap.size)) true ts vs ds ps
  | [], [], [], ps, _, h, _ => h
  | t :: ts, v :: vs, d :: ds, ps, hr, h, hlt => by
    obtain ⟨p, q, h1, h2, rfl⟩ := h
    refine ⟨p, q, ?_, ?_, rfl⟩
    · exact Below.trod hl (hr t (by simp)).1 (hr t (by simp)).2 h1 hb (fun x hx => hlt x (by simp [hx]))
    · exact trodAll_below hl hb ts vs ds q (fun t ht => hr t (by simp [ht])) h2 (fun x hx => hlt x (by simp [hx]))

/-- what a law owes behind its call -/
theorem law_post {H : Type} {enc : TypeId × Value → H} {f : Func} {s : ChangeSpec} {W W' : World} {args : Array Value} {ds gs : List (DataW H)} {before : List MemPlace}
    (hW : DataW.Whole enc Tryz.prog f.params.toList s.vars false W args.toList ds gs before) (hv : s.vars = []) (hres : f.resultTypes = #[4]) (hb : Below W.heap.size W W')
    (hfn : ∀ gs, gs = [] → s.fn H (ds ++ gs) = { results := [.lit (.bool true)], args := ds }) (hr : ∀ t ∈ f.params.toList, Tryz.prog.readableRec t = true ∧ t < Tryz.prog.types.size) :
    s.post enc Tryz.prog f false true false false W args (.bool true) W' := by
  have hW' := hW
  obtain ⟨p, q, hA, hV, rfl, hfz, hnd⟩ := hW
  rw [hv] at hV
  obtain ⟨rfl, rfl⟩ := trodVars_none hV
  have hlt : ∀ x ∈ p ++ [], x.block < W.heap.size := hW'.lt
  refine ⟨ds, [], p ++ [], [], p, [], hW', ?_, ?_, ?_, hb.frame _, fun h => by cases h⟩
  · rw [hfn [] rfl, hres]
    exact trodAll_mk1 (shut_bool Tryz.underlying4 _)
  · rw [hfn [] rfl]
    exact trodAll_below laidOutLaw hb _ _ _ _ hr hA (fun x hx => hlt x (by simpa using hx))
  · rw [hfn [] rfl, hv]
    exact rfl

end Go.Proofs.YtkmfgchbfchdbaaGreatDoor
namespace Go.Proofs.YtkmfgchbfchdbaaGreatDoor
open Go.ChangeShapes Go.WideShapes Go.ChangeAt Go.RowKit

/-- the cells of a table that a row lists -/
def tabCells : DataW Unit → Array Value
  | .agg l => (l.map fun | .lit (.int k n) => .int k n | _ => undef).toArray
  | _ => #[]
/-- a block with other cells -/
def withCells (cs : Array Value) : Obj → Obj
  | .cells _ t frozen => .cells cs t frozen
  | o => o
/-- the heap with the listed tables -/
def laidHeap (P : Program) (laid : List (String × DataW Unit)) (h : Array Obj) : Array Obj :=
  laid.foldl (fun h nd => h.modify ((P.globalNamed nd.1).getD 0) (withCells (tabCells nd.2))) h

/-- a world for the witness: the settled one, each listed table holding what its initialiser lays -/
noncomputable def laidWorld (laid : List (String × DataW Unit)) (os : Os) : World :=
  { World.holding Tryz.prog os ⟨#[], #[], []⟩ with heap := laidHeap Tryz.prog laid (World.holding Tryz.prog os ⟨#[], #[], []⟩).heap }

theorem laidMet_mem {P : Program} {W : World} {x : String × DataW Unit} : ∀ {laid : List (String × DataW Unit)}, laidMet P laid W → x ∈ laid → ∃ r, laidMet P (x :: r) W
  | y :: r, h, hm => by
    rcases List.mem_cons.1 hm with rfl | hm
    · exact ⟨r, h⟩
    · exact laidMet_mem h.tail hm

/-- the table of powers lies in memory -/
theorem tab_of {W : World} {laid : List (String × DataW Unit)} (h : laidMet Tryz.prog laid W) (hm : ("internal/strconv.uint64pow10", Lib.tabData .u64 Lib.pow10Tab) ∈ laid) : Tab W := by
  obtain ⟨r, hr⟩ := laidMet_mem h hm
  exact Lib.tabIs_of_head gTab gTabType Tryz.underlying197 Tryz.underlying52 cellsU64 cellsTab hr

end Go.Proofs.YtkmfgchbfchdbaaGreatDoor
namespace Go.Proofs.YtkmfgchbfchdbaaGreatDoor
open Go.RowKit

/-- what the library's variables hold -/
structure Env (w : World) : Prop where
  tab : Tab w
  syn : ∃ tp p, w.var? Tryz.prog "strconv.ErrSyntax" = some #[.iface tp p]
  rng : ∃ tp p, w.var? Tryz.prog "strconv.ErrRange" = some #[.iface tp p]
  mx : ∃ m, w.cell? ⟨0, 0, none⟩ = some (.int .i64 m)

theorem gSyn : Tryz.prog.globalNamed "strconv.ErrSyntax" = some 4 := by kernel_rfl
theorem gRng : Tryz.prog.globalNamed "strconv.ErrRange" = some 5 := by kernel_rfl
theorem var_lt {w : World} {n : String} {g : Nat} {v : Value} (hg : Tryz.prog.globalNamed n = some g) (h : w.var? Tryz.prog n = some #[v]) : g < w.heap.size :=
  lt_of_cell (v := v) (by have := World.var?_cell hg h 0; simpa using this)
theorem Env.next {w w' : World} (h : Env w) (hb : Below w.heap.size w w') : Env w' := by
  obtain ⟨t, ⟨a, b, hs⟩, ⟨c, d, hr⟩, ⟨m, hm⟩⟩ := h
  exact ⟨t.next hb, ⟨a, b, var?_below hb gSyn (var_lt gSyn hs) hs⟩, ⟨c, d, var?_below hb gRng (var_lt gRng hr) hr⟩, ⟨m, by rw [hb.cell (p := ⟨_, 0, none⟩) (lt_of_cell hm)]; exact hm⟩⟩
theorem Env.alloc {w : World} (h : Env w) (o : Obj) : Env (w.alloc o) := h.next (ba1 w o)

theorem below_bytes {w w' : World} (h : w' = w ∨ ∃ t, w' = Lib.bytesWorld w 5 t) : Below w.heap.size w w' := by
  rcases h with rfl | ⟨t, rfl⟩
  · exact Below.refl _ _
  · exact Lib.bytesWorld_below _ _ _

/-- what ParseInt gives: the number, and whether it read one -/
theorem parse_any (s : ByteArray) (w : World) (hs : s.size ≤ 281474976710656) (hE : Env w) :
    Calls Tryz.prog 113 #[.string s, .int .i64 10, .int .i64 64] w fun e w' =>
      ((∃ n, Lib.parseIntB 64 s.data.toList = .ok n ∧ e = .returned (.tuple #[.int .i64 n, .nilIface])) ∨
       ((∀ n, Lib.parseIntB 64 s.data.toList ≠ .ok n) ∧ ∃ v t p, e = .returned (.tuple #[.int .i64 v, .iface t p]))) ∧ Below w.heap.size w w' := by
  obtain ⟨_, ⟨a, b, hsy⟩, ⟨c, d, hrg⟩, _⟩ := hE
  cases hp : Lib.parseIntB 64 s.data.toList with
  | ok n => exact (Tryz.strconv_ParseInt_10_at64_ok s (by omega) n hp w).mono fun e w' ⟨he, hw⟩ => ⟨.inl ⟨n, rfl, he⟩, below_bytes hw⟩
  | «syntax» => exact (Tryz.strconv_ParseInt_10_at64_syntax_var s hs hp a b w hsy).mono fun e w' ⟨N, he, _, _, hb⟩ => ⟨.inr ⟨fun n h => (by cases h), _, _, _, he⟩, hb⟩
  | range => exact (Tryz.strconv_ParseInt_10_at64_range_var s hs hp c d w hrg).mono fun e w' ⟨N, he, _, _, hb⟩ => ⟨.inr ⟨fun n h => (by cases h), _, _, _, he⟩, hb⟩

end Go.Proofs.YtkmfgchbfchdbaaGreatDoor
namespace Go.Proofs.YtkmfgchbfchdbaaGreatDoor
open Go.ChangeShapes Go.WideShapes Go.ChangeAt Go.RowKit

theorem star : "*" ++ "errors.errorString" = "*errors.errorString" := by decide
theorem rowErr (u : TypeId) (h : Tryz.prog.typeName? 3 u = some "*errors.errorString") : u = 230 :=
  typeName_ptr_named (nm := "errors.errorString") (by rw [star]; kernel_rfl) (by kernel_rfl) (by decide) u (by rw [star]; exact h)
theorem gSynType : (Tryz.prog.globals[4]?).map (·.type) = some 128 := by kernel_rfl
theorem gRngType : (Tryz.prog.globals[5]?).map (·.type) = some 128 := by kernel_rfl
theorem cellsErr : Tryz.prog.cellsOf 232 = 1 := by kernel_rfl
theorem cellsStr2 : Tryz.prog.cellsOf 9 = 1 := by kernel_rfl

/-- what a row that lists the library's variables gives -/
theorem env_of {W : World} {laid : List (String × DataW Unit)} (h : laidMet Tryz.prog laid W) (hsh : W.ShapedOpen Tryz.prog) (hm : ("internal/strconv.uint64pow10", Lib.tabData .u64 Lib.pow10Tab) ∈ laid)
    (hs : ∃ t, (("strconv.ErrSyntax", .iface "*errors.errorString" (.ptr (.agg [.lit (.string t)]))) : String × DataW Unit) ∈ laid)
    (hr : ∃ t, (("strconv.ErrRange", .iface "*errors.errorString" (.ptr (.agg [.lit (.string t)]))) : String × DataW Unit) ∈ laid) : Env W := by
  obtain ⟨ts, hs⟩ := hs
  obtain ⟨tr, hr⟩ := hr
  obtain ⟨rs, hrs⟩ := laidMet_mem h hs
  obtain ⟨rr, hrr⟩ := laidMet_mem h hr
  obtain ⟨a1, s1, hv1, _⟩ := laid_sentinel hrs gSyn gSynType Tryz.underlying128 rowErr Tryz.underlying230 Tryz.underlying232 rfl rfl Tryz.underlying9 cellsErr cellsStr2
  obtain ⟨a2, s2, hv2, _⟩ := laid_sentinel hrr gRng gRngType Tryz.underlying128 rowErr Tryz.underlying230 Tryz.underlying232 rfl rfl Tryz.underlying9 cellsErr cellsStr2
  exact ⟨tab_of h hm, ⟨_, _, hv1⟩, ⟨_, _, hv2⟩, cell_of_shapedOpen_int (zero := #[.int .i64 0]) (t := 3) hsh (of_decide_eq_true (by kernel_rfl)) (by kernel_rfl) rfl (by kernel_rfl) (by kernel_rfl) Tryz.underlying3⟩

/-- the cells of what a row lists -/
def datCells : Nat → DataW Unit → List Value
  | 0, _ => []
  | _ + 1, .lit (.int k n) => [.int k n]
  | f + 1, .agg l => l.flatMap (datCells f)
  | _ + 1, _ => []
/-- a text behind a sentinel -/
def sentText : DataW Unit → Option (List UInt8)
  | .iface _ (.ptr (.agg [.lit (.string t)])) => some t
  | _ => none
/-- the blocks of the sentinels -/
def sentBlocks (laid : List (String × DataW Unit)) : List Obj := laid.filterMap fun nd => (sentText nd.2).map fun t => .cells #[.string ⟨t.toArray⟩] 232 (0, 0)
/-- the heap with what is listed; the sentinels' blocks begin at k -/
def laidHeap2 (P : Program) : List (String × DataW Unit) → Nat → Array Obj → Array Obj
  | [], _, h => h
  | nd :: r, k, h => match sentText nd.2 with
    | some _ => laidHeap2 P r (k + 1) (h.modify ((P.globalNamed nd.1).getD 0) (withCells #[.iface 230 (.pointer (some ⟨k, 0, none⟩))]))
    | none => laidHeap2 P r k (h.modify ((P.globalNamed nd.1).getD 0) (withCells (datCells 3 nd.2).toArray))

noncomputable def low : Nat := (World.holding Tryz.prog default ⟨#[], #[], []⟩).heap.size
/-- a world for the witness: the settled one, each listed variable holding what its initialiser lays -/
noncomputable def laidWorld2 (laid : List (String × DataW Unit)) (os : Os) : World :=
  let w0 := World.holding Tryz.prog os ⟨(sentBlocks laid).toArray, #[], []⟩
  { w0 with heap := laidHeap2 Tryz.prog laid low w0.heap }

end Go.Proofs.YtkmfgchbfchdbaaGreatDoor
namespace Go.Proofs.YtkmfgchbfchdbaaGreatDoor
open Go.ChangeShapes Go.WideShapes Go.ChangeAt Go.RowKit

section
variable {H : Type} {enc : TypeId × Value → H} {w : World} {base : Nat} {spare : Nat → Bool} {held : Bool} {fuel : Nat} {cs : List Value} {x : DataW H × List MemPlace}

theorem int_cell {k : IntKind} {t : TypeId} (ht : Tryz.prog.underlying t = some (.int k)) (hc : Tryz.prog.cellsOf t = 1) {o : Nat} (_hl : o < cs.length)
    (h : DataW.trod enc Tryz.prog w base spare held fuel t ((cs.drop o).take (Tryz.prog.cellsOf t)) = some x) : ∃ n, cs[o]? = some (.int k n) ∧ (Lit.int k n).wf = true := by
  obtain ⟨n, h1, _, h2⟩ := DataW.trod_int ht h
  refine ⟨n, ?_, h2⟩
  rw [hc] at h1
  have h3 := congrArg (fun l => l[0]?) h1
  simpa [List.getElem?_take, List.getElem?_drop] using h3
theorem string_cell {t : TypeId} (ht : Tryz.prog.underlying t = some .string) (hc : Tryz.prog.cellsOf t = 1) {o : Nat} (_hl : o < cs.length)
    (h : DataW.trod enc Tryz.prog w base spare held fuel t ((cs.drop o).take (Tryz.prog.cellsOf t)) = some x) : ∃ s : ByteArray, cs[o]? = some (.string s) ∧ s.size ≤ maxLen := by
  obtain ⟨s, h1, _, h2⟩ := DataW.trod_string ht h
  refine ⟨s, ?_, h2⟩
  rw [hc] at h1
  have h3 := congrArg (fun l => l[0]?) h1
  simpa [List.getElem?_take, List.getElem?_drop] using h3

theorem cellsI64 : Tryz.prog.cellsOf 2 = 1 := by kernel_rfl
theorem cellsStr : Tryz.prog.cellsOf 9 = 1 := by kernel_rfl
theorem cellsLB : Tryz.prog.cellsOf 32 = 5 := by kernel_rfl

set_option maxRecDepth 100000 in
/-- a batch among the arguments -/
theorem batch_cells (h : DataW.trod enc Tryz.prog w base spare held fuel 32 cs = some x) :
    ∃ (p : ByteArray) (x1 x2 x3 x4 : Int), cs = [.string p, .int .i64 x1, .int .i64 x2, .int .i64 x3, .int .i64 x4] ∧ p.size ≤ maxLen ∧ (Lit.int .i64 x1).wf = true ∧ (Lit.int .i64 x2).wf = true ∧ (Lit.int .i64 x3).wf = true ∧ (Lit.int .i64 x4).wf = true := by
  obtain ⟨xs, n, _, hx, hl, hlen, hf⟩ := DataW.trod_struct Tryz.underlying32 h
  rw [cellsLB] at hl
  obtain ⟨y0, e0⟩ : ∃ y, xs[0]? = some y := by rw [List.getElem?_eq_getElem (by rw [hlen]; decide)]; exact ⟨_, rfl⟩
  obtain ⟨y1, e1⟩ : ∃ y, xs[1]? = some y := by rw [List.getElem?_eq_getElem (by rw [hlen]; decide)]; exact ⟨_, rfl⟩
  obtain ⟨y2, e2⟩ : ∃ y, xs[2]? = some y := by rw [List.getElem?_eq_getElem (by rw [hlen]; decide)]; exact ⟨_, rfl⟩
  obtain ⟨y3, e3⟩ : ∃ y, xs[3]? = some y := by rw [List.getElem?_eq_getElem (by rw [hlen]; decide)]; exact ⟨_, rfl⟩
  obtain ⟨y4, e4⟩ : ∃ y, xs[4]? = some y := by rw [List.getElem?_eq_getElem (by rw [hlen]; decide)]; exact ⟨_, rfl⟩
  obtain ⟨p, h0, hp⟩ := string_cell Tryz.underlying9 cellsStr (o := 0) (by omega) ((hf 0 _ rfl).trans e0)
  obtain ⟨x1, h1, w1⟩ := int_cell Tryz.underlying2 cellsI64 (o := 1) (by omega) ((hf 1 _ rfl).trans e1)
  obtain ⟨x2, h2, w2⟩ := int_cell Tryz.underlying2 cellsI64 (o := 2) (by omega) ((hf 2 _ rfl).trans e2)
  obtain ⟨x3, h3, w3⟩ := int_cell Tryz.underlying2 cellsI64 (o := 3) (by omega) ((hf 3 _ rfl).trans e3)
  obtain ⟨x4, h4, w4⟩ := int_cell Tryz.underlying2 cellsI64 (o := 4) (by omega) ((hf 4 _ rfl).trans e4)
  refine ⟨p, x1, x2, x3, x4, ?_, hp, w1, w2, w3, w4⟩
  match cs, hl with
  | [c0, c1, c2, c3, c4], _ => simp_all
end

set_option maxRecDepth 100000 in
/-- a batch as an argument -/
theorem open_batch {H : Type} {enc : TypeId × Value → H} {W : World} {base b0 : Nat} {r : Reach} {spare : Nat → Bool} {held : Bool} {v : Value} {d : DataW H} {ps : List MemPlace} (hv : Value.okWide Tryz.prog W r b0 32 v) (h : DataW.Trod enc Tryz.prog W base spare held 32 v d ps) :
    ∃ (p : ByteArray) (x1 x2 x3 x4 : Int), v = .agg #[.string p, .int .i64 x1, .int .i64 x2, .int .i64 x3, .int .i64 x4] ∧ p.size ≤ maxLen ∧ (Lit.int .i64 x1).wf = true ∧ (Lit.int .i64 x2).wf = true ∧ (Lit.int .i64 x3).wf = true ∧ (Lit.int .i64 x4).wf = true := by
  obtain ⟨cs, rfl, hsz⟩ := okWide_struct Tryz.underlying32 hv
  obtain ⟨fuel, hf⟩ := h
  obtain ⟨p, x1, x2, x3, x4, hcs, r⟩ := batch_cells hf
  exact ⟨p, x1, x2, x3, x4, congrArg Value.agg (Array.toList_inj.1 hcs), r⟩

end Go.Proofs.YtkmfgchbfchdbaaGreatDoor
namespace Go.Proofs.YtkmfgchbfchdbaaGreatDoor
open Go.RowKit

theorem eq_of_take {α : Type} {xs ys : List α} {k : Nat} (h : xs.take k = ys.take k) (hl : xs.length = ys.length) (hk : xs.length ≤ k) : xs = ys := by
  rwa [List.take_of_length_le hk, List.take_of_length_le (by omega)] at h

theorem ne_of_at {α : Type} {xs ys : List α} {k : Nat} {x y : α} (hx : xs[k]? = some x) (hy : ys[k]? = some y) (h : x ≠ y) : xs ≠ ys := by
  intro e; subst e; rw [hx] at hy; exact h (Option.some.inj hy)

set_option maxHeartbeats 400000 in
theorem eqInt64S_any (a b : Option Addr) (xs ys : List Int) (c d : Nat) (w : World) (hx : IntsAt w a xs) (hy : IntsAt w b ys)
    (lx : xs.length ≤ maxLen) (_ly : ys.length ≤ maxLen) :
    Calls Tryz.prog 47 #[.slice a xs.length c, .slice b ys.length d] w fun e w' => e = .returned (.bool (decide (xs = ys))) ∧ ∃ n, w' = w.drewN n := by
  unfold maxLen at lx
  by_cases hl : xs.length = ys.length
  · have hl' : (((xs.length : Nat) : Int) != ((ys.length : Nat) : Int)) = false := by simp [hl]
    go_enter Tryz.func47, Tryz.ntmps47
    go_wp2
    go_loopw [5] (fun i wr => ∃ k n : Nat, k ≤ xs.length ∧ i = .int .i64 k ∧ xs.take k = ys.take k ∧ wr = w.drewN n) (fun i _ => xs.length - (intOf i).toNat)
    case atStart => exact ⟨0, 0, Nat.zero_le _, rfl, rfl, rfl⟩
    case round =>
      obtain ⟨k, n, hk, rfl, ht, rfl⟩ := hrel
      have HL := Lib.hid hl
      have HT := Lib.hid ht
      clear hl ht
      by_cases hlt : k < xs.length
      · obtain ⟨b1, o1, x, rfl, hxk, hb1, hc1⟩ := hx.at hlt
        obtain ⟨b2, o2, y, rfl, hyk, hb2, hc2⟩ := hy.at (k := k) (by rw [← HL.out]; exact hlt)
        have HX := Lib.hid hxk
        have HY := Lib.hid hyk
        have hlt2 : (k : Int) < (ys.length : Int) := by rw [← HL.out]; omega
        clear hxk hyk hx hy
        by_cases hxy : x = y
        · have hxy' : (x != y) = false := by simp [hxy]
          have HE := Lib.hid hxy
          clear hxy
          go_wp2_with fail
          go_quiet (fail)
          go_wp2
          go_roundw
          case rel => exact ⟨k + 1, _, by omega, by go_num, by rw [take_snoc' HX.out, take_snoc' HY.out, HT.out, HE.out], rfl⟩
          case measure => simp [intOf]; omega
        · have hxy' : (x != y) = true := by simp [hxy]
          have HE := Lib.hid hxy
          clear hxy
          go_wp2_with fail
          go_quiet (fail)
          go_wp2
          go_ret
          exact ⟨ret_bool (by simp [ne_of_at HX.out HY.out HE.out]), _, World.drewN_drewN _ _ _⟩
      · clear hx hy
        go_wp2
        go_ret
        exact ⟨ret_bool (by simp [eq_of_take HT.out HL.out (by omega)]), _, rfl⟩
  · have hl' : (((xs.length : Nat) : Int) != ((ys.length : Nat) : Int)) = true := by simp; omega
    have hne : xs ≠ ys := fun e => hl (by rw [e])
    have HE := Lib.hid hne
    clear hne hl hx hy
    go_enter Tryz.func47, Tryz.ntmps47
    go_wp2
    go_ret
    exact ⟨ret_bool (by simp [HE.out]), 0, rfl⟩

end Go.Proofs.YtkmfgchbfchdbaaGreatDoor
namespace Go.Proofs.YtkmfgchbfchdbaaGreatDoor
open Go.RowKit

/-- the first n marks from k on -/
def marks (k : Int) (n : Nat) : List Int := (List.range n).map fun (i : Nat) => k + (i : Int)
theorem marks_len (k : Int) (n : Nat) : (marks k n).length = n := by simp [marks]
theorem marks_at {k : Int} {n i : Nat} (h : i < n) : (marks k n)[i]? = some (k + i) := by simp [marks, h]

/-- what 'held' answers: the next mark, or -1 -/
def heldOf (m : Int) (xs : List Int) : Int := if xs = marks m xs.length then m + xs.length else -1

set_option maxHeartbeats 400000 in
theorem heldInt64S_any (a : Option Addr) (xs : List Int) (c : Nat) (m : Int) (w : World) (hx : IntsAt w a xs)
    (lx : xs.length ≤ 1099511627776) (hm0 : 0 ≤ m) (hm : m ≤ 1099511627776) :
    Calls Tryz.prog 49 #[.slice a xs.length c, .int .i64 m] w fun e w' => e = .returned (.int .i64 (heldOf m xs)) ∧ w = w' := by
  go_enter Tryz.func49, Tryz.ntmps49
  go_wp2
  go_loop [1, 5] (fun q i => ∃ k : Nat, k ≤ xs.length ∧ i = .int .i64 k ∧ q = .int .i64 (m + k) ∧ xs.take k = marks m k) (fun _ i => xs.length - (intOf i).toNat)
  case atStart => exact ⟨0, Nat.zero_le _, rfl, by simp, rfl⟩
  case round =>
    obtain ⟨k, hk, rfl, rfl, ht⟩ := hrel
    have HT := Lib.hid ht
    clear ht
    by_cases hlt : k < xs.length
    · obtain ⟨b1, o1, x, rfl, hxk, hb1, hc1⟩ := hx.at hlt
      have HX := Lib.hid hxk
      clear hxk hx
      by_cases hxy : x = m + k
      · have hxy' : (x != m + k) = false := by simp [hxy]
        have HE := Lib.hid hxy
        clear hxy
        go_wp2
        go_round
        case rel => exact ⟨k + 1, by omega, by go_num, by go_num, by rw [take_snoc' HX.out, HT.out, HE.out]; simp [marks, List.range_succ]⟩
        case measure => simp [intOf]; omega
      · have hxy' : (x != m + k) = true := by simp [hxy]
        have HE := Lib.hid hxy
        clear hxy
        go_wp2
        go_ret
        refine ⟨ret_int ?_, rfl⟩
        rw [heldOf, if_neg]
        intro e
        have h1 := HX.out
        rw [e, marks_at hlt] at h1
        exact HE.out (Option.some.inj h1).symm
    · clear hx
      go_wp2
      go_ret
      have e : xs = marks m xs.length := by
        have := HT.out
        rw [List.take_of_length_le (by omega)] at this
        have hk' : k = xs.length := by omega
        subst hk'
        exact this
      exact ⟨ret_int (by rw [heldOf, if_pos e]; omega), rfl⟩

end Go.Proofs.YtkmfgchbfchdbaaGreatDoor
namespace Go.Proofs.YtkmfgchbfchdbaaGreatDoor
open Go.RowKit

theorem marks_of {k : Int} {zs : List Int} (h : ∀ i, i < zs.length → zs[i]? = some (k + i)) : zs = marks k zs.length := by
  apply List.ext_getElem?
  intro i
  by_cases hi : i < zs.length
  · rw [h i hi, marks_at hi]
  · rw [List.getElem?_eq_none (by omega), List.getElem?_eq_none (by rw [marks_len]; omega)]

/-- after j rounds -/
def Marked (w0 w : World) (base : Nat) (v : Value) (n j : Nat) (m : Int) : Prop :=
  ∃ zs : List Int, zs.length = n ∧ OwnI w base v zs ∧ (∀ i, i < j → zs[i]? = some (m + i)) ∧ w0.grownBy w v.ownBlock ∧ w.heap.size = w0.heap.size

theorem Marked.step {w0 w : World} {base g n c j : Nat} {m : Int} (h : Marked w0 w base (.slice (some ⟨g, 0, none⟩) n c) n j m) (hj : j < n) :
    Marked w0 (w.setCell ⟨g, j, none⟩ (.int .i64 (m + j))) base (.slice (some ⟨g, 0, none⟩) n c) n (j + 1) m := by
  obtain ⟨zs, hl, ho, hz, hg, hs⟩ := h
  subst hl
  have hst := World.ownsRow.stored (h := ho) j (.int .i64 (m + j))
  refine ⟨zs.set j (m + j), by simp, ?_, ?_, grownBy_trans hg hst.2, by simpa using hs⟩
  · have h1 := hst.1
    unfold OwnI
    rw [List.map_set, List.length_set]
    exact h1
  · intro i hi
    rw [List.getElem?_set]
    by_cases e : j = i
    · subst e; simp [hj]
    · rw [if_neg e]; exact hz i (by omega)

theorem Marked.fin {w0 w : World} {base : Nat} {v : Value} {n : Nat} {m : Int} (h : Marked w0 w base v n n m) :
    OwnI w base v (marks m n) ∧ w0.grownBy w v.ownBlock := by
  obtain ⟨zs, hl, ho, hz, hg, _⟩ := h
  subst hl
  rw [← marks_of hz]
  exact ⟨ho, hg⟩

theorem Marked.cell {w0 w : World} {base : Nat} {a : Option Addr} {c n j : Nat} {m : Int} (h : Marked w0 w base (.slice a n c) n j m) (hj : j < n) :
    ∃ g z, a = some ⟨g, 0, none⟩ ∧ base ≤ g ∧ w.cell? ⟨g, j, none⟩ = some (.int .i64 z) ∧ w.frozen? ⟨g, j, none⟩ = false := by
  obtain ⟨zs, hl, ho, hz, hg, _⟩ := h
  subst hl
  obtain ⟨g, rfl, hb, _, _⟩ := ho.block (by omega)
  obtain ⟨z, _, h1, h2⟩ := ho.cellAt rfl hj
  exact ⟨g, z, rfl, hb, h1, h2⟩

set_option maxHeartbeats 400000 in
theorem markInt64S_any (a : Option Addr) (xs : List Int) (c base : Nat) (m : Int) (w : World) (ho : OwnI w base (.slice a xs.length c) xs)
    (lx : xs.length ≤ 1099511627776) (hm0 : 0 ≤ m) (hm : m ≤ 1099511627776) :
    Calls Tryz.prog 48 #[.slice a xs.length c, .int .i64 m] w fun e w' => e = .returned (.int .i64 (m + xs.length)) ∧ OwnI w' base (.slice a xs.length c) (marks m xs.length) ∧ w.grownBy w' (Value.ownBlock (.slice a xs.length c)) := by
  have h0 : Marked w w base (.slice a xs.length c) xs.length 0 m := ⟨xs, rfl, ho, fun i hi => absurd hi (by omega), World.grownBy.refl _ _, rfl⟩
  clear ho
  have H0 := Lib.hid h0
  clear h0
  go_enter Tryz.func48, Tryz.ntmps48
  go_wp2
  go_loopw [1, 5] (fun q i wr => ∃ k : Nat, k ≤ xs.length ∧ i = .int .i64 k ∧ q = .int .i64 (m + k) ∧ Marked w wr base (.slice a xs.length c) xs.length k m) (fun _ i _ => xs.length - (intOf i).toNat)
  case atStart => exact ⟨0, Nat.zero_le _, rfl, by simp, H0.out⟩
  case round =>
    obtain ⟨k, hk, rfl, rfl, ht⟩ := hrel
    have HT := Lib.hid ht
    clear ht
    by_cases hlt : k < xs.length
    · obtain ⟨g, z, rfl, hb1, hc1, hf1⟩ := HT.out.cell hlt
      go_wp2
      go_roundw
      case rel => exact ⟨k + 1, by omega, by go_num, by go_num, HT.out.step hlt⟩
      case measure => simp [intOf]; omega
    · go_wp2
      go_ret
      obtain rfl : k = xs.length := by omega
      exact ⟨rfl, HT.out.fin⟩

end Go.Proofs.YtkmfgchbfchdbaaGreatDoor
namespace Go.Proofs.YtkmfgchbfchdbaaGreatDoor
open Go.RowKit

/-- what is left of a bound -/
def leftOf (l : Int) (n : Nat) : Int := if l - n < 0 then -1 else l - n

set_option maxHeartbeats 400000 in
theorem szBatch_any (p : ByteArray) (x1 x2 x3 x4 l : Int) (w : World) (hn : p.size ≤ maxLen) (h0 : -1 ≤ l) (hl : l ≤ 1099511627776) :
    Calls Tryz.prog 11 #[.agg #[.string p, .int .i64 x1, .int .i64 x2, .int .i64 x3, .int .i64 x4], .int .i64 l] w fun e w' => e = .returned (.int .i64 (leftOf l p.size)) ∧ Below w.heap.size w w' := by
  unfold maxLen at hn
  by_cases h : l - p.size < 0
  · have e : leftOf l p.size = -1 := by rw [leftOf, if_pos h]
    have E := Lib.hid e
    clear e
    go_enter Tryz.func11, Tryz.ntmps11
    go_wp2
    go_ret
    exact ⟨ret_int E.out.symm, (Below.refl _ _).alloc (Nat.le_refl _) _⟩
  · have e : leftOf l p.size = l - p.size := by rw [leftOf, if_neg h]
    have E := Lib.hid e
    clear e
    go_enter Tryz.func11, Tryz.ntmps11
    go_wp2
    go_ret
    exact ⟨ret_int E.out.symm, (Below.refl _ _).alloc (Nat.le_refl _) _⟩

end Go.Proofs.YtkmfgchbfchdbaaGreatDoor
namespace Go.Proofs.YtkmfgchbfchdbaaGreatDoor
open Go.RowKit

/-- after j rounds of a copy -/
def Copied (w : World) (base g : Nat) (xs : List Int) (j : Nat) : Prop :=
  ∃ zs : List Int, zs.length = xs.length ∧ OwnI w base (.slice (some ⟨g, 0, none⟩) xs.length xs.length) zs ∧ zs.take j = xs.take j

theorem Copied.step {w : World} {base g : Nat} {xs : List Int} {j : Nat} {x : Int} (h : Copied w base g xs j) (hx : xs[j]? = some x) : Copied (w.setCell ⟨g, j, none⟩ (.int .i64 x)) base g xs (j + 1) := by
  obtain ⟨zs, hl, ho, ht⟩ := h
  have hj : j < xs.length := (List.getElem?_eq_some_iff.1 hx).1
  refine ⟨zs.set j x, by simpa using hl, (ho.stored hl.symm j x).1, ?_⟩
  rw [take_snoc' hx, take_snoc' (zs := zs.set j x) (k := j) (z := x) (by simp [hl, hj]), List.take_set_of_le (Nat.le_refl _), ht]

theorem Copied.fin {w : World} {base g : Nat} {xs : List Int} (h : Copied w base g xs xs.length) : OwnI w base (.slice (some ⟨g, 0, none⟩) xs.length xs.length) xs := by
  obtain ⟨zs, hl, ho, ht⟩ := h
  rw [List.take_of_length_le (by omega), List.take_of_length_le (by omega)] at ht
  rwa [ht] at ho

end Go.Proofs.YtkmfgchbfchdbaaGreatDoor
namespace Go.Proofs.YtkmfgchbfchdbaaGreatDoor
open Go.RowKit

theorem toBatch_any (p : ByteArray) (x1 x2 x3 x4 : Int) (w : World) :
    Calls Tryz.prog 13 #[.agg #[.string p, .int .i64 x1, .int .i64 x2, .int .i64 x3, .int .i64 x4]] w fun e w' => e = .returned (.agg #[.string p, .int .i64 x1, .int .i64 x2, .int .i64 x3, .int .i64 x4]) ∧ Below w.heap.size w w' := by
  go_enter Tryz.func13, Tryz.ntmps13
  go_wp2
  exact bodyPost_ret (v := .agg #[.string p, .int .i64 x1, .int .i64 x2, .int .i64 x3, .int .i64 x4]) (by simp [results, Tryz.results13, go_sem]) rfl ⟨rfl, (((Below.refl _ _).alloc (Nat.le_refl _) _).alloc (by simp) _).alloc (by simp; omega) _⟩

/-- all tests of two batches -/
def eqBatchB (p : ByteArray) (x1 x2 x3 x4 : Int) (q : ByteArray) (y1 y2 y3 y4 : Int) : Bool := p.toList == q.toList && x1 == y1 && x2 == y2 && x3 == y3 && x4 == y4

theorem five (a b c d e : Bool) : a = false ∨ (a = true ∧ b = false) ∨ (a = true ∧ b = true ∧ c = false) ∨ (a = true ∧ b = true ∧ c = true ∧ d = false) ∨ (a = true ∧ b = true ∧ c = true ∧ d = true ∧ e = false) ∨
    (a = true ∧ b = true ∧ c = true ∧ d = true ∧ e = true) := by
  cases a <;> cases b <;> cases c <;> cases d <;> cases e <;> simp

set_option maxHeartbeats 1000000 in
theorem eqBatch_any (p : ByteArray) (x1 x2 x3 x4 : Int) (q : ByteArray) (y1 y2 y3 y4 : Int) (w : World) :
    Calls Tryz.prog 46 #[.agg #[.string p, .int .i64 x1, .int .i64 x2, .int .i64 x3, .int .i64 x4], .agg #[.string q, .int .i64 y1, .int .i64 y2, .int .i64 y3, .int .i64 y4]] w
      fun e w' => e = .returned (.bool (eqBatchB p x1 x2 x3 x4 q y1 y2 y3 y4)) ∧ Below w.heap.size w w' := by
  go_enter Tryz.func46, Tryz.ntmps46
  go_wp2
  all_goals go_ret
  all_goals exact ⟨ret_bool (by simp_all [eqBatchB]), ((Below.refl _ _).alloc (Nat.le_refl _) _).alloc (by simp) _⟩

theorem byte_toList (p : ByteArray) : p.toList = p.data.toList := ByteArray.toList_eq p

theorem eqBatchB_iff {p q : ByteArray} {x1 x2 x3 x4 y1 y2 y3 y4 : Int} : eqBatchB p x1 x2 x3 x4 q y1 y2 y3 y4 = true ↔ p = q ∧ x1 = y1 ∧ x2 = y2 ∧ x3 = y3 ∧ x4 = y4 := by
  simp only [eqBatchB, Bool.and_eq_true, beq_iff_eq, and_assoc]
  constructor
  · rintro ⟨h, r⟩
    exact ⟨ByteArray.ext (Array.toList_inj.1 (by rw [← byte_toList, ← byte_toList, h])), r⟩
  · rintro ⟨rfl, r⟩; exact ⟨rfl, r⟩

/-- two sessions -/
def eqSessionB (p : ByteArray) (x1 x2 x3 x4 : Int) (xs : List Int) (q : ByteArray) (y1 y2 y3 y4 : Int) (ys : List Int) : Bool := eqBatchB p x1 x2 x3 x4 q y1 y2 y3 y4 && decide (xs = ys)

theorem eqBatch_val {p : ByteArray} {x1 x2 x3 x4 : Int} {q : ByteArray} {y1 y2 y3 y4 : Int} {w : World} {b : Bool} (h : eqBatchB p x1 x2 x3 x4 q y1 y2 y3 y4 = b) :
    Calls Tryz.prog 46 #[.agg #[.string p, .int .i64 x1, .int .i64 x2, .int .i64 x3, .int .i64 x4], .agg #[.string q, .int .i64 y1, .int .i64 y2, .int .i64 y3, .int .i64 y4]] w
      fun e w' => e = .returned (.bool b) ∧ Below w.heap.size w w' := h ▸ eqBatch_any _ _ _ _ _ _ _ _ _ _ _
theorem eqInt64S_val {a b : Option Addr} {xs ys : List Int} {c d : Nat} {w : World} {r : Bool} (h : decide (xs = ys) = r) (hx : IntsAt w a xs) (hy : IntsAt w b ys)
    (lx : xs.length ≤ maxLen) (ly : ys.length ≤ maxLen) :
    Calls Tryz.prog 47 #[.slice a xs.length c, .slice b ys.length d] w fun e w' => e = .returned (.bool r) ∧ Below w.heap.size w w' :=
  (eqInt64S_any a b xs ys c d w hx hy lx ly).mono fun e w' ⟨he, n, hw⟩ => ⟨by rw [he, h], by rw [hw]; exact below_drewN (Below.refl _ _) n⟩

set_option maxHeartbeats 1000000 in
theorem eqSession_any (p : ByteArray) (x1 x2 x3 x4 : Int) (a : Option Addr) (xs : List Int) (c : Nat) (q : ByteArray) (y1 y2 y3 y4 : Int) (b : Option Addr) (ys : List Int) (d : Nat) (w : World)
    (hx : IntsAt w a xs) (hy : IntsAt w b ys) (lx : xs.length ≤ maxLen) (ly : ys.length ≤ maxLen) :
    Calls Tryz.prog 15 #[.agg #[.string p, .int .i64 x1, .int .i64 x2, .int .i64 x3, .int .i64 x4, .slice a xs.length c], .agg #[.string q, .int .i64 y1, .int .i64 y2, .int .i64 y3, .int .i64 y4, .slice b ys.length d]] w
      fun e w' => e = .returned (.bool (eqSessionB p x1 x2 x3 x4 xs q y1 y2 y3 y4 ys)) ∧ Below w.heap.size w w' := by
  have HX := Lib.hid hx
  have HY := Lib.hid hy
  clear hx hy
  rcases Bool.eq_false_or_eq_true (eqBatchB p x1 x2 x3 x4 q y1 y2 y3 y4) with h1 | h1
  · have H1 := Lib.hid h1
    clear h1
    rcases Bool.eq_false_or_eq_true (decide (xs = ys)) with h2 | h2
    all_goals
      have H2 := Lib.hid h2
      clear h2
      go_enter Tryz.func15, Tryz.ntmps15
      go_wp2_with fail
      refine (eqBatch_val H1.out).mono ?_
      rintro e w1 ⟨rfl, hb1⟩
      obtain ⟨hc, _⟩ := bcell hb1
      have HB1 := Lib.hid (bt2 hb1)
      clear hb1
      go_wp2_with fail
      refine (eqInt64S_val H2.out (HX.out.below HB1.out) (HY.out.below HB1.out) lx ly).mono ?_
      rintro e w2 ⟨rfl, hb2⟩
      have HB2 := Lib.hid (bt0 HB1.out hb2 (Nat.le_refl _))
      clear hb2
      go_wp2_with fail
      go_ret
      exact ⟨ret_bool (by rw [eqSessionB, H1.out, H2.out]; rfl), HB2.out⟩
  · have H1 := Lib.hid h1
    clear h1
    go_enter Tryz.func15, Tryz.ntmps15
    go_wp2_with fail
    refine (eqBatch_val H1.out).mono ?_
    rintro e w1 ⟨rfl, hb1⟩
    have HB1 := Lib.hid (bt2 hb1)
    clear hb1
    go_wp2_with fail
    go_ret
    exact ⟨ret_bool (by rw [eqSessionB, H1.out]; rfl), HB1.out⟩


theorem eqSessionB_self (p : ByteArray) (x1 x2 x3 x4 : Int) (xs : List Int) : eqSessionB p x1 x2 x3 x4 xs p x1 x2 x3 x4 xs = true := by
  rw [eqSessionB, eqBatchB_iff.2 ⟨rfl, rfl, rfl, rfl, rfl⟩]; simp

theorem eqSession_same {p : ByteArray} {x1 x2 x3 x4 : Int} {a : Option Addr} {xs : List Int} {c : Nat} {b : Option Addr} {d : Nat} {w : World}
    (hx : IntsAt w a xs) (hy : IntsAt w b xs) (lx : xs.length ≤ maxLen) :
    Calls Tryz.prog 15 #[.agg #[.string p, .int .i64 x1, .int .i64 x2, .int .i64 x3, .int .i64 x4, .slice a xs.length c], .agg #[.string p, .int .i64 x1, .int .i64 x2, .int .i64 x3, .int .i64 x4, .slice b xs.length d]] w
      fun e w' => e = .returned (.bool true) ∧ Below w.heap.size w w' :=
  (eqSession_any p x1 x2 x3 x4 a xs c p x1 x2 x3 x4 b xs d w hx hy lx lx).mono fun e w' ⟨he, hb⟩ => ⟨by rw [he, eqSessionB_self], hb⟩

/-- a session of the call's own is handed back -/
def RetSess (w : World) (p : ByteArray) (x1 x2 x3 x4 : Int) (xs : List Int) (e : Ending) (w' : World) : Prop :=
  ∃ a c, e = .returned (.agg #[.string p, .int .i64 x1, .int .i64 x2, .int .i64 x3, .int .i64 x4, .slice a xs.length c]) ∧ OwnI w' w.heap.size (.slice a xs.length c) xs ∧ Below w.heap.size w w'

end Go.Proofs.YtkmfgchbfchdbaaGreatDoor
namespace Go.Proofs.YtkmfgchbfchdbaaGreatDoor
open Go.RowKit

set_option maxHeartbeats 1000000 in
theorem markSession_any (p : ByteArray) (x1 x2 x3 x4 : Int) (a : Option Addr) (xs : List Int) (c base : Nat) (m : Int) (w : World) (ho : OwnI w base (.slice a xs.length c) xs)
    (lx : xs.length ≤ 1099511627776) (hm0 : 0 ≤ m) (hm : m ≤ 1099511627776) :
    Calls Tryz.prog 16 #[.agg #[.string p, .int .i64 x1, .int .i64 x2, .int .i64 x3, .int .i64 x4, .slice a xs.length c], .int .i64 m] w fun e w' => e = .returned (.int .i64 (m + xs.length)) ∧
      OwnI w' base (.slice a xs.length c) (marks m xs.length) ∧ w.grownBy w' (Value.ownBlock (.slice a xs.length c)) := by
  have HO := Lib.hid ho
  clear ho
  go_enter Tryz.func16, Tryz.ntmps16
  go_wp2_with fail
  refine (markInt64S_any _ _ _ base _ _ (HO.out.grown (ba1 _ _)) lx hm0 hm).mono ?_
  rintro e w1 ⟨rfl, ho1, hg1⟩
  have HO1 := Lib.hid ho1
  have HG1 := Lib.hid hg1
  clear ho1 hg1
  go_wp2_with fail
  go_ret
  exact ⟨rfl, HO1.out, grownBy_trans (World.grownBy_alloc _ _ _) HG1.out⟩

set_option maxHeartbeats 1000000 in
theorem heldSession_any (p : ByteArray) (x1 x2 x3 x4 : Int) (a : Option Addr) (xs : List Int) (c : Nat) (m : Int) (w : World) (hx : IntsAt w a xs)
    (lx : xs.length ≤ 1099511627776) (hm0 : 0 ≤ m) (hm : m ≤ 1099511627776) :
    Calls Tryz.prog 17 #[.agg #[.string p, .int .i64 x1, .int .i64 x2, .int .i64 x3, .int .i64 x4, .slice a xs.length c], .int .i64 m] w fun e w' => e = .returned (.int .i64 (heldOf m xs)) ∧ Below w.heap.size w w' := by
  have HX := Lib.hid hx
  clear hx
  have hlo : -1 ≤ heldOf m xs := by unfold heldOf; split <;> omega
  have hhi : heldOf m xs ≤ 2199023255552 := by unfold heldOf; split <;> omega
  have hneg : heldOf m xs < 0 → heldOf m xs = -1 := by omega
  have HN := Lib.hid hneg
  clear hneg
  obtain ⟨r, hr⟩ : ∃ r, heldOf m xs = r := ⟨_, rfl⟩
  rw [hr] at hlo hhi
  have HR := Lib.hid hr
  clear hr
  by_cases h : r < 0
  all_goals
    go_enter Tryz.func17, Tryz.ntmps17
    go_wp2_with fail
    refine (heldInt64S_any _ _ _ _ _ (HX.out.below (ba1 _ _)) lx hm0 hm).mono ?_
    rintro e w1 ⟨rfl, rfl⟩
    rw [HR.out]
    go_wp2_with fail
    go_ret
    exact ⟨ret_int (by rw [HR.out]; try omega), ba1 _ _⟩

end Go.Proofs.YtkmfgchbfchdbaaGreatDoor
namespace Go.Proofs.YtkmfgchbfchdbaaGreatDoor
open Go.RowKit

theorem OwnI.other {w w' : World} {base : Nat} {v : Value} {zs : List Int} {row : Option Nat} (h : OwnI w base v zs) (hg : w.grownBy w' row) (hne : ∀ k, v.ownBlock = some k → row ≠ some k) : OwnI w' base v zs :=
  h.kept hg (by
    cases hv : v.ownBlock with
    | none => exact Or.inl rfl
    | some k => exact Or.inr (fun e => hne k hv e.symm))
theorem OwnI.lo {w : World} {base : Nat} {v : Value} {zs : List Int} (h : OwnI w base v zs) : ∀ k, v.ownBlock = some k → base ≤ k := fun k hk => (World.ownsRow.lt h k hk).1
theorem OwnI.hi {w : World} {base : Nat} {v : Value} {zs : List Int} (h : OwnI w base v zs) : ∀ k, v.ownBlock = some k → k < w.heap.size := fun k hk => (World.ownsRow.lt h k hk).2
theorem OwnI.ints {w : World} {base : Nat} {a : Option Addr} {n c : Nat} {zs : List Int} (h : OwnI w base (.slice a n c) zs) : IntsAt w a zs := by
  obtain ⟨a', c', e, hx⟩ := h.read
  obtain ⟨rfl, _, _⟩ := Value.slice.inj e
  exact hx
/-- how a slice of numbers is written -/
def Slc (a : Option Addr) (xs : List Int) : Prop := (∀ ad, a = some ad → ad.spot = none) ∧ (a = none → xs = [])
theorem OwnI.slc {w : World} {base : Nat} {a : Option Addr} {n c : Nat} {xs : List Int} (h : OwnI w base (.slice a n c) xs) : Slc a xs := by
  rcases h.2 with ⟨h1, h0⟩ | ⟨g, cap, cur, h1, _⟩
  · obtain ⟨rfl, _, _⟩ := Value.slice.inj h1
    exact ⟨fun ad e => (by cases e), fun _ => List.eq_nil_of_length_eq_zero (by simpa using h0)⟩
  · obtain ⟨rfl, _, _⟩ := Value.slice.inj h1
    exact ⟨fun ad e => (by cases e; rfl), fun e => (by cases e)⟩

theorem boxG {w w1 : World} {b : Nat} {cs : Array Value} {row : Option Nat} (hg : w.grownBy w1 row) (h : ∀ i, w.cell? ⟨b, i, none⟩ = cs[i]?) (hne : row ≠ some b) (h0 : 0 < cs.size) : ∀ i, w1.cell? ⟨b, i, none⟩ = cs[i]? := fun i => by
  have h1 : b < w.heap.size := boxLt h h0
  rw [World.cell?_of_block (w := w) (a := ⟨b, i, none⟩) (hg.block b h1 (fun e => hne e.symm))]
  exact h i
/-- two rows whose blocks lie on two sides of a number are two -/
theorem apartB {v : Value} {u : Value} {T : Nat} (h1 : ∀ k, v.ownBlock = some k → k < T) (h2 : ∀ k, u.ownBlock = some k → T ≤ k) : ∀ k, v.ownBlock = some k → u.ownBlock ≠ some k := fun k hk e => by
  have a := h1 k hk
  have b := h2 k e
  omega
theorem apartB' {v : Value} {u : Value} {T : Nat} (h1 : ∀ k, v.ownBlock = some k → k < T) (h2 : ∀ k, u.ownBlock = some k → T ≤ k) : ∀ k, u.ownBlock = some k → v.ownBlock ≠ some k := fun k hk e => by
  have a := h1 k e
  have b := h2 k hk
  omega
theorem below_row {B : Nat} {w w' : World} {v : Value} (h : w.grownBy w' v.ownBlock) (hB : B ≤ w.heap.size) (hr : ∀ k, v.ownBlock = some k → B ≤ k) : Below B w w' := below_of_grownBy h hB hr

theorem heldOf_marks (m : Int) (n : Nat) : heldOf m (marks m n) = m + n := by rw [heldOf, if_pos (by rw [marks_len]), marks_len]

theorem heldInt64S_marks {a : Option Addr} {n c : Nat} {m : Int} {w : World} (hx : IntsAt w a (marks m n)) (ln : n ≤ 1099511627776) (hm0 : 0 ≤ m) (hm : m ≤ 1099511627776) :
    Calls Tryz.prog 49 #[.slice a n c, .int .i64 m] w fun e w' => e = .returned (.int .i64 (m + n)) ∧ w = w' := by
  have := heldInt64S_any a (marks m n) c m w hx (by rw [marks_len]; exact ln) hm0 hm
  rw [marks_len, heldOf_marks] at this
  exact this

end Go.Proofs.YtkmfgchbfchdbaaGreatDoor
namespace Go.Proofs.YtkmfgchbfchdbaaGreatDoor
open Go.RowKit

theorem heldSession_marks {p : ByteArray} {x1 x2 x3 x4 : Int} {a : Option Addr} {n c : Nat} {m : Int} {w : World} (hx : IntsAt w a (marks m n)) (ln : n ≤ 1099511627776) (hm0 : 0 ≤ m) (hm : m ≤ 1099511627776) :
    Calls Tryz.prog 17 #[.agg #[.string p, .int .i64 x1, .int .i64 x2, .int .i64 x3, .int .i64 x4, .slice a n c], .int .i64 m] w fun e w' => e = .returned (.int .i64 (m + n)) ∧ Below w.heap.size w w' := by
  have := heldSession_any p x1 x2 x3 x4 a (marks m n) c m w hx (by rw [marks_len]; exact ln) hm0 hm
  rw [marks_len, heldOf_marks] at this
  exact this

end Go.Proofs.YtkmfgchbfchdbaaGreatDoor
namespace Go.Proofs.YtkmfgchbfchdbaaGreatDoor
open Go.RowKit

/-! A REGION THAT DRAWS ITS ORDER, each operation by what it leaves: whatever the order, what each operation has left stands at the end, if nothing that comes in between does away with it. -/

/-- how many are not listed -/
def unl : List Bool → Nat
  | [] => 0
  | b :: r => (if b then 0 else 1) + unl r
theorem unl_set : ∀ (l : List Bool) (i : Nat), l[i]? = some false → unl (l.set i true) + 1 = unl l
  | [], i, h => by simp at h
  | b :: r, 0, h => by simp at h; subst h; simp [unl]; omega
  | b :: r, i + 1, h => by
    have := unl_set r i (by simpa using h)
    simp only [List.set_cons_succ, unl]
    omega
theorem unl_zero : ∀ (l : List Bool), unl l = 0 → ∀ i, l.getD i true = true
  | [], _, i => by simp
  | b :: r, h, i => by
    simp only [unl] at h
    cases b with
    | false => simp at h
    | true =>
      cases i with
      | zero => simp
      | succ i => simpa using unl_zero r (by simpa using h) i
theorem unl_replicate (n : Nat) : unl (List.replicate n false) = n := by
  induction n with
  | zero => rfl
  | succ n ih => simp [List.replicate_succ, unl, ih]; omega

/-- the frame with the values us in the slots ds -/
def over (a : Act) (ds : List Nat) (us : Nat → Value) : Act := { a with tmps := a.tmps.mapIdx fun t v => if ds.contains t then us t else v }
/-- one value more -/
def upd (us : Nat → Value) (d : Option Nat) (v : Value) : Nat → Value :=
  match d with
  | some d => fun t => if t = d then v else us t
  | none => us
theorem upd_ne {us : Nat → Value} {d : Option Nat} {v : Value} {t : Nat} (h : d ≠ some t) : upd us d v t = us t := by
  cases d with
  | none => rfl
  | some d => simp only [upd]; rw [if_neg (fun e => h (by rw [e]))]

theorem over_put {a : Act} {ds : List Nat} {us : Nat → Value} {d : Option Nat} {v : Value} (h : ∀ t, d = some t → ds.contains t = true) : (over a ds us).put d v = over a ds (upd us d v) := by
  cases d with
  | none => rfl
  | some t =>
    have ht := h t rfl
    simp only [Act.put, over]
    congr 1
    apply Array.ext_getElem?
    intro i
    rw [Array.getElem?_setIfInBounds]
    simp only [Array.getElem?_mapIdx, Array.size_mapIdx]
    by_cases e : t = i
    · subst e
      simp only [if_true]
      by_cases hb : t < a.tmps.size
      · simp only [hb, if_true, Array.getElem?_eq_getElem hb, Option.map_some, ht, upd]
      · simp only [hb, if_false, Array.getElem?_eq_none (Nat.le_of_not_lt hb), Option.map_none]
    · simp only [e, if_false, upd, show ¬ i = t from fun h => e h.symm]

/-- what the tape may not do: the operations' edges, looked at once -/
def rgOk (ops : Array Oper) (m : Nat) (ds : List Nat) (sup : Nat → List Nat) : Bool :=
  (List.range ops.size).all fun j => match ops[j]? with
    | none => true
    | some o =>
      -- the slots written by the head lie in ds; what is said of an operation speaks of its own slot and of those that it waits for
      (decide (m ≤ j) || ((match o.dst with | some d => ds.contains d | none => true) &&
        (sup j).all fun t => (List.range ops.size).all fun i => match ops[i]? with
          | none => true
          | some oi => oi.dst != some t || i == j || o.after.any fun e => Region.binds .any e && e.on == i)) &&
      -- each of the tail waits for all before it, and none waits for a later one
      (decide (j < m) || (List.range j).all (fun i => o.after.any fun e => Region.binds .any e && e.on == i)) && o.after.all fun e => !Region.binds .any e || decide (e.on < j)

variable {P : Program} {ops : Array Oper} {Q : Exit → Act → World → Prop}

theorem getD_toList (l : Array Bool) (i : Nat) (d : Bool) : l.getD i d = l.toList.getD i d := by simp [Array.getD_eq_getD_getElem?, List.getD_eq_getElem?_getD]

/-- the tail, in its one order -/
theorem wpAny_tail {m : Nat} {ds : List Nat} {sup : Nat → List Nat} (hB : rgOk ops m ds sup = true) : ∀ (r k : Nat) (listed : Array Bool) (a : Act) (w : World), m ≤ k → k + r = ops.size →
    (∀ j, j < ops.size → listed.getD j true = decide (j < k)) → listed.size = ops.size → ∀ fuel, r ≤ fuel → wpOps P ops Q (List.range' k r) a w → wpAny P .any ops Q fuel listed a w
  | 0, k, listed, a, w, hm, hk, hl, hs, fuel, hf, h => by
    have hr : Region.ready .any ops listed = [] := by
      rw [List.eq_nil_iff_forall_not_mem]
      intro j hj
      obtain ⟨h1, o, ho, _⟩ := mem_ready.1 hj
      have hlt : j < ops.size := (Array.getElem?_eq_some_iff.1 ho).1
      rw [hl j hlt] at h1
      simp at h1; omega
    have hq : Q .normal a w := h
    cases fuel with
    | zero => exact ⟨hr, hq⟩
    | succ f => exact ⟨fun _ => hq, fun i hi => by rw [hr] at hi; cases hi⟩
  | r + 1, k, listed, a, w, hm, hk, hl, hs, fuel, hf, h => by
    have hkn : k < ops.size := by omega
    have hready : ∀ j ∈ Region.ready .any ops listed, j = k := by
      intro j hj
      obtain ⟨h1, o, ho, hdep⟩ := mem_ready.1 hj
      have hlt : j < ops.size := (Array.getElem?_eq_some_iff.1 ho).1
      rw [hl j hlt] at h1
      have hjk : k ≤ j := by simpa using h1
      rcases Nat.lt_or_ge k j with hlt' | hge
      · exfalso
        have hb := List.all_eq_true.1 hB j (List.mem_range.2 hlt)
        simp only [ho, Bool.and_eq_true, Bool.or_eq_true, decide_eq_true_eq] at hb
        rcases hb.1.2 with hb2 | hb2
        · omega
        · have := List.all_eq_true.1 hb2 k (List.mem_range.2 hlt')
          obtain ⟨e, he, hee⟩ := Array.any_eq_true'.1 this
          simp only [Bool.and_eq_true, beq_iff_eq] at hee
          have hd := hdep e he hee.1
          rw [hee.2] at hd
          have := hl k hkn
          rw [getD_toList] at this hd
          rw [List.getD_eq_getElem?_getD] at this hd
          cases hx : listed.toList[k]? with
          | none => rw [hx] at hd; simp at hd
          | some b => rw [hx] at this hd; simp at this hd; rw [this] at hd; cases hd
      · omega
    cases fuel with
    | zero => omega
    | succ f =>
      refine ⟨fun h0 => ?_, fun i hi => ?_⟩
      · exfalso
        obtain ⟨o, ho⟩ : ∃ o, ops[k]? = some o := ⟨ops[k], Array.getElem?_eq_getElem hkn⟩
        have : k ∈ Region.ready .any ops listed := by
          refine mem_ready.2 ⟨?_, o, ho, ?_⟩
          · rw [hl k hkn]; simp
          · intro e he hbind
            have hb := List.all_eq_true.1 hB k (List.mem_range.2 hkn)
            simp only [ho, Bool.and_eq_true, Bool.or_eq_true, decide_eq_true_eq] at hb
            · have h2 := Array.all_eq_true'.1 hb.2 e he
              simp only [hbind, Bool.not_true, Bool.or_eq_true, Bool.false_eq_true, false_or, decide_eq_true_eq] at h2
              have := hl e.on (by omega)
              rw [getD_toList, List.getD_eq_getElem?_getD] at this ⊢
              cases hx : listed.toList[e.on]? with
              | none =>
                have := List.getElem?_eq_none_iff.1 hx
                simp [hs] at this; omega
              | some b => rw [hx] at this; simp at this; simp [this]; exact h2
        rw [h0] at this; cases this
      · obtain rfl := hready i hi
        rw [List.range'_succ, wpOps_cons] at h
        refine wpOp_mono (fun a' w' h' => ?_) h
        refine wpAny_tail hB r (i + 1) _ a' w' (by omega) (by omega) ?_ (by simpa using hs) f (by omega) h'
        intro j hj
        by_cases e : i = j
        · subst e
          rw [getD_toList, Array.toList_setIfInBounds, List.getD_eq_getElem?_getD, List.getElem?_set]
          simp [hs, hj]
        · rw [getD_toList, Array.toList_setIfInBounds, List.getD_eq_getElem?_getD, List.getElem?_set, if_neg e, ← List.getD_eq_getElem?_getD, ← getD_toList, hl j hj]
          simp; omega


/-- what stands while the head is under way -/
structure Under (ops : Array Oper) (m : Nat) (a0 : Act) (ds : List Nat) (G : Nat → (Nat → Value) → World → Prop) (St : World → Prop) (listed : Array Bool) (a : Act) (w : World) : Prop where
  size : listed.size = ops.size
  tail : ∀ j, m ≤ j → j < ops.size → listed.getD j true = false
  closed : ∀ j o, ops[j]? = some o → listed.getD j false = true → ∀ e ∈ o.after, Region.binds .any e = true → listed.getD e.on false = true
  st : St w
  left : ∃ us, a = over a0 ds us ∧ ∀ j, j < m → listed.getD j false = true → G j us w

theorem getD_set_true {listed : Array Bool} {i j : Nat} (h : listed.getD j false = true) : (listed.setIfInBounds i true).getD j false = true := by
  rw [getD_toList, Array.toList_setIfInBounds, List.getD_eq_getElem?_getD, List.getElem?_set]
  rw [getD_toList, List.getD_eq_getElem?_getD] at h
  by_cases e : i = j
  · subst e
    cases hx : listed.toList[i]? with
    | none => rw [hx] at h; simp at h
    | some b =>
      have h3 := (List.getElem?_eq_some_iff.1 hx).1
      rw [if_pos rfl, if_pos h3]; rfl
  · rw [if_neg e]; exact h
theorem getD_set_other {listed : Array Bool} {i j : Nat} {d : Bool} (e : i ≠ j) : (listed.setIfInBounds i true).getD j d = listed.getD j d := by
  rw [getD_toList, Array.toList_setIfInBounds, List.getD_eq_getElem?_getD, List.getElem?_set, if_neg e, ← List.getD_eq_getElem?_getD, ← getD_toList]

/-- what one operation of the head owes: IN EVERY FRAME AND WORLD in which what it waits for stands, it leaves what is said of it, and does away with nothing -/
def Owes (P : Program) (ops : Array Oper) (Q : Exit → Act → World → Prop) (a0 : Act) (ds : List Nat) (G : Nat → (Nat → Value) → World → Prop) (St : World → Prop) (Keep : World → World → Prop) (i : Nat) (o : Oper) : Prop :=
  ∀ (us : Nat → Value) (w : World), St w → (∀ e ∈ o.after, Region.binds .any e = true → G e.on us w) →
    if Region.wanted o (yielded ops (over a0 ds us).tmps) then o.wp P (over a0 ds us) w (fun a' w' => ∃ v, a' = (over a0 ds us).put o.dst v ∧ St w' ∧ Keep w w' ∧ G i (upd us o.dst v) w') Q
    else G i (upd us o.dst undef) w

theorem wpAny_head {m : Nat} {a0 : Act} {ds : List Nat} {sup : Nat → List Nat} {G : Nat → (Nat → Value) → World → Prop} {St : World → Prop} {Keep : World → World → Prop} (hB : rgOk ops m ds sup = true) (hm : m ≤ ops.size)
    (hkeep : ∀ j us w w', j < m → Keep w w' → G j us w → G j us w') (hrefl : ∀ w, Keep w w) (hsup : ∀ j us us' w, j < m → (∀ t ∈ sup j, us t = us' t) → G j us w → G j us' w)
    (howe : ∀ i o, i < m → ops[i]? = some o → Owes P ops Q a0 ds G St Keep i o)
    (hend : ∀ us w, St w → (∀ j, j < m → G j us w) → wpOps P ops Q (List.range' m (ops.size - m)) (over a0 ds us) w) :
    ∀ (fuel : Nat) (listed : Array Bool) (a : Act) (w : World), unl listed.toList ≤ fuel → Under ops m a0 ds G St listed a w → wpAny P .any ops Q fuel listed a w := by
  have hdepOk : ∀ j o, j < m → ops[j]? = some o → (∀ d, o.dst = some d → ds.contains d = true) ∧ ∀ t ∈ sup j, ∀ i oi, ops[i]? = some oi → oi.dst = some t → i = j ∨ ∃ e ∈ o.after, Region.binds .any e = true ∧ e.on = i := by
    intro j o hj ho
    have hlt : j < ops.size := (Array.getElem?_eq_some_iff.1 ho).1
    have hb := List.all_eq_true.1 hB j (List.mem_range.2 hlt)
    simp only [ho, Bool.and_eq_true, Bool.or_eq_true, decide_eq_true_eq] at hb
    rcases hb.1.1 with h | h
    · omega
    · refine ⟨?_, ?_⟩
      · intro d hd
        have := h.1
        rw [hd] at this
        exact this
      · intro t ht i oi hi hd
        have h2 := List.all_eq_true.1 (List.all_eq_true.1 h.2 t ht) i (List.mem_range.2 (Array.getElem?_eq_some_iff.1 hi).1)
        simp only [hi, Bool.or_eq_true, bne_iff_ne, beq_iff_eq, hd] at h2
        rcases h2 with (h2 | h2) | h2
        · exact absurd rfl h2
        · exact Or.inl h2
        · obtain ⟨e, he, hee⟩ := Array.any_eq_true'.1 h2
          simp only [Bool.and_eq_true, beq_iff_eq] at hee
          exact Or.inr ⟨e, he, hee.1, hee.2⟩
  have step : ∀ (fuel : Nat) (listed : Array Bool) (a : Act) (w : World), unl listed.toList ≤ fuel → Under ops m a0 ds G St listed a w →
      (∀ j, j < m → listed.getD j true = true) → wpAny P .any ops Q fuel listed a w := by
    intro fuel listed a w hf U hall
    obtain ⟨us, rfl, hG⟩ := U.left
    have hx : ∀ j, j < m → listed.getD j false = true := by
      intro j hj
      have := hall j hj
      rw [getD_toList, List.getD_eq_getElem?_getD] at this ⊢
      cases hy : listed.toList[j]? with
      | none =>
        have h1 := List.getElem?_eq_none_iff.1 hy
        have := U.size
        simp at h1; omega
      | some b => rw [hy] at this; simpa using this
    have hr : ops.size - m ≤ fuel := by
      refine Nat.le_trans ?_ hf
      have : ∀ (n : Nat) (l : List Bool), (∀ j, n ≤ j → j < l.length → l.getD j true = false) → l.length - n ≤ unl l := by
        intro n l
        induction l generalizing n with
        | nil => intro _; simp
        | cons b r ih =>
          intro hb
          cases n with
          | zero =>
            have h0 := hb 0 (Nat.le_refl _) (by simp)
            have h1 := ih 0 (fun j _ hj => by have := hb (j + 1) (by omega) (by simpa using hj); simpa using this)
            simp at h0
            subst h0
            simp [unl] at h1 ⊢; omega
          | succ n =>
            have h1 := ih n (fun j hj hj' => by have := hb (j + 1) (by omega) (by simpa using hj'); simpa using this)
            simp only [unl, List.length_cons]; omega
      have h2 := this m listed.toList (fun j hj hj' => by rw [← getD_toList]; exact U.tail j hj (by have := U.size; simp at hj'; omega))
      have := U.size
      simp at h2; omega
    refine wpAny_tail hB (ops.size - m) m listed _ w (Nat.le_refl _) (by omega) ?_ U.size fuel hr (hend us w U.st (fun j hj => hG j hj (hx j hj)))
    intro j hj
    rcases Nat.lt_or_ge j m with h | h
    · rw [hall j h]; simp [h]
    · rw [U.tail j h hj]; simp; omega
  intro fuel
  induction fuel with
  | zero =>
    intro listed a w hf U
    exact step 0 listed a w hf U (fun j _ => by rw [getD_toList]; exact unl_zero _ (by omega) j)
  | succ fuel ih =>
    intro listed a w hf U
    by_cases hall : ∀ j, j < m → listed.getD j true = true
    · exact step _ listed a w hf U hall
    · obtain ⟨us, rfl, hG⟩ := U.left
      have hnot : ∃ j, j < m ∧ listed.getD j true = false := by
        apply Classical.byContradiction
        intro hn
        apply hall
        intro j hj
        cases hx : listed.getD j true with
        | true => rfl
        | false => exact absurd ⟨j, hj, hx⟩ hn
      refine ⟨fun h0 => ?_, fun i hi => ?_⟩
      · -- the least that is not listed may come up
        have least : ∀ n j, j ≤ n → j < m → listed.getD j true = false → False := by
          intro n
          induction n with
          | zero =>
            intro j hj hjm hjl
            obtain rfl : j = 0 := by omega
            obtain ⟨oj, hoj⟩ : ∃ oj, ops[0]? = some oj := ⟨ops[0], Array.getElem?_eq_getElem (by omega)⟩
            have : 0 ∈ Region.ready .any ops listed := mem_ready.2 ⟨hjl, oj, hoj, fun e he hbind => by
              have hb := List.all_eq_true.1 hB 0 (List.mem_range.2 (by omega))
              simp only [hoj, Bool.and_eq_true] at hb
              have h2 := Array.all_eq_true'.1 hb.2 e he
              simp only [hbind, Bool.not_true, Bool.or_eq_true, Bool.false_eq_true, false_or, decide_eq_true_eq] at h2
              omega⟩
            rw [h0] at this; cases this
          | succ n ihn =>
            intro j hj hjm hjl
            obtain ⟨oj, hoj⟩ : ∃ oj, ops[j]? = some oj := ⟨ops[j], Array.getElem?_eq_getElem (by omega)⟩
            have : j ∈ Region.ready .any ops listed := mem_ready.2 ⟨hjl, oj, hoj, fun e he hbind => by
              have hb := List.all_eq_true.1 hB j (List.mem_range.2 (by omega))
              simp only [hoj, Bool.and_eq_true] at hb
              have h2 := Array.all_eq_true'.1 hb.2 e he
              simp only [hbind, Bool.not_true, Bool.or_eq_true, Bool.false_eq_true, false_or, decide_eq_true_eq] at h2
              cases hx : listed.getD e.on true with
              | false => exact (ihn e.on (by omega) (by omega) hx).elim
              | true =>
                rw [getD_toList, List.getD_eq_getElem?_getD] at hx ⊢
                cases hy : listed.toList[e.on]? with
                | none =>
                  have h4 := List.getElem?_eq_none_iff.1 hy
                  have := U.size
                  simp at h4; omega
                | some b => rw [hy] at hx; simpa using hx⟩
            rw [h0] at this; cases this
        obtain ⟨j, hj, hjl⟩ := hnot
        exact (least j j (Nat.le_refl _) hj hjl).elim
      · obtain ⟨h1, o, ho, hdep⟩ := mem_ready.1 hi
        have hlt : i < ops.size := (Array.getElem?_eq_some_iff.1 ho).1
        have him : i < m := by
          rcases Nat.lt_or_ge i m with h | h
          · exact h
          · exfalso
            obtain ⟨j, hj, hjl⟩ := hnot
            have hb := List.all_eq_true.1 hB i (List.mem_range.2 hlt)
            simp only [ho, Bool.and_eq_true, Bool.or_eq_true, decide_eq_true_eq] at hb
            rcases hb.1.2 with hb2 | hb2
            · omega
            · have := List.all_eq_true.1 hb2 j (List.mem_range.2 (by omega))
              obtain ⟨e, he, hee⟩ := Array.any_eq_true'.1 this
              simp only [Bool.and_eq_true, beq_iff_eq] at hee
              have hd := hdep e he hee.1
              rw [hee.2] at hd
              rw [getD_toList, List.getD_eq_getElem?_getD] at hd hjl
              cases hx : listed.toList[j]? with
              | none => rw [hx] at hd; simp at hd
              | some b => rw [hx] at hd hjl; simp at hd hjl; rw [hd] at hjl; cases hjl
        obtain ⟨hds, hdp⟩ := hdepOk i o him ho
        have hil : listed.toList[i]? = some false := by
          rw [getD_toList, List.getD_eq_getElem?_getD] at h1
          cases hx : listed.toList[i]? with
          | none => rw [hx] at h1; simp at h1
          | some b => rw [hx] at h1; simp at h1; rw [h1]
        have hdm : ∀ e ∈ o.after, Region.binds .any e = true → e.on < m := by
          intro e he hbind
          have hd := hdep e he hbind
          rcases Nat.lt_or_ge e.on m with h | h
          · exact h
          · exfalso
            rcases Nat.lt_or_ge e.on ops.size with h2 | h2
            · have := U.tail e.on h h2
              rw [getD_toList, List.getD_eq_getElem?_getD] at this hd
              cases hx : listed.toList[e.on]? with
              | none => rw [hx] at hd; simp at hd
              | some b => rw [hx] at hd this; simp at hd this; rw [hd] at this; cases this
            · rw [getD_toList, List.getD_eq_getElem?_getD, List.getElem?_eq_none (by have := U.size; simp; omega)] at hd
              simp at hd
        have next : ∀ v w', St w' → Keep w w' → G i (upd us o.dst v) w' → wpAny P .any ops Q fuel (listed.setIfInBounds i true) ((over a0 ds us).put o.dst v) w' := by
          intro v w' hst hk hg
          refine ih _ _ _ ?_ ⟨by simpa using U.size, ?_, ?_, hst, upd us o.dst v, over_put hds, ?_⟩
          · have := unl_set listed.toList i hil
            rw [Array.toList_setIfInBounds]; omega
          · intro j hj hj'
            rw [getD_set_other (by omega)]; exact U.tail j hj hj'
          · intro j oj hoj hlj e he hbind
            by_cases ej : i = j
            · subst ej
              rw [ho] at hoj
              cases hoj
              exact getD_set_true (hdep e he hbind)
            · rw [getD_set_other ej] at hlj
              exact getD_set_true (U.closed j oj hoj hlj e he hbind)
          · intro j hj hlj
            by_cases ej : i = j
            · subst ej; exact hg
            · rw [getD_set_other ej] at hlj
              refine hsup j us _ w' hj (fun t ht => ?_) (hkeep j us w w' hj hk (hG j hj hlj))
              symm
              refine upd_ne (fun hd => ?_)
              have hjs : j < ops.size := by omega
              obtain ⟨oj, hoj⟩ : ∃ oj, ops[j]? = some oj := ⟨ops[j], Array.getElem?_eq_getElem hjs⟩
              rcases (hdepOk j oj hj hoj).2 t ht i o ho hd with h | ⟨e, he, hbind, heq⟩
              · exact ej h
              · have := U.closed j oj hoj hlj e he hbind
                rw [heq, getD_toList, List.getD_eq_getElem?_getD, hil] at this
                simp at this
        have howes := howe i o him ho us w U.st (fun e he hbind => hG e.on (hdm e he hbind) (hdep e he hbind))
        unfold wpOp
        rw [ho]
        simp only
        by_cases hw : Region.wanted o (yielded ops (over a0 ds us).tmps) = true
        · rw [if_pos hw] at howes ⊢
          refine Or.inl (Oper.wp_mono (fun a' w' h => ?_) howes)
          obtain ⟨v, rfl, hst, hk, hg⟩ := h
          exact next v w' hst hk hg
        · rw [if_neg hw] at howes ⊢
          exact next undef w U.st (hrefl w) howes

end Go.Proofs.YtkmfgchbfchdbaaGreatDoor
namespace Go.Proofs.YtkmfgchbfchdbaaGreatDoor
open Go.RowKit

/-- what one operation yields, and the world that it leaves -/
def leavesUpon (P : Program) (R : Value → World → Prop) : Result Next → Prop
  | .ok (.value v) w' => R v w'
  | .ok .skip w' => R undef w'
  | .ok (.enter f args) w' => Calls P f args w' (fun e w'' => ∃ v, e = .returned v ∧ R v w'')
  | _ => False
def leaves (P : Program) (o : Oper) (a : Act) (w : World) (R : Value → World → Prop) : Prop := leavesUpon P R ((execOp a.eval o).run P w)
attribute [go_sem] leavesUpon leaves

theorem wp_of_leaves {P : Program} {o : Oper} {a : Act} {w : World} {R : Value → World → Prop} {K : Act → World → Prop} {Q : Exit → Act → World → Prop} (h : ∀ v w', R v w' → K (a.put o.dst v) w') (hh : leaves P o a w R) : o.wp P a w K Q := by
  unfold leaves at hh
  unfold Oper.wp
  generalize (execOp a.eval o).run P w = r at *
  cases r with
  | ok n w' =>
    cases n <;> simp only [leavesUpon] at hh <;> simp only [Oper.upon]
    case value v => exact h _ _ hh
    case skip => exact h _ _ hh
    case enter f args => exact hh.mono fun e w'' ⟨v, he, hr⟩ => by subst he; exact h _ _ hr
  | halt x w' => simp only [leavesUpon] at hh

/-- behind an operation: it has kept what it had to, and what is said of it holds -/
def RgR (G : Nat → (Nat → Value) → World → Prop) (St : World → Prop) (Keep : World → World → Prop) (us : Nat → Value) (w : World) (i : Nat) (d : Option Nat) (v : Value) (w' : World) : Prop :=
  St w' ∧ Keep w w' ∧ G i (upd us d v) w'
/-- the head's operations, one by one -/
def rgAll (P : Program) (ops : Array Oper) (A : (Nat → Value) → Act) (G : Nat → (Nat → Value) → World → Prop) (St : World → Prop) (Keep : World → World → Prop) : Nat → List Oper → Prop
  | _, [] => True
  | i, o :: r => (∀ (us : Nat → Value) (w : World), St w → (∀ e ∈ o.after, Region.binds .any e = true → G e.on us w) →
      if Region.wanted o (yielded ops (A us).tmps) then leaves P o (A us) w (RgR G St Keep us w i o.dst) else G i (upd us o.dst undef) w) ∧ rgAll P ops A G St Keep (i + 1) r

theorem rgAll_at {P : Program} {ops : Array Oper} {A : (Nat → Value) → Act} {G : Nat → (Nat → Value) → World → Prop} {St : World → Prop} {Keep : World → World → Prop} : ∀ (l : List Oper) (k : Nat), rgAll P ops A G St Keep k l → ∀ i o, l[i]? = some o →
    ∀ (us : Nat → Value) (w : World), St w → (∀ e ∈ o.after, Region.binds .any e = true → G e.on us w) →
      if Region.wanted o (yielded ops (A us).tmps) then leaves P o (A us) w (RgR G St Keep us w (k + i) o.dst) else G (k + i) (upd us o.dst undef) w
  | [], _, _, i, o, h => by simp at h
  | o' :: r, k, hall, 0, o, h => by simp at h; subst h; exact hall.1
  | o' :: r, k, hall, i + 1, o, h => by
    have := rgAll_at r (k + 1) hall.2 i o (by simpa using h)
    rw [show k + 1 + i = k + (i + 1) by omega] at this
    exact this

/-- **A REGION THAT DRAWS ITS ORDER, EACH OPERATION OF ITS HEAD BY WHAT IT LEAVES; the tail in its one order.** -/
theorem wp_region_rg {P : Program} {id : Nat} {l : List Oper} {Q : Exit → Act → World → Prop} {a0 : Act} {w0 : World} (m : Nat) (ds : List Nat) (sup : Nat → List Nat) (A : (Nat → Value) → Act) (G : Nat → (Nat → Value) → World → Prop) (St : World → Prop) (Keep : World → World → Prop)
    (hmix : P.follows .mixedOrders = true) (hB : rgOk l.toArray m ds sup = true) (hm : m ≤ l.length) (hA : ∀ us, over a0 ds us = A us) (h0 : St w0.drew) (hrefl : ∀ w, Keep w w)
    (hkeep : ∀ j us w w', j < m → Keep w w' → G j us w → G j us w') (hsup : ∀ j us us' w, j < m → (∀ t ∈ sup j, us t = us' t) → G j us w → G j us' w)
    (hall : rgAll P l.toArray A G St Keep 0 (l.take m))
    (hend : ∀ us w, St w → (∀ j, j < m → G j us w) → wpList P l.toArray Q (l.drop m) (A us) w) : (Code.region id l.toArray true).wp P Q a0 w0 := by
  refine wp_region_any hmix ?_
  refine wpAny_head (a0 := a0) (ds := ds) (G := G) (St := St) (Keep := Keep) hB (by simpa using hm) hkeep hrefl hsup ?_ ?_ _ _ _ _ (by rw [Array.toList_replicate, unl_replicate]; exact Nat.le_refl _) ?_
  · intro i o hi ho us w hst hd
    have ho' : (l.take m)[i]? = some o := by rw [List.getElem?_take, if_pos hi]; simpa using ho
    have := rgAll_at _ 0 hall i o ho' us w hst hd
    rw [Nat.zero_add] at this
    rw [hA]
    by_cases hw : Region.wanted o (yielded l.toArray (A us).tmps) = true
    · rw [if_pos hw] at this ⊢
      exact wp_of_leaves (fun v w' h => ⟨v, rfl, h.1, h.2.1, h.2.2⟩) this
    · rw [if_neg hw] at this ⊢
      exact this
  · intro us w hst hg
    have := hend us w hst hg
    rw [hA]
    have e := wpOps_eq_wpList (P := P) (ops := l.toArray) (Q := Q) (l.drop m) m (fun j => by simp [List.getElem?_drop])
    rw [List.length_drop] at e
    have e2 : l.toArray.size - m = l.length - m := by simp
    rw [e2, e]
    exact this
  · refine ⟨by simp, ?_, ?_, h0, fun t => a0.tmps.getD t undef, ?_, ?_⟩
    · intro j _ hj
      rw [getD_toList, Array.toList_replicate, List.getD_eq_getElem?_getD, List.getElem?_replicate]
      simp at hj
      simp [hj]
    · intro j o _ hj
      rw [getD_toList, Array.toList_replicate, List.getD_eq_getElem?_getD, List.getElem?_replicate] at hj
      split at hj <;> simp at hj
    · unfold over
      cases a0 with
      | mk tmps defers =>
        congr 1
        apply Array.ext_getElem?
        intro i
        rw [Array.getElem?_mapIdx]
        cases hx : tmps[i]? with
        | none => rfl
        | some v =>
          simp only [Option.map_some, Array.getD_eq_getD_getElem?, hx, Option.getD_some]
          split <;> rfl
    · intro j _ hj
      rw [getD_toList, Array.toList_replicate, List.getD_eq_getElem?_getD, List.getElem?_replicate] at hj
      split at hj <;> simp at hj

end Go.Proofs.YtkmfgchbfchdbaaGreatDoor
namespace Go.Proofs.YtkmfgchbfchdbaaGreatDoor
open Go.RowKit

/-- what is said of an operation's value: it stays true while the world is kept -/
structure Sp (Keep : World → World → Prop) where
  holds : Value → World → Prop
  kept : ∀ v w w', Keep w w' → holds v w → holds v w'

/-- what is said of operation j -/
def depHolds {Keep : World → World → Prop} (l : List Oper) (sp : List (Sp Keep)) (us : Nat → Value) (w : World) (j : Nat) : Prop :=
  match l[j]?, sp[j]? with
  | some o, some s => match o.dst with
    | some d => s.holds (us d) w
    | none => True
  | _, _ => True
def supOf (l : List Oper) (j : Nat) : List Nat :=
  match l[j]? with
  | some o => o.dst.toList
  | none => []

theorem depHolds_kept {Keep : World → World → Prop} {l : List Oper} {sp : List (Sp Keep)} {us : Nat → Value} {w w' : World} {j : Nat} (hk : Keep w w') (h : depHolds l sp us w j) : depHolds l sp us w' j := by
  unfold depHolds at *
  split
  · rename_i o s ho hs
    simp only [ho, hs] at h
    split
    · rename_i d hd
      simp only [hd] at h
      exact s.kept _ _ _ hk h
    · trivial
  · trivial
theorem depHolds_sup {Keep : World → World → Prop} {l : List Oper} {sp : List (Sp Keep)} {us us' : Nat → Value} {w : World} {j : Nat} (he : ∀ t ∈ supOf l j, us t = us' t) (h : depHolds l sp us w j) : depHolds l sp us' w j := by
  unfold depHolds at *
  split
  · rename_i o s ho hs
    simp only [ho, hs] at h
    split
    · rename_i d hd
      simp only [hd] at h
      have := he d (by simp [supOf, ho, hd])
      rwa [← this]
    · trivial
  · trivial

/-- behind an operation -/
def RsR {Keep : World → World → Prop} (St : World → Prop) (s : Sp Keep) (w : World) (v : Value) (w' : World) : Prop := St w' ∧ Keep w w' ∧ s.holds v w'
def rsAll (P : Program) (l : List Oper) (A : (Nat → Value) → Act) {Keep : World → World → Prop} (sp : List (Sp Keep)) (St : World → Prop) : List Oper → List (Sp Keep) → Prop
  | o :: r, s :: t => (∀ (us : Nat → Value) (w : World), St w → (∀ e ∈ o.after, Region.binds .any e = true → depHolds l sp us w e.on) →
      if Region.wanted o (yielded l.toArray (A us).tmps) then leaves P o (A us) w (RsR St s w) else s.holds undef w) ∧ rsAll P l A sp St r t
  | _, _ => True

theorem rg_of_rs {P : Program} {l : List Oper} {A : (Nat → Value) → Act} {Keep : World → World → Prop} {sp : List (Sp Keep)} {St : World → Prop} : ∀ (r : List Oper) (t : List (Sp Keep)) (k : Nat), r.length = t.length → (∀ j, r[j]? = some r[j]! → l[k + j]? = r[j]?) → (∀ j, j < r.length → l[k + j]? = r[j]?) → (∀ j, j < t.length → sp[k + j]? = t[j]?) → rsAll P l A sp St r t →
    rgAll P l.toArray A (fun i us w => depHolds l sp us w i) St Keep k r
  | [], [], _, _, _, _, _, _ => trivial
  | o :: r, s :: t, k, hlen, hx, hl, hs, h => by
    refine ⟨fun us w hst hd => ?_, rg_of_rs r t (k + 1) (by simpa using hlen) (fun j _ => ?_) (fun j hj => ?_) (fun j hj => ?_) h.2⟩
    · have h1 := h.1 us w hst hd
      have e1 : l[k]? = some o := by simpa using hl 0 (by simp)
      have e2 : sp[k]? = some s := by simpa using hs 0 (by simp)
      have dep : ∀ v w', s.holds v w' → depHolds l sp (upd us o.dst v) w' k := fun v w' hv => by
        unfold depHolds
        simp only [e1, e2]
        cases hd : o.dst with
        | none => trivial
        | some d => simpa [upd] using hv
      by_cases hw : Region.wanted o (yielded l.toArray (A us).tmps) = true
      · rw [if_pos hw] at h1 ⊢
        unfold leaves at *
        generalize (execOp (A us).eval o).run P w = q at *
        cases q with
        | ok n w' =>
          cases n <;> simp only [leavesUpon] at h1 ⊢
          case value v => exact ⟨h1.1, h1.2.1, dep _ _ h1.2.2⟩
          case skip => exact ⟨h1.1, h1.2.1, dep _ _ h1.2.2⟩
          case enter f args => exact h1.mono fun e w'' ⟨v, he, hr⟩ => ⟨v, he, hr.1, hr.2.1, dep _ _ hr.2.2⟩
        | halt x w' => simp only [leavesUpon] at h1
      · rw [if_neg hw] at h1 ⊢
        exact dep _ _ h1
    · have := hl (j + 1)
      by_cases hj : j < r.length
      · have := this (by simpa using hj)
        simpa [Nat.add_assoc, Nat.add_comm 1 j] using this
      · rename_i hh
        rw [List.getElem?_eq_none (by omega)] at hh; cases hh
    · have := hl (j + 1) (by simpa using hj)
      simpa [Nat.add_assoc, Nat.add_comm 1 j] using this
    · have := hs (j + 1) (by simpa using hj)
      simpa [Nat.add_assoc, Nat.add_comm 1 j] using this

/-- **A REGION THAT DRAWS ITS ORDER: what is said of each operation of its head (the first |sp|), whatever the order; then the tail.** -/
theorem wp_region_rs {P : Program} {id : Nat} {l : List Oper} {Q : Exit → Act → World → Prop} {a0 : Act} {w0 : World} (ds : List Nat) (A : (Nat → Value) → Act) {Keep : World → World → Prop} (sp : List (Sp Keep)) (St : World → Prop)
    (hmix : P.follows .mixedOrders = true) (hB : rgOk l.toArray sp.length ds (supOf l) = true) (hm : sp.length ≤ l.length) (hA : ∀ us, over a0 ds us = A us) (h0 : St w0.drew) (hrefl : ∀ w, Keep w w)
    (hall : rsAll P l A sp St (l.take sp.length) sp)
    (hend : ∀ us w, St w → (∀ j, j < sp.length → depHolds l sp us w j) → wpList P l.toArray Q (l.drop sp.length) (A us) w) : (Code.region id l.toArray true).wp P Q a0 w0 := by
  refine wp_region_rg sp.length ds (supOf l) A (fun i us w => depHolds l sp us w i) St Keep hmix hB hm hA h0 hrefl (fun j us w w' _ hk h => depHolds_kept hk h) (fun j us us' w _ he h => depHolds_sup he h) ?_ hend
  refine rg_of_rs _ _ 0 (by rw [List.length_take]; omega) (fun j hj => ?_) (fun j hj => ?_) (fun j _ => by simp) hall
  · have : j < (l.take sp.length).length := by
      apply Classical.byContradiction
      intro h
      rw [List.getElem?_eq_none (by omega)] at hj; cases hj
    rw [List.length_take] at this
    rw [Nat.zero_add, List.getElem?_take, if_pos (by omega)]
  · rw [List.length_take] at hj
    rw [Nat.zero_add, List.getElem?_take, if_pos (by omega)]

end Go.Proofs.YtkmfgchbfchdbaaGreatDoor
namespace Go.Proofs.YtkmfgchbfchdbaaGreatDoor
open Go.RowKit

theorem boxF0 (w : World) (A : Array Value) (t : TypeId) (i : Nat) : (w.alloc (.cells A t (0, 0))).cell? ⟨w.heap.size, i, none⟩ = A[i]? := by simp
theorem boxF1 (w : World) (A : Array Value) (t : TypeId) (i : Nat) : (w.alloc (.cells A t (0, 0))).frozen? ⟨w.heap.size, i, none⟩ = false := by simp
/-- two new blocks' cells, behind a call -/
theorem box2s {w w1 : World} {A B : Array Value} {t u : TypeId} (hb : Below ((w.alloc (.cells A t (0, 0))).alloc (.cells B u (0, 0))).heap.size ((w.alloc (.cells A t (0, 0))).alloc (.cells B u (0, 0))) w1) :
    (∀ i, w1.cell? ⟨w.heap.size, i, none⟩ = A[i]?) ∧ (∀ i, w1.cell? ⟨w.heap.size + 1, i, none⟩ = B[i]?) ∧ (∀ i, w1.frozen? ⟨w.heap.size + 1, i, none⟩ = false) := by
  refine ⟨fun i => ?_, fun i => ?_, fun i => ?_⟩
  · rw [hb.cell (p := ⟨w.heap.size, i, none⟩) (by simp only [World.size_alloc]; omega)]; simp
  · rw [hb.cell (p := ⟨w.heap.size + 1, i, none⟩) (by simp only [World.size_alloc]; omega)]; simp
  · rw [hb.frozen (p := ⟨w.heap.size + 1, i, none⟩) (by simp only [World.size_alloc]; omega)]; simp
/-- three new blocks' cells, behind a call -/
theorem box3s {w w1 : World} {A B C : Array Value} {t u v : TypeId} (hb : Below (((w.alloc (.cells A t (0, 0))).alloc (.cells B u (0, 0))).alloc (.cells C v (0, 0))).heap.size (((w.alloc (.cells A t (0, 0))).alloc (.cells B u (0, 0))).alloc (.cells C v (0, 0))) w1) :
    (∀ i, w1.cell? ⟨w.heap.size, i, none⟩ = A[i]?) ∧ (∀ i, w1.cell? ⟨w.heap.size + 1, i, none⟩ = B[i]?) ∧ (∀ i, w1.cell? ⟨w.heap.size + 1 + 1, i, none⟩ = C[i]?) ∧ (∀ i, w1.frozen? ⟨w.heap.size + 1 + 1, i, none⟩ = false) ∧ w.heap.size + 1 + 1 < w1.heap.size := by
  refine ⟨fun i => ?_, fun i => ?_, fun i => ?_, fun i => ?_, ?_⟩
  · rw [hb.cell (p := ⟨w.heap.size, i, none⟩) (by simp only [World.size_alloc]; omega), (ba2 (w.alloc (.cells A t (0, 0))) _ _).cell (p := ⟨w.heap.size, i, none⟩) (by simp)]; simp
  · have h := (ba1 ((w.alloc (.cells A t (0, 0))).alloc (.cells B u (0, 0))) (.cells C v (0, 0))).cell (p := ⟨w.heap.size + 1, i, none⟩) (by simp)
    rw [hb.cell (p := ⟨w.heap.size + 1, i, none⟩) (by simp only [World.size_alloc]; omega), h]
    simp
  · rw [hb.cell (p := ⟨w.heap.size + 1 + 1, i, none⟩) (by simp only [World.size_alloc]; omega)]
    have := boxF0 ((w.alloc (.cells A t (0, 0))).alloc (.cells B u (0, 0))) C v i
    simpa using this
  · rw [hb.frozen (p := ⟨w.heap.size + 1 + 1, i, none⟩) (by simp only [World.size_alloc]; omega)]
    have := boxF1 ((w.alloc (.cells A t (0, 0))).alloc (.cells B u (0, 0))) C v i
    simpa using this
  · have := hb.size; simp at this; omega
/-- a block's marks, behind a call -/
theorem freeK {w w1 : World} {b : Nat} (hb : Below w.heap.size w w1) (h : ∀ i, w.frozen? ⟨b, i, none⟩ = false) (h0 : b < w.heap.size) : ∀ i, w1.frozen? ⟨b, i, none⟩ = false := fun i => by
  rw [hb.frozen (p := ⟨b, i, none⟩) h0]; exact h i

/-- a block's cells, where less is kept -/
theorem boxB {w w1 : World} {B b : Nat} {cs : Array Value} (hb : Below B w w1) (h : ∀ i, w.cell? ⟨b, i, none⟩ = cs[i]?) (h0 : b < B) : ∀ i, w1.cell? ⟨b, i, none⟩ = cs[i]? := fun i => by
  rw [hb.cell (p := ⟨b, i, none⟩) h0]; exact h i
theorem freeB {w w1 : World} {B b : Nat} (hb : Below B w w1) (h : ∀ i, w.frozen? ⟨b, i, none⟩ = false) (h0 : b < B) : ∀ i, w1.frozen? ⟨b, i, none⟩ = false := fun i => by
  rw [hb.frozen (p := ⟨b, i, none⟩) h0]; exact h i

end Go.Proofs.YtkmfgchbfchdbaaGreatDoor
namespace Go.Proofs.YtkmfgchbfchdbaaGreatDoor
open Go.RowKit

/-! Regions that draw their order and only read or make memory: what stands in world w0 stands still. -/
def KB (W W' : World) : Prop := Below W.heap.size W W'
def StX (w0 W : World) : Prop := Below w0.heap.size w0 W
def spE (v : Value) : Sp KB := ⟨fun u _ => u = v, fun _ _ _ _ h => h⟩
/-- a slice of n cells, each as f tells -/
def RowF (n : Nat) (f : Nat → Value) (u : Value) (W : World) : Prop := ∃ b, u = .slice (some ⟨b, 0, none⟩) n n ∧ ∀ i, i < n → W.cell? ⟨b, i, none⟩ = some (f i)
theorem RowF.below {n : Nat} {f : Nat → Value} {u : Value} {W W' : World} (h : RowF n f u W) (hb : Below W.heap.size W W') : RowF n f u W' := by
  obtain ⟨b, e, hc⟩ := h
  exact ⟨b, e, fun i hi => by rw [hb.cell (p := ⟨b, i, none⟩) (lt_of_cell (hc i hi))]; exact hc i hi⟩
def spRow (n : Nat) (f : Nat → Value) : Sp KB := ⟨RowF n f, fun _ _ _ hk h => h.below hk⟩
theorem stX0 (w : World) : StX w w.drew := (Below.refl _ _).drew
theorem kbr (w : World) : KB w w := Below.refl _ _
theorem kb_same {w0 W : World} {s : Sp KB} {v : Value} (hst : StX w0 W) (h : s.holds v W) : RsR (StX w0) s W v W := ⟨hst, Below.refl _ _, h⟩
theorem kb_below {w0 W W' : World} {s : Sp KB} {v : Value} (hst : StX w0 W) (hb : Below W.heap.size W W') (h : s.holds v W') : RsR (StX w0) s W v W' := ⟨bt0 hst hb (Nat.le_refl _), hb, h⟩
/-- a slice of the call's own: blocks from base on -/
def spOwn (base : Nat) (zs : List Int) : Sp KB := ⟨fun v W => OwnI W base v zs, fun _ _ _ hk h => h.grown hk⟩

def spN (p : Value → Prop) : Sp (fun _ _ : World => True) := ⟨fun v _ => p v, fun _ _ _ _ h => h⟩
theorem n_same {St : World → Prop} {W : World} {s : Sp (fun _ _ : World => True)} {v : Value} (h : St W) (hs : s.holds v W) : RsR St s W v W := ⟨h, trivial, hs⟩

/-- a raster of the call's own -/
def RasV (base : Nat) (n m : Int) (zs : List Int) (v : Value) (W : World) : Prop := ∃ a c, v = .agg #[.int .i64 n, .int .i64 m, .slice a zs.length c] ∧ OwnI W base (.slice a zs.length c) zs
def spRas (base : Nat) (n m : Int) (zs : List Int) : Sp KB := ⟨RasV base n m zs, fun _ _ _ hk ⟨a, c, e, h⟩ => ⟨a, c, e, h.grown hk⟩⟩

end Go.Proofs.YtkmfgchbfchdbaaGreatDoor
namespace Go.Proofs.YtkmfgchbfchdbaaGreatDoor
open Go.RowKit

theorem push_at (w : World) (A : Obj) : (w.alloc A).heap[w.heap.size]? = some A := Array.getElem?_push_size
theorem push_old {w : World} {i : Nat} {A B : Obj} (h : w.heap[i]? = some B) : (w.alloc A).heap[i]? = some B := ((ba1 w A).block i (Array.getElem?_eq_some_iff.1 h).1).trans h
theorem heap2 (w : World) (A B : Obj) : ((w.alloc A).alloc B).heap[w.heap.size]? = some A ∧ ((w.alloc A).alloc B).heap[w.heap.size + 1]? = some B := by
  refine ⟨push_old (push_at w A), ?_⟩
  have h := push_at (w.alloc A) B
  rw [World.size_alloc] at h
  exact h
theorem heap3 (w : World) (A B C : Obj) : (((w.alloc A).alloc B).alloc C).heap[w.heap.size]? = some A ∧ (((w.alloc A).alloc B).alloc C).heap[w.heap.size + 1]? = some B ∧ (((w.alloc A).alloc B).alloc C).heap[w.heap.size + 1 + 1]? = some C := by
  refine ⟨push_old (heap2 w A B).1, push_old (heap2 w A B).2, ?_⟩
  have h := push_at ((w.alloc A).alloc B) C
  rw [World.size_alloc, World.size_alloc] at h
  exact h
theorem heap4 (w : World) (A B C D : Obj) : ((((w.alloc A).alloc B).alloc C).alloc D).heap[w.heap.size]? = some A ∧ ((((w.alloc A).alloc B).alloc C).alloc D).heap[w.heap.size + 1]? = some B ∧ ((((w.alloc A).alloc B).alloc C).alloc D).heap[w.heap.size + 1 + 1]? = some C ∧ ((((w.alloc A).alloc B).alloc C).alloc D).heap[w.heap.size + 1 + 1 + 1]? = some D := by
  refine ⟨push_old (heap3 w A B C).1, push_old (heap3 w A B C).2.1, push_old (heap3 w A B C).2.2, ?_⟩
  have h := push_at (((w.alloc A).alloc B).alloc C) D
  rw [World.size_alloc, World.size_alloc, World.size_alloc] at h
  exact h
theorem blk {w w' : World} {B i : Nat} {A : Obj} (hb : Below B w w') (h : w.heap[i]? = some A) (hB : i < B) : w'.heap[i]? = some A := (hb.block i hB).trans h
theorem blkK {w w' : World} {i : Nat} {A : Obj} (hb : Below w.heap.size w w') (h : w.heap[i]? = some A) : w'.heap[i]? = some A := (hb.block i (Array.getElem?_eq_some_iff.1 h).1).trans h
theorem blkLt {w : World} {i : Nat} {A : Obj} (h : w.heap[i]? = some A) : i < w.heap.size := (Array.getElem?_eq_some_iff.1 h).1

end Go.Proofs.YtkmfgchbfchdbaaGreatDoor
namespace Go.Proofs.YtkmfgchbfchdbaaGreatDoor
open Go.RowKit

/-- the slice v is the call's own and holds the bytes l -/
def OwnB (w : World) (base : Nat) (v : Value) (l : List UInt8) : Prop := w.ownsRow base 5 1 v l.length (Lib.byteCells l)
theorem infoU8 : (Tryz.prog.info? 5).map (fun i => (i.zero, i.size, i.bytes)) = some (some (.int .u8 0), 1, 1) := by kernel_rfl
theorem OwnB.nil (w : World) (base : Nat) : OwnB w base (.slice none 0 0) [] := World.ownsRow_nil _ _ _ _
theorem OwnB.grown {w w' : World} {base : Nat} {v : Value} {l : List UInt8} (h : OwnB w base v l) (hb : Below w.heap.size w w') : OwnB w' base v l :=
  h.kept (row := none) ⟨hb.os, hb.tape, hb.output, hb.size, fun k hk _ => hb.block k hk⟩ (by cases hv : v.ownBlock <;> simp)
theorem OwnB.lo {w : World} {base : Nat} {v : Value} {l : List UInt8} (h : OwnB w base v l) : ∀ k, v.ownBlock = some k → base ≤ k := fun k hk => (World.ownsRow.lt h k hk).1
theorem OwnB.hi {w : World} {base : Nat} {v : Value} {l : List UInt8} (h : OwnB w base v l) : ∀ k, v.ownBlock = some k → k < w.heap.size := fun k hk => (World.ownsRow.lt h k hk).2
theorem OwnB.weak {w : World} {base base' : Nat} {v : Value} {l : List UInt8} (h : OwnB w base v l) (hb : base' ≤ base) : OwnB w base' v l := by
  refine ⟨h.1, ?_⟩
  rcases h.2 with h2 | ⟨g, cap, cur, h1, hb', r⟩
  · exact Or.inl h2
  · exact Or.inr ⟨g, cap, cur, h1, by omega, r⟩
theorem OwnB.other {w w' : World} {base : Nat} {v : Value} {l : List UInt8} {row : Option Nat} (h : OwnB w base v l) (hg : w.grownBy w' row) (hne : ∀ k, v.ownBlock = some k → row ≠ some k) : OwnB w' base v l :=
  h.kept hg (by
    cases hv : v.ownBlock with
    | none => exact Or.inl rfl
    | some k => exact Or.inr (fun e => hne k hv e.symm))
/-- the bytes l lie at a -/
def BysAt (w : World) (a : Option Addr) (l : List UInt8) : Prop := ∀ i x, l[i]? = some x → ∃ b o, a = some ⟨b, o, none⟩ ∧ w.cell? ⟨b, o + i, none⟩ = some (.int .u8 x.toNat)
theorem BysAt.below {w w' : World} {a : Option Addr} {l : List UInt8} (h : BysAt w a l) (hb : Below w.heap.size w w') : BysAt w' a l := fun i x hx => by
  obtain ⟨b, o, e, hc⟩ := h i x hx
  exact ⟨b, o, e, by rw [hb.cell (p := ⟨b, o + i, none⟩) (lt_of_cell hc)]; exact hc⟩
theorem OwnB.read {w : World} {base : Nat} {v : Value} {l : List UInt8} (h : OwnB w base v l) : ∃ a c, v = .slice a l.length c ∧ BysAt w a l ∧ l.length ≤ maxLen := by
  have h2 := h.2
  rcases h2 with ⟨rfl, h0⟩ | ⟨g, cap, cur, rfl, hb, hg, hn, hm, hs, ht⟩
  · refine ⟨none, 0, by rw [h0], ?_, by rw [h0]; exact Nat.zero_le _⟩
    intro i x hx
    have := (List.getElem?_eq_some_iff.1 hx).1
    omega
  · refine ⟨some ⟨g, 0, none⟩, cap, rfl, ?_, by omega⟩
    intro i x hx
    refine ⟨g, 0, rfl, ?_⟩
    have hi := (List.getElem?_eq_some_iff.1 hx).1
    rw [Nat.zero_add, World.ownsRow.cellAt h i (by omega)]
    rw [Lib.byteCells, List.getElem?_map, hx]; rfl

/-- append of one byte -/
theorem wpList_append_b1 {ops : Array Oper} {rest : List Oper} {o : Oper} {a : Act} {Q : Exit → Act → World → Prop} {W : World} (hgd : o.guard = none) (s x : Operand)
    (ho : o.op = .call { callee := .builtin .append, args := #[s, x], argTypes := #[22, 22] })
    (base : Nat) (v : Value) (l : List UInt8) (z : UInt8) (hs : a.eval s = v) (hown : OwnB W base v l) (g : Nat) (hx : a.eval x = .slice (some ⟨g, 0, none⟩) 1 1)
    (hg : W.heap[g]? = some (.cells #[.int .u8 z.toNat] 5 (0, 0))) (hl : l.length ≤ 1000000000) (hb : base ≤ W.heap.size)
    (h : ∀ a' c' l' w', l' = l ++ [z] → OwnB w' base (.slice a' l'.length c') l' → Below base W w' → wpList Tryz.prog ops Q rest (a.put o.dst (.slice a' l'.length c')) w') : wpList Tryz.prog ops Q (o :: rest) a W := by
  obtain ⟨i0, hi, y0, y1, y2⟩ := info_parts infoU8
  refine wpList_append_own _ hgd s x 22 ho base 5 i0 _ 1 1 Tryz.underlying22 hi y0 y1 y2 rfl (by decide) v l.length (Lib.byteCells l) hs hown ⟨g, 0, none⟩ 1 1 [.int .u8 z.toNat] hx rfl ?_ ?_ (by unfold maxLen; omega) (by omega) hb
    (fun v' w' h1 h2 _ => ?_)
  · intro j u hu
    rw [Addr.add_lit, Nat.zero_add, (heap_cellR hg).1, ← hu]
    simp
  · intro u hu
    simp only [List.mem_singleton] at hu
    subst hu; rfl
  · have ho : OwnB w' base v' (l ++ [z]) := by
      unfold OwnB
      rw [List.length_append, Lib.byteCells, List.map_append]
      simpa [Lib.byteCells] using h1
    obtain ⟨a', c', e, _⟩ := ho.read
    rw [e] at ho ⊢
    exact h a' c' _ w' rfl ho (below_of_grownBy h2 hb (fun k hk => hown.lo k hk))
/-- append of a text -/
theorem wpList_append_bs {ops : Array Oper} {rest : List Oper} {o : Oper} {a : Act} {Q : Exit → Act → World → Prop} {W : World} (hgd : o.guard = none) (s x : Operand)
    (ho : o.op = .call { callee := .builtin .append, args := #[s, x], argTypes := #[22, 9] })
    (base : Nat) (v : Value) (l : List UInt8) (t : ByteArray) (hs : a.eval s = v) (hown : OwnB W base v l) (hx : a.eval x = .string t)
    (hl : l.length + t.size ≤ 1000000000) (hb : base ≤ W.heap.size)
    (h : ∀ a' c' l' w', l' = l ++ t.data.toList → OwnB w' base (.slice a' l'.length c') l' → Below base W w' → wpList Tryz.prog ops Q rest (a.put o.dst (.slice a' l'.length c')) w') : wpList Tryz.prog ops Q (o :: rest) a W := by
  obtain ⟨i0, hi, y0, y1, y2⟩ := info_parts infoU8
  refine Lib.wpList_append_own_string _ hgd s x 22 9 ho base 5 i0 Tryz.underlying22 Tryz.underlying9 hi y0 y1 y2 v l.length (Lib.byteCells l) hs hown t hx (by unfold maxLen; omega) (by omega) hb
    (fun v' w' h1 h2 _ => ?_)
  have ho : OwnB w' base v' (l ++ t.data.toList) := by
    unfold OwnB
    rw [List.length_append, Lib.byteCells, List.map_append]
    exact h1
  obtain ⟨a', c', e, _⟩ := ho.read
  rw [e] at ho ⊢
  exact h a' c' _ w' rfl ho (below_of_grownBy h2 hb (fun k hk => hown.lo k hk))
theorem tabBelow {w : World} {B : Nat} (h : Tab w) (hB : 1 < B) : Lib.TabBelow Tryz.prog B w "internal/strconv.uint64pow10" .u64 Lib.pow10Tab := fun _ hb => h.below hb hB
/-- strconv.AppendInt at bytes of the call's own -/
theorem appendInt_b (B : Nat) (n : Int) (v : Value) (l : List UInt8) (w : World) (h0 : -9223372036854775808 ≤ n) (h1 : n ≤ 9223372036854775807) (ho : OwnB w B v l) (hB : B ≤ w.heap.size) (hl : l.length ≤ 1000000000) (ht : Tab w) (hg : 1 < B) :
    Calls Tryz.prog 60 #[v, .int .i64 n, .int .i64 10] w fun e w' => ∃ a' c' l', l' = l ++ Lib.itoa n ∧ e = .returned (.slice a' l'.length c') ∧ OwnB w' B (.slice a' l'.length c') l' ∧ Below B w w' :=
  (Tryz.strconv_AppendInt_10 B l.length n h0 h1 v (Lib.byteCells l) w ho hB (by omega) (tabBelow ht hg)).mono fun e w' ⟨v', he, ho', hb, _⟩ => by
    have ho2 : OwnB w' B v' (l ++ Lib.itoa n) := by
      unfold OwnB
      rw [List.length_append, Lib.byteCells, List.map_append]
      exact ho'
    obtain ⟨a', c', e2, _⟩ := ho2.read
    rw [e2] at ho2
    exact ⟨a', c', _, rfl, by rw [he, e2], ho2, hb⟩
theorem nums_str (l : List UInt8) : strOfNums (l.map fun x => (x.toNat : Int)) = ⟨l.toArray⟩ := by
  unfold strOfNums
  congr 1
  rw [List.map_map]
  have : ((fun n : Int => UInt8.ofNat n.toNat) ∘ fun x : UInt8 => (x.toNat : Int)) = id := by funext x; simp
  rw [this, List.map_id]
theorem conv_at {w : World} {b o c : Nat} {l : List UInt8} (h : BysAt w (some ⟨b, o, none⟩) l) :
    (convert 22 9 (.slice (some ⟨b, o, none⟩) l.length c)).run Tryz.prog w = .ok (.string ⟨l.toArray⟩) w := by
  have := run_convert_bytes_arg (P := Tryz.prog) w 22 5 Tryz.underlying22 Tryz.underlying5 b o l.length c (l.map fun x => (x.toNat : Int)) (by simp) (fun i hi => by
    obtain ⟨b', o', e, hc⟩ := h i l[i] (List.getElem?_eq_getElem hi)
    simp only [Option.some.injEq, Addr.mk.injEq, and_true] at e
    obtain ⟨rfl, rfl⟩ := e
    rw [hc]
    simp [hi]) 9 Tryz.underlying9
  rw [nums_str] at this
  exact this
/-- bytes of the call's own as a string -/
theorem conv_own {w : World} {base : Nat} {a : Option Addr} {n c : Nat} {l : List UInt8} (h : OwnB w base (.slice a n c) l) :
    (convert 22 9 (.slice a n c)).run Tryz.prog w = .ok (.string ⟨l.toArray⟩) w := by
  obtain ⟨a', c', e, hb, _⟩ := h.read
  obtain ⟨rfl, rfl, rfl⟩ := Value.slice.inj e
  rcases h.2 with ⟨e2, h0⟩ | ⟨g, cap, cur, e2, _⟩
  · obtain ⟨rfl, _, rfl⟩ := Value.slice.inj e2
    have hl : l = [] := List.eq_nil_of_length_eq_zero h0
    subst hl
    exact run_convert_bytes_nil (P := Tryz.prog) w 22 5 Tryz.underlying22 Tryz.underlying5 _ _ 9 Tryz.underlying9
  · obtain ⟨rfl, _, rfl⟩ := Value.slice.inj e2
    exact conv_at hb

end Go.Proofs.YtkmfgchbfchdbaaGreatDoor
namespace Go.Proofs.YtkmfgchbfchdbaaGreatDoor
open Go.RowKit

/-- a text cut at every byte c -/
def cut (c : UInt8) : List UInt8 → List (List UInt8)
  | [] => [[]]
  | x :: r => if x = c then [] :: cut c r else match cut c r with
    | [] => [[x]]
    | h :: t => (x :: h) :: t

theorem cut_ne (c : UInt8) (l : List UInt8) : cut c l ≠ [] := by
  cases l with
  | nil => simp [cut]
  | cons x r => rw [cut]; split; · simp
                split <;> simp

theorem index1_cases (c : UInt8) : ∀ l : List UInt8, Lib.index l [c] = -1 ∨ ∃ i : Nat, Lib.index l [c] = i
  | [] => by left; rw [Lib.index.eq_1]; simp
  | x :: r => by
    rw [Lib.index.eq_2]
    split
    · exact .inr ⟨0, rfl⟩
    · split
      · exact .inl rfl
      · rename_i _ h
        rcases index1_cases c r with h2 | ⟨i, h2⟩
        · simp [h2] at h
        · exact .inr ⟨i + 1, by rw [h2]; rfl⟩

theorem splitK_cut (c : UInt8) : ∀ l : List UInt8, Lib.splitK [c] 0 (Lib.count l [c]) l = cut c l
  | [] => by rw [Lib.count_one]; simp [Lib.splitK.eq_1, cut]
  | x :: r => by
    have ih := splitK_cut c r
    by_cases hx : x = c
    · subst hx
      rw [Lib.count_cons_eq, Nat.add_comm, Lib.splitK.eq_2, Lib.index.eq_2]
      simp [cut, ih]
    · rw [Lib.count_cons_ne _ _ _ hx, cut, if_neg hx, ← ih]
      generalize Lib.count r [c] = k
      cases k with
      | zero => simp [Lib.splitK.eq_1]
      | succ k =>
        rw [Lib.splitK.eq_2, Lib.splitK.eq_2, Lib.index.eq_2]
        have hp : ([c] : List UInt8).isPrefixOf (x :: r) = false := by
          simp [List.isPrefixOf]; exact fun h => hx h.symm
        rw [hp]
        rcases index1_cases c r with h2 | ⟨i, h2⟩
        · simp [h2]
        · have h3 : ¬ ((i : Int) == -1) = true := by simp <;> omega
          have h4 : ¬ (((i : Int) + 1) == -1) = true := by simp <;> omega
          simp only [h2, if_neg h3, Bool.false_eq_true, if_false, if_neg h4]
          have h5 : ((i : Int) + 1).toNat = i + 1 := by omega
          have h6 : ((i : Int)).toNat = i := by omega
          simp [h5, h6]

theorem splitB_cut (s : ByteArray) (c : UInt8) :
    (Lib.splitB ⟨#[c]⟩ 0 (Lib.countB s ⟨#[c]⟩) s).map (fun x => x.data.toList) = cut c s.data.toList := by
  rw [Lib.splitB_data]; exact splitK_cut c _

/-- texts put together with a byte between them -/
def glue (c : UInt8) : List (List UInt8) → List UInt8
  | [] => []
  | [h] => h
  | h :: t => h ++ c :: glue c t

theorem glue_cons (c : UInt8) (h : List UInt8) (t : List (List UInt8)) (ht : t ≠ []) : glue c (h :: t) = h ++ c :: glue c t := by
  cases t with
  | nil => exact absurd rfl ht
  | cons => rfl

theorem glue_cut (c : UInt8) : ∀ l : List UInt8, glue c (cut c l) = l
  | [] => rfl
  | x :: r => by
    have ih := glue_cut c r
    rw [cut]
    split
    · rename_i h; subst h
      rw [glue_cons _ _ _ (cut_ne _ _), ih]; rfl
    · have hne := cut_ne c r
      split
      · rename_i h; exact absurd h hne
      · rename_i h t he
        rw [he] at ih
        cases t with
        | nil => simp only [glue] at ih ⊢; rw [ih]
        | cons a b => simp only [glue] at ih ⊢; rw [← ih]; rfl

theorem cut_free (c : UInt8) : ∀ l : List UInt8, ∀ p ∈ cut c l, c ∉ p
  | [] => by simp [cut]
  | x :: r => by
    have ih := cut_free c r
    rw [cut]
    split
    · intro p hp; rcases List.mem_cons.1 hp with rfl | hp
      · simp
      · exact ih p hp
    · rename_i hx
      split
      · intro p hp; simp at hp; subst hp; simp; exact fun h => hx h.symm
      · rename_i h t he
        rw [he] at ih
        intro p hp; rcases List.mem_cons.1 hp with rfl | hp
        · have := ih h (by simp); simp [this]; exact fun h => hx h.symm
        · exact ih p (by simp [hp])

theorem cut_piece (c : UInt8) : ∀ l : List UInt8, c ∉ l → cut c l = [l]
  | [] => fun _ => rfl
  | x :: r => fun h => by
    simp at h
    rw [cut, if_neg (fun e => h.1 e.symm), cut_piece c r h.2]

theorem cut_app (c : UInt8) : ∀ (p l : List UInt8), c ∉ p → cut c (p ++ c :: l) = p :: cut c l
  | [], l => fun _ => by simp [cut]
  | x :: r, l => fun h => by
    simp at h
    rw [List.cons_append, cut, if_neg (fun e => h.1 e.symm), cut_app c r l h.2]

theorem cut_glue (c : UInt8) : ∀ ps : List (List UInt8), ps ≠ [] → (∀ p ∈ ps, c ∉ p) → cut c (glue c ps) = ps
  | [] => fun h => absurd rfl h
  | [p] => fun _ h => cut_piece c p (h p (by simp))
  | p :: q :: t => fun _ h => by
    rw [glue_cons _ _ _ (by simp), cut_app c p _ (h p (by simp)), cut_glue c (q :: t) (by simp) (fun x hx => h x (by simp [hx]))]

/-- the library's reading of a decimal -/
theorem parseUintM_dec (M : Nat) (hM : M ≤ 18446744073709551615) : ∀ (u : Nat), u ≤ M → ∀ r, Lib.parseUintM M 0 (Lib.decDigits u ++ r) = Lib.parseUintM M u r := by
  intro u
  induction u using Nat.strongRecOn with
  | _ u ih =>
    intro hu r
    rw [Lib.decDigits.eq_1]
    split
    · rename_i h
      have h1 : (UInt8.ofNat (48 + u)).toNat = 48 + u := by simp; omega
      rw [List.singleton_append, Lib.parseUintM.eq_2, h1, if_pos (by omega), if_neg (by omega), if_neg (by omega)]
      congr 1; omega
    · rename_i h
      have h1 : (UInt8.ofNat (48 + u % 10)).toNat = 48 + u % 10 := by simp; omega
      rw [List.append_assoc, ih (u / 10) (by omega) (by omega), List.singleton_append, Lib.parseUintM.eq_2, h1, if_pos (by omega), if_neg (by omega), if_neg (by omega)]
      congr 1; omega

theorem decDigits_ne (u : Nat) : Lib.decDigits u ≠ [] := by
  rw [Lib.decDigits.eq_1]; split <;> simp

theorem dec_digit : ∀ (u : Nat), ∀ x ∈ Lib.decDigits u, 48 ≤ x.toNat ∧ x.toNat ≤ 57 := by
  intro u
  induction u using Nat.strongRecOn with
  | _ u ih =>
    rw [Lib.decDigits.eq_1]
    split
    · intro x hx; simp at hx; subst hx; simp; omega
    · intro x hx
      rcases List.mem_append.1 hx with hx | hx
      · exact ih (u / 10) (by omega) x hx
      · simp at hx; subst hx; simp; omega

theorem parseUintB_dec (u : Nat) (hu : u ≤ 18446744073709551615) : Lib.parseUintB 64 (Lib.decDigits u) = .ok u := by
  have h := parseUintM_dec (2 ^ 64 - 1) (by omega) u (by omega) []
  rw [List.append_nil] at h
  rw [Lib.parseUintB, if_neg (decDigits_ne u), h, Lib.parseUintM.eq_1]

theorem parseIntB_itoa (n : Int) (h0 : -9223372036854775808 ≤ n) (h1 : n ≤ 9223372036854775807) : Lib.parseIntB 64 (Lib.itoa n) = .ok n := by
  by_cases hn : n < 0
  · have e : Lib.itoa n = 45 :: Lib.decDigits n.natAbs := by rw [Lib.itoa, if_pos hn]
    rw [e, Lib.parseIntB_minus, parseUintB_dec _ (by omega), Lib.signedC, if_neg (by omega)]
    congr 1; omega
  · have e : Lib.itoa n = Lib.decDigits n.toNat := by rw [Lib.itoa, if_neg hn]
    rw [e]
    have hd := dec_digit n.toNat
    have hp := parseUintB_dec n.toNat (by omega)
    cases he : Lib.decDigits n.toNat with
    | nil => exact absurd he (decDigits_ne _)
    | cons c r =>
      rw [he] at hd hp
      have := hd c (by simp)
      rw [Lib.parseIntB_plain _ _ _ (by omega) (by omega), hp, Lib.signlessC, if_neg (by omega)]
      congr 1; omega

/-- the number that a text is in decimal, as the program reads it -/
def rnum (l : List UInt8) : Option Int :=
  match Lib.parseIntB 64 l with
  | .ok n => if Lib.itoa n = l then some n else none
  | _ => none

theorem rnum_some (l : List UInt8) (n : Int) (h : rnum l = some n) : l = Lib.itoa n := by
  unfold rnum at h
  split at h
  · split at h
    · rename_i h2; cases h; exact h2.symm
    · cases h
  · cases h

theorem rnum_itoa (n : Int) (h0 : -9223372036854775808 ≤ n) (h1 : n ≤ 9223372036854775807) : rnum (Lib.itoa n) = some n := by
  unfold rnum; rw [parseIntB_itoa n h0 h1]; simp

end Go.Proofs.YtkmfgchbfchdbaaGreatDoor
namespace Go.Proofs.YtkmfgchbfchdbaaGreatDoor
open Go.RowKit

/-- the number that digits spell -/
def dval (l : List UInt8) : Nat := l.foldl (fun n x => 10 * n + (x.toNat - 48)) 0

theorem dval_dec : ∀ u : Nat, dval (Lib.decDigits u) = u := by
  intro u
  induction u using Nat.strongRecOn with
  | _ u ih =>
    rw [Lib.decDigits.eq_1]
    split
    · rename_i h
      have h1 : (UInt8.ofNat (48 + u)).toNat = 48 + u := by simp; omega
      simp only [dval, List.foldl_cons, List.foldl_nil, h1]; omega
    · rename_i h
      have h1 : (UInt8.ofNat (48 + u % 10)).toNat = 48 + u % 10 := by simp; omega
      have h2 := ih (u / 10) (by omega)
      unfold dval at h2 ⊢
      rw [List.foldl_append, h2]
      simp only [List.foldl_cons, List.foldl_nil, h1]; omega

theorem dec_len : ∀ (k u : Nat), u < 10 ^ (k + 1) → (Lib.decDigits u).length ≤ k + 1
  | 0, u, h => by rw [Lib.decDigits.eq_1, dif_pos (by omega)]; simp
  | k + 1, u, h => by
    rw [Lib.decDigits.eq_1]
    split
    · simp
    · have := dec_len k (u / 10) (by rw [Nat.pow_succ] at h; omega)
      simp; omega

/-- the reference's reading of a number of at most twelve digits -/
def valS (l : List UInt8) : Option Int :=
  if 1 ≤ l.length ∧ l.length ≤ 12 ∧ (∀ x ∈ l, 48 ≤ x.toNat ∧ x.toNat ≤ 57) ∧ Lib.decDigits (dval l) = l then some (dval l) else none

theorem valS_dec (u : Nat) (h : u < 1000000000000) : valS (Lib.decDigits u) = some (u : Int) := by
  have hl := dec_len 11 u (by simpa using h)
  have hne := decDigits_ne u
  have h1 : 1 ≤ (Lib.decDigits u).length := by
    cases he : Lib.decDigits u with
    | nil => exact absurd he hne
    | cons => simp
  unfold valS
  rw [dval_dec, if_pos ⟨h1, by omega, dec_digit u, rfl⟩]

theorem itoa_mem (n : Int) : ∀ x ∈ Lib.itoa n, x.toNat = 45 ∨ (48 ≤ x.toNat ∧ x.toNat ≤ 57) := by
  intro x hx
  unfold Lib.itoa at hx
  split at hx
  · rcases List.mem_cons.1 hx with rfl | hx
    · exact .inl rfl
    · exact .inr (dec_digit _ x hx)
  · exact .inr (dec_digit _ x hx)

theorem itoa_no (n : Int) (c : UInt8) (hc : c.toNat ≠ 45) (hd : ¬ (48 ≤ c.toNat ∧ c.toNat ≤ 57)) : c ∉ Lib.itoa n := by
  intro hx
  rcases itoa_mem n c hx with h | h
  · exact hc h
  · exact hd h

end Go.Proofs.YtkmfgchbfchdbaaGreatDoor
namespace Go.Proofs.YtkmfgchbfchdbaaGreatDoor
open Go.RowKit

/-- low <= n <= high -/
def inB (n lo hi : Int) : Bool := decide (lo ≤ n ∧ n ≤ hi)
theorem inB_iff {n lo hi : Int} : inB n lo hi = true ↔ lo ≤ n ∧ n ≤ hi := by simp [inB]
theorem inB_not {n lo hi : Int} : inB n lo hi = false ↔ n < lo ∨ hi < n := by simp [inB]; omega

set_option maxHeartbeats 400000 in
theorem inRange_any (n lo hi : Int) (w : World) :
    Calls Tryz.prog 70 #[.int .i64 n, .int .i64 lo, .int .i64 hi] w fun e w' => e = .returned (.bool (inB n lo hi)) ∧ w = w' := by
  have e : inB n lo hi = (decide (lo ≤ n) && decide (n ≤ hi)) := by simp [inB]
  rw [e]
  clear e
  go_enter Tryz.func70, Tryz.ntmps70
  go_wp2
  all_goals go_ret
  all_goals exact ⟨ret_bool (by simp; try omega), rfl⟩

set_option maxHeartbeats 400000 in
theorem l01In_any (n lo hi : Int) (w : World) :
    Calls Tryz.prog 85 #[.int .i64 n, .int .i64 lo, .int .i64 hi] w fun e w' => e = .returned (.bool (inB n lo hi)) ∧ w = w' := by
  have e : inB n lo hi = (decide (lo ≤ n) && decide (n ≤ hi)) := by simp [inB]
  rw [e]
  clear e
  go_enter Tryz.func85, Tryz.ntmps85
  go_wp2
  all_goals go_ret
  all_goals exact ⟨ret_bool (by simp; try omega), rfl⟩

theorem inRange_val {n lo hi : Int} {b : Bool} {w : World} (h : inB n lo hi = b) :
    Calls Tryz.prog 70 #[.int .i64 n, .int .i64 lo, .int .i64 hi] w fun e w' => e = .returned (.bool b) ∧ w = w' := h ▸ inRange_any n lo hi w
theorem l01In_val {n lo hi : Int} {b : Bool} {w : World} (h : inB n lo hi = b) :
    Calls Tryz.prog 85 #[.int .i64 n, .int .i64 lo, .int .i64 hi] w fun e w' => e = .returned (.bool b) ∧ w = w' := h ▸ l01In_any n lo hi w

end Go.Proofs.YtkmfgchbfchdbaaGreatDoor
namespace Go.Proofs.YtkmfgchbfchdbaaGreatDoor
open Go.RowKit

/-- a record in two numbers -/
structure Rc where
  k : Int
  n : Int
def Rc.ok (r : Rc) : Bool := inB r.k 1 4 && inB r.n 0 199
theorem Rc.ok_iff (r : Rc) : r.ok = true ↔ (1 ≤ r.k ∧ r.k ≤ 4) ∧ (0 ≤ r.n ∧ r.n ≤ 199) := by
  unfold Rc.ok; rw [Bool.and_eq_true, inB_iff, inB_iff]

def wPlan : List UInt8 := [112, 108, 97, 110]
def wPrint : List UInt8 := [112, 114, 105, 110, 116]
def wRead : List UInt8 := [114, 101, 97, 100]
def wVoid : List UInt8 := [118, 111, 105, 100]
/-- the word of a kind -/
def wordJ (k : Int) : List UInt8 := if k = 1 then wPlan else if k = 2 then wPrint else if k = 3 then wRead else wVoid
/-- the kind with a word; 0 if it is none -/
def kindJ (l : List UInt8) : Int := if l = wPlan then 1 else if l = wPrint then 2 else if l = wRead then 3 else if l = wVoid then 4 else 0
theorem kindJ_word {k : Int} (h1 : 1 ≤ k) (h4 : k ≤ 4) : kindJ (wordJ k) = k := by
  have : k = 1 ∨ k = 2 ∨ k = 3 ∨ k = 4 := by omega
  rcases this with rfl | rfl | rfl | rfl <;> decide
theorem word_kindJ {l : List UInt8} (h : kindJ l ≠ 0) : wordJ (kindJ l) = l ∧ 1 ≤ kindJ l ∧ kindJ l ≤ 4 := by
  unfold kindJ at h ⊢
  repeat' split
  all_goals first | (rename_i e; subst e; decide) | skip
  all_goals simp_all

/-- the beginning of a line -/
def headJ (n : Nat) (r : Rc) : List UInt8 := Lib.itoa n ++ 32 :: (wordJ r.k ++ 32 :: Lib.itoa r.n)
/-- the sum behind some bytes -/
def sumJ (s : Int) (l : List UInt8) : Int := l.foldl (fun s b => (131 * s + b.toNat + 1) % 65521) s
def nextJ (n : Nat) (s : Int) (r : Rc) : Int := sumJ s (headJ n r)
/-- a line without its end -/
def lineJ (n : Nat) (s : Int) (r : Rc) : List UInt8 := headJ n r ++ 32 :: Lib.itoa (nextJ n s r)

theorem sumJ_cons (s : Int) (b : UInt8) (l : List UInt8) : sumJ s (b :: l) = sumJ ((131 * s + b.toNat + 1) % 65521) l := rfl
theorem sumJ_snoc (s : Int) (l : List UInt8) (b : UInt8) : sumJ s (l ++ [b]) = (131 * sumJ s l + b.toNat + 1) % 65521 := by simp [sumJ, List.foldl_append]
theorem sumJ_range {s : Int} (h : 0 ≤ s ∧ s < 65521) : ∀ l, 0 ≤ sumJ s l ∧ sumJ s l < 65521 := by
  intro l
  induction l generalizing s with
  | nil => exact h
  | cons b l ih => rw [sumJ_cons]; exact ih (by omega)
theorem nextJ_range {n : Nat} {s : Int} {r : Rc} (h : 0 ≤ s ∧ s < 65521) : 0 ≤ nextJ n s r ∧ nextJ n s r < 65521 := sumJ_range h _

/-- the journal of records, and its last sum -/
def textJ : Nat → Int → List Rc → List UInt8
  | _, _, [] => []
  | n, s, r :: t => lineJ n s r ++ 10 :: textJ (n + 1) (nextJ n s r) t
def lastJ : Nat → Int → List Rc → Int
  | _, s, [] => s
  | n, s, r :: t => lastJ (n + 1) (nextJ n s r) t

theorem lastJ_range : ∀ (l : List Rc) (n : Nat) {s : Int}, 0 ≤ s ∧ s < 65521 → 0 ≤ lastJ n s l ∧ lastJ n s l < 65521
  | [], _, _, h => h
  | _ :: t, n, _, h => lastJ_range t (n + 1) (nextJ_range h)
theorem textJ_snoc : ∀ (l : List Rc) (n : Nat) (s : Int) (r : Rc), textJ n s (l ++ [r]) = textJ n s l ++ (lineJ (n + l.length) (lastJ n s l) r ++ [10])
  | [], n, s, r => by simp [textJ, lastJ]
  | a :: t, n, s, r => by
    rw [List.cons_append, textJ, textJ_snoc t (n + 1) (nextJ n s a) r, textJ, lastJ, List.length_cons]
    have e : n + 1 + t.length = n + (t.length + 1) := by omega
    rw [e]; simp
theorem lastJ_snoc : ∀ (l : List Rc) (n : Nat) (s : Int) (r : Rc), lastJ n s (l ++ [r]) = nextJ (n + l.length) (lastJ n s l) r
  | [], n, s, r => by simp [lastJ]
  | a :: t, n, s, r => by
    rw [List.cons_append, lastJ, lastJ_snoc t (n + 1) (nextJ n s a) r, lastJ, List.length_cons]
    have e : n + 1 + t.length = n + (t.length + 1) := by omega
    rw [e]

/-- the words of a line -/
def wordsJ (n : Nat) (s : Int) (r : Rc) : List (List UInt8) := [Lib.itoa n, wordJ r.k, Lib.itoa r.n, Lib.itoa (nextJ n s r)]
theorem lineJ_glue (n : Nat) (s : Int) (r : Rc) : lineJ n s r = glue 32 (wordsJ n s r) := by
  simp [lineJ, headJ, wordsJ, glue]
theorem wordJ_free (k : Int) : (32 : UInt8) ∉ wordJ k ∧ (10 : UInt8) ∉ wordJ k := by
  have h : ((32 : UInt8) ∉ wPlan ∧ (10 : UInt8) ∉ wPlan) ∧ ((32 : UInt8) ∉ wPrint ∧ (10 : UInt8) ∉ wPrint) ∧ ((32 : UInt8) ∉ wRead ∧ (10 : UInt8) ∉ wRead) ∧ ((32 : UInt8) ∉ wVoid ∧ (10 : UInt8) ∉ wVoid) := by decide
  unfold wordJ
  repeat' split
  · exact h.1
  · exact h.2.1
  · exact h.2.2.1
  · exact h.2.2.2
theorem wordsJ_free (n : Nat) (s : Int) (r : Rc) : ∀ p ∈ wordsJ n s r, (32 : UInt8) ∉ p ∧ (10 : UInt8) ∉ p := by
  have ha : ∀ n, (32 : UInt8) ∉ Lib.itoa n ∧ (10 : UInt8) ∉ Lib.itoa n := fun n => ⟨itoa_no n 32 (by decide) (by decide), itoa_no n 10 (by decide) (by decide)⟩
  intro p hp
  simp only [wordsJ, List.mem_cons, List.not_mem_nil, or_false] at hp
  rcases hp with rfl | rfl | rfl | rfl
  · exact ha _
  · exact wordJ_free _
  · exact ha _
  · exact ha _
theorem cut_lineJ (n : Nat) (s : Int) (r : Rc) : cut 32 (lineJ n s r) = wordsJ n s r := by
  rw [lineJ_glue]; exact cut_glue 32 _ (by simp [wordsJ]) (fun p hp => (wordsJ_free n s r p hp).1)
theorem lineJ_no (n : Nat) (s : Int) (r : Rc) : (10 : UInt8) ∉ lineJ n s r := by
  intro h
  simp only [lineJ, headJ, List.mem_append, List.mem_cons] at h
  have ha : ∀ n, (10 : UInt8) ∉ Lib.itoa n := fun n => itoa_no n 10 (by decide) (by decide)
  have hw := (wordJ_free r.k).2
  rcases h with (h | h | h | h | h) | h | h
  · exact ha _ h
  · exact absurd h (by decide)
  · exact hw h
  · exact absurd h (by decide)
  · exact ha _ h
  · exact absurd h (by decide)
  · exact ha _ h

/-- the bytes before the first end of a line -/
def lineOf : List UInt8 → Option (List UInt8)
  | [] => none
  | x :: r => if x = 10 then some [] else (lineOf r).map (x :: ·)
theorem lineOf_some : ∀ (l p : List UInt8), lineOf l = some p → (10 : UInt8) ∉ p ∧ ∃ t, l = p ++ 10 :: t
  | [], p, h => by simp [lineOf] at h
  | x :: r, p, h => by
    rw [lineOf] at h
    split at h
    · rename_i hx; subst hx; cases h; exact ⟨by simp, r, rfl⟩
    · rename_i hx
      cases hr : lineOf r with
      | none => rw [hr] at h; cases h
      | some q =>
        rw [hr] at h; cases h
        obtain ⟨h1, t, h2⟩ := lineOf_some r q hr
        exact ⟨by simp; exact ⟨fun e => hx e.symm, h1⟩, t, by rw [h2]; rfl⟩
theorem lineOf_app : ∀ (p t : List UInt8), (10 : UInt8) ∉ p → lineOf (p ++ 10 :: t) = some p
  | [], t, _ => by simp [lineOf]
  | x :: p, t, h => by
    simp at h
    rw [List.cons_append, lineOf, if_neg (fun e => h.1 e.symm), lineOf_app p t h.2]; rfl
theorem lineOf_none : ∀ l : List UInt8, lineOf l = none → (10 : UInt8) ∉ l
  | [], _ => by simp
  | x :: r, h => by
    rw [lineOf] at h
    split at h
    · cases h
    · rename_i hx
      cases hr : lineOf r with
      | none => simp; exact ⟨fun e => hx e.symm, lineOf_none r hr⟩
      | some q => rw [hr] at h; cases h

/-- the program's reading of a number that is not negative -/
def rdec (l : List UInt8) : Option Int :=
  if l = [] ∨ (1 < l.length ∧ l[0]? = some 48) ∨ l[0]? = some 43 ∨ l[0]? = some 45 then none
  else match Lib.parseIntB 64 l with | .ok n => some n | _ => none
theorem dec_head : ∀ u : Nat, 10 ≤ u → (Lib.decDigits u)[0]? ≠ some 48 := by
  intro u
  induction u using Nat.strongRecOn with
  | _ u ih =>
    intro h
    rw [Lib.decDigits.eq_1, dif_neg (by omega)]
    by_cases h2 : u / 10 < 10
    · rw [Lib.decDigits.eq_1, dif_pos h2]
      intro e
      have h3 : UInt8.ofNat (48 + u / 10) = 48 := by
        rw [List.singleton_append, List.getElem?_cons_zero] at e
        exact Option.some.inj e
      have : (UInt8.ofNat (48 + u / 10)).toNat = 48 := by rw [h3]; rfl
      rw [UInt8.toNat_ofNat'] at this
      omega
    · have := ih (u / 10) (by omega) (by omega)
      rw [List.getElem?_append_left]
      · exact this
      · cases he : Lib.decDigits (u / 10) with
        | nil => exact absurd he (decDigits_ne _)
        | cons => simp
theorem rdec_itoa {n : Int} (h0 : 0 ≤ n) (h1 : n ≤ 9223372036854775807) : rdec (Lib.itoa n) = some n := by
  unfold rdec
  rw [if_neg, parseIntB_itoa n (by omega) h1]
  obtain ⟨u, rfl⟩ := Int.eq_ofNat_of_zero_le h0
  rw [Lib.itoa_nonneg]
  have hd := dec_digit u
  have hh := dec_head u
  rintro (h | ⟨h, h2⟩ | h | h)
  · exact decDigits_ne _ h
  · by_cases hu : 10 ≤ u
    · exact hh hu h2
    · rw [Lib.decDigits.eq_1, dif_pos (by omega)] at h; simp at h
  · have := hd 43 (List.mem_of_getElem? h); simp at this
  · have := hd 45 (List.mem_of_getElem? h); simp at this

/-- the program's reading of the next record -/
def readJ (n : Nat) (s : Int) (rest : List UInt8) : Option Rc :=
  match lineOf rest with
  | none => none
  | some p => match cut 32 p with
    | [_, b, c, _] => match rdec c with
      | none => none
      | some i => if kindJ b ≠ 0 ∧ Rc.ok ⟨kindJ b, i⟩ = true ∧ (lineJ n s ⟨kindJ b, i⟩ ++ [10]).isPrefixOf rest = true then some ⟨kindJ b, i⟩ else none
    | _ => none

theorem readJ_iff (n : Nat) (s : Int) (rest : List UInt8) (r : Rc) : readJ n s rest = some r ↔ r.ok = true ∧ ∃ t, rest = lineJ n s r ++ 10 :: t := by
  constructor
  · intro h
    unfold readJ at h
    split at h
    · cases h
    · split at h
      · split at h
        · cases h
        · split at h
          rotate_left
          · cases h
          rename_i hk
          cases h
          refine ⟨hk.2.1, ?_⟩
          obtain ⟨t, ht⟩ := List.isPrefixOf_iff_prefix.1 hk.2.2
          exact ⟨t, by rw [← ht]; simp⟩
      · cases h
  · rintro ⟨hok, t, rfl⟩
    have ho := (r.ok_iff).1 hok
    unfold readJ
    rw [lineOf_app _ _ (lineJ_no n s r)]
    simp only [cut_lineJ, wordsJ, rdec_itoa ho.2.1 (show r.n ≤ 9223372036854775807 by omega), kindJ_word ho.1.1 ho.1.2]
    rw [if_pos]
    refine ⟨by omega, hok, List.isPrefixOf_iff_prefix.2 ⟨t, by simp⟩⟩

/-- the program's reading of a journal -/
def recJ : Nat → Nat → Int → List UInt8 → List Rc
  | 0, _, _, _ => []
  | f + 1, n, s, rest => match readJ n s rest with
    | none => []
    | some r => r :: recJ f (n + 1) (nextJ n s r) (rest.drop ((lineJ n s r).length + 1))

/-- the reference's reading of a line: the record, perhaps wrong -/
def spReadJ (p : List UInt8) : Rc :=
  match cut 32 p with
  | [_, b, c, _] => match valS c with
    | none => ⟨0, 0⟩
    | some i => ⟨kindJ b, i⟩
  | _ => ⟨0, 0⟩
theorem spReadJ_line {n : Nat} {s : Int} {r : Rc} (h : r.ok = true) : spReadJ (lineJ n s r) = r := by
  have ho := (r.ok_iff).1 h
  obtain ⟨k, i⟩ := r
  dsimp only at ho
  obtain ⟨u, rfl⟩ := Int.eq_ofNat_of_zero_le ho.2.1
  unfold spReadJ
  simp only [cut_lineJ, wordsJ, Lib.itoa_nonneg, valS_dec u (by omega), kindJ_word ho.1.1 ho.1.2]

/-- the reference's reading of a journal's lines -/
def spRecJ : Nat → Nat → Int → List (List UInt8) → List Rc
  | 0, _, _, _ => []
  | f + 1, n, s, p :: q :: t => if (spReadJ p).ok = true ∧ lineJ n s (spReadJ p) = p then spReadJ p :: spRecJ f (n + 1) (nextJ n s (spReadJ p)) (q :: t) else []
  | _ + 1, _, _, _ => []

theorem rec_sp : ∀ (f n : Nat) (s : Int) (rest : List UInt8), recJ f n s rest = spRecJ f n s (cut 10 rest)
  | 0, n, s, rest => by rw [recJ, spRecJ]
  | f + 1, n, s, rest => by
    rw [recJ]
    cases hr : readJ n s rest with
    | some r =>
      obtain ⟨hok, t, rfl⟩ := (readJ_iff n s rest r).1 hr
      have hd : (lineJ n s r ++ 10 :: t).drop ((lineJ n s r).length + 1) = t := by
        rw [List.drop_append]; simp
      simp only []
      rw [hd, cut_app 10 _ _ (lineJ_no n s r), rec_sp f]
      cases hc : cut 10 t with
      | nil => exact absurd hc (cut_ne 10 t)
      | cons q u => rw [spRecJ, spReadJ_line hok, if_pos ⟨hok, rfl⟩]
    | none =>
      simp only []
      have hg := glue_cut 10 rest
      have hf := cut_free 10 rest
      cases hc : cut 10 rest with
      | nil => rw [spRecJ]; simp
      | cons p t =>
        cases t with
        | nil => rw [spRecJ]; simp
        | cons q u =>
          rw [spRecJ, if_neg]
          rintro ⟨h1, h2⟩
          rw [hc, glue_cons 10 p _ (by simp)] at hg
          have := (readJ_iff n s rest (spReadJ p)).2 ⟨h1, glue 10 (q :: u), by rw [h2, hg]⟩
          rw [hr] at this; cases this

theorem recJ_prop : ∀ (f n : Nat) (s : Int) (rest : List UInt8), (∀ r ∈ recJ f n s rest, r.ok = true) ∧ (recJ f n s rest).length ≤ f ∧ ∃ t, rest = textJ n s (recJ f n s rest) ++ t
  | 0, n, s, rest => by rw [recJ]; exact ⟨by simp, by simp, rest, rfl⟩
  | f + 1, n, s, rest => by
    rw [recJ]
    cases hr : readJ n s rest with
    | some r =>
      obtain ⟨hok, t, rfl⟩ := (readJ_iff n s rest r).1 hr
      have hd : (lineJ n s r ++ 10 :: t).drop ((lineJ n s r).length + 1) = t := by
        rw [List.drop_append]; simp
      simp only [hd]
      obtain ⟨h1, h2, u, h3⟩ := recJ_prop f (n + 1) (nextJ n s r) t
      refine ⟨?_, by simpa using h2, u, ?_⟩
      · intro x hx
        rcases List.mem_cons.1 hx with rfl | hx
        · exact hok
        · exact h1 x hx
      · rw [textJ, List.append_assoc, List.cons_append, ← h3]
    | none => exact ⟨by simp, by simp, rest, rfl⟩

theorem recJ_text : ∀ (l : List Rc) (f n : Nat) (s : Int), (∀ r ∈ l, r.ok = true) → l.length ≤ f → recJ f n s (textJ n s l) = l
  | [], f, n, s, _, _ => by
    cases f with
    | zero => rfl
    | succ f =>
      rw [recJ]
      cases hr : readJ n s (textJ n s []) with
      | none => rfl
      | some r =>
        obtain ⟨_, t, h⟩ := (readJ_iff n s _ r).1 hr
        simp [textJ] at h
  | r :: t, f, n, s, hok, hl => by
    cases f with
    | zero => simp at hl
    | succ f =>
      have h := (readJ_iff n s (textJ n s (r :: t)) r).2 ⟨hok r (by simp), _, by rw [textJ]⟩
      rw [recJ, h]
      simp only []
      have hd : (textJ n s (r :: t)).drop ((lineJ n s r).length + 1) = textJ (n + 1) (nextJ n s r) t := by
        rw [textJ, List.drop_append]; simp
      rw [hd, recJ_text t f (n + 1) (nextJ n s r) (fun x hx => hok x (by simp [hx])) (by simp at hl; omega)]

theorem itoa_len {n : Int} (k : Nat) (h0 : 0 ≤ n) (h : n < 10 ^ (k + 1)) : (Lib.itoa n).length ≤ k + 1 := by
  obtain ⟨u, rfl⟩ := Int.eq_ofNat_of_zero_le h0
  rw [Lib.itoa_nonneg]
  exact dec_len k u (by exact_mod_cast h)
theorem wordJ_len (k : Int) : (wordJ k).length ≤ 5 := by
  unfold wordJ
  repeat' split
  all_goals decide
theorem lineJ_len {n : Nat} {s : Int} {r : Rc} (hn : n < 1000) (hs : 0 ≤ s ∧ s < 65521) (hok : r.ok = true) : (lineJ n s r).length ≤ 19 := by
  have ho := (r.ok_iff).1 hok
  have hx := nextJ_range (n := n) (r := r) hs
  have h1 := itoa_len 2 (n := (n : Int)) (by omega) (by omega)
  have h2 := wordJ_len r.k
  have h3 := itoa_len 2 ho.2.1 (by omega)
  have h4 := itoa_len 4 hx.1 (by omega)
  simp only [lineJ, headJ, List.length_append, List.length_cons]
  omega
theorem textJ_len : ∀ (l : List Rc) (n : Nat) (s : Int), n + l.length ≤ 1000 → 0 ≤ s ∧ s < 65521 → (∀ r ∈ l, r.ok = true) → (textJ n s l).length ≤ 20 * l.length
  | [], _, _, _, _, _ => by simp [textJ]
  | r :: t, n, s, hn, hs, hok => by
    have h1 := lineJ_len (n := n) (s := s) (r := r) (by simp at hn; omega) hs (hok r (by simp))
    have h2 := textJ_len t (n + 1) (nextJ n s r) (by simp at hn; omega) (nextJ_range hs) (fun x hx => hok x (by simp [hx]))
    rw [textJ]
    simp only [List.length_append, List.length_cons]
    omega

end Go.Proofs.YtkmfgchbfchdbaaGreatDoor
namespace Go.Proofs.YtkmfgchbfchdbaaGreatDoor
open Go.RowKit

def wordJB (k : Int) : ByteArray := ⟨(wordJ k).toArray⟩
theorem wordJB_list (k : Int) : (wordJB k).data.toList = wordJ k := by simp [wordJB]
theorem wordJB_size (k : Int) : (wordJB k).size ≤ 5 := wordJ_len k

theorem ixW0 (w : World) : (Instr.index 202 (.agg #[.string ⟨#[112, 108, 97, 110]⟩, .string ⟨#[112, 114, 105, 110, 116]⟩, .string ⟨#[114, 101, 97, 100]⟩, .string ⟨#[118, 111, 105, 100]⟩]) (.int .i64 0)).run Tryz.prog w = .ok (.string ⟨#[112, 108, 97, 110]⟩) w := by kernel_rfl
theorem ixW1 (w : World) : (Instr.index 202 (.agg #[.string ⟨#[112, 108, 97, 110]⟩, .string ⟨#[112, 114, 105, 110, 116]⟩, .string ⟨#[114, 101, 97, 100]⟩, .string ⟨#[118, 111, 105, 100]⟩]) (.int .i64 1)).run Tryz.prog w = .ok (.string ⟨#[112, 114, 105, 110, 116]⟩) w := by kernel_rfl
theorem ixW2 (w : World) : (Instr.index 202 (.agg #[.string ⟨#[112, 108, 97, 110]⟩, .string ⟨#[112, 114, 105, 110, 116]⟩, .string ⟨#[114, 101, 97, 100]⟩, .string ⟨#[118, 111, 105, 100]⟩]) (.int .i64 2)).run Tryz.prog w = .ok (.string ⟨#[114, 101, 97, 100]⟩) w := by kernel_rfl
theorem ixW3 (w : World) : (Instr.index 202 (.agg #[.string ⟨#[112, 108, 97, 110]⟩, .string ⟨#[112, 114, 105, 110, 116]⟩, .string ⟨#[114, 101, 97, 100]⟩, .string ⟨#[118, 111, 105, 100]⟩]) (.int .i64 3)).run Tryz.prog w = .ok (.string ⟨#[118, 111, 105, 100]⟩) w := by kernel_rfl

set_option maxRecDepth 100000 in
set_option maxHeartbeats 400000 in
theorem recordWord_any (k : Int) (w : World) (h1 : 1 ≤ k) (h4 : k ≤ 4) :
    Calls Tryz.prog 121 #[.int .i64 k] w fun e w' => e = .returned (.string (wordJB k)) ∧ Below w.heap.size w w' := by
  have hk : k = 1 ∨ k = 2 ∨ k = 3 ∨ k = 4 := by omega
  have i0 := ixW0 w
  have i1 := ixW1 w
  have i2 := ixW2 w
  have i3 := ixW3 w
  rcases hk with rfl | rfl | rfl | rfl
  all_goals
    go_enter Tryz.func121, Tryz.ntmps121
    go_wp2_with fail
    go_ret
    exact ⟨rfl, Below.refl _ _⟩

/-- the journal at block J -/
def JnAt (w : World) (J : Nat) (v : Value) (n : Nat) (s : Int) : Prop := w.heap[J]? = some (.cells #[v, .int .i64 n, .int .i64 s] 140 (0, 0))
/-- a line and its sum are handed back -/
def RetLine (w : World) (l : List UInt8) (s : Int) (e : Ending) (w' : World) : Prop :=
  ∃ a c l', l' = l ∧ e = .returned (.tuple #[.slice a l'.length c, .int .i64 s]) ∧ OwnB w' w.heap.size (.slice a l'.length c) l' ∧ Below w.heap.size w w'
theorem sumJ_take {l : List UInt8} {s : Int} {k : Nat} {x : UInt8} (hx : l[k]? = some x) : sumJ s (l.take (k + 1)) = (131 * sumJ s (l.take k) + x.toNat + 1) % 65521 := by
  rw [take_snoc' hx, sumJ_snoc]

set_option maxRecDepth 100000 in
set_option maxHeartbeats 1000000 in
theorem line_any (J n : Nat) (s : Int) (v : Value) (r : Rc) (w : World) (hj : JnAt w J v n s) (hok : r.ok = true) (hn : n < 1000) (hs : 0 ≤ s ∧ s < 65521) (ht : Tab w) :
    Calls Tryz.prog 122 #[.pointer (some ⟨J, 0, none⟩), .agg #[.int .i64 r.k, .int .i64 r.n]] w (RetLine w (lineJ n s r ++ [10]) (nextJ n s r)) := by
  have hok' := (r.ok_iff).1 hok
  obtain ⟨k, i⟩ := r
  dsimp only at hok' ⊢
  have HJ := Lib.hid hj
  have HT := Lib.hid ht
  obtain ⟨hcj, hfj⟩ := heap_cellR hj
  have hjl : J < w.heap.size := blkLt hj
  clear hj ht hok
  go_enter Tryz.func122, Tryz.ntmps122
  go_wp2_with fail
  have HB0 := Lib.hid (ba1 w (.cells #[.int .i64 k, .int .i64 i] 59 (0, 0)))
  have hbx := push_at w (.cells #[.int .i64 k, .int .i64 i] 59 (0, 0))
  have HBX := Lib.hid hbx
  have hltg := HT.out.lt
  have HB_ := Lib.hid (Below.refl (w.heap.size + 1) (w.alloc (.cells #[.int .i64 k, .int .i64 i] 59 (0, 0))))
  refine (appendInt_b (w.heap.size + 1) (n : Int) _ [] _ (by omega) (by omega) (OwnB.nil _ _) (by simp) (by simp) (HT.out.next HB0.out) (by omega)).mono ?_
  rintro e w1 ⟨a1, c1, l1, he1, rfl, ho1, hb1⟩
  have HO1 := Lib.hid ho1
  have HB1 := Lib.hid hb1
  have hz1 : w.heap.size + 1 ≤ w1.heap.size := by have := hb1.size; simpa using this
  have hl1 : l1.length ≤ 3 := by
    have := itoa_len (n := (n : Int)) 2 (by omega) (by omega)
    rw [he1, List.nil_append]; omega
  have HE1 := Lib.hid he1
  clear he1 ho1 hb1 hbx hcj hfj
  go_wp2_with (at_builtin; refine wpList_append_b1 (o := _) (s := .tmp 15) (x := .tmp 16) rfl rfl (w.heap.size + 1) (.slice a1 l1.length c1) l1 32 rfl (HO1.out.grown (ba1 _ _)) w1.heap.size rfl (push_at w1 _) (by omega) (by simp; omega) ?h9)
  case h9 =>
  intro a2 c2 l2 w2 he2 ho2 hb2
  have HO2 := Lib.hid ho2
  have HB2 := Lib.hid (HB1.out.trans (((ba1 w1 (.cells #[.int .u8 32] 5 (0, 0))).mono hz1).trans hb2))
  have hz2 : w.heap.size + 1 ≤ w2.heap.size := by have := hb2.size; simp at this; omega
  have hl2 : l2.length ≤ l1.length + 1 := by rw [he2]; simp
  have HE2 := Lib.hid he2
  clear he2 ho2 hb2
  have hc2 := (heap_cellR ((HB2.out.block w.heap.size (Nat.lt_succ_self _)).trans HBX.out)).1
  go_wp2_with fail
  refine (recordWord_any k _ hok'.1.1 hok'.1.2).mono ?_
  rintro e w2b ⟨rfl, hb2b⟩
  have HO2b := Lib.hid (HO2.out.grown hb2b)
  have HB2b := Lib.hid (HB2.out.trans (hb2b.mono hz2))
  have hz2b : w.heap.size + 1 ≤ w2b.heap.size := Nat.le_trans hz2 hb2b.size
  have hws := wordJB_size k
  clear hb2b hc2
  go_wp2_with (at_builtin; refine wpList_append_bs (o := _) (s := .tmp 18) (x := .tmp 21) rfl rfl (w.heap.size + 1) (.slice a2 l2.length c2) l2 (wordJB k) rfl HO2b.out rfl (by omega) hz2b ?h9)
  case h9 =>
  intro a3 c3 l3 w3 he3 ho3 hb3
  have HO3 := Lib.hid ho3
  have HB3 := Lib.hid (HB2b.out.trans hb3)
  have hz3 : w.heap.size + 1 ≤ w3.heap.size := Nat.le_trans hz2b hb3.size
  have hl3 : l3.length ≤ l2.length + 5 := by
    have h9 : (wordJB k).data.toList.length = (wordJB k).size := rfl
    rw [he3, List.length_append]; omega
  have HE3 := Lib.hid he3
  clear he3 ho3 hb3
  go_wp2_with (at_builtin; refine wpList_append_b1 (o := _) (s := .tmp 23) (x := .tmp 24) rfl rfl (w.heap.size + 1) (.slice a3 l3.length c3) l3 32 rfl (HO3.out.grown (ba1 _ _)) w3.heap.size rfl (push_at w3 _) (by omega) (by simp; omega) ?h9)
  case h9 =>
  intro a4 c4 l4 w4 he4 ho4 hb4
  have HO4 := Lib.hid ho4
  have HB4 := Lib.hid (HB3.out.trans (((ba1 w3 (.cells #[.int .u8 32] 5 (0, 0))).mono hz3).trans hb4))
  have hz4 : w.heap.size + 1 ≤ w4.heap.size := by have := hb4.size; simp at this; omega
  have hl4 : l4.length ≤ l3.length + 1 := by rw [he4]; simp
  have HE4 := Lib.hid he4
  clear he4 ho4 hb4
  have hc4 := (heap_cellR ((HB4.out.block w.heap.size (Nat.lt_succ_self _)).trans HBX.out)).1
  go_wp2_with fail
  refine (appendInt_b (w.heap.size + 1) i _ l4 _ (by omega) (by omega) HO4.out hz4 (by omega) (HT.out.next (HB0.out.trans (HB4.out.mono (by omega)))) (by omega)).mono ?_
  rintro e w5 ⟨a5, c5, l5, he5, rfl, ho5, hb5⟩
  have HO5 := Lib.hid ho5
  have HB5 := Lib.hid (HB4.out.trans hb5)
  have hz5 : w.heap.size + 1 ≤ w5.heap.size := Nat.le_trans hz4 hb5.size
  have hl5 : l5.length ≤ l4.length + 3 := by
    have := itoa_len (n := i) 2 (by omega) (by omega)
    rw [he5, List.length_append]; omega
  have HE5 := Lib.hid he5
  clear he5 ho5 hb5
  have hj5 : w5.heap[J]? = some (.cells #[v, .int .i64 n, .int .i64 s] 140 (0, 0)) := (HB5.out.block J (by omega)).trans ((HB0.out.block J hjl).trans HJ.out)
  obtain ⟨hcj, hfj⟩ := heap_cellR hj5
  have hll : l5.length ≤ 20 := by omega
  have HHD : Hid (headJ n ⟨k, i⟩ = l5) := Lib.hid (by
    rw [HE5.out, HE4.out, HE3.out, HE2.out, HE1.out, wordJB_list, headJ]; simp)
  clear hc4 hj5
  have HSUM := Lib.hid (show nextJ n s ⟨k, i⟩ = sumJ s l5 by rw [nextJ, HHD.out])
  have hby := HO5.out.read
  obtain ⟨a5', c5', e5, hby, -⟩ := hby
  obtain ⟨rfl, -, rfl⟩ := Value.slice.inj e5
  have HBY := Lib.hid hby
  clear hby e5
  go_wp2_with fail
  go_loop [7, 9, 36] (fun q _ i => ∃ j : Nat, j ≤ l5.length ∧ i = .int .i64 j ∧ q = .int .i64 (sumJ s (l5.take j))) (fun _ _ i => l5.length - (intOf i).toNat)
  case atStart => exact ⟨0, Nat.zero_le _, rfl, rfl⟩
  case round =>
    obtain ⟨j, hj, rfl, rfl⟩ := hrel
    have hsr := sumJ_range hs (l5.take j)
    by_cases hlt : j < l5.length
    · obtain ⟨x, hx⟩ : ∃ x, l5[j]? = some x := ⟨_, List.getElem?_eq_getElem hlt⟩
      obtain ⟨bb, oo, rfl, hcx⟩ := HBY.out j x hx
      have hx8 : x.toNat < 256 := x.toNat_lt
      have HSS := Lib.hid (sumJ_take (s := s) hx)
      obtain ⟨q, hq⟩ : ∃ q, sumJ s (l5.take j) = q := ⟨_, rfl⟩
      rw [hq] at hsr HSS ⊢
      have e1 : IntKind.i64.wrap (131 * q) = 131 * q := IntWalk.i64_in _ (by omega)
      have e2 : IntKind.i64.wrap (x.toNat : Int) = (x.toNat : Int) := IntWalk.i64_in _ (by omega)
      have e3 : IntKind.i64.wrap (131 * q + (x.toNat : Int)) = 131 * q + (x.toNat : Int) := IntWalk.i64_in _ (by omega)
      have e4 : IntKind.i64.wrap (131 * q + (x.toNat : Int) + 1) = 131 * q + (x.toNat : Int) + 1 := IntWalk.i64_in _ (by omega)
      have e5 : (131 * q + (x.toNat : Int) + 1).tmod 65521 = (131 * q + (x.toNat : Int) + 1) % 65521 := Int.tmod_eq_emod_of_nonneg (by omega)
      clear hx hq hcj hfj
      go_wp2_with fail
      exact ⟨⟨j + 1, by omega, by go_num, by rw [HSS.out]⟩, by simp [intOf]; omega⟩
    · obtain rfl : j = l5.length := by omega
      have e9 : sumJ s (l5.take l5.length) = nextJ n s ⟨k, i⟩ := by rw [List.take_length, HSUM.out]
      rw [e9]
      have hnr := nextJ_range (n := n) (r := ⟨k, i⟩) hs
      obtain ⟨q, hq⟩ : ∃ q, nextJ n s ⟨k, i⟩ = q := ⟨_, rfl⟩
      have HQ := Lib.hid hq
      rw [hq] at hnr ⊢
      clear hsr e9 hq hcj hfj
      go_wp2_with (at_builtin; refine wpList_append_b1 (o := _) (s := .tmp 48) (x := .tmp 49) rfl rfl (w.heap.size + 1) (.slice a5 l5.length c5) l5 32 rfl (HO5.out.grown (ba1 _ _)) w5.heap.size rfl (push_at w5 _) (by omega) (by simp; omega) ?h9)
      case h9 =>
      intro a6 c6 l6 w6 he6 ho6 hb6
      have HO6 := Lib.hid ho6
      have HB6 := Lib.hid (HB5.out.trans (((ba1 w5 (.cells #[.int .u8 32] 5 (0, 0))).mono hz5).trans hb6))
      have hz6 : w.heap.size + 1 ≤ w6.heap.size := by have := hb6.size; simp at this; omega
      have hl6 : l6.length ≤ l5.length + 1 := by rw [he6]; simp
      have HE6 := Lib.hid he6
      clear he6 ho6 hb6
      go_wp2_with fail
      refine (appendInt_b (w.heap.size + 1) q _ l6 _ (by omega) (by omega) HO6.out hz6 (by omega) (HT.out.next (HB0.out.trans (HB6.out.mono (by omega)))) (by omega)).mono ?_
      rintro e w7 ⟨a7, c7, l7, he7, rfl, ho7, hb7⟩
      have HO7 := Lib.hid ho7
      have HB7 := Lib.hid (HB6.out.trans hb7)
      have hz7 : w.heap.size + 1 ≤ w7.heap.size := Nat.le_trans hz6 hb7.size
      have hl7 : l7.length ≤ l6.length + 5 := by
        have := itoa_len (n := q) 4 (by omega) (by omega)
        rw [he7, List.length_append]; omega
      have HE7 := Lib.hid he7
      clear he7 ho7 hb7
      go_wp2_with (at_builtin; refine wpList_append_b1 (o := _) (s := .tmp 54) (x := .tmp 55) rfl rfl (w.heap.size + 1) (.slice a7 l7.length c7) l7 10 rfl (HO7.out.grown (ba1 _ _)) w7.heap.size rfl (push_at w7 _) (by omega) (by simp; omega) ?h9)
      case h9 =>
      intro a8 c8 l8 w8 he8 ho8 hb8
      have HO8 := Lib.hid ho8
      have HB8 := Lib.hid (HB7.out.trans (((ba1 w7 (.cells #[.int .u8 10] 5 (0, 0))).mono hz7).trans hb8))
      have hz8 : w.heap.size + 1 ≤ w8.heap.size := by have := hb8.size; simp at this; omega
      have hl8 : l8.length ≤ l7.length + 1 := by rw [he8]; simp
      have HE8 := Lib.hid he8
      clear he8 ho8 hb8
      go_wp2_with fail
      have HFIN : Hid (l8 = lineJ n s ⟨k, i⟩ ++ [10]) := Lib.hid (by rw [HE8.out, HE7.out, HE6.out, lineJ, HHD.out, HQ.out]; simp)
      go_ret2
      exact ⟨a8, c8, l8, HFIN.out, by simp [HQ.out], HO8.out.weak (by omega), HB0.out.trans (HB8.out.mono (by omega))⟩

end Go.Proofs.YtkmfgchbfchdbaaGreatDoor
