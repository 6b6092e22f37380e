import Derived.Test.YtfhnmmdopncohaaDoorRows
import Derived.WalkKit
import Derived.WalkSpells
import Derived.WalkLawsBesides
import Derived.Deep.QuietTactic
import Derived.BigQuiet
import Derived.Deep.RegionLaw
import Derived.Deep.DeepFit
import Derived.Deep.DeepMust
import Derived.Lib.Hide
import Derived.Test.YtfhnmmdopncohaaDoorShelf
import Derived.Lib.ItoaLen
import Derived.Lib.ItoaMem
import Derived.Test.YtfhnmmdopncohaaDoorCards
import Derived.Test.YtfhnmmdopncohaaDoorTie
import Derived.ProofKit
import Derived.OpenShut
import Derived.Deep.DeepHandedRow
import Derived.Lib.LaidTab
import Derived.Stop.LaidErr
import Derived.Lib.ParseIntBTie
import Derived.Lib.SplitLaws
import Derived.Lib.ParseIntBCases
import Derived.Laws.AppendOwnNone
import Derived.Deep.RegionHeld3
import Derived.Deep.RegionWith
import Derived.Laws.BytesArg
import Derived.IntWalk
namespace Go.Proofs.YtfhnmmdopncohaaDoor
open Go.RowKit

theorem bcell {W w1 : World} {B : Nat} (hb : Below B W w1) : (∀ b o, b < B → w1.cell? ⟨b, o, none⟩ = W.cell? ⟨b, o, none⟩) ∧ (∀ b o, b < B → w1.frozen? ⟨b, o, none⟩ = W.frozen? ⟨b, o, none⟩) :=
  ⟨fun b o h => hb.cell (p := ⟨b, o, none⟩) h, fun b o h => hb.frozen (p := ⟨b, o, none⟩) h⟩

theorem lt_of_cell {w : World} {b o : Nat} {v : Value} (h : w.cell? ⟨b, o, none⟩ = some v) : b < w.heap.size := World.block_lt_of_cell? w ⟨b, o, none⟩ h

theorem ba1 (w : World) (o : Obj) : Below w.heap.size w (w.alloc o) := (Below.refl _ _).alloc (Nat.le_refl _) _
theorem ba2 (w : World) (o o' : Obj) : Below w.heap.size w ((w.alloc o).alloc o') := (ba1 w o).alloc (by simp) _
theorem ba3 (w : World) (o o' o'' : Obj) : Below w.heap.size w (((w.alloc o).alloc o').alloc o'') := (ba2 w o o').alloc (by simp; omega) _
theorem ba4 (w : World) (o o' o'' o3 : Obj) : Below w.heap.size w ((((w.alloc o).alloc o').alloc o'').alloc o3) := (ba3 w o o' o'').alloc (by simp; omega) _
theorem bt0 {B : Nat} {a b c : World} (h : Below B a b) (k : Below b.heap.size b c) (hB : B ≤ a.heap.size) : Below B a c := h.trans (k.mono (Nat.le_trans hB h.size))
theorem bt1 {w w1 : World} {o : Obj} (h : Below (w.alloc o).heap.size (w.alloc o) w1) : Below w.heap.size w w1 := bt0 (ba1 w o) h (Nat.le_refl _)
theorem bt2 {w w1 : World} {o o' : Obj} (h : Below ((w.alloc o).alloc o').heap.size ((w.alloc o).alloc o') w1) : Below w.heap.size w w1 := bt0 (ba2 w o o') h (Nat.le_refl _)
theorem bt3 {w w1 : World} {o o' o'' : Obj} (h : Below (((w.alloc o).alloc o').alloc o'').heap.size (((w.alloc o).alloc o').alloc o'') w1) : Below w.heap.size w w1 := bt0 (ba3 w o o' o'') h (Nat.le_refl _)

theorem undrew {w w1 : World} (h : Below w.drew.heap.size w.drew w1) : Below w.heap.size w w1 := ⟨h.os, h.tape, h.output, h.size, h.block⟩

/-- a new block's cells, behind a call -/
theorem box1 {w w1 : World} {cs : Array Value} {t : TypeId} (hb : Below (w.alloc (.cells cs t)).heap.size (w.alloc (.cells cs t)) w1) : ∀ i, w1.cell? ⟨w.heap.size, i, none⟩ = cs[i]? := fun i => by
  rw [hb.cell (p := ⟨w.heap.size, i, none⟩) (by simp)]; simp
theorem boxK {w w1 : World} {b : Nat} {cs : Array Value} (hb : Below w.heap.size w w1) (h : ∀ i, w.cell? ⟨b, i, none⟩ = cs[i]?) (h0 : 0 < cs.size) : ∀ i, w1.cell? ⟨b, i, none⟩ = cs[i]? := fun i => by
  have h1 : b < w.heap.size := lt_of_cell (v := cs[0]) (by rw [h 0]; simp [h0])
  rw [hb.cell (p := ⟨b, i, none⟩) h1]; exact h i
theorem boxLt {w : World} {b : Nat} {cs : Array Value} (h : ∀ i, w.cell? ⟨b, i, none⟩ = cs[i]?) (h0 : 0 < cs.size) : b < w.heap.size := lt_of_cell (v := cs[0]) (by rw [h 0]; simp [h0])

/-- the slice at address a holds the numbers zs -/
def IntsAt (w : World) (a : Option Addr) (zs : List Int) : Prop :=
  ∀ i (h : i < zs.length), ∃ b o, a = some ⟨b, o, none⟩ ∧ w.cell? ⟨b, o + i, none⟩ = some (.int .i64 zs[i])

theorem IntsAt.at {w : World} {a : Option Addr} {zs : List Int} (H : IntsAt w a zs) {k : Nat} (hk : k < zs.length) :
    ∃ b o z, a = some ⟨b, o, none⟩ ∧ zs[k]? = some z ∧ b < w.heap.size ∧ w.cell? ⟨b, o + k, none⟩ = some (.int .i64 z) := by
  obtain ⟨b, o, ha, hc⟩ := H k hk
  exact ⟨b, o, zs[k], ha, List.getElem?_eq_getElem hk, lt_of_cell hc, hc⟩

theorem IntsAt.below {w w' : World} {a : Option Addr} {zs : List Int} (H : IntsAt w a zs) (hb : Below w.heap.size w w') : IntsAt w' a zs := by
  intro i h
  obtain ⟨b, o, ha, hc⟩ := H i h
  exact ⟨b, o, ha, by rw [hb.cell (p := ⟨b, o + i, none⟩) (lt_of_cell hc)]; exact hc⟩

theorem IntsAt.nil {w : World} {a : Option Addr} : IntsAt w a [] := fun i h => absurd h (by simp)

theorem take_snoc' {α : Type} {zs : List α} {k : Nat} {z : α} (h : zs[k]? = some z) : zs.take (k + 1) = zs.take k ++ [z] := by
  rw [List.take_add_one, h]; rfl

theorem ret_int {k : IntKind} {a b : Int} (h : a = b) : Ending.returned (.int k a) = .returned (.int k b) := by rw [h]
theorem ret_str {a b : ByteArray} (h : a = b) : Ending.returned (.string a) = .returned (.string b) := by rw [h]
theorem ret_bool {a b : Bool} (h : a = b) : Ending.returned (.bool a) = .returned (.bool b) := by rw [h]

/-- the worlds that keep all that is in w -/
def Ext (w : World) : Type := { w' : World // Below w.heap.size w w' }
instance extNonempty (w : World) : Nonempty (Ext w) := ⟨⟨w, Below.refl _ _⟩⟩
def Ext.w {w : World} (s : Ext w) : World := s.1
theorem Ext.below {w : World} (s : Ext w) : Below w.heap.size w s.w := s.2
@[go_sem] theorem Ext.cell {w : World} (s : Ext w) (b o : Nat) (h : b < w.heap.size) : s.w.cell? ⟨b, o, none⟩ = w.cell? ⟨b, o, none⟩ := s.2.cell (p := ⟨b, o, none⟩) h
@[go_sem] theorem Ext.frozen {w : World} (s : Ext w) (b o : Nat) (h : b < w.heap.size) : s.w.frozen? ⟨b, o, none⟩ = w.frozen? ⟨b, o, none⟩ := s.2.frozen (p := ⟨b, o, none⟩) h

theorem wp_region_ext {P : Program} {id : Nat} {Q : Exit → Act → World → Prop} {a : Act} {w : World} {l : List Oper} (hm : P.follows .mixedOrders = true) (hB : Region.lexB .any l.toArray = true)
    (h : wpQuiet P l.toArray (fun w' => ∃ s : Ext w, w' = s.w) (fun a' => ∀ w', (∃ s : Ext w, w' = s.w) → Q .normal a' w') l a) : (Code.region id l.toArray true).wp P Q a w :=
  wp_region_quiet (C := fun w' => ∃ s : Ext w, w' = s.w) hm hB ⟨⟨_, (Below.refl _ _).drew⟩, rfl⟩ (by simpa using h)

theorem calls_ext {P : Program} {f : FuncId} {args : Array Value} {w : World} {v : Value} (s : Ext w)
    (h : Calls P f args s.w fun e w' => e = .returned v ∧ Below s.w.heap.size s.w w') : Calls P f args s.w fun e w'' => e = .returned v ∧ ∃ s' : Ext w, w'' = s'.w :=
  h.mono fun _ w' ⟨he, hb⟩ => ⟨he, ⟨w', s.below.trans (hb.mono s.below.size)⟩, rfl⟩
theorem calls_ext_same {P : Program} {f : FuncId} {args : Array Value} {w : World} {v : Value} (s : Ext w)
    (h : Calls P f args s.w fun e w' => e = .returned v ∧ s.w = w') : Calls P f args s.w fun e w'' => e = .returned v ∧ ∃ s' : Ext w, w'' = s'.w :=
  h.mono fun _ _ ⟨he, hb⟩ => ⟨he, s, hb.symm⟩

/-- the slice v is the call's own (blocks from base on) and holds the numbers zs -/
def OwnI (w : World) (base : Nat) (v : Value) (zs : List Int) : Prop := w.ownsRow base 2 1 v zs.length (zs.map (Value.int .i64))

theorem OwnI.read {w : World} {base : Nat} {v : Value} {zs : List Int} (h : OwnI w base v zs) : ∃ a c, v = .slice a zs.length c ∧ IntsAt w a zs := by
  unfold OwnI at h
  have h2 := h.2
  rcases h2 with ⟨rfl, h0⟩ | ⟨g, cap, cur, rfl, hb, hg, hn, hm, hs, ht⟩
  · refine ⟨none, 0, by rw [h0], ?_⟩
    intro i hi; omega
  · refine ⟨some ⟨g, 0, none⟩, cap, rfl, ?_⟩
    intro i hi
    refine ⟨g, 0, rfl, ?_⟩
    rw [Nat.zero_add, h.cellAt i (by omega)]
    simp [hi]

theorem OwnI.len {w : World} {base : Nat} {v : Value} {zs : List Int} (h : OwnI w base v zs) : zs.length ≤ maxLen := by
  rcases h.2 with ⟨_, h0⟩ | ⟨g, cap, cur, rfl, hb, hg, hn, hm, hs, ht⟩
  · rw [h0]; exact Nat.zero_le _
  · omega

/-- a slice of the call's own that is not empty -/
theorem OwnI.block {w : World} {base : Nat} {a : Option Addr} {n c : Nat} {zs : List Int} (h : OwnI w base (.slice a n c) zs) (hk : 0 < zs.length) : ∃ g, a = some ⟨g, 0, none⟩ ∧ base ≤ g ∧ n = zs.length ∧ g < w.heap.size := by
  rcases h.2 with ⟨h1, h0⟩ | ⟨g, cap, cur, h1, hb, hg, _⟩
  · omega
  · simp only [Value.slice.injEq] at h1
    obtain ⟨rfl, rfl, rfl⟩ := h1
    exact ⟨g, rfl, hb, rfl, (Array.getElem?_eq_some_iff.1 hg).1⟩

theorem OwnI.grown {w w' : World} {base : Nat} {v : Value} {zs : List Int} (h : OwnI w base v zs) (hb : Below w.heap.size w w') : OwnI w' base v zs :=
  h.kept (row := none) ⟨hb.os, hb.tape, hb.output, hb.size, fun k hk _ => hb.block k hk⟩ (by cases hv : v.ownBlock <;> simp)

theorem OwnI.weak {w : World} {base base' : Nat} {v : Value} {zs : List Int} (h : OwnI w base v zs) (hb : base' ≤ base) : OwnI w base' v zs := by
  refine ⟨h.1, ?_⟩
  rcases h.2 with h2 | ⟨g, cap, cur, h1, hb', r⟩
  · exact Or.inl h2
  · exact Or.inr ⟨g, cap, cur, h1, by omega, r⟩

theorem OwnI.setOld {w : World} {base : Nat} {v : Value} {zs : List Int} (h : OwnI w base v zs) {a : Addr} (ha : a.block < base) (u : Value) : OwnI (w.setCell a u) base v zs := ownsRow_setCell_below h ha u

theorem OwnI.drew {w : World} {base : Nat} {v : Value} {zs : List Int} (h : OwnI w base v zs) : OwnI w.drew base v zs := h

theorem grownBy_trans {a b c : World} {row : Option Nat} (h : a.grownBy b row) (k : b.grownBy c row) : a.grownBy c row :=
  ⟨k.os.trans h.os, k.tape.trans h.tape, k.output.trans h.output, Nat.le_trans h.size k.size, fun i hi hr => (k.block i (Nat.lt_of_lt_of_le hi h.size) hr).trans (h.block i hi hr)⟩

theorem below_of_grownBy {B : Nat} {w w' : World} {row : Option Nat} (h : w.grownBy w' row) (hB : B ≤ w.heap.size) (hr : ∀ k, row = some k → B ≤ k) : Below B w w' :=
  (Below.refl B w).grown h hB hr


theorem infoI : (Tryd.prog.info? 2).map (fun i => (i.zero, i.size, i.bytes)) = some (some (.int .i64 0), 1, 8) := by kernel_rfl

theorem OwnI.cellAt {w : World} {base g n c : Nat} {zs : List Int} (h : OwnI w base (.slice (some ⟨g, 0, none⟩) n c) zs) (hn : n = zs.length) {k : Nat} (hk : k < zs.length) :
    ∃ z, zs[k]? = some z ∧ w.cell? ⟨g, k, none⟩ = some (.int .i64 z) ∧ w.frozen? ⟨g, k, none⟩ = false := by
  subst hn
  refine ⟨zs[k], by simp [hk], ?_, h.frozenAt k⟩
  rw [World.ownsRow.cellAt h k (by omega)]
  simp [hk]

theorem OwnI.stored {w : World} {base g n c : Nat} {zs : List Int} (h : OwnI w base (.slice (some ⟨g, 0, none⟩) n c) zs) (hn : n = zs.length) (k : Nat) (z : Int) :
    OwnI (w.setCell ⟨g, k, none⟩ (.int .i64 z)) base (.slice (some ⟨g, 0, none⟩) n c) (zs.set k z) ∧ w.grownBy (w.setCell ⟨g, k, none⟩ (.int .i64 z)) (some g) := by
  subst hn
  have hst := World.ownsRow.stored (h := h) k (.int .i64 z)
  refine ⟨?_, hst.2⟩
  unfold OwnI
  rw [List.map_set, List.length_set]
  exact hst.1

theorem OwnI.of_made {w : World} {base : Nat} {v : Value} {n : Nat} (h : w.ownsRow base 2 1 v n (madeCells #[.int .i64 0] n).toList) : OwnI w base v (List.replicate n 0) := by
  unfold OwnI
  rw [toList_madeCells_one] at h
  simpa using h

theorem heap_cellR {w : World} {g : Nat} {C : Array Value} {t : TypeId} (h : w.heap[g]? = some (.cells C t (0, 0))) : (∀ i, w.cell? ⟨g, i, none⟩ = C[i]?) ∧ (∀ i, w.frozen? ⟨g, i, none⟩ = false) := ⟨fun i => by simp [World.cell?, h], fun i => by simp [World.frozen?, h]⟩

end Go.Proofs.YtfhnmmdopncohaaDoor
namespace Go.Proofs.YtfhnmmdopncohaaDoor
open Go.RowKit

/-- the library's table of powers of ten lies in memory -/
def Tab (w : World) : Prop := Lib.TabIs Tryd.prog w "internal/strconv.uint64pow10" .u64 Lib.pow10Tab

theorem gTab : Tryd.prog.globalNamed "internal/strconv.uint64pow10" = some 5 := by kernel_rfl

theorem Tab.lt {w : World} (h : Tab w) : 5 < w.heap.size := by
  have hc := Lib.TabIs.cell h gTab 0 (by decide)
  exact lt_of_cell hc

theorem Tab.below {w w' : World} {B : Nat} (h : Tab w) (hb : Below B w w') (hB : 5 < B) : Tab w' :=
  var?_below hb gTab hB h

theorem Tab.next {w w' : World} (h : Tab w) (hb : Below w.heap.size w w') : Tab w' := h.below hb h.lt

theorem Tab.alloc {w : World} (h : Tab w) (o : Obj) : Tab (w.alloc o) := h.next ((Below.refl _ _).alloc (Nat.le_refl _) _)
theorem Tab.ext {w : World} (h : Tab w) (s : Ext w) : Tab s.w := h.next s.below

/-- a number in decimal -/
def decB (n : Int) : ByteArray := ⟨(Lib.itoa n).toArray⟩

theorem decB_size (n : Int) : (decB n).size = (Lib.itoa n).length := by simp [decB, ByteArray.size]

theorem below_grow (w : World) (k : Nat) (os : Array Obj) : Below w.heap.size w (Go.Sort.grow (w.drewN k) os) := by
  refine ⟨rfl, rfl, rfl, ?_, ?_⟩
  · simp [Go.Sort.grow, World.drewN]
  · intro i hi
    simp only [Go.Sort.grow, World.drewN]
    rw [Array.getElem?_append_left hi]

theorem formatInt_any (n : Int) (w : World) (h0 : -9223372036854775808 ≤ n) (h1 : n ≤ 9223372036854775807) (ht : Tab w) :
    Calls Tryd.prog 80 #[.int .i64 n, .int .i64 10] w fun e w' => e = .returned (.string (decB n)) ∧ Below w.heap.size w w' :=
  (Tryd.strconv_FormatInt_10 n h0 h1 w ht).mono fun _ _ ⟨he, k, os, hw⟩ => ⟨he, by rw [hw]; exact below_grow _ _ _⟩

end Go.Proofs.YtfhnmmdopncohaaDoor
namespace Go.Proofs.YtfhnmmdopncohaaDoor
open Go.ChangeShapes Go.WideShapes Go.ChangeAt Go.RowKit

theorem ownLaw : ownKnob Tryd.prog.godebug = none := by kernel_rfl
theorem laidOutLaw : laidOutB Tryd.prog = true := by kernel_rfl
theorem gTabType : (Tryd.prog.globals[5]?).map (·.type) = some 164 := by kernel_rfl
theorem cellsTab : Tryd.prog.cellsOf 164 = 20 := by kernel_rfl
theorem cellsU64 : Tryd.prog.cellsOf 135 = 1 := by kernel_rfl

/-- the arguments read behind a call that keeps memory as they did -/
theorem trodAll_below {H : Type} {enc : TypeId × Value → H} {P : Program} (hl : laidOutB P = true) {W W' : World} (hb : Below W.heap.size W W') :
    ∀ (ts : List TypeId) (vs : List Value) (ds : List (DataW H)) (ps : List MemPlace), (∀ t ∈ ts, P.readableRec t = true ∧ t < P.types.size) → DataW.TrodAll enc P W 0 (fun _ => true) true ts vs ds ps → (∀ x ∈ ps, x.block < W.heap.size) →
      DataW.TrodAll enc P W' 0 (fun b => decide (b < W.heap.size)) true ts vs ds ps
  | [], [], [], ps, _, h, _ => h
  | t :: ts, v :: vs, d :: ds, ps, hr, h, hlt => by
    obtain ⟨p, q, h1, h2, rfl⟩ := h
    refine ⟨p, q, ?_, ?_, rfl⟩
    · exact Below.trod hl (hr t (by simp)).1 (hr t (by simp)).2 h1 hb (fun x hx => hlt x (by simp [hx]))
    · exact trodAll_below hl hb ts vs ds q (fun t ht => hr t (by simp [ht])) h2 (fun x hx => hlt x (by simp [hx]))

/-- what a law owes behind its call -/
theorem law_post {H : Type} {enc : TypeId × Value → H} {f : Func} {s : ChangeSpec} {W W' : World} {args : Array Value} {ds gs : List (DataW H)} {before : List MemPlace}
    (hW : DataW.Whole enc Tryd.prog f.params.toList s.vars false W args.toList ds gs before) (hv : s.vars = []) (hres : f.resultTypes = #[4]) (hb : Below W.heap.size W W')
    (hfn : ∀ gs, gs = [] → s.fn H (ds ++ gs) = { results := [.lit (.bool true)], args := ds }) (hr : ∀ t ∈ f.params.toList, Tryd.prog.readableRec t = true ∧ t < Tryd.prog.types.size) :
    s.post enc Tryd.prog f false true false false W args (.bool true) W' := by
  have hW' := hW
  obtain ⟨p, q, hA, hV, rfl, hfz, hnd⟩ := hW
  rw [hv] at hV
  obtain ⟨rfl, rfl⟩ := trodVars_none hV
  have hlt : ∀ x ∈ p ++ [], x.block < W.heap.size := hW'.lt
  refine ⟨ds, [], p ++ [], [], p, [], hW', ?_, ?_, ?_, hb.frame _, fun h => by cases h⟩
  · rw [hfn [] rfl, hres]
    exact trodAll_mk1 (shut_bool Tryd.underlying4 _)
  · rw [hfn [] rfl]
    exact trodAll_below laidOutLaw hb _ _ _ _ hr hA (fun x hx => hlt x (by simpa using hx))
  · rw [hfn [] rfl, hv]
    exact rfl

end Go.Proofs.YtfhnmmdopncohaaDoor
namespace Go.Proofs.YtfhnmmdopncohaaDoor
open Go.ChangeShapes Go.WideShapes Go.ChangeAt Go.RowKit

/-- the cells of a table that a row lists -/
def tabCells : DataW Unit → Array Value
  | .agg l => (l.map fun | .lit (.int k n) => .int k n | _ => undef).toArray
  | _ => #[]
/-- a block with other cells -/
def withCells (cs : Array Value) : Obj → Obj
  | .cells _ t frozen => .cells cs t frozen
  | o => o
/-- the heap with the listed tables -/
def laidHeap (P : Program) (laid : List (String × DataW Unit)) (h : Array Obj) : Array Obj :=
  laid.foldl (fun h nd => h.modify ((P.globalNamed nd.1).getD 0) (withCells (tabCells nd.2))) h

/-- a world for the witness: the settled one, each listed table holding what its initialiser lays -/
noncomputable def laidWorld (laid : List (String × DataW Unit)) (os : Os) : World :=
  { World.holding Tryd.prog os ⟨#[], #[], []⟩ with heap := laidHeap Tryd.prog laid (World.holding Tryd.prog os ⟨#[], #[], []⟩).heap }

theorem laidMet_mem {P : Program} {W : World} {x : String × DataW Unit} : ∀ {laid : List (String × DataW Unit)}, laidMet P laid W → x ∈ laid → ∃ r, laidMet P (x :: r) W
  | y :: r, h, hm => by
    rcases List.mem_cons.1 hm with rfl | hm
    · exact ⟨r, h⟩
    · exact laidMet_mem h.tail hm

/-- the table of powers lies in memory -/
theorem tab_of {W : World} {laid : List (String × DataW Unit)} (h : laidMet Tryd.prog laid W) (hm : ("internal/strconv.uint64pow10", Lib.tabData .u64 Lib.pow10Tab) ∈ laid) : Tab W := by
  obtain ⟨r, hr⟩ := laidMet_mem h hm
  exact Lib.tabIs_of_head gTab gTabType Tryd.underlying164 Tryd.underlying135 cellsU64 cellsTab hr

end Go.Proofs.YtfhnmmdopncohaaDoor
namespace Go.Proofs.YtfhnmmdopncohaaDoor
open Go.RowKit

/-- what the library's variables hold -/
structure Env (w : World) : Prop where
  tab : Tab w
  syn : ∃ tp p, w.var? Tryd.prog "strconv.ErrSyntax" = some #[.iface tp p]
  rng : ∃ tp p, w.var? Tryd.prog "strconv.ErrRange" = some #[.iface tp p]
  mx : ∃ m, w.cell? ⟨0, 0, none⟩ = some (.int .i64 m)

theorem gSyn : Tryd.prog.globalNamed "strconv.ErrSyntax" = some 3 := by kernel_rfl
theorem gRng : Tryd.prog.globalNamed "strconv.ErrRange" = some 4 := by kernel_rfl
theorem var_lt {w : World} {n : String} {g : Nat} {v : Value} (hg : Tryd.prog.globalNamed n = some g) (h : w.var? Tryd.prog n = some #[v]) : g < w.heap.size :=
  lt_of_cell (v := v) (by have := World.var?_cell hg h 0; simpa using this)
theorem Env.next {w w' : World} (h : Env w) (hb : Below w.heap.size w w') : Env w' := by
  obtain ⟨t, ⟨a, b, hs⟩, ⟨c, d, hr⟩, ⟨m, hm⟩⟩ := h
  exact ⟨t.next hb, ⟨a, b, var?_below hb gSyn (var_lt gSyn hs) hs⟩, ⟨c, d, var?_below hb gRng (var_lt gRng hr) hr⟩, ⟨m, by rw [hb.cell (p := ⟨_, 0, none⟩) (lt_of_cell hm)]; exact hm⟩⟩
theorem Env.alloc {w : World} (h : Env w) (o : Obj) : Env (w.alloc o) := h.next (ba1 w o)

theorem below_bytes {w w' : World} (h : w' = w ∨ ∃ t, w' = Lib.bytesWorld w 5 t) : Below w.heap.size w w' := by
  rcases h with rfl | ⟨t, rfl⟩
  · exact Below.refl _ _
  · exact Lib.bytesWorld_below _ _ _

/-- what ParseInt gives: the number, and whether it read one -/
theorem parse_any (s : ByteArray) (w : World) (hs : s.size ≤ 281474976710656) (hE : Env w) :
    Calls Tryd.prog 79 #[.string s, .int .i64 10, .int .i64 64] w fun e w' =>
      ((∃ n, Lib.parseIntB 64 s.data.toList = .ok n ∧ e = .returned (.tuple #[.int .i64 n, .nilIface])) ∨
       ((∀ n, Lib.parseIntB 64 s.data.toList ≠ .ok n) ∧ ∃ v t p, e = .returned (.tuple #[.int .i64 v, .iface t p]))) ∧ Below w.heap.size w w' := by
  obtain ⟨_, ⟨a, b, hsy⟩, ⟨c, d, hrg⟩, _⟩ := hE
  cases hp : Lib.parseIntB 64 s.data.toList with
  | ok n => exact (Tryd.strconv_ParseInt_10_at64_ok s (by omega) n hp w).mono fun e w' ⟨he, hw⟩ => ⟨.inl ⟨n, rfl, he⟩, below_bytes hw⟩
  | «syntax» => exact (Tryd.strconv_ParseInt_10_at64_syntax_var s hs hp a b w hsy).mono fun e w' ⟨N, he, _, _, hb⟩ => ⟨.inr ⟨fun n h => (by cases h), _, _, _, he⟩, hb⟩
  | range => exact (Tryd.strconv_ParseInt_10_at64_range_var s hs hp c d w hrg).mono fun e w' ⟨N, he, _, _, hb⟩ => ⟨.inr ⟨fun n h => (by cases h), _, _, _, he⟩, hb⟩

end Go.Proofs.YtfhnmmdopncohaaDoor
namespace Go.Proofs.YtfhnmmdopncohaaDoor
open Go.ChangeShapes Go.WideShapes Go.ChangeAt Go.RowKit

theorem star : "*" ++ "errors.errorString" = "*errors.errorString" := by decide
theorem rowErr (u : TypeId) (h : Tryd.prog.typeName? 3 u = some "*errors.errorString") : u = 170 :=
  typeName_ptr_named (nm := "errors.errorString") (by rw [star]; kernel_rfl) (by kernel_rfl) (by decide) u (by rw [star]; exact h)
theorem gSynType : (Tryd.prog.globals[3]?).map (·.type) = some 118 := by kernel_rfl
theorem gRngType : (Tryd.prog.globals[4]?).map (·.type) = some 118 := by kernel_rfl
theorem cellsErr : Tryd.prog.cellsOf 172 = 1 := by kernel_rfl
theorem cellsStr : Tryd.prog.cellsOf 9 = 1 := by kernel_rfl

/-- what a row that lists the library's variables gives -/
theorem env_of {W : World} {laid : List (String × DataW Unit)} (h : laidMet Tryd.prog laid W) (hsh : W.ShapedOpen Tryd.prog) (hm : ("internal/strconv.uint64pow10", Lib.tabData .u64 Lib.pow10Tab) ∈ laid)
    (hs : ∃ t, (("strconv.ErrSyntax", .iface "*errors.errorString" (.ptr (.agg [.lit (.string t)]))) : String × DataW Unit) ∈ laid)
    (hr : ∃ t, (("strconv.ErrRange", .iface "*errors.errorString" (.ptr (.agg [.lit (.string t)]))) : String × DataW Unit) ∈ laid) : Env W := by
  obtain ⟨ts, hs⟩ := hs
  obtain ⟨tr, hr⟩ := hr
  obtain ⟨rs, hrs⟩ := laidMet_mem h hs
  obtain ⟨rr, hrr⟩ := laidMet_mem h hr
  obtain ⟨a1, s1, hv1, _⟩ := laid_sentinel hrs gSyn gSynType Tryd.underlying118 rowErr Tryd.underlying170 Tryd.underlying172 rfl rfl Tryd.underlying9 cellsErr cellsStr
  obtain ⟨a2, s2, hv2, _⟩ := laid_sentinel hrr gRng gRngType Tryd.underlying118 rowErr Tryd.underlying170 Tryd.underlying172 rfl rfl Tryd.underlying9 cellsErr cellsStr
  exact ⟨tab_of h hm, ⟨_, _, hv1⟩, ⟨_, _, hv2⟩, cell_of_shapedOpen_int (zero := #[.int .i64 0]) (t := 3) hsh (of_decide_eq_true (by kernel_rfl)) (by kernel_rfl) rfl (by kernel_rfl) (by kernel_rfl) Tryd.underlying3⟩

/-- the cells of what a row lists -/
def datCells : Nat → DataW Unit → List Value
  | 0, _ => []
  | _ + 1, .lit (.int k n) => [.int k n]
  | f + 1, .agg l => l.flatMap (datCells f)
  | _ + 1, _ => []
/-- a text behind a sentinel -/
def sentText : DataW Unit → Option (List UInt8)
  | .iface _ (.ptr (.agg [.lit (.string t)])) => some t
  | _ => none
/-- the blocks of the sentinels -/
def sentBlocks (laid : List (String × DataW Unit)) : List Obj := laid.filterMap fun nd => (sentText nd.2).map fun t => .cells #[.string ⟨t.toArray⟩] 172 (0, 0)
/-- the heap with what is listed; the sentinels' blocks begin at k -/
def laidHeap2 (P : Program) : List (String × DataW Unit) → Nat → Array Obj → Array Obj
  | [], _, h => h
  | nd :: r, k, h => match sentText nd.2 with
    | some _ => laidHeap2 P r (k + 1) (h.modify ((P.globalNamed nd.1).getD 0) (withCells #[.iface 170 (.pointer (some ⟨k, 0, none⟩))]))
    | none => laidHeap2 P r k (h.modify ((P.globalNamed nd.1).getD 0) (withCells (datCells 3 nd.2).toArray))

noncomputable def low : Nat := (World.holding Tryd.prog default ⟨#[], #[], []⟩).heap.size
/-- a world for the witness: the settled one, each listed variable holding what its initialiser lays -/
noncomputable def laidWorld2 (laid : List (String × DataW Unit)) (os : Os) : World :=
  let w0 := World.holding Tryd.prog os ⟨(sentBlocks laid).toArray, #[], []⟩
  { w0 with heap := laidHeap2 Tryd.prog laid low w0.heap }

end Go.Proofs.YtfhnmmdopncohaaDoor
namespace Go.Proofs.YtfhnmmdopncohaaDoor
open Go.RowKit

/-- a text cut at every byte c -/
def cut (c : UInt8) : List UInt8 → List (List UInt8)
  | [] => [[]]
  | x :: r => if x = c then [] :: cut c r else match cut c r with
    | [] => [[x]]
    | h :: t => (x :: h) :: t

theorem cut_ne (c : UInt8) (l : List UInt8) : cut c l ≠ [] := by
  cases l with
  | nil => simp [cut]
  | cons x r => rw [cut]; split; · simp
                split <;> simp

theorem index1_cases (c : UInt8) : ∀ l : List UInt8, Lib.index l [c] = -1 ∨ ∃ i : Nat, Lib.index l [c] = i
  | [] => by left; rw [Lib.index.eq_1]; simp
  | x :: r => by
    rw [Lib.index.eq_2]
    split
    · exact .inr ⟨0, rfl⟩
    · split
      · exact .inl rfl
      · rename_i _ h
        rcases index1_cases c r with h2 | ⟨i, h2⟩
        · simp [h2] at h
        · exact .inr ⟨i + 1, by rw [h2]; rfl⟩

theorem splitK_cut (c : UInt8) : ∀ l : List UInt8, Lib.splitK [c] 0 (Lib.count l [c]) l = cut c l
  | [] => by rw [Lib.count_one]; simp [Lib.splitK.eq_1, cut]
  | x :: r => by
    have ih := splitK_cut c r
    by_cases hx : x = c
    · subst hx
      rw [Lib.count_cons_eq, Nat.add_comm, Lib.splitK.eq_2, Lib.index.eq_2]
      simp [cut, ih]
    · rw [Lib.count_cons_ne _ _ _ hx, cut, if_neg hx, ← ih]
      generalize Lib.count r [c] = k
      cases k with
      | zero => simp [Lib.splitK.eq_1]
      | succ k =>
        rw [Lib.splitK.eq_2, Lib.splitK.eq_2, Lib.index.eq_2]
        have hp : ([c] : List UInt8).isPrefixOf (x :: r) = false := by
          simp [List.isPrefixOf]; exact fun h => hx h.symm
        rw [hp]
        rcases index1_cases c r with h2 | ⟨i, h2⟩
        · simp [h2]
        · have h3 : ¬ ((i : Int) == -1) = true := by simp <;> omega
          have h4 : ¬ (((i : Int) + 1) == -1) = true := by simp <;> omega
          simp only [h2, if_neg h3, Bool.false_eq_true, if_false, if_neg h4]
          have h5 : ((i : Int) + 1).toNat = i + 1 := by omega
          have h6 : ((i : Int)).toNat = i := by omega
          simp [h5, h6]

theorem splitB_cut (s : ByteArray) (c : UInt8) :
    (Lib.splitB ⟨#[c]⟩ 0 (Lib.countB s ⟨#[c]⟩) s).map (fun x => x.data.toList) = cut c s.data.toList := by
  rw [Lib.splitB_data]; exact splitK_cut c _

/-- texts put together with a byte between them -/
def glue (c : UInt8) : List (List UInt8) → List UInt8
  | [] => []
  | [h] => h
  | h :: t => h ++ c :: glue c t

theorem glue_cons (c : UInt8) (h : List UInt8) (t : List (List UInt8)) (ht : t ≠ []) : glue c (h :: t) = h ++ c :: glue c t := by
  cases t with
  | nil => exact absurd rfl ht
  | cons => rfl

theorem glue_cut (c : UInt8) : ∀ l : List UInt8, glue c (cut c l) = l
  | [] => rfl
  | x :: r => by
    have ih := glue_cut c r
    rw [cut]
    split
    · rename_i h; subst h
      rw [glue_cons _ _ _ (cut_ne _ _), ih]; rfl
    · have hne := cut_ne c r
      split
      · rename_i h; exact absurd h hne
      · rename_i h t he
        rw [he] at ih
        cases t with
        | nil => simp only [glue] at ih ⊢; rw [ih]
        | cons a b => simp only [glue] at ih ⊢; rw [← ih]; rfl

theorem cut_free (c : UInt8) : ∀ l : List UInt8, ∀ p ∈ cut c l, c ∉ p
  | [] => by simp [cut]
  | x :: r => by
    have ih := cut_free c r
    rw [cut]
    split
    · intro p hp; rcases List.mem_cons.1 hp with rfl | hp
      · simp
      · exact ih p hp
    · rename_i hx
      split
      · intro p hp; simp at hp; subst hp; simp; exact fun h => hx h.symm
      · rename_i h t he
        rw [he] at ih
        intro p hp; rcases List.mem_cons.1 hp with rfl | hp
        · have := ih h (by simp); simp [this]; exact fun h => hx h.symm
        · exact ih p (by simp [hp])

theorem cut_piece (c : UInt8) : ∀ l : List UInt8, c ∉ l → cut c l = [l]
  | [] => fun _ => rfl
  | x :: r => fun h => by
    simp at h
    rw [cut, if_neg (fun e => h.1 e.symm), cut_piece c r h.2]

theorem cut_app (c : UInt8) : ∀ (p l : List UInt8), c ∉ p → cut c (p ++ c :: l) = p :: cut c l
  | [], l => fun _ => by simp [cut]
  | x :: r, l => fun h => by
    simp at h
    rw [List.cons_append, cut, if_neg (fun e => h.1 e.symm), cut_app c r l h.2]

theorem cut_glue (c : UInt8) : ∀ ps : List (List UInt8), ps ≠ [] → (∀ p ∈ ps, c ∉ p) → cut c (glue c ps) = ps
  | [] => fun h => absurd rfl h
  | [p] => fun _ h => cut_piece c p (h p (by simp))
  | p :: q :: t => fun _ h => by
    rw [glue_cons _ _ _ (by simp), cut_app c p _ (h p (by simp)), cut_glue c (q :: t) (by simp) (fun x hx => h x (by simp [hx]))]

/-- the library's reading of a decimal -/
theorem parseUintM_dec (M : Nat) (hM : M ≤ 18446744073709551615) : ∀ (u : Nat), u ≤ M → ∀ r, Lib.parseUintM M 0 (Lib.decDigits u ++ r) = Lib.parseUintM M u r := by
  intro u
  induction u using Nat.strongRecOn with
  | _ u ih =>
    intro hu r
    rw [Lib.decDigits.eq_1]
    split
    · rename_i h
      have h1 : (UInt8.ofNat (48 + u)).toNat = 48 + u := by simp; omega
      rw [List.singleton_append, Lib.parseUintM.eq_2, h1, if_pos (by omega), if_neg (by omega), if_neg (by omega)]
      congr 1; omega
    · rename_i h
      have h1 : (UInt8.ofNat (48 + u % 10)).toNat = 48 + u % 10 := by simp; omega
      rw [List.append_assoc, ih (u / 10) (by omega) (by omega), List.singleton_append, Lib.parseUintM.eq_2, h1, if_pos (by omega), if_neg (by omega), if_neg (by omega)]
      congr 1; omega

theorem decDigits_ne (u : Nat) : Lib.decDigits u ≠ [] := by
  rw [Lib.decDigits.eq_1]; split <;> simp

theorem dec_digit : ∀ (u : Nat), ∀ x ∈ Lib.decDigits u, 48 ≤ x.toNat ∧ x.toNat ≤ 57 := by
  intro u
  induction u using Nat.strongRecOn with
  | _ u ih =>
    rw [Lib.decDigits.eq_1]
    split
    · intro x hx; simp at hx; subst hx; simp; omega
    · intro x hx
      rcases List.mem_append.1 hx with hx | hx
      · exact ih (u / 10) (by omega) x hx
      · simp at hx; subst hx; simp; omega

theorem parseUintB_dec (u : Nat) (hu : u ≤ 18446744073709551615) : Lib.parseUintB 64 (Lib.decDigits u) = .ok u := by
  have h := parseUintM_dec (2 ^ 64 - 1) (by omega) u (by omega) []
  rw [List.append_nil] at h
  rw [Lib.parseUintB, if_neg (decDigits_ne u), h, Lib.parseUintM.eq_1]

theorem parseIntB_itoa (n : Int) (h0 : -9223372036854775808 ≤ n) (h1 : n ≤ 9223372036854775807) : Lib.parseIntB 64 (Lib.itoa n) = .ok n := by
  by_cases hn : n < 0
  · have e : Lib.itoa n = 45 :: Lib.decDigits n.natAbs := by rw [Lib.itoa, if_pos hn]
    rw [e, Lib.parseIntB_minus, parseUintB_dec _ (by omega), Lib.signedC, if_neg (by omega)]
    congr 1; omega
  · have e : Lib.itoa n = Lib.decDigits n.toNat := by rw [Lib.itoa, if_neg hn]
    rw [e]
    have hd := dec_digit n.toNat
    have hp := parseUintB_dec n.toNat (by omega)
    cases he : Lib.decDigits n.toNat with
    | nil => exact absurd he (decDigits_ne _)
    | cons c r =>
      rw [he] at hd hp
      have := hd c (by simp)
      rw [Lib.parseIntB_plain _ _ _ (by omega) (by omega), hp, Lib.signlessC, if_neg (by omega)]
      congr 1; omega

/-- the number that a text is in decimal, as the program reads it -/
def rnum (l : List UInt8) : Option Int :=
  match Lib.parseIntB 64 l with
  | .ok n => if Lib.itoa n = l then some n else none
  | _ => none

theorem rnum_some (l : List UInt8) (n : Int) (h : rnum l = some n) : l = Lib.itoa n := by
  unfold rnum at h
  split at h
  · split at h
    · rename_i h2; cases h; exact h2.symm
    · cases h
  · cases h

theorem rnum_itoa (n : Int) (h0 : -9223372036854775808 ≤ n) (h1 : n ≤ 9223372036854775807) : rnum (Lib.itoa n) = some n := by
  unfold rnum; rw [parseIntB_itoa n h0 h1]; simp

end Go.Proofs.YtfhnmmdopncohaaDoor
namespace Go.Proofs.YtfhnmmdopncohaaDoor
open Go.RowKit

/-- after j rounds of a copy -/
def Copied (w : World) (base g : Nat) (xs : List Int) (j : Nat) : Prop :=
  ∃ zs : List Int, zs.length = xs.length ∧ OwnI w base (.slice (some ⟨g, 0, none⟩) xs.length xs.length) zs ∧ zs.take j = xs.take j

theorem Copied.step {w : World} {base g : Nat} {xs : List Int} {j : Nat} {x : Int} (h : Copied w base g xs j) (hx : xs[j]? = some x) : Copied (w.setCell ⟨g, j, none⟩ (.int .i64 x)) base g xs (j + 1) := by
  obtain ⟨zs, hl, ho, ht⟩ := h
  have hj : j < xs.length := (List.getElem?_eq_some_iff.1 hx).1
  refine ⟨zs.set j x, by simpa using hl, (ho.stored hl.symm j x).1, ?_⟩
  rw [take_snoc' hx, take_snoc' (zs := zs.set j x) (k := j) (z := x) (by simp [hl, hj]), List.take_set_of_le (Nat.le_refl _), ht]

theorem Copied.fin {w : World} {base g : Nat} {xs : List Int} (h : Copied w base g xs xs.length) : OwnI w base (.slice (some ⟨g, 0, none⟩) xs.length xs.length) xs := by
  obtain ⟨zs, hl, ho, ht⟩ := h
  rw [List.take_of_length_le (by omega), List.take_of_length_le (by omega)] at ht
  rwa [ht] at ho

end Go.Proofs.YtfhnmmdopncohaaDoor
namespace Go.Proofs.YtfhnmmdopncohaaDoor
open Go.RowKit

/-- the first n marks from k on -/
def marks (k : Int) (n : Nat) : List Int := (List.range n).map fun (i : Nat) => k + (i : Int)
theorem marks_len (k : Int) (n : Nat) : (marks k n).length = n := by simp [marks]
theorem marks_at {k : Int} {n i : Nat} (h : i < n) : (marks k n)[i]? = some (k + i) := by simp [marks, h]

/-- what 'held' answers: the next mark, or -1 -/
def heldOf (m : Int) (xs : List Int) : Int := if xs = marks m xs.length then m + xs.length else -1

end Go.Proofs.YtfhnmmdopncohaaDoor
namespace Go.Proofs.YtfhnmmdopncohaaDoor
open Go.RowKit

theorem OwnI.other {w w' : World} {base : Nat} {v : Value} {zs : List Int} {row : Option Nat} (h : OwnI w base v zs) (hg : w.grownBy w' row) (hne : ∀ k, v.ownBlock = some k → row ≠ some k) : OwnI w' base v zs :=
  h.kept hg (by
    cases hv : v.ownBlock with
    | none => exact Or.inl rfl
    | some k => exact Or.inr (fun e => hne k hv e.symm))
theorem OwnI.lo {w : World} {base : Nat} {v : Value} {zs : List Int} (h : OwnI w base v zs) : ∀ k, v.ownBlock = some k → base ≤ k := fun k hk => (World.ownsRow.lt h k hk).1
theorem OwnI.hi {w : World} {base : Nat} {v : Value} {zs : List Int} (h : OwnI w base v zs) : ∀ k, v.ownBlock = some k → k < w.heap.size := fun k hk => (World.ownsRow.lt h k hk).2
theorem OwnI.ints {w : World} {base : Nat} {a : Option Addr} {n c : Nat} {zs : List Int} (h : OwnI w base (.slice a n c) zs) : IntsAt w a zs := by
  obtain ⟨a', c', e, hx⟩ := h.read
  obtain ⟨rfl, _, _⟩ := Value.slice.inj e
  exact hx
/-- how a slice of numbers is written -/
def Slc (a : Option Addr) (xs : List Int) : Prop := (∀ ad, a = some ad → ad.spot = none) ∧ (a = none → xs = [])
theorem OwnI.slc {w : World} {base : Nat} {a : Option Addr} {n c : Nat} {xs : List Int} (h : OwnI w base (.slice a n c) xs) : Slc a xs := by
  rcases h.2 with ⟨h1, h0⟩ | ⟨g, cap, cur, h1, _⟩
  · obtain ⟨rfl, _, _⟩ := Value.slice.inj h1
    exact ⟨fun ad e => (by cases e), fun _ => List.eq_nil_of_length_eq_zero (by simpa using h0)⟩
  · obtain ⟨rfl, _, _⟩ := Value.slice.inj h1
    exact ⟨fun ad e => (by cases e; rfl), fun e => (by cases e)⟩

theorem boxG {w w1 : World} {b : Nat} {cs : Array Value} {row : Option Nat} (hg : w.grownBy w1 row) (h : ∀ i, w.cell? ⟨b, i, none⟩ = cs[i]?) (hne : row ≠ some b) (h0 : 0 < cs.size) : ∀ i, w1.cell? ⟨b, i, none⟩ = cs[i]? := fun i => by
  have h1 : b < w.heap.size := boxLt h h0
  rw [World.cell?_of_block (w := w) (a := ⟨b, i, none⟩) (hg.block b h1 (fun e => hne e.symm))]
  exact h i
/-- two rows whose blocks lie on two sides of a number are two -/
theorem apartB {v : Value} {u : Value} {T : Nat} (h1 : ∀ k, v.ownBlock = some k → k < T) (h2 : ∀ k, u.ownBlock = some k → T ≤ k) : ∀ k, v.ownBlock = some k → u.ownBlock ≠ some k := fun k hk e => by
  have a := h1 k hk
  have b := h2 k e
  omega
theorem apartB' {v : Value} {u : Value} {T : Nat} (h1 : ∀ k, v.ownBlock = some k → k < T) (h2 : ∀ k, u.ownBlock = some k → T ≤ k) : ∀ k, u.ownBlock = some k → v.ownBlock ≠ some k := fun k hk e => by
  have a := h1 k e
  have b := h2 k hk
  omega
theorem below_row {B : Nat} {w w' : World} {v : Value} (h : w.grownBy w' v.ownBlock) (hB : B ≤ w.heap.size) (hr : ∀ k, v.ownBlock = some k → B ≤ k) : Below B w w' := below_of_grownBy h hB hr

theorem heldOf_marks (m : Int) (n : Nat) : heldOf m (marks m n) = m + n := by rw [heldOf, if_pos (by rw [marks_len]), marks_len]

end Go.Proofs.YtfhnmmdopncohaaDoor
namespace Go.Proofs.YtfhnmmdopncohaaDoor
open Go.RowKit

/-- the slice at address a holds the texts ss -/
def StrsAt (w : World) (a : Option Addr) (ss : List ByteArray) : Prop :=
  ∀ i (h : i < ss.length), ∃ b o, a = some ⟨b, o, none⟩ ∧ w.cell? ⟨b, o + i, none⟩ = some (.string ss[i])
theorem StrsAt.at {w : World} {a : Option Addr} {ss : List ByteArray} (H : StrsAt w a ss) {k : Nat} (hk : k < ss.length) :
    ∃ b o z, a = some ⟨b, o, none⟩ ∧ ss[k]? = some z ∧ b < w.heap.size ∧ w.cell? ⟨b, o + k, none⟩ = some (.string z) := by
  obtain ⟨b, o, ha, hc⟩ := H k hk
  exact ⟨b, o, ss[k], ha, List.getElem?_eq_getElem hk, lt_of_cell hc, hc⟩
theorem StrsAt.below {w w' : World} {a : Option Addr} {ss : List ByteArray} (H : StrsAt w a ss) (hb : Below w.heap.size w w') : StrsAt w' a ss := by
  intro i h
  obtain ⟨b, o, ha, hc⟩ := H i h
  exact ⟨b, o, ha, by rw [hb.cell (p := ⟨b, o + i, none⟩) (lt_of_cell hc)]; exact hc⟩
theorem StrsAt.grow {w w' : World} {a : Option Addr} {ss : List ByteArray} {B : Nat} (H : StrsAt w a ss) (hB : ∀ ad, a = some ad → ad.block < B) (hb : Below B w w') : StrsAt w' a ss := by
  intro i h
  obtain ⟨b, o, ha, hc⟩ := H i h
  exact ⟨b, o, ha, by rw [hb.cell (p := ⟨b, o + i, none⟩) (show b < B from hB _ ha)]; exact hc⟩
theorem StrsAt.nil {w : World} {a : Option Addr} : StrsAt w a [] := fun i h => absurd h (by simp)

/-- the slice v is the call's own and holds the texts ss -/
def OwnS (w : World) (base : Nat) (v : Value) (ss : List ByteArray) : Prop := w.ownsRow base 9 1 v ss.length (ss.map Value.string)
theorem OwnS.read {w : World} {base : Nat} {v : Value} {zs : List ByteArray} (h : OwnS w base v zs) : ∃ a c, v = .slice a zs.length c ∧ StrsAt w a zs := by
  unfold OwnS at h
  have h2 := h.2
  rcases h2 with ⟨rfl, h0⟩ | ⟨g, cap, cur, rfl, hb, hg, hn, hm, hs, ht⟩
  · refine ⟨none, 0, by rw [h0], ?_⟩
    intro i hi; omega
  · refine ⟨some ⟨g, 0, none⟩, cap, rfl, ?_⟩
    intro i hi
    refine ⟨g, 0, rfl, ?_⟩
    rw [Nat.zero_add, h.cellAt i (by omega)]
    simp [hi]
theorem OwnS.strs {w : World} {base : Nat} {a : Option Addr} {n c : Nat} {zs : List ByteArray} (h : OwnS w base (.slice a n c) zs) : StrsAt w a zs := by
  obtain ⟨a', c', e, hx⟩ := h.read
  obtain ⟨rfl, _, _⟩ := Value.slice.inj e
  exact hx
theorem OwnS.len {w : World} {base : Nat} {v : Value} {zs : List ByteArray} (h : OwnS w base v zs) : zs.length ≤ maxLen := by
  rcases h.2 with ⟨_, h0⟩ | ⟨g, cap, cur, rfl, hb, hg, hn, hm, hs, ht⟩
  · rw [h0]; exact Nat.zero_le _
  · omega
theorem OwnS.block {w : World} {base : Nat} {a : Option Addr} {n c : Nat} {zs : List ByteArray} (h : OwnS w base (.slice a n c) zs) (hk : 0 < zs.length) : ∃ g, a = some ⟨g, 0, none⟩ ∧ base ≤ g ∧ n = zs.length ∧ g < w.heap.size := by
  rcases h.2 with ⟨h1, h0⟩ | ⟨g, cap, cur, h1, hb, hg, _⟩
  · omega
  · simp only [Value.slice.injEq] at h1
    obtain ⟨rfl, rfl, rfl⟩ := h1
    exact ⟨g, rfl, hb, rfl, (Array.getElem?_eq_some_iff.1 hg).1⟩
theorem OwnS.grown {w w' : World} {base : Nat} {v : Value} {zs : List ByteArray} (h : OwnS w base v zs) (hb : Below w.heap.size w w') : OwnS w' base v zs :=
  h.kept (row := none) ⟨hb.os, hb.tape, hb.output, hb.size, fun k hk _ => hb.block k hk⟩ (by cases hv : v.ownBlock <;> simp)
theorem OwnS.weak {w : World} {base base' : Nat} {v : Value} {zs : List ByteArray} (h : OwnS w base v zs) (hb : base' ≤ base) : OwnS w base' v zs := by
  refine ⟨h.1, ?_⟩
  rcases h.2 with h2 | ⟨g, cap, cur, h1, hb', r⟩
  · exact Or.inl h2
  · exact Or.inr ⟨g, cap, cur, h1, by omega, r⟩
theorem OwnS.lo {w : World} {base : Nat} {v : Value} {zs : List ByteArray} (h : OwnS w base v zs) : ∀ k, v.ownBlock = some k → base ≤ k := fun k hk => (World.ownsRow.lt h k hk).1
theorem OwnS.hi {w : World} {base : Nat} {v : Value} {zs : List ByteArray} (h : OwnS w base v zs) : ∀ k, v.ownBlock = some k → k < w.heap.size := fun k hk => (World.ownsRow.lt h k hk).2
theorem OwnS.cellAt {w : World} {base g n c : Nat} {zs : List ByteArray} (h : OwnS w base (.slice (some ⟨g, 0, none⟩) n c) zs) (hn : n = zs.length) {k : Nat} (hk : k < zs.length) :
    ∃ z, zs[k]? = some z ∧ w.cell? ⟨g, k, none⟩ = some (.string z) ∧ w.frozen? ⟨g, k, none⟩ = false := by
  subst hn
  refine ⟨zs[k], by simp [hk], ?_, h.frozenAt k⟩
  rw [World.ownsRow.cellAt h k (by omega)]
  simp [hk]
theorem OwnS.stored {w : World} {base g n c : Nat} {zs : List ByteArray} (h : OwnS w base (.slice (some ⟨g, 0, none⟩) n c) zs) (hn : n = zs.length) (k : Nat) (z : ByteArray) :
    OwnS (w.setCell ⟨g, k, none⟩ (.string z)) base (.slice (some ⟨g, 0, none⟩) n c) (zs.set k z) ∧ w.grownBy (w.setCell ⟨g, k, none⟩ (.string z)) (some g) := by
  subst hn
  have hst := World.ownsRow.stored (h := h) k (.string z)
  refine ⟨?_, hst.2⟩
  unfold OwnS
  rw [List.map_set, List.length_set]
  exact hst.1
theorem OwnS.of_made {w : World} {base : Nat} {v : Value} {n : Nat} (h : w.ownsRow base 9 1 v n (madeCells #[.string ⟨#[]⟩] n).toList) : OwnS w base v (List.replicate n ⟨#[]⟩) := by
  unfold OwnS
  rw [toList_madeCells_one] at h
  simpa using h
theorem infoS : (Tryd.prog.info? 9).map (fun i => (i.zero, i.size, i.bytes)) = some (some (.string ⟨#[]⟩), 1, 16) := by kernel_rfl

theorem strs_at {w : World} {b o : Nat} {xs : List ByteArray} (h : StrsAt w (some ⟨b, o, none⟩) xs) : ∀ j u, (xs.map Value.string)[j]? = some u → w.cell? ((⟨b, o, none⟩ : Addr).add j) = some u := by
  intro j u hu
  rw [List.getElem?_map] at hu
  cases hx : xs[j]? with
  | none => rw [hx] at hu; cases hu
  | some x =>
    rw [hx] at hu
    obtain ⟨hj, rfl⟩ := List.getElem?_eq_some_iff.1 hx
    obtain ⟨b', o', e, hc⟩ := h j hj
    simp only [Option.some.injEq, Addr.mk.injEq, and_true] at e
    obtain ⟨rfl, rfl⟩ := e
    simp only [Option.map_some, Option.some.injEq] at hu
    subst hu
    rw [Addr.add_mid]
    exact hc

/-- after j rounds of a copy -/
def CopiedS (w : World) (base g : Nat) (xs : List ByteArray) (j : Nat) : Prop :=
  ∃ zs : List ByteArray, zs.length = xs.length ∧ OwnS w base (.slice (some ⟨g, 0, none⟩) xs.length xs.length) zs ∧ zs.take j = xs.take j
theorem CopiedS.step {w : World} {base g : Nat} {xs : List ByteArray} {j : Nat} {x : ByteArray} (h : CopiedS w base g xs j) (hx : xs[j]? = some x) : CopiedS (w.setCell ⟨g, j, none⟩ (.string x)) base g xs (j + 1) := by
  obtain ⟨zs, hl, ho, ht⟩ := h
  have hj : j < xs.length := (List.getElem?_eq_some_iff.1 hx).1
  refine ⟨zs.set j x, by simpa using hl, (ho.stored hl.symm j x).1, ?_⟩
  rw [take_snoc' hx, take_snoc' (zs := zs.set j x) (k := j) (z := x) (by simp [hl, hj]), List.take_set_of_le (Nat.le_refl _), ht]
theorem CopiedS.fin {w : World} {base g : Nat} {xs : List ByteArray} (h : CopiedS w base g xs xs.length) : OwnS w base (.slice (some ⟨g, 0, none⟩) xs.length xs.length) xs := by
  obtain ⟨zs, hl, ho, ht⟩ := h
  rw [List.take_of_length_le (by omega), List.take_of_length_le (by omega)] at ht
  rwa [ht] at ho

end Go.Proofs.YtfhnmmdopncohaaDoor
namespace Go.Proofs.YtfhnmmdopncohaaDoor
open Go.RowKit

/-- the words' bytes -/
def bytesL (ws : List ByteArray) : List (List UInt8) := ws.map (fun b => b.data.toList)

theorem cut_len (c : UInt8) : ∀ (l : List UInt8), (cut c l).length ≤ l.length + 1 ∧ ∀ p ∈ cut c l, p.length ≤ l.length
  | [] => by simp [cut]
  | x :: r => by
    obtain ⟨h1, h2⟩ := cut_len c r
    rw [cut]
    split
    · refine ⟨by simpa using h1, ?_⟩
      intro p hp
      rcases List.mem_cons.1 hp with rfl | hp
      · simp
      · have := h2 p hp; simp; omega
    · split
      · simp
      · rename_i h t he
        rw [he] at h1 h2
        refine ⟨by simp at h1 ⊢; omega, ?_⟩
        intro p hp
        rcases List.mem_cons.1 hp with rfl | hp
        · have := h2 h (by simp); simp; omega
        · have := h2 p (by simp [hp]); simp; omega

theorem strs_new (w : World) (ss : List ByteArray) (t : TypeId) : StrsAt (w.alloc (.cells (ss.map Value.string).toArray t (0, 0))) (some ⟨w.heap.size, 0, none⟩) ss := by
  intro i hi
  refine ⟨w.heap.size, 0, rfl, ?_⟩
  rw [Nat.zero_add]
  simp [hi]

/-- strings.Split at a byte -/
theorem split_any (s : ByteArray) (c : UInt8) (w : World) (hs : s.size ≤ 1048576) (hE : Env w) :
    Calls Tryd.prog 26 #[.string s, .string ⟨#[c]⟩] w fun e w' => ∃ ss : List ByteArray, bytesL ss = cut c s.data.toList ∧ ss.length ≤ 1048577 ∧ (∀ b ∈ ss, b.size ≤ s.size) ∧ e = .returned (.slice (some ⟨w.heap.size, 0, none⟩) ss.length ss.length) ∧ w' = w.alloc (.cells (ss.map Value.string).toArray 9) := by
  obtain ⟨m, hm⟩ := hE.mx
  refine (Tryd.strings_Split s ⟨#[c]⟩ m w (by omega) hm (Nat.le_refl 1)).mono fun e w' ⟨he, hw⟩ => ?_
  have hl := Lib.splitB_all ⟨#[c]⟩ (Nat.le_refl 1) 0 (Lib.countB s ⟨#[c]⟩) s rfl
  have hc := splitB_cut s c
  refine ⟨Lib.splitB ⟨#[c]⟩ 0 (Lib.countB s ⟨#[c]⟩) s, hc, ?_, ?_, ?_, hw⟩
  · have h2 := congrArg List.length hc
    rw [List.length_map] at h2
    have h3 := (cut_len c s.data.toList).1
    have h4 : s.data.toList.length = s.size := rfl
    omega
  · intro b hb
    have h2 : b.data.toList ∈ cut c s.data.toList := by rw [← hc]; exact List.mem_map.2 ⟨b, hb, rfl⟩
    exact (cut_len c s.data.toList).2 _ h2
  · rw [hl]; exact he

end Go.Proofs.YtfhnmmdopncohaaDoor
namespace Go.Proofs.YtfhnmmdopncohaaDoor
open Go.RowKit

theorem itoa_small {n : Int} (h0 : 0 ≤ n) (h : n < 10) : Lib.itoa n = [UInt8.ofNat (48 + n).toNat] := by
  obtain ⟨u, rfl⟩ := Int.eq_ofNat_of_zero_le h0
  have e : (48 + (u : Int)).toNat = 48 + u := by omega
  rw [Lib.itoa_nonneg, Lib.decDigits, dif_pos (by omega), e]
theorem itoa_big {n : Int} (h : 10 ≤ n) : Lib.itoa n = Lib.itoa (n / 10) ++ [UInt8.ofNat (48 + n % 10).toNat] := by
  obtain ⟨u, rfl⟩ := Int.eq_ofNat_of_zero_le (show 0 ≤ n by omega)
  have e1 : ((u : Int) / 10) = ((u / 10 : Nat) : Int) := by omega
  have e2 : (48 + (u : Int) % 10).toNat = 48 + u % 10 := by omega
  rw [e1, e2, Lib.itoa_nonneg, Lib.itoa_nonneg, Lib.decDigits, dif_neg (by omega)]

/-- a string of one byte -/
def oneB (z : Int) : ByteArray := ⟨#[UInt8.ofNat z.toNat]⟩

theorem conv_one (w : World) (b : Nat) (z : Int) (hc : w.cell? ⟨b, 0, none⟩ = some (.int .u8 z)) :
    (convert 28 9 (.slice (some ⟨b, 0, none⟩) 1 1)).run Tryd.prog w = .ok (.string (oneB z)) w := by
  have := run_convert_bytes_arg (P := Tryd.prog) w 28 5 Tryd.underlying28 Tryd.underlying5 b 0 1 1 [z] rfl (fun i hi => by
      obtain rfl : i = 0 := by omega
      simpa using hc) 9 Tryd.underlying9
  simpa [strOfNums, oneB] using this
theorem conv_new (w : World) (z : Int) :
    (convert 28 9 (.slice (some ⟨w.heap.size, 0, none⟩) 1 1)).run Tryd.prog (w.alloc (.cells #[.int .u8 z] 5)) = .ok (.string (oneB z)) (w.alloc (.cells #[.int .u8 z] 5)) :=
  conv_one _ _ _ (by simp)
theorem conv_drew (w : World) (z : Int) :
    (convert 28 9 (.slice (some ⟨w.heap.size, 0, none⟩) 1 1)).run Tryd.prog (w.alloc (.cells #[.int .u8 z] 5)).drew = .ok (.string (oneB z)) (w.alloc (.cells #[.int .u8 z] 5)).drew :=
  conv_one _ _ _ (by simp)

theorem decB_small {n : Int} (h0 : 0 ≤ n) (h : n < 10) : decB n = oneB (48 + n) := by
  unfold decB oneB; rw [itoa_small h0 h]
theorem decB_big {n : Int} (h : 10 ≤ n) : decB n = decB (n / 10) ++ oneB (48 + n % 10) := by
  have e : decB n = ⟨(Lib.itoa n).toArray⟩ := rfl
  rw [e, itoa_big h]
  apply ByteArray.ext
  simp [decB, oneB]

set_option maxHeartbeats 400000 in
theorem l01Dec_any (k : Nat) : ∀ (n : Int) (w : World), n ≤ k → 0 ≤ n → n ≤ 9223372036854775807 →
    Calls Tryd.prog 58 #[.int .i64 n] w fun e w' => e = .returned (.string (decB n)) ∧ Below w.heap.size w w' := by
  induction k with
  | zero =>
    intro n w hk h0 h1
    have hn : n < 10 := by omega
    have hcv := conv_new w
    go_enter Tryd.func58, Tryd.ntmps58
    go_wp2_with fail
    go_ret
    exact ⟨ret_str (decB_small h0 hn).symm, (Below.refl _ _).alloc (Nat.le_refl _) _⟩
  | succ k ih =>
    intro n w hk h0 h1
    by_cases hn : n < 10
    · have hcv := conv_new w
      go_enter Tryd.func58, Tryd.ntmps58
      go_wp2_with fail
      go_ret
      exact ⟨ret_str (decB_small h0 hn).symm, (Below.refl _ _).alloc (Nat.le_refl _) _⟩
    · have e1 : IntKind.i64.wrap (n.tdiv 10) = n / 10 := by rw [Int.tdiv_eq_ediv_of_nonneg h0]; exact IntWalk.i64_in _ (by omega)
      have e2 : n.tmod 10 = n % 10 := Int.tmod_eq_emod_of_nonneg h0
      have e3 : IntKind.i64.wrap (48 + n % 10) = 48 + n % 10 := IntWalk.i64_in _ (by omega)
      have e4 : IntKind.u8.wrap (48 + n % 10) = 48 + n % 10 := IntWalk.u8_in _ (by omega)
      have hs1 : (decB (n / 10)).size ≤ 21 := by rw [decB_size]; exact Lib.itoa_length_le _ (by omega) (by omega)
      have hs2 : (oneB (48 + n % 10)).size ≤ 1 := by simp [oneB, ByteArray.size]
      have hs3 : (decB (n / 10)).size + (oneB (48 + n % 10)).size ≤ 9223372036854775807 := by omega
      clear hs1 hs2
      have hcv := conv_new w
      have hcd := conv_drew w
      go_enter Tryd.func58, Tryd.ntmps58
      go_wp2_with fail
      go_region_with (go_at_call 58; refine (ih _ _ (by omega) (by omega) (by omega)).mono ?_; rintro e w' ⟨rfl, hb⟩; have hcv' := conv_new w'; obtain ⟨hc, hf⟩ := bcell hb; have hko := conv_one w' w.heap.size (48 + n % 10))
      all_goals
        go_wp2
        go_ret
        refine ⟨ret_str (decB_big (by omega)).symm, ?_⟩
        first | exact ((Below.refl _ _).drew.trans hb).alloc hb.size _ | exact (((Below.refl _ _).alloc (Nat.le_refl _) _).drew).trans (hb.mono (by simp))

end Go.Proofs.YtfhnmmdopncohaaDoor
namespace Go.Proofs.YtfhnmmdopncohaaDoor
open Go.RowKit

theorem infoStr : (Tryd.prog.info? 9).map (fun i => (i.zero, i.size, i.bytes)) = some (some (.string ⟨#[]⟩), 1, 16) := by kernel_rfl
/-- while a text is cut -/
structure SplI (l : List UInt8) (c : UInt8) (k f : Nat) (ss : List ByteArray) : Prop where
  len : k ≤ l.length + 1
  fk : f ≤ k
  num : ss.length ≤ k
  mid : k ≤ l.length → bytesL ss ++ cut c (l.drop f) = cut c l ∧ c ∉ (l.drop f).take (k - f)
  fin : k = l.length + 1 → bytesL ss = cut c l

theorem splI_start (l : List UInt8) (c : UInt8) : SplI l c 0 0 [] :=
  ⟨Nat.zero_le _, Nat.le_refl _, Nat.zero_le _, fun _ => by simp [bytesL], fun h => by omega⟩
theorem splI_skip {l : List UInt8} {c x : UInt8} {k f : Nat} {ss : List ByteArray} (h : SplI l c k f ss) (hx : l[k]? = some x) (hne : x ≠ c) : SplI l c (k + 1) f ss := by
  have hk : k < l.length := (List.getElem?_eq_some_iff.1 hx).1
  obtain ⟨h1, h2⟩ := h.mid (by omega)
  have hfk := h.fk
  refine ⟨by omega, by omega, by have := h.num; omega, fun _ => ⟨h1, ?_⟩, fun e => by omega⟩
  rw [show k + 1 - f = (k - f) + 1 by omega]
  rw [List.take_add_one, List.getElem?_drop, show f + (k - f) = k by omega, hx]
  simp only [Option.toList_some, List.mem_append, List.mem_singleton, not_or]
  exact ⟨h2, fun e => hne e.symm⟩
theorem drop_split {l : List UInt8} {x : UInt8} {k f : Nat} (hx : l[k]? = some x) (hfk : f ≤ k) : l.drop f = (l.drop f).take (k - f) ++ x :: l.drop (k + 1) := by
  have hk : k < l.length := (List.getElem?_eq_some_iff.1 hx).1
  have e := (List.take_append_drop (k - f) (l.drop f)).symm
  rw [List.drop_drop, show f + (k - f) = k by omega] at e
  rw [List.drop_eq_getElem_cons hk] at e
  have hxk : l[k] = x := (List.getElem?_eq_some_iff.1 hx).2
  rw [hxk] at e
  exact e
theorem bytesL_snoc (ss : List ByteArray) (b : ByteArray) : bytesL (ss ++ [b]) = bytesL ss ++ [b.data.toList] := by rw [bytesL, List.map_append]; rfl
theorem splI_cut {l : List UInt8} {c : UInt8} {k f : Nat} {ss : List ByteArray} {b : ByteArray} (h : SplI l c k f ss) (hx : l[k]? = some c) (hb : b.data.toList = (l.drop f).take (k - f)) : SplI l c (k + 1) (k + 1) (ss ++ [b]) := by
  have hk : k < l.length := (List.getElem?_eq_some_iff.1 hx).1
  obtain ⟨h1, h2⟩ := h.mid (by omega)
  refine ⟨by omega, by omega, by have := h.num; simp; omega, fun _ => ⟨?_, by simp⟩, fun e => by omega⟩
  rw [bytesL_snoc, hb, List.append_assoc, List.singleton_append, ← h1]
  conv => rhs; rw [drop_split hx h.fk, cut_app c _ _ h2]
theorem splI_end {l : List UInt8} {c : UInt8} {f : Nat} {ss : List ByteArray} {b : ByteArray} (h : SplI l c l.length f ss) (hb : b.data.toList = (l.drop f).take (l.length - f)) : SplI l c (l.length + 1) (l.length + 1) (ss ++ [b]) := by
  obtain ⟨h1, h2⟩ := h.mid (Nat.le_refl _)
  refine ⟨Nat.le_refl _, by omega, by have := h.num; simp; omega, fun e => by omega, fun _ => ?_⟩
  have e : (l.drop f).take (l.length - f) = l.drop f := List.take_of_length_le (by simp)
  rw [e] at h2 hb
  rw [bytesL_snoc, hb, ← h1, cut_piece c _ h2]
theorem extract_toList (s : ByteArray) (f k : Nat) : (s.extract f k).data.toList = (s.data.toList.drop f).take (k - f) := by
  rw [ByteArray.data_extract, Array.toList_extract, List.extract_eq_take_drop]
theorem str_one_new (w : World) (x : ByteArray) (t : TypeId) : ∀ j u, [Value.string x][j]? = some u → (w.alloc (.cells #[.string x] t (0, 0))).cell? ((⟨w.heap.size, 0, none⟩ : Addr).add j) = some u := by
  intro j u hu
  rw [Addr.add_lit, Nat.zero_add, ← hu]
  simp
theorem str_one (x : ByteArray) : ∀ u ∈ [Value.string x], u.oneCell' = true := by
  intro u hu
  simp only [List.mem_singleton] at hu
  subst hu; rfl
theorem OwnS.snoc {w : World} {base : Nat} {v : Value} {ss : List ByteArray} {b : ByteArray} (h : w.ownsRow base 9 1 v (ss.length + 1) (ss.map Value.string ++ [.string b])) : OwnS w base v (ss ++ [b]) := by
  unfold OwnS
  rw [List.length_append, List.map_append]
  simpa using h
theorem OwnS.new (w : World) : OwnS (w.alloc (.cells #[] 9 (0, 0))) w.heap.size (.slice (some ⟨w.heap.size, 0, none⟩) 0 0) [] :=
  World.ownsRow_lit (base := w.heap.size) (size := 1) w #[] 0 (Nat.le_refl _) (by unfold maxLen; omega) rfl

/-- texts of the call's own are handed back -/
def RetStrs (w : World) (l : List (List UInt8)) (e : Ending) (w' : World) : Prop :=
  ∃ (ss : List ByteArray) (a : Option Addr) (cp : Nat), bytesL ss = l ∧ e = .returned (.slice a ss.length cp) ∧ OwnS w' w.heap.size (.slice a ss.length cp) ss ∧ Below w.heap.size w w'
theorem below_of_grownBy' {w wr w9 : World} {v : Value} {o : Obj} (hb : Below w.heap.size w wr) (hlo : ∀ k, v.ownBlock = some k → w.heap.size ≤ k) (hg : (wr.alloc o).grownBy w9 v.ownBlock) : Below w.heap.size w w9 :=
  (bt0 hb (ba1 _ _) (Nat.le_refl _)).trans (below_of_grownBy hg (by have := hb.size; simp; omega) hlo)

set_option maxRecDepth 100000 in
set_option maxHeartbeats 1000000 in
theorem l01Split_any (s : ByteArray) (c : UInt8) (w : World) (hs : s.size ≤ 1048576) :
    Calls Tryd.prog 22 #[.string s, .int .u8 c.toNat] w (RetStrs w (cut c s.data.toList)) := by
  obtain ⟨i0, hi, y0, y1, y2⟩ := info_parts infoStr
  go_enter Tryd.func22, Tryd.ntmps22
  go_wp2_with fail
  go_loopw [5, 6, 7] (fun v f i wr => ∃ (k g : Nat) (ss : List ByteArray), i = .int .i64 k ∧ f = .int .i64 g ∧ SplI s.data.toList c k g ss ∧ OwnS wr w.heap.size v ss ∧ Below w.heap.size w wr) (fun _ _ i _ => s.data.toList.length + 1 - (intOf i).toNat)
  case atStart => exact ⟨0, 0, [], rfl, rfl, splI_start _ _, OwnS.new w, ba1 _ _⟩
  case round =>
    obtain ⟨k, g, ss, rfl, rfl, hi', ho, hb⟩ := hrel
    obtain ⟨a, cp, rfl, -⟩ := ho.read
    have HI := Lib.hid hi'
    have HO := Lib.hid ho
    have HB := Lib.hid hb
    have hfk := hi'.fk
    have hkl := hi'.len
    have HNM := Lib.hid hi'.num
    have HBS := Lib.hid hb.size
    clear hi' ho hb
    have hsz : s.data.toList.length = s.size := rfl
    by_cases hlt : k < s.size
    · have hk1 : (k : Int) ≤ (s.size : Int) := by omega
      have hk2 : ((k : Int) == (s.size : Int)) = false := by simp; omega
      have hxk : Hid (s.data.toList[k]? = some s[k]) := Lib.hid (by
        rw [List.getElem?_eq_getElem (by omega)]
        rfl)
      by_cases hx : s[k] = c
      · have hx2 : (((s[k].toNat : Nat) : Int) == ((c.toNat : Nat) : Int)) = true := by rw [hx]; simp
        have HXK : Hid (s.data.toList[k]? = some c) := Lib.hid (by rw [hxk.out, hx])
        clear hx hxk
        go_wp2_with (at_builtin; refine wpList_append_own _ rfl _ _ 47 rfl w.heap.size 9 i0 (.string ⟨#[]⟩) 1 16 Tryd.underlying47 hi y0 y1 y2 rfl (by decide) _ _ _ rfl (World.ownsRow.alloc HO.out _) ⟨wr.heap.size, 0, none⟩ 1 1 [.string (s.extract g k)] rfl rfl (str_one_new _ _ _) (str_one _) (by have := HNM.out; unfold maxLen; omega) (by have := HNM.out; omega) (by have := HBS.out; simp; omega) ?_; intro v' w9 hown3 hgrow3 _)
        refine ⟨⟨k + 1, k + 1, _, by go_num, by go_num, splI_cut HI.out HXK.out (extract_toList s g k), OwnS.snoc hown3, ?_⟩, by simp [intOf]; omega⟩
        exact below_of_grownBy' HB.out HO.out.lo hgrow3
      · have hx2 : (((s[k].toNat : Nat) : Int) == ((c.toNat : Nat) : Int)) = false := by
          rw [Bool.eq_false_iff]; intro e
          have e2 : ((s[k].toNat : Nat) : Int) = ((c.toNat : Nat) : Int) := by simpa using e
          exact hx (UInt8.toNat_inj.1 (by omega))
        have HX := Lib.hid hx
        clear hx
        go_wp2_with fail
        exact ⟨⟨k + 1, g, ss, by go_num, rfl, splI_skip HI.out hxk.out HX.out, HO.out, HB.out⟩, by simp [intOf]; omega⟩
    · by_cases hlt2 : k = s.size
      · subst hlt2
        go_wp2_with (at_builtin; refine wpList_append_own _ rfl _ _ 47 rfl w.heap.size 9 i0 (.string ⟨#[]⟩) 1 16 Tryd.underlying47 hi y0 y1 y2 rfl (by decide) _ _ _ rfl (World.ownsRow.alloc HO.out _) ⟨wr.heap.size, 0, none⟩ 1 1 [.string (s.extract g s.size)] rfl rfl (str_one_new _ _ _) (str_one _) (by have := HNM.out; unfold maxLen; omega) (by have := HNM.out; omega) (by have := HBS.out; simp; omega) ?_; intro v' w9 hown3 hgrow3 _)
        refine ⟨⟨s.size + 1, s.size + 1, _, by go_num, by go_num, splI_end HI.out (extract_toList s g s.size), OwnS.snoc hown3, ?_⟩, by first | (simp [intOf]; done) | (simp [intOf]; omega)⟩
        exact below_of_grownBy' HB.out HO.out.lo hgrow3
      · have hk3 : k = s.size + 1 := by omega
        have hk1 : ¬ (k : Int) ≤ (s.size : Int) := by omega
        go_wp2_with fail
        go_ret
        exact ⟨ss, a, cp, HI.out.fin hk3, rfl, HO.out, HB.out⟩

end Go.Proofs.YtfhnmmdopncohaaDoor
namespace Go.Proofs.YtfhnmmdopncohaaDoor
open Go.RowKit

/-- the number that digits spell -/
def dval (l : List UInt8) : Nat := l.foldl (fun n x => 10 * n + (x.toNat - 48)) 0

theorem dval_dec : ∀ u : Nat, dval (Lib.decDigits u) = u := by
  intro u
  induction u using Nat.strongRecOn with
  | _ u ih =>
    rw [Lib.decDigits.eq_1]
    split
    · rename_i h
      have h1 : (UInt8.ofNat (48 + u)).toNat = 48 + u := by simp; omega
      simp only [dval, List.foldl_cons, List.foldl_nil, h1]; omega
    · rename_i h
      have h1 : (UInt8.ofNat (48 + u % 10)).toNat = 48 + u % 10 := by simp; omega
      have h2 := ih (u / 10) (by omega)
      unfold dval at h2 ⊢
      rw [List.foldl_append, h2]
      simp only [List.foldl_cons, List.foldl_nil, h1]; omega

theorem dec_len : ∀ (k u : Nat), u < 10 ^ (k + 1) → (Lib.decDigits u).length ≤ k + 1
  | 0, u, h => by rw [Lib.decDigits.eq_1, dif_pos (by omega)]; simp
  | k + 1, u, h => by
    rw [Lib.decDigits.eq_1]
    split
    · simp
    · have := dec_len k (u / 10) (by rw [Nat.pow_succ] at h; omega)
      simp; omega

/-- the reference's reading of a number of at most twelve digits -/
def valS (l : List UInt8) : Option Int :=
  if 1 ≤ l.length ∧ l.length ≤ 12 ∧ (∀ x ∈ l, 48 ≤ x.toNat ∧ x.toNat ≤ 57) ∧ Lib.decDigits (dval l) = l then some (dval l) else none

theorem valS_dec (u : Nat) (h : u < 1000000000000) : valS (Lib.decDigits u) = some (u : Int) := by
  have hl := dec_len 11 u (by simpa using h)
  have hne := decDigits_ne u
  have h1 : 1 ≤ (Lib.decDigits u).length := by
    cases he : Lib.decDigits u with
    | nil => exact absurd he hne
    | cons => simp
  unfold valS
  rw [dval_dec, if_pos ⟨h1, by omega, dec_digit u, rfl⟩]

theorem itoa_mem (n : Int) : ∀ x ∈ Lib.itoa n, x.toNat = 45 ∨ (48 ≤ x.toNat ∧ x.toNat ≤ 57) := by
  intro x hx
  unfold Lib.itoa at hx
  split at hx
  · rcases List.mem_cons.1 hx with rfl | hx
    · exact .inl rfl
    · exact .inr (dec_digit _ x hx)
  · exact .inr (dec_digit _ x hx)

theorem itoa_no (n : Int) (c : UInt8) (hc : c.toNat ≠ 45) (hd : ¬ (48 ≤ c.toNat ∧ c.toNat ≤ 57)) : c ∉ Lib.itoa n := by
  intro hx
  rcases itoa_mem n c hx with h | h
  · exact hc h
  · exact hd h

end Go.Proofs.YtfhnmmdopncohaaDoor
namespace Go.Proofs.YtfhnmmdopncohaaDoor
open Go.RowKit

/-- a call that keeps what is there, said of the world in which the caller began -/
theorem callB {P : Program} {f : FuncId} {args : Array Value} {w w0 : World} {B : Nat} {v : Value} (HB : Hid (Below B w0 w)) (hs : B ≤ w.heap.size)
    (h : Calls P f args w fun e w' => e = .returned v ∧ Below w.heap.size w w') :
    Calls P f args w fun e w' => e = .returned v ∧ Hid (Below B w0 w') ∧ Hid (Below w.heap.size w w') ∧ (∀ b o, b < w.heap.size → w'.cell? ⟨b, o, none⟩ = w.cell? ⟨b, o, none⟩) ∧ (∀ b o, b < w.heap.size → w'.frozen? ⟨b, o, none⟩ = w.frozen? ⟨b, o, none⟩) ∧ w.heap.size ≤ w'.heap.size :=
  h.mono fun _ _ ⟨he, hb⟩ => ⟨he, Lib.hid (HB.out.trans (hb.mono hs)), Lib.hid hb, (bcell hb).1, (bcell hb).2, hb.size⟩

theorem same_below {P : Program} {f : FuncId} {args : Array Value} {w : World} {v : Value} (h : Calls P f args w fun e w' => e = .returned v ∧ w = w') : Calls P f args w fun e w' => e = .returned v ∧ Below w.heap.size w w' :=
  h.mono fun _ _ ⟨he, hw⟩ => ⟨he, hw ▸ Below.refl _ _⟩

end Go.Proofs.YtfhnmmdopncohaaDoor
namespace Go.Proofs.YtfhnmmdopncohaaDoor
open Go.RowKit

theorem decB_eq {n : Int} {s : ByteArray} (h : Lib.itoa n = s.data.toList) : decB n = s := by
  apply ByteArray.ext; simp [decB, h]
theorem rnum_none {l : List UInt8} (h : ∀ n, Lib.parseIntB 64 l ≠ .ok n) : rnum l = none := by
  unfold rnum; split
  · rename_i n hn; exact absurd hn (h n)
  · rfl

set_option maxHeartbeats 1000000 in
theorem readNumber_any (s : ByteArray) (w : World) (hs : s.size ≤ 281474976710656) (hE : Env w) :
    Calls Tryd.prog 63 #[.string s] w fun e w' => ∃ v, e = .returned (.tuple #[.int .i64 v, .bool (rnum s.data.toList).isSome]) ∧ (∀ n, rnum s.data.toList = some n → v = n) ∧ Below w.heap.size w w' := by
  have HE := Lib.hid hE
  clear hE
  go_enter Tryd.func63, Tryd.ntmps63
  go_wp2_with fail
  refine (parse_any s w hs HE.out).mono ?_
  rintro e w1 ⟨⟨n, hp, rfl⟩ | ⟨hp, v, t, p, rfl⟩, hb1⟩
  · have HB1 := Lib.hid hb1
    have HP := Lib.hid hp
    obtain ⟨h0, h1⟩ := Lib.parseIntB_bounds hp
    have h0' : -9223372036854775808 ≤ n := by simpa using h0
    have h1' : n ≤ 9223372036854775807 := by have : n < 9223372036854775808 := by simpa using h1
                                             omega
    clear hb1 hp h0 h1
    go_wp2_with fail
    refine (formatInt_any n _ h0' h1' (HE.out.next HB1.out).tab).mono ?_
    rintro e w2 ⟨rfl, hb2⟩
    have HB2 := Lib.hid (bt0 HB1.out hb2 (Nat.le_refl _))
    clear hb2
    by_cases he : Lib.itoa n = s.data.toList
    · have E := Lib.hid (show rnum s.data.toList = some n by unfold rnum; rw [HP.out]; simp [he])
      have e2 : ((decB n).toList == s.toList) = true := by rw [decB_eq he]; simp
      clear he
      go_wp2_with fail
      go_ret2
      exact ⟨n, by rw [E.out]; rfl, (fun m hm => by rw [E.out] at hm; exact Option.some.inj hm), HB2.out⟩
    · have E := Lib.hid (show rnum s.data.toList = none by unfold rnum; rw [HP.out]; simp [he])
      have e2 : ((decB n).toList == s.toList) = false := by
        rw [Bool.eq_false_iff]; intro h
        rw [beq_iff_eq, ByteArray.toList_eq, ByteArray.toList_eq] at h
        exact he (by rw [← h]; simp [decB])
      clear he
      go_wp2_with fail
      go_ret2
      exact ⟨n, by rw [E.out]; rfl, (fun m hm => by rw [E.out] at hm; cases hm), HB2.out⟩
  · have HB1 := Lib.hid hb1
    have E := Lib.hid (rnum_none hp)
    clear hb1 hp
    go_wp2_with fail
    go_ret2
    exact ⟨v, by rw [E.out]; rfl, (fun m hm => by rw [E.out] at hm; cases hm), HB1.out⟩

end Go.Proofs.YtfhnmmdopncohaaDoor
namespace Go.Proofs.YtfhnmmdopncohaaDoor
open Go.RowKit

theorem dval_snoc (l : List UInt8) (x : UInt8) : dval (l ++ [x]) = 10 * dval l + (x.toNat - 48) := by simp [dval, List.foldl_append]
/-- all bytes are digits -/
def DigL (l : List UInt8) : Prop := ∀ x ∈ l, 48 ≤ x.toNat ∧ x.toNat ≤ 57
/-- while digits are read -/
structure ValI (l : List UInt8) (k n : Nat) : Prop where
  len : k ≤ l.length
  val : n = dval (l.take k)
  bd : n < 10 ^ k
  dig : DigL (l.take k)
theorem valI_start (l : List UInt8) : ValI l 0 0 := ⟨Nat.zero_le _, by simp [dval], by simp, by intro x hx; simp at hx⟩
theorem valI_step {l : List UInt8} {k n : Nat} {x : UInt8} (h : ValI l k n) (hx : l[k]? = some x) (h1 : 48 ≤ x.toNat) (h2 : x.toNat ≤ 57) : ValI l (k + 1) (10 * n + (x.toNat - 48)) := by
  have hk : k < l.length := (List.getElem?_eq_some_iff.1 hx).1
  have ht := take_snoc' hx
  refine ⟨by omega, ?_, ?_, ?_⟩
  · rw [ht, dval_snoc, ← h.val]
  · have := h.bd; rw [Nat.pow_succ]; omega
  · rw [ht]
    intro y hy
    rcases List.mem_append.1 hy with hy | hy
    · exact h.dig y hy
    · simp at hy; subst hy; exact ⟨h1, h2⟩
theorem valI_pow {l : List UInt8} {k n : Nat} (h : ValI l k n) (hl : l.length ≤ 12) : n < 1000000000000 := by
  have h1 := h.bd
  have h2 : 10 ^ k ≤ 10 ^ 12 := Nat.pow_le_pow_right (by omega) (by have := h.len; omega)
  have h3 : (10 : Nat) ^ 12 = 1000000000000 := by decide
  omega
theorem valS_bad {l : List UInt8} {k : Nat} {x : UInt8} (hx : l[k]? = some x) (hb : ¬ (48 ≤ x.toNat ∧ x.toNat ≤ 57)) : valS l = none := by
  rw [valS, if_neg]
  rintro ⟨_, _, h, _⟩
  exact hb (h x (List.mem_of_getElem? hx))
theorem valS_len {l : List UInt8} (h : ¬ (1 ≤ l.length ∧ l.length ≤ 12)) : valS l = none := by
  rw [valS, if_neg]
  rintro ⟨h1, h2, _⟩
  exact h ⟨h1, h2⟩
theorem valS_end {l : List UInt8} {n : Nat} (h : ValI l l.length n) (h1 : 1 ≤ l.length) (h2 : l.length ≤ 12) : valS l = if Lib.decDigits n = l then some (n : Int) else none := by
  have hv := h.val
  have hd := h.dig
  rw [List.take_of_length_le (Nat.le_refl _)] at hv hd
  rw [valS, ← hv]
  by_cases he : Lib.decDigits n = l
  · rw [if_pos ⟨h1, h2, hd, he⟩, if_pos he]
  · rw [if_neg (fun h => he h.2.2.2), if_neg he]

/-- a number, perhaps none -/
def RetVal (w : World) (o : Option Int) (e : Ending) (w' : World) : Prop :=
  ∃ v : Int, e = .returned (.tuple #[.int .i64 v, .bool o.isSome]) ∧ (∀ n, o = some n → v = n) ∧ (0 ≤ v ∧ v < 1000000000000) ∧ Below w.heap.size w w'
theorem retVal_no {w w' : World} {o : Option Int} (h : o = none) {v : Int} (h0 : 0 ≤ v) (h1 : v < 1000000000000) (hb : Below w.heap.size w w') : RetVal w o (.returned (.tuple #[.int .i64 v, .bool false])) w' := by
  subst h
  exact ⟨v, rfl, fun n e => (by cases e), ⟨h0, h1⟩, hb⟩

set_option maxRecDepth 100000 in
set_option maxHeartbeats 1000000 in
theorem l01Value_any (s : ByteArray) (w : World) (hs : s.size ≤ 1048576) :
    Calls Tryd.prog 41 #[.string s] w (RetVal w (valS s.data.toList)) := by
  have hsz : s.data.toList.length = s.size := rfl
  by_cases h1 : s.size < 1
  · have hi1 : ((s.size : Nat) : Int) < 1 := by omega
    have HN := Lib.hid (valS_len (l := s.data.toList) (by omega))
    go_enter Tryd.func41, Tryd.ntmps41
    go_wp2_with fail
    go_ret2
    exact retVal_no HN.out (by omega) (by omega) (Below.refl _ _)
  by_cases h2 : 12 < s.size
  · have hi1 : ¬ ((s.size : Nat) : Int) < 1 := by omega
    have hi2 : (12 : Int) < ((s.size : Nat) : Int) := by omega
    have HN := Lib.hid (valS_len (l := s.data.toList) (by omega))
    go_enter Tryd.func41, Tryd.ntmps41
    go_wp2_with fail
    go_ret2
    exact retVal_no HN.out (by omega) (by omega) (Below.refl _ _)
  have hi1 : ¬ ((s.size : Nat) : Int) < 1 := by omega
  have hi2 : ¬ (12 : Int) < ((s.size : Nat) : Int) := by omega
  go_enter Tryd.func41, Tryd.ntmps41
  go_wp2_with fail
  go_loopw [4, 5] (fun v i wr => ∃ (k n : Nat), i = .int .i64 k ∧ v = .int .i64 n ∧ ValI s.data.toList k n ∧ Below w.heap.size w wr) (fun _ i _ => s.size - (intOf i).toNat)
  case atStart => exact ⟨0, 0, rfl, rfl, valI_start _, Below.refl _ _⟩
  case round =>
    obtain ⟨k, n, rfl, rfl, hv, hb⟩ := hrel
    have HV := Lib.hid hv
    have HB := Lib.hid hb
    have hn := valI_pow hv (by omega)
    have hkl := hv.len
    clear hv hb
    by_cases hlt : k < s.size
    · obtain ⟨x, hx⟩ : ∃ x, s[k] = x := ⟨_, rfl⟩
      have hxk : Hid (s.data.toList[k]? = some x) := Lib.hid (by
        rw [List.getElem?_eq_getElem (by omega), ← hx]
        rfl)
      by_cases hx1 : x.toNat < 48
      · have hx2 : ((x.toNat : Nat) : Int) < 48 := by omega
        have HN := Lib.hid (valS_bad hxk.out (by omega))
        go_wp2_with fail
        go_ret2
        exact retVal_no HN.out (by omega) (by omega) HB.out
      · by_cases hx3 : 57 < x.toNat
        · have hx2 : ¬ ((x.toNat : Nat) : Int) < 48 := by omega
          have hx4 : (57 : Int) < ((x.toNat : Nat) : Int) := by omega
          have HN := Lib.hid (valS_bad hxk.out (by omega))
          go_wp2_with fail
          go_ret2
          exact retVal_no HN.out (by omega) (by omega) HB.out
        · have hx2 : ¬ ((x.toNat : Nat) : Int) < 48 := by omega
          have hx4 : ¬ (57 : Int) < ((x.toNat : Nat) : Int) := by omega
          have e1 : IntKind.u8.wrap ((x.toNat : Int) - 48) = (x.toNat : Int) - 48 := IntWalk.u8_in _ (by omega)
          have e2 : IntKind.i64.wrap (10 * (n : Int)) = 10 * (n : Int) := IntWalk.i64_in _ (by omega)
          have e3 : IntKind.i64.wrap ((x.toNat : Int) - 48) = (x.toNat : Int) - 48 := IntWalk.i64_in _ (by omega)
          have e4 : IntKind.i64.wrap (10 * (n : Int) + ((x.toNat : Int) - 48)) = 10 * (n : Int) + ((x.toNat : Int) - 48) := IntWalk.i64_in _ (by omega)
          have HS := Lib.hid (valI_step HV.out hxk.out (by omega) (by omega))
          go_wp2_with fail
          exact ⟨⟨k + 1, 10 * n + (x.toNat - 48), by go_num, by congr 1; omega, HS.out, HB.out⟩, by simp [intOf]; omega⟩
    · obtain rfl : k = s.size := by omega
      go_wp2_with fail
      refine (l01Dec_any n n _ (by omega) (by omega) (by omega)).mono ?_
      rintro e w1 ⟨rfl, hb1⟩
      have HB1 := Lib.hid (bt0 HB.out hb1 (Nat.le_refl _))
      have HVE := Lib.hid (valS_end (l := s.data.toList) HV.out (by omega) (by omega))
      clear hb1
      by_cases he : Lib.itoa (n : Int) = s.data.toList
      · have e2 : ((decB n).toList == s.toList) = true := by rw [decB_eq he]; simp
        rw [Lib.itoa_nonneg] at he
        have HE := Lib.hid (HVE.out.trans (if_pos he))
        clear he
        go_wp2_with fail
        go_ret2
        rw [HE.out]
        exact ⟨n, rfl, fun m hm => Option.some.inj hm, ⟨by omega, by omega⟩, HB1.out⟩
      · have e2 : ((decB n).toList == s.toList) = false := by
          rw [Bool.eq_false_iff]; intro h
          rw [beq_iff_eq, ByteArray.toList_eq, ByteArray.toList_eq] at h
          exact he (by rw [← h]; simp [decB])
        rw [Lib.itoa_nonneg] at he
        have HE := Lib.hid (HVE.out.trans (if_neg he))
        clear he
        go_wp2_with fail
        go_ret2
        exact retVal_no HE.out (by omega) (by omega) HB1.out

end Go.Proofs.YtfhnmmdopncohaaDoor
namespace Go.Proofs.YtfhnmmdopncohaaDoor
open Go.RowKit

/-- low <= n <= high -/
def inB (n lo hi : Int) : Bool := decide (lo ≤ n ∧ n ≤ hi)
theorem inB_iff {n lo hi : Int} : inB n lo hi = true ↔ lo ≤ n ∧ n ≤ hi := by simp [inB]
theorem inB_not {n lo hi : Int} : inB n lo hi = false ↔ n < lo ∨ hi < n := by simp [inB]; omega

set_option maxHeartbeats 400000 in
theorem inRange_any (n lo hi : Int) (w : World) :
    Calls Tryd.prog 33 #[.int .i64 n, .int .i64 lo, .int .i64 hi] w fun e w' => e = .returned (.bool (inB n lo hi)) ∧ w = w' := by
  have e : inB n lo hi = (decide (lo ≤ n) && decide (n ≤ hi)) := by simp [inB]
  rw [e]
  clear e
  go_enter Tryd.func33, Tryd.ntmps33
  go_wp2
  all_goals go_ret
  all_goals exact ⟨ret_bool (by simp; try omega), rfl⟩

set_option maxHeartbeats 400000 in
theorem l01In_any (n lo hi : Int) (w : World) :
    Calls Tryd.prog 57 #[.int .i64 n, .int .i64 lo, .int .i64 hi] w fun e w' => e = .returned (.bool (inB n lo hi)) ∧ w = w' := by
  have e : inB n lo hi = (decide (lo ≤ n) && decide (n ≤ hi)) := by simp [inB]
  rw [e]
  clear e
  go_enter Tryd.func57, Tryd.ntmps57
  go_wp2
  all_goals go_ret
  all_goals exact ⟨ret_bool (by simp; try omega), rfl⟩

theorem inRange_val {n lo hi : Int} {b : Bool} {w : World} (h : inB n lo hi = b) :
    Calls Tryd.prog 33 #[.int .i64 n, .int .i64 lo, .int .i64 hi] w fun e w' => e = .returned (.bool b) ∧ w = w' := h ▸ inRange_any n lo hi w
theorem l01In_val {n lo hi : Int} {b : Bool} {w : World} (h : inB n lo hi = b) :
    Calls Tryd.prog 57 #[.int .i64 n, .int .i64 lo, .int .i64 hi] w fun e w' => e = .returned (.bool b) ∧ w = w' := h ▸ l01In_any n lo hi w

end Go.Proofs.YtfhnmmdopncohaaDoor
namespace Go.Proofs.YtfhnmmdopncohaaDoor
open Go.RowKit

/-- n bytes at a, in blocks below base -/
def BytesAt (w : World) (base : Nat) (a : Option Addr) (n : Nat) : Prop :=
  ∀ i, i < n → ∃ b o z, a = some ⟨b, o, none⟩ ∧ b < base ∧ w.cell? ⟨b, o + i, none⟩ = some (.int .u8 z) ∧ 0 ≤ z ∧ z ≤ 255

theorem BytesAt.kept {w w' : World} {base : Nat} {a : Option Addr} {n : Nat} (h : BytesAt w base a n) (hb : ∀ k, k < base → w'.heap[k]? = w.heap[k]?) : BytesAt w' base a n := by
  intro i hi
  obtain ⟨b, o, z, ha, hlt, hc, hz⟩ := h i hi
  exact ⟨b, o, z, ha, hlt, by rw [World.cell?_of_block (w := w) (a := ⟨b, o + i, none⟩) (hb b hlt)]; exact hc, hz⟩

/-- block b is a source of drawn numbers -/
def SrcAt (w : World) (b : Nat) (a : Option Addr) (n c : Nat) (at_ seed : Int) (base : Nat) : Prop :=
  base ≤ b ∧ BytesAt w base a n ∧ w.heap[b]? = some (.cells #[.slice a n c, .int .i64 at_, .int .i64 seed] 92 (0, 0)) ∧ n ≤ 4096 ∧ 0 ≤ at_ ∧ at_ ≤ n ∧ 0 ≤ seed ∧ seed < 2147483647
def Src (w : World) (b : Nat) : Prop := ∃ a n c at_ seed base, SrcAt w b a n c at_ seed base

theorem Src.lt {w : World} {b : Nat} (h : Src w b) : b < w.heap.size := by
  obtain ⟨a, n, c, at_, seed, base, _, _, hb, _⟩ := h
  exact (Array.getElem?_eq_some_iff.1 hb).1

/-- a source stays one while other blocks are written or made -/
theorem Src.kept {w w' : World} {b : Nat} {row : Option Nat} (h : Src w b) (hg : w.grownBy w' row) (hne : ∀ k, row = some k → b < k) : Src w' b := by
  have hlt := h.lt
  obtain ⟨a, n, c, at_, seed, base, h1, h2, h3, h4⟩ := h
  refine ⟨a, n, c, at_, seed, base, h1, h2.kept (fun k hk => hg.block k (by omega) (fun e => by have := hne k e.symm; omega)), ?_, h4⟩
  rw [hg.block b hlt (fun e => by have := hne b e.symm; omega)]
  exact h3
theorem Src.below {w w' : World} {b : Nat} (h : Src w b) (hb : Below w.heap.size w w') : Src w' b :=
  h.kept (row := none) ⟨hb.os, hb.tape, hb.output, hb.size, fun k hk _ => hb.block k hk⟩ (fun k e => by cases e)

/-- a number is drawn -/
def RetNum (w : World) (b : Nat) (n : Int) (e : Ending) (w' : World) : Prop :=
  ∃ r : Int, e = .returned (.int .i64 r) ∧ 0 ≤ r ∧ (r < n ∨ r = 0) ∧ Src w' b ∧ w.grownBy w' (some b)

theorem RetNum.mk {w w' : World} {b : Nat} {n : Int} {a : Option Addr} {m c : Nat} {at_ seed at2 seed2 r : Int} {base : Nat} (h : SrcAt w b a m c at_ seed base)
    (h' : w'.heap[b]? = some (.cells #[.slice a m c, .int .i64 at2, .int .i64 seed2] 92 (0, 0))) (hg : w.grownBy w' (some b)) (h1 : 0 ≤ at2) (h2 : at2 ≤ m) (h3 : 0 ≤ seed2) (h4 : seed2 < 2147483647) (h5 : 0 ≤ r) (h6 : r < n ∨ r = 0) :
    RetNum w b n (.returned (.int .i64 r)) w' := by
  obtain ⟨q1, q2, q3, q4, _⟩ := h
  have hlt : b < w.heap.size := (Array.getElem?_eq_some_iff.1 q3).1
  exact ⟨r, rfl, h5, h6, ⟨a, m, c, at2, seed2, base, q1, q2.kept (fun k hk => hg.block k (by omega) (fun e => by have := Option.some.inj e; omega)), h', q4, h1, h2, h3, h4⟩, hg⟩

theorem src_set {w : World} {b : Nat} {C : Array Value} {t : TypeId} {fr : Nat × Nat} (h : w.heap[b]? = some (.cells C t fr)) (i : Nat) (v : Value) : (w.setCell ⟨b, i, none⟩ v).heap[b]? = some (.cells (C.setIfInBounds i v) t fr) := by
  rw [setCell_eq_setRow w b i C t fr v h]
  exact setRow_heap w b _ _ t _ h
theorem grownBy_set (w : World) (b i : Nat) (v : Value) : w.grownBy (w.setCell ⟨b, i, none⟩ v) (some b) :=
  ⟨rfl, rfl, rfl, by simp, fun k _ hk => heap_setCell_other w ⟨b, i, none⟩ k v (fun e => hk (by simp [e]))⟩

theorem grownBy_drewN (w : World) (k : Nat) (row : Option Nat) : w.grownBy (w.drewN k) row := ⟨rfl, rfl, rfl, Nat.le_refl _, fun _ _ _ => rfl⟩
theorem src_one {w : World} {b : Nat} {x0 x1 x2 v2 : Value} {t : TypeId} {fr : Nat × Nat} (h : w.heap[b]? = some (.cells #[x0, x1, x2] t fr)) (k : Nat) :
    ((w.setCell ⟨b, 2, none⟩ v2).drewN k).heap[b]? = some (.cells #[x0, x1, v2] t fr) ∧ w.grownBy ((w.setCell ⟨b, 2, none⟩ v2).drewN k) (some b) :=
  ⟨src_set h 2 v2, grownBy_trans (grownBy_set _ _ _ _) (grownBy_drewN _ _ _)⟩
theorem src_two {w : World} {b : Nat} {x0 x1 x2 v1 v2 : Value} {t : TypeId} {fr : Nat × Nat} (h : w.heap[b]? = some (.cells #[x0, x1, x2] t fr)) (k : Nat) :
    (((w.setCell ⟨b, 2, none⟩ v2).drewN k).setCell ⟨b, 1, none⟩ v1).heap[b]? = some (.cells #[x0, v1, v2] t fr) ∧ w.grownBy (((w.setCell ⟨b, 2, none⟩ v2).drewN k).setCell ⟨b, 1, none⟩ v1) (some b) :=
  ⟨src_set (src_one h k).1 1 v1, grownBy_trans (src_one h k).2 (grownBy_set _ _ _ _)⟩

set_option maxHeartbeats 1000000 in
theorem l01Next_any (b : Nat) (n : Int) (w : World) (hs : Src w b) (hn1 : -1152921504606846976 ≤ n) (hn2 : n ≤ 1152921504606846976) :
    Calls Tryd.prog 51 #[.pointer (some ⟨b, 0, none⟩), .int .i64 n] w (RetNum w b n) := by
  obtain ⟨a, m, c, at_, seed, base, HS⟩ := hs
  have HS' := HS
  obtain ⟨q1, q2, q3, q4, q5, q6, q7, q8⟩ := HS'
  have hc0 : w.cell? ⟨b, 0, none⟩ = some (.slice a m c) := by simp [World.cell?, q3]
  have hc1 : w.cell? ⟨b, 1, none⟩ = some (.int .i64 at_) := by simp [World.cell?, q3]
  have hc2 : w.cell? ⟨b, 2, none⟩ = some (.int .i64 seed) := by simp [World.cell?, q3]
  have hf1 : w.frozen? ⟨b, 1, none⟩ = false := by simp [World.frozen?, q3]
  have hf2 : w.frozen? ⟨b, 2, none⟩ = false := by simp [World.frozen?, q3]
  have HH := Lib.hid HS
  have HB := Lib.hid q3
  have HC := Lib.hid q2
  clear HS q3 q2
  by_cases h1 : n ≤ 1
  · go_enter Tryd.func51, Tryd.ntmps51
    go_wp2_with fail
    go_ret
    exact RetNum.mk HH.out HB.out (World.grownBy.refl _ _) q5 q6 q7 q8 (Int.le_refl _) (Or.inr rfl)
  · obtain ⟨t, rfl⟩ := Int.eq_ofNat_of_zero_le q5
    have g0 : 0 ≤ (seed * 48271 + 11) % 2147483647 := by omega
    have g1 : (seed * 48271 + 11) % 2147483647 < 2147483647 := by omega
    by_cases h2 : t < m
    · obtain ⟨b1, o1, z, rfl, hb1, hz, z0, z1⟩ := HC.out t h2
      have h2' : (t : Int) < (m : Int) := by omega
      have hne : ¬ b1 = b := by have := HH.out.1; omega
      rcases (show (¬ n ≤ 256) ∨ (n ≤ 256 ∧ (((t : Int) + 1) % 2 == 0) = false) ∨ (n ≤ 256 ∧ (((t : Int) + 1) % 2 == 0) = true) by
        by_cases h : n ≤ 256
        · rcases Bool.eq_false_or_eq_true ((((t : Int) + 1) % 2 == 0)) with h4 | h4
          · exact Or.inr (Or.inr ⟨h, h4⟩)
          · exact Or.inr (Or.inl ⟨h, h4⟩)
        · exact Or.inl h) with h3 | ⟨h3, h4⟩ | ⟨h3, h4⟩
      all_goals
        go_enter Tryd.func51, Tryd.ntmps51
        go_wp2_with fail
        generalize (seed * 48271 + 11) % 2147483647 = s2 at *
        obtain ⟨x, hx⟩ : ∃ x, s2 / 17 = x := ⟨_, rfl⟩
        have x0 : 0 ≤ x := by omega
        have x1 : x < 2147483647 := by omega
        rw [hx]
        clear hx
        go_quiet (fail)
        go_wp2_with fail
        go_quiet (fail)
        go_wp2_with fail
      · go_ret
        exact RetNum.mk HH.out (src_two HB.out _).1 (src_two HB.out _).2 (by omega) (by omega) g0 g1 (Int.emod_nonneg _ (by omega)) (Or.inl (Int.emod_lt_of_pos _ (by omega)))
      · go_ret
        exact RetNum.mk HH.out (src_two HB.out _).1 (src_two HB.out _).2 (by omega) (by omega) g0 g1 (Int.emod_nonneg _ (by omega)) (Or.inl (Int.emod_lt_of_pos _ (by omega)))
      · go_quiet (fail)
        go_wp2_with fail
        go_ret
        exact RetNum.mk HH.out (src_two HB.out _).1 (grownBy_trans (src_two HB.out _).2 (grownBy_drewN _ _ _)) (by omega) (by omega) g0 g1 (Int.emod_nonneg _ (by omega)) (Or.inl (Int.emod_lt_of_pos _ (by omega)))
    · go_enter Tryd.func51, Tryd.ntmps51
      go_wp2_with fail
      generalize (seed * 48271 + 11) % 2147483647 = s2 at *
      obtain ⟨x, hx⟩ : ∃ x, s2 / 17 = x := ⟨_, rfl⟩
      have x0 : 0 ≤ x := by omega
      have x1 : x < 2147483647 := by omega
      rw [hx]
      clear hx
      go_quiet (fail)
      go_wp2_with fail
      go_ret
      exact RetNum.mk HH.out (src_one HB.out _).1 (src_one HB.out _).2 (by omega) (by omega) g0 g1 (Int.emod_nonneg _ (by omega)) (Or.inl (Int.emod_lt_of_pos _ (by omega)))

end Go.Proofs.YtfhnmmdopncohaaDoor
namespace Go.Proofs.YtfhnmmdopncohaaDoor
open Go.RowKit

theorem boxF0 (w : World) (A : Array Value) (t : TypeId) (i : Nat) : (w.alloc (.cells A t (0, 0))).cell? ⟨w.heap.size, i, none⟩ = A[i]? := by simp
theorem boxF1 (w : World) (A : Array Value) (t : TypeId) (i : Nat) : (w.alloc (.cells A t (0, 0))).frozen? ⟨w.heap.size, i, none⟩ = false := by simp
/-- two new blocks' cells, behind a call -/
theorem box2s {w w1 : World} {A B : Array Value} {t u : TypeId} (hb : Below ((w.alloc (.cells A t (0, 0))).alloc (.cells B u (0, 0))).heap.size ((w.alloc (.cells A t (0, 0))).alloc (.cells B u (0, 0))) w1) :
    (∀ i, w1.cell? ⟨w.heap.size, i, none⟩ = A[i]?) ∧ (∀ i, w1.cell? ⟨w.heap.size + 1, i, none⟩ = B[i]?) ∧ (∀ i, w1.frozen? ⟨w.heap.size + 1, i, none⟩ = false) := by
  refine ⟨fun i => ?_, fun i => ?_, fun i => ?_⟩
  · rw [hb.cell (p := ⟨w.heap.size, i, none⟩) (by simp only [World.size_alloc]; omega)]; simp
  · rw [hb.cell (p := ⟨w.heap.size + 1, i, none⟩) (by simp only [World.size_alloc]; omega)]; simp
  · rw [hb.frozen (p := ⟨w.heap.size + 1, i, none⟩) (by simp only [World.size_alloc]; omega)]; simp
/-- three new blocks' cells, behind a call -/
theorem box3s {w w1 : World} {A B C : Array Value} {t u v : TypeId} (hb : Below (((w.alloc (.cells A t (0, 0))).alloc (.cells B u (0, 0))).alloc (.cells C v (0, 0))).heap.size (((w.alloc (.cells A t (0, 0))).alloc (.cells B u (0, 0))).alloc (.cells C v (0, 0))) w1) :
    (∀ i, w1.cell? ⟨w.heap.size, i, none⟩ = A[i]?) ∧ (∀ i, w1.cell? ⟨w.heap.size + 1, i, none⟩ = B[i]?) ∧ (∀ i, w1.cell? ⟨w.heap.size + 1 + 1, i, none⟩ = C[i]?) ∧ (∀ i, w1.frozen? ⟨w.heap.size + 1 + 1, i, none⟩ = false) ∧ w.heap.size + 1 + 1 < w1.heap.size := by
  refine ⟨fun i => ?_, fun i => ?_, fun i => ?_, fun i => ?_, ?_⟩
  · rw [hb.cell (p := ⟨w.heap.size, i, none⟩) (by simp only [World.size_alloc]; omega), (ba2 (w.alloc (.cells A t (0, 0))) _ _).cell (p := ⟨w.heap.size, i, none⟩) (by simp)]; simp
  · have h := (ba1 ((w.alloc (.cells A t (0, 0))).alloc (.cells B u (0, 0))) (.cells C v (0, 0))).cell (p := ⟨w.heap.size + 1, i, none⟩) (by simp)
    rw [hb.cell (p := ⟨w.heap.size + 1, i, none⟩) (by simp only [World.size_alloc]; omega), h]
    simp
  · rw [hb.cell (p := ⟨w.heap.size + 1 + 1, i, none⟩) (by simp only [World.size_alloc]; omega)]
    have := boxF0 ((w.alloc (.cells A t (0, 0))).alloc (.cells B u (0, 0))) C v i
    simpa using this
  · rw [hb.frozen (p := ⟨w.heap.size + 1 + 1, i, none⟩) (by simp only [World.size_alloc]; omega)]
    have := boxF1 ((w.alloc (.cells A t (0, 0))).alloc (.cells B u (0, 0))) C v i
    simpa using this
  · have := hb.size; simp at this; omega
/-- a block's marks, behind a call -/
theorem freeK {w w1 : World} {b : Nat} (hb : Below w.heap.size w w1) (h : ∀ i, w.frozen? ⟨b, i, none⟩ = false) (h0 : b < w.heap.size) : ∀ i, w1.frozen? ⟨b, i, none⟩ = false := fun i => by
  rw [hb.frozen (p := ⟨b, i, none⟩) h0]; exact h i

/-- a block's cells, where less is kept -/
theorem boxB {w w1 : World} {B b : Nat} {cs : Array Value} (hb : Below B w w1) (h : ∀ i, w.cell? ⟨b, i, none⟩ = cs[i]?) (h0 : b < B) : ∀ i, w1.cell? ⟨b, i, none⟩ = cs[i]? := fun i => by
  rw [hb.cell (p := ⟨b, i, none⟩) h0]; exact h i
theorem freeB {w w1 : World} {B b : Nat} (hb : Below B w w1) (h : ∀ i, w.frozen? ⟨b, i, none⟩ = false) (h0 : b < B) : ∀ i, w1.frozen? ⟨b, i, none⟩ = false := fun i => by
  rw [hb.frozen (p := ⟨b, i, none⟩) h0]; exact h i

end Go.Proofs.YtfhnmmdopncohaaDoor
namespace Go.Proofs.YtfhnmmdopncohaaDoor
open Go.RowKit

/-! A REGION THAT DRAWS ITS ORDER, each operation by what it leaves: whatever the order, what each operation has left stands at the end, if nothing that comes in between does away with it. -/

/-- how many are not listed -/
def unl : List Bool → Nat
  | [] => 0
  | b :: r => (if b then 0 else 1) + unl r
theorem unl_set : ∀ (l : List Bool) (i : Nat), l[i]? = some false → unl (l.set i true) + 1 = unl l
  | [], i, h => by simp at h
  | b :: r, 0, h => by simp at h; subst h; simp [unl]; omega
  | b :: r, i + 1, h => by
    have := unl_set r i (by simpa using h)
    simp only [List.set_cons_succ, unl]
    omega
theorem unl_zero : ∀ (l : List Bool), unl l = 0 → ∀ i, l.getD i true = true
  | [], _, i => by simp
  | b :: r, h, i => by
    simp only [unl] at h
    cases b with
    | false => simp at h
    | true =>
      cases i with
      | zero => simp
      | succ i => simpa using unl_zero r (by simpa using h) i
theorem unl_replicate (n : Nat) : unl (List.replicate n false) = n := by
  induction n with
  | zero => rfl
  | succ n ih => simp [List.replicate_succ, unl, ih]; omega

/-- the frame with the values us in the slots ds -/
def over (a : Act) (ds : List Nat) (us : Nat → Value) : Act := { a with tmps := a.tmps.mapIdx fun t v => if ds.contains t then us t else v }
/-- one value more -/
def upd (us : Nat → Value) (d : Option Nat) (v : Value) : Nat → Value :=
  match d with
  | some d => fun t => if t = d then v else us t
  | none => us
theorem upd_ne {us : Nat → Value} {d : Option Nat} {v : Value} {t : Nat} (h : d ≠ some t) : upd us d v t = us t := by
  cases d with
  | none => rfl
  | some d => simp only [upd]; rw [if_neg (fun e => h (by rw [e]))]

theorem over_put {a : Act} {ds : List Nat} {us : Nat → Value} {d : Option Nat} {v : Value} (h : ∀ t, d = some t → ds.contains t = true) : (over a ds us).put d v = over a ds (upd us d v) := by
  cases d with
  | none => rfl
  | some t =>
    have ht := h t rfl
    simp only [Act.put, over]
    congr 1
    apply Array.ext_getElem?
    intro i
    rw [Array.getElem?_setIfInBounds]
    simp only [Array.getElem?_mapIdx, Array.size_mapIdx]
    by_cases e : t = i
    · subst e
      simp only [if_true]
      by_cases hb : t < a.tmps.size
      · simp only [hb, if_true, Array.getElem?_eq_getElem hb, Option.map_some, ht, upd]
      · simp only [hb, if_false, Array.getElem?_eq_none (Nat.le_of_not_lt hb), Option.map_none]
    · simp only [e, if_false, upd, show ¬ i = t from fun h => e h.symm]

/-- what the tape may not do: the operations' edges, looked at once -/
def rgOk (ops : Array Oper) (m : Nat) (ds : List Nat) (sup : Nat → List Nat) : Bool :=
  (List.range ops.size).all fun j => match ops[j]? with
    | none => true
    | some o =>
      -- the slots written by the head lie in ds; what is said of an operation speaks of its own slot and of those that it waits for
      (decide (m ≤ j) || ((match o.dst with | some d => ds.contains d | none => true) &&
        (sup j).all fun t => (List.range ops.size).all fun i => match ops[i]? with
          | none => true
          | some oi => oi.dst != some t || i == j || o.after.any fun e => Region.binds .any e && e.on == i)) &&
      -- each of the tail waits for all before it, and none waits for a later one
      (decide (j < m) || (List.range j).all (fun i => o.after.any fun e => Region.binds .any e && e.on == i)) && o.after.all fun e => !Region.binds .any e || decide (e.on < j)

variable {P : Program} {ops : Array Oper} {Q : Exit → Act → World → Prop}

theorem getD_toList (l : Array Bool) (i : Nat) (d : Bool) : l.getD i d = l.toList.getD i d := by simp [Array.getD_eq_getD_getElem?, List.getD_eq_getElem?_getD]

/-- the tail, in its one order -/
theorem wpAny_tail {m : Nat} {ds : List Nat} {sup : Nat → List Nat} (hB : rgOk ops m ds sup = true) : ∀ (r k : Nat) (listed : Array Bool) (a : Act) (w : World), m ≤ k → k + r = ops.size →
    (∀ j, j < ops.size → listed.getD j true = decide (j < k)) → listed.size = ops.size → ∀ fuel, r ≤ fuel → wpOps P ops Q (List.range' k r) a w → wpAny P .any ops Q fuel listed a w
  | 0, k, listed, a, w, hm, hk, hl, hs, fuel, hf, h => by
    have hr : Region.ready .any ops listed = [] := by
      rw [List.eq_nil_iff_forall_not_mem]
      intro j hj
      obtain ⟨h1, o, ho, _⟩ := mem_ready.1 hj
      have hlt : j < ops.size := (Array.getElem?_eq_some_iff.1 ho).1
      rw [hl j hlt] at h1
      simp at h1; omega
    have hq : Q .normal a w := h
    cases fuel with
    | zero => exact ⟨hr, hq⟩
    | succ f => exact ⟨fun _ => hq, fun i hi => by rw [hr] at hi; cases hi⟩
  | r + 1, k, listed, a, w, hm, hk, hl, hs, fuel, hf, h => by
    have hkn : k < ops.size := by omega
    have hready : ∀ j ∈ Region.ready .any ops listed, j = k := by
      intro j hj
      obtain ⟨h1, o, ho, hdep⟩ := mem_ready.1 hj
      have hlt : j < ops.size := (Array.getElem?_eq_some_iff.1 ho).1
      rw [hl j hlt] at h1
      have hjk : k ≤ j := by simpa using h1
      rcases Nat.lt_or_ge k j with hlt' | hge
      · exfalso
        have hb := List.all_eq_true.1 hB j (List.mem_range.2 hlt)
        simp only [ho, Bool.and_eq_true, Bool.or_eq_true, decide_eq_true_eq] at hb
        rcases hb.1.2 with hb2 | hb2
        · omega
        · have := List.all_eq_true.1 hb2 k (List.mem_range.2 hlt')
          obtain ⟨e, he, hee⟩ := Array.any_eq_true'.1 this
          simp only [Bool.and_eq_true, beq_iff_eq] at hee
          have hd := hdep e he hee.1
          rw [hee.2] at hd
          have := hl k hkn
          rw [getD_toList] at this hd
          rw [List.getD_eq_getElem?_getD] at this hd
          cases hx : listed.toList[k]? with
          | none => rw [hx] at hd; simp at hd
          | some b => rw [hx] at this hd; simp at this hd; rw [this] at hd; cases hd
      · omega
    cases fuel with
    | zero => omega
    | succ f =>
      refine ⟨fun h0 => ?_, fun i hi => ?_⟩
      · exfalso
        obtain ⟨o, ho⟩ : ∃ o, ops[k]? = some o := ⟨ops[k], Array.getElem?_eq_getElem hkn⟩
        have : k ∈ Region.ready .any ops listed := by
          refine mem_ready.2 ⟨?_, o, ho, ?_⟩
          · rw [hl k hkn]; simp
          · intro e he hbind
            have hb := List.all_eq_true.1 hB k (List.mem_range.2 hkn)
            simp only [ho, Bool.and_eq_true, Bool.or_eq_true, decide_eq_true_eq] at hb
            · have h2 := Array.all_eq_true'.1 hb.2 e he
              simp only [hbind, Bool.not_true, Bool.or_eq_true, Bool.false_eq_true, false_or, decide_eq_true_eq] at h2
              have := hl e.on (by omega)
              rw [getD_toList, List.getD_eq_getElem?_getD] at this ⊢
              cases hx : listed.toList[e.on]? with
              | none =>
                have := List.getElem?_eq_none_iff.1 hx
                simp [hs] at this; omega
              | some b => rw [hx] at this; simp at this; simp [this]; exact h2
        rw [h0] at this; cases this
      · obtain rfl := hready i hi
        rw [List.range'_succ, wpOps_cons] at h
        refine wpOp_mono (fun a' w' h' => ?_) h
        refine wpAny_tail hB r (i + 1) _ a' w' (by omega) (by omega) ?_ (by simpa using hs) f (by omega) h'
        intro j hj
        by_cases e : i = j
        · subst e
          rw [getD_toList, Array.toList_setIfInBounds, List.getD_eq_getElem?_getD, List.getElem?_set]
          simp [hs, hj]
        · rw [getD_toList, Array.toList_setIfInBounds, List.getD_eq_getElem?_getD, List.getElem?_set, if_neg e, ← List.getD_eq_getElem?_getD, ← getD_toList, hl j hj]
          simp; omega


/-- what stands while the head is under way -/
structure Under (ops : Array Oper) (m : Nat) (a0 : Act) (ds : List Nat) (G : Nat → (Nat → Value) → World → Prop) (St : World → Prop) (listed : Array Bool) (a : Act) (w : World) : Prop where
  size : listed.size = ops.size
  tail : ∀ j, m ≤ j → j < ops.size → listed.getD j true = false
  closed : ∀ j o, ops[j]? = some o → listed.getD j false = true → ∀ e ∈ o.after, Region.binds .any e = true → listed.getD e.on false = true
  st : St w
  left : ∃ us, a = over a0 ds us ∧ ∀ j, j < m → listed.getD j false = true → G j us w

theorem getD_set_true {listed : Array Bool} {i j : Nat} (h : listed.getD j false = true) : (listed.setIfInBounds i true).getD j false = true := by
  rw [getD_toList, Array.toList_setIfInBounds, List.getD_eq_getElem?_getD, List.getElem?_set]
  rw [getD_toList, List.getD_eq_getElem?_getD] at h
  by_cases e : i = j
  · subst e
    cases hx : listed.toList[i]? with
    | none => rw [hx] at h; simp at h
    | some b =>
      have h3 := (List.getElem?_eq_some_iff.1 hx).1
      rw [if_pos rfl, if_pos h3]; rfl
  · rw [if_neg e]; exact h
theorem getD_set_other {listed : Array Bool} {i j : Nat} {d : Bool} (e : i ≠ j) : (listed.setIfInBounds i true).getD j d = listed.getD j d := by
  rw [getD_toList, Array.toList_setIfInBounds, List.getD_eq_getElem?_getD, List.getElem?_set, if_neg e, ← List.getD_eq_getElem?_getD, ← getD_toList]

/-- what one operation of the head owes: IN EVERY FRAME AND WORLD in which what it waits for stands, it leaves what is said of it, and does away with nothing -/
def Owes (P : Program) (ops : Array Oper) (Q : Exit → Act → World → Prop) (a0 : Act) (ds : List Nat) (G : Nat → (Nat → Value) → World → Prop) (St : World → Prop) (Keep : World → World → Prop) (i : Nat) (o : Oper) : Prop :=
  ∀ (us : Nat → Value) (w : World), St w → (∀ e ∈ o.after, Region.binds .any e = true → G e.on us w) →
    if Region.wanted o (yielded ops (over a0 ds us).tmps) then o.wp P (over a0 ds us) w (fun a' w' => ∃ v, a' = (over a0 ds us).put o.dst v ∧ St w' ∧ Keep w w' ∧ G i (upd us o.dst v) w') Q
    else G i (upd us o.dst undef) w

theorem wpAny_head {m : Nat} {a0 : Act} {ds : List Nat} {sup : Nat → List Nat} {G : Nat → (Nat → Value) → World → Prop} {St : World → Prop} {Keep : World → World → Prop} (hB : rgOk ops m ds sup = true) (hm : m ≤ ops.size)
    (hkeep : ∀ j us w w', j < m → Keep w w' → G j us w → G j us w') (hrefl : ∀ w, Keep w w) (hsup : ∀ j us us' w, j < m → (∀ t ∈ sup j, us t = us' t) → G j us w → G j us' w)
    (howe : ∀ i o, i < m → ops[i]? = some o → Owes P ops Q a0 ds G St Keep i o)
    (hend : ∀ us w, St w → (∀ j, j < m → G j us w) → wpOps P ops Q (List.range' m (ops.size - m)) (over a0 ds us) w) :
    ∀ (fuel : Nat) (listed : Array Bool) (a : Act) (w : World), unl listed.toList ≤ fuel → Under ops m a0 ds G St listed a w → wpAny P .any ops Q fuel listed a w := by
  have hdepOk : ∀ j o, j < m → ops[j]? = some o → (∀ d, o.dst = some d → ds.contains d = true) ∧ ∀ t ∈ sup j, ∀ i oi, ops[i]? = some oi → oi.dst = some t → i = j ∨ ∃ e ∈ o.after, Region.binds .any e = true ∧ e.on = i := by
    intro j o hj ho
    have hlt : j < ops.size := (Array.getElem?_eq_some_iff.1 ho).1
    have hb := List.all_eq_true.1 hB j (List.mem_range.2 hlt)
    simp only [ho, Bool.and_eq_true, Bool.or_eq_true, decide_eq_true_eq] at hb
    rcases hb.1.1 with h | h
    · omega
    · refine ⟨?_, ?_⟩
      · intro d hd
        have := h.1
        rw [hd] at this
        exact this
      · intro t ht i oi hi hd
        have h2 := List.all_eq_true.1 (List.all_eq_true.1 h.2 t ht) i (List.mem_range.2 (Array.getElem?_eq_some_iff.1 hi).1)
        simp only [hi, Bool.or_eq_true, bne_iff_ne, beq_iff_eq, hd] at h2
        rcases h2 with (h2 | h2) | h2
        · exact absurd rfl h2
        · exact Or.inl h2
        · obtain ⟨e, he, hee⟩ := Array.any_eq_true'.1 h2
          simp only [Bool.and_eq_true, beq_iff_eq] at hee
          exact Or.inr ⟨e, he, hee.1, hee.2⟩
  have step : ∀ (fuel : Nat) (listed : Array Bool) (a : Act) (w : World), unl listed.toList ≤ fuel → Under ops m a0 ds G St listed a w →
      (∀ j, j < m → listed.getD j true = true) → wpAny P .any ops Q fuel listed a w := by
    intro fuel listed a w hf U hall
    obtain ⟨us, rfl, hG⟩ := U.left
    have hx : ∀ j, j < m → listed.getD j false = true := by
      intro j hj
      have := hall j hj
      rw [getD_toList, List.getD_eq_getElem?_getD] at this ⊢
      cases hy : listed.toList[j]? with
      | none =>
        have h1 := List.getElem?_eq_none_iff.1 hy
        have := U.size
        simp at h1; omega
      | some b => rw [hy] at this; simpa using this
    have hr : ops.size - m ≤ fuel := by
      refine Nat.le_trans ?_ hf
      have : ∀ (n : Nat) (l : List Bool), (∀ j, n ≤ j → j < l.length → l.getD j true = false) → l.length - n ≤ unl l := by
        intro n l
        induction l generalizing n with
        | nil => intro _; simp
        | cons b r ih =>
          intro hb
          cases n with
          | zero =>
            have h0 := hb 0 (Nat.le_refl _) (by simp)
            have h1 := ih 0 (fun j _ hj => by have := hb (j + 1) (by omega) (by simpa using hj); simpa using this)
            simp at h0
            subst h0
            simp [unl] at h1 ⊢; omega
          | succ n =>
            have h1 := ih n (fun j hj hj' => by have := hb (j + 1) (by omega) (by simpa using hj'); simpa using this)
            simp only [unl, List.length_cons]; omega
      have h2 := this m listed.toList (fun j hj hj' => by rw [← getD_toList]; exact U.tail j hj (by have := U.size; simp at hj'; omega))
      have := U.size
      simp at h2; omega
    refine wpAny_tail hB (ops.size - m) m listed _ w (Nat.le_refl _) (by omega) ?_ U.size fuel hr (hend us w U.st (fun j hj => hG j hj (hx j hj)))
    intro j hj
    rcases Nat.lt_or_ge j m with h | h
    · rw [hall j h]; simp [h]
    · rw [U.tail j h hj]; simp; omega
  intro fuel
  induction fuel with
  | zero =>
    intro listed a w hf U
    exact step 0 listed a w hf U (fun j _ => by rw [getD_toList]; exact unl_zero _ (by omega) j)
  | succ fuel ih =>
    intro listed a w hf U
    by_cases hall : ∀ j, j < m → listed.getD j true = true
    · exact step _ listed a w hf U hall
    · obtain ⟨us, rfl, hG⟩ := U.left
      have hnot : ∃ j, j < m ∧ listed.getD j true = false := by
        apply Classical.byContradiction
        intro hn
        apply hall
        intro j hj
        cases hx : listed.getD j true with
        | true => rfl
        | false => exact absurd ⟨j, hj, hx⟩ hn
      refine ⟨fun h0 => ?_, fun i hi => ?_⟩
      · -- the least that is not listed may come up
        have least : ∀ n j, j ≤ n → j < m → listed.getD j true = false → False := by
          intro n
          induction n with
          | zero =>
            intro j hj hjm hjl
            obtain rfl : j = 0 := by omega
            obtain ⟨oj, hoj⟩ : ∃ oj, ops[0]? = some oj := ⟨ops[0], Array.getElem?_eq_getElem (by omega)⟩
            have : 0 ∈ Region.ready .any ops listed := mem_ready.2 ⟨hjl, oj, hoj, fun e he hbind => by
              have hb := List.all_eq_true.1 hB 0 (List.mem_range.2 (by omega))
              simp only [hoj, Bool.and_eq_true] at hb
              have h2 := Array.all_eq_true'.1 hb.2 e he
              simp only [hbind, Bool.not_true, Bool.or_eq_true, Bool.false_eq_true, false_or, decide_eq_true_eq] at h2
              omega⟩
            rw [h0] at this; cases this
          | succ n ihn =>
            intro j hj hjm hjl
            obtain ⟨oj, hoj⟩ : ∃ oj, ops[j]? = some oj := ⟨ops[j], Array.getElem?_eq_getElem (by omega)⟩
            have : j ∈ Region.ready .any ops listed := mem_ready.2 ⟨hjl, oj, hoj, fun e he hbind => by
              have hb := List.all_eq_true.1 hB j (List.mem_range.2 (by omega))
              simp only [hoj, Bool.and_eq_true] at hb
              have h2 := Array.all_eq_true'.1 hb.2 e he
              simp only [hbind, Bool.not_true, Bool.or_eq_true, Bool.false_eq_true, false_or, decide_eq_true_eq] at h2
              cases hx : listed.getD e.on true with
              | false => exact (ihn e.on (by omega) (by omega) hx).elim
              | true =>
                rw [getD_toList, List.getD_eq_getElem?_getD] at hx ⊢
                cases hy : listed.toList[e.on]? with
                | none =>
                  have h4 := List.getElem?_eq_none_iff.1 hy
                  have := U.size
                  simp at h4; omega
                | some b => rw [hy] at hx; simpa using hx⟩
            rw [h0] at this; cases this
        obtain ⟨j, hj, hjl⟩ := hnot
        exact (least j j (Nat.le_refl _) hj hjl).elim
      · obtain ⟨h1, o, ho, hdep⟩ := mem_ready.1 hi
        have hlt : i < ops.size := (Array.getElem?_eq_some_iff.1 ho).1
        have him : i < m := by
          rcases Nat.lt_or_ge i m with h | h
          · exact h
          · exfalso
            obtain ⟨j, hj, hjl⟩ := hnot
            have hb := List.all_eq_true.1 hB i (List.mem_range.2 hlt)
            simp only [ho, Bool.and_eq_true, Bool.or_eq_true, decide_eq_true_eq] at hb
            rcases hb.1.2 with hb2 | hb2
            · omega
            · have := List.all_eq_true.1 hb2 j (List.mem_range.2 (by omega))
              obtain ⟨e, he, hee⟩ := Array.any_eq_true'.1 this
              simp only [Bool.and_eq_true, beq_iff_eq] at hee
              have hd := hdep e he hee.1
              rw [hee.2] at hd
              rw [getD_toList, List.getD_eq_getElem?_getD] at hd hjl
              cases hx : listed.toList[j]? with
              | none => rw [hx] at hd; simp at hd
              | some b => rw [hx] at hd hjl; simp at hd hjl; rw [hd] at hjl; cases hjl
        obtain ⟨hds, hdp⟩ := hdepOk i o him ho
        have hil : listed.toList[i]? = some false := by
          rw [getD_toList, List.getD_eq_getElem?_getD] at h1
          cases hx : listed.toList[i]? with
          | none => rw [hx] at h1; simp at h1
          | some b => rw [hx] at h1; simp at h1; rw [h1]
        have hdm : ∀ e ∈ o.after, Region.binds .any e = true → e.on < m := by
          intro e he hbind
          have hd := hdep e he hbind
          rcases Nat.lt_or_ge e.on m with h | h
          · exact h
          · exfalso
            rcases Nat.lt_or_ge e.on ops.size with h2 | h2
            · have := U.tail e.on h h2
              rw [getD_toList, List.getD_eq_getElem?_getD] at this hd
              cases hx : listed.toList[e.on]? with
              | none => rw [hx] at hd; simp at hd
              | some b => rw [hx] at hd this; simp at hd this; rw [hd] at this; cases this
            · rw [getD_toList, List.getD_eq_getElem?_getD, List.getElem?_eq_none (by have := U.size; simp; omega)] at hd
              simp at hd
        have next : ∀ v w', St w' → Keep w w' → G i (upd us o.dst v) w' → wpAny P .any ops Q fuel (listed.setIfInBounds i true) ((over a0 ds us).put o.dst v) w' := by
          intro v w' hst hk hg
          refine ih _ _ _ ?_ ⟨by simpa using U.size, ?_, ?_, hst, upd us o.dst v, over_put hds, ?_⟩
          · have := unl_set listed.toList i hil
            rw [Array.toList_setIfInBounds]; omega
          · intro j hj hj'
            rw [getD_set_other (by omega)]; exact U.tail j hj hj'
          · intro j oj hoj hlj e he hbind
            by_cases ej : i = j
            · subst ej
              rw [ho] at hoj
              cases hoj
              exact getD_set_true (hdep e he hbind)
            · rw [getD_set_other ej] at hlj
              exact getD_set_true (U.closed j oj hoj hlj e he hbind)
          · intro j hj hlj
            by_cases ej : i = j
            · subst ej; exact hg
            · rw [getD_set_other ej] at hlj
              refine hsup j us _ w' hj (fun t ht => ?_) (hkeep j us w w' hj hk (hG j hj hlj))
              symm
              refine upd_ne (fun hd => ?_)
              have hjs : j < ops.size := by omega
              obtain ⟨oj, hoj⟩ : ∃ oj, ops[j]? = some oj := ⟨ops[j], Array.getElem?_eq_getElem hjs⟩
              rcases (hdepOk j oj hj hoj).2 t ht i o ho hd with h | ⟨e, he, hbind, heq⟩
              · exact ej h
              · have := U.closed j oj hoj hlj e he hbind
                rw [heq, getD_toList, List.getD_eq_getElem?_getD, hil] at this
                simp at this
        have howes := howe i o him ho us w U.st (fun e he hbind => hG e.on (hdm e he hbind) (hdep e he hbind))
        unfold wpOp
        rw [ho]
        simp only
        by_cases hw : Region.wanted o (yielded ops (over a0 ds us).tmps) = true
        · rw [if_pos hw] at howes ⊢
          refine Or.inl (Oper.wp_mono (fun a' w' h => ?_) howes)
          obtain ⟨v, rfl, hst, hk, hg⟩ := h
          exact next v w' hst hk hg
        · rw [if_neg hw] at howes ⊢
          exact next undef w U.st (hrefl w) howes

end Go.Proofs.YtfhnmmdopncohaaDoor
namespace Go.Proofs.YtfhnmmdopncohaaDoor
open Go.RowKit

/-- what one operation yields, and the world that it leaves -/
def leavesUpon (P : Program) (R : Value → World → Prop) : Result Next → Prop
  | .ok (.value v) w' => R v w'
  | .ok .skip w' => R undef w'
  | .ok (.enter f args) w' => Calls P f args w' (fun e w'' => ∃ v, e = .returned v ∧ R v w'')
  | _ => False
def leaves (P : Program) (o : Oper) (a : Act) (w : World) (R : Value → World → Prop) : Prop := leavesUpon P R ((execOp a.eval o).run P w)
attribute [go_sem] leavesUpon leaves

theorem wp_of_leaves {P : Program} {o : Oper} {a : Act} {w : World} {R : Value → World → Prop} {K : Act → World → Prop} {Q : Exit → Act → World → Prop} (h : ∀ v w', R v w' → K (a.put o.dst v) w') (hh : leaves P o a w R) : o.wp P a w K Q := by
  unfold leaves at hh
  unfold Oper.wp
  generalize (execOp a.eval o).run P w = r at *
  cases r with
  | ok n w' =>
    cases n <;> simp only [leavesUpon] at hh <;> simp only [Oper.upon]
    case value v => exact h _ _ hh
    case skip => exact h _ _ hh
    case enter f args => exact hh.mono fun e w'' ⟨v, he, hr⟩ => by subst he; exact h _ _ hr
  | halt x w' => simp only [leavesUpon] at hh

/-- behind an operation: it has kept what it had to, and what is said of it holds -/
def RgR (G : Nat → (Nat → Value) → World → Prop) (St : World → Prop) (Keep : World → World → Prop) (us : Nat → Value) (w : World) (i : Nat) (d : Option Nat) (v : Value) (w' : World) : Prop :=
  St w' ∧ Keep w w' ∧ G i (upd us d v) w'
/-- the head's operations, one by one -/
def rgAll (P : Program) (ops : Array Oper) (A : (Nat → Value) → Act) (G : Nat → (Nat → Value) → World → Prop) (St : World → Prop) (Keep : World → World → Prop) : Nat → List Oper → Prop
  | _, [] => True
  | i, o :: r => (∀ (us : Nat → Value) (w : World), St w → (∀ e ∈ o.after, Region.binds .any e = true → G e.on us w) →
      if Region.wanted o (yielded ops (A us).tmps) then leaves P o (A us) w (RgR G St Keep us w i o.dst) else G i (upd us o.dst undef) w) ∧ rgAll P ops A G St Keep (i + 1) r

theorem rgAll_at {P : Program} {ops : Array Oper} {A : (Nat → Value) → Act} {G : Nat → (Nat → Value) → World → Prop} {St : World → Prop} {Keep : World → World → Prop} : ∀ (l : List Oper) (k : Nat), rgAll P ops A G St Keep k l → ∀ i o, l[i]? = some o →
    ∀ (us : Nat → Value) (w : World), St w → (∀ e ∈ o.after, Region.binds .any e = true → G e.on us w) →
      if Region.wanted o (yielded ops (A us).tmps) then leaves P o (A us) w (RgR G St Keep us w (k + i) o.dst) else G (k + i) (upd us o.dst undef) w
  | [], _, _, i, o, h => by simp at h
  | o' :: r, k, hall, 0, o, h => by simp at h; subst h; exact hall.1
  | o' :: r, k, hall, i + 1, o, h => by
    have := rgAll_at r (k + 1) hall.2 i o (by simpa using h)
    rw [show k + 1 + i = k + (i + 1) by omega] at this
    exact this

/-- **A REGION THAT DRAWS ITS ORDER, EACH OPERATION OF ITS HEAD BY WHAT IT LEAVES; the tail in its one order.** -/
theorem wp_region_rg {P : Program} {id : Nat} {l : List Oper} {Q : Exit → Act → World → Prop} {a0 : Act} {w0 : World} (m : Nat) (ds : List Nat) (sup : Nat → List Nat) (A : (Nat → Value) → Act) (G : Nat → (Nat → Value) → World → Prop) (St : World → Prop) (Keep : World → World → Prop)
    (hmix : P.follows .mixedOrders = true) (hB : rgOk l.toArray m ds sup = true) (hm : m ≤ l.length) (hA : ∀ us, over a0 ds us = A us) (h0 : St w0.drew) (hrefl : ∀ w, Keep w w)
    (hkeep : ∀ j us w w', j < m → Keep w w' → G j us w → G j us w') (hsup : ∀ j us us' w, j < m → (∀ t ∈ sup j, us t = us' t) → G j us w → G j us' w)
    (hall : rgAll P l.toArray A G St Keep 0 (l.take m))
    (hend : ∀ us w, St w → (∀ j, j < m → G j us w) → wpList P l.toArray Q (l.drop m) (A us) w) : (Code.region id l.toArray true).wp P Q a0 w0 := by
  refine wp_region_any hmix ?_
  refine wpAny_head (a0 := a0) (ds := ds) (G := G) (St := St) (Keep := Keep) hB (by simpa using hm) hkeep hrefl hsup ?_ ?_ _ _ _ _ (by rw [Array.toList_replicate, unl_replicate]; exact Nat.le_refl _) ?_
  · intro i o hi ho us w hst hd
    have ho' : (l.take m)[i]? = some o := by rw [List.getElem?_take, if_pos hi]; simpa using ho
    have := rgAll_at _ 0 hall i o ho' us w hst hd
    rw [Nat.zero_add] at this
    rw [hA]
    by_cases hw : Region.wanted o (yielded l.toArray (A us).tmps) = true
    · rw [if_pos hw] at this ⊢
      exact wp_of_leaves (fun v w' h => ⟨v, rfl, h.1, h.2.1, h.2.2⟩) this
    · rw [if_neg hw] at this ⊢
      exact this
  · intro us w hst hg
    have := hend us w hst hg
    rw [hA]
    have e := wpOps_eq_wpList (P := P) (ops := l.toArray) (Q := Q) (l.drop m) m (fun j => by simp [List.getElem?_drop])
    rw [List.length_drop] at e
    have e2 : l.toArray.size - m = l.length - m := by simp
    rw [e2, e]
    exact this
  · refine ⟨by simp, ?_, ?_, h0, fun t => a0.tmps.getD t undef, ?_, ?_⟩
    · intro j _ hj
      rw [getD_toList, Array.toList_replicate, List.getD_eq_getElem?_getD, List.getElem?_replicate]
      simp at hj
      simp [hj]
    · intro j o _ hj
      rw [getD_toList, Array.toList_replicate, List.getD_eq_getElem?_getD, List.getElem?_replicate] at hj
      split at hj <;> simp at hj
    · unfold over
      cases a0 with
      | mk tmps defers =>
        congr 1
        apply Array.ext_getElem?
        intro i
        rw [Array.getElem?_mapIdx]
        cases hx : tmps[i]? with
        | none => rfl
        | some v =>
          simp only [Option.map_some, Array.getD_eq_getD_getElem?, hx, Option.getD_some]
          split <;> rfl
    · intro j _ hj
      rw [getD_toList, Array.toList_replicate, List.getD_eq_getElem?_getD, List.getElem?_replicate] at hj
      split at hj <;> simp at hj

end Go.Proofs.YtfhnmmdopncohaaDoor
namespace Go.Proofs.YtfhnmmdopncohaaDoor
open Go.RowKit

/-- what is said of an operation's value: it stays true while the world is kept -/
structure Sp (Keep : World → World → Prop) where
  holds : Value → World → Prop
  kept : ∀ v w w', Keep w w' → holds v w → holds v w'

/-- what is said of operation j -/
def depHolds {Keep : World → World → Prop} (l : List Oper) (sp : List (Sp Keep)) (us : Nat → Value) (w : World) (j : Nat) : Prop :=
  match l[j]?, sp[j]? with
  | some o, some s => match o.dst with
    | some d => s.holds (us d) w
    | none => True
  | _, _ => True
def supOf (l : List Oper) (j : Nat) : List Nat :=
  match l[j]? with
  | some o => o.dst.toList
  | none => []

theorem depHolds_kept {Keep : World → World → Prop} {l : List Oper} {sp : List (Sp Keep)} {us : Nat → Value} {w w' : World} {j : Nat} (hk : Keep w w') (h : depHolds l sp us w j) : depHolds l sp us w' j := by
  unfold depHolds at *
  split
  · rename_i o s ho hs
    simp only [ho, hs] at h
    split
    · rename_i d hd
      simp only [hd] at h
      exact s.kept _ _ _ hk h
    · trivial
  · trivial
theorem depHolds_sup {Keep : World → World → Prop} {l : List Oper} {sp : List (Sp Keep)} {us us' : Nat → Value} {w : World} {j : Nat} (he : ∀ t ∈ supOf l j, us t = us' t) (h : depHolds l sp us w j) : depHolds l sp us' w j := by
  unfold depHolds at *
  split
  · rename_i o s ho hs
    simp only [ho, hs] at h
    split
    · rename_i d hd
      simp only [hd] at h
      have := he d (by simp [supOf, ho, hd])
      rwa [← this]
    · trivial
  · trivial

/-- behind an operation -/
def RsR {Keep : World → World → Prop} (St : World → Prop) (s : Sp Keep) (w : World) (v : Value) (w' : World) : Prop := St w' ∧ Keep w w' ∧ s.holds v w'
def rsAll (P : Program) (l : List Oper) (A : (Nat → Value) → Act) {Keep : World → World → Prop} (sp : List (Sp Keep)) (St : World → Prop) : List Oper → List (Sp Keep) → Prop
  | o :: r, s :: t => (∀ (us : Nat → Value) (w : World), St w → (∀ e ∈ o.after, Region.binds .any e = true → depHolds l sp us w e.on) →
      if Region.wanted o (yielded l.toArray (A us).tmps) then leaves P o (A us) w (RsR St s w) else s.holds undef w) ∧ rsAll P l A sp St r t
  | _, _ => True

theorem rg_of_rs {P : Program} {l : List Oper} {A : (Nat → Value) → Act} {Keep : World → World → Prop} {sp : List (Sp Keep)} {St : World → Prop} : ∀ (r : List Oper) (t : List (Sp Keep)) (k : Nat), r.length = t.length → (∀ j, r[j]? = some r[j]! → l[k + j]? = r[j]?) → (∀ j, j < r.length → l[k + j]? = r[j]?) → (∀ j, j < t.length → sp[k + j]? = t[j]?) → rsAll P l A sp St r t →
    rgAll P l.toArray A (fun i us w => depHolds l sp us w i) St Keep k r
  | [], [], _, _, _, _, _, _ => trivial
  | o :: r, s :: t, k, hlen, hx, hl, hs, h => by
    refine ⟨fun us w hst hd => ?_, rg_of_rs r t (k + 1) (by simpa using hlen) (fun j _ => ?_) (fun j hj => ?_) (fun j hj => ?_) h.2⟩
    · have h1 := h.1 us w hst hd
      have e1 : l[k]? = some o := by simpa using hl 0 (by simp)
      have e2 : sp[k]? = some s := by simpa using hs 0 (by simp)
      have dep : ∀ v w', s.holds v w' → depHolds l sp (upd us o.dst v) w' k := fun v w' hv => by
        unfold depHolds
        simp only [e1, e2]
        cases hd : o.dst with
        | none => trivial
        | some d => simpa [upd] using hv
      by_cases hw : Region.wanted o (yielded l.toArray (A us).tmps) = true
      · rw [if_pos hw] at h1 ⊢
        unfold leaves at *
        generalize (execOp (A us).eval o).run P w = q at *
        cases q with
        | ok n w' =>
          cases n <;> simp only [leavesUpon] at h1 ⊢
          case value v => exact ⟨h1.1, h1.2.1, dep _ _ h1.2.2⟩
          case skip => exact ⟨h1.1, h1.2.1, dep _ _ h1.2.2⟩
          case enter f args => exact h1.mono fun e w'' ⟨v, he, hr⟩ => ⟨v, he, hr.1, hr.2.1, dep _ _ hr.2.2⟩
        | halt x w' => simp only [leavesUpon] at h1
      · rw [if_neg hw] at h1 ⊢
        exact dep _ _ h1
    · have := hl (j + 1)
      by_cases hj : j < r.length
      · have := this (by simpa using hj)
        simpa [Nat.add_assoc, Nat.add_comm 1 j] using this
      · rename_i hh
        rw [List.getElem?_eq_none (by omega)] at hh; cases hh
    · have := hl (j + 1) (by simpa using hj)
      simpa [Nat.add_assoc, Nat.add_comm 1 j] using this
    · have := hs (j + 1) (by simpa using hj)
      simpa [Nat.add_assoc, Nat.add_comm 1 j] using this

/-- **A REGION THAT DRAWS ITS ORDER: what is said of each operation of its head (the first |sp|), whatever the order; then the tail.** -/
theorem wp_region_rs {P : Program} {id : Nat} {l : List Oper} {Q : Exit → Act → World → Prop} {a0 : Act} {w0 : World} (ds : List Nat) (A : (Nat → Value) → Act) {Keep : World → World → Prop} (sp : List (Sp Keep)) (St : World → Prop)
    (hmix : P.follows .mixedOrders = true) (hB : rgOk l.toArray sp.length ds (supOf l) = true) (hm : sp.length ≤ l.length) (hA : ∀ us, over a0 ds us = A us) (h0 : St w0.drew) (hrefl : ∀ w, Keep w w)
    (hall : rsAll P l A sp St (l.take sp.length) sp)
    (hend : ∀ us w, St w → (∀ j, j < sp.length → depHolds l sp us w j) → wpList P l.toArray Q (l.drop sp.length) (A us) w) : (Code.region id l.toArray true).wp P Q a0 w0 := by
  refine wp_region_rg sp.length ds (supOf l) A (fun i us w => depHolds l sp us w i) St Keep hmix hB hm hA h0 hrefl (fun j us w w' _ hk h => depHolds_kept hk h) (fun j us us' w _ he h => depHolds_sup he h) ?_ hend
  refine rg_of_rs _ _ 0 (by rw [List.length_take]; omega) (fun j hj => ?_) (fun j hj => ?_) (fun j _ => by simp) hall
  · have : j < (l.take sp.length).length := by
      apply Classical.byContradiction
      intro h
      rw [List.getElem?_eq_none (by omega)] at hj; cases hj
    rw [List.length_take] at this
    rw [Nat.zero_add, List.getElem?_take, if_pos (by omega)]
  · rw [List.length_take] at hj
    rw [Nat.zero_add, List.getElem?_take, if_pos (by omega)]

end Go.Proofs.YtfhnmmdopncohaaDoor
namespace Go.Proofs.YtfhnmmdopncohaaDoor
open Go.RowKit

theorem leaves_append_room {P : Program} {o : Oper} {a : Act} {w : World} {R : Value → World → Prop} (s x : Operand) (t : TypeId) (ho : o.op = .call { callee := .builtin .append, args := #[s, x], argTypes := #[t, t] }) (v u : Value) (hs : a.eval s = v) (hx : a.eval x = u)
    (v' : Value) (w' : World) (hr : (Builtin.append_ #[t, t] o.type #[v, u]).run P w = .ok v' w') (hR : R v' w') : leaves P o a w R := by
  unfold leaves execOp
  simp only [ho, resolve, invoke, builtin, Sem.run_bind, Sem.run_pure, Result.andThen_ok, List.map_toArray, List.map_cons, List.map_nil, hs, hx, hr]
  exact hR

/-- the first m cells of row g are ys -/
def RowIs (W : World) (g cap m : Nat) (ys : List Int) : Prop := ∃ cur : Array Value, W.heap[g]? = some (.cells cur 2 (0, 0)) ∧ cur.size = cap ∧ cur.toList.take m = ys.map (Value.int .i64)
theorem RowIs.below {W W' : World} {g cap m B : Nat} {ys : List Int} (h : RowIs W g cap m ys) (hb : Below B W W') (hg : g < B) : RowIs W' g cap m ys := by
  obtain ⟨cur, h1, h2, h3⟩ := h
  exact ⟨cur, (hb.block g hg).trans h1, h2, h3⟩
theorem RowIs.lt {W : World} {g cap m : Nat} {ys : List Int} (h : RowIs W g cap m ys) : g < W.heap.size := by
  obtain ⟨cur, h1, _⟩ := h
  exact (Array.getElem?_eq_some_iff.1 h1).1
theorem RowIs.own {W : World} {g cap m : Nat} {ys : List Int} (h : RowIs W g cap m ys) (hl : ys.length = m) (hm : m ≤ cap) (hc : cap ≤ maxLen) : OwnI W g (.slice (some ⟨g, 0, none⟩) ys.length cap) ys := by
  obtain ⟨cur, h1, h2, h3⟩ := h
  exact ⟨by simp, Or.inr ⟨g, cap, cur, rfl, Nat.le_refl _, h1, by omega, hc, by omega, by rw [Nat.mul_one, hl]; exact h3⟩⟩
/-- one pixel more -/
theorem RowIs.more {W : World} {g cap m : Nat} {ys : List Int} {z : Int} {b : Nat} (h : RowIs W g cap m ys) (hm : m < cap) (hz : W.cell? ⟨b, 0, none⟩ = some (.int .i64 z)) (ty : TypeId) :
    ∃ W', (Builtin.append_ #[44, 44] ty #[.slice (some ⟨g, 0, none⟩) m cap, .slice (some ⟨b, 0, none⟩) 1 1]).run Tryd.prog W = .ok (.slice (some ⟨g, 0, none⟩) (m + 1) cap) W' ∧ RowIs W' g cap m ys ∧ RowIs W' g cap (m + 1) (ys ++ [z]) ∧ W.grownBy W' (some g) := by
  obtain ⟨cur, h1, h2, h3⟩ := h
  obtain ⟨i0, hi, y0, y1, y2⟩ := info_parts infoI
  have hr := run_append_room (P := Tryd.prog) W 44 ty 2 i0 Tryd.underlying44 hi g m cap cur h1 ⟨b, 0, none⟩ 1 1 [.int .i64 z] (by rw [y1]; rfl)
    (fun j u hj => by
      match j, hj with
      | 0, hj => simp at hj; subst hj; simpa [Addr.add] using hz
      | j + 1, hj => simp at hj) (fun u hu => by rw [List.mem_singleton] at hu; subst hu; rfl) hm (by rw [y1]; simp; omega)
  rw [y1, Nat.mul_one] at hr
  have hlen : cur.toList.length = cap := by simpa using h2
  have hrow := setRow_heap W g cur (cur.toList.take m ++ [Value.int .i64 z] ++ cur.toList.drop (m + 1)).toArray 2 (0, 0) h1
  have hsz : (cur.toList.take m ++ [Value.int .i64 z] ++ cur.toList.drop (m + 1)).toArray.size = cap := by
    simp only [List.size_toArray, List.length_append, List.length_take, List.length_drop, List.length_singleton]
    omega
  have htl : (cur.toList.take m).length = m := by rw [List.length_take]; omega
  refine ⟨_, hr, ⟨_, hrow, hsz, ?_⟩, ⟨_, hrow, hsz, ?_⟩, ⟨rfl, rfl, rfl, by simp, fun k _ hk => setRow_other W g k _ (fun e => hk (by rw [e]))⟩⟩
  · rw [List.append_assoc, List.take_append_of_le_length (by omega), List.take_of_length_le (by omega)]
    exact h3
  · rw [List.take_append_of_le_length (by simp; omega), List.take_of_length_le (by simp; omega), h3, List.map_append]
    rfl

/-- a raster is handed back -/
def RetRas (w : World) (n m : Int) (xs : List Int) (e : Ending) (w' : World) : Prop :=
  ∃ a c, e = .returned (.agg #[.int .i64 n, .int .i64 m, .slice a xs.length c]) ∧ OwnI w' w.heap.size (.slice a xs.length c) xs ∧ Below w.heap.size w w'
/-- the first t pixels -/
def pix (F : Nat → Nat → Int) (m t : Nat) : List Int := (List.range t).map fun i => F (i / m) (i % m)
theorem pix_len (F : Nat → Nat → Int) (m t : Nat) : (pix F m t).length = t := by simp [pix]
theorem pix_succ {F : Nat → Nat → Int} {m k j : Nat} (hj : j < m) : pix F m (k * m + j + 1) = pix F m (k * m + j) ++ [F k j] := by
  unfold pix
  have h1 : (k * m + j) / m = k := by rw [Nat.mul_comm, Nat.mul_add_div (by omega), Nat.div_eq_of_lt hj]; omega
  have h2 : (k * m + j) % m = j := by rw [Nat.mul_comm, Nat.mul_add_mod, Nat.mod_eq_of_lt hj]
  rw [List.range_succ, List.map_append]
  simp [h1, h2]

/-- while a raster is made -/
def RasAt (w W : World) (n m : Int) (cap t : Nat) (ys : List Int) : Prop :=
  W.heap[w.heap.size]? = some (.cells #[.int .i64 0, .int .i64 0, .slice none 0 0] 193 (0, 0)) ∧ W.heap[w.heap.size + 2]? = some (.cells #[.int .i64 n, .int .i64 m, .slice (some ⟨w.heap.size + 1, 0, none⟩) t cap] 193 (0, 0)) ∧
    RowIs W (w.heap.size + 1) cap t ys ∧ Below w.heap.size w W
/-- what a round keeps -/
def KeepR (g cap m : Nat) (ys : List Int) (W W' : World) : Prop := W.grownBy W' (some g) ∧ (RowIs W g cap m ys → RowIs W' g cap m ys)
theorem keepR_below {g cap m : Nat} {ys : List Int} {W W' : World} (hb : Below W.heap.size W W') : KeepR g cap m ys W W' :=
  ⟨⟨hb.os, hb.tape, hb.output, hb.size, fun i hi _ => hb.block i hi⟩, fun h => h.below hb h.lt⟩
def sR (g cap m : Nat) (ys : List Int) (p : Value → Prop) : Sp (KeepR g cap m ys) := ⟨fun v _ => p v, fun _ _ _ _ h => h⟩
/-- a new cell that holds z -/
def sCell (g cap m : Nat) (ys : List Int) (z : Int) : Sp (KeepR g cap m ys) := ⟨fun v W => ∃ b, v = .slice (some ⟨b, 0, none⟩) 1 1 ∧ b ≠ g ∧ W.cell? ⟨b, 0, none⟩ = some (.int .i64 z), fun _ W _ hk ⟨b, hv, hne, hc⟩ => ⟨b, hv, hne, by
  rw [World.cell?_of_block (w := W) (a := ⟨b, 0, none⟩) (hk.1.block b (lt_of_cell hc) (fun e => hne (Option.some.inj e)))]
  exact hc⟩⟩
/-- the row with a pixel more -/
def sRow (g cap m : Nat) (ys : List Int) : Sp (KeepR g cap m ys) := ⟨fun v W => v = .slice (some ⟨g, 0, none⟩) m cap ∧ RowIs W g cap m ys, fun _ _ _ hk ⟨hv, hr⟩ => ⟨hv, hk.2 hr⟩⟩
theorem RasAt.below {w W W' : World} {n m : Int} {cap t : Nat} {ys : List Int} (h : RasAt w W n m cap t ys) (hb : Below W.heap.size W W') : RasAt w W' n m cap t ys :=
  ⟨(hb.block _ (Array.getElem?_eq_some_iff.1 h.1).1).trans h.1, (hb.block _ (Array.getElem?_eq_some_iff.1 h.2.1).1).trans h.2.1, h.2.2.1.below hb h.2.2.1.lt, bt0 h.2.2.2 hb (Nat.le_refl _)⟩
theorem RasAt.row {w W W' : World} {n m : Int} {cap t : Nat} {ys : List Int} (h : RasAt w W n m cap t ys) (hg : W.grownBy W' (some (w.heap.size + 1))) (hr : RowIs W' (w.heap.size + 1) cap t ys) : RasAt w W' n m cap t ys :=
  ⟨(hg.block _ (Array.getElem?_eq_some_iff.1 h.1).1 (fun e => by have := Option.some.inj e; omega)).trans h.1, (hg.block _ (Array.getElem?_eq_some_iff.1 h.2.1).1 (fun e => by have := Option.some.inj e; omega)).trans h.2.1, hr, h.2.2.2.trans (below_of_grownBy hg h.2.2.2.size (fun k e => by have := Option.some.inj e; omega))⟩
theorem rr_same {w W : World} {n m : Int} {cap t q : Nat} {ys zs : List Int} {s : Sp (KeepR (w.heap.size + 1) cap q zs)} {v : Value} (h : RasAt w W n m cap t ys) (hs : s.holds v W) : RsR (fun W => RasAt w W n m cap t ys) s W v W := ⟨h, keepR_below (Below.refl _ _), hs⟩
theorem rr_below {w W W' : World} {n m : Int} {cap t q : Nat} {ys zs : List Int} {s : Sp (KeepR (w.heap.size + 1) cap q zs)} {v : Value} (h : RasAt w W n m cap t ys) (hb : Below W.heap.size W W') (hs : s.holds v W') : RsR (fun W => RasAt w W n m cap t ys) s W v W' := ⟨h.below hb, keepR_below hb, hs⟩

/-- the grown slice is stored back -/
theorem RasAt.store {w W : World} {n m : Int} {cap t t' : Nat} {ys ys' : List Int} (h : RasAt w W n m cap t ys) (hr : RowIs W (w.heap.size + 1) cap t' ys') :
    RasAt w (W.setCell ⟨w.heap.size + 2, 2, none⟩ (.slice (some ⟨w.heap.size + 1, 0, none⟩) t' cap)) n m cap t' ys' := by
  have hg := grownBy_set W (w.heap.size + 2) 2 (.slice (some ⟨w.heap.size + 1, 0, none⟩) t' cap)
  refine ⟨(hg.block _ (Array.getElem?_eq_some_iff.1 h.1).1 (fun e => by have := Option.some.inj e; omega)).trans h.1, src_set h.2.1 2 _, ?_, Below.setCell h.2.2.2 (by dsimp only; omega) _⟩
  obtain ⟨cur, h1, h2, h3⟩ := hr
  exact ⟨cur, (hg.block _ (Array.getElem?_eq_some_iff.1 h1).1 (fun e => by have := Option.some.inj e; omega)).trans h1, h2, h3⟩
end Go.Proofs.YtfhnmmdopncohaaDoor
namespace Go.Proofs.YtfhnmmdopncohaaDoor
open Go.RowKit

/-- are the fields of a damage as described for its kind -/
def fineB (k r c t w : Int) : Bool :=
  if k = 1 then inB r 0 400 && inB c 0 400 && inB t 0 400 && (w == 0)
  else if k = 2 then inB r 0 400 && inB c 0 400 && inB t 1 400 && inB w 1 400
  else if k = 3 then (r == 0) && (c == 0) && inB t 1 400 && inB w (-400) 400
  else if k = 4 then inB r 0 400 && inB t 0 400 && (c == 0) && (w == 0)
  else if k = 5 then (r == 0) && (c == 0) && (w == 0) && inB t 0 256
  else false
/-- a valid damage -/
def dmOk (k r c t w g : Int) : Bool := fineB k r c t w && inB g 0 255
theorem fine1 {r c t w : Int} : fineB 1 r c t w = (inB r 0 400 && inB c 0 400 && inB t 0 400 && (w == 0)) := by simp [fineB]
theorem fine2 {r c t w : Int} : fineB 2 r c t w = (inB r 0 400 && inB c 0 400 && inB t 1 400 && inB w 1 400) := by simp [fineB]
theorem fine3 {r c t w : Int} : fineB 3 r c t w = ((r == 0) && (c == 0) && inB t 1 400 && inB w (-400) 400) := by simp [fineB]
theorem fine4 {r c t w : Int} : fineB 4 r c t w = (inB r 0 400 && inB t 0 400 && (c == 0) && (w == 0)) := by simp [fineB]
theorem fine5 {r c t w : Int} : fineB 5 r c t w = ((r == 0) && (c == 0) && (w == 0) && inB t 0 256) := by simp [fineB]
theorem fine0 {k r c t w : Int} (h : k < 1 ∨ 5 < k) : fineB k r c t w = false := by
  unfold fineB
  rw [if_neg (by omega), if_neg (by omega), if_neg (by omega), if_neg (by omega), if_neg (by omega)]
theorem dm_bounds {k r c t w g : Int} (h : dmOk k r c t w g = true) : (1 ≤ k ∧ k ≤ 5) ∧ (0 ≤ r ∧ r ≤ 400) ∧ (0 ≤ c ∧ c ≤ 400) ∧ (0 ≤ t ∧ t ≤ 400) ∧ (-400 ≤ w ∧ w ≤ 400) ∧ (0 ≤ g ∧ g ≤ 255) ∧ (k = 3 → 1 ≤ t) ∧ (k = 5 → t ≤ 256) := by
  unfold dmOk at h
  rw [Bool.and_eq_true, inB_iff] at h
  obtain ⟨h1, h2⟩ := h
  by_cases hk : k < 1 ∨ 5 < k
  · rw [fine0 hk] at h1; cases h1
  · have : k = 1 ∨ k = 2 ∨ k = 3 ∨ k = 4 ∨ k = 5 := by omega
    rcases this with rfl | rfl | rfl | rfl | rfl
    · simp only [fine1, Bool.and_eq_true, inB_iff, beq_iff_eq] at h1; omega
    · simp only [fine2, Bool.and_eq_true, inB_iff] at h1; omega
    · simp only [fine3, Bool.and_eq_true, inB_iff, beq_iff_eq] at h1; omega
    · simp only [fine4, Bool.and_eq_true, inB_iff, beq_iff_eq] at h1; omega
    · simp only [fine5, Bool.and_eq_true, inB_iff, beq_iff_eq] at h1; omega

/-- does a blot or a scratch touch a pixel -/
def touchB (k r c t w y x : Int) : Bool := if k = 1 then decide ((y - r) * (y - r) + (x - c) * (x - c) ≤ t * t) else inB y r (r + t - 1) && inB x c (c + w - 1)
theorem touch1 {r c t w y x : Int} : touchB 1 r c t w y x = decide ((y - r) * (y - r) + (x - c) * (x - c) ≤ t * t) := by simp [touchB]
theorem touch2 {r c t w y x : Int} : touchB 2 r c t w y x = (inB y r (r + t - 1) && inB x c (c + w - 1)) := by simp [touchB]

/-- a pixel behind a damage that is no noise -/
def dpix (k r c t w g : Int) (m : Nat) (xs : List Int) (y x : Nat) : Int :=
  if k = 3 then (if inB ((x : Int) - (y : Int) * w / t) 0 ((m : Int) - 1) = true then xs.getD (y * m + ((x : Int) - (y : Int) * w / t).toNat) 0 else g)
  else if k = 5 then (xs.getD (y * m + x) 0 * t + g * (256 - t)) / 256
  else if touchB k r c t w y x = true then g else xs.getD (y * m + x) 0
/-- rounds of noise -/
def nz (g : Int) (N : Nat) (p : Int × List Int) : Nat → Int × List Int
  | 0 => p
  | t + 1 => ((75 * (nz g N p t).1 + 74) % 65537, (nz g N p t).2.set (((75 * (nz g N p t).1 + 74) % 65537) % (N : Int)).toNat g)
/-- the pixels behind a damage -/
def dmgL (k r c t w g : Int) (n m : Nat) (xs : List Int) : List Int :=
  if k = 4 then (nz g (n * m) (r, xs) t.toNat).2 else pix (dpix k r c t w g m xs) m (n * m)

theorem nz_len {g : Int} {N : Nat} {p : Int × List Int} : ∀ t, (nz g N p t).2.length = p.2.length
  | 0 => rfl
  | t + 1 => by simp [nz, nz_len t]
theorem nz_x {g : Int} {N : Nat} {p : Int × List Int} (h : 0 ≤ p.1 ∧ p.1 ≤ 65536) : ∀ t, 0 ≤ (nz g N p t).1 ∧ (nz g N p t).1 ≤ 65536
  | 0 => h
  | t + 1 => by have := nz_x (g := g) (N := N) h t; simp only [nz]; omega
def Greys (xs : List Int) : Prop := ∀ x ∈ xs, 0 ≤ x ∧ x ≤ 255
theorem greys_set {xs : List Int} {i : Nat} {g : Int} (h : Greys xs) (hg : 0 ≤ g ∧ g ≤ 255) : Greys (xs.set i g) := fun x hx => by
  rcases List.mem_or_eq_of_mem_set hx with h1 | h1
  · exact h x h1
  · subst h1; exact hg
theorem nz_greys {g : Int} {N : Nat} {p : Int × List Int} (h : Greys p.2) (hg : 0 ≤ g ∧ g ≤ 255) : ∀ t, Greys (nz g N p t).2
  | 0 => h
  | t + 1 => greys_set (nz_greys h hg t) hg
theorem getD_grey {xs : List Int} (h : Greys xs) (i : Nat) : 0 ≤ xs.getD i 0 ∧ xs.getD i 0 ≤ 255 := by
  rw [List.getD_eq_getElem?_getD]
  by_cases hi : i < xs.length
  · rw [List.getElem?_eq_getElem hi]; exact h _ (List.getElem_mem hi)
  · rw [List.getElem?_eq_none (by omega)]; simp
theorem fade_mid {v t g : Int} (hv : 0 ≤ v ∧ v ≤ 255) (ht : 0 ≤ t ∧ t ≤ 256) (hg : 0 ≤ g ∧ g ≤ 255) : 0 ≤ v * t ∧ v * t ≤ 255 * t ∧ 0 ≤ g * (256 - t) ∧ g * (256 - t) ≤ 255 * (256 - t) :=
  ⟨Int.mul_nonneg hv.1 ht.1, Int.mul_le_mul_of_nonneg_right hv.2 ht.1, Int.mul_nonneg hg.1 (by omega), Int.mul_le_mul_of_nonneg_right hg.2 (by omega)⟩
theorem fade_grey {v t g : Int} (hv : 0 ≤ v ∧ v ≤ 255) (ht : 0 ≤ t ∧ t ≤ 256) (hg : 0 ≤ g ∧ g ≤ 255) : 0 ≤ (v * t + g * (256 - t)) / 256 ∧ (v * t + g * (256 - t)) / 256 ≤ 255 := by
  obtain ⟨h1, h2, h3, h4⟩ := fade_mid hv ht hg
  generalize v * t = a at *
  generalize g * (256 - t) = b at *
  omega
theorem dpix_grey {k r c t w g : Int} {m : Nat} {xs : List Int} (hd : dmOk k r c t w g = true) (h : Greys xs) (y x : Nat) : 0 ≤ dpix k r c t w g m xs y x ∧ dpix k r c t w g m xs y x ≤ 255 := by
  obtain ⟨_, _, _, h4, _, h6, _, h8⟩ := dm_bounds hd
  unfold dpix
  by_cases h3 : k = 3
  · rw [if_pos h3]
    split
    · exact getD_grey h _
    · exact h6
  · rw [if_neg h3]
    by_cases h5 : k = 5
    · rw [if_pos h5]
      exact fade_grey (getD_grey h _) ⟨h4.1, h8 h5⟩ h6
    · rw [if_neg h5]
      split
      · exact h6
      · exact getD_grey h _
theorem dmgL_greys {k r c t w g : Int} {n m : Nat} {xs : List Int} (hd : dmOk k r c t w g = true) (h : Greys xs) : Greys (dmgL k r c t w g n m xs) := by
  obtain ⟨_, _, _, _, _, h6, _⟩ := dm_bounds hd
  unfold dmgL
  split
  · exact nz_greys h h6 _
  · intro x hx
    obtain ⟨i, _, rfl⟩ := List.mem_map.1 hx
    exact dpix_grey hd h _ _
theorem dmgL_len {k r c t w g : Int} {n m : Nat} {xs : List Int} (h : xs.length = n * m) : (dmgL k r c t w g n m xs).length = n * m := by
  unfold dmgL
  split
  · rw [nz_len]; exact h
  · exact pix_len _ _ _
theorem dmgL_pix {k r c t w g : Int} {n m : Nat} {xs : List Int} (h : k ≠ 4) : dmgL k r c t w g n m xs = pix (dpix k r c t w g m xs) m (n * m) := by rw [dmgL, if_neg h]
theorem dmgL_noise {r c t w g : Int} {n m : Nat} {xs : List Int} : dmgL 4 r c t w g n m xs = (nz g (n * m) (r, xs) t.toNat).2 := by rw [dmgL, if_pos rfl]

/-- a damage in six numbers -/
structure Dm where
  k : Int
  r : Int
  c : Int
  t : Int
  w : Int
  g : Int
def Dm.ok (d : Dm) : Bool := dmOk d.k d.r d.c d.t d.w d.g
def Dm.on (d : Dm) (n m : Nat) (xs : List Int) : List Int := dmgL d.k d.r d.c d.t d.w d.g n m xs
/-- the pixels behind damages, one after the other -/
def dmsL (n m : Nat) (ds : List Dm) (xs : List Int) : List Int := ds.foldl (fun ys d => d.on n m ys) xs
theorem dmsL_snoc {n m : Nat} {ds : List Dm} {d : Dm} {xs : List Int} : dmsL n m (ds ++ [d]) xs = d.on n m (dmsL n m ds xs) := by simp [dmsL, List.foldl_append]
theorem dmsL_len {n m : Nat} {xs : List Int} (h : xs.length = n * m) : ∀ ds : List Dm, (dmsL n m ds xs).length = n * m
  | [] => h
  | d :: ds => dmsL_len (xs := d.on n m xs) (dmgL_len h) ds
theorem dmsL_greys {n m : Nat} {xs : List Int} (h : Greys xs) : ∀ ds : List Dm, (∀ d ∈ ds, d.ok = true) → Greys (dmsL n m ds xs)
  | [], _ => h
  | d :: ds, hd => dmsL_greys (xs := d.on n m xs) (dmgL_greys (hd d (by simp)) h) ds (fun e he => hd e (by simp [he]))

/-- a raster may have n rows and m columns -/
def sizeB (n m : Int) : Bool := inB n 1 400 && inB m 1 400 && decide (n * m ≤ 40000)
/-- a grey value -/
def greyB (x : Int) : Bool := inB x 0 255
/-- a raster of n rows and m columns -/
def rasOk (n m : Int) (xs : List Int) : Bool := sizeB n m && !((xs.length : Int) != n * m) && xs.all greyB
theorem size_bd {n m : Int} (h1 : inB n 1 400 = true) (h2 : inB m 1 400 = true) : 1 ≤ n * m ∧ n * m ≤ 160000 := by
  rw [inB_iff] at h1 h2
  have a : 1 * 1 ≤ n * m := Int.mul_le_mul h1.1 h2.1 (by omega) (by omega)
  have b : n * m ≤ 400 * 400 := Int.mul_le_mul h1.2 h2.2 (by omega) (by omega)
  omega
theorem greys_of {xs : List Int} (h : xs.all greyB = true) : Greys xs := fun x hx => inB_iff.1 (List.all_eq_true.1 h x hx)
theorem size_nat {n m : Int} (h : sizeB n m = true) : ∃ a b : Nat, n = a ∧ m = b ∧ 1 ≤ a ∧ a ≤ 400 ∧ 1 ≤ b ∧ b ≤ 400 ∧ a * b ≤ 40000 ∧ n * m = ((a * b : Nat) : Int) := by
  simp only [sizeB, Bool.and_eq_true, inB_iff, decide_eq_true_eq] at h
  obtain ⟨⟨h1, h2⟩, h3⟩ := h
  obtain ⟨a, rfl⟩ := Int.eq_ofNat_of_zero_le (show 0 ≤ n by omega)
  obtain ⟨b, rfl⟩ := Int.eq_ofNat_of_zero_le (show 0 ≤ m by omega)
  have e : (a : Int) * (b : Int) = ((a * b : Nat) : Int) := (Int.natCast_mul a b).symm
  rw [e] at h3
  exact ⟨a, b, rfl, rfl, by omega, by omega, by omega, by omega, by omega, e⟩
theorem ras_nat {n m : Int} {xs : List Int} (h : rasOk n m xs = true) : ∃ a b : Nat, n = a ∧ m = b ∧ 1 ≤ a ∧ a ≤ 400 ∧ 1 ≤ b ∧ b ≤ 400 ∧ a * b ≤ 40000 ∧ xs.length = a * b ∧ Greys xs := by
  simp only [rasOk, Bool.and_eq_true] at h
  obtain ⟨⟨h1, h2⟩, h3⟩ := h
  obtain ⟨a, b, rfl, rfl, q1, q2, q3, q4, q5, e⟩ := size_nat h1
  rw [e] at h2
  simp only [bne, Bool.not_not, beq_iff_eq] at h2
  exact ⟨a, b, rfl, rfl, q1, q2, q3, q4, q5, by omega, greys_of h3⟩
theorem size_of {a b : Nat} (h1 : 1 ≤ a) (h2 : a ≤ 400) (h3 : 1 ≤ b) (h4 : b ≤ 400) (h5 : a * b ≤ 40000) : sizeB a b = true := by
  simp only [sizeB, Bool.and_eq_true, inB_iff, decide_eq_true_eq]
  have e : (a : Int) * (b : Int) = ((a * b : Nat) : Int) := (Int.natCast_mul a b).symm
  rw [e]
  exact ⟨⟨by omega, by omega⟩, by omega⟩
theorem ras_of {a b : Nat} {xs : List Int} (h1 : 1 ≤ a) (h2 : a ≤ 400) (h3 : 1 ≤ b) (h4 : b ≤ 400) (h5 : a * b ≤ 40000) (h6 : xs.length = a * b) (h7 : Greys xs) : rasOk a b xs = true := by
  have e : (a : Int) * (b : Int) = ((a * b : Nat) : Int) := (Int.natCast_mul a b).symm
  simp only [rasOk, size_of h1 h2 h3 h4 h5, e, h6, Bool.true_and, bne, Bool.not_not, beq_self_eq_true]
  exact List.all_eq_true.2 (fun x hx => inB_iff.2 (h7 x hx))
theorem five_or (k : Int) : k = 1 ∨ k = 2 ∨ k = 3 ∨ k = 4 ∨ k = 5 ∨ (k < 1 ∨ 5 < k) := by omega
theorem three (a b c : Bool) : a = false ∨ (a = true ∧ b = false) ∨ (a = true ∧ b = true ∧ c = false) ∨ (a = true ∧ b = true ∧ c = true) := by
  cases a <;> cases b <;> cases c <;> simp
theorem four (a b c d : Bool) : a = false ∨ (a = true ∧ b = false) ∨ (a = true ∧ b = true ∧ c = false) ∨ (a = true ∧ b = true ∧ c = true ∧ d = false) ∨ (a = true ∧ b = true ∧ c = true ∧ d = true) := by
  cases a <;> cases b <;> cases c <;> cases d <;> simp

end Go.Proofs.YtfhnmmdopncohaaDoor
namespace Go.Proofs.YtfhnmmdopncohaaDoor
open Go.RowKit

/-- the words of the kinds -/
def dBlot : List UInt8 := [98, 108, 111, 116]
def dScratch : List UInt8 := [115, 99, 114, 97, 116, 99, 104]
def dSkew : List UInt8 := [115, 107, 101, 119]
def dNoise : List UInt8 := [110, 111, 105, 115, 101]
def dFade : List UInt8 := [102, 97, 100, 101]

/-- the kind with a word; 0 if it is none -/
def kindOf (l : List UInt8) : Nat :=
  if l = dBlot then 1 else if l = dScratch then 2 else if l = dSkew then 3 else if l = dNoise then 4 else if l = dFade then 5 else 0

/-- the word and the numbers of a damage -/
def txtD (d : Dm) : List (List UInt8) :=
  if d.k = 1 then [dBlot, Lib.itoa d.r, Lib.itoa d.c, Lib.itoa d.t, Lib.itoa d.g]
  else if d.k = 2 then [dScratch, Lib.itoa d.r, Lib.itoa d.c, Lib.itoa d.t, Lib.itoa d.w, Lib.itoa d.g]
  else if d.k = 3 then [dSkew, Lib.itoa d.t, Lib.itoa d.w, Lib.itoa d.g]
  else if d.k = 4 then [dNoise, Lib.itoa d.r, Lib.itoa d.t, Lib.itoa d.g]
  else [dFade, Lib.itoa d.t, Lib.itoa d.g]

/-- the damage that is written in words -/
def rawD (k : Nat) (ns : List Int) : Option Dm :=
  match k, ns with
  | 1, [r, c, t, g] => some ⟨1, r, c, t, 0, g⟩
  | 2, [r, c, t, w, g] => some ⟨2, r, c, t, w, g⟩
  | 3, [t, w, g] => some ⟨3, 0, 0, t, w, g⟩
  | 4, [r, t, g] => some ⟨4, r, 0, t, 0, g⟩
  | 5, [t, g] => some ⟨5, 0, 0, t, 0, g⟩
  | _, _ => none

/-- all numbers of some words -/
def rnums : List (List UInt8) → Option (List Int)
  | [] => some []
  | h :: t => match rnum h with
    | none => none
    | some n => match rnums t with
      | none => none
      | some ns => some (n :: ns)

/-- the valid damage that is written in words -/
def rdOne (ws : List (List UInt8)) : Option Dm :=
  match ws with
  | [] => none
  | h :: t => match rnums t with
    | none => none
    | some ns => match rawD (kindOf h) ns with
      | none => none
      | some d => if d.ok = true then some d else none

theorem rnums_some : ∀ (ws : List (List UInt8)) (ns : List Int), rnums ws = some ns → ws = ns.map Lib.itoa
  | [], ns, h => by simp [rnums] at h; subst h; rfl
  | a :: t, ns, h => by
    rw [rnums] at h
    split at h
    · cases h
    · rename_i n hn
      split at h
      · cases h
      · rename_i ms hm
        cases h
        rw [List.map_cons, ← rnums_some t ms hm, ← rnum_some a n hn]

theorem rnums_itoa : ∀ ns : List Int, (∀ n ∈ ns, -9223372036854775808 ≤ n ∧ n ≤ 9223372036854775807) → rnums (ns.map Lib.itoa) = some ns
  | [], _ => rfl
  | n :: ns, h => by
    rw [List.map_cons, rnums, rnum_itoa n (h n (by simp)).1 (h n (by simp)).2, rnums_itoa ns (fun m hm => h m (by simp [hm]))]

theorem kind_word (l : List UInt8) : (kindOf l = 1 → l = dBlot) ∧ (kindOf l = 2 → l = dScratch) ∧ (kindOf l = 3 → l = dSkew) ∧ (kindOf l = 4 → l = dNoise) ∧ (kindOf l = 5 → l = dFade) := by
  unfold kindOf
  refine ⟨?_, ?_, ?_, ?_, ?_⟩ <;> (repeat' split) <;> intro h <;> first | assumption | omega

theorem rdOne_some (ws : List (List UInt8)) (d : Dm) (h : rdOne ws = some d) : d.ok = true ∧ ws = txtD d := by
  unfold rdOne at h
  split at h
  · cases h
  · rename_i a t
    split at h
    · cases h
    · rename_i ns hns
      have e := rnums_some t ns hns
      split at h
      · cases h
      · rename_i d' hd'
        split at h
        · rename_i hok
          cases h
          refine ⟨hok, ?_⟩
          have hk := kind_word a
          unfold rawD at hd'
          split at hd' <;> first | cases hd' | skip
          all_goals rename_i hka
          · rw [hk.1 hka, e]; rfl
          · rw [hk.2.1 hka, e]; rfl
          · rw [hk.2.2.1 hka, e]; rfl
          · rw [hk.2.2.2.1 hka, e]; rfl
          · rw [hk.2.2.2.2 hka, e]; rfl
        · cases h

theorem kind_words : kindOf dBlot = 1 ∧ kindOf dScratch = 2 ∧ kindOf dSkew = 3 ∧ kindOf dNoise = 4 ∧ kindOf dFade = 5 := by decide

theorem ok_parts (d : Dm) (h : d.ok = true) : (d.k = 1 ∧ d.w = 0) ∨ d.k = 2 ∨ (d.k = 3 ∧ d.r = 0 ∧ d.c = 0) ∨ (d.k = 4 ∧ d.c = 0 ∧ d.w = 0) ∨ (d.k = 5 ∧ d.r = 0 ∧ d.c = 0 ∧ d.w = 0) := by
  have hb := dm_bounds h
  obtain ⟨k, r, c, t, w, g⟩ := d
  simp only [Dm.ok, dmOk, Bool.and_eq_true] at h
  try dsimp only at hb
  try dsimp only
  have hk : k = 1 ∨ k = 2 ∨ k = 3 ∨ k = 4 ∨ k = 5 := by omega
  rcases hk with rfl | rfl | rfl | rfl | rfl
  · rw [fine1] at h; simp at h; omega
  · omega
  · rw [fine3] at h; simp at h; omega
  · rw [fine4] at h; simp at h; omega
  · rw [fine5] at h; simp at h; omega

theorem rdOne_cons (a : List UInt8) (ns : List Int) (d : Dm) (h : d.ok = true) (hn : ∀ n ∈ ns, -9223372036854775808 ≤ n ∧ n ≤ 9223372036854775807) (hr : rawD (kindOf a) ns = some d) : rdOne (a :: ns.map Lib.itoa) = some d := by
  simp only [rdOne, rnums_itoa ns hn, hr, h, if_true]

theorem rdOne_txt (d : Dm) (h : d.ok = true) : rdOne (txtD d) = some d := by
  have hb := dm_bounds h
  have hp := ok_parts d h
  obtain ⟨k, r, c, t, w, g⟩ := d
  try dsimp only at hb
  try dsimp only at hp
  rcases hp with ⟨rfl, rfl⟩ | rfl | ⟨rfl, rfl, rfl⟩ | ⟨rfl, rfl, rfl⟩ | ⟨rfl, rfl, rfl, rfl⟩
  · exact rdOne_cons dBlot [r, c, t, g] _ h (by simp; omega) (by rw [kind_words.1]; rfl)
  · exact rdOne_cons dScratch [r, c, t, w, g] _ h (by simp; omega) (by rw [kind_words.2.1]; rfl)
  · exact rdOne_cons dSkew [t, w, g] _ h (by simp; omega) (by rw [kind_words.2.2.1]; rfl)
  · exact rdOne_cons dNoise [r, t, g] _ h (by simp; omega) (by rw [kind_words.2.2.2.1]; rfl)
  · exact rdOne_cons dFade [t, g] _ h (by simp; omega) (by rw [kind_words.2.2.2.2]; rfl)

theorem txtD_free (d : Dm) : ∀ p ∈ txtD d, (32 : UInt8) ∉ p ∧ (59 : UInt8) ∉ p := by
  have ha : ∀ n, (32 : UInt8) ∉ Lib.itoa n ∧ (59 : UInt8) ∉ Lib.itoa n := fun n => ⟨itoa_no n 32 (by decide) (by decide), itoa_no n 59 (by decide) (by decide)⟩
  have hw : ((32 : UInt8) ∉ dBlot ∧ (59 : UInt8) ∉ dBlot) ∧ ((32 : UInt8) ∉ dScratch ∧ (59 : UInt8) ∉ dScratch) ∧ ((32 : UInt8) ∉ dSkew ∧ (59 : UInt8) ∉ dSkew) ∧ ((32 : UInt8) ∉ dNoise ∧ (59 : UInt8) ∉ dNoise) ∧ ((32 : UInt8) ∉ dFade ∧ (59 : UInt8) ∉ dFade) := by decide
  obtain ⟨w1, w2, w3, w4, w5⟩ := hw
  intro p hp
  unfold txtD at hp
  repeat' split at hp
  all_goals
    simp only [List.mem_cons, List.not_mem_nil, or_false] at hp
    rcases hp with rfl | rfl | rfl | rfl | rfl | rfl <;> first | assumption | exact ha _

theorem txtD_ne (d : Dm) : txtD d ≠ [] := by unfold txtD; repeat' split
                                             all_goals simp

/-- the text of a damage -/
def lineD (d : Dm) : List UInt8 := glue 32 (txtD d)
/-- the text of damages -/
def textD (ds : List Dm) : List UInt8 := glue 59 (ds.map lineD)

theorem cut_line (d : Dm) : cut 32 (lineD d) = txtD d := cut_glue 32 _ (txtD_ne d) (fun p hp => (txtD_free d p hp).1)

theorem glue_no (b c : UInt8) (hbc : c ≠ b) : ∀ ps : List (List UInt8), (∀ p ∈ ps, c ∉ p) → c ∉ glue b ps
  | [] => fun _ => by simp [glue]
  | [p] => fun h => h p (by simp)
  | p :: q :: t => fun h => by
    rw [glue_cons _ _ _ (by simp)]
    have := glue_no b c hbc (q :: t) (fun x hx => h x (by simp [hx]))
    have := h p (by simp)
    simp [*]

theorem cut_text (ds : List Dm) (h : ds ≠ []) : cut 59 (textD ds) = ds.map lineD :=
  cut_glue 59 _ (by simpa using h) (fun p hp => by
    obtain ⟨d, _, rfl⟩ := List.mem_map.1 hp
    exact glue_no 32 59 (by decide) _ (fun q hq => (txtD_free d q hq).2))

/-- the valid damages that some texts are -/
def rdAll : List (List UInt8) → Option (List Dm)
  | [] => some []
  | p :: t => match rdOne (cut 32 p) with
    | none => none
    | some d => match rdAll t with
      | none => none
      | some ds => some (d :: ds)

theorem rdAll_some : ∀ (ps : List (List UInt8)) (ds : List Dm), rdAll ps = some ds → ps = ds.map lineD ∧ ∀ d ∈ ds, d.ok = true
  | [], ds, h => by simp [rdAll] at h; subst h; simp
  | p :: t, ds, h => by
    rw [rdAll] at h
    split at h
    · cases h
    · rename_i d hd
      split at h
      · cases h
      · rename_i es he
        cases h
        obtain ⟨hok, hc⟩ := rdOne_some _ _ hd
        obtain ⟨h1, h2⟩ := rdAll_some t es he
        have hp : p = lineD d := by rw [← glue_cut 32 p, hc, lineD]
        refine ⟨by rw [List.map_cons, ← h1, ← hp], ?_⟩
        intro e hm
        rcases List.mem_cons.1 hm with rfl | hm
        · exact hok
        · exact h2 e hm

theorem rdAll_lines : ∀ ds : List Dm, (∀ d ∈ ds, d.ok = true) → rdAll (ds.map lineD) = some ds
  | [], _ => rfl
  | d :: ds, h => by
    rw [List.map_cons, rdAll, cut_line, rdOne_txt d (h d (by simp)), rdAll_lines ds (fun e he => h e (by simp [he]))]

/-- the damages whose text a text of one byte or more is, as the program reads it -/
def rdText (s : List UInt8) : Option (List Dm) := if 20 < (cut 59 s).length then none else rdAll (cut 59 s)

theorem rdText_iff (s : List UInt8) (ds : List Dm) : rdText s = some ds ↔ ds ≠ [] ∧ ds.length ≤ 20 ∧ (∀ d ∈ ds, d.ok = true) ∧ s = textD ds := by
  unfold rdText
  constructor
  · intro h
    split at h
    · cases h
    · rename_i hl
      obtain ⟨h1, h2⟩ := rdAll_some _ _ h
      have hlen : (cut 59 s).length = ds.length := by rw [h1]; simp
      have hs : s = textD ds := by rw [← glue_cut 59 s, h1, textD]
      refine ⟨?_, by omega, h2, hs⟩
      intro e
      have := cut_ne 59 s
      rw [h1, e] at this
      exact this rfl
  · rintro ⟨h0, hl, hok, rfl⟩
    rw [cut_text ds h0, rdAll_lines ds hok, if_neg (by simp; omega)]

end Go.Proofs.YtfhnmmdopncohaaDoor
namespace Go.Proofs.YtfhnmmdopncohaaDoor
open Go.RowKit

/-- the same, perhaps behind a sign -/
def sgnS : List UInt8 → Option Int
  | [] => valS []
  | x :: r => if x = 45 then (match valS r with | none => none | some n => some (-n)) else valS (x :: r)

theorem sgnS_itoa (n : Int) (h0 : -1000000000000 < n) (h1 : n < 1000000000000) : sgnS (Lib.itoa n) = some n := by
  by_cases hn : n < 0
  · have e : Lib.itoa n = 45 :: Lib.decDigits n.natAbs := by rw [Lib.itoa, if_pos hn]
    rw [e, sgnS, if_pos rfl, valS_dec _ (by omega)]
    simp only []; congr 1; omega
  · have e : Lib.itoa n = Lib.decDigits n.toNat := by rw [Lib.itoa, if_neg hn]
    rw [e]
    have hd := dec_digit n.toNat
    have hv := valS_dec n.toNat (by omega)
    cases he : Lib.decDigits n.toNat with
    | nil => exact absurd he (decDigits_ne _)
    | cons c r =>
      rw [he] at hd hv
      have hc := hd c (by simp)
      have : ¬ c = 45 := by intro e; rw [e] at hc; simp at hc
      rw [sgnS, if_neg this, hv]
      congr 1; omega

/-- the numbers of the fields that a kind has; 0 for the others -/
def spNums : List Bool → List (List UInt8) → Option (List Int)
  | [], _ => some []
  | false :: f, ws => match spNums f ws with | none => none | some ns => some (0 :: ns)
  | true :: _, [] => none
  | true :: f, a :: ws => match sgnS a with
    | none => none
    | some n => match spNums f ws with | none => none | some ns => some (n :: ns)

/-- the fields of a kind -/
def spFl (k : Nat) : List Bool :=
  if k = 1 then [true, true, true, false, true] else if k = 2 then [true, true, true, true, true] else if k = 3 then [false, false, true, true, true]
  else if k = 4 then [true, false, true, false, true] else [false, false, true, false, true]

/-- the reference's reading of one damage -/
def spOne (ws : List (List UInt8)) : Option Dm :=
  match ws with
  | [] => none
  | h :: t => if kindOf h = 0 then none else match spNums (spFl (kindOf h)) t with
    | some [r, c, t, w, g] => some ⟨kindOf h, r, c, t, w, g⟩
    | _ => none

theorem spOne_txt (d : Dm) (h : d.ok = true) : spOne (txtD d) = some d := by
  have hb := dm_bounds h
  have hp := ok_parts d h
  obtain ⟨k, r, c, t, w, g⟩ := d
  try dsimp only at hb
  try dsimp only at hp
  have sr := sgnS_itoa r (by omega) (by omega)
  have sc := sgnS_itoa c (by omega) (by omega)
  have st := sgnS_itoa t (by omega) (by omega)
  have sw := sgnS_itoa w (by omega) (by omega)
  have sg := sgnS_itoa g (by omega) (by omega)
  obtain ⟨k1, k2, k3, k4, k5⟩ := kind_words
  rcases hp with ⟨rfl, rfl⟩ | rfl | ⟨rfl, rfl, rfl⟩ | ⟨rfl, rfl, rfl⟩ | ⟨rfl, rfl, rfl, rfl⟩ <;>
    simp [txtD, spOne, k1, k2, k3, k4, k5, spFl, spNums, sr, sc, st, sw, sg]

/-- the reference's reading of texts -/
def spAll : List (List UInt8) → Option (List Dm)
  | [] => some []
  | p :: t => match spOne (cut 32 p) with
    | none => none
    | some d => match spAll t with
      | none => none
      | some ds => some (d :: ds)

theorem spAll_len : ∀ (ps : List (List UInt8)) (ds : List Dm), spAll ps = some ds → ds.length = ps.length
  | [], ds, h => by simp [spAll] at h; subst h; rfl
  | p :: t, ds, h => by
    rw [spAll] at h
    split at h
    · cases h
    · split at h
      · cases h
      · rename_i es he
        cases h
        simp [spAll_len t es he]

theorem spAll_lines : ∀ ds : List Dm, (∀ d ∈ ds, d.ok = true) → spAll (ds.map lineD) = some ds
  | [], _ => rfl
  | d :: ds, h => by
    rw [List.map_cons, spAll, cut_line, spOne_txt d (h d (by simp)), spAll_lines ds (fun e he => h e (by simp [he]))]

/-- the text of damages; no byte if they are not valid -/
def dtext (ds : List Dm) : List UInt8 := if ds.length ≤ 20 ∧ (∀ d ∈ ds, d.ok = true) then textD ds else []

/-- the damages whose text a text of one byte or more is, as the reference reads it -/
def spText (s : List UInt8) : Option (List Dm) :=
  match spAll (cut 59 s) with
  | none => none
  | some ds => if dtext ds = s then some ds else none

/-- both read the same -/
theorem rd_sp (s : List UInt8) (hs : s ≠ []) : rdText s = spText s := by
  cases hr : rdText s with
  | some ds =>
    obtain ⟨h0, hl, hok, he⟩ := (rdText_iff s ds).1 hr
    have hc : cut 59 s = ds.map lineD := by rw [he]; exact cut_text ds h0
    unfold spText
    rw [hc, spAll_lines ds hok]
    simp only []
    rw [if_pos (by rw [dtext, if_pos ⟨hl, hok⟩, he])]
  | none =>
    cases hp : spText s with
    | none => rfl
    | some ds =>
      exfalso
      unfold spText at hp
      split at hp
      · cases hp
      · rename_i es hes
        split at hp
        · rename_i ht
          cases hp
          have hlen := spAll_len _ _ hes
          unfold dtext at ht
          split at ht
          · rename_i hv
            have h0 : ds ≠ [] := by
              intro e
              have := cut_ne 59 s
              rw [e] at hlen
              exact this (List.eq_nil_of_length_eq_zero hlen.symm)
            have := (rdText_iff s ds).2 ⟨h0, hv.1, hv.2, ht.symm⟩
            rw [hr] at this; cases this
          · exact hs ht.symm
        · cases hp

end Go.Proofs.YtfhnmmdopncohaaDoor
