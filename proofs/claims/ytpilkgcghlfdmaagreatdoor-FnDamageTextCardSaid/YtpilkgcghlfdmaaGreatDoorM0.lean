import Derived.Test.YtpilkgcghlfdmaaGreatDoorRows
import Derived.WalkKit
import Derived.WalkSpells
import Derived.WalkLawsBesides
import Derived.Deep.QuietTactic
import Derived.BigQuiet
import Derived.Deep.RegionLaw
import Derived.Deep.DeepFit
import Derived.Deep.DeepMust
import Derived.Lib.Hide
import Derived.Test.YtpilkgcghlfdmaaGreatDoorShelf
import Derived.Lib.ItoaLen
import Derived.Lib.ItoaMem
import Derived.Test.YtpilkgcghlfdmaaGreatDoorCards
import Derived.Test.YtpilkgcghlfdmaaGreatDoorTie
import Derived.ProofKit
import Derived.OpenShut
import Derived.Deep.DeepHandedRow
import Derived.Lib.LaidTab
import Derived.Stop.LaidErr
import Derived.Lib.ParseIntBTie
import Derived.IntWalk
import Derived.ChangeSlices
import Derived.Lib.Repeat
import Derived.Deep.RegionWith
import Derived.Laws.BytesArg
namespace Go.Proofs.YtpilkgcghlfdmaaGreatDoor
open Go.RowKit

theorem bcell {W w1 : World} {B : Nat} (hb : Below B W w1) : (∀ b o, b < B → w1.cell? ⟨b, o, none⟩ = W.cell? ⟨b, o, none⟩) ∧ (∀ b o, b < B → w1.frozen? ⟨b, o, none⟩ = W.frozen? ⟨b, o, none⟩) :=
  ⟨fun b o h => hb.cell (p := ⟨b, o, none⟩) h, fun b o h => hb.frozen (p := ⟨b, o, none⟩) h⟩

theorem lt_of_cell {w : World} {b o : Nat} {v : Value} (h : w.cell? ⟨b, o, none⟩ = some v) : b < w.heap.size := World.block_lt_of_cell? w ⟨b, o, none⟩ h

theorem ba1 (w : World) (o : Obj) : Below w.heap.size w (w.alloc o) := (Below.refl _ _).alloc (Nat.le_refl _) _
theorem ba2 (w : World) (o o' : Obj) : Below w.heap.size w ((w.alloc o).alloc o') := (ba1 w o).alloc (by simp) _
theorem ba3 (w : World) (o o' o'' : Obj) : Below w.heap.size w (((w.alloc o).alloc o').alloc o'') := (ba2 w o o').alloc (by simp; omega) _
theorem ba4 (w : World) (o o' o'' o3 : Obj) : Below w.heap.size w ((((w.alloc o).alloc o').alloc o'').alloc o3) := (ba3 w o o' o'').alloc (by simp; omega) _
theorem bt0 {B : Nat} {a b c : World} (h : Below B a b) (k : Below b.heap.size b c) (hB : B ≤ a.heap.size) : Below B a c := h.trans (k.mono (Nat.le_trans hB h.size))
theorem bt1 {w w1 : World} {o : Obj} (h : Below (w.alloc o).heap.size (w.alloc o) w1) : Below w.heap.size w w1 := bt0 (ba1 w o) h (Nat.le_refl _)
theorem bt2 {w w1 : World} {o o' : Obj} (h : Below ((w.alloc o).alloc o').heap.size ((w.alloc o).alloc o') w1) : Below w.heap.size w w1 := bt0 (ba2 w o o') h (Nat.le_refl _)
theorem bt3 {w w1 : World} {o o' o'' : Obj} (h : Below (((w.alloc o).alloc o').alloc o'').heap.size (((w.alloc o).alloc o').alloc o'') w1) : Below w.heap.size w w1 := bt0 (ba3 w o o' o'') h (Nat.le_refl _)

theorem undrew {w w1 : World} (h : Below w.drew.heap.size w.drew w1) : Below w.heap.size w w1 := ⟨h.os, h.tape, h.output, h.size, h.block⟩

/-- a new block's cells, behind a call -/
theorem box1 {w w1 : World} {cs : Array Value} {t : TypeId} (hb : Below (w.alloc (.cells cs t)).heap.size (w.alloc (.cells cs t)) w1) : ∀ i, w1.cell? ⟨w.heap.size, i, none⟩ = cs[i]? := fun i => by
  rw [hb.cell (p := ⟨w.heap.size, i, none⟩) (by simp)]; simp
theorem boxK {w w1 : World} {b : Nat} {cs : Array Value} (hb : Below w.heap.size w w1) (h : ∀ i, w.cell? ⟨b, i, none⟩ = cs[i]?) (h0 : 0 < cs.size) : ∀ i, w1.cell? ⟨b, i, none⟩ = cs[i]? := fun i => by
  have h1 : b < w.heap.size := lt_of_cell (v := cs[0]) (by rw [h 0]; simp [h0])
  rw [hb.cell (p := ⟨b, i, none⟩) h1]; exact h i
theorem boxLt {w : World} {b : Nat} {cs : Array Value} (h : ∀ i, w.cell? ⟨b, i, none⟩ = cs[i]?) (h0 : 0 < cs.size) : b < w.heap.size := lt_of_cell (v := cs[0]) (by rw [h 0]; simp [h0])

/-- the slice at address a holds the numbers zs -/
def IntsAt (w : World) (a : Option Addr) (zs : List Int) : Prop :=
  ∀ i (h : i < zs.length), ∃ b o, a = some ⟨b, o, none⟩ ∧ w.cell? ⟨b, o + i, none⟩ = some (.int .i64 zs[i])

theorem IntsAt.at {w : World} {a : Option Addr} {zs : List Int} (H : IntsAt w a zs) {k : Nat} (hk : k < zs.length) :
    ∃ b o z, a = some ⟨b, o, none⟩ ∧ zs[k]? = some z ∧ b < w.heap.size ∧ w.cell? ⟨b, o + k, none⟩ = some (.int .i64 z) := by
  obtain ⟨b, o, ha, hc⟩ := H k hk
  exact ⟨b, o, zs[k], ha, List.getElem?_eq_getElem hk, lt_of_cell hc, hc⟩

theorem IntsAt.below {w w' : World} {a : Option Addr} {zs : List Int} (H : IntsAt w a zs) (hb : Below w.heap.size w w') : IntsAt w' a zs := by
  intro i h
  obtain ⟨b, o, ha, hc⟩ := H i h
  exact ⟨b, o, ha, by rw [hb.cell (p := ⟨b, o + i, none⟩) (lt_of_cell hc)]; exact hc⟩

theorem IntsAt.nil {w : World} {a : Option Addr} : IntsAt w a [] := fun i h => absurd h (by simp)

theorem take_snoc' {α : Type} {zs : List α} {k : Nat} {z : α} (h : zs[k]? = some z) : zs.take (k + 1) = zs.take k ++ [z] := by
  rw [List.take_add_one, h]; rfl

theorem ret_int {k : IntKind} {a b : Int} (h : a = b) : Ending.returned (.int k a) = .returned (.int k b) := by rw [h]
theorem ret_str {a b : ByteArray} (h : a = b) : Ending.returned (.string a) = .returned (.string b) := by rw [h]
theorem ret_bool {a b : Bool} (h : a = b) : Ending.returned (.bool a) = .returned (.bool b) := by rw [h]

/-- the worlds that keep all that is in w -/
def Ext (w : World) : Type := { w' : World // Below w.heap.size w w' }
instance extNonempty (w : World) : Nonempty (Ext w) := ⟨⟨w, Below.refl _ _⟩⟩
def Ext.w {w : World} (s : Ext w) : World := s.1
theorem Ext.below {w : World} (s : Ext w) : Below w.heap.size w s.w := s.2
@[go_sem] theorem Ext.cell {w : World} (s : Ext w) (b o : Nat) (h : b < w.heap.size) : s.w.cell? ⟨b, o, none⟩ = w.cell? ⟨b, o, none⟩ := s.2.cell (p := ⟨b, o, none⟩) h
@[go_sem] theorem Ext.frozen {w : World} (s : Ext w) (b o : Nat) (h : b < w.heap.size) : s.w.frozen? ⟨b, o, none⟩ = w.frozen? ⟨b, o, none⟩ := s.2.frozen (p := ⟨b, o, none⟩) h

theorem wp_region_ext {P : Program} {id : Nat} {Q : Exit → Act → World → Prop} {a : Act} {w : World} {l : List Oper} (hm : P.follows .mixedOrders = true) (hB : Region.lexB .any l.toArray = true)
    (h : wpQuiet P l.toArray (fun w' => ∃ s : Ext w, w' = s.w) (fun a' => ∀ w', (∃ s : Ext w, w' = s.w) → Q .normal a' w') l a) : (Code.region id l.toArray true).wp P Q a w :=
  wp_region_quiet (C := fun w' => ∃ s : Ext w, w' = s.w) hm hB ⟨⟨_, (Below.refl _ _).drew⟩, rfl⟩ (by simpa using h)

theorem calls_ext {P : Program} {f : FuncId} {args : Array Value} {w : World} {v : Value} (s : Ext w)
    (h : Calls P f args s.w fun e w' => e = .returned v ∧ Below s.w.heap.size s.w w') : Calls P f args s.w fun e w'' => e = .returned v ∧ ∃ s' : Ext w, w'' = s'.w :=
  h.mono fun _ w' ⟨he, hb⟩ => ⟨he, ⟨w', s.below.trans (hb.mono s.below.size)⟩, rfl⟩
theorem calls_ext_same {P : Program} {f : FuncId} {args : Array Value} {w : World} {v : Value} (s : Ext w)
    (h : Calls P f args s.w fun e w' => e = .returned v ∧ s.w = w') : Calls P f args s.w fun e w'' => e = .returned v ∧ ∃ s' : Ext w, w'' = s'.w :=
  h.mono fun _ _ ⟨he, hb⟩ => ⟨he, s, hb.symm⟩

/-- the slice v is the call's own (blocks from base on) and holds the numbers zs -/
def OwnI (w : World) (base : Nat) (v : Value) (zs : List Int) : Prop := w.ownsRow base 2 1 v zs.length (zs.map (Value.int .i64))

theorem OwnI.read {w : World} {base : Nat} {v : Value} {zs : List Int} (h : OwnI w base v zs) : ∃ a c, v = .slice a zs.length c ∧ IntsAt w a zs := by
  unfold OwnI at h
  have h2 := h.2
  rcases h2 with ⟨rfl, h0⟩ | ⟨g, cap, cur, rfl, hb, hg, hn, hm, hs, ht⟩
  · refine ⟨none, 0, by rw [h0], ?_⟩
    intro i hi; omega
  · refine ⟨some ⟨g, 0, none⟩, cap, rfl, ?_⟩
    intro i hi
    refine ⟨g, 0, rfl, ?_⟩
    rw [Nat.zero_add, h.cellAt i (by omega)]
    simp [hi]

theorem OwnI.len {w : World} {base : Nat} {v : Value} {zs : List Int} (h : OwnI w base v zs) : zs.length ≤ maxLen := by
  rcases h.2 with ⟨_, h0⟩ | ⟨g, cap, cur, rfl, hb, hg, hn, hm, hs, ht⟩
  · rw [h0]; exact Nat.zero_le _
  · omega

/-- a slice of the call's own that is not empty -/
theorem OwnI.block {w : World} {base : Nat} {a : Option Addr} {n c : Nat} {zs : List Int} (h : OwnI w base (.slice a n c) zs) (hk : 0 < zs.length) : ∃ g, a = some ⟨g, 0, none⟩ ∧ base ≤ g ∧ n = zs.length ∧ g < w.heap.size := by
  rcases h.2 with ⟨h1, h0⟩ | ⟨g, cap, cur, h1, hb, hg, _⟩
  · omega
  · simp only [Value.slice.injEq] at h1
    obtain ⟨rfl, rfl, rfl⟩ := h1
    exact ⟨g, rfl, hb, rfl, (Array.getElem?_eq_some_iff.1 hg).1⟩

theorem OwnI.grown {w w' : World} {base : Nat} {v : Value} {zs : List Int} (h : OwnI w base v zs) (hb : Below w.heap.size w w') : OwnI w' base v zs :=
  h.kept (row := none) ⟨hb.os, hb.tape, hb.output, hb.size, fun k hk _ => hb.block k hk⟩ (by cases hv : v.ownBlock <;> simp)

theorem OwnI.weak {w : World} {base base' : Nat} {v : Value} {zs : List Int} (h : OwnI w base v zs) (hb : base' ≤ base) : OwnI w base' v zs := by
  refine ⟨h.1, ?_⟩
  rcases h.2 with h2 | ⟨g, cap, cur, h1, hb', r⟩
  · exact Or.inl h2
  · exact Or.inr ⟨g, cap, cur, h1, by omega, r⟩

theorem OwnI.setOld {w : World} {base : Nat} {v : Value} {zs : List Int} (h : OwnI w base v zs) {a : Addr} (ha : a.block < base) (u : Value) : OwnI (w.setCell a u) base v zs := ownsRow_setCell_below h ha u

theorem OwnI.drew {w : World} {base : Nat} {v : Value} {zs : List Int} (h : OwnI w base v zs) : OwnI w.drew base v zs := h

theorem grownBy_trans {a b c : World} {row : Option Nat} (h : a.grownBy b row) (k : b.grownBy c row) : a.grownBy c row :=
  ⟨k.os.trans h.os, k.tape.trans h.tape, k.output.trans h.output, Nat.le_trans h.size k.size, fun i hi hr => (k.block i (Nat.lt_of_lt_of_le hi h.size) hr).trans (h.block i hi hr)⟩

theorem below_of_grownBy {B : Nat} {w w' : World} {row : Option Nat} (h : w.grownBy w' row) (hB : B ≤ w.heap.size) (hr : ∀ k, row = some k → B ≤ k) : Below B w w' :=
  (Below.refl B w).grown h hB hr


theorem infoI : (Tryz.prog.info? 2).map (fun i => (i.zero, i.size, i.bytes)) = some (some (.int .i64 0), 1, 8) := by kernel_rfl

theorem OwnI.cellAt {w : World} {base g n c : Nat} {zs : List Int} (h : OwnI w base (.slice (some ⟨g, 0, none⟩) n c) zs) (hn : n = zs.length) {k : Nat} (hk : k < zs.length) :
    ∃ z, zs[k]? = some z ∧ w.cell? ⟨g, k, none⟩ = some (.int .i64 z) ∧ w.frozen? ⟨g, k, none⟩ = false := by
  subst hn
  refine ⟨zs[k], by simp [hk], ?_, h.frozenAt k⟩
  rw [World.ownsRow.cellAt h k (by omega)]
  simp [hk]

theorem OwnI.stored {w : World} {base g n c : Nat} {zs : List Int} (h : OwnI w base (.slice (some ⟨g, 0, none⟩) n c) zs) (hn : n = zs.length) (k : Nat) (z : Int) :
    OwnI (w.setCell ⟨g, k, none⟩ (.int .i64 z)) base (.slice (some ⟨g, 0, none⟩) n c) (zs.set k z) ∧ w.grownBy (w.setCell ⟨g, k, none⟩ (.int .i64 z)) (some g) := by
  subst hn
  have hst := World.ownsRow.stored (h := h) k (.int .i64 z)
  refine ⟨?_, hst.2⟩
  unfold OwnI
  rw [List.map_set, List.length_set]
  exact hst.1

theorem OwnI.of_made {w : World} {base : Nat} {v : Value} {n : Nat} (h : w.ownsRow base 2 1 v n (madeCells #[.int .i64 0] n).toList) : OwnI w base v (List.replicate n 0) := by
  unfold OwnI
  rw [toList_madeCells_one] at h
  simpa using h

theorem heap_cellR {w : World} {g : Nat} {C : Array Value} {t : TypeId} (h : w.heap[g]? = some (.cells C t (0, 0))) : (∀ i, w.cell? ⟨g, i, none⟩ = C[i]?) ∧ (∀ i, w.frozen? ⟨g, i, none⟩ = false) := ⟨fun i => by simp [World.cell?, h], fun i => by simp [World.frozen?, h]⟩

end Go.Proofs.YtpilkgcghlfdmaaGreatDoor
namespace Go.Proofs.YtpilkgcghlfdmaaGreatDoor
open Go.RowKit

/-- the library's table of powers of ten lies in memory -/
def Tab (w : World) : Prop := Lib.TabIs Tryz.prog w "internal/strconv.uint64pow10" .u64 Lib.pow10Tab

theorem gTab : Tryz.prog.globalNamed "internal/strconv.uint64pow10" = some 1 := by kernel_rfl

theorem Tab.lt {w : World} (h : Tab w) : 1 < w.heap.size := by
  have hc := Lib.TabIs.cell h gTab 0 (by decide)
  exact lt_of_cell hc

theorem Tab.below {w w' : World} {B : Nat} (h : Tab w) (hb : Below B w w') (hB : 1 < B) : Tab w' :=
  var?_below hb gTab hB h

theorem Tab.next {w w' : World} (h : Tab w) (hb : Below w.heap.size w w') : Tab w' := h.below hb h.lt

theorem Tab.alloc {w : World} (h : Tab w) (o : Obj) : Tab (w.alloc o) := h.next ((Below.refl _ _).alloc (Nat.le_refl _) _)
theorem Tab.ext {w : World} (h : Tab w) (s : Ext w) : Tab s.w := h.next s.below

/-- a number in decimal -/
def decB (n : Int) : ByteArray := ⟨(Lib.itoa n).toArray⟩

theorem decB_size (n : Int) : (decB n).size = (Lib.itoa n).length := by simp [decB, ByteArray.size]

theorem below_grow (w : World) (k : Nat) (os : Array Obj) : Below w.heap.size w (Go.Sort.grow (w.drewN k) os) := by
  refine ⟨rfl, rfl, rfl, ?_, ?_⟩
  · simp [Go.Sort.grow, World.drewN]
  · intro i hi
    simp only [Go.Sort.grow, World.drewN]
    rw [Array.getElem?_append_left hi]

theorem formatInt_any (n : Int) (w : World) (h0 : -9223372036854775808 ≤ n) (h1 : n ≤ 9223372036854775807) (ht : Tab w) :
    Calls Tryz.prog 62 #[.int .i64 n, .int .i64 10] w fun e w' => e = .returned (.string (decB n)) ∧ Below w.heap.size w w' :=
  (Tryz.strconv_FormatInt_10 n h0 h1 w ht).mono fun _ _ ⟨he, k, os, hw⟩ => ⟨he, by rw [hw]; exact below_grow _ _ _⟩

end Go.Proofs.YtpilkgcghlfdmaaGreatDoor
namespace Go.Proofs.YtpilkgcghlfdmaaGreatDoor
open Go.ChangeShapes Go.WideShapes Go.ChangeAt Go.RowKit

theorem ownLaw : ownKnob Tryz.prog.godebug = none := by kernel_rfl
theorem laidOutLaw : laidOutB Tryz.prog = true := by kernel_rfl
theorem gTabType : (Tryz.prog.globals[1]?).map (·.type) = some 189 := by kernel_rfl
theorem cellsTab : Tryz.prog.cellsOf 189 = 20 := by kernel_rfl
theorem cellsU64 : Tryz.prog.cellsOf 46 = 1 := by kernel_rfl

/-- the arguments read behind a call that keeps memory as they did -/
theorem trodAll_below {H : Type} {enc : TypeId × Value → H} {P : Program} (hl : laidOutB P = true) {W W' : World} (hb : Below W.heap.size W W') :
    ∀ (ts : List TypeId) (vs : List Value) (ds : List (DataW H)) (ps : List MemPlace), (∀ t ∈ ts, P.readableRec t = true ∧ t < P.types.size) → DataW.TrodAll enc P W 0 (fun _ => true) true ts vs ds ps → (∀ x ∈ ps, x.block < W.heap.size) →
      DataW.TrodAll enc P W' 0 (fun b => decide (b < W.heap.size)) true ts vs ds ps
  | [], [], [], ps, _, h, _ => h
  | t :: ts, v :: vs, d :: ds, ps, hr, h, hlt => by
    obtain ⟨p, q, h1, h2, rfl⟩ := h
    refine ⟨p, q, ?_, ?_, rfl⟩
    · exact Below.trod hl (hr t (by simp)).1 (hr t (by simp)).2 h1 hb (fun x hx => hlt x (by simp [hx]))
    · exact trodAll_below hl hb ts vs ds q (fun t ht => hr t (by simp [ht])) h2 (fun x hx => hlt x (by simp [hx]))

/-- what a law owes behind its call -/
theorem law_post {H : Type} {enc : TypeId × Value → H} {f : Func} {s : ChangeSpec} {W W' : World} {args : Array Value} {ds gs : List (DataW H)} {before : List MemPlace}
    (hW : DataW.Whole enc Tryz.prog f.params.toList s.vars false W args.toList ds gs before) (hv : s.vars = []) (hres : f.resultTypes = #[4]) (hb : Below W.heap.size W W')
    (hfn : ∀ gs, gs = [] → s.fn H (ds ++ gs) = { results := [.lit (.bool true)], args := ds }) (hr : ∀ t ∈ f.params.toList, Tryz.prog.readableRec t = true ∧ t < Tryz.prog.types.size) :
    s.post enc Tryz.prog f false true false false W args (.bool true) W' := by
  have hW' := hW
  obtain ⟨p, q, hA, hV, rfl, hfz, hnd⟩ := hW
  rw [hv] at hV
  obtain ⟨rfl, rfl⟩ := trodVars_none hV
  have hlt : ∀ x ∈ p ++ [], x.block < W.heap.size := hW'.lt
  refine ⟨ds, [], p ++ [], [], p, [], hW', ?_, ?_, ?_, hb.frame _, fun h => by cases h⟩
  · rw [hfn [] rfl, hres]
    exact trodAll_mk1 (shut_bool Tryz.underlying4 _)
  · rw [hfn [] rfl]
    exact trodAll_below laidOutLaw hb _ _ _ _ hr hA (fun x hx => hlt x (by simpa using hx))
  · rw [hfn [] rfl, hv]
    exact rfl

end Go.Proofs.YtpilkgcghlfdmaaGreatDoor
namespace Go.Proofs.YtpilkgcghlfdmaaGreatDoor
open Go.ChangeShapes Go.WideShapes Go.ChangeAt Go.RowKit

/-- the cells of a table that a row lists -/
def tabCells : DataW Unit → Array Value
  | .agg l => (l.map fun | .lit (.int k n) => .int k n | _ => undef).toArray
  | _ => #[]
/-- a block with other cells -/
def withCells (cs : Array Value) : Obj → Obj
  | .cells _ t frozen => .cells cs t frozen
  | o => o
/-- the heap with the listed tables -/
def laidHeap (P : Program) (laid : List (String × DataW Unit)) (h : Array Obj) : Array Obj :=
  laid.foldl (fun h nd => h.modify ((P.globalNamed nd.1).getD 0) (withCells (tabCells nd.2))) h

/-- a world for the witness: the settled one, each listed table holding what its initialiser lays -/
noncomputable def laidWorld (laid : List (String × DataW Unit)) (os : Os) : World :=
  { World.holding Tryz.prog os ⟨#[], #[], []⟩ with heap := laidHeap Tryz.prog laid (World.holding Tryz.prog os ⟨#[], #[], []⟩).heap }

theorem laidMet_mem {P : Program} {W : World} {x : String × DataW Unit} : ∀ {laid : List (String × DataW Unit)}, laidMet P laid W → x ∈ laid → ∃ r, laidMet P (x :: r) W
  | y :: r, h, hm => by
    rcases List.mem_cons.1 hm with rfl | hm
    · exact ⟨r, h⟩
    · exact laidMet_mem h.tail hm

/-- the table of powers lies in memory -/
theorem tab_of {W : World} {laid : List (String × DataW Unit)} (h : laidMet Tryz.prog laid W) (hm : ("internal/strconv.uint64pow10", Lib.tabData .u64 Lib.pow10Tab) ∈ laid) : Tab W := by
  obtain ⟨r, hr⟩ := laidMet_mem h hm
  exact Lib.tabIs_of_head gTab gTabType Tryz.underlying189 Tryz.underlying46 cellsU64 cellsTab hr

end Go.Proofs.YtpilkgcghlfdmaaGreatDoor
namespace Go.Proofs.YtpilkgcghlfdmaaGreatDoor
open Go.RowKit

/-- what the library's variables hold -/
structure Env (w : World) : Prop where
  tab : Tab w
  syn : ∃ tp p, w.var? Tryz.prog "strconv.ErrSyntax" = some #[.iface tp p]
  rng : ∃ tp p, w.var? Tryz.prog "strconv.ErrRange" = some #[.iface tp p]
  mx : ∃ m, w.cell? ⟨0, 0, none⟩ = some (.int .i64 m)

theorem gSyn : Tryz.prog.globalNamed "strconv.ErrSyntax" = some 4 := by kernel_rfl
theorem gRng : Tryz.prog.globalNamed "strconv.ErrRange" = some 5 := by kernel_rfl
theorem var_lt {w : World} {n : String} {g : Nat} {v : Value} (hg : Tryz.prog.globalNamed n = some g) (h : w.var? Tryz.prog n = some #[v]) : g < w.heap.size :=
  lt_of_cell (v := v) (by have := World.var?_cell hg h 0; simpa using this)
theorem Env.next {w w' : World} (h : Env w) (hb : Below w.heap.size w w') : Env w' := by
  obtain ⟨t, ⟨a, b, hs⟩, ⟨c, d, hr⟩, ⟨m, hm⟩⟩ := h
  exact ⟨t.next hb, ⟨a, b, var?_below hb gSyn (var_lt gSyn hs) hs⟩, ⟨c, d, var?_below hb gRng (var_lt gRng hr) hr⟩, ⟨m, by rw [hb.cell (p := ⟨_, 0, none⟩) (lt_of_cell hm)]; exact hm⟩⟩
theorem Env.alloc {w : World} (h : Env w) (o : Obj) : Env (w.alloc o) := h.next (ba1 w o)

theorem below_bytes {w w' : World} (h : w' = w ∨ ∃ t, w' = Lib.bytesWorld w 5 t) : Below w.heap.size w w' := by
  rcases h with rfl | ⟨t, rfl⟩
  · exact Below.refl _ _
  · exact Lib.bytesWorld_below _ _ _

/-- what ParseInt gives: the number, and whether it read one -/
theorem parse_any (s : ByteArray) (w : World) (hs : s.size ≤ 281474976710656) (hE : Env w) :
    Calls Tryz.prog 103 #[.string s, .int .i64 10, .int .i64 64] w fun e w' =>
      ((∃ n, Lib.parseIntB 64 s.data.toList = .ok n ∧ e = .returned (.tuple #[.int .i64 n, .nilIface])) ∨
       ((∀ n, Lib.parseIntB 64 s.data.toList ≠ .ok n) ∧ ∃ v t p, e = .returned (.tuple #[.int .i64 v, .iface t p]))) ∧ Below w.heap.size w w' := by
  obtain ⟨_, ⟨a, b, hsy⟩, ⟨c, d, hrg⟩, _⟩ := hE
  cases hp : Lib.parseIntB 64 s.data.toList with
  | ok n => exact (Tryz.strconv_ParseInt_10_at64_ok s (by omega) n hp w).mono fun e w' ⟨he, hw⟩ => ⟨.inl ⟨n, rfl, he⟩, below_bytes hw⟩
  | «syntax» => exact (Tryz.strconv_ParseInt_10_at64_syntax_var s hs hp a b w hsy).mono fun e w' ⟨N, he, _, _, hb⟩ => ⟨.inr ⟨fun n h => (by cases h), _, _, _, he⟩, hb⟩
  | range => exact (Tryz.strconv_ParseInt_10_at64_range_var s hs hp c d w hrg).mono fun e w' ⟨N, he, _, _, hb⟩ => ⟨.inr ⟨fun n h => (by cases h), _, _, _, he⟩, hb⟩

end Go.Proofs.YtpilkgcghlfdmaaGreatDoor
namespace Go.Proofs.YtpilkgcghlfdmaaGreatDoor
open Go.ChangeShapes Go.WideShapes Go.ChangeAt Go.RowKit

theorem star : "*" ++ "errors.errorString" = "*errors.errorString" := by decide
theorem rowErr (u : TypeId) (h : Tryz.prog.typeName? 3 u = some "*errors.errorString") : u = 222 :=
  typeName_ptr_named (nm := "errors.errorString") (by rw [star]; kernel_rfl) (by kernel_rfl) (by decide) u (by rw [star]; exact h)
theorem gSynType : (Tryz.prog.globals[4]?).map (·.type) = some 120 := by kernel_rfl
theorem gRngType : (Tryz.prog.globals[5]?).map (·.type) = some 120 := by kernel_rfl
theorem cellsErr : Tryz.prog.cellsOf 224 = 1 := by kernel_rfl
theorem cellsStr2 : Tryz.prog.cellsOf 9 = 1 := by kernel_rfl

/-- what a row that lists the library's variables gives -/
theorem env_of {W : World} {laid : List (String × DataW Unit)} (h : laidMet Tryz.prog laid W) (hsh : W.ShapedOpen Tryz.prog) (hm : ("internal/strconv.uint64pow10", Lib.tabData .u64 Lib.pow10Tab) ∈ laid)
    (hs : ∃ t, (("strconv.ErrSyntax", .iface "*errors.errorString" (.ptr (.agg [.lit (.string t)]))) : String × DataW Unit) ∈ laid)
    (hr : ∃ t, (("strconv.ErrRange", .iface "*errors.errorString" (.ptr (.agg [.lit (.string t)]))) : String × DataW Unit) ∈ laid) : Env W := by
  obtain ⟨ts, hs⟩ := hs
  obtain ⟨tr, hr⟩ := hr
  obtain ⟨rs, hrs⟩ := laidMet_mem h hs
  obtain ⟨rr, hrr⟩ := laidMet_mem h hr
  obtain ⟨a1, s1, hv1, _⟩ := laid_sentinel hrs gSyn gSynType Tryz.underlying120 rowErr Tryz.underlying222 Tryz.underlying224 rfl rfl Tryz.underlying9 cellsErr cellsStr2
  obtain ⟨a2, s2, hv2, _⟩ := laid_sentinel hrr gRng gRngType Tryz.underlying120 rowErr Tryz.underlying222 Tryz.underlying224 rfl rfl Tryz.underlying9 cellsErr cellsStr2
  exact ⟨tab_of h hm, ⟨_, _, hv1⟩, ⟨_, _, hv2⟩, cell_of_shapedOpen_int (zero := #[.int .i64 0]) (t := 3) hsh (of_decide_eq_true (by kernel_rfl)) (by kernel_rfl) rfl (by kernel_rfl) (by kernel_rfl) Tryz.underlying3⟩

/-- the cells of what a row lists -/
def datCells : Nat → DataW Unit → List Value
  | 0, _ => []
  | _ + 1, .lit (.int k n) => [.int k n]
  | f + 1, .agg l => l.flatMap (datCells f)
  | _ + 1, _ => []
/-- a text behind a sentinel -/
def sentText : DataW Unit → Option (List UInt8)
  | .iface _ (.ptr (.agg [.lit (.string t)])) => some t
  | _ => none
/-- the blocks of the sentinels -/
def sentBlocks (laid : List (String × DataW Unit)) : List Obj := laid.filterMap fun nd => (sentText nd.2).map fun t => .cells #[.string ⟨t.toArray⟩] 224 (0, 0)
/-- the heap with what is listed; the sentinels' blocks begin at k -/
def laidHeap2 (P : Program) : List (String × DataW Unit) → Nat → Array Obj → Array Obj
  | [], _, h => h
  | nd :: r, k, h => match sentText nd.2 with
    | some _ => laidHeap2 P r (k + 1) (h.modify ((P.globalNamed nd.1).getD 0) (withCells #[.iface 222 (.pointer (some ⟨k, 0, none⟩))]))
    | none => laidHeap2 P r k (h.modify ((P.globalNamed nd.1).getD 0) (withCells (datCells 3 nd.2).toArray))

noncomputable def low : Nat := (World.holding Tryz.prog default ⟨#[], #[], []⟩).heap.size
/-- a world for the witness: the settled one, each listed variable holding what its initialiser lays -/
noncomputable def laidWorld2 (laid : List (String × DataW Unit)) (os : Os) : World :=
  let w0 := World.holding Tryz.prog os ⟨(sentBlocks laid).toArray, #[], []⟩
  { w0 with heap := laidHeap2 Tryz.prog laid low w0.heap }

end Go.Proofs.YtpilkgcghlfdmaaGreatDoor
namespace Go.Proofs.YtpilkgcghlfdmaaGreatDoor
open Go.ChangeShapes Go.WideShapes Go.ChangeAt Go.RowKit

section
variable {H : Type} {enc : TypeId × Value → H} {w : World} {base : Nat} {spare : Nat → Bool} {held : Bool} {fuel : Nat} {cs : List Value} {x : DataW H × List MemPlace}

theorem int_cell {k : IntKind} {t : TypeId} (ht : Tryz.prog.underlying t = some (.int k)) (hc : Tryz.prog.cellsOf t = 1) {o : Nat} (_hl : o < cs.length)
    (h : DataW.trod enc Tryz.prog w base spare held fuel t ((cs.drop o).take (Tryz.prog.cellsOf t)) = some x) : ∃ n, cs[o]? = some (.int k n) ∧ (Lit.int k n).wf = true := by
  obtain ⟨n, h1, _, h2⟩ := DataW.trod_int ht h
  refine ⟨n, ?_, h2⟩
  rw [hc] at h1
  have h3 := congrArg (fun l => l[0]?) h1
  simpa [List.getElem?_take, List.getElem?_drop] using h3
theorem string_cell {t : TypeId} (ht : Tryz.prog.underlying t = some .string) (hc : Tryz.prog.cellsOf t = 1) {o : Nat} (_hl : o < cs.length)
    (h : DataW.trod enc Tryz.prog w base spare held fuel t ((cs.drop o).take (Tryz.prog.cellsOf t)) = some x) : ∃ s : ByteArray, cs[o]? = some (.string s) ∧ s.size ≤ maxLen := by
  obtain ⟨s, h1, _, h2⟩ := DataW.trod_string ht h
  refine ⟨s, ?_, h2⟩
  rw [hc] at h1
  have h3 := congrArg (fun l => l[0]?) h1
  simpa [List.getElem?_take, List.getElem?_drop] using h3

theorem cellsI64 : Tryz.prog.cellsOf 2 = 1 := by kernel_rfl
theorem cellsStr : Tryz.prog.cellsOf 9 = 1 := by kernel_rfl
end

end Go.Proofs.YtpilkgcghlfdmaaGreatDoor
namespace Go.Proofs.YtpilkgcghlfdmaaGreatDoor
open Go.RowKit

/-- n bytes at a, in blocks below base -/
def BytesAt (w : World) (base : Nat) (a : Option Addr) (n : Nat) : Prop :=
  ∀ i, i < n → ∃ b o z, a = some ⟨b, o, none⟩ ∧ b < base ∧ w.cell? ⟨b, o + i, none⟩ = some (.int .u8 z) ∧ 0 ≤ z ∧ z ≤ 255

theorem BytesAt.kept {w w' : World} {base : Nat} {a : Option Addr} {n : Nat} (h : BytesAt w base a n) (hb : ∀ k, k < base → w'.heap[k]? = w.heap[k]?) : BytesAt w' base a n := by
  intro i hi
  obtain ⟨b, o, z, ha, hlt, hc, hz⟩ := h i hi
  exact ⟨b, o, z, ha, hlt, by rw [World.cell?_of_block (w := w) (a := ⟨b, o + i, none⟩) (hb b hlt)]; exact hc, hz⟩

/-- block b is a source of drawn numbers -/
def SrcAt (w : World) (b : Nat) (a : Option Addr) (n c : Nat) (at_ seed : Int) (base : Nat) : Prop :=
  base ≤ b ∧ BytesAt w base a n ∧ w.heap[b]? = some (.cells #[.slice a n c, .int .i64 at_, .int .i64 seed] 107 (0, 0)) ∧ n ≤ 4096 ∧ 0 ≤ at_ ∧ at_ ≤ n ∧ 0 ≤ seed ∧ seed < 2147483647
def Src (w : World) (b : Nat) : Prop := ∃ a n c at_ seed base, SrcAt w b a n c at_ seed base

theorem Src.lt {w : World} {b : Nat} (h : Src w b) : b < w.heap.size := by
  obtain ⟨a, n, c, at_, seed, base, _, _, hb, _⟩ := h
  exact (Array.getElem?_eq_some_iff.1 hb).1

/-- a source stays one while other blocks are written or made -/
theorem Src.kept {w w' : World} {b : Nat} {row : Option Nat} (h : Src w b) (hg : w.grownBy w' row) (hne : ∀ k, row = some k → b < k) : Src w' b := by
  have hlt := h.lt
  obtain ⟨a, n, c, at_, seed, base, h1, h2, h3, h4⟩ := h
  refine ⟨a, n, c, at_, seed, base, h1, h2.kept (fun k hk => hg.block k (by omega) (fun e => by have := hne k e.symm; omega)), ?_, h4⟩
  rw [hg.block b hlt (fun e => by have := hne b e.symm; omega)]
  exact h3
theorem Src.below {w w' : World} {b : Nat} (h : Src w b) (hb : Below w.heap.size w w') : Src w' b :=
  h.kept (row := none) ⟨hb.os, hb.tape, hb.output, hb.size, fun k hk _ => hb.block k hk⟩ (fun k e => by cases e)

/-- a number is drawn -/
def RetNum (w : World) (b : Nat) (n : Int) (e : Ending) (w' : World) : Prop :=
  ∃ r : Int, e = .returned (.int .i64 r) ∧ 0 ≤ r ∧ (r < n ∨ r = 0) ∧ Src w' b ∧ w.grownBy w' (some b)

theorem RetNum.mk {w w' : World} {b : Nat} {n : Int} {a : Option Addr} {m c : Nat} {at_ seed at2 seed2 r : Int} {base : Nat} (h : SrcAt w b a m c at_ seed base)
    (h' : w'.heap[b]? = some (.cells #[.slice a m c, .int .i64 at2, .int .i64 seed2] 107 (0, 0))) (hg : w.grownBy w' (some b)) (h1 : 0 ≤ at2) (h2 : at2 ≤ m) (h3 : 0 ≤ seed2) (h4 : seed2 < 2147483647) (h5 : 0 ≤ r) (h6 : r < n ∨ r = 0) :
    RetNum w b n (.returned (.int .i64 r)) w' := by
  obtain ⟨q1, q2, q3, q4, _⟩ := h
  have hlt : b < w.heap.size := (Array.getElem?_eq_some_iff.1 q3).1
  exact ⟨r, rfl, h5, h6, ⟨a, m, c, at2, seed2, base, q1, q2.kept (fun k hk => hg.block k (by omega) (fun e => by have := Option.some.inj e; omega)), h', q4, h1, h2, h3, h4⟩, hg⟩

theorem src_set {w : World} {b : Nat} {C : Array Value} {t : TypeId} {fr : Nat × Nat} (h : w.heap[b]? = some (.cells C t fr)) (i : Nat) (v : Value) : (w.setCell ⟨b, i, none⟩ v).heap[b]? = some (.cells (C.setIfInBounds i v) t fr) := by
  rw [setCell_eq_setRow w b i C t fr v h]
  exact setRow_heap w b _ _ t _ h
theorem grownBy_set (w : World) (b i : Nat) (v : Value) : w.grownBy (w.setCell ⟨b, i, none⟩ v) (some b) :=
  ⟨rfl, rfl, rfl, by simp, fun k _ hk => heap_setCell_other w ⟨b, i, none⟩ k v (fun e => hk (by simp [e]))⟩

theorem grownBy_drewN (w : World) (k : Nat) (row : Option Nat) : w.grownBy (w.drewN k) row := ⟨rfl, rfl, rfl, Nat.le_refl _, fun _ _ _ => rfl⟩
theorem src_one {w : World} {b : Nat} {x0 x1 x2 v2 : Value} {t : TypeId} {fr : Nat × Nat} (h : w.heap[b]? = some (.cells #[x0, x1, x2] t fr)) (k : Nat) :
    ((w.setCell ⟨b, 2, none⟩ v2).drewN k).heap[b]? = some (.cells #[x0, x1, v2] t fr) ∧ w.grownBy ((w.setCell ⟨b, 2, none⟩ v2).drewN k) (some b) :=
  ⟨src_set h 2 v2, grownBy_trans (grownBy_set _ _ _ _) (grownBy_drewN _ _ _)⟩
theorem src_two {w : World} {b : Nat} {x0 x1 x2 v1 v2 : Value} {t : TypeId} {fr : Nat × Nat} (h : w.heap[b]? = some (.cells #[x0, x1, x2] t fr)) (k : Nat) :
    (((w.setCell ⟨b, 2, none⟩ v2).drewN k).setCell ⟨b, 1, none⟩ v1).heap[b]? = some (.cells #[x0, v1, v2] t fr) ∧ w.grownBy (((w.setCell ⟨b, 2, none⟩ v2).drewN k).setCell ⟨b, 1, none⟩ v1) (some b) :=
  ⟨src_set (src_one h k).1 1 v1, grownBy_trans (src_one h k).2 (grownBy_set _ _ _ _)⟩

set_option maxHeartbeats 1000000 in
theorem l01Next_any (b : Nat) (n : Int) (w : World) (hs : Src w b) (hn1 : -1152921504606846976 ≤ n) (hn2 : n ≤ 1152921504606846976) :
    Calls Tryz.prog 46 #[.pointer (some ⟨b, 0, none⟩), .int .i64 n] w (RetNum w b n) := by
  obtain ⟨a, m, c, at_, seed, base, HS⟩ := hs
  have HS' := HS
  obtain ⟨q1, q2, q3, q4, q5, q6, q7, q8⟩ := HS'
  have hc0 : w.cell? ⟨b, 0, none⟩ = some (.slice a m c) := by simp [World.cell?, q3]
  have hc1 : w.cell? ⟨b, 1, none⟩ = some (.int .i64 at_) := by simp [World.cell?, q3]
  have hc2 : w.cell? ⟨b, 2, none⟩ = some (.int .i64 seed) := by simp [World.cell?, q3]
  have hf1 : w.frozen? ⟨b, 1, none⟩ = false := by simp [World.frozen?, q3]
  have hf2 : w.frozen? ⟨b, 2, none⟩ = false := by simp [World.frozen?, q3]
  have HH := Lib.hid HS
  have HB := Lib.hid q3
  have HC := Lib.hid q2
  clear HS q3 q2
  by_cases h1 : n ≤ 1
  · go_enter Tryz.func46, Tryz.ntmps46
    go_wp2_with fail
    go_ret
    exact RetNum.mk HH.out HB.out (World.grownBy.refl _ _) q5 q6 q7 q8 (Int.le_refl _) (Or.inr rfl)
  · obtain ⟨t, rfl⟩ := Int.eq_ofNat_of_zero_le q5
    have g0 : 0 ≤ (seed * 48271 + 11) % 2147483647 := by omega
    have g1 : (seed * 48271 + 11) % 2147483647 < 2147483647 := by omega
    by_cases h2 : t < m
    · obtain ⟨b1, o1, z, rfl, hb1, hz, z0, z1⟩ := HC.out t h2
      have h2' : (t : Int) < (m : Int) := by omega
      have hne : ¬ b1 = b := by have := HH.out.1; omega
      rcases (show (¬ n ≤ 256) ∨ (n ≤ 256 ∧ (((t : Int) + 1) % 2 == 0) = false) ∨ (n ≤ 256 ∧ (((t : Int) + 1) % 2 == 0) = true) by
        by_cases h : n ≤ 256
        · rcases Bool.eq_false_or_eq_true ((((t : Int) + 1) % 2 == 0)) with h4 | h4
          · exact Or.inr (Or.inr ⟨h, h4⟩)
          · exact Or.inr (Or.inl ⟨h, h4⟩)
        · exact Or.inl h) with h3 | ⟨h3, h4⟩ | ⟨h3, h4⟩
      all_goals
        go_enter Tryz.func46, Tryz.ntmps46
        go_wp2_with fail
        generalize (seed * 48271 + 11) % 2147483647 = s2 at *
        obtain ⟨x, hx⟩ : ∃ x, s2 / 17 = x := ⟨_, rfl⟩
        have x0 : 0 ≤ x := by omega
        have x1 : x < 2147483647 := by omega
        rw [hx]
        clear hx
        go_quiet (fail)
        go_wp2_with fail
        go_quiet (fail)
        go_wp2_with fail
      · go_ret
        exact RetNum.mk HH.out (src_two HB.out _).1 (src_two HB.out _).2 (by omega) (by omega) g0 g1 (Int.emod_nonneg _ (by omega)) (Or.inl (Int.emod_lt_of_pos _ (by omega)))
      · go_ret
        exact RetNum.mk HH.out (src_two HB.out _).1 (src_two HB.out _).2 (by omega) (by omega) g0 g1 (Int.emod_nonneg _ (by omega)) (Or.inl (Int.emod_lt_of_pos _ (by omega)))
      · go_quiet (fail)
        go_wp2_with fail
        go_ret
        exact RetNum.mk HH.out (src_two HB.out _).1 (grownBy_trans (src_two HB.out _).2 (grownBy_drewN _ _ _)) (by omega) (by omega) g0 g1 (Int.emod_nonneg _ (by omega)) (Or.inl (Int.emod_lt_of_pos _ (by omega)))
    · go_enter Tryz.func46, Tryz.ntmps46
      go_wp2_with fail
      generalize (seed * 48271 + 11) % 2147483647 = s2 at *
      obtain ⟨x, hx⟩ : ∃ x, s2 / 17 = x := ⟨_, rfl⟩
      have x0 : 0 ≤ x := by omega
      have x1 : x < 2147483647 := by omega
      rw [hx]
      clear hx
      go_quiet (fail)
      go_wp2_with fail
      go_ret
      exact RetNum.mk HH.out (src_one HB.out _).1 (src_one HB.out _).2 (by omega) (by omega) g0 g1 (Int.emod_nonneg _ (by omega)) (Or.inl (Int.emod_lt_of_pos _ (by omega)))

end Go.Proofs.YtpilkgcghlfdmaaGreatDoor
namespace Go.Proofs.YtpilkgcghlfdmaaGreatDoor
open Go.ChangeShapes Go.WideShapes Go.ChangeAt Go.RowKit

theorem cellsU8 : Tryz.prog.cellsOf 5 = 1 := by kernel_rfl

theorem bytesAt_of {w : World} {a : Addr} {zs : List Int} (h : ∀ i, i < zs.length → w.cell? (a.add i) = some (.int .u8 (zs.getD i 0))) (hw : ∀ n ∈ zs, (Lit.int .u8 n).wf = true) {n : Nat} (hn : n ≤ zs.length) : BytesAt w w.heap.size (some a) n := by
  intro i hi
  have h0 := h 0 (by omega)
  have hs : a.spot = none := by
    obtain ⟨b, o, s⟩ := a
    cases s with
    | none => rfl
    | some s =>
      simp only [Addr.add, if_true] at h0
      unfold World.cell? at h0
      split at h0 <;> simp at h0
  obtain ⟨b, o, s⟩ := a
  obtain rfl : s = none := hs
  have h1 := h i (by omega)
  rw [Addr.add_lit] at h1
  have hm : zs.getD i 0 ∈ zs := by
    rw [List.getD_eq_getElem?_getD, List.getElem?_eq_getElem (by omega)]
    exact List.getElem_mem _
  have hb := hw _ hm
  refine ⟨b, o, _, rfl, lt_of_cell h1, h1, ?_⟩
  have e1 : IntKind.u8.min = 0 := by decide
  have e2 : IntKind.u8.max = 255 := by decide
  generalize zs.getD i 0 = z at *
  simp [Lit.wf] at hb
  rw [e1, e2] at hb
  exact hb

set_option maxRecDepth 100000 in
/-- bytes as an argument -/
theorem open_bytes {H : Type} {enc : TypeId × Value → H} {W : World} {b0 : Nat} {r : Reach} {spare : Nat → Bool} {held : Bool} {v : Value} {d : DataW H} {ps : List MemPlace} (hv : Value.okWide Tryz.prog W r b0 22 v) (h : DataW.Trod enc Tryz.prog W 0 spare held 22 v d ps) :
    ∃ (a : Option Addr) (n c : Nat), v = .slice a n c ∧ BytesAt W W.heap.size a n := by
  obtain ⟨a, len, cap, rfl⟩ := okWide_slice Tryz.underlying22 hv
  obtain ⟨fuel, hf⟩ := h
  rcases open_ints Tryz.underlying22 Tryz.underlying5 cellsU8 hf with ⟨h1, _⟩ | ⟨a', len', cap', zs, h1, _, hl, hm, hz, _, hc, hw⟩
  · simp [Value.cells] at h1
    obtain ⟨rfl, rfl, rfl⟩ := h1
    exact ⟨Option.none, 0, 0, rfl, fun i hi => absurd hi (Nat.not_lt_zero i)⟩
  · simp [Value.cells] at h1
    obtain ⟨rfl, rfl, rfl⟩ := h1
    exact ⟨some a', len, cap, rfl, bytesAt_of hc hw (by split at hz <;> omega)⟩

end Go.Proofs.YtpilkgcghlfdmaaGreatDoor
namespace Go.Proofs.YtpilkgcghlfdmaaGreatDoor
open Go.RowKit

/-- a source is made -/
def RetSrc (w : World) (e : Ending) (w' : World) : Prop :=
  ∃ b, e = .returned (.pointer (some ⟨b, 0, none⟩)) ∧ w.heap.size ≤ b ∧ Src w' b ∧ Below w.heap.size w w'

/-- the state of the loop that makes the seed -/
def Seeding (w wr : World) (a : Option Addr) (n c : Nat) : Prop :=
  ∃ s : Int, 0 ≤ s ∧ s < 2147483647 ∧ wr.heap[w.heap.size]? = some (.cells #[.slice a n c, .int .i64 0, .int .i64 s] 107 (0, 0)) ∧ Below w.heap.size w wr

set_option maxHeartbeats 1000000 in
theorem l01From_any (a : Option Addr) (n c : Nat) (w : World) (hx : BytesAt w w.heap.size a n) (hn : n ≤ 4096) :
    Calls Tryz.prog 20 #[.slice a n c] w (RetSrc w) := by
  have HX := Lib.hid hx
  clear hx
  go_enter Tryz.func20, Tryz.ntmps20
  go_wp2_with fail
  go_loopw [4] (fun i wr => ∃ k : Nat, k ≤ n ∧ i = .int .i64 k ∧ Seeding w wr a n c) (fun i _ => n - (intOf i).toNat)
  case atStart => exact ⟨0, Nat.zero_le _, rfl, 60617, by omega, by omega, heap_alloc_new w _, ba1 _ _⟩
  case round =>
    obtain ⟨k, hk, rfl, hsd⟩ := hrel
    obtain ⟨s, s0, s1, hb, hbl⟩ := hsd
    have hc2 : wr.cell? ⟨w.heap.size, 2, none⟩ = some (.int .i64 s) := by simp [World.cell?, hb]
    have hf2 : wr.frozen? ⟨w.heap.size, 2, none⟩ = false := by simp [World.frozen?, hb]
    have HB := Lib.hid hb
    have HL := Lib.hid hbl
    clear hb hbl
    by_cases hlt : k < n
    · by_cases h64 : k < 64
      · obtain ⟨b1, o1, z, rfl, hb1, hz, z0, z1⟩ := HX.out k hlt
        have hzr : wr.cell? ⟨b1, o1 + k, none⟩ = some (.int .u8 z) := (HL.out.cell (p := ⟨b1, o1 + k, none⟩) hb1).trans hz
        have hne : ¬ b1 = w.heap.size := by omega
        have hkn : (k : Int) < (n : Int) := by omega
        have w1 : IntKind.i64.wrap (s * 43) = s * 43 := IntWalk.i64_in _ (by omega)
        have w2 : IntKind.i64.wrap z = z := IntWalk.i64_in _ (by omega)
        have w3 : IntKind.i64.wrap (s * 43 + z) = s * 43 + z := IntWalk.i64_in _ (by omega)
        have w4 : (s * 43 + z).tmod 2147483647 = (s * 43 + z) % 2147483647 := Int.tmod_eq_emod_of_nonneg (by omega)
        clear hz
        go_wp2_with fail
        go_region
        all_goals
          go_wp2_with fail
          exact ⟨⟨k + 1, by omega, by go_num, (s * 43 + z) % 2147483647, by omega, by omega, src_set HB.out 2 _, (HL.out.setCell (Nat.le_refl _) _).drew⟩, by simp [intOf]; omega⟩
      · go_wp2_with fail
        go_ret
        exact ⟨w.heap.size, rfl, Nat.le_refl _, ⟨a, n, c, 0, s, w.heap.size, Nat.le_refl _, HX.out.kept (fun k hk => HL.out.block k hk), HB.out, hn, Int.le_refl _, by omega, s0, s1⟩, HL.out⟩
    · go_wp2_with fail
      go_ret
      exact ⟨w.heap.size, rfl, Nat.le_refl _, ⟨a, n, c, 0, s, w.heap.size, Nat.le_refl _, HX.out.kept (fun k hk => HL.out.block k hk), HB.out, hn, Int.le_refl _, by omega, s0, s1⟩, HL.out⟩

end Go.Proofs.YtpilkgcghlfdmaaGreatDoor
namespace Go.Proofs.YtpilkgcghlfdmaaGreatDoor
open Go.RowKit

/-! A REGION THAT DRAWS ITS ORDER, each operation by what it leaves: whatever the order, what each operation has left stands at the end, if nothing that comes in between does away with it. -/

/-- how many are not listed -/
def unl : List Bool → Nat
  | [] => 0
  | b :: r => (if b then 0 else 1) + unl r
theorem unl_set : ∀ (l : List Bool) (i : Nat), l[i]? = some false → unl (l.set i true) + 1 = unl l
  | [], i, h => by simp at h
  | b :: r, 0, h => by simp at h; subst h; simp [unl]; omega
  | b :: r, i + 1, h => by
    have := unl_set r i (by simpa using h)
    simp only [List.set_cons_succ, unl]
    omega
theorem unl_zero : ∀ (l : List Bool), unl l = 0 → ∀ i, l.getD i true = true
  | [], _, i => by simp
  | b :: r, h, i => by
    simp only [unl] at h
    cases b with
    | false => simp at h
    | true =>
      cases i with
      | zero => simp
      | succ i => simpa using unl_zero r (by simpa using h) i
theorem unl_replicate (n : Nat) : unl (List.replicate n false) = n := by
  induction n with
  | zero => rfl
  | succ n ih => simp [List.replicate_succ, unl, ih]; omega

/-- the frame with the values us in the slots ds -/
def over (a : Act) (ds : List Nat) (us : Nat → Value) : Act := { a with tmps := a.tmps.mapIdx fun t v => if ds.contains t then us t else v }
/-- one value more -/
def upd (us : Nat → Value) (d : Option Nat) (v : Value) : Nat → Value :=
  match d with
  | some d => fun t => if t = d then v else us t
  | none => us
theorem upd_ne {us : Nat → Value} {d : Option Nat} {v : Value} {t : Nat} (h : d ≠ some t) : upd us d v t = us t := by
  cases d with
  | none => rfl
  | some d => simp only [upd]; rw [if_neg (fun e => h (by rw [e]))]

theorem over_put {a : Act} {ds : List Nat} {us : Nat → Value} {d : Option Nat} {v : Value} (h : ∀ t, d = some t → ds.contains t = true) : (over a ds us).put d v = over a ds (upd us d v) := by
  cases d with
  | none => rfl
  | some t =>
    have ht := h t rfl
    simp only [Act.put, over]
    congr 1
    apply Array.ext_getElem?
    intro i
    rw [Array.getElem?_setIfInBounds]
    simp only [Array.getElem?_mapIdx, Array.size_mapIdx]
    by_cases e : t = i
    · subst e
      simp only [if_true]
      by_cases hb : t < a.tmps.size
      · simp only [hb, if_true, Array.getElem?_eq_getElem hb, Option.map_some, ht, upd]
      · simp only [hb, if_false, Array.getElem?_eq_none (Nat.le_of_not_lt hb), Option.map_none]
    · simp only [e, if_false, upd, show ¬ i = t from fun h => e h.symm]

/-- what the tape may not do: the operations' edges, looked at once -/
def rgOk (ops : Array Oper) (m : Nat) (ds : List Nat) (sup : Nat → List Nat) : Bool :=
  (List.range ops.size).all fun j => match ops[j]? with
    | none => true
    | some o =>
      -- the slots written by the head lie in ds; what is said of an operation speaks of its own slot and of those that it waits for
      (decide (m ≤ j) || ((match o.dst with | some d => ds.contains d | none => true) &&
        (sup j).all fun t => (List.range ops.size).all fun i => match ops[i]? with
          | none => true
          | some oi => oi.dst != some t || i == j || o.after.any fun e => Region.binds .any e && e.on == i)) &&
      -- each of the tail waits for all before it, and none waits for a later one
      (decide (j < m) || (List.range j).all (fun i => o.after.any fun e => Region.binds .any e && e.on == i)) && o.after.all fun e => !Region.binds .any e || decide (e.on < j)

variable {P : Program} {ops : Array Oper} {Q : Exit → Act → World → Prop}

theorem getD_toList (l : Array Bool) (i : Nat) (d : Bool) : l.getD i d = l.toList.getD i d := by simp [Array.getD_eq_getD_getElem?, List.getD_eq_getElem?_getD]

/-- the tail, in its one order -/
theorem wpAny_tail {m : Nat} {ds : List Nat} {sup : Nat → List Nat} (hB : rgOk ops m ds sup = true) : ∀ (r k : Nat) (listed : Array Bool) (a : Act) (w : World), m ≤ k → k + r = ops.size →
    (∀ j, j < ops.size → listed.getD j true = decide (j < k)) → listed.size = ops.size → ∀ fuel, r ≤ fuel → wpOps P ops Q (List.range' k r) a w → wpAny P .any ops Q fuel listed a w
  | 0, k, listed, a, w, hm, hk, hl, hs, fuel, hf, h => by
    have hr : Region.ready .any ops listed = [] := by
      rw [List.eq_nil_iff_forall_not_mem]
      intro j hj
      obtain ⟨h1, o, ho, _⟩ := mem_ready.1 hj
      have hlt : j < ops.size := (Array.getElem?_eq_some_iff.1 ho).1
      rw [hl j hlt] at h1
      simp at h1; omega
    have hq : Q .normal a w := h
    cases fuel with
    | zero => exact ⟨hr, hq⟩
    | succ f => exact ⟨fun _ => hq, fun i hi => by rw [hr] at hi; cases hi⟩
  | r + 1, k, listed, a, w, hm, hk, hl, hs, fuel, hf, h => by
    have hkn : k < ops.size := by omega
    have hready : ∀ j ∈ Region.ready .any ops listed, j = k := by
      intro j hj
      obtain ⟨h1, o, ho, hdep⟩ := mem_ready.1 hj
      have hlt : j < ops.size := (Array.getElem?_eq_some_iff.1 ho).1
      rw [hl j hlt] at h1
      have hjk : k ≤ j := by simpa using h1
      rcases Nat.lt_or_ge k j with hlt' | hge
      · exfalso
        have hb := List.all_eq_true.1 hB j (List.mem_range.2 hlt)
        simp only [ho, Bool.and_eq_true, Bool.or_eq_true, decide_eq_true_eq] at hb
        rcases hb.1.2 with hb2 | hb2
        · omega
        · have := List.all_eq_true.1 hb2 k (List.mem_range.2 hlt')
          obtain ⟨e, he, hee⟩ := Array.any_eq_true'.1 this
          simp only [Bool.and_eq_true, beq_iff_eq] at hee
          have hd := hdep e he hee.1
          rw [hee.2] at hd
          have := hl k hkn
          rw [getD_toList] at this hd
          rw [List.getD_eq_getElem?_getD] at this hd
          cases hx : listed.toList[k]? with
          | none => rw [hx] at hd; simp at hd
          | some b => rw [hx] at this hd; simp at this hd; rw [this] at hd; cases hd
      · omega
    cases fuel with
    | zero => omega
    | succ f =>
      refine ⟨fun h0 => ?_, fun i hi => ?_⟩
      · exfalso
        obtain ⟨o, ho⟩ : ∃ o, ops[k]? = some o := ⟨ops[k], Array.getElem?_eq_getElem hkn⟩
        have : k ∈ Region.ready .any ops listed := by
          refine mem_ready.2 ⟨?_, o, ho, ?_⟩
          · rw [hl k hkn]; simp
          · intro e he hbind
            have hb := List.all_eq_true.1 hB k (List.mem_range.2 hkn)
            simp only [ho, Bool.and_eq_true, Bool.or_eq_true, decide_eq_true_eq] at hb
            · have h2 := Array.all_eq_true'.1 hb.2 e he
              simp only [hbind, Bool.not_true, Bool.or_eq_true, Bool.false_eq_true, false_or, decide_eq_true_eq] at h2
              have := hl e.on (by omega)
              rw [getD_toList, List.getD_eq_getElem?_getD] at this ⊢
              cases hx : listed.toList[e.on]? with
              | none =>
                have := List.getElem?_eq_none_iff.1 hx
                simp [hs] at this; omega
              | some b => rw [hx] at this; simp at this; simp [this]; exact h2
        rw [h0] at this; cases this
      · obtain rfl := hready i hi
        rw [List.range'_succ, wpOps_cons] at h
        refine wpOp_mono (fun a' w' h' => ?_) h
        refine wpAny_tail hB r (i + 1) _ a' w' (by omega) (by omega) ?_ (by simpa using hs) f (by omega) h'
        intro j hj
        by_cases e : i = j
        · subst e
          rw [getD_toList, Array.toList_setIfInBounds, List.getD_eq_getElem?_getD, List.getElem?_set]
          simp [hs, hj]
        · rw [getD_toList, Array.toList_setIfInBounds, List.getD_eq_getElem?_getD, List.getElem?_set, if_neg e, ← List.getD_eq_getElem?_getD, ← getD_toList, hl j hj]
          simp; omega


/-- what stands while the head is under way -/
structure Under (ops : Array Oper) (m : Nat) (a0 : Act) (ds : List Nat) (G : Nat → (Nat → Value) → World → Prop) (St : World → Prop) (listed : Array Bool) (a : Act) (w : World) : Prop where
  size : listed.size = ops.size
  tail : ∀ j, m ≤ j → j < ops.size → listed.getD j true = false
  closed : ∀ j o, ops[j]? = some o → listed.getD j false = true → ∀ e ∈ o.after, Region.binds .any e = true → listed.getD e.on false = true
  st : St w
  left : ∃ us, a = over a0 ds us ∧ ∀ j, j < m → listed.getD j false = true → G j us w

theorem getD_set_true {listed : Array Bool} {i j : Nat} (h : listed.getD j false = true) : (listed.setIfInBounds i true).getD j false = true := by
  rw [getD_toList, Array.toList_setIfInBounds, List.getD_eq_getElem?_getD, List.getElem?_set]
  rw [getD_toList, List.getD_eq_getElem?_getD] at h
  by_cases e : i = j
  · subst e
    cases hx : listed.toList[i]? with
    | none => rw [hx] at h; simp at h
    | some b =>
      have h3 := (List.getElem?_eq_some_iff.1 hx).1
      rw [if_pos rfl, if_pos h3]; rfl
  · rw [if_neg e]; exact h
theorem getD_set_other {listed : Array Bool} {i j : Nat} {d : Bool} (e : i ≠ j) : (listed.setIfInBounds i true).getD j d = listed.getD j d := by
  rw [getD_toList, Array.toList_setIfInBounds, List.getD_eq_getElem?_getD, List.getElem?_set, if_neg e, ← List.getD_eq_getElem?_getD, ← getD_toList]

/-- what one operation of the head owes: IN EVERY FRAME AND WORLD in which what it waits for stands, it leaves what is said of it, and does away with nothing -/
def Owes (P : Program) (ops : Array Oper) (Q : Exit → Act → World → Prop) (a0 : Act) (ds : List Nat) (G : Nat → (Nat → Value) → World → Prop) (St : World → Prop) (Keep : World → World → Prop) (i : Nat) (o : Oper) : Prop :=
  ∀ (us : Nat → Value) (w : World), St w → (∀ e ∈ o.after, Region.binds .any e = true → G e.on us w) →
    if Region.wanted o (yielded ops (over a0 ds us).tmps) then o.wp P (over a0 ds us) w (fun a' w' => ∃ v, a' = (over a0 ds us).put o.dst v ∧ St w' ∧ Keep w w' ∧ G i (upd us o.dst v) w') Q
    else G i (upd us o.dst undef) w

theorem wpAny_head {m : Nat} {a0 : Act} {ds : List Nat} {sup : Nat → List Nat} {G : Nat → (Nat → Value) → World → Prop} {St : World → Prop} {Keep : World → World → Prop} (hB : rgOk ops m ds sup = true) (hm : m ≤ ops.size)
    (hkeep : ∀ j us w w', j < m → Keep w w' → G j us w → G j us w') (hrefl : ∀ w, Keep w w) (hsup : ∀ j us us' w, j < m → (∀ t ∈ sup j, us t = us' t) → G j us w → G j us' w)
    (howe : ∀ i o, i < m → ops[i]? = some o → Owes P ops Q a0 ds G St Keep i o)
    (hend : ∀ us w, St w → (∀ j, j < m → G j us w) → wpOps P ops Q (List.range' m (ops.size - m)) (over a0 ds us) w) :
    ∀ (fuel : Nat) (listed : Array Bool) (a : Act) (w : World), unl listed.toList ≤ fuel → Under ops m a0 ds G St listed a w → wpAny P .any ops Q fuel listed a w := by
  have hdepOk : ∀ j o, j < m → ops[j]? = some o → (∀ d, o.dst = some d → ds.contains d = true) ∧ ∀ t ∈ sup j, ∀ i oi, ops[i]? = some oi → oi.dst = some t → i = j ∨ ∃ e ∈ o.after, Region.binds .any e = true ∧ e.on = i := by
    intro j o hj ho
    have hlt : j < ops.size := (Array.getElem?_eq_some_iff.1 ho).1
    have hb := List.all_eq_true.1 hB j (List.mem_range.2 hlt)
    simp only [ho, Bool.and_eq_true, Bool.or_eq_true, decide_eq_true_eq] at hb
    rcases hb.1.1 with h | h
    · omega
    · refine ⟨?_, ?_⟩
      · intro d hd
        have := h.1
        rw [hd] at this
        exact this
      · intro t ht i oi hi hd
        have h2 := List.all_eq_true.1 (List.all_eq_true.1 h.2 t ht) i (List.mem_range.2 (Array.getElem?_eq_some_iff.1 hi).1)
        simp only [hi, Bool.or_eq_true, bne_iff_ne, beq_iff_eq, hd] at h2
        rcases h2 with (h2 | h2) | h2
        · exact absurd rfl h2
        · exact Or.inl h2
        · obtain ⟨e, he, hee⟩ := Array.any_eq_true'.1 h2
          simp only [Bool.and_eq_true, beq_iff_eq] at hee
          exact Or.inr ⟨e, he, hee.1, hee.2⟩
  have step : ∀ (fuel : Nat) (listed : Array Bool) (a : Act) (w : World), unl listed.toList ≤ fuel → Under ops m a0 ds G St listed a w →
      (∀ j, j < m → listed.getD j true = true) → wpAny P .any ops Q fuel listed a w := by
    intro fuel listed a w hf U hall
    obtain ⟨us, rfl, hG⟩ := U.left
    have hx : ∀ j, j < m → listed.getD j false = true := by
      intro j hj
      have := hall j hj
      rw [getD_toList, List.getD_eq_getElem?_getD] at this ⊢
      cases hy : listed.toList[j]? with
      | none =>
        have h1 := List.getElem?_eq_none_iff.1 hy
        have := U.size
        simp at h1; omega
      | some b => rw [hy] at this; simpa using this
    have hr : ops.size - m ≤ fuel := by
      refine Nat.le_trans ?_ hf
      have : ∀ (n : Nat) (l : List Bool), (∀ j, n ≤ j → j < l.length → l.getD j true = false) → l.length - n ≤ unl l := by
        intro n l
        induction l generalizing n with
        | nil => intro _; simp
        | cons b r ih =>
          intro hb
          cases n with
          | zero =>
            have h0 := hb 0 (Nat.le_refl _) (by simp)
            have h1 := ih 0 (fun j _ hj => by have := hb (j + 1) (by omega) (by simpa using hj); simpa using this)
            simp at h0
            subst h0
            simp [unl] at h1 ⊢; omega
          | succ n =>
            have h1 := ih n (fun j hj hj' => by have := hb (j + 1) (by omega) (by simpa using hj'); simpa using this)
            simp only [unl, List.length_cons]; omega
      have h2 := this m listed.toList (fun j hj hj' => by rw [← getD_toList]; exact U.tail j hj (by have := U.size; simp at hj'; omega))
      have := U.size
      simp at h2; omega
    refine wpAny_tail hB (ops.size - m) m listed _ w (Nat.le_refl _) (by omega) ?_ U.size fuel hr (hend us w U.st (fun j hj => hG j hj (hx j hj)))
    intro j hj
    rcases Nat.lt_or_ge j m with h | h
    · rw [hall j h]; simp [h]
    · rw [U.tail j h hj]; simp; omega
  intro fuel
  induction fuel with
  | zero =>
    intro listed a w hf U
    exact step 0 listed a w hf U (fun j _ => by rw [getD_toList]; exact unl_zero _ (by omega) j)
  | succ fuel ih =>
    intro listed a w hf U
    by_cases hall : ∀ j, j < m → listed.getD j true = true
    · exact step _ listed a w hf U hall
    · obtain ⟨us, rfl, hG⟩ := U.left
      have hnot : ∃ j, j < m ∧ listed.getD j true = false := by
        apply Classical.byContradiction
        intro hn
        apply hall
        intro j hj
        cases hx : listed.getD j true with
        | true => rfl
        | false => exact absurd ⟨j, hj, hx⟩ hn
      refine ⟨fun h0 => ?_, fun i hi => ?_⟩
      · -- the least that is not listed may come up
        have least : ∀ n j, j ≤ n → j < m → listed.getD j true = false → False := by
          intro n
          induction n with
          | zero =>
            intro j hj hjm hjl
            obtain rfl : j = 0 := by omega
            obtain ⟨oj, hoj⟩ : ∃ oj, ops[0]? = some oj := ⟨ops[0], Array.getElem?_eq_getElem (by omega)⟩
            have : 0 ∈ Region.ready .any ops listed := mem_ready.2 ⟨hjl, oj, hoj, fun e he hbind => by
              have hb := List.all_eq_true.1 hB 0 (List.mem_range.2 (by omega))
              simp only [hoj, Bool.and_eq_true] at hb
              have h2 := Array.all_eq_true'.1 hb.2 e he
              simp only [hbind, Bool.not_true, Bool.or_eq_true, Bool.false_eq_true, false_or, decide_eq_true_eq] at h2
              omega⟩
            rw [h0] at this; cases this
          | succ n ihn =>
            intro j hj hjm hjl
            obtain ⟨oj, hoj⟩ : ∃ oj, ops[j]? = some oj := ⟨ops[j], Array.getElem?_eq_getElem (by omega)⟩
            have : j ∈ Region.ready .any ops listed := mem_ready.2 ⟨hjl, oj, hoj, fun e he hbind => by
              have hb := List.all_eq_true.1 hB j (List.mem_range.2 (by omega))
              simp only [hoj, Bool.and_eq_true] at hb
              have h2 := Array.all_eq_true'.1 hb.2 e he
              simp only [hbind, Bool.not_true, Bool.or_eq_true, Bool.false_eq_true, false_or, decide_eq_true_eq] at h2
              cases hx : listed.getD e.on true with
              | false => exact (ihn e.on (by omega) (by omega) hx).elim
              | true =>
                rw [getD_toList, List.getD_eq_getElem?_getD] at hx ⊢
                cases hy : listed.toList[e.on]? with
                | none =>
                  have h4 := List.getElem?_eq_none_iff.1 hy
                  have := U.size
                  simp at h4; omega
                | some b => rw [hy] at hx; simpa using hx⟩
            rw [h0] at this; cases this
        obtain ⟨j, hj, hjl⟩ := hnot
        exact (least j j (Nat.le_refl _) hj hjl).elim
      · obtain ⟨h1, o, ho, hdep⟩ := mem_ready.1 hi
        have hlt : i < ops.size := (Array.getElem?_eq_some_iff.1 ho).1
        have him : i < m := by
          rcases Nat.lt_or_ge i m with h | h
          · exact h
          · exfalso
            obtain ⟨j, hj, hjl⟩ := hnot
            have hb := List.all_eq_true.1 hB i (List.mem_range.2 hlt)
            simp only [ho, Bool.and_eq_true, Bool.or_eq_true, decide_eq_true_eq] at hb
            rcases hb.1.2 with hb2 | hb2
            · omega
            · have := List.all_eq_true.1 hb2 j (List.mem_range.2 (by omega))
              obtain ⟨e, he, hee⟩ := Array.any_eq_true'.1 this
              simp only [Bool.and_eq_true, beq_iff_eq] at hee
              have hd := hdep e he hee.1
              rw [hee.2] at hd
              rw [getD_toList, List.getD_eq_getElem?_getD] at hd hjl
              cases hx : listed.toList[j]? with
              | none => rw [hx] at hd; simp at hd
              | some b => rw [hx] at hd hjl; simp at hd hjl; rw [hd] at hjl; cases hjl
        obtain ⟨hds, hdp⟩ := hdepOk i o him ho
        have hil : listed.toList[i]? = some false := by
          rw [getD_toList, List.getD_eq_getElem?_getD] at h1
          cases hx : listed.toList[i]? with
          | none => rw [hx] at h1; simp at h1
          | some b => rw [hx] at h1; simp at h1; rw [h1]
        have hdm : ∀ e ∈ o.after, Region.binds .any e = true → e.on < m := by
          intro e he hbind
          have hd := hdep e he hbind
          rcases Nat.lt_or_ge e.on m with h | h
          · exact h
          · exfalso
            rcases Nat.lt_or_ge e.on ops.size with h2 | h2
            · have := U.tail e.on h h2
              rw [getD_toList, List.getD_eq_getElem?_getD] at this hd
              cases hx : listed.toList[e.on]? with
              | none => rw [hx] at hd; simp at hd
              | some b => rw [hx] at hd this; simp at hd this; rw [hd] at this; cases this
            · rw [getD_toList, List.getD_eq_getElem?_getD, List.getElem?_eq_none (by have := U.size; simp; omega)] at hd
              simp at hd
        have next : ∀ v w', St w' → Keep w w' → G i (upd us o.dst v) w' → wpAny P .any ops Q fuel (listed.setIfInBounds i true) ((over a0 ds us).put o.dst v) w' := by
          intro v w' hst hk hg
          refine ih _ _ _ ?_ ⟨by simpa using U.size, ?_, ?_, hst, upd us o.dst v, over_put hds, ?_⟩
          · have := unl_set listed.toList i hil
            rw [Array.toList_setIfInBounds]; omega
          · intro j hj hj'
            rw [getD_set_other (by omega)]; exact U.tail j hj hj'
          · intro j oj hoj hlj e he hbind
            by_cases ej : i = j
            · subst ej
              rw [ho] at hoj
              cases hoj
              exact getD_set_true (hdep e he hbind)
            · rw [getD_set_other ej] at hlj
              exact getD_set_true (U.closed j oj hoj hlj e he hbind)
          · intro j hj hlj
            by_cases ej : i = j
            · subst ej; exact hg
            · rw [getD_set_other ej] at hlj
              refine hsup j us _ w' hj (fun t ht => ?_) (hkeep j us w w' hj hk (hG j hj hlj))
              symm
              refine upd_ne (fun hd => ?_)
              have hjs : j < ops.size := by omega
              obtain ⟨oj, hoj⟩ : ∃ oj, ops[j]? = some oj := ⟨ops[j], Array.getElem?_eq_getElem hjs⟩
              rcases (hdepOk j oj hj hoj).2 t ht i o ho hd with h | ⟨e, he, hbind, heq⟩
              · exact ej h
              · have := U.closed j oj hoj hlj e he hbind
                rw [heq, getD_toList, List.getD_eq_getElem?_getD, hil] at this
                simp at this
        have howes := howe i o him ho us w U.st (fun e he hbind => hG e.on (hdm e he hbind) (hdep e he hbind))
        unfold wpOp
        rw [ho]
        simp only
        by_cases hw : Region.wanted o (yielded ops (over a0 ds us).tmps) = true
        · rw [if_pos hw] at howes ⊢
          refine Or.inl (Oper.wp_mono (fun a' w' h => ?_) howes)
          obtain ⟨v, rfl, hst, hk, hg⟩ := h
          exact next v w' hst hk hg
        · rw [if_neg hw] at howes ⊢
          exact next undef w U.st (hrefl w) howes

end Go.Proofs.YtpilkgcghlfdmaaGreatDoor
namespace Go.Proofs.YtpilkgcghlfdmaaGreatDoor
open Go.RowKit

/-- what one operation yields, and the world that it leaves -/
def leavesUpon (P : Program) (R : Value → World → Prop) : Result Next → Prop
  | .ok (.value v) w' => R v w'
  | .ok .skip w' => R undef w'
  | .ok (.enter f args) w' => Calls P f args w' (fun e w'' => ∃ v, e = .returned v ∧ R v w'')
  | _ => False
def leaves (P : Program) (o : Oper) (a : Act) (w : World) (R : Value → World → Prop) : Prop := leavesUpon P R ((execOp a.eval o).run P w)
attribute [go_sem] leavesUpon leaves

theorem wp_of_leaves {P : Program} {o : Oper} {a : Act} {w : World} {R : Value → World → Prop} {K : Act → World → Prop} {Q : Exit → Act → World → Prop} (h : ∀ v w', R v w' → K (a.put o.dst v) w') (hh : leaves P o a w R) : o.wp P a w K Q := by
  unfold leaves at hh
  unfold Oper.wp
  generalize (execOp a.eval o).run P w = r at *
  cases r with
  | ok n w' =>
    cases n <;> simp only [leavesUpon] at hh <;> simp only [Oper.upon]
    case value v => exact h _ _ hh
    case skip => exact h _ _ hh
    case enter f args => exact hh.mono fun e w'' ⟨v, he, hr⟩ => by subst he; exact h _ _ hr
  | halt x w' => simp only [leavesUpon] at hh

/-- behind an operation: it has kept what it had to, and what is said of it holds -/
def RgR (G : Nat → (Nat → Value) → World → Prop) (St : World → Prop) (Keep : World → World → Prop) (us : Nat → Value) (w : World) (i : Nat) (d : Option Nat) (v : Value) (w' : World) : Prop :=
  St w' ∧ Keep w w' ∧ G i (upd us d v) w'
/-- the head's operations, one by one -/
def rgAll (P : Program) (ops : Array Oper) (A : (Nat → Value) → Act) (G : Nat → (Nat → Value) → World → Prop) (St : World → Prop) (Keep : World → World → Prop) : Nat → List Oper → Prop
  | _, [] => True
  | i, o :: r => (∀ (us : Nat → Value) (w : World), St w → (∀ e ∈ o.after, Region.binds .any e = true → G e.on us w) →
      if Region.wanted o (yielded ops (A us).tmps) then leaves P o (A us) w (RgR G St Keep us w i o.dst) else G i (upd us o.dst undef) w) ∧ rgAll P ops A G St Keep (i + 1) r

theorem rgAll_at {P : Program} {ops : Array Oper} {A : (Nat → Value) → Act} {G : Nat → (Nat → Value) → World → Prop} {St : World → Prop} {Keep : World → World → Prop} : ∀ (l : List Oper) (k : Nat), rgAll P ops A G St Keep k l → ∀ i o, l[i]? = some o →
    ∀ (us : Nat → Value) (w : World), St w → (∀ e ∈ o.after, Region.binds .any e = true → G e.on us w) →
      if Region.wanted o (yielded ops (A us).tmps) then leaves P o (A us) w (RgR G St Keep us w (k + i) o.dst) else G (k + i) (upd us o.dst undef) w
  | [], _, _, i, o, h => by simp at h
  | o' :: r, k, hall, 0, o, h => by simp at h; subst h; exact hall.1
  | o' :: r, k, hall, i + 1, o, h => by
    have := rgAll_at r (k + 1) hall.2 i o (by simpa using h)
    rw [show k + 1 + i = k + (i + 1) by omega] at this
    exact this

/-- **A REGION THAT DRAWS ITS ORDER, EACH OPERATION OF ITS HEAD BY WHAT IT LEAVES; the tail in its one order.** -/
theorem wp_region_rg {P : Program} {id : Nat} {l : List Oper} {Q : Exit → Act → World → Prop} {a0 : Act} {w0 : World} (m : Nat) (ds : List Nat) (sup : Nat → List Nat) (A : (Nat → Value) → Act) (G : Nat → (Nat → Value) → World → Prop) (St : World → Prop) (Keep : World → World → Prop)
    (hmix : P.follows .mixedOrders = true) (hB : rgOk l.toArray m ds sup = true) (hm : m ≤ l.length) (hA : ∀ us, over a0 ds us = A us) (h0 : St w0.drew) (hrefl : ∀ w, Keep w w)
    (hkeep : ∀ j us w w', j < m → Keep w w' → G j us w → G j us w') (hsup : ∀ j us us' w, j < m → (∀ t ∈ sup j, us t = us' t) → G j us w → G j us' w)
    (hall : rgAll P l.toArray A G St Keep 0 (l.take m))
    (hend : ∀ us w, St w → (∀ j, j < m → G j us w) → wpList P l.toArray Q (l.drop m) (A us) w) : (Code.region id l.toArray true).wp P Q a0 w0 := by
  refine wp_region_any hmix ?_
  refine wpAny_head (a0 := a0) (ds := ds) (G := G) (St := St) (Keep := Keep) hB (by simpa using hm) hkeep hrefl hsup ?_ ?_ _ _ _ _ (by rw [Array.toList_replicate, unl_replicate]; exact Nat.le_refl _) ?_
  · intro i o hi ho us w hst hd
    have ho' : (l.take m)[i]? = some o := by rw [List.getElem?_take, if_pos hi]; simpa using ho
    have := rgAll_at _ 0 hall i o ho' us w hst hd
    rw [Nat.zero_add] at this
    rw [hA]
    by_cases hw : Region.wanted o (yielded l.toArray (A us).tmps) = true
    · rw [if_pos hw] at this ⊢
      exact wp_of_leaves (fun v w' h => ⟨v, rfl, h.1, h.2.1, h.2.2⟩) this
    · rw [if_neg hw] at this ⊢
      exact this
  · intro us w hst hg
    have := hend us w hst hg
    rw [hA]
    have e := wpOps_eq_wpList (P := P) (ops := l.toArray) (Q := Q) (l.drop m) m (fun j => by simp [List.getElem?_drop])
    rw [List.length_drop] at e
    have e2 : l.toArray.size - m = l.length - m := by simp
    rw [e2, e]
    exact this
  · refine ⟨by simp, ?_, ?_, h0, fun t => a0.tmps.getD t undef, ?_, ?_⟩
    · intro j _ hj
      rw [getD_toList, Array.toList_replicate, List.getD_eq_getElem?_getD, List.getElem?_replicate]
      simp at hj
      simp [hj]
    · intro j o _ hj
      rw [getD_toList, Array.toList_replicate, List.getD_eq_getElem?_getD, List.getElem?_replicate] at hj
      split at hj <;> simp at hj
    · unfold over
      cases a0 with
      | mk tmps defers =>
        congr 1
        apply Array.ext_getElem?
        intro i
        rw [Array.getElem?_mapIdx]
        cases hx : tmps[i]? with
        | none => rfl
        | some v =>
          simp only [Option.map_some, Array.getD_eq_getD_getElem?, hx, Option.getD_some]
          split <;> rfl
    · intro j _ hj
      rw [getD_toList, Array.toList_replicate, List.getD_eq_getElem?_getD, List.getElem?_replicate] at hj
      split at hj <;> simp at hj

end Go.Proofs.YtpilkgcghlfdmaaGreatDoor
namespace Go.Proofs.YtpilkgcghlfdmaaGreatDoor
open Go.RowKit

/-- what is said of an operation's value: it stays true while the world is kept -/
structure Sp (Keep : World → World → Prop) where
  holds : Value → World → Prop
  kept : ∀ v w w', Keep w w' → holds v w → holds v w'

/-- what is said of operation j -/
def depHolds {Keep : World → World → Prop} (l : List Oper) (sp : List (Sp Keep)) (us : Nat → Value) (w : World) (j : Nat) : Prop :=
  match l[j]?, sp[j]? with
  | some o, some s => match o.dst with
    | some d => s.holds (us d) w
    | none => True
  | _, _ => True
def supOf (l : List Oper) (j : Nat) : List Nat :=
  match l[j]? with
  | some o => o.dst.toList
  | none => []

theorem depHolds_kept {Keep : World → World → Prop} {l : List Oper} {sp : List (Sp Keep)} {us : Nat → Value} {w w' : World} {j : Nat} (hk : Keep w w') (h : depHolds l sp us w j) : depHolds l sp us w' j := by
  unfold depHolds at *
  split
  · rename_i o s ho hs
    simp only [ho, hs] at h
    split
    · rename_i d hd
      simp only [hd] at h
      exact s.kept _ _ _ hk h
    · trivial
  · trivial
theorem depHolds_sup {Keep : World → World → Prop} {l : List Oper} {sp : List (Sp Keep)} {us us' : Nat → Value} {w : World} {j : Nat} (he : ∀ t ∈ supOf l j, us t = us' t) (h : depHolds l sp us w j) : depHolds l sp us' w j := by
  unfold depHolds at *
  split
  · rename_i o s ho hs
    simp only [ho, hs] at h
    split
    · rename_i d hd
      simp only [hd] at h
      have := he d (by simp [supOf, ho, hd])
      rwa [← this]
    · trivial
  · trivial

/-- behind an operation -/
def RsR {Keep : World → World → Prop} (St : World → Prop) (s : Sp Keep) (w : World) (v : Value) (w' : World) : Prop := St w' ∧ Keep w w' ∧ s.holds v w'
def rsAll (P : Program) (l : List Oper) (A : (Nat → Value) → Act) {Keep : World → World → Prop} (sp : List (Sp Keep)) (St : World → Prop) : List Oper → List (Sp Keep) → Prop
  | o :: r, s :: t => (∀ (us : Nat → Value) (w : World), St w → (∀ e ∈ o.after, Region.binds .any e = true → depHolds l sp us w e.on) →
      if Region.wanted o (yielded l.toArray (A us).tmps) then leaves P o (A us) w (RsR St s w) else s.holds undef w) ∧ rsAll P l A sp St r t
  | _, _ => True

theorem rg_of_rs {P : Program} {l : List Oper} {A : (Nat → Value) → Act} {Keep : World → World → Prop} {sp : List (Sp Keep)} {St : World → Prop} : ∀ (r : List Oper) (t : List (Sp Keep)) (k : Nat), r.length = t.length → (∀ j, r[j]? = some r[j]! → l[k + j]? = r[j]?) → (∀ j, j < r.length → l[k + j]? = r[j]?) → (∀ j, j < t.length → sp[k + j]? = t[j]?) → rsAll P l A sp St r t →
    rgAll P l.toArray A (fun i us w => depHolds l sp us w i) St Keep k r
  | [], [], _, _, _, _, _, _ => trivial
  | o :: r, s :: t, k, hlen, hx, hl, hs, h => by
    refine ⟨fun us w hst hd => ?_, rg_of_rs r t (k + 1) (by simpa using hlen) (fun j _ => ?_) (fun j hj => ?_) (fun j hj => ?_) h.2⟩
    · have h1 := h.1 us w hst hd
      have e1 : l[k]? = some o := by simpa using hl 0 (by simp)
      have e2 : sp[k]? = some s := by simpa using hs 0 (by simp)
      have dep : ∀ v w', s.holds v w' → depHolds l sp (upd us o.dst v) w' k := fun v w' hv => by
        unfold depHolds
        simp only [e1, e2]
        cases hd : o.dst with
        | none => trivial
        | some d => simpa [upd] using hv
      by_cases hw : Region.wanted o (yielded l.toArray (A us).tmps) = true
      · rw [if_pos hw] at h1 ⊢
        unfold leaves at *
        generalize (execOp (A us).eval o).run P w = q at *
        cases q with
        | ok n w' =>
          cases n <;> simp only [leavesUpon] at h1 ⊢
          case value v => exact ⟨h1.1, h1.2.1, dep _ _ h1.2.2⟩
          case skip => exact ⟨h1.1, h1.2.1, dep _ _ h1.2.2⟩
          case enter f args => exact h1.mono fun e w'' ⟨v, he, hr⟩ => ⟨v, he, hr.1, hr.2.1, dep _ _ hr.2.2⟩
        | halt x w' => simp only [leavesUpon] at h1
      · rw [if_neg hw] at h1 ⊢
        exact dep _ _ h1
    · have := hl (j + 1)
      by_cases hj : j < r.length
      · have := this (by simpa using hj)
        simpa [Nat.add_assoc, Nat.add_comm 1 j] using this
      · rename_i hh
        rw [List.getElem?_eq_none (by omega)] at hh; cases hh
    · have := hl (j + 1) (by simpa using hj)
      simpa [Nat.add_assoc, Nat.add_comm 1 j] using this
    · have := hs (j + 1) (by simpa using hj)
      simpa [Nat.add_assoc, Nat.add_comm 1 j] using this

/-- **A REGION THAT DRAWS ITS ORDER: what is said of each operation of its head (the first |sp|), whatever the order; then the tail.** -/
theorem wp_region_rs {P : Program} {id : Nat} {l : List Oper} {Q : Exit → Act → World → Prop} {a0 : Act} {w0 : World} (ds : List Nat) (A : (Nat → Value) → Act) {Keep : World → World → Prop} (sp : List (Sp Keep)) (St : World → Prop)
    (hmix : P.follows .mixedOrders = true) (hB : rgOk l.toArray sp.length ds (supOf l) = true) (hm : sp.length ≤ l.length) (hA : ∀ us, over a0 ds us = A us) (h0 : St w0.drew) (hrefl : ∀ w, Keep w w)
    (hall : rsAll P l A sp St (l.take sp.length) sp)
    (hend : ∀ us w, St w → (∀ j, j < sp.length → depHolds l sp us w j) → wpList P l.toArray Q (l.drop sp.length) (A us) w) : (Code.region id l.toArray true).wp P Q a0 w0 := by
  refine wp_region_rg sp.length ds (supOf l) A (fun i us w => depHolds l sp us w i) St Keep hmix hB hm hA h0 hrefl (fun j us w w' _ hk h => depHolds_kept hk h) (fun j us us' w _ he h => depHolds_sup he h) ?_ hend
  refine rg_of_rs _ _ 0 (by rw [List.length_take]; omega) (fun j hj => ?_) (fun j hj => ?_) (fun j _ => by simp) hall
  · have : j < (l.take sp.length).length := by
      apply Classical.byContradiction
      intro h
      rw [List.getElem?_eq_none (by omega)] at hj; cases hj
    rw [List.length_take] at this
    rw [Nat.zero_add, List.getElem?_take, if_pos (by omega)]
  · rw [List.length_take] at hj
    rw [Nat.zero_add, List.getElem?_take, if_pos (by omega)]

end Go.Proofs.YtpilkgcghlfdmaaGreatDoor
namespace Go.Proofs.YtpilkgcghlfdmaaGreatDoor
open Go.RowKit

/-- worlds in which block b alone has turned -/
def KeepB (b : Nat) (w w' : World) : Prop := w.grownBy w' (some b)

def NumB (lo hi : Int) (v : Value) : Prop := ∃ r : Int, v = .int .i64 r ∧ lo ≤ r ∧ r ≤ hi
def StrB (n : Nat) (v : Value) : Prop := ∃ s : ByteArray, v = .string s ∧ s.size ≤ n
/-- a table of n values in memory of the call's own, each as p says -/
def TabP (b n : Nat) (p : Value → Prop) (v : Value) (w : World) : Prop := ∃ g, v = .slice (some ⟨g, 0, none⟩) n n ∧ b < g ∧ ∀ i, i < n → ∃ u, w.cell? ⟨g, i, none⟩ = some u ∧ p u
def AtP (b : Nat) (p : Value → Prop) (v : Value) (w : World) : Prop := ∃ g i u, v = .pointer (some ⟨g, i, none⟩) ∧ b < g ∧ w.cell? ⟨g, i, none⟩ = some u ∧ p u
/-- a new block that is known -/
def NewP (b base : Nat) (o : Obj) (v : Value) (w : World) : Prop := ∃ g, v = .pointer (some ⟨g, 0, none⟩) ∧ (b < g ∧ base ≤ g) ∧ w.heap[g]? = some o

theorem kept_cell {w w' : World} {b g i : Nat} {u : Value} (hg : w.grownBy w' (some b)) (hlt : b < g) (hc : w.cell? ⟨g, i, none⟩ = some u) : w'.cell? ⟨g, i, none⟩ = some u :=
  hg.cell hc (by simp; omega)

def spV (b : Nat) (p : Value → Prop) : Sp (KeepB b) := ⟨fun v _ => p v, fun _ _ _ _ h => h⟩
def spEq (b : Nat) (x : Value) : Sp (KeepB b) := spV b (fun v => v = x)
def spTab (b n : Nat) (p : Value → Prop) : Sp (KeepB b) := ⟨TabP b n p, fun _ _ _ hg h => by
  obtain ⟨g, hv, hlt, hc⟩ := h
  exact ⟨g, hv, hlt, fun i hi => by obtain ⟨u, h1, h2⟩ := hc i hi; exact ⟨u, kept_cell hg hlt h1, h2⟩⟩⟩
def spAt (b : Nat) (p : Value → Prop) : Sp (KeepB b) := ⟨AtP b p, fun _ _ _ hg h => by
  obtain ⟨g, i, u, hv, hlt, hc, hs⟩ := h
  exact ⟨g, i, u, hv, hlt, kept_cell hg hlt hc, hs⟩⟩
def spNew (b base : Nat) (o : Obj) : Sp (KeepB b) := ⟨NewP b base o, fun _ _ _ hg h => by
  obtain ⟨g, hv, hlt, hc⟩ := h
  refine ⟨g, hv, hlt, ?_⟩
  rw [hg.block g (Array.getElem?_eq_some_iff.1 hc).1 (by simp; omega)]
  exact hc⟩

def BatV (v : Value) : Prop := ∃ (p : ByteArray) (x1 x2 x3 x4 : Int), v = .agg #[.string p, .int .i64 x1, .int .i64 x2, .int .i64 x3, .int .i64 x4] ∧ p.size ≤ 13 ∧ (0 ≤ x1 ∧ x1 ≤ 999999999) ∧ (0 ≤ x2 ∧ x2 ≤ 999999999) ∧ (0 ≤ x3 ∧ x3 ≤ 999999999) ∧ (0 ≤ x4 ∧ x4 ≤ 999999999)

/-- the state of a draw that goes on: the source stands, all else is as it was -/
def StB (b : Nat) (w0 w : World) : Prop := Src w b ∧ w0.grownBy w (some b)

/-- a number is drawn, behind a region's operation -/
theorem next_rs {b : Nat} {w0 w : World} {n : Int} {lo hi : Int} (hst : StB b w0 w) (hn : 2 ≤ n) (hn2 : n ≤ 1152921504606846976) (h0 : lo ≤ 0) (h1 : n - 1 ≤ hi) :
    Calls Tryz.prog 46 #[.pointer (some ⟨b, 0, none⟩), .int .i64 n] w fun e w'' => ∃ v, e = .returned v ∧ RsR (StB b w0) (spV b (NumB lo hi)) w v w'' :=
  (l01Next_any b n w hst.1 (by omega) hn2).mono fun e w' ⟨r, he, r0, r1, hs, hg⟩ => ⟨_, he, ⟨hs, grownBy_trans hst.2 hg⟩, hg, r, rfl, by omega, by omega⟩

theorem rs_same {b : Nat} {w0 w : World} {s : Sp (KeepB b)} {v : Value} (hst : StB b w0 w) (h : s.holds v w) : RsR (StB b w0) s w v w := ⟨hst, World.grownBy.refl _ _, h⟩
theorem stB_alloc {b : Nat} {w0 w : World} (hst : StB b w0 w) (o : Obj) : StB b w0 (w.alloc o) :=
  ⟨hst.1.kept (World.grownBy_alloc w o none) (by simp), grownBy_trans hst.2 (World.grownBy_alloc _ _ _)⟩
theorem rs_tab {b n : Nat} {w0 w : World} {p : Value → Prop} {C : Array Value} {t : TypeId} (hst : StB b w0 w) (hn : ∀ i, i < n → ∃ u, C[i]? = some u ∧ p u) :
    RsR (StB b w0) (spTab b n p) w (.slice (some ⟨w.heap.size, 0, none⟩) n n) (w.alloc (.cells C t (0, 0))) :=
  ⟨stB_alloc hst _, World.grownBy_alloc _ _ _, _, rfl, hst.1.lt, fun i hi => by
    obtain ⟨u, h1, h2⟩ := hn i hi
    exact ⟨u, by rw [box1 (Below.refl _ _)]; exact h1, h2⟩⟩
theorem rs_new {b base : Nat} {w0 w : World} {o : Obj} (hst : StB b w0 w) (h0 : base ≤ w0.heap.size) :
    RsR (StB b w0) (spNew b base o) w (.pointer (some ⟨w.heap.size, 0, none⟩)) (w.alloc o) :=
  ⟨stB_alloc hst _, World.grownBy_alloc _ _ _, _, rfl, ⟨hst.1.lt, Nat.le_trans h0 hst.2.size⟩, Array.getElem?_push_size⟩
theorem fourT {p : Value → Prop} {a b c d : Value} (ha : p a) (hb : p b) (hc : p c) (hd : p d) : ∀ i, i < 4 → ∃ u, (#[a, b, c, d] : Array Value)[i]? = some u ∧ p u
  | 0, _ => ⟨_, rfl, ha⟩
  | 1, _ => ⟨_, rfl, hb⟩
  | 2, _ => ⟨_, rfl, hc⟩
  | 3, _ => ⟨_, rfl, hd⟩
theorem threeT {p : Value → Prop} {a b c : Value} (ha : p a) (hb : p b) (hc : p c) : ∀ i, i < 3 → ∃ u, (#[a, b, c] : Array Value)[i]? = some u ∧ p u
  | 0, _ => ⟨_, rfl, ha⟩
  | 1, _ => ⟨_, rfl, hb⟩
  | 2, _ => ⟨_, rfl, hc⟩
theorem strB {n : Nat} (s : ByteArray) (h : s.size ≤ n) : StrB n (.string s) := ⟨s, rfl, h⟩
theorem numB {lo hi : Int} (r : Int) (h : lo ≤ r) (h' : r ≤ hi) : NumB lo hi (.int .i64 r) := ⟨r, rfl, h, h'⟩

def RetBat (w : World) (b : Nat) (e : Ending) (w' : World) : Prop :=
  ∃ (p : ByteArray) (x1 x2 x3 x4 : Int), e = .returned (.agg #[.string p, .int .i64 x1, .int .i64 x2, .int .i64 x3, .int .i64 x4]) ∧ p.size ≤ 13 ∧ (0 ≤ x1 ∧ x1 ≤ 999999999) ∧ (0 ≤ x2 ∧ x2 ≤ 999999999) ∧ (0 ≤ x3 ∧ x3 ≤ 999999999) ∧ (0 ≤ x4 ∧ x4 ≤ 999999999) ∧ Src w' b ∧ w.grownBy w' (some b)

/-- block g is a batch that the draw itself has made -/
def BatAt (W : World) (g : Nat) : Prop := ∃ (p : ByteArray) (x1 x2 x3 x4 : Int), W.heap[g]? = some (.cells #[.string p, .int .i64 x1, .int .i64 x2, .int .i64 x3, .int .i64 x4] 32 (0, 0)) ∧ p.size ≤ 13 ∧ (0 ≤ x1 ∧ x1 ≤ 999999999) ∧ (0 ≤ x2 ∧ x2 ≤ 999999999) ∧ (0 ≤ x3 ∧ x3 ≤ 999999999) ∧ (0 ≤ x4 ∧ x4 ≤ 999999999)
theorem heap_cell {w : World} {g : Nat} {C : Array Value} {t : TypeId} (h : w.heap[g]? = some (.cells C t (0, 0))) : ∀ i, w.cell? ⟨g, i, none⟩ = C[i]? := fun i => by simp [World.cell?, h]
theorem heap_frozen {w : World} {g : Nat} {C : Array Value} {t : TypeId} (h : w.heap[g]? = some (.cells C t (0, 0))) : ∀ i, w.frozen? ⟨g, i, none⟩ = false := fun i => by simp [World.frozen?, h]
theorem stB_set {b g i : Nat} {w0 w : World} {v : Value} (hst : StB b w0 w) (hbg : b < g) (hwg : w0.heap.size ≤ g) : StB b w0 (w.setCell ⟨g, i, none⟩ v) :=
  ⟨hst.1.kept (grownBy_set w g i v) (fun k e => by have := Option.some.inj e; omega), hst.2.andThen (grownBy_set w g i v) (fun j e => by have := Option.some.inj e; omega)⟩
theorem set5 {b g : Nat} {w0 w : World} {o0 o1 o2 o3 o4 v0 v1 v2 v3 v4 : Value} {t : TypeId} (hst : StB b w0 w) (hbg : b < g) (hwg : w0.heap.size ≤ g) (hg : w.heap[g]? = some (.cells #[o0, o1, o2, o3, o4] t (0, 0))) :
    let W := ((((w.setCell ⟨g, 0, none⟩ v0).setCell ⟨g, 1, none⟩ v1).setCell ⟨g, 2, none⟩ v2).setCell ⟨g, 3, none⟩ v3).setCell ⟨g, 4, none⟩ v4
    StB b w0 W ∧ W.heap[g]? = some (.cells #[v0, v1, v2, v3, v4] t (0, 0)) :=
  ⟨stB_set (stB_set (stB_set (stB_set (stB_set hst hbg hwg) hbg hwg) hbg hwg) hbg hwg) hbg hwg, src_set (src_set (src_set (src_set (src_set hg 0 v0) 1 v1) 2 v2) 3 v3) 4 v4⟩

theorem BatAt.kept {W W' : World} {b g : Nat} (h : BatAt W g) (hg : W.grownBy W' (some b)) (hbg : b < g) : BatAt W' g := by
  obtain ⟨p, x1, x2, x3, x4, hh, hr⟩ := h
  refine ⟨p, x1, x2, x3, x4, ?_, hr⟩
  rw [hg.block _ (Array.getElem?_eq_some_iff.1 hh).1 (by simp; omega)]
  exact hh
theorem stB_trans {b : Nat} {w0 w w' : World} (hst : StB b w0 w) (hs : Src w' b) (hg : w.grownBy w' (some b)) : StB b w0 w' := ⟨hs, grownBy_trans hst.2 hg⟩
/-- the end: the batch is read and lies in the result's box -/
theorem retBat_of {w W : World} {b : Nat} {v0 v1 v2 v3 v4 : Value} {o : Obj} {w0 : World} (hlt : b < w.heap.size) (hw : w.alloc o = w0) (hst : StB b w0 W) {p : ByteArray} {x1 x2 x3 x4 : Int} (hb : p.size ≤ 13 ∧ (0 ≤ x1 ∧ x1 ≤ 999999999) ∧ (0 ≤ x2 ∧ x2 ≤ 999999999) ∧ (0 ≤ x3 ∧ x3 ≤ 999999999) ∧ (0 ≤ x4 ∧ x4 ≤ 999999999)) :
    RetBat w b (.returned (.agg #[.string p, .int .i64 x1, .int .i64 x2, .int .i64 x3, .int .i64 x4])) (((((W.setCell ⟨w.heap.size, 0, none⟩ v0).setCell ⟨w.heap.size, 1, none⟩ v1).setCell ⟨w.heap.size, 2, none⟩ v2).setCell ⟨w.heap.size, 3, none⟩ v3).setCell ⟨w.heap.size, 4, none⟩ v4) := by
  subst hw
  have h0 : StB b w W := ⟨hst.1, grownBy_trans (World.grownBy_alloc _ _ _) hst.2⟩
  have h5 := stB_set (v := v4) (i := 4) (stB_set (v := v3) (i := 3) (stB_set (v := v2) (i := 2) (stB_set (v := v1) (i := 1) (stB_set (v := v0) (i := 0) h0 hlt (Nat.le_refl _)) hlt (Nat.le_refl _)) hlt (Nat.le_refl _)) hlt (Nat.le_refl _)) hlt (Nat.le_refl _)
  exact ⟨p, x1, x2, x3, x4, rfl, hb.1, hb.2.1, hb.2.2.1, hb.2.2.2.1, hb.2.2.2.2, h5.1, h5.2⟩

theorem tab_kept {b n : Nat} {p : Value → Prop} {W1 W2 : World} {C : Array Value} {t : TypeId} {r : Int} (hlt : b < W1.heap.size) (hg : (W1.alloc (.cells C t (0, 0))).grownBy W2 (some b)) (hn : ∀ i, i < n → ∃ u, C[i]? = some u ∧ p u) (h0 : 0 ≤ r) (h1 : r < n) :
    ∃ u, W2.cell? ⟨W1.heap.size, r.toNat, none⟩ = some u ∧ p u := by
  obtain ⟨u, c1, c2⟩ := hn r.toNat (by omega)
  exact ⟨u, kept_cell hg hlt (by rw [box1 (Below.refl _ _)]; exact c1), c2⟩

set_option maxRecDepth 100000 in
set_option maxHeartbeats 2000000 in
theorem l31Draw_any (b : Nat) (w : World) (hs : Src w b) :
    Calls Tryz.prog 33 #[.pointer (some ⟨b, 0, none⟩)] w (RetBat w b) := by
  have hlt := hs.lt
  have HS := Lib.hid hs
  clear hs
  go_enter Tryz.func33, Tryz.ntmps33
  go_wp2_with fail
  refine wp_region_rs (Keep := KeepB b) [3, 4, 5, 6, 7, 8, 9, 10, 11, 12, 13, 14, 15, 16, 17, 18, 19, 20] (fun us => _)
    [spTab b 4 (StrB 13), spEq b (.pointer (some ⟨b, 0, none⟩)), spV b (NumB 0 3), spAt b (StrB 13), spV b (StrB 13), spEq b (.pointer (some ⟨b, 0, none⟩)), spV b (NumB 0 499), spEq b (.pointer (some ⟨b, 0, none⟩)), spV b (NumB 0 3), spV b (NumB 1 4),
     spEq b (.pointer (some ⟨b, 0, none⟩)), spV b (NumB 0 7), spV b (NumB 1 8), spEq b (.pointer (some ⟨b, 0, none⟩)), spV b (NumB 0 3), spV b (NumB 3 6), spV b BatV, spNew b (w.heap.size + 1) (.cells #[.string ⟨#[]⟩, .int .i64 0, .int .i64 0, .int .i64 0, .int .i64 0] 32 (0, 0))]
    (StB b (w.alloc (.cells #[.string ⟨#[]⟩, .int .i64 0, .int .i64 0, .int .i64 0, .int .i64 0] 32 (0, 0)))) (by kernel_rfl) (by kernel_rfl) (Nat.le_of_ble_eq_true rfl) (fun us => by simp [over, List.mapIdx_cons]; exact rfl) ?_ (fun w => World.grownBy.refl _ _) ?_ ?_
  · refine ⟨HS.out.kept (row := none) (w' := World.drew _) ?_ (by simp), ?_⟩
    · exact grownBy_trans (World.grownBy_alloc w _ none) (grownBy_drewN _ 1 _)
    · exact grownBy_drewN _ 1 _
  · refine ⟨?_, ?_, ?_, ?_, ?_, ?_, ?_, ?_, ?_, ?_, ?_, ?_, ?_, ?_, ?_, ?_, ?_, ?_, trivial⟩
    all_goals (intro us w1 hst hd; rw [if_pos (by kernel_rfl)]; dsimp only)
    · clear hd
      go_simp
      exact rs_tab hst (fourT (strB _ (by decide)) (strB _ (by decide)) (strB _ (by decide)) (strB _ (by decide)))
    · clear hd
      go_simp
      exact rs_same hst rfl
    · have d5 : us 5 = .pointer (some ⟨b, 0, none⟩) := hd ⟨1, .data⟩ (by simp) rfl
      clear hd
      go_simp
      exact next_rs hst (by decide) (by decide) (by decide) (by decide)
    · have d4 : TabP b 4 (StrB 13) (us 4) w1 := hd ⟨0, .data⟩ (by simp) rfl
      have d6 : NumB 0 3 (us 6) := hd ⟨2, .data⟩ (by simp) rfl
      clear hd
      obtain ⟨g, e4, hbg, hcs⟩ := d4
      obtain ⟨r6, e6, l6, u6⟩ := d6
      have hu : r6 < 4 := by omega
      obtain ⟨u, hc, hq⟩ := hcs r6.toNat (by omega)
      replace hc := Lib.hid hc
      go_simp
      exact rs_same hst ⟨g, _, u, rfl, hbg, hc.out, hq⟩
    · have d7 : AtP b (StrB 13) (us 7) w1 := hd ⟨3, .data⟩ (by simp) rfl
      clear hd
      obtain ⟨g, i, u, e7, hbg, hc, q, rfl, hq⟩ := d7
      go_simp
      exact rs_same hst ⟨_, rfl, hq⟩
    · clear hd
      go_simp
      exact rs_same hst rfl
    · have d9 : us 9 = .pointer (some ⟨b, 0, none⟩) := hd ⟨5, .data⟩ (by simp) rfl
      clear hd
      go_simp
      exact next_rs hst (by decide) (by decide) (by decide) (by decide)
    · clear hd
      go_simp
      exact rs_same hst rfl
    · have d11 : us 11 = .pointer (some ⟨b, 0, none⟩) := hd ⟨7, .data⟩ (by simp) rfl
      clear hd
      go_simp
      exact next_rs hst (by decide) (by decide) (by decide) (by decide)
    · have d12 : NumB 0 3 (us 12) := hd ⟨8, .data⟩ (by simp) rfl
      clear hd
      obtain ⟨r12, e12, l12, u12⟩ := d12
      have hw : IntKind.i64.wrap (1 + r12) = 1 + r12 := IntWalk.i64_in _ (by omega)
      have hr : NumB 1 4 (.int .i64 (1 + r12)) := numB _ (by omega) (by omega)
      replace hr := Lib.hid hr
      go_simp
      exact rs_same hst hr.out
    · clear hd
      go_simp
      exact rs_same hst rfl
    · have d14 : us 14 = .pointer (some ⟨b, 0, none⟩) := hd ⟨10, .data⟩ (by simp) rfl
      clear hd
      go_simp
      exact next_rs hst (by decide) (by decide) (by decide) (by decide)
    · have d15 : NumB 0 7 (us 15) := hd ⟨11, .data⟩ (by simp) rfl
      clear hd
      obtain ⟨r15, e15, l15, u15⟩ := d15
      have hw : IntKind.i64.wrap (1 + r15) = 1 + r15 := IntWalk.i64_in _ (by omega)
      have hr : NumB 1 8 (.int .i64 (1 + r15)) := numB _ (by omega) (by omega)
      replace hr := Lib.hid hr
      go_simp
      exact rs_same hst hr.out
    · clear hd
      go_simp
      exact rs_same hst rfl
    · have d17 : us 17 = .pointer (some ⟨b, 0, none⟩) := hd ⟨13, .data⟩ (by simp) rfl
      clear hd
      go_simp
      exact next_rs hst (by decide) (by decide) (by decide) (by decide)
    · have d18 : NumB 0 3 (us 18) := hd ⟨14, .data⟩ (by simp) rfl
      clear hd
      obtain ⟨r18, e18, l18, u18⟩ := d18
      have hw : IntKind.i64.wrap (3 + r18) = 3 + r18 := IntWalk.i64_in _ (by omega)
      have hr : NumB 3 6 (.int .i64 (3 + r18)) := numB _ (by omega) (by omega)
      replace hr := Lib.hid hr
      go_simp
      exact rs_same hst hr.out
    · have d8 : StrB 13 (us 8) := hd ⟨4, .data⟩ (by simp) rfl
      have d10 : NumB 0 499 (us 10) := hd ⟨6, .data⟩ (by simp) rfl
      have d13 : NumB 1 4 (us 13) := hd ⟨9, .data⟩ (by simp) rfl
      have d16 : NumB 1 8 (us 16) := hd ⟨12, .data⟩ (by simp) rfl
      have d19 : NumB 3 6 (us 19) := hd ⟨15, .data⟩ (by simp) rfl
      clear hd
      obtain ⟨q8, e8, h8⟩ := d8
      obtain ⟨r10, e10, l10, u10⟩ := d10
      obtain ⟨r13, e13, l13, u13⟩ := d13
      obtain ⟨r16, e16, l16, u16⟩ := d16
      obtain ⟨r19, e19, l19, u19⟩ := d19
      go_simp
      exact rs_same hst ⟨q8, r10, r13, r16, r19, rfl, h8, by omega, by omega, by omega, by omega⟩
    · clear hd
      go_simp
      exact rs_new hst (by simp)
  · intro us w1 hst hd
    have d20 : BatV (us 20) := hd 16 (by simp)
    have d3 : NewP b (w.heap.size + 1) (.cells #[.string ⟨#[]⟩, .int .i64 0, .int .i64 0, .int .i64 0, .int .i64 0] 32 (0, 0)) (us 3) w1 := hd 17 (by simp)
    clear hd
    obtain ⟨p, x1, x2, x3, x4, e20, hbs⟩ := d20
    obtain ⟨g, e3, ⟨hbg, hwg⟩, hg⟩ := d3
    have HB := Lib.hid hbs
    clear hbs
    have HST := Lib.hid hst
    clear hst
    have HG := Lib.hid hg
    have hc := heap_cell hg
    have hf := heap_frozen hg
    clear hg
    simp only [List.drop, List.length]
    go_wp2_with fail
    obtain ⟨hst2, hg2⟩ := set5 (v0 := .string p) (v1 := .int .i64 x1) (v2 := .int .i64 x2) (v3 := .int .i64 x3) (v4 := .int .i64 x4) HST.out hbg (by simpa using hwg) HG.out
    generalize ((((w1.setCell ⟨g, 0, none⟩ (.string p)).setCell ⟨g, 1, none⟩ (.int .i64 x1)).setCell ⟨g, 2, none⟩ (.int .i64 x2)).setCell ⟨g, 3, none⟩ (.int .i64 x3)).setCell ⟨g, 4, none⟩ (.int .i64 x4) = W at *
    clear hc hf HG HST e20 w1
    have hB : BatAt W g := ⟨p, x1, x2, x3, x4, hg2, HB.out⟩
    clear HB hg2 x1 x2 x3 x4 p
    have hlw : w.heap.size < (w.alloc (.cells #[.string ⟨#[]⟩, .int .i64 0, .int .i64 0, .int .i64 0, .int .i64 0] 32 (0, 0))).heap.size := by simp
    have hwg0 : (w.alloc (.cells #[.string ⟨#[]⟩, .int .i64 0, .int .i64 0, .int .i64 0, .int .i64 0] 32 (0, 0))).heap.size ≤ g := by simpa using hwg
    clear hwg
    have hw1 : (w.alloc (.cells #[.string ⟨#[]⟩, .int .i64 0, .int .i64 0, .int .i64 0, .int .i64 0] 32 (0, 0))).heap[w.heap.size]? = some (.cells #[.string ⟨#[]⟩, .int .i64 0, .int .i64 0, .int .i64 0, .int .i64 0] 32 (0, 0)) := Array.getElem?_push_size
    generalize hw0 : w.alloc (.cells #[.string ⟨#[]⟩, .int .i64 0, .int .i64 0, .int .i64 0, .int .i64 0] 32 (0, 0)) = w0 at *
    have HW0 := Lib.hid hw0
    clear hw0
    refine (l01Next_any b 24 W hst2.1 (by decide) (by decide)).mono ?_
    rintro e W1 ⟨r, rfl, r0, r1, hs1, hg1⟩
    have hB1 := Lib.hid (hB.kept hg1 hbg)
    have hst1 := Lib.hid (stB_trans hst2 hs1 hg1)
    clear hs1 hg1 hB hst2
    have hr : r = 0 ∨ r = 1 ∨ r = 2 ∨ r = 3 ∨ r = 4 ∨ 5 ≤ r := by omega
    clear r0 r1
    rcases hr with rfl | rfl | rfl | rfl | rfl | hr
    · go_wp2_with fail
      refine (l01Next_any b 4 _ (hst1.out.1.kept (World.grownBy_alloc _ _ none) (by simp)) (by decide) (by decide)).mono ?_
      rintro e W2 ⟨r, rfl, r0, r1, hs2, hg2⟩
      obtain ⟨u, hu, q, rfl, hq⟩ := tab_kept (n := 4) hst1.out.1.lt hg2 (fourT (strB (n := 13) _ (by decide)) (strB (n := 13) _ (by decide)) (strB (n := 13) _ (by decide)) (strB (n := 13) _ (by decide))) r0 (by omega)
      have hg12 := grownBy_trans (World.grownBy_alloc W1 _ _) hg2
      have hst2 := stB_trans hst1.out hs2 hg12
      obtain ⟨p, x1, x2, x3, x4, hh, hb⟩ := hB1.out.kept hg12 hbg
      have hc := heap_cell hh
      have hf := heap_frozen hh
      have hv : r < 4 := by omega
      have hrb : W2.heap[w.heap.size]? = _ := hst2.2.block w.heap.size hlw (by simp; omega) ▸ hw1
      have hrc := heap_cell hrb
      have hrf := heap_frozen hrb
      have hne : ¬ g = w.heap.size := by omega
      have HX := Lib.hid (And.intro hst2 hb)
      have HQ := Lib.hid hq
      clear hst2 hb hg12 hg2 hs2 hh hrb hq
      go_wp2_with fail
      exact bodyPost_ret (v := .agg #[.string q, .int .i64 x1, .int .i64 x2, .int .i64 x3, .int .i64 x4]) (by simp [results, Tryz.results33, go_sem, hrc]) rfl (retBat_of hlt HW0.out (stB_set HX.out.1 hbg hwg0) ⟨HQ.out, HX.out.2.2.1, HX.out.2.2.2.1, HX.out.2.2.2.2.1, HX.out.2.2.2.2.2⟩)
    · go_wp2_with fail
      refine (l01Next_any b 4 _ (hst1.out.1.kept (World.grownBy_alloc _ _ none) (by simp)) (by decide) (by decide)).mono ?_
      rintro e W2 ⟨r, rfl, r0, r1, hs2, hg2⟩
      obtain ⟨u, hu, q, rfl, hq, hq2⟩ := tab_kept (n := 4) hst1.out.1.lt hg2 (fourT (numB (lo := 0) (hi := 10) _ (by decide) (by decide)) (numB (lo := 0) (hi := 10) _ (by decide) (by decide)) (numB (lo := 0) (hi := 10) _ (by decide) (by decide)) (numB (lo := 0) (hi := 10) _ (by decide) (by decide))) r0 (by omega)
      have hg12 := grownBy_trans (World.grownBy_alloc W1 _ _) hg2
      have hst2 := stB_trans hst1.out hs2 hg12
      obtain ⟨p, x1, x2, x3, x4, hh, hb⟩ := hB1.out.kept hg12 hbg
      have hc := heap_cell hh
      have hf := heap_frozen hh
      have hv : r < 4 := by omega
      have hrb : W2.heap[w.heap.size]? = _ := hst2.2.block w.heap.size hlw (by simp; omega) ▸ hw1
      have hrc := heap_cell hrb
      have hrf := heap_frozen hrb
      have hne : ¬ g = w.heap.size := by omega
      have HX := Lib.hid (And.intro hst2 hb)
      have HQ := Lib.hid (And.intro hq hq2)
      clear hst2 hb hg12 hg2 hs2 hh hrb hq hq2
      go_wp2_with fail
      exact bodyPost_ret (v := .agg #[.string p, .int .i64 x1, .int .i64 x2, .int .i64 x3, .int .i64 q]) (by simp [results, Tryz.results33, go_sem, hrc]) rfl (retBat_of hlt HW0.out (stB_set HX.out.1 hbg hwg0) ⟨HX.out.2.1, HX.out.2.2.1, HX.out.2.2.2.1, HX.out.2.2.2.2.1, ⟨HQ.out.1, Int.le_trans HQ.out.2 (by decide)⟩⟩)
    · go_wp2_with fail
      refine (l01Next_any b 3 _ (hst1.out.1.kept (World.grownBy_alloc _ _ none) (by simp)) (by decide) (by decide)).mono ?_
      rintro e W2 ⟨r, rfl, r0, r1, hs2, hg2⟩
      obtain ⟨u, hu, q, rfl, hq, hq2⟩ := tab_kept (n := 3) hst1.out.1.lt hg2 (threeT (numB (lo := 0) (hi := 201) _ (by decide) (by decide)) (numB (lo := 0) (hi := 201) _ (by decide) (by decide)) (numB (lo := 0) (hi := 201) _ (by decide) (by decide))) r0 (by omega)
      have hg12 := grownBy_trans (World.grownBy_alloc W1 _ _) hg2
      have hst2 := stB_trans hst1.out hs2 hg12
      obtain ⟨p, x1, x2, x3, x4, hh, hb⟩ := hB1.out.kept hg12 hbg
      have hc := heap_cell hh
      have hf := heap_frozen hh
      have hv : r < 3 := by omega
      have hrb : W2.heap[w.heap.size]? = _ := hst2.2.block w.heap.size hlw (by simp; omega) ▸ hw1
      have hrc := heap_cell hrb
      have hrf := heap_frozen hrb
      have hne : ¬ g = w.heap.size := by omega
      have HX := Lib.hid (And.intro hst2 hb)
      have HQ := Lib.hid (And.intro hq hq2)
      clear hst2 hb hg12 hg2 hs2 hh hrb hq hq2
      go_wp2_with fail
      exact bodyPost_ret (v := .agg #[.string p, .int .i64 x1, .int .i64 x2, .int .i64 q, .int .i64 x4]) (by simp [results, Tryz.results33, go_sem, hrc]) rfl (retBat_of hlt HW0.out (stB_set HX.out.1 hbg hwg0) ⟨HX.out.2.1, HX.out.2.2.1, HX.out.2.2.2.1, ⟨HQ.out.1, Int.le_trans HQ.out.2 (by decide)⟩, HX.out.2.2.2.2.2⟩)
    · go_wp2_with fail
      refine (l01Next_any b 3 _ hst1.out.1 (by decide) (by decide)).mono ?_
      rintro e W2 ⟨r, rfl, r0, r1, hs2, hg12⟩
      have hst2 := stB_trans hst1.out hs2 hg12
      obtain ⟨p, x1, x2, x3, x4, hh, _⟩ := hB1.out.kept hg12 hbg
      have hc := heap_cell hh
      have hf := heap_frozen hh
      have hv : r < 3 := by omega
      have hw : IntKind.i64.wrap (2 + r) = 2 + r := IntWalk.i64_in _ (by omega)
      have hrb : W2.heap[w.heap.size]? = _ := hst2.2.block w.heap.size hlw (by simp; omega) ▸ hw1
      have hrc := heap_cell hrb
      have hrf := heap_frozen hrb
      have hne : ¬ g = w.heap.size := by omega
      have HX := Lib.hid (And.intro hst2 hh)
      have HQ := Lib.hid (show 0 ≤ 2 + r ∧ 2 + r ≤ 999999999 from ⟨by omega, by omega⟩)
      clear hst2 hg12 hs2 hh hrb
      go_wp2_with fail
      exact bodyPost_ret (v := .agg #[.string ⟨#[]⟩, .int .i64 999999997, .int .i64 1, .int .i64 (2 + r), .int .i64 9]) (by simp [results, Tryz.results33, go_sem, hrc]) rfl (retBat_of hlt HW0.out (set5 HX.out.1 hbg hwg0 HX.out.2).1 ⟨by decide, by decide, by decide, HQ.out, by decide⟩)
    · go_wp2_with fail
      refine (l01Next_any b 3 _ (hst1.out.1.kept (World.grownBy_alloc _ _ none) (by simp)) (by decide) (by decide)).mono ?_
      rintro e W2 ⟨r, rfl, r0, r1, hs2, hg2⟩
      obtain ⟨u, hu, q, rfl, hq, hq2⟩ := tab_kept (n := 3) hst1.out.1.lt hg2 (threeT (numB (lo := 0) (hi := 1001) _ (by decide) (by decide)) (numB (lo := 0) (hi := 1001) _ (by decide) (by decide)) (numB (lo := 0) (hi := 1001) _ (by decide) (by decide))) r0 (by omega)
      have hg12 := grownBy_trans (World.grownBy_alloc W1 _ _) hg2
      have hst2 := stB_trans hst1.out hs2 hg12
      obtain ⟨p, x1, x2, x3, x4, hh, hb⟩ := hB1.out.kept hg12 hbg
      have hc := heap_cell hh
      have hf := heap_frozen hh
      have hv : r < 3 := by omega
      have hrb : W2.heap[w.heap.size]? = _ := hst2.2.block w.heap.size hlw (by simp; omega) ▸ hw1
      have hrc := heap_cell hrb
      have hrf := heap_frozen hrb
      have hne : ¬ g = w.heap.size := by omega
      have HX := Lib.hid (And.intro hst2 hb)
      have HQ := Lib.hid (And.intro hq hq2)
      clear hst2 hb hg12 hg2 hs2 hh hrb hq hq2
      go_wp2_with fail
      exact bodyPost_ret (v := .agg #[.string p, .int .i64 x1, .int .i64 q, .int .i64 x3, .int .i64 x4]) (by simp [results, Tryz.results33, go_sem, hrc]) rfl (retBat_of hlt HW0.out (stB_set HX.out.1 hbg hwg0) ⟨HX.out.2.1, HX.out.2.2.1, ⟨HQ.out.1, Int.le_trans HQ.out.2 (by decide)⟩, HX.out.2.2.2.2.1, HX.out.2.2.2.2.2⟩)
    · have q0 : ¬ r = 0 := by omega
      have q1 : ¬ r = 1 := by omega
      have q2 : ¬ r = 2 := by omega
      have q3 : ¬ r = 3 := by omega
      have q4 : ¬ r = 4 := by omega
      clear hr
      obtain ⟨p, x1, x2, x3, x4, hh, hb⟩ := hB1.out
      have hc := heap_cell hh
      have hf := heap_frozen hh
      have hrb : W1.heap[w.heap.size]? = _ := hst1.out.2.block w.heap.size hlw (by simp; omega) ▸ hw1
      have hrc := heap_cell hrb
      have hrf := heap_frozen hrb
      have hne : ¬ g = w.heap.size := by omega
      have HX := Lib.hid hb
      clear hb hh hrb
      go_wp2_with fail
      exact bodyPost_ret (v := .agg #[.string p, .int .i64 x1, .int .i64 x2, .int .i64 x3, .int .i64 x4]) (by simp [results, Tryz.results33, go_sem, hrc]) rfl (retBat_of hlt HW0.out hst1.out HX.out)

end Go.Proofs.YtpilkgcghlfdmaaGreatDoor
namespace Go.Proofs.YtpilkgcghlfdmaaGreatDoor
open Go.RowKit

/-- the first n marks from k on -/
def marks (k : Int) (n : Nat) : List Int := (List.range n).map fun (i : Nat) => k + (i : Int)
theorem marks_len (k : Int) (n : Nat) : (marks k n).length = n := by simp [marks]
theorem marks_at {k : Int} {n i : Nat} (h : i < n) : (marks k n)[i]? = some (k + i) := by simp [marks, h]

/-- what 'held' answers: the next mark, or -1 -/
def heldOf (m : Int) (xs : List Int) : Int := if xs = marks m xs.length then m + xs.length else -1

end Go.Proofs.YtpilkgcghlfdmaaGreatDoor
namespace Go.Proofs.YtpilkgcghlfdmaaGreatDoor
open Go.RowKit

theorem OwnI.other {w w' : World} {base : Nat} {v : Value} {zs : List Int} {row : Option Nat} (h : OwnI w base v zs) (hg : w.grownBy w' row) (hne : ∀ k, v.ownBlock = some k → row ≠ some k) : OwnI w' base v zs :=
  h.kept hg (by
    cases hv : v.ownBlock with
    | none => exact Or.inl rfl
    | some k => exact Or.inr (fun e => hne k hv e.symm))
theorem OwnI.lo {w : World} {base : Nat} {v : Value} {zs : List Int} (h : OwnI w base v zs) : ∀ k, v.ownBlock = some k → base ≤ k := fun k hk => (World.ownsRow.lt h k hk).1
theorem OwnI.hi {w : World} {base : Nat} {v : Value} {zs : List Int} (h : OwnI w base v zs) : ∀ k, v.ownBlock = some k → k < w.heap.size := fun k hk => (World.ownsRow.lt h k hk).2
theorem OwnI.ints {w : World} {base : Nat} {a : Option Addr} {n c : Nat} {zs : List Int} (h : OwnI w base (.slice a n c) zs) : IntsAt w a zs := by
  obtain ⟨a', c', e, hx⟩ := h.read
  obtain ⟨rfl, _, _⟩ := Value.slice.inj e
  exact hx
/-- how a slice of numbers is written -/
def Slc (a : Option Addr) (xs : List Int) : Prop := (∀ ad, a = some ad → ad.spot = none) ∧ (a = none → xs = [])
theorem OwnI.slc {w : World} {base : Nat} {a : Option Addr} {n c : Nat} {xs : List Int} (h : OwnI w base (.slice a n c) xs) : Slc a xs := by
  rcases h.2 with ⟨h1, h0⟩ | ⟨g, cap, cur, h1, _⟩
  · obtain ⟨rfl, _, _⟩ := Value.slice.inj h1
    exact ⟨fun ad e => (by cases e), fun _ => List.eq_nil_of_length_eq_zero (by simpa using h0)⟩
  · obtain ⟨rfl, _, _⟩ := Value.slice.inj h1
    exact ⟨fun ad e => (by cases e; rfl), fun e => (by cases e)⟩

theorem boxG {w w1 : World} {b : Nat} {cs : Array Value} {row : Option Nat} (hg : w.grownBy w1 row) (h : ∀ i, w.cell? ⟨b, i, none⟩ = cs[i]?) (hne : row ≠ some b) (h0 : 0 < cs.size) : ∀ i, w1.cell? ⟨b, i, none⟩ = cs[i]? := fun i => by
  have h1 : b < w.heap.size := boxLt h h0
  rw [World.cell?_of_block (w := w) (a := ⟨b, i, none⟩) (hg.block b h1 (fun e => hne e.symm))]
  exact h i
/-- two rows whose blocks lie on two sides of a number are two -/
theorem apartB {v : Value} {u : Value} {T : Nat} (h1 : ∀ k, v.ownBlock = some k → k < T) (h2 : ∀ k, u.ownBlock = some k → T ≤ k) : ∀ k, v.ownBlock = some k → u.ownBlock ≠ some k := fun k hk e => by
  have a := h1 k hk
  have b := h2 k e
  omega
theorem apartB' {v : Value} {u : Value} {T : Nat} (h1 : ∀ k, v.ownBlock = some k → k < T) (h2 : ∀ k, u.ownBlock = some k → T ≤ k) : ∀ k, u.ownBlock = some k → v.ownBlock ≠ some k := fun k hk e => by
  have a := h1 k e
  have b := h2 k hk
  omega
theorem below_row {B : Nat} {w w' : World} {v : Value} (h : w.grownBy w' v.ownBlock) (hB : B ≤ w.heap.size) (hr : ∀ k, v.ownBlock = some k → B ≤ k) : Below B w w' := below_of_grownBy h hB hr

theorem heldOf_marks (m : Int) (n : Nat) : heldOf m (marks m n) = m + n := by rw [heldOf, if_pos (by rw [marks_len]), marks_len]

end Go.Proofs.YtpilkgcghlfdmaaGreatDoor
namespace Go.Proofs.YtpilkgcghlfdmaaGreatDoor
open Go.RowKit

/-- a drawn session: a batch as l31Draw leaves it, a row of the call's own -/
def RetDrawn (w : World) (b : Nat) (e : Ending) (w' : World) : Prop :=
  ∃ (p : ByteArray) (x1 x2 x3 x4 : Int) (zs : List Int) (a : Option Addr) (c : Nat), e = .returned (.agg #[.string p, .int .i64 x1, .int .i64 x2, .int .i64 x3, .int .i64 x4, .slice a zs.length c]) ∧ p.size ≤ 13 ∧ (0 ≤ x1 ∧ x1 ≤ 999999999) ∧ (0 ≤ x2 ∧ x2 ≤ 999999999) ∧ (0 ≤ x3 ∧ x3 ≤ 999999999) ∧ (0 ≤ x4 ∧ x4 ≤ 999999999) ∧
    zs.length ≤ 300 ∧ (∀ z ∈ zs, -1 ≤ z ∧ z ≤ 5) ∧ IntsAt w' a zs ∧ Slc a zs ∧ (∀ ad, a = some ad → w.heap.size < ad.block) ∧ Src w' b ∧ w.grownBy w' (some b)

/-- the rows drawn so far -/
def Drawn (w0 : World) (b base : Nat) (lo hi : Int) (n : Nat) (v : Value) (wr : World) : Prop :=
  ∃ zs : List Int, zs.length = n ∧ (∀ z ∈ zs, lo ≤ z ∧ z ≤ hi) ∧ OwnI wr base v zs ∧ StB b w0 wr

theorem own_apart {w : World} {base b : Nat} {v : Value} {zs : List Int} (h : OwnI w base v zs) (hb : b < base) : v.ownBlock ≠ some b := by
  rcases h.2 with ⟨rfl, _⟩ | ⟨g, cap, cur, rfl, hg, _⟩
  · simp [Value.ownBlock]
  · simp [Value.ownBlock]; omega

theorem own_src {w w' : World} {base b : Nat} {v : Value} {zs : List Int} (h : OwnI w base v zs) (hb : b < base) (hg : w.grownBy w' (some b)) : OwnI w' base v zs :=
  h.kept (row := some b) hg (by have := own_apart h hb; cases hv : v.ownBlock <;> simp_all)

theorem own_at {w : World} {base : Nat} {v : Value} {zs : List Int} (h : OwnI w base v zs) : ∀ g, v.ownBlock = some g → base ≤ g := by
  rcases h.2 with ⟨rfl, _⟩ | ⟨g, cap, cur, rfl, hg, _⟩
  · simp [Value.ownBlock]
  · intro k e; simp [Value.ownBlock] at e; omega
theorem stB_own {b base : Nat} {w0 w wo w' : World} {v : Value} {zs : List Int} (hst : StB b w0 w) (ho : OwnI wo base v zs) (hg : w.grownBy w' v.ownBlock) (hb : b < base) (h0 : w0.heap.size ≤ base) : StB b w0 w' :=
  ⟨hst.1.kept hg (fun k e => by have := own_at ho k e; omega), hst.2.andThen hg (fun j e => Or.inl (by have := own_at ho j e; omega))⟩
theorem drawn_more {w0 w wo w' : World} {b base : Nat} {lo hi : Int} {v v0 : Value} {zs : List Int} {z : Int} (ho0 : OwnI wo base v0 zs) (hz : ∀ z ∈ zs, lo ≤ z ∧ z ≤ hi) (hl : lo ≤ z) (hh : z ≤ hi) (ho : w'.ownsRow base 2 1 v (zs.length + 1) (zs.map (Value.int .i64) ++ [.int .i64 z])) (hst : StB b w0 w) (hg : w.grownBy w' v0.ownBlock) (hb : b < base) (h0 : w0.heap.size ≤ base) :
    Drawn w0 b base lo hi (zs.length + 1) v w' := by
  have h1 : OwnI w' base v (zs ++ [z]) := by
    unfold OwnI
    rw [List.map_append, List.length_append]
    exact ho
  refine ⟨zs ++ [z], by simp, fun y hy => ?_, h1, stB_own hst ho0 hg hb h0⟩
  rcases List.mem_append.1 hy with hy | hy
  · exact hz y hy
  · simp at hy; subst hy; exact ⟨hl, hh⟩
theorem twoT {p : Value → Prop} {a b : Value} (ha : p a) (hb : p b) : ∀ i, i < 2 → ∃ u, (#[a, b] : Array Value)[i]? = some u ∧ p u
  | 0, _ => ⟨_, rfl, ha⟩
  | 1, _ => ⟨_, rfl, hb⟩
theorem sevenT {p : Value → Prop} {a b c d e f g : Value} (ha : p a) (hb : p b) (hc : p c) (hd : p d) (he : p e) (hf : p f) (hg : p g) : ∀ i, i < 7 → ∃ u, (#[a, b, c, d, e, f, g] : Array Value)[i]? = some u ∧ p u
  | 0, _ => ⟨_, rfl, ha⟩
  | 1, _ => ⟨_, rfl, hb⟩
  | 2, _ => ⟨_, rfl, hc⟩
  | 3, _ => ⟨_, rfl, hd⟩
  | 4, _ => ⟨_, rfl, he⟩
  | 5, _ => ⟨_, rfl, hf⟩
  | 6, _ => ⟨_, rfl, hg⟩

theorem intsAt_other {W : World} {a : Option Addr} {zs : List Int} (h : IntsAt W a zs) {R j : Nat} {v : Value} (hne : ∀ ad, a = some ad → ad.block ≠ R) : IntsAt (W.setCell ⟨R, j, none⟩ v) a zs := by
  intro i hi
  obtain ⟨g, o, ha, hc⟩ := h i hi
  refine ⟨g, o, ha, ?_⟩
  rw [← hc]
  exact World.cell?_of_block (a := ⟨g, o + i, none⟩) (heap_setCell_other W ⟨R, j, none⟩ g v (by have := hne _ ha; exact this))

/-- the end: the session lies in the result's box -/
theorem retDrawn_of {w W : World} {b : Nat} {v0 v1 v2 v3 v4 v5 : Value} {o : Obj} {w0 : World} (hlt : b < w.heap.size) (hw : (w.alloc o).grownBy w0 (some b)) (hst : StB b w0 W) {p : ByteArray} {x1 x2 x3 x4 : Int} (hb : p.size ≤ 13 ∧ (0 ≤ x1 ∧ x1 ≤ 999999999) ∧ (0 ≤ x2 ∧ x2 ≤ 999999999) ∧ (0 ≤ x3 ∧ x3 ≤ 999999999) ∧ (0 ≤ x4 ∧ x4 ≤ 999999999))
    {zs : List Int} {a : Option Addr} {c : Nat} (hl : zs.length ≤ 300) (hz : ∀ z ∈ zs, -1 ≤ z ∧ z ≤ 5) (hi : IntsAt W a zs) (hsl : Slc a zs) (hgt : ∀ ad, a = some ad → w.heap.size < ad.block) :
    RetDrawn w b (.returned (.agg #[.string p, .int .i64 x1, .int .i64 x2, .int .i64 x3, .int .i64 x4, .slice a zs.length c])) ((((((W.setCell ⟨w.heap.size, 0, none⟩ v0).setCell ⟨w.heap.size, 1, none⟩ v1).setCell ⟨w.heap.size, 2, none⟩ v2).setCell ⟨w.heap.size, 3, none⟩ v3).setCell ⟨w.heap.size, 4, none⟩ v4).setCell ⟨w.heap.size, 5, none⟩ v5) := by
  have hne : ∀ ad, a = some ad → ad.block ≠ w.heap.size := fun ad e => Nat.ne_of_gt (hgt ad e)
  have h0 : StB b w W := ⟨hst.1, grownBy_trans (World.grownBy_alloc _ _ _) (grownBy_trans hw hst.2)⟩
  have h5 := stB_set (v := v5) (i := 5) (stB_set (v := v4) (i := 4) (stB_set (v := v3) (i := 3) (stB_set (v := v2) (i := 2) (stB_set (v := v1) (i := 1) (stB_set (v := v0) (i := 0) h0 hlt (Nat.le_refl _)) hlt (Nat.le_refl _)) hlt (Nat.le_refl _)) hlt (Nat.le_refl _)) hlt (Nat.le_refl _)) hlt (Nat.le_refl _)
  exact ⟨p, x1, x2, x3, x4, zs, a, c, rfl, hb.1, hb.2.1, hb.2.2.1, hb.2.2.2.1, hb.2.2.2.2, hl, hz, intsAt_other (intsAt_other (intsAt_other (intsAt_other (intsAt_other (intsAt_other hi hne) hne) hne) hne) hne) hne, hsl, hgt, h5.1, h5.2⟩

theorem own_cap {w : World} {base n c : Nat} {a : Option Addr} {zs : List Int} (h : OwnI w base (.slice a n c) zs) : zs.length ≤ c := by
  rcases h.2 with ⟨h1, h2⟩ | ⟨g, cap, cur, h1, hg, _, h3, _⟩
  · omega
  · simp only [Value.slice.injEq] at h1; omega
/-- the rest behind the first -/
theorem ints_tail {w : World} {g : Nat} {zs : List Int} (h : IntsAt w (some ⟨g, 0, none⟩) zs) : IntsAt w (some ⟨g, 1, none⟩) zs.tail := by
  intro i hi
  obtain ⟨b, o, ha, hc⟩ := h (i + 1) (by simp at hi; omega)
  simp only [Option.some.injEq, Addr.mk.injEq, and_true] at ha
  obtain ⟨rfl, rfl⟩ := ha
  refine ⟨g, 1, rfl, ?_⟩
  rw [List.getElem_tail, ← hc, show (1 + i) = 0 + (i + 1) by omega]

end Go.Proofs.YtpilkgcghlfdmaaGreatDoor
namespace Go.Proofs.YtpilkgcghlfdmaaGreatDoor
open Go.RowKit

/-- a drawn record -/
def RetRec (w : World) (b : Nat) (e : Ending) (w' : World) : Prop :=
  ∃ k i : Int, e = .returned (.agg #[.int .i64 k, .int .i64 i]) ∧ (0 ≤ k ∧ k ≤ 5) ∧ (-1 ≤ i ∧ i ≤ 200) ∧ Src w' b ∧ w.grownBy w' (some b)

/-- the end: the record lies in the result's box -/
theorem retRec_of {w W : World} {b : Nat} {v0 v1 : Value} (hlt : b < w.heap.size) (hst : StB b w W) {k i : Int} (hk : 0 ≤ k ∧ k ≤ 5) (hi : -1 ≤ i ∧ i ≤ 200) :
    RetRec w b (.returned (.agg #[.int .i64 k, .int .i64 i])) ((W.setCell ⟨w.heap.size, 0, none⟩ v0).setCell ⟨w.heap.size, 1, none⟩ v1) := by
  have h0 := hst
  have h5 := stB_set (v := v1) (i := 1) (stB_set (v := v0) (i := 0) h0 hlt (Nat.le_refl _)) hlt (Nat.le_refl _)
  exact ⟨k, i, rfl, hk, hi, h5.1, h5.2⟩

theorem stB_up {w W w0 : World} {b : Nat} {o : Obj} (hw : (w.alloc o).grownBy w0 (some b)) (hst : StB b w0 W) : StB b w W := ⟨hst.1, grownBy_trans (World.grownBy_alloc _ _ _) (grownBy_trans hw hst.2)⟩

set_option maxRecDepth 100000 in
set_option maxHeartbeats 1000000 in
theorem l32Draw_any (b : Nat) (w : World) (hs : Src w b) :
    Calls Tryz.prog 84 #[.pointer (some ⟨b, 0, none⟩)] w (RetRec w b) := by
  have hlt := hs.lt
  have HS := Lib.hid hs
  clear hs
  go_enter Tryz.func84, Tryz.ntmps84
  go_wp2_with fail
  refine (l01Next_any b 4 _ (HS.out.kept (World.grownBy_alloc _ _ none) (by simp)) (by decide) (by decide)).mono ?_
  rintro e W1 ⟨r1, rfl, r10, r11, hs1, hg1⟩
  have hr1 : r1 < 4 := by omega
  have HS1 := Lib.hid hs1
  have HG1 := Lib.hid hg1
  clear hs1 hg1 r11
  go_wp2_with fail
  refine (l01Next_any b 5 _ HS1.out (by decide) (by decide)).mono ?_
  rintro e W2 ⟨r2, rfl, r20, r21, hs2, hg2⟩
  have hr2 : r2 < 5 := by omega
  have hg12 := grownBy_trans HG1.out hg2
  have hws : w.heap.size < W2.heap.size := by have := hg12.size; simp at this; omega
  have HS2 := Lib.hid hs2
  have HG2 := Lib.hid hg12
  clear hs2 hg2 hg12 r21
  go_wp2_with fail
  have HG0 := Lib.hid (grownBy_trans HG2.out (World.grownBy_alloc W2 (.cells #[.int .i64 (1 + r1), .int .i64 r2] 53 (0, 0)) _))
  have hb2 : b < W2.heap.size := HS2.out.lt
  have HB0 : Hid ((W2.alloc (.cells #[.int .i64 (1 + r1), .int .i64 r2] 53 (0, 0))).heap[W2.heap.size]? = some (.cells #[.int .i64 (1 + r1), .int .i64 r2] 53 (0, 0))) := Lib.hid Array.getElem?_push_size
  have H0 : Hid (StB b (W2.alloc (.cells #[.int .i64 (1 + r1), .int .i64 r2] 53 (0, 0))) (W2.alloc (.cells #[.int .i64 (1 + r1), .int .i64 r2] 53 (0, 0)))) := Lib.hid ⟨HS2.out.kept (World.grownBy_alloc _ _ none) (by simp), World.grownBy.refl _ _⟩
  have hs0 : (W2.alloc (.cells #[.int .i64 (1 + r1), .int .i64 r2] 53 (0, 0))).heap.size = W2.heap.size + 1 := by simp
  generalize (W2.alloc (.cells #[.int .i64 (1 + r1), .int .i64 r2] 53 (0, 0))) = w0 at *
  have HBOX : Hid (∀ W, StB b w0 W → (∀ i, W.cell? ⟨W2.heap.size, i, none⟩ = (#[.int .i64 (1 + r1), .int .i64 r2] : Array Value)[i]?) ∧ (∀ i, W.frozen? ⟨W2.heap.size, i, none⟩ = false) ∧ (∀ i, W.cell? ⟨w.heap.size, i, none⟩ = (#[.int .i64 0, .int .i64 0] : Array Value)[i]?) ∧ (∀ i, W.frozen? ⟨w.heap.size, i, none⟩ = false)) := Lib.hid (fun W hst => by
    have h1 := (hst.2.block w.heap.size (by omega) (by simp; omega)).trans ((HG0.out.block w.heap.size (by simp) (by simp; omega)).trans Array.getElem?_push_size)
    have h2 := (hst.2.block W2.heap.size (by omega) (by simp; omega)).trans HB0.out
    exact ⟨heap_cell h2, heap_frozen h2, heap_cell h1, heap_frozen h1⟩)
  have n1 : ¬ W2.heap.size = w.heap.size := by omega
  have n2 : ¬ w.heap.size = W2.heap.size := by omega
  refine (l01Next_any b 40 _ H0.out.1 (by decide) (by decide)).mono ?_
  rintro e W3 ⟨r, rfl, r0, r1', hs3, hg3⟩
  have hst3 := stB_trans H0.out hs3 hg3
  obtain ⟨hc3, hf3, hrr3, hrf3⟩ := HBOX.out W3 hst3
  have HST3 := Lib.hid hst3
  clear hst3 hs3 hg3
  have hr : r = 0 ∨ r = 1 ∨ 2 ≤ r := by omega
  clear r1' r0
  rcases hr with rfl | rfl | hr
  · go_wp2_with fail
    refine (l01Next_any b 2 _ (HST3.out.1.kept (World.grownBy_alloc _ _ none) (by simp)) (by decide) (by decide)).mono ?_
    rintro e W4 ⟨r, rfl, r0, r1', hs4, hg4⟩
    obtain ⟨u, hu, z, rfl, hz0, hz5⟩ := tab_kept (n := 2) HST3.out.1.lt hg4 (twoT (numB (lo := 0) (hi := 5) _ (by decide) (by decide)) (numB (lo := 0) (hi := 5) _ (by decide) (by decide))) r0 (by omega)
    have hst4 := stB_trans HST3.out hs4 (grownBy_trans (World.grownBy_alloc W3 _ _) hg4)
    obtain ⟨hc4, hf4, hrr4, hrf4⟩ := HBOX.out W4 hst4
    have HST4 := Lib.hid hst4
    have hr2' : r < 2 := by omega
    clear hst4 hs4 hg4 hc3 hf3 hrr3 hrf3 r1'
    go_wp2_with fail
    exact bodyPost_ret (v := .agg #[.int .i64 z, .int .i64 r2]) (by simp [results, Tryz.results84, go_sem, hrr4]) rfl (retRec_of hlt (stB_set (stB_up HG0.out HST4.out) (by omega) (by omega)) ⟨by omega, by omega⟩ ⟨by omega, by omega⟩)
  · go_wp2_with fail
    refine (l01Next_any b 3 _ (HST3.out.1.kept (World.grownBy_alloc _ _ none) (by simp)) (by decide) (by decide)).mono ?_
    rintro e W4 ⟨r, rfl, r0, r1', hs4, hg4⟩
    obtain ⟨u, hu, z, rfl, hz0, hz5⟩ := tab_kept (n := 3) HST3.out.1.lt hg4 (threeT (numB (lo := -1) (hi := 200) _ (by decide) (by decide)) (numB (lo := -1) (hi := 200) _ (by decide) (by decide)) (numB (lo := -1) (hi := 200) _ (by decide) (by decide))) r0 (by omega)
    have hst4 := stB_trans HST3.out hs4 (grownBy_trans (World.grownBy_alloc W3 _ _) hg4)
    obtain ⟨hc4, hf4, hrr4, hrf4⟩ := HBOX.out W4 hst4
    have HST4 := Lib.hid hst4
    have hr2' : r < 3 := by omega
    clear hst4 hs4 hg4 hc3 hf3 hrr3 hrf3 r1'
    go_wp2_with fail
    exact bodyPost_ret (v := .agg #[.int .i64 (1 + r1), .int .i64 z]) (by simp [results, Tryz.results84, go_sem, hrr4]) rfl (retRec_of hlt (stB_set (stB_up HG0.out HST4.out) (by omega) (by omega)) ⟨by omega, by omega⟩ ⟨by omega, by omega⟩)
  · have q0 : ¬ r = 0 := by omega
    have q1 : ¬ r = 1 := by omega
    clear hr
    go_wp2_with fail
    exact bodyPost_ret (v := .agg #[.int .i64 (1 + r1), .int .i64 r2]) (by simp [results, Tryz.results84, go_sem, hrr3]) rfl (retRec_of hlt (stB_up HG0.out HST3.out) ⟨by omega, by omega⟩ ⟨by omega, by omega⟩)

end Go.Proofs.YtpilkgcghlfdmaaGreatDoor
namespace Go.Proofs.YtpilkgcghlfdmaaGreatDoor
open Go.RowKit

/-- low <= n <= high -/
def inB (n lo hi : Int) : Bool := decide (lo ≤ n ∧ n ≤ hi)
theorem inB_iff {n lo hi : Int} : inB n lo hi = true ↔ lo ≤ n ∧ n ≤ hi := by simp [inB]
theorem inB_not {n lo hi : Int} : inB n lo hi = false ↔ n < lo ∨ hi < n := by simp [inB]; omega

set_option maxHeartbeats 400000 in
theorem inRange_any (n lo hi : Int) (w : World) :
    Calls Tryz.prog 60 #[.int .i64 n, .int .i64 lo, .int .i64 hi] w fun e w' => e = .returned (.bool (inB n lo hi)) ∧ w = w' := by
  have e : inB n lo hi = (decide (lo ≤ n) && decide (n ≤ hi)) := by simp [inB]
  rw [e]
  clear e
  go_enter Tryz.func60, Tryz.ntmps60
  go_wp2
  all_goals go_ret
  all_goals exact ⟨ret_bool (by simp; try omega), rfl⟩

set_option maxHeartbeats 400000 in
theorem l01In_any (n lo hi : Int) (w : World) :
    Calls Tryz.prog 75 #[.int .i64 n, .int .i64 lo, .int .i64 hi] w fun e w' => e = .returned (.bool (inB n lo hi)) ∧ w = w' := by
  have e : inB n lo hi = (decide (lo ≤ n) && decide (n ≤ hi)) := by simp [inB]
  rw [e]
  clear e
  go_enter Tryz.func75, Tryz.ntmps75
  go_wp2
  all_goals go_ret
  all_goals exact ⟨ret_bool (by simp; try omega), rfl⟩

theorem inRange_val {n lo hi : Int} {b : Bool} {w : World} (h : inB n lo hi = b) :
    Calls Tryz.prog 60 #[.int .i64 n, .int .i64 lo, .int .i64 hi] w fun e w' => e = .returned (.bool b) ∧ w = w' := h ▸ inRange_any n lo hi w
theorem l01In_val {n lo hi : Int} {b : Bool} {w : World} (h : inB n lo hi = b) :
    Calls Tryz.prog 75 #[.int .i64 n, .int .i64 lo, .int .i64 hi] w fun e w' => e = .returned (.bool b) ∧ w = w' := h ▸ l01In_any n lo hi w

end Go.Proofs.YtpilkgcghlfdmaaGreatDoor
namespace Go.Proofs.YtpilkgcghlfdmaaGreatDoor
open Go.RowKit

/-- a letter of a prefix -/
def prefC (c : UInt8) : Bool := (c.toNat : Int) == 45 || (decide ((65 : Int) ≤ c.toNat) && decide ((c.toNat : Int) ≤ 90))
def prefB (p : ByteArray) : Bool := p.data.toList.all prefC

theorem prefB_step {p : ByteArray} {k : Nat} (hk : k < p.size) (h : (p.data.toList.take k).all prefC = true) (hc : prefC p[k] = true) : (p.data.toList.take (k + 1)).all prefC = true := by
  rw [List.take_succ_eq_append_getElem (by simpa using hk), List.all_append, h]
  simp only [List.all_cons, List.all_nil, Bool.and_true, Bool.true_and]
  exact hc
theorem prefB_end {p : ByteArray} {k : Nat} (hk : p.size ≤ k) (h : (p.data.toList.take k).all prefC = true) : prefB p = true := by
  rwa [List.take_of_length_le (by simpa using hk)] at h
theorem prefB_no {p : ByteArray} {k : Nat} (hk : k < p.size) (hc : prefC p[k] = false) : prefB p = false := by
  unfold prefB
  rw [List.all_eq_false]
  exact ⟨p.data.toList[k]'(by simpa using hk), List.getElem_mem _, by simpa using (show prefC (p.data[k]) = false from hc)⟩

/-- how the tests of a batch end: at the first that fails -/
theorem seven (a b c d e f g : Bool) : a = false ∨ (a = true ∧ b = false) ∨ (a = true ∧ b = true ∧ c = false) ∨ (a = true ∧ b = true ∧ c = true ∧ d = false) ∨ (a = true ∧ b = true ∧ c = true ∧ d = true ∧ e = false) ∨
    (a = true ∧ b = true ∧ c = true ∧ d = true ∧ e = true ∧ f = false) ∨ (a = true ∧ b = true ∧ c = true ∧ d = true ∧ e = true ∧ f = true ∧ g = false) ∨ (a = true ∧ b = true ∧ c = true ∧ d = true ∧ e = true ∧ f = true ∧ g = true) := by
  cases a <;> cases b <;> cases c <;> cases d <;> cases e <;> cases f <;> cases g <;> simp

/-- the last number -/
def lastI (x1 x2 x3 : Int) : Int := x1 + (x3 - 1) * x2

def isBatchB (p : ByteArray) (x1 x2 x3 x4 : Int) : Bool :=
  prefB p && decide ((p.size : Int) ≤ 12) && inB x2 1 1000 && inB x3 1 200 && inB x4 1 9 && inB x1 0 999999999 && decide (lastI x1 x2 x3 ≤ 999999999) && decide (((decB (lastI x1 x2 x3)).size : Int) ≤ x4)

theorem last_bd {x1 x2 x3 : Int} (h1 : inB x1 0 999999999 = true) (h2 : inB x2 1 1000 = true) (h3 : inB x3 1 200 = true) :
    0 ≤ (x3 - 1) * x2 ∧ (x3 - 1) * x2 ≤ 199000 ∧ 0 ≤ lastI x1 x2 x3 ∧ lastI x1 x2 x3 ≤ 1000198999 := by
  rw [inB_iff] at h1 h2 h3
  have a : 0 ≤ (x3 - 1) * x2 := Int.mul_nonneg (by omega) (by omega)
  have b : (x3 - 1) * x2 ≤ 199 * 1000 := Int.mul_le_mul (by omega) (by omega) (by omega) (by omega)
  unfold lastI
  omega

set_option maxHeartbeats 400000 in
theorem last_any (p : ByteArray) (x1 x2 x3 x4 : Int) (w : World) (h1 : inB x1 0 999999999 = true) (h2 : inB x2 1 1000 = true) (h3 : inB x3 1 200 = true) :
    Calls Tryz.prog 61 #[.agg #[.string p, .int .i64 x1, .int .i64 x2, .int .i64 x3, .int .i64 x4]] w fun e w' => e = .returned (.int .i64 (lastI x1 x2 x3)) ∧ Below w.heap.size w w' := by
  obtain ⟨b1, b2, b3, b4⟩ := last_bd h1 h2 h3
  rw [inB_iff] at h1 h2 h3
  unfold lastI at b3 b4 ⊢
  obtain ⟨h11, h12⟩ := h1
  obtain ⟨h21, h22⟩ := h2
  obtain ⟨h31, h32⟩ := h3
  go_enter Tryz.func61, Tryz.ntmps61
  go_wp2
  go_ret
  exact ⟨rfl, (Below.refl _ _).alloc (Nat.le_refl _) _⟩

set_option maxHeartbeats 400000 in
theorem l31Prefix_any (p : ByteArray) (w : World) (hp : p.size ≤ maxLen) :
    Calls Tryz.prog 90 #[.string p] w fun e w' => e = .returned (.bool (prefB p && decide (p.size ≤ 12))) ∧ w = w' := by
  unfold maxLen at hp
  go_enter Tryz.func90, Tryz.ntmps90
  go_wp2
  go_loop [3] (fun i => ∃ k : Nat, k ≤ p.size ∧ i = .int .i64 k ∧ (p.data.toList.take k).all prefC = true) (fun i => p.size - (intOf i).toNat)
  case atStart => exact ⟨0, Nat.zero_le _, rfl, rfl⟩
  case round =>
    obtain ⟨k, hk, rfl, ht⟩ := hrel
    have HT := Lib.hid ht
    clear ht
    by_cases hlt : k < p.size
    · have HC : Hid (prefC p[k] = ((p[k].toNat : Int) == 45 || (decide ((65 : Int) ≤ p[k].toNat) && decide ((p[k].toNat : Int) ≤ 90)))) := rfl
      rcases (show ((p[k].toNat : Int) != 45) = false ∨ (((p[k].toNat : Int) != 45) = true ∧ (p[k].toNat : Int) < 65) ∨ (((p[k].toNat : Int) != 45) = true ∧ (90 : Int) < p[k].toNat) ∨ (((p[k].toNat : Int) != 45) = true ∧ ¬ (p[k].toNat : Int) < 65 ∧ ¬ (90 : Int) < p[k].toNat) by
        simp only [bne_iff_ne, bne_eq_false_iff_eq]; omega) with h | ⟨h, h'⟩ | ⟨h, h'⟩ | ⟨h, h', h''⟩
      · go_wp2
        go_round
        case rel => exact ⟨k + 1, by omega, by go_num, prefB_step hlt HT.out (by rw [HC.out]; simp at h; simp [h])⟩
        case measure => simp [intOf]; omega
      · go_wp2
        go_ret
        exact ⟨ret_bool (by rw [prefB_no hlt (by rw [HC.out]; simp at h; simp [h]; omega)]; rfl), rfl⟩
      · have h3 : ¬ (p[k].toNat : Int) < 65 := by omega
        go_wp2
        go_ret
        exact ⟨ret_bool (by rw [prefB_no hlt (by rw [HC.out]; simp at h; simp [h]; omega)]; rfl), rfl⟩
      · go_wp2
        go_round
        case rel => exact ⟨k + 1, by omega, by go_num, prefB_step hlt HT.out (by rw [HC.out]; simp at h; simp; omega)⟩
        case measure => simp [intOf]; omega
    · go_wp2
      go_ret
      exact ⟨ret_bool (by rw [prefB_end (by omega) HT.out, Bool.true_and]; exact decide_eq_decide.2 (by omega)), rfl⟩

end Go.Proofs.YtpilkgcghlfdmaaGreatDoor
namespace Go.Proofs.YtpilkgcghlfdmaaGreatDoor
open Go.RowKit

/-- the value of a byte modulo 10 -/
def valC (c : UInt8) : Int := if 48 ≤ (c.toNat : Int) ∧ (c.toNat : Int) ≤ 57 then (c.toNat : Int) - 48 else (c.toNat : Int) % 10
theorem valC_bd (c : UInt8) : 0 ≤ valC c ∧ valC c ≤ 9 := by unfold valC; split <;> omega
def wgt (k : Nat) : Int := if k % 2 = 0 then 3 else 1
theorem wgt_bd (k : Nat) : 1 ≤ wgt k ∧ wgt k ≤ 3 := by unfold wgt; split <;> omega
theorem wgt_succ (k : Nat) : wgt (k + 1) = 4 - wgt k := by unfold wgt; split <;> split <;> omega
/-- the weighted sum of the last k bytes -/
def ws (p : ByteArray) : Nat → Int
  | 0 => 0
  | k + 1 => ws p k + wgt k * valC (p.data.toList.getD (p.size - 1 - k) 0)
theorem ws_bd (p : ByteArray) : ∀ k, 0 ≤ ws p k ∧ ws p k ≤ 27 * k
  | 0 => by simp [ws]
  | k + 1 => by
    have h1 := ws_bd p k
    have h2 := valC_bd (p.data.toList.getD (p.size - 1 - k) 0)
    unfold ws wgt
    generalize valC _ = v at *
    split <;> omega
/-- the check digit -/
def chkB (p : ByteArray) : Int := (10 - ws p p.size % 10) % 10
theorem chkB_bd (p : ByteArray) : 0 ≤ chkB p ∧ chkB p ≤ 9 := by unfold chkB; omega

end Go.Proofs.YtpilkgcghlfdmaaGreatDoor
namespace Go.Proofs.YtpilkgcghlfdmaaGreatDoor
open Go.RowKit

def zerosB (n : Nat) : ByteArray := ⟨(List.replicate n (48 : UInt8)).toArray⟩
theorem zerosB_size (n : Nat) : (zerosB n).size = n := by simp [zerosB, ByteArray.size]
theorem zerosB_zero : zerosB 0 = ByteArray.empty := rfl
theorem zerosB_succ (n : Nat) : zerosB (n + 1) = zerosB 1 ++ zerosB n := by
  apply ByteArray.ext
  simp [zerosB, List.replicate_succ]
theorem repeat_zeros (c : Nat) : (⟨(Lib.repeatL [48] c).toArray⟩ : ByteArray) = zerosB c := by
  have := Lib.repeatL_replicate 48 1 c
  simp only [List.replicate_succ, List.replicate_zero, Nat.mul_one] at this
  rw [this]; rfl

/-- a serial's string without its check digit -/
def bodyB (p : ByteArray) (x1 x2 x4 i : Int) : ByteArray := p ++ zerosB (x4.toNat - (decB (x1 + i * x2)).size) ++ decB (x1 + i * x2)
def serB (p : ByteArray) (x1 x2 x4 i : Int) : ByteArray := bodyB p x1 x2 x4 i ++ decB (chkB (bodyB p x1 x2 x4 i))

theorem batch_parts {p : ByteArray} {x1 x2 x3 x4 : Int} (h : isBatchB p x1 x2 x3 x4 = true) :
    p.size ≤ 12 ∧ 1 ≤ x2 ∧ x2 ≤ 1000 ∧ 1 ≤ x3 ∧ x3 ≤ 200 ∧ 1 ≤ x4 ∧ x4 ≤ 9 ∧ 0 ≤ x1 ∧ x1 ≤ 999999999 ∧ lastI x1 x2 x3 ≤ 999999999 ∧ ((decB (lastI x1 x2 x3)).size : Int) ≤ x4 := by
  simp only [isBatchB, Bool.and_eq_true, decide_eq_true_eq, inB_iff] at h
  omega

theorem decDigits_small {a : Nat} (h : a < 10) : Lib.decDigits a = [UInt8.ofNat (48 + a)] := by rw [Lib.decDigits, dif_pos h]
theorem decDigits_big {a : Nat} (h : ¬ a < 10) : Lib.decDigits a = Lib.decDigits (a / 10) ++ [UInt8.ofNat (48 + a % 10)] := by rw [Lib.decDigits, dif_neg h]
theorem decDigits_len_mono : ∀ (b a : Nat), a ≤ b → (Lib.decDigits a).length ≤ (Lib.decDigits b).length := by
  intro b
  induction b using Nat.strongRecOn with
  | ind b ih =>
    intro a hab
    by_cases ha : a < 10
    · rw [decDigits_small ha]
      by_cases hb : b < 10
      · rw [decDigits_small hb]; simp
      · rw [decDigits_big hb]; simp
    · rw [decDigits_big ha, decDigits_big (by omega : ¬ b < 10)]
      have := ih (b / 10) (by omega) (a / 10) (by omega)
      simp only [List.length_append, List.length_cons, List.length_nil]
      omega
theorem decB_mono {a b : Int} (h0 : 0 ≤ a) (h : a ≤ b) : (decB a).size ≤ (decB b).size := by
  obtain ⟨m, rfl⟩ := Int.eq_ofNat_of_zero_le h0
  obtain ⟨n, rfl⟩ := Int.eq_ofNat_of_zero_le (Int.le_trans h0 h)
  rw [decB_size, decB_size, Lib.itoa_nonneg, Lib.itoa_nonneg]
  exact decDigits_len_mono n m (by omega)

theorem ser_bd {x1 x2 x3 i : Int} (h1 : 0 ≤ x1) (h2 : 1 ≤ x2) (h3 : x2 ≤ 1000) (h4 : x3 ≤ 200) (_hl : lastI x1 x2 x3 ≤ 999999999) (i0 : 0 ≤ i) (i1 : i < x3) :
    0 ≤ i * x2 ∧ i * x2 ≤ 199000 ∧ 0 ≤ x1 + i * x2 ∧ x1 + i * x2 ≤ lastI x1 x2 x3 := by
  have a : 0 ≤ i * x2 := Int.mul_nonneg i0 (by omega)
  have b : i * x2 ≤ 199 * 1000 := Int.mul_le_mul (by omega) h3 (by omega) (by omega)
  have c : i * x2 ≤ (x3 - 1) * x2 := Int.mul_le_mul_of_nonneg_right (by omega) (by omega)
  unfold lastI at *
  omega
theorem ser_width {x1 x2 x3 x4 i : Int} (h1 : 0 ≤ x1) (h2 : 1 ≤ x2) (h3 : x2 ≤ 1000) (h4 : x3 ≤ 200) (hl : lastI x1 x2 x3 ≤ 999999999) (hw : ((decB (lastI x1 x2 x3)).size : Int) ≤ x4) (i0 : 0 ≤ i) (i1 : i < x3) :
    ((decB (x1 + i * x2)).size : Int) ≤ x4 := by
  obtain ⟨_, _, a, b⟩ := ser_bd h1 h2 h3 h4 hl i0 i1
  have := decB_mono a b
  omega
theorem bodyB_size {p : ByteArray} {x1 x2 x4 i : Int} (hw : ((decB (x1 + i * x2)).size : Int) ≤ x4) : ((bodyB p x1 x2 x4 i).size : Int) = p.size + x4 := by
  unfold bodyB
  rw [ByteArray.size_append, ByteArray.size_append, zerosB_size]
  omega

/-- the first place below n at which f answers yes -/
def firstI (f : Nat → Bool) (n : Nat) : Option Nat := (List.range n).find? f
theorem firstI_some {f : Nat → Bool} {n k : Nat} (hk : k < n) (h : f k = true) (hno : ∀ j, j < k → f j = false) : firstI f n = some k := by
  unfold firstI
  rw [List.find?_range_eq_some]
  exact ⟨h, by simpa using hk, fun j hj => by simp [hno j hj]⟩
theorem firstI_none {f : Nat → Bool} {n : Nat} (hno : ∀ j, j < n → f j = false) : firstI f n = none := by
  unfold firstI
  rw [List.find?_eq_none]
  intro x hx
  simp [hno x (by simpa using hx)]

end Go.Proofs.YtpilkgcghlfdmaaGreatDoor
namespace Go.Proofs.YtpilkgcghlfdmaaGreatDoor
open Go.RowKit

/-- a call that keeps what is there, said of the world in which the caller began -/
theorem callB {P : Program} {f : FuncId} {args : Array Value} {w w0 : World} {B : Nat} {v : Value} (HB : Hid (Below B w0 w)) (hs : B ≤ w.heap.size)
    (h : Calls P f args w fun e w' => e = .returned v ∧ Below w.heap.size w w') :
    Calls P f args w fun e w' => e = .returned v ∧ Hid (Below B w0 w') ∧ Hid (Below w.heap.size w w') ∧ (∀ b o, b < w.heap.size → w'.cell? ⟨b, o, none⟩ = w.cell? ⟨b, o, none⟩) ∧ (∀ b o, b < w.heap.size → w'.frozen? ⟨b, o, none⟩ = w.frozen? ⟨b, o, none⟩) ∧ w.heap.size ≤ w'.heap.size :=
  h.mono fun _ _ ⟨he, hb⟩ => ⟨he, Lib.hid (HB.out.trans (hb.mono hs)), Lib.hid hb, (bcell hb).1, (bcell hb).2, hb.size⟩

theorem same_below {P : Program} {f : FuncId} {args : Array Value} {w : World} {v : Value} (h : Calls P f args w fun e w' => e = .returned v ∧ w = w') : Calls P f args w fun e w' => e = .returned v ∧ Below w.heap.size w w' :=
  h.mono fun _ _ ⟨he, hw⟩ => ⟨he, hw ▸ Below.refl _ _⟩

end Go.Proofs.YtpilkgcghlfdmaaGreatDoor
namespace Go.Proofs.YtpilkgcghlfdmaaGreatDoor
open Go.RowKit

theorem all_step {α : Type} {f : α → Bool} {zs : List α} {k : Nat} {z : α} (hz : zs[k]? = some z) (h : (zs.take k).all f = true) (hc : f z = true) : (zs.take (k + 1)).all f = true := by
  rw [take_snoc' hz, List.all_append, h]; simp [hc]
theorem all_end {α : Type} {f : α → Bool} {zs : List α} {k : Nat} (hk : zs.length ≤ k) (h : (zs.take k).all f = true) : zs.all f = true := by
  rwa [List.take_of_length_le hk] at h
theorem all_no {α : Type} {f : α → Bool} {zs : List α} {k : Nat} {z : α} (hz : zs[k]? = some z) (hc : f z = false) : zs.all f = false := by
  rw [List.all_eq_false]
  exact ⟨z, List.mem_of_getElem? hz, by simp [hc]⟩

end Go.Proofs.YtpilkgcghlfdmaaGreatDoor
namespace Go.Proofs.YtpilkgcghlfdmaaGreatDoor
open Go.RowKit

set_option maxHeartbeats 1000000 in
theorem isBatch_any (p : ByteArray) (x1 x2 x3 x4 : Int) (w : World) (hp : p.size ≤ maxLen) (htab : Tab w) :
    Calls Tryz.prog 35 #[.agg #[.string p, .int .i64 x1, .int .i64 x2, .int .i64 x3, .int .i64 x4]] w fun e w' => e = .returned (.bool (isBatchB p x1 x2 x3 x4)) ∧ Below w.heap.size w w' := by
  unfold maxLen at hp
  have HTab := Lib.hid htab
  clear htab
  go_enter Tryz.func35, Tryz.ntmps35
  go_wp2
  go_loop [3] (fun i => ∃ k : Nat, k ≤ p.size ∧ i = .int .i64 k ∧ (p.data.toList.take k).all prefC = true) (fun i => p.size - (intOf i).toNat)
  case atStart => exact ⟨0, Nat.zero_le _, rfl, rfl⟩
  case round =>
    obtain ⟨k, hk, rfl, ht⟩ := hrel
    have HT := Lib.hid ht
    clear ht
    by_cases hlt : k < p.size
    · have HC : Hid (prefC p[k] = ((p[k].toNat : Int) == 45 || (decide ((65 : Int) ≤ p[k].toNat) && decide ((p[k].toNat : Int) ≤ 90)))) := rfl
      rcases (show ((p[k].toNat : Int) != 45) = false ∨ (((p[k].toNat : Int) != 45) = true ∧ (p[k].toNat : Int) < 65) ∨ (((p[k].toNat : Int) != 45) = true ∧ (90 : Int) < p[k].toNat) ∨ (((p[k].toNat : Int) != 45) = true ∧ ¬ (p[k].toNat : Int) < 65 ∧ ¬ (90 : Int) < p[k].toNat) by
        simp only [bne_iff_ne, bne_eq_false_iff_eq]; omega) with h | ⟨h, h'⟩ | ⟨h, h'⟩ | ⟨h, h', h''⟩
      · go_wp2
        go_round
        case rel => exact ⟨k + 1, by omega, by go_num, prefB_step hlt HT.out (by rw [HC.out]; simp at h; simp [h])⟩
        case measure => simp [intOf]; omega
      · go_wp2
        go_ret
        exact ⟨ret_bool (by rw [isBatchB, prefB_no hlt (by rw [HC.out]; simp at h; simp [h]; omega)]; rfl), (Below.refl _ _).alloc (Nat.le_refl _) _⟩
      · have h3 : ¬ (p[k].toNat : Int) < 65 := by omega
        go_wp2
        go_ret
        exact ⟨ret_bool (by rw [isBatchB, prefB_no hlt (by rw [HC.out]; simp at h; simp [h]; omega)]; rfl), (Below.refl _ _).alloc (Nat.le_refl _) _⟩
      · go_wp2
        go_round
        case rel => exact ⟨k + 1, by omega, by go_num, prefB_step hlt HT.out (by rw [HC.out]; simp at h; simp; omega)⟩
        case measure => simp [intOf]; omega
    · have HP := Lib.hid (prefB_end (by omega) HT.out)
      clear HT
      rcases seven (decide ((p.size : Int) ≤ 12)) (inB x2 1 1000) (inB x3 1 200) (inB x4 1 9) (inB x1 0 999999999) (decide (lastI x1 x2 x3 ≤ 999999999)) (decide (((decB (lastI x1 x2 x3)).size : Int) ≤ x4)) with
        c1 | ⟨c1, c2⟩ | ⟨c1, c2, c3⟩ | ⟨c1, c2, c3, c4⟩ | ⟨c1, c2, c3, c4, c5⟩ | ⟨c1, c2, c3, c4, c5, c6⟩ | ⟨c1, c2, c3, c4, c5, c6, c7⟩ | ⟨c1, c2, c3, c4, c5, c6, c7⟩
      all_goals
        go_wp2
        refine wp_region_ext (by kernel_rfl) (by kernel_rfl) ?_
        repeat (go_big_quiet_step ((first
          | ((go_at_call 60; go_must (apply calls_ext_same; apply inRange_val; assumption)))
          | ((go_at_call 61; go_must (refine calls_ext _ (last_any _ _ _ _ _ _ ?_ ?_ ?_) <;> assumption)))
          | ((go_at_call 62; go_must (apply calls_ext; apply formatInt_any; (· have := last_bd c5 c2 c3; omega); (· have := last_bd c5 c2 c3; omega); exact (HTab.out.alloc _).ext _))))))
        refine wpQuiet_nil ?_
        rintro _ ⟨s, rfl⟩
        go_wp2
        go_ret
        exact ⟨ret_bool (by simp [isBatchB, HP.out, *]), ((Below.refl _ _).alloc (Nat.le_refl _) _).trans (s.below.mono (by simp))⟩

end Go.Proofs.YtpilkgcghlfdmaaGreatDoor
namespace Go.Proofs.YtpilkgcghlfdmaaGreatDoor
open Go.RowKit

theorem itoa_small {n : Int} (h0 : 0 ≤ n) (h : n < 10) : Lib.itoa n = [UInt8.ofNat (48 + n).toNat] := by
  obtain ⟨u, rfl⟩ := Int.eq_ofNat_of_zero_le h0
  have e : (48 + (u : Int)).toNat = 48 + u := by omega
  rw [Lib.itoa_nonneg, Lib.decDigits, dif_pos (by omega), e]
theorem itoa_big {n : Int} (h : 10 ≤ n) : Lib.itoa n = Lib.itoa (n / 10) ++ [UInt8.ofNat (48 + n % 10).toNat] := by
  obtain ⟨u, rfl⟩ := Int.eq_ofNat_of_zero_le (show 0 ≤ n by omega)
  have e1 : ((u : Int) / 10) = ((u / 10 : Nat) : Int) := by omega
  have e2 : (48 + (u : Int) % 10).toNat = 48 + u % 10 := by omega
  rw [e1, e2, Lib.itoa_nonneg, Lib.itoa_nonneg, Lib.decDigits, dif_neg (by omega)]

/-- a string of one byte -/
def oneB (z : Int) : ByteArray := ⟨#[UInt8.ofNat z.toNat]⟩

theorem conv_one (w : World) (b : Nat) (z : Int) (hc : w.cell? ⟨b, 0, none⟩ = some (.int .u8 z)) :
    (convert 22 9 (.slice (some ⟨b, 0, none⟩) 1 1)).run Tryz.prog w = .ok (.string (oneB z)) w := by
  have := run_convert_bytes_arg (P := Tryz.prog) w 22 5 Tryz.underlying22 Tryz.underlying5 b 0 1 1 [z] rfl (fun i hi => by
      obtain rfl : i = 0 := by omega
      simpa using hc) 9 Tryz.underlying9
  simpa [strOfNums, oneB] using this
theorem conv_new (w : World) (z : Int) :
    (convert 22 9 (.slice (some ⟨w.heap.size, 0, none⟩) 1 1)).run Tryz.prog (w.alloc (.cells #[.int .u8 z] 5)) = .ok (.string (oneB z)) (w.alloc (.cells #[.int .u8 z] 5)) :=
  conv_one _ _ _ (by simp)
theorem conv_drew (w : World) (z : Int) :
    (convert 22 9 (.slice (some ⟨w.heap.size, 0, none⟩) 1 1)).run Tryz.prog (w.alloc (.cells #[.int .u8 z] 5)).drew = .ok (.string (oneB z)) (w.alloc (.cells #[.int .u8 z] 5)).drew :=
  conv_one _ _ _ (by simp)

theorem decB_small {n : Int} (h0 : 0 ≤ n) (h : n < 10) : decB n = oneB (48 + n) := by
  unfold decB oneB; rw [itoa_small h0 h]
theorem decB_big {n : Int} (h : 10 ≤ n) : decB n = decB (n / 10) ++ oneB (48 + n % 10) := by
  have e : decB n = ⟨(Lib.itoa n).toArray⟩ := rfl
  rw [e, itoa_big h]
  apply ByteArray.ext
  simp [decB, oneB]

set_option maxHeartbeats 400000 in
theorem l01Dec_any (k : Nat) : ∀ (n : Int) (w : World), n ≤ k → 0 ≤ n → n ≤ 9223372036854775807 →
    Calls Tryz.prog 54 #[.int .i64 n] w fun e w' => e = .returned (.string (decB n)) ∧ Below w.heap.size w w' := by
  induction k with
  | zero =>
    intro n w hk h0 h1
    have hn : n < 10 := by omega
    have hcv := conv_new w
    go_enter Tryz.func54, Tryz.ntmps54
    go_wp2_with fail
    go_ret
    exact ⟨ret_str (decB_small h0 hn).symm, (Below.refl _ _).alloc (Nat.le_refl _) _⟩
  | succ k ih =>
    intro n w hk h0 h1
    by_cases hn : n < 10
    · have hcv := conv_new w
      go_enter Tryz.func54, Tryz.ntmps54
      go_wp2_with fail
      go_ret
      exact ⟨ret_str (decB_small h0 hn).symm, (Below.refl _ _).alloc (Nat.le_refl _) _⟩
    · have e1 : IntKind.i64.wrap (n.tdiv 10) = n / 10 := by rw [Int.tdiv_eq_ediv_of_nonneg h0]; exact IntWalk.i64_in _ (by omega)
      have e2 : n.tmod 10 = n % 10 := Int.tmod_eq_emod_of_nonneg h0
      have e3 : IntKind.i64.wrap (48 + n % 10) = 48 + n % 10 := IntWalk.i64_in _ (by omega)
      have e4 : IntKind.u8.wrap (48 + n % 10) = 48 + n % 10 := IntWalk.u8_in _ (by omega)
      have hs1 : (decB (n / 10)).size ≤ 21 := by rw [decB_size]; exact Lib.itoa_length_le _ (by omega) (by omega)
      have hs2 : (oneB (48 + n % 10)).size ≤ 1 := by simp [oneB, ByteArray.size]
      have hs3 : (decB (n / 10)).size + (oneB (48 + n % 10)).size ≤ 9223372036854775807 := by omega
      clear hs1 hs2
      have hcv := conv_new w
      have hcd := conv_drew w
      go_enter Tryz.func54, Tryz.ntmps54
      go_wp2_with fail
      go_region_with (go_at_call 54; refine (ih _ _ (by omega) (by omega) (by omega)).mono ?_; rintro e w' ⟨rfl, hb⟩; have hcv' := conv_new w'; obtain ⟨hc, hf⟩ := bcell hb; have hko := conv_one w' w.heap.size (48 + n % 10))
      all_goals
        go_wp2
        go_ret
        refine ⟨ret_str (decB_big (by omega)).symm, ?_⟩
        first | exact ((Below.refl _ _).drew.trans hb).alloc hb.size _ | exact (((Below.refl _ _).alloc (Nat.le_refl _) _).drew).trans (hb.mono (by simp))

end Go.Proofs.YtpilkgcghlfdmaaGreatDoor
namespace Go.Proofs.YtpilkgcghlfdmaaGreatDoor
open Go.RowKit

theorem l31Prefix_val {p : ByteArray} {b : Bool} {w : World} (h : (prefB p && decide ((p.size : Int) ≤ 12)) = b) (hp : p.size ≤ maxLen) :
    Calls Tryz.prog 90 #[.string p] w fun e w' => e = .returned (.bool b) ∧ w = w' := by
  have := l31Prefix_any p w hp
  rw [show decide (p.size ≤ 12) = decide ((p.size : Int) ≤ 12) from decide_eq_decide.2 (by omega), h] at this
  exact this

set_option maxHeartbeats 1000000 in
theorem specIsBatch_any (p : ByteArray) (x1 x2 x3 x4 : Int) (w : World) (hp : p.size ≤ maxLen) :
    Calls Tryz.prog 69 #[.agg #[.string p, .int .i64 x1, .int .i64 x2, .int .i64 x3, .int .i64 x4]] w fun e w' => e = .returned (.bool (isBatchB p x1 x2 x3 x4)) ∧ Below w.heap.size w w' := by
  rcases seven (prefB p && decide ((p.size : Int) ≤ 12)) (inB x2 1 1000) (inB x3 1 200) (inB x4 1 9) (inB x1 0 999999999) (decide (lastI x1 x2 x3 ≤ 999999999)) (decide (((decB (lastI x1 x2 x3)).size : Int) ≤ x4)) with
    c1 | ⟨c1, c2⟩ | ⟨c1, c2, c3⟩ | ⟨c1, c2, c3, c4⟩ | ⟨c1, c2, c3, c4, c5⟩ | ⟨c1, c2, c3, c4, c5, c6⟩ | ⟨c1, c2, c3, c4, c5, c6, c7⟩ | ⟨c1, c2, c3, c4, c5, c6, c7⟩
  iterate 5
    rotate_left
  iterate 3
    · obtain ⟨b1, b2, b3, b4⟩ := last_bd c5 c2 c3
      have r1 := inB_iff.1 c5
      have r2 := inB_iff.1 c2
      have r3 := inB_iff.1 c3
      obtain ⟨b, hb'⟩ : ∃ b, isBatchB p x1 x2 x3 x4 = b := ⟨_, rfl⟩
      have hE := hb'
      simp only [isBatchB, *] at hE
      have HE := Lib.hid hE
      have HB := Lib.hid hb'
      clear hE hb'
      unfold lastI at *
      go_enter Tryz.func69, Tryz.ntmps69
      go_wp2_with ((first
        | ((go_at_call 90; go_must (refine (l31Prefix_val (by assumption) hp).mono ?_; rintro e w' ⟨rfl, rfl⟩)))
        | ((go_at_call 75; go_must (refine (l01In_val (by assumption)).mono ?_; rintro e w' ⟨rfl, rfl⟩)))))
      refine wp_region_ext (by kernel_rfl) (by kernel_rfl) ?_
      repeat (go_big_quiet_step ((go_at_call 54; go_must (apply calls_ext; apply l01Dec_any (x1 + (x3 - 1) * x2).toNat <;> omega))))
      refine wpQuiet_nil ?_
      rintro _ ⟨s, rfl⟩
      go_wp2
      go_ret
      refine ⟨ret_bool ?_, ((Below.refl _ _).alloc (Nat.le_refl _) _).trans (s.below.mono (by simp))⟩
      rw [HB.out, ← HE.out]
      simp
  all_goals
    have E : Hid (isBatchB p x1 x2 x3 x4 = false) := (by simp [isBatchB, *] : isBatchB p x1 x2 x3 x4 = false)
    go_enter Tryz.func69, Tryz.ntmps69
    go_wp2_with ((first
      | ((go_at_call 90; go_must (refine (l31Prefix_val (by assumption) hp).mono ?_; rintro e w' ⟨rfl, rfl⟩)))
      | ((go_at_call 75; go_must (refine (l01In_val (by assumption)).mono ?_; rintro e w' ⟨rfl, rfl⟩)))))
    go_ret
    exact ⟨ret_bool E.out.symm, (Below.refl _ _).alloc (Nat.le_refl _) _⟩

end Go.Proofs.YtpilkgcghlfdmaaGreatDoor
namespace Go.Proofs.YtpilkgcghlfdmaaGreatDoor
open Go.RowKit

def stOk (s : Int) : Bool := inB s 0 4
def isSessB (p : ByteArray) (x1 x2 x3 x4 : Int) (xs : List Int) : Bool := isBatchB p x1 x2 x3 x4 && !((xs.length : Int) != x3) && xs.all stOk

theorem isBatch_val {p : ByteArray} {x1 x2 x3 x4 : Int} {w : World} {b : Bool} (h : isBatchB p x1 x2 x3 x4 = b) (hp : p.size ≤ maxLen) (ht : Tab w) :
    Calls Tryz.prog 35 #[.agg #[.string p, .int .i64 x1, .int .i64 x2, .int .i64 x3, .int .i64 x4]] w fun e w' => e = .returned (.bool b) ∧ Below w.heap.size w w' := h ▸ isBatch_any _ _ _ _ _ _ hp ht
theorem specIsBatch_val {p : ByteArray} {x1 x2 x3 x4 : Int} {w : World} {b : Bool} (h : isBatchB p x1 x2 x3 x4 = b) (hp : p.size ≤ maxLen) :
    Calls Tryz.prog 69 #[.agg #[.string p, .int .i64 x1, .int .i64 x2, .int .i64 x3, .int .i64 x4]] w fun e w' => e = .returned (.bool b) ∧ Below w.heap.size w w' := h ▸ specIsBatch_any _ _ _ _ _ _ hp

set_option maxHeartbeats 1000000 in
theorem isSession_any (p : ByteArray) (x1 x2 x3 x4 : Int) (a : Option Addr) (xs : List Int) (c : Nat) (w : World) (hx : IntsAt w a xs) (hp : p.size ≤ maxLen) (lx : xs.length ≤ maxLen) (ht : Tab w) :
    Calls Tryz.prog 45 #[.agg #[.string p, .int .i64 x1, .int .i64 x2, .int .i64 x3, .int .i64 x4, .slice a xs.length c]] w fun e w' => e = .returned (.bool (isSessB p x1 x2 x3 x4 xs)) ∧ Below w.heap.size w w' := by
  have HX := Lib.hid hx
  have HT := Lib.hid ht
  clear hx ht
  unfold maxLen at lx
  rcases Bool.eq_false_or_eq_true (isBatchB p x1 x2 x3 x4) with h1 | h1
  · have H1 := Lib.hid h1
    clear h1
    rcases Bool.eq_false_or_eq_true ((xs.length : Int) != x3) with h2 | h2
    · go_enter Tryz.func45, Tryz.ntmps45
      go_wp2_with fail
      refine (isBatch_val H1.out hp (HT.out.alloc _)).mono ?_
      rintro e w1 ⟨rfl, hb1⟩
      obtain ⟨hc, _⟩ := bcell hb1
      have HB1 := Lib.hid (bt1 hb1)
      clear hb1
      go_wp2_with fail
      go_ret
      exact ⟨ret_bool (by rw [isSessB, H1.out, h2]; rfl), HB1.out⟩
    · go_enter Tryz.func45, Tryz.ntmps45
      go_wp2_with fail
      refine (isBatch_val H1.out hp (HT.out.alloc _)).mono ?_
      rintro e w1 ⟨rfl, hb1⟩
      obtain ⟨hc, _⟩ := bcell hb1
      have HB1 := Lib.hid (bt1 hb1)
      clear hb1
      go_wp2_with fail
      have HX1 := Lib.hid (HX.out.below HB1.out)
      have H2 := Lib.hid h2
      clear h2
      go_loop [4, 21] (fun _ i => ∃ k : Nat, k ≤ xs.length ∧ i = .int .i64 k ∧ (xs.take k).all stOk = true) (fun _ i => xs.length - (intOf i).toNat)
      case atStart => exact ⟨0, Nat.zero_le _, rfl, rfl⟩
      case round =>
        obtain ⟨k, hk, rfl, hall⟩ := hrel
        have HA := Lib.hid hall
        clear hall
        by_cases hlt : k < xs.length
        · obtain ⟨b1, o1, x, rfl, hxk, hb1, hc1⟩ := HX1.out.at hlt
          have HK := Lib.hid hxk
          clear hxk
          rcases Bool.eq_false_or_eq_true (inB x 0 4) with h3 | h3
          · go_wp2_with (go_at_call 60; refine (inRange_val h3).mono ?_; rintro e w' ⟨rfl, rfl⟩)
            go_round
            case rel => exact ⟨k + 1, by omega, by go_num, all_step HK.out HA.out h3⟩
            case measure => simp [intOf]; omega
          · go_wp2_with (go_at_call 60; refine (inRange_val h3).mono ?_; rintro e w' ⟨rfl, rfl⟩)
            go_ret
            exact ⟨ret_bool (by rw [isSessB, H1.out, H2.out, all_no HK.out h3]; rfl), HB1.out⟩
        · go_wp2_with fail
          go_ret
          exact ⟨ret_bool (by rw [isSessB, H1.out, H2.out, all_end (by omega) HA.out]; rfl), HB1.out⟩
  · have H1 := Lib.hid h1
    clear h1
    go_enter Tryz.func45, Tryz.ntmps45
    go_wp2_with fail
    refine (isBatch_val H1.out hp (HT.out.alloc _)).mono ?_
    rintro e w1 ⟨rfl, hb1⟩
    obtain ⟨hc, _⟩ := bcell hb1
    have HB1 := Lib.hid (bt1 hb1)
    clear hb1
    go_wp2_with fail
    go_ret
    exact ⟨ret_bool (by rw [isSessB, H1.out]; rfl), HB1.out⟩

theorem isSession_val {p : ByteArray} {x1 x2 x3 x4 : Int} {a : Option Addr} {xs : List Int} {c : Nat} {w : World} {b : Bool} (h : isSessB p x1 x2 x3 x4 xs = b) (hx : IntsAt w a xs) (hp : p.size ≤ maxLen) (lx : xs.length ≤ maxLen) (ht : Tab w) :
    Calls Tryz.prog 45 #[.agg #[.string p, .int .i64 x1, .int .i64 x2, .int .i64 x3, .int .i64 x4, .slice a xs.length c]] w fun e w' => e = .returned (.bool b) ∧ Below w.heap.size w w' := h ▸ isSession_any _ _ _ _ _ _ _ _ _ hx hp lx ht
end Go.Proofs.YtpilkgcghlfdmaaGreatDoor
namespace Go.Proofs.YtpilkgcghlfdmaaGreatDoor
open Go.RowKit

end Go.Proofs.YtpilkgcghlfdmaaGreatDoor
namespace Go.Proofs.YtpilkgcghlfdmaaGreatDoor
open Go.RowKit

end Go.Proofs.YtpilkgcghlfdmaaGreatDoor
namespace Go.Proofs.YtpilkgcghlfdmaaGreatDoor
open Go.RowKit

theorem formatInt_val {n : Int} {d : ByteArray} {w : World} (h : decB n = d) (h0 : -9223372036854775808 ≤ n) (h1 : n ≤ 9223372036854775807) (ht : Tab w) :
    Calls Tryz.prog 62 #[.int .i64 n, .int .i64 10] w fun e w' => e = .returned (.string d) ∧ Below w.heap.size w w' := h ▸ formatInt_any n w h0 h1 ht
theorem l01Dec_val {n : Int} {d : ByteArray} {w : World} (h : decB n = d) (h0 : 0 ≤ n) (h1 : n ≤ 9223372036854775807) :
    Calls Tryz.prog 54 #[.int .i64 n] w fun e w' => e = .returned (.string d) ∧ Below w.heap.size w w' := h ▸ l01Dec_any n.toNat n w (by omega) h0 h1
theorem digit_size {c : Int} (h0 : 0 ≤ c) (h1 : c ≤ 9) : (decB c).size = 1 := by
  rw [decB_small h0 (by omega)]; rfl

/-- what the functions on serials give back -/
def soS (p : ByteArray) (x1 x2 x3 x4 i : Int) : ByteArray := if isBatchB p x1 x2 x3 x4 && inB i 0 (x3 - 1) then serB p x1 x2 x4 i else ⟨#[]⟩
def soC (p : ByteArray) (x1 x2 x3 x4 i : Int) : Int := if isBatchB p x1 x2 x3 x4 then if inB i 0 (x3 - 1) then 0 else 2 else 1

end Go.Proofs.YtpilkgcghlfdmaaGreatDoor
namespace Go.Proofs.YtpilkgcghlfdmaaGreatDoor
open Go.RowKit

/-- the index of a serial -/
def ixR (p : ByteArray) (x1 x2 x3 x4 : Int) (s : ByteArray) : Option Nat := firstI (fun j => decide (serB p x1 x2 x4 j = s)) x3.toNat
def ixK (o : Option Nat) : Int := match o with | some k => k | none => 0
def ixM (o : Option Nat) : Int := match o with | some k => k | none => -1
/-- none of the first k serials is s -/
def NoneYet (p : ByteArray) (x1 x2 x4 : Int) (s : ByteArray) (k : Nat) : Prop := ∀ j, j < k → serB p x1 x2 x4 (j : Nat) ≠ s

theorem noneYet_zero (p : ByteArray) (x1 x2 x4 : Int) (s : ByteArray) : NoneYet p x1 x2 x4 s 0 := fun j hj => absurd hj (Nat.not_lt_zero j)
theorem noneYet_succ {p : ByteArray} {x1 x2 x4 : Int} {s : ByteArray} {k : Nat} (h : NoneYet p x1 x2 x4 s k) (hk : serB p x1 x2 x4 k ≠ s) : NoneYet p x1 x2 x4 s (k + 1) := fun j hj => by
  rcases Nat.lt_or_ge j k with h1 | h1
  · exact h j h1
  · obtain rfl : j = k := by omega
    exact hk
theorem ixR_some {p : ByteArray} {x1 x2 x3 x4 : Int} {s : ByteArray} {k : Nat} (h : NoneYet p x1 x2 x4 s k) (hk : (k : Int) < x3) (he : serB p x1 x2 x4 k = s) : ixR p x1 x2 x3 x4 s = some k :=
  firstI_some (by omega) (by simp [he]) (fun j hj => by simp [h j hj])
theorem ixR_none {p : ByteArray} {x1 x2 x3 x4 : Int} {s : ByteArray} {k : Nat} (h : NoneYet p x1 x2 x4 s k) (hk : x3 ≤ (k : Int)) : ixR p x1 x2 x3 x4 s = none :=
  firstI_none (fun j hj => by simp [h j (by omega)])

theorem str_eq {a b : ByteArray} (h : (a.toList == b.toList) = true) : a = b := by
  rw [beq_iff_eq, ByteArray.toList_eq, ByteArray.toList_eq] at h
  exact ByteArray.ext (Array.toList_inj.1 h)
theorem str_ne {a b : ByteArray} (h : (a.toList == b.toList) = false) : a ≠ b := fun e => by
  subst e; simp at h
theorem str_self (a : ByteArray) : (a.toList == a.toList) = true := by simp

/-- IndexOfSerial: index and code -/
def ioK (p : ByteArray) (x1 x2 x3 x4 : Int) (s : ByteArray) : Int := if isBatchB p x1 x2 x3 x4 then ixK (ixR p x1 x2 x3 x4 s) else 0
def ioC (p : ByteArray) (x1 x2 x3 x4 : Int) (s : ByteArray) : Int := if isBatchB p x1 x2 x3 x4 then if (ixR p x1 x2 x3 x4 s).isSome then 0 else 4 else 1

end Go.Proofs.YtpilkgcghlfdmaaGreatDoor
