import Derived.Test.YthnjfdhijpfekaaRows
import Derived.WalkKit
import Derived.WalkSpells
import Derived.WalkLawsBesides
import Derived.Deep.QuietTactic
import Derived.BigQuiet
import Derived.Deep.RegionLaw
import Derived.Deep.DeepFit
import Derived.Deep.DeepMust
import Derived.Lib.Hide
import Derived.ProofKit
import Derived.OpenShut
import Derived.Deep.DeepHandedRow
import Derived.Lib.LaidTab
import Derived.Stop.LaidErr
import Derived.IntWalk
import Derived.ChangeSlices
namespace Go.Proofs.Ythnjfdhijpfekaa
open Go.RowKit

theorem bcell {W w1 : World} {B : Nat} (hb : Below B W w1) : (∀ b o, b < B → w1.cell? ⟨b, o, none⟩ = W.cell? ⟨b, o, none⟩) ∧ (∀ b o, b < B → w1.frozen? ⟨b, o, none⟩ = W.frozen? ⟨b, o, none⟩) :=
  ⟨fun b o h => hb.cell (p := ⟨b, o, none⟩) h, fun b o h => hb.frozen (p := ⟨b, o, none⟩) h⟩

theorem lt_of_cell {w : World} {b o : Nat} {v : Value} (h : w.cell? ⟨b, o, none⟩ = some v) : b < w.heap.size := World.block_lt_of_cell? w ⟨b, o, none⟩ h

theorem ba1 (w : World) (o : Obj) : Below w.heap.size w (w.alloc o) := (Below.refl _ _).alloc (Nat.le_refl _) _
theorem ba2 (w : World) (o o' : Obj) : Below w.heap.size w ((w.alloc o).alloc o') := (ba1 w o).alloc (by simp) _
theorem ba3 (w : World) (o o' o'' : Obj) : Below w.heap.size w (((w.alloc o).alloc o').alloc o'') := (ba2 w o o').alloc (by simp; omega) _
theorem ba4 (w : World) (o o' o'' o3 : Obj) : Below w.heap.size w ((((w.alloc o).alloc o').alloc o'').alloc o3) := (ba3 w o o' o'').alloc (by simp; omega) _
theorem bt0 {B : Nat} {a b c : World} (h : Below B a b) (k : Below b.heap.size b c) (hB : B ≤ a.heap.size) : Below B a c := h.trans (k.mono (Nat.le_trans hB h.size))
theorem bt1 {w w1 : World} {o : Obj} (h : Below (w.alloc o).heap.size (w.alloc o) w1) : Below w.heap.size w w1 := bt0 (ba1 w o) h (Nat.le_refl _)
theorem bt2 {w w1 : World} {o o' : Obj} (h : Below ((w.alloc o).alloc o').heap.size ((w.alloc o).alloc o') w1) : Below w.heap.size w w1 := bt0 (ba2 w o o') h (Nat.le_refl _)
theorem bt3 {w w1 : World} {o o' o'' : Obj} (h : Below (((w.alloc o).alloc o').alloc o'').heap.size (((w.alloc o).alloc o').alloc o'') w1) : Below w.heap.size w w1 := bt0 (ba3 w o o' o'') h (Nat.le_refl _)

theorem undrew {w w1 : World} (h : Below w.drew.heap.size w.drew w1) : Below w.heap.size w w1 := ⟨h.os, h.tape, h.output, h.size, h.block⟩

/-- a new block's cells, behind a call -/
theorem box1 {w w1 : World} {cs : Array Value} {t : TypeId} (hb : Below (w.alloc (.cells cs t)).heap.size (w.alloc (.cells cs t)) w1) : ∀ i, w1.cell? ⟨w.heap.size, i, none⟩ = cs[i]? := fun i => by
  rw [hb.cell (p := ⟨w.heap.size, i, none⟩) (by simp)]; simp
theorem boxK {w w1 : World} {b : Nat} {cs : Array Value} (hb : Below w.heap.size w w1) (h : ∀ i, w.cell? ⟨b, i, none⟩ = cs[i]?) (h0 : 0 < cs.size) : ∀ i, w1.cell? ⟨b, i, none⟩ = cs[i]? := fun i => by
  have h1 : b < w.heap.size := lt_of_cell (v := cs[0]) (by rw [h 0]; simp [h0])
  rw [hb.cell (p := ⟨b, i, none⟩) h1]; exact h i
theorem boxLt {w : World} {b : Nat} {cs : Array Value} (h : ∀ i, w.cell? ⟨b, i, none⟩ = cs[i]?) (h0 : 0 < cs.size) : b < w.heap.size := lt_of_cell (v := cs[0]) (by rw [h 0]; simp [h0])

/-- the slice at address a holds the numbers zs -/
def IntsAt (w : World) (a : Option Addr) (zs : List Int) : Prop :=
  ∀ i (h : i < zs.length), ∃ b o, a = some ⟨b, o, none⟩ ∧ w.cell? ⟨b, o + i, none⟩ = some (.int .i64 zs[i])

theorem IntsAt.at {w : World} {a : Option Addr} {zs : List Int} (H : IntsAt w a zs) {k : Nat} (hk : k < zs.length) :
    ∃ b o z, a = some ⟨b, o, none⟩ ∧ zs[k]? = some z ∧ b < w.heap.size ∧ w.cell? ⟨b, o + k, none⟩ = some (.int .i64 z) := by
  obtain ⟨b, o, ha, hc⟩ := H k hk
  exact ⟨b, o, zs[k], ha, List.getElem?_eq_getElem hk, lt_of_cell hc, hc⟩

theorem IntsAt.below {w w' : World} {a : Option Addr} {zs : List Int} (H : IntsAt w a zs) (hb : Below w.heap.size w w') : IntsAt w' a zs := by
  intro i h
  obtain ⟨b, o, ha, hc⟩ := H i h
  exact ⟨b, o, ha, by rw [hb.cell (p := ⟨b, o + i, none⟩) (lt_of_cell hc)]; exact hc⟩

theorem IntsAt.nil {w : World} {a : Option Addr} : IntsAt w a [] := fun i h => absurd h (by simp)

theorem take_snoc' {α : Type} {zs : List α} {k : Nat} {z : α} (h : zs[k]? = some z) : zs.take (k + 1) = zs.take k ++ [z] := by
  rw [List.take_add_one, h]; rfl

theorem ret_int {k : IntKind} {a b : Int} (h : a = b) : Ending.returned (.int k a) = .returned (.int k b) := by rw [h]
theorem ret_str {a b : ByteArray} (h : a = b) : Ending.returned (.string a) = .returned (.string b) := by rw [h]
theorem ret_bool {a b : Bool} (h : a = b) : Ending.returned (.bool a) = .returned (.bool b) := by rw [h]

/-- the worlds that keep all that is in w -/
def Ext (w : World) : Type := { w' : World // Below w.heap.size w w' }
instance extNonempty (w : World) : Nonempty (Ext w) := ⟨⟨w, Below.refl _ _⟩⟩
def Ext.w {w : World} (s : Ext w) : World := s.1
theorem Ext.below {w : World} (s : Ext w) : Below w.heap.size w s.w := s.2
@[go_sem] theorem Ext.cell {w : World} (s : Ext w) (b o : Nat) (h : b < w.heap.size) : s.w.cell? ⟨b, o, none⟩ = w.cell? ⟨b, o, none⟩ := s.2.cell (p := ⟨b, o, none⟩) h
@[go_sem] theorem Ext.frozen {w : World} (s : Ext w) (b o : Nat) (h : b < w.heap.size) : s.w.frozen? ⟨b, o, none⟩ = w.frozen? ⟨b, o, none⟩ := s.2.frozen (p := ⟨b, o, none⟩) h

theorem wp_region_ext {P : Program} {id : Nat} {Q : Exit → Act → World → Prop} {a : Act} {w : World} {l : List Oper} (hm : P.follows .mixedOrders = true) (hB : Region.lexB .any l.toArray = true)
    (h : wpQuiet P l.toArray (fun w' => ∃ s : Ext w, w' = s.w) (fun a' => ∀ w', (∃ s : Ext w, w' = s.w) → Q .normal a' w') l a) : (Code.region id l.toArray true).wp P Q a w :=
  wp_region_quiet (C := fun w' => ∃ s : Ext w, w' = s.w) hm hB ⟨⟨_, (Below.refl _ _).drew⟩, rfl⟩ (by simpa using h)

theorem calls_ext {P : Program} {f : FuncId} {args : Array Value} {w : World} {v : Value} (s : Ext w)
    (h : Calls P f args s.w fun e w' => e = .returned v ∧ Below s.w.heap.size s.w w') : Calls P f args s.w fun e w'' => e = .returned v ∧ ∃ s' : Ext w, w'' = s'.w :=
  h.mono fun _ w' ⟨he, hb⟩ => ⟨he, ⟨w', s.below.trans (hb.mono s.below.size)⟩, rfl⟩
theorem calls_ext_same {P : Program} {f : FuncId} {args : Array Value} {w : World} {v : Value} (s : Ext w)
    (h : Calls P f args s.w fun e w' => e = .returned v ∧ s.w = w') : Calls P f args s.w fun e w'' => e = .returned v ∧ ∃ s' : Ext w, w'' = s'.w :=
  h.mono fun _ _ ⟨he, hb⟩ => ⟨he, s, hb.symm⟩

/-- the slice v is the call's own (blocks from base on) and holds the numbers zs -/
def OwnI (w : World) (base : Nat) (v : Value) (zs : List Int) : Prop := w.ownsRow base 2 1 v zs.length (zs.map (Value.int .i64))

theorem OwnI.read {w : World} {base : Nat} {v : Value} {zs : List Int} (h : OwnI w base v zs) : ∃ a c, v = .slice a zs.length c ∧ IntsAt w a zs := by
  unfold OwnI at h
  have h2 := h.2
  rcases h2 with ⟨rfl, h0⟩ | ⟨g, cap, cur, rfl, hb, hg, hn, hm, hs, ht⟩
  · refine ⟨none, 0, by rw [h0], ?_⟩
    intro i hi; omega
  · refine ⟨some ⟨g, 0, none⟩, cap, rfl, ?_⟩
    intro i hi
    refine ⟨g, 0, rfl, ?_⟩
    rw [Nat.zero_add, h.cellAt i (by omega)]
    simp [hi]

theorem OwnI.len {w : World} {base : Nat} {v : Value} {zs : List Int} (h : OwnI w base v zs) : zs.length ≤ maxLen := by
  rcases h.2 with ⟨_, h0⟩ | ⟨g, cap, cur, rfl, hb, hg, hn, hm, hs, ht⟩
  · rw [h0]; exact Nat.zero_le _
  · omega

/-- a slice of the call's own that is not empty -/
theorem OwnI.block {w : World} {base : Nat} {a : Option Addr} {n c : Nat} {zs : List Int} (h : OwnI w base (.slice a n c) zs) (hk : 0 < zs.length) : ∃ g, a = some ⟨g, 0, none⟩ ∧ base ≤ g ∧ n = zs.length ∧ g < w.heap.size := by
  rcases h.2 with ⟨h1, h0⟩ | ⟨g, cap, cur, h1, hb, hg, _⟩
  · omega
  · simp only [Value.slice.injEq] at h1
    obtain ⟨rfl, rfl, rfl⟩ := h1
    exact ⟨g, rfl, hb, rfl, (Array.getElem?_eq_some_iff.1 hg).1⟩

theorem OwnI.grown {w w' : World} {base : Nat} {v : Value} {zs : List Int} (h : OwnI w base v zs) (hb : Below w.heap.size w w') : OwnI w' base v zs :=
  h.kept (row := none) ⟨hb.os, hb.tape, hb.output, hb.size, fun k hk _ => hb.block k hk⟩ (by cases hv : v.ownBlock <;> simp)

theorem OwnI.weak {w : World} {base base' : Nat} {v : Value} {zs : List Int} (h : OwnI w base v zs) (hb : base' ≤ base) : OwnI w base' v zs := by
  refine ⟨h.1, ?_⟩
  rcases h.2 with h2 | ⟨g, cap, cur, h1, hb', r⟩
  · exact Or.inl h2
  · exact Or.inr ⟨g, cap, cur, h1, by omega, r⟩

theorem OwnI.setOld {w : World} {base : Nat} {v : Value} {zs : List Int} (h : OwnI w base v zs) {a : Addr} (ha : a.block < base) (u : Value) : OwnI (w.setCell a u) base v zs := ownsRow_setCell_below h ha u

theorem OwnI.drew {w : World} {base : Nat} {v : Value} {zs : List Int} (h : OwnI w base v zs) : OwnI w.drew base v zs := h

theorem grownBy_trans {a b c : World} {row : Option Nat} (h : a.grownBy b row) (k : b.grownBy c row) : a.grownBy c row :=
  ⟨k.os.trans h.os, k.tape.trans h.tape, k.output.trans h.output, Nat.le_trans h.size k.size, fun i hi hr => (k.block i (Nat.lt_of_lt_of_le hi h.size) hr).trans (h.block i hi hr)⟩

theorem below_of_grownBy {B : Nat} {w w' : World} {row : Option Nat} (h : w.grownBy w' row) (hB : B ≤ w.heap.size) (hr : ∀ k, row = some k → B ≤ k) : Below B w w' :=
  (Below.refl B w).grown h hB hr


theorem infoI : (Try.prog.info? 2).map (fun i => (i.zero, i.size, i.bytes)) = some (some (.int .i64 0), 1, 8) := by kernel_rfl

theorem OwnI.cellAt {w : World} {base g n c : Nat} {zs : List Int} (h : OwnI w base (.slice (some ⟨g, 0, none⟩) n c) zs) (hn : n = zs.length) {k : Nat} (hk : k < zs.length) :
    ∃ z, zs[k]? = some z ∧ w.cell? ⟨g, k, none⟩ = some (.int .i64 z) ∧ w.frozen? ⟨g, k, none⟩ = false := by
  subst hn
  refine ⟨zs[k], by simp [hk], ?_, h.frozenAt k⟩
  rw [World.ownsRow.cellAt h k (by omega)]
  simp [hk]

theorem OwnI.stored {w : World} {base g n c : Nat} {zs : List Int} (h : OwnI w base (.slice (some ⟨g, 0, none⟩) n c) zs) (hn : n = zs.length) (k : Nat) (z : Int) :
    OwnI (w.setCell ⟨g, k, none⟩ (.int .i64 z)) base (.slice (some ⟨g, 0, none⟩) n c) (zs.set k z) ∧ w.grownBy (w.setCell ⟨g, k, none⟩ (.int .i64 z)) (some g) := by
  subst hn
  have hst := World.ownsRow.stored (h := h) k (.int .i64 z)
  refine ⟨?_, hst.2⟩
  unfold OwnI
  rw [List.map_set, List.length_set]
  exact hst.1

theorem OwnI.of_made {w : World} {base : Nat} {v : Value} {n : Nat} (h : w.ownsRow base 2 1 v n (madeCells #[.int .i64 0] n).toList) : OwnI w base v (List.replicate n 0) := by
  unfold OwnI
  rw [toList_madeCells_one] at h
  simpa using h

end Go.Proofs.Ythnjfdhijpfekaa
namespace Go.Proofs.Ythnjfdhijpfekaa
open Go.ChangeShapes Go.WideShapes Go.ChangeAt Go.RowKit

theorem ownLaw : ownKnob Try.prog.godebug = none := by kernel_rfl
theorem laidOutLaw : laidOutB Try.prog = true := by kernel_rfl
/-- the arguments read behind a call that keeps memory as they did -/
theorem trodAll_below {H : Type} {enc : TypeId × Value → H} {P : Program} (hl : laidOutB P = true) {W W' : World} (hb : Below W.heap.size W W') :
    ∀ (ts : List TypeId) (vs : List Value) (ds : List (DataW H)) (ps : List MemPlace), (∀ t ∈ ts, P.readableRec t = true ∧ t < P.types.size) → DataW.TrodAll enc P W 0 (fun _ => true) true ts vs ds ps → (∀ x ∈ ps, x.block < W.heap.size) →
      DataW.TrodAll enc P W' 0 (fun b => decide (b < W.heap.size)) true ts vs ds ps
  | [], [], [], ps, _, h, _ => h
  | t :: ts, v :: vs, d :: ds, ps, hr, h, hlt => by
    obtain ⟨p, q, h1, h2, rfl⟩ := h
    refine ⟨p, q, ?_, ?_, rfl⟩
    · exact Below.trod hl (hr t (by simp)).1 (hr t (by simp)).2 h1 hb (fun x hx => hlt x (by simp [hx]))
    · exact trodAll_below hl hb ts vs ds q (fun t ht => hr t (by simp [ht])) h2 (fun x hx => hlt x (by simp [hx]))

/-- what a law owes behind its call -/
theorem law_post {H : Type} {enc : TypeId × Value → H} {f : Func} {s : ChangeSpec} {W W' : World} {args : Array Value} {ds gs : List (DataW H)} {before : List MemPlace}
    (hW : DataW.Whole enc Try.prog f.params.toList s.vars false W args.toList ds gs before) (hv : s.vars = []) (hres : f.resultTypes = #[4]) (hb : Below W.heap.size W W')
    (hfn : ∀ gs, gs = [] → s.fn H (ds ++ gs) = { results := [.lit (.bool true)], args := ds }) (hr : ∀ t ∈ f.params.toList, Try.prog.readableRec t = true ∧ t < Try.prog.types.size) :
    s.post enc Try.prog f false true false false W args (.bool true) W' := by
  have hW' := hW
  obtain ⟨p, q, hA, hV, rfl, hfz, hnd⟩ := hW
  rw [hv] at hV
  obtain ⟨rfl, rfl⟩ := trodVars_none hV
  have hlt : ∀ x ∈ p ++ [], x.block < W.heap.size := hW'.lt
  refine ⟨ds, [], p ++ [], [], p, [], hW', ?_, ?_, ?_, hb.frame _, fun h => by cases h⟩
  · rw [hfn [] rfl, hres]
    exact trodAll_mk1 (shut_bool Try.underlying4 _)
  · rw [hfn [] rfl]
    exact trodAll_below laidOutLaw hb _ _ _ _ hr hA (fun x hx => hlt x (by simpa using hx))
  · rw [hfn [] rfl, hv]
    exact rfl

/-- the cells of a table that a row lists -/
def tabCells : DataW Unit → Array Value
  | .agg l => (l.map fun | .lit (.int k n) => .int k n | _ => undef).toArray
  | _ => #[]
/-- a block with other cells -/
def withCells (cs : Array Value) : Obj → Obj
  | .cells _ t frozen => .cells cs t frozen
  | o => o
/-- the heap with the listed tables -/
def laidHeap (P : Program) (laid : List (String × DataW Unit)) (h : Array Obj) : Array Obj :=
  laid.foldl (fun h nd => h.modify ((P.globalNamed nd.1).getD 0) (withCells (tabCells nd.2))) h

/-- a world for the witness: the settled one, each listed table holding what its initialiser lays -/
noncomputable def laidWorld (laid : List (String × DataW Unit)) (os : Os) : World :=
  { World.holding Try.prog os ⟨#[], #[], []⟩ with heap := laidHeap Try.prog laid (World.holding Try.prog os ⟨#[], #[], []⟩).heap }

end Go.Proofs.Ythnjfdhijpfekaa
namespace Go.Proofs.Ythnjfdhijpfekaa
open Go.ChangeShapes Go.WideShapes Go.ChangeAt Go.RowKit

section
variable {H : Type} {enc : TypeId × Value → H} {w : World} {base : Nat} {spare : Nat → Bool} {held : Bool} {fuel : Nat} {cs : List Value} {x : DataW H × List MemPlace}

theorem int_cell {k : IntKind} {t : TypeId} (ht : Try.prog.underlying t = some (.int k)) (hc : Try.prog.cellsOf t = 1) {o : Nat} (_hl : o < cs.length)
    (h : DataW.trod enc Try.prog w base spare held fuel t ((cs.drop o).take (Try.prog.cellsOf t)) = some x) : ∃ n, cs[o]? = some (.int k n) ∧ (Lit.int k n).wf = true := by
  obtain ⟨n, h1, _, h2⟩ := DataW.trod_int ht h
  refine ⟨n, ?_, h2⟩
  rw [hc] at h1
  have h3 := congrArg (fun l => l[0]?) h1
  simpa [List.getElem?_take, List.getElem?_drop] using h3
theorem string_cell {t : TypeId} (ht : Try.prog.underlying t = some .string) (hc : Try.prog.cellsOf t = 1) {o : Nat} (_hl : o < cs.length)
    (h : DataW.trod enc Try.prog w base spare held fuel t ((cs.drop o).take (Try.prog.cellsOf t)) = some x) : ∃ s : ByteArray, cs[o]? = some (.string s) ∧ s.size ≤ maxLen := by
  obtain ⟨s, h1, _, h2⟩ := DataW.trod_string ht h
  refine ⟨s, ?_, h2⟩
  rw [hc] at h1
  have h3 := congrArg (fun l => l[0]?) h1
  simpa [List.getElem?_take, List.getElem?_drop] using h3

theorem cellsI64 : Try.prog.cellsOf 2 = 1 := by kernel_rfl
theorem cellsStr : Try.prog.cellsOf 9 = 1 := by kernel_rfl
end

theorem cellsIs : Try.prog.cellsOf 22 = 1 := by kernel_rfl
theorem intsAt_of {w : World} {a : Addr} {zs : List Int} (h : ∀ i, i < zs.length → w.cell? (a.add i) = some (.int .i64 (zs.getD i 0))) {n : Nat} : IntsAt w (some a) (zs.take n) := by
  intro i hi
  have hi' : i < zs.length := by have := List.length_take_le' n zs; omega
  have h0 := h 0 (by omega)
  have hs : a.spot = none := by
    obtain ⟨b, o, s⟩ := a
    cases s with
    | none => rfl
    | some s =>
      simp only [Addr.add, if_true] at h0
      unfold World.cell? at h0
      split at h0 <;> simp at h0
  obtain ⟨b, o, s⟩ := a
  obtain rfl : s = none := hs
  refine ⟨b, o, rfl, ?_⟩
  have := h i hi'
  rw [Addr.add_lit] at this
  rw [this]
  simp [hi']

/-- a slice of numbers among the arguments -/
theorem ints_cell {H : Type} {enc : TypeId × Value → H} {w : World} {base : Nat} {spare : Nat → Bool} {held : Bool} {fuel : Nat} {cs : List Value} {x : DataW H × List MemPlace}
    (h : DataW.trod enc Try.prog w base spare held fuel 22 cs = some x) : ∃ (a : Option Addr) (zs : List Int) (c : Nat), cs = [.slice a zs.length c] ∧ IntsAt w a zs ∧ zs.length ≤ maxLen ∧ (∀ n ∈ zs, (Lit.int .i64 n).wf = true) := by
  rcases open_ints Try.underlying22 Try.underlying2 cellsI64 h with ⟨rfl, _⟩ | ⟨a, len, cap, zs, rfl, _, hl, hm, hz, _, hc, hw⟩
  · exact ⟨Option.none, [], 0, rfl, IntsAt.nil, Nat.zero_le _, fun n hn => absurd hn (by simp)⟩
  · have e : (zs.take len).length = len := by rw [List.length_take]; split at hz <;> omega
    exact ⟨some a, zs.take len, cap, by rw [e], intsAt_of hc, by rw [e]; omega, fun n hn => hw n (List.mem_of_mem_take hn)⟩

end Go.Proofs.Ythnjfdhijpfekaa
namespace Go.Proofs.Ythnjfdhijpfekaa
open Go.RowKit

/-- n bytes at a, in blocks below base -/
def BytesAt (w : World) (base : Nat) (a : Option Addr) (n : Nat) : Prop :=
  ∀ i, i < n → ∃ b o z, a = some ⟨b, o, none⟩ ∧ b < base ∧ w.cell? ⟨b, o + i, none⟩ = some (.int .u8 z) ∧ 0 ≤ z ∧ z ≤ 255

theorem BytesAt.kept {w w' : World} {base : Nat} {a : Option Addr} {n : Nat} (h : BytesAt w base a n) (hb : ∀ k, k < base → w'.heap[k]? = w.heap[k]?) : BytesAt w' base a n := by
  intro i hi
  obtain ⟨b, o, z, ha, hlt, hc, hz⟩ := h i hi
  exact ⟨b, o, z, ha, hlt, by rw [World.cell?_of_block (w := w) (a := ⟨b, o + i, none⟩) (hb b hlt)]; exact hc, hz⟩

/-- block b is a source of drawn numbers -/
def SrcAt (w : World) (b : Nat) (a : Option Addr) (n c : Nat) (at_ seed : Int) (base : Nat) : Prop :=
  base ≤ b ∧ BytesAt w base a n ∧ w.heap[b]? = some (.cells #[.slice a n c, .int .i64 at_, .int .i64 seed] 118 (0, 0)) ∧ n ≤ 4096 ∧ 0 ≤ at_ ∧ at_ ≤ n ∧ 0 ≤ seed ∧ seed < 2147483647
def Src (w : World) (b : Nat) : Prop := ∃ a n c at_ seed base, SrcAt w b a n c at_ seed base

theorem Src.lt {w : World} {b : Nat} (h : Src w b) : b < w.heap.size := by
  obtain ⟨a, n, c, at_, seed, base, _, _, hb, _⟩ := h
  exact (Array.getElem?_eq_some_iff.1 hb).1

/-- a source stays one while other blocks are written or made -/
theorem Src.kept {w w' : World} {b : Nat} {row : Option Nat} (h : Src w b) (hg : w.grownBy w' row) (hne : ∀ k, row = some k → b < k) : Src w' b := by
  have hlt := h.lt
  obtain ⟨a, n, c, at_, seed, base, h1, h2, h3, h4⟩ := h
  refine ⟨a, n, c, at_, seed, base, h1, h2.kept (fun k hk => hg.block k (by omega) (fun e => by have := hne k e.symm; omega)), ?_, h4⟩
  rw [hg.block b hlt (fun e => by have := hne b e.symm; omega)]
  exact h3
theorem Src.below {w w' : World} {b : Nat} (h : Src w b) (hb : Below w.heap.size w w') : Src w' b :=
  h.kept (row := none) ⟨hb.os, hb.tape, hb.output, hb.size, fun k hk _ => hb.block k hk⟩ (fun k e => by cases e)

/-- a number is drawn -/
def RetNum (w : World) (b : Nat) (n : Int) (e : Ending) (w' : World) : Prop :=
  ∃ r : Int, e = .returned (.int .i64 r) ∧ 0 ≤ r ∧ (r < n ∨ r = 0) ∧ Src w' b ∧ w.grownBy w' (some b)

theorem RetNum.mk {w w' : World} {b : Nat} {n : Int} {a : Option Addr} {m c : Nat} {at_ seed at2 seed2 r : Int} {base : Nat} (h : SrcAt w b a m c at_ seed base)
    (h' : w'.heap[b]? = some (.cells #[.slice a m c, .int .i64 at2, .int .i64 seed2] 118 (0, 0))) (hg : w.grownBy w' (some b)) (h1 : 0 ≤ at2) (h2 : at2 ≤ m) (h3 : 0 ≤ seed2) (h4 : seed2 < 2147483647) (h5 : 0 ≤ r) (h6 : r < n ∨ r = 0) :
    RetNum w b n (.returned (.int .i64 r)) w' := by
  obtain ⟨q1, q2, q3, q4, _⟩ := h
  have hlt : b < w.heap.size := (Array.getElem?_eq_some_iff.1 q3).1
  exact ⟨r, rfl, h5, h6, ⟨a, m, c, at2, seed2, base, q1, q2.kept (fun k hk => hg.block k (by omega) (fun e => by have := Option.some.inj e; omega)), h', q4, h1, h2, h3, h4⟩, hg⟩

theorem src_set {w : World} {b : Nat} {C : Array Value} {t : TypeId} {fr : Nat × Nat} (h : w.heap[b]? = some (.cells C t fr)) (i : Nat) (v : Value) : (w.setCell ⟨b, i, none⟩ v).heap[b]? = some (.cells (C.setIfInBounds i v) t fr) := by
  rw [setCell_eq_setRow w b i C t fr v h]
  exact setRow_heap w b _ _ t _ h
theorem grownBy_set (w : World) (b i : Nat) (v : Value) : w.grownBy (w.setCell ⟨b, i, none⟩ v) (some b) :=
  ⟨rfl, rfl, rfl, by simp, fun k _ hk => heap_setCell_other w ⟨b, i, none⟩ k v (fun e => hk (by simp [e]))⟩

theorem grownBy_drewN (w : World) (k : Nat) (row : Option Nat) : w.grownBy (w.drewN k) row := ⟨rfl, rfl, rfl, Nat.le_refl _, fun _ _ _ => rfl⟩
theorem src_one {w : World} {b : Nat} {x0 x1 x2 v2 : Value} {t : TypeId} {fr : Nat × Nat} (h : w.heap[b]? = some (.cells #[x0, x1, x2] t fr)) (k : Nat) :
    ((w.setCell ⟨b, 2, none⟩ v2).drewN k).heap[b]? = some (.cells #[x0, x1, v2] t fr) ∧ w.grownBy ((w.setCell ⟨b, 2, none⟩ v2).drewN k) (some b) :=
  ⟨src_set h 2 v2, grownBy_trans (grownBy_set _ _ _ _) (grownBy_drewN _ _ _)⟩
theorem src_two {w : World} {b : Nat} {x0 x1 x2 v1 v2 : Value} {t : TypeId} {fr : Nat × Nat} (h : w.heap[b]? = some (.cells #[x0, x1, x2] t fr)) (k : Nat) :
    (((w.setCell ⟨b, 2, none⟩ v2).drewN k).setCell ⟨b, 1, none⟩ v1).heap[b]? = some (.cells #[x0, v1, v2] t fr) ∧ w.grownBy (((w.setCell ⟨b, 2, none⟩ v2).drewN k).setCell ⟨b, 1, none⟩ v1) (some b) :=
  ⟨src_set (src_one h k).1 1 v1, grownBy_trans (src_one h k).2 (grownBy_set _ _ _ _)⟩

set_option maxHeartbeats 1000000 in
theorem l01Next_any (b : Nat) (n : Int) (w : World) (hs : Src w b) (hn1 : -1152921504606846976 ≤ n) (hn2 : n ≤ 1152921504606846976) :
    Calls Try.prog 58 #[.pointer (some ⟨b, 0, none⟩), .int .i64 n] w (RetNum w b n) := by
  obtain ⟨a, m, c, at_, seed, base, HS⟩ := hs
  have HS' := HS
  obtain ⟨q1, q2, q3, q4, q5, q6, q7, q8⟩ := HS'
  have hc0 : w.cell? ⟨b, 0, none⟩ = some (.slice a m c) := by simp [World.cell?, q3]
  have hc1 : w.cell? ⟨b, 1, none⟩ = some (.int .i64 at_) := by simp [World.cell?, q3]
  have hc2 : w.cell? ⟨b, 2, none⟩ = some (.int .i64 seed) := by simp [World.cell?, q3]
  have hf1 : w.frozen? ⟨b, 1, none⟩ = false := by simp [World.frozen?, q3]
  have hf2 : w.frozen? ⟨b, 2, none⟩ = false := by simp [World.frozen?, q3]
  have HH := Lib.hid HS
  have HB := Lib.hid q3
  have HC := Lib.hid q2
  clear HS q3 q2
  by_cases h1 : n ≤ 1
  · go_enter Try.func58, Try.ntmps58
    go_wp2_with fail
    go_ret
    exact RetNum.mk HH.out HB.out (World.grownBy.refl _ _) q5 q6 q7 q8 (Int.le_refl _) (Or.inr rfl)
  · obtain ⟨t, rfl⟩ := Int.eq_ofNat_of_zero_le q5
    have g0 : 0 ≤ (seed * 48271 + 11) % 2147483647 := by omega
    have g1 : (seed * 48271 + 11) % 2147483647 < 2147483647 := by omega
    by_cases h2 : t < m
    · obtain ⟨b1, o1, z, rfl, hb1, hz, z0, z1⟩ := HC.out t h2
      have h2' : (t : Int) < (m : Int) := by omega
      have hne : ¬ b1 = b := by have := HH.out.1; omega
      rcases (show (¬ n ≤ 256) ∨ (n ≤ 256 ∧ (((t : Int) + 1) % 2 == 0) = false) ∨ (n ≤ 256 ∧ (((t : Int) + 1) % 2 == 0) = true) by
        by_cases h : n ≤ 256
        · rcases Bool.eq_false_or_eq_true ((((t : Int) + 1) % 2 == 0)) with h4 | h4
          · exact Or.inr (Or.inr ⟨h, h4⟩)
          · exact Or.inr (Or.inl ⟨h, h4⟩)
        · exact Or.inl h) with h3 | ⟨h3, h4⟩ | ⟨h3, h4⟩
      all_goals
        go_enter Try.func58, Try.ntmps58
        go_wp2_with fail
        generalize (seed * 48271 + 11) % 2147483647 = s2 at *
        obtain ⟨x, hx⟩ : ∃ x, s2 / 17 = x := ⟨_, rfl⟩
        have x0 : 0 ≤ x := by omega
        have x1 : x < 2147483647 := by omega
        rw [hx]
        clear hx
        go_quiet (fail)
        go_wp2_with fail
        go_quiet (fail)
        go_wp2_with fail
      · go_ret
        exact RetNum.mk HH.out (src_two HB.out _).1 (src_two HB.out _).2 (by omega) (by omega) g0 g1 (Int.emod_nonneg _ (by omega)) (Or.inl (Int.emod_lt_of_pos _ (by omega)))
      · go_ret
        exact RetNum.mk HH.out (src_two HB.out _).1 (src_two HB.out _).2 (by omega) (by omega) g0 g1 (Int.emod_nonneg _ (by omega)) (Or.inl (Int.emod_lt_of_pos _ (by omega)))
      · go_quiet (fail)
        go_wp2_with fail
        go_ret
        exact RetNum.mk HH.out (src_two HB.out _).1 (grownBy_trans (src_two HB.out _).2 (grownBy_drewN _ _ _)) (by omega) (by omega) g0 g1 (Int.emod_nonneg _ (by omega)) (Or.inl (Int.emod_lt_of_pos _ (by omega)))
    · go_enter Try.func58, Try.ntmps58
      go_wp2_with fail
      generalize (seed * 48271 + 11) % 2147483647 = s2 at *
      obtain ⟨x, hx⟩ : ∃ x, s2 / 17 = x := ⟨_, rfl⟩
      have x0 : 0 ≤ x := by omega
      have x1 : x < 2147483647 := by omega
      rw [hx]
      clear hx
      go_quiet (fail)
      go_wp2_with fail
      go_ret
      exact RetNum.mk HH.out (src_one HB.out _).1 (src_one HB.out _).2 (by omega) (by omega) g0 g1 (Int.emod_nonneg _ (by omega)) (Or.inl (Int.emod_lt_of_pos _ (by omega)))

end Go.Proofs.Ythnjfdhijpfekaa
namespace Go.Proofs.Ythnjfdhijpfekaa
open Go.ChangeShapes Go.WideShapes Go.ChangeAt Go.RowKit

theorem cellsU8 : Try.prog.cellsOf 5 = 1 := by kernel_rfl

theorem bytesAt_of {w : World} {a : Addr} {zs : List Int} (h : ∀ i, i < zs.length → w.cell? (a.add i) = some (.int .u8 (zs.getD i 0))) (hw : ∀ n ∈ zs, (Lit.int .u8 n).wf = true) {n : Nat} (hn : n ≤ zs.length) : BytesAt w w.heap.size (some a) n := by
  intro i hi
  have h0 := h 0 (by omega)
  have hs : a.spot = none := by
    obtain ⟨b, o, s⟩ := a
    cases s with
    | none => rfl
    | some s =>
      simp only [Addr.add, if_true] at h0
      unfold World.cell? at h0
      split at h0 <;> simp at h0
  obtain ⟨b, o, s⟩ := a
  obtain rfl : s = none := hs
  have h1 := h i (by omega)
  rw [Addr.add_lit] at h1
  have hm : zs.getD i 0 ∈ zs := by
    rw [List.getD_eq_getElem?_getD, List.getElem?_eq_getElem (by omega)]
    exact List.getElem_mem _
  have hb := hw _ hm
  refine ⟨b, o, _, rfl, lt_of_cell h1, h1, ?_⟩
  have e1 : IntKind.u8.min = 0 := by decide
  have e2 : IntKind.u8.max = 255 := by decide
  generalize zs.getD i 0 = z at *
  simp [Lit.wf] at hb
  rw [e1, e2] at hb
  exact hb

set_option maxRecDepth 100000 in
/-- bytes as an argument -/
theorem open_bytes {H : Type} {enc : TypeId × Value → H} {W : World} {b0 : Nat} {r : Reach} {spare : Nat → Bool} {held : Bool} {v : Value} {d : DataW H} {ps : List MemPlace} (hv : Value.okWide Try.prog W r b0 37 v) (h : DataW.Trod enc Try.prog W 0 spare held 37 v d ps) :
    ∃ (a : Option Addr) (n c : Nat), v = .slice a n c ∧ BytesAt W W.heap.size a n := by
  obtain ⟨a, len, cap, rfl⟩ := okWide_slice Try.underlying37 hv
  obtain ⟨fuel, hf⟩ := h
  rcases open_ints Try.underlying37 Try.underlying5 cellsU8 hf with ⟨h1, _⟩ | ⟨a', len', cap', zs, h1, _, hl, hm, hz, _, hc, hw⟩
  · simp [Value.cells] at h1
    obtain ⟨rfl, rfl, rfl⟩ := h1
    exact ⟨Option.none, 0, 0, rfl, fun i hi => absurd hi (Nat.not_lt_zero i)⟩
  · simp [Value.cells] at h1
    obtain ⟨rfl, rfl, rfl⟩ := h1
    exact ⟨some a', len, cap, rfl, bytesAt_of hc hw (by split at hz <;> omega)⟩

end Go.Proofs.Ythnjfdhijpfekaa
namespace Go.Proofs.Ythnjfdhijpfekaa
open Go.RowKit

/-- a source is made -/
def RetSrc (w : World) (e : Ending) (w' : World) : Prop :=
  ∃ b, e = .returned (.pointer (some ⟨b, 0, none⟩)) ∧ w.heap.size ≤ b ∧ Src w' b ∧ Below w.heap.size w w'

/-- the state of the loop that makes the seed -/
def Seeding (w wr : World) (a : Option Addr) (n c : Nat) : Prop :=
  ∃ s : Int, 0 ≤ s ∧ s < 2147483647 ∧ wr.heap[w.heap.size]? = some (.cells #[.slice a n c, .int .i64 0, .int .i64 s] 118 (0, 0)) ∧ Below w.heap.size w wr

set_option maxHeartbeats 1000000 in
theorem l01From_any (a : Option Addr) (n c : Nat) (w : World) (hx : BytesAt w w.heap.size a n) (hn : n ≤ 4096) :
    Calls Try.prog 43 #[.slice a n c] w (RetSrc w) := by
  have HX := Lib.hid hx
  clear hx
  go_enter Try.func43, Try.ntmps43
  go_wp2_with fail
  go_loopw [4] (fun i wr => ∃ k : Nat, k ≤ n ∧ i = .int .i64 k ∧ Seeding w wr a n c) (fun i _ => n - (intOf i).toNat)
  case atStart => exact ⟨0, Nat.zero_le _, rfl, 60617, by omega, by omega, heap_alloc_new w _, ba1 _ _⟩
  case round =>
    obtain ⟨k, hk, rfl, hsd⟩ := hrel
    obtain ⟨s, s0, s1, hb, hbl⟩ := hsd
    have hc2 : wr.cell? ⟨w.heap.size, 2, none⟩ = some (.int .i64 s) := by simp [World.cell?, hb]
    have hf2 : wr.frozen? ⟨w.heap.size, 2, none⟩ = false := by simp [World.frozen?, hb]
    have HB := Lib.hid hb
    have HL := Lib.hid hbl
    clear hb hbl
    by_cases hlt : k < n
    · by_cases h64 : k < 64
      · obtain ⟨b1, o1, z, rfl, hb1, hz, z0, z1⟩ := HX.out k hlt
        have hzr : wr.cell? ⟨b1, o1 + k, none⟩ = some (.int .u8 z) := (HL.out.cell (p := ⟨b1, o1 + k, none⟩) hb1).trans hz
        have hne : ¬ b1 = w.heap.size := by omega
        have hkn : (k : Int) < (n : Int) := by omega
        have w1 : IntKind.i64.wrap (s * 43) = s * 43 := IntWalk.i64_in _ (by omega)
        have w2 : IntKind.i64.wrap z = z := IntWalk.i64_in _ (by omega)
        have w3 : IntKind.i64.wrap (s * 43 + z) = s * 43 + z := IntWalk.i64_in _ (by omega)
        have w4 : (s * 43 + z).tmod 2147483647 = (s * 43 + z) % 2147483647 := Int.tmod_eq_emod_of_nonneg (by omega)
        clear hz
        go_wp2_with fail
        go_region
        all_goals
          go_wp2_with fail
          exact ⟨⟨k + 1, by omega, by go_num, (s * 43 + z) % 2147483647, by omega, by omega, src_set HB.out 2 _, (HL.out.setCell (Nat.le_refl _) _).drew⟩, by simp [intOf]; omega⟩
      · go_wp2_with fail
        go_ret
        exact ⟨w.heap.size, rfl, Nat.le_refl _, ⟨a, n, c, 0, s, w.heap.size, Nat.le_refl _, HX.out.kept (fun k hk => HL.out.block k hk), HB.out, hn, Int.le_refl _, by omega, s0, s1⟩, HL.out⟩
    · go_wp2_with fail
      go_ret
      exact ⟨w.heap.size, rfl, Nat.le_refl _, ⟨a, n, c, 0, s, w.heap.size, Nat.le_refl _, HX.out.kept (fun k hk => HL.out.block k hk), HB.out, hn, Int.le_refl _, by omega, s0, s1⟩, HL.out⟩

end Go.Proofs.Ythnjfdhijpfekaa
namespace Go.Proofs.Ythnjfdhijpfekaa
open Go.RowKit

/-! A REGION THAT DRAWS ITS ORDER, each operation by what it leaves: whatever the order, what each operation has left stands at the end, if nothing that comes in between does away with it. -/

/-- how many are not listed -/
def unl : List Bool → Nat
  | [] => 0
  | b :: r => (if b then 0 else 1) + unl r
theorem unl_set : ∀ (l : List Bool) (i : Nat), l[i]? = some false → unl (l.set i true) + 1 = unl l
  | [], i, h => by simp at h
  | b :: r, 0, h => by simp at h; subst h; simp [unl]; omega
  | b :: r, i + 1, h => by
    have := unl_set r i (by simpa using h)
    simp only [List.set_cons_succ, unl]
    omega
theorem unl_zero : ∀ (l : List Bool), unl l = 0 → ∀ i, l.getD i true = true
  | [], _, i => by simp
  | b :: r, h, i => by
    simp only [unl] at h
    cases b with
    | false => simp at h
    | true =>
      cases i with
      | zero => simp
      | succ i => simpa using unl_zero r (by simpa using h) i
theorem unl_replicate (n : Nat) : unl (List.replicate n false) = n := by
  induction n with
  | zero => rfl
  | succ n ih => simp [List.replicate_succ, unl, ih]; omega

/-- the frame with the values us in the slots ds -/
def over (a : Act) (ds : List Nat) (us : Nat → Value) : Act := { a with tmps := a.tmps.mapIdx fun t v => if ds.contains t then us t else v }
/-- one value more -/
def upd (us : Nat → Value) (d : Option Nat) (v : Value) : Nat → Value :=
  match d with
  | some d => fun t => if t = d then v else us t
  | none => us
theorem upd_ne {us : Nat → Value} {d : Option Nat} {v : Value} {t : Nat} (h : d ≠ some t) : upd us d v t = us t := by
  cases d with
  | none => rfl
  | some d => simp only [upd]; rw [if_neg (fun e => h (by rw [e]))]

theorem over_put {a : Act} {ds : List Nat} {us : Nat → Value} {d : Option Nat} {v : Value} (h : ∀ t, d = some t → ds.contains t = true) : (over a ds us).put d v = over a ds (upd us d v) := by
  cases d with
  | none => rfl
  | some t =>
    have ht := h t rfl
    simp only [Act.put, over]
    congr 1
    apply Array.ext_getElem?
    intro i
    rw [Array.getElem?_setIfInBounds]
    simp only [Array.getElem?_mapIdx, Array.size_mapIdx]
    by_cases e : t = i
    · subst e
      simp only [if_true]
      by_cases hb : t < a.tmps.size
      · simp only [hb, if_true, Array.getElem?_eq_getElem hb, Option.map_some, ht, upd]
      · simp only [hb, if_false, Array.getElem?_eq_none (Nat.le_of_not_lt hb), Option.map_none]
    · simp only [e, if_false, upd, show ¬ i = t from fun h => e h.symm]

/-- what the tape may not do: the operations' edges, looked at once -/
def rgOk (ops : Array Oper) (m : Nat) (ds : List Nat) (sup : Nat → List Nat) : Bool :=
  (List.range ops.size).all fun j => match ops[j]? with
    | none => true
    | some o =>
      -- the slots written by the head lie in ds; what is said of an operation speaks of its own slot and of those that it waits for
      (decide (m ≤ j) || ((match o.dst with | some d => ds.contains d | none => true) &&
        (sup j).all fun t => (List.range ops.size).all fun i => match ops[i]? with
          | none => true
          | some oi => oi.dst != some t || i == j || o.after.any fun e => Region.binds .any e && e.on == i)) &&
      -- each of the tail waits for all before it, and none waits for a later one
      (decide (j < m) || (List.range j).all (fun i => o.after.any fun e => Region.binds .any e && e.on == i)) && o.after.all fun e => !Region.binds .any e || decide (e.on < j)

variable {P : Program} {ops : Array Oper} {Q : Exit → Act → World → Prop}

theorem getD_toList (l : Array Bool) (i : Nat) (d : Bool) : l.getD i d = l.toList.getD i d := by simp [Array.getD_eq_getD_getElem?, List.getD_eq_getElem?_getD]

/-- the tail, in its one order -/
theorem wpAny_tail {m : Nat} {ds : List Nat} {sup : Nat → List Nat} (hB : rgOk ops m ds sup = true) : ∀ (r k : Nat) (listed : Array Bool) (a : Act) (w : World), m ≤ k → k + r = ops.size →
    (∀ j, j < ops.size → listed.getD j true = decide (j < k)) → listed.size = ops.size → ∀ fuel, r ≤ fuel → wpOps P ops Q (List.range' k r) a w → wpAny P .any ops Q fuel listed a w
  | 0, k, listed, a, w, hm, hk, hl, hs, fuel, hf, h => by
    have hr : Region.ready .any ops listed = [] := by
      rw [List.eq_nil_iff_forall_not_mem]
      intro j hj
      obtain ⟨h1, o, ho, _⟩ := mem_ready.1 hj
      have hlt : j < ops.size := (Array.getElem?_eq_some_iff.1 ho).1
      rw [hl j hlt] at h1
      simp at h1; omega
    have hq : Q .normal a w := h
    cases fuel with
    | zero => exact ⟨hr, hq⟩
    | succ f => exact ⟨fun _ => hq, fun i hi => by rw [hr] at hi; cases hi⟩
  | r + 1, k, listed, a, w, hm, hk, hl, hs, fuel, hf, h => by
    have hkn : k < ops.size := by omega
    have hready : ∀ j ∈ Region.ready .any ops listed, j = k := by
      intro j hj
      obtain ⟨h1, o, ho, hdep⟩ := mem_ready.1 hj
      have hlt : j < ops.size := (Array.getElem?_eq_some_iff.1 ho).1
      rw [hl j hlt] at h1
      have hjk : k ≤ j := by simpa using h1
      rcases Nat.lt_or_ge k j with hlt' | hge
      · exfalso
        have hb := List.all_eq_true.1 hB j (List.mem_range.2 hlt)
        simp only [ho, Bool.and_eq_true, Bool.or_eq_true, decide_eq_true_eq] at hb
        rcases hb.1.2 with hb2 | hb2
        · omega
        · have := List.all_eq_true.1 hb2 k (List.mem_range.2 hlt')
          obtain ⟨e, he, hee⟩ := Array.any_eq_true'.1 this
          simp only [Bool.and_eq_true, beq_iff_eq] at hee
          have hd := hdep e he hee.1
          rw [hee.2] at hd
          have := hl k hkn
          rw [getD_toList] at this hd
          rw [List.getD_eq_getElem?_getD] at this hd
          cases hx : listed.toList[k]? with
          | none => rw [hx] at hd; simp at hd
          | some b => rw [hx] at this hd; simp at this hd; rw [this] at hd; cases hd
      · omega
    cases fuel with
    | zero => omega
    | succ f =>
      refine ⟨fun h0 => ?_, fun i hi => ?_⟩
      · exfalso
        obtain ⟨o, ho⟩ : ∃ o, ops[k]? = some o := ⟨ops[k], Array.getElem?_eq_getElem hkn⟩
        have : k ∈ Region.ready .any ops listed := by
          refine mem_ready.2 ⟨?_, o, ho, ?_⟩
          · rw [hl k hkn]; simp
          · intro e he hbind
            have hb := List.all_eq_true.1 hB k (List.mem_range.2 hkn)
            simp only [ho, Bool.and_eq_true, Bool.or_eq_true, decide_eq_true_eq] at hb
            · have h2 := Array.all_eq_true'.1 hb.2 e he
              simp only [hbind, Bool.not_true, Bool.or_eq_true, Bool.false_eq_true, false_or, decide_eq_true_eq] at h2
              have := hl e.on (by omega)
              rw [getD_toList, List.getD_eq_getElem?_getD] at this ⊢
              cases hx : listed.toList[e.on]? with
              | none =>
                have := List.getElem?_eq_none_iff.1 hx
                simp [hs] at this; omega
              | some b => rw [hx] at this; simp at this; simp [this]; exact h2
        rw [h0] at this; cases this
      · obtain rfl := hready i hi
        rw [List.range'_succ, wpOps_cons] at h
        refine wpOp_mono (fun a' w' h' => ?_) h
        refine wpAny_tail hB r (i + 1) _ a' w' (by omega) (by omega) ?_ (by simpa using hs) f (by omega) h'
        intro j hj
        by_cases e : i = j
        · subst e
          rw [getD_toList, Array.toList_setIfInBounds, List.getD_eq_getElem?_getD, List.getElem?_set]
          simp [hs, hj]
        · rw [getD_toList, Array.toList_setIfInBounds, List.getD_eq_getElem?_getD, List.getElem?_set, if_neg e, ← List.getD_eq_getElem?_getD, ← getD_toList, hl j hj]
          simp; omega


/-- what stands while the head is under way -/
structure Under (ops : Array Oper) (m : Nat) (a0 : Act) (ds : List Nat) (G : Nat → (Nat → Value) → World → Prop) (St : World → Prop) (listed : Array Bool) (a : Act) (w : World) : Prop where
  size : listed.size = ops.size
  tail : ∀ j, m ≤ j → j < ops.size → listed.getD j true = false
  closed : ∀ j o, ops[j]? = some o → listed.getD j false = true → ∀ e ∈ o.after, Region.binds .any e = true → listed.getD e.on false = true
  st : St w
  left : ∃ us, a = over a0 ds us ∧ ∀ j, j < m → listed.getD j false = true → G j us w

theorem getD_set_true {listed : Array Bool} {i j : Nat} (h : listed.getD j false = true) : (listed.setIfInBounds i true).getD j false = true := by
  rw [getD_toList, Array.toList_setIfInBounds, List.getD_eq_getElem?_getD, List.getElem?_set]
  rw [getD_toList, List.getD_eq_getElem?_getD] at h
  by_cases e : i = j
  · subst e
    cases hx : listed.toList[i]? with
    | none => rw [hx] at h; simp at h
    | some b =>
      have h3 := (List.getElem?_eq_some_iff.1 hx).1
      rw [if_pos rfl, if_pos h3]; rfl
  · rw [if_neg e]; exact h
theorem getD_set_other {listed : Array Bool} {i j : Nat} {d : Bool} (e : i ≠ j) : (listed.setIfInBounds i true).getD j d = listed.getD j d := by
  rw [getD_toList, Array.toList_setIfInBounds, List.getD_eq_getElem?_getD, List.getElem?_set, if_neg e, ← List.getD_eq_getElem?_getD, ← getD_toList]

/-- what one operation of the head owes: IN EVERY FRAME AND WORLD in which what it waits for stands, it leaves what is said of it, and does away with nothing -/
def Owes (P : Program) (ops : Array Oper) (Q : Exit → Act → World → Prop) (a0 : Act) (ds : List Nat) (G : Nat → (Nat → Value) → World → Prop) (St : World → Prop) (Keep : World → World → Prop) (i : Nat) (o : Oper) : Prop :=
  ∀ (us : Nat → Value) (w : World), St w → (∀ e ∈ o.after, Region.binds .any e = true → G e.on us w) →
    if Region.wanted o (yielded ops (over a0 ds us).tmps) then o.wp P (over a0 ds us) w (fun a' w' => ∃ v, a' = (over a0 ds us).put o.dst v ∧ St w' ∧ Keep w w' ∧ G i (upd us o.dst v) w') Q
    else G i (upd us o.dst undef) w

theorem wpAny_head {m : Nat} {a0 : Act} {ds : List Nat} {sup : Nat → List Nat} {G : Nat → (Nat → Value) → World → Prop} {St : World → Prop} {Keep : World → World → Prop} (hB : rgOk ops m ds sup = true) (hm : m ≤ ops.size)
    (hkeep : ∀ j us w w', j < m → Keep w w' → G j us w → G j us w') (hrefl : ∀ w, Keep w w) (hsup : ∀ j us us' w, j < m → (∀ t ∈ sup j, us t = us' t) → G j us w → G j us' w)
    (howe : ∀ i o, i < m → ops[i]? = some o → Owes P ops Q a0 ds G St Keep i o)
    (hend : ∀ us w, St w → (∀ j, j < m → G j us w) → wpOps P ops Q (List.range' m (ops.size - m)) (over a0 ds us) w) :
    ∀ (fuel : Nat) (listed : Array Bool) (a : Act) (w : World), unl listed.toList ≤ fuel → Under ops m a0 ds G St listed a w → wpAny P .any ops Q fuel listed a w := by
  have hdepOk : ∀ j o, j < m → ops[j]? = some o → (∀ d, o.dst = some d → ds.contains d = true) ∧ ∀ t ∈ sup j, ∀ i oi, ops[i]? = some oi → oi.dst = some t → i = j ∨ ∃ e ∈ o.after, Region.binds .any e = true ∧ e.on = i := by
    intro j o hj ho
    have hlt : j < ops.size := (Array.getElem?_eq_some_iff.1 ho).1
    have hb := List.all_eq_true.1 hB j (List.mem_range.2 hlt)
    simp only [ho, Bool.and_eq_true, Bool.or_eq_true, decide_eq_true_eq] at hb
    rcases hb.1.1 with h | h
    · omega
    · refine ⟨?_, ?_⟩
      · intro d hd
        have := h.1
        rw [hd] at this
        exact this
      · intro t ht i oi hi hd
        have h2 := List.all_eq_true.1 (List.all_eq_true.1 h.2 t ht) i (List.mem_range.2 (Array.getElem?_eq_some_iff.1 hi).1)
        simp only [hi, Bool.or_eq_true, bne_iff_ne, beq_iff_eq, hd] at h2
        rcases h2 with (h2 | h2) | h2
        · exact absurd rfl h2
        · exact Or.inl h2
        · obtain ⟨e, he, hee⟩ := Array.any_eq_true'.1 h2
          simp only [Bool.and_eq_true, beq_iff_eq] at hee
          exact Or.inr ⟨e, he, hee.1, hee.2⟩
  have step : ∀ (fuel : Nat) (listed : Array Bool) (a : Act) (w : World), unl listed.toList ≤ fuel → Under ops m a0 ds G St listed a w →
      (∀ j, j < m → listed.getD j true = true) → wpAny P .any ops Q fuel listed a w := by
    intro fuel listed a w hf U hall
    obtain ⟨us, rfl, hG⟩ := U.left
    have hx : ∀ j, j < m → listed.getD j false = true := by
      intro j hj
      have := hall j hj
      rw [getD_toList, List.getD_eq_getElem?_getD] at this ⊢
      cases hy : listed.toList[j]? with
      | none =>
        have h1 := List.getElem?_eq_none_iff.1 hy
        have := U.size
        simp at h1; omega
      | some b => rw [hy] at this; simpa using this
    have hr : ops.size - m ≤ fuel := by
      refine Nat.le_trans ?_ hf
      have : ∀ (n : Nat) (l : List Bool), (∀ j, n ≤ j → j < l.length → l.getD j true = false) → l.length - n ≤ unl l := by
        intro n l
        induction l generalizing n with
        | nil => intro _; simp
        | cons b r ih =>
          intro hb
          cases n with
          | zero =>
            have h0 := hb 0 (Nat.le_refl _) (by simp)
            have h1 := ih 0 (fun j _ hj => by have := hb (j + 1) (by omega) (by simpa using hj); simpa using this)
            simp at h0
            subst h0
            simp [unl] at h1 ⊢; omega
          | succ n =>
            have h1 := ih n (fun j hj hj' => by have := hb (j + 1) (by omega) (by simpa using hj'); simpa using this)
            simp only [unl, List.length_cons]; omega
      have h2 := this m listed.toList (fun j hj hj' => by rw [← getD_toList]; exact U.tail j hj (by have := U.size; simp at hj'; omega))
      have := U.size
      simp at h2; omega
    refine wpAny_tail hB (ops.size - m) m listed _ w (Nat.le_refl _) (by omega) ?_ U.size fuel hr (hend us w U.st (fun j hj => hG j hj (hx j hj)))
    intro j hj
    rcases Nat.lt_or_ge j m with h | h
    · rw [hall j h]; simp [h]
    · rw [U.tail j h hj]; simp; omega
  intro fuel
  induction fuel with
  | zero =>
    intro listed a w hf U
    exact step 0 listed a w hf U (fun j _ => by rw [getD_toList]; exact unl_zero _ (by omega) j)
  | succ fuel ih =>
    intro listed a w hf U
    by_cases hall : ∀ j, j < m → listed.getD j true = true
    · exact step _ listed a w hf U hall
    · obtain ⟨us, rfl, hG⟩ := U.left
      have hnot : ∃ j, j < m ∧ listed.getD j true = false := by
        apply Classical.byContradiction
        intro hn
        apply hall
        intro j hj
        cases hx : listed.getD j true with
        | true => rfl
        | false => exact absurd ⟨j, hj, hx⟩ hn
      refine ⟨fun h0 => ?_, fun i hi => ?_⟩
      · -- the least that is not listed may come up
        have least : ∀ n j, j ≤ n → j < m → listed.getD j true = false → False := by
          intro n
          induction n with
          | zero =>
            intro j hj hjm hjl
            obtain rfl : j = 0 := by omega
            obtain ⟨oj, hoj⟩ : ∃ oj, ops[0]? = some oj := ⟨ops[0], Array.getElem?_eq_getElem (by omega)⟩
            have : 0 ∈ Region.ready .any ops listed := mem_ready.2 ⟨hjl, oj, hoj, fun e he hbind => by
              have hb := List.all_eq_true.1 hB 0 (List.mem_range.2 (by omega))
              simp only [hoj, Bool.and_eq_true] at hb
              have h2 := Array.all_eq_true'.1 hb.2 e he
              simp only [hbind, Bool.not_true, Bool.or_eq_true, Bool.false_eq_true, false_or, decide_eq_true_eq] at h2
              omega⟩
            rw [h0] at this; cases this
          | succ n ihn =>
            intro j hj hjm hjl
            obtain ⟨oj, hoj⟩ : ∃ oj, ops[j]? = some oj := ⟨ops[j], Array.getElem?_eq_getElem (by omega)⟩
            have : j ∈ Region.ready .any ops listed := mem_ready.2 ⟨hjl, oj, hoj, fun e he hbind => by
              have hb := List.all_eq_true.1 hB j (List.mem_range.2 (by omega))
              simp only [hoj, Bool.and_eq_true] at hb
              have h2 := Array.all_eq_true'.1 hb.2 e he
              simp only [hbind, Bool.not_true, Bool.or_eq_true, Bool.false_eq_true, false_or, decide_eq_true_eq] at h2
              cases hx : listed.getD e.on true with
              | false => exact (ihn e.on (by omega) (by omega) hx).elim
              | true =>
                rw [getD_toList, List.getD_eq_getElem?_getD] at hx ⊢
                cases hy : listed.toList[e.on]? with
                | none =>
                  have h4 := List.getElem?_eq_none_iff.1 hy
                  have := U.size
                  simp at h4; omega
                | some b => rw [hy] at hx; simpa using hx⟩
            rw [h0] at this; cases this
        obtain ⟨j, hj, hjl⟩ := hnot
        exact (least j j (Nat.le_refl _) hj hjl).elim
      · obtain ⟨h1, o, ho, hdep⟩ := mem_ready.1 hi
        have hlt : i < ops.size := (Array.getElem?_eq_some_iff.1 ho).1
        have him : i < m := by
          rcases Nat.lt_or_ge i m with h | h
          · exact h
          · exfalso
            obtain ⟨j, hj, hjl⟩ := hnot
            have hb := List.all_eq_true.1 hB i (List.mem_range.2 hlt)
            simp only [ho, Bool.and_eq_true, Bool.or_eq_true, decide_eq_true_eq] at hb
            rcases hb.1.2 with hb2 | hb2
            · omega
            · have := List.all_eq_true.1 hb2 j (List.mem_range.2 (by omega))
              obtain ⟨e, he, hee⟩ := Array.any_eq_true'.1 this
              simp only [Bool.and_eq_true, beq_iff_eq] at hee
              have hd := hdep e he hee.1
              rw [hee.2] at hd
              rw [getD_toList, List.getD_eq_getElem?_getD] at hd hjl
              cases hx : listed.toList[j]? with
              | none => rw [hx] at hd; simp at hd
              | some b => rw [hx] at hd hjl; simp at hd hjl; rw [hd] at hjl; cases hjl
        obtain ⟨hds, hdp⟩ := hdepOk i o him ho
        have hil : listed.toList[i]? = some false := by
          rw [getD_toList, List.getD_eq_getElem?_getD] at h1
          cases hx : listed.toList[i]? with
          | none => rw [hx] at h1; simp at h1
          | some b => rw [hx] at h1; simp at h1; rw [h1]
        have hdm : ∀ e ∈ o.after, Region.binds .any e = true → e.on < m := by
          intro e he hbind
          have hd := hdep e he hbind
          rcases Nat.lt_or_ge e.on m with h | h
          · exact h
          · exfalso
            rcases Nat.lt_or_ge e.on ops.size with h2 | h2
            · have := U.tail e.on h h2
              rw [getD_toList, List.getD_eq_getElem?_getD] at this hd
              cases hx : listed.toList[e.on]? with
              | none => rw [hx] at hd; simp at hd
              | some b => rw [hx] at hd this; simp at hd this; rw [hd] at this; cases this
            · rw [getD_toList, List.getD_eq_getElem?_getD, List.getElem?_eq_none (by have := U.size; simp; omega)] at hd
              simp at hd
        have next : ∀ v w', St w' → Keep w w' → G i (upd us o.dst v) w' → wpAny P .any ops Q fuel (listed.setIfInBounds i true) ((over a0 ds us).put o.dst v) w' := by
          intro v w' hst hk hg
          refine ih _ _ _ ?_ ⟨by simpa using U.size, ?_, ?_, hst, upd us o.dst v, over_put hds, ?_⟩
          · have := unl_set listed.toList i hil
            rw [Array.toList_setIfInBounds]; omega
          · intro j hj hj'
            rw [getD_set_other (by omega)]; exact U.tail j hj hj'
          · intro j oj hoj hlj e he hbind
            by_cases ej : i = j
            · subst ej
              rw [ho] at hoj
              cases hoj
              exact getD_set_true (hdep e he hbind)
            · rw [getD_set_other ej] at hlj
              exact getD_set_true (U.closed j oj hoj hlj e he hbind)
          · intro j hj hlj
            by_cases ej : i = j
            · subst ej; exact hg
            · rw [getD_set_other ej] at hlj
              refine hsup j us _ w' hj (fun t ht => ?_) (hkeep j us w w' hj hk (hG j hj hlj))
              symm
              refine upd_ne (fun hd => ?_)
              have hjs : j < ops.size := by omega
              obtain ⟨oj, hoj⟩ : ∃ oj, ops[j]? = some oj := ⟨ops[j], Array.getElem?_eq_getElem hjs⟩
              rcases (hdepOk j oj hj hoj).2 t ht i o ho hd with h | ⟨e, he, hbind, heq⟩
              · exact ej h
              · have := U.closed j oj hoj hlj e he hbind
                rw [heq, getD_toList, List.getD_eq_getElem?_getD, hil] at this
                simp at this
        have howes := howe i o him ho us w U.st (fun e he hbind => hG e.on (hdm e he hbind) (hdep e he hbind))
        unfold wpOp
        rw [ho]
        simp only
        by_cases hw : Region.wanted o (yielded ops (over a0 ds us).tmps) = true
        · rw [if_pos hw] at howes ⊢
          refine Or.inl (Oper.wp_mono (fun a' w' h => ?_) howes)
          obtain ⟨v, rfl, hst, hk, hg⟩ := h
          exact next v w' hst hk hg
        · rw [if_neg hw] at howes ⊢
          exact next undef w U.st (hrefl w) howes

end Go.Proofs.Ythnjfdhijpfekaa
namespace Go.Proofs.Ythnjfdhijpfekaa
open Go.RowKit

/-- what one operation yields, and the world that it leaves -/
def leavesUpon (P : Program) (R : Value → World → Prop) : Result Next → Prop
  | .ok (.value v) w' => R v w'
  | .ok .skip w' => R undef w'
  | .ok (.enter f args) w' => Calls P f args w' (fun e w'' => ∃ v, e = .returned v ∧ R v w'')
  | _ => False
def leaves (P : Program) (o : Oper) (a : Act) (w : World) (R : Value → World → Prop) : Prop := leavesUpon P R ((execOp a.eval o).run P w)
attribute [go_sem] leavesUpon leaves

theorem wp_of_leaves {P : Program} {o : Oper} {a : Act} {w : World} {R : Value → World → Prop} {K : Act → World → Prop} {Q : Exit → Act → World → Prop} (h : ∀ v w', R v w' → K (a.put o.dst v) w') (hh : leaves P o a w R) : o.wp P a w K Q := by
  unfold leaves at hh
  unfold Oper.wp
  generalize (execOp a.eval o).run P w = r at *
  cases r with
  | ok n w' =>
    cases n <;> simp only [leavesUpon] at hh <;> simp only [Oper.upon]
    case value v => exact h _ _ hh
    case skip => exact h _ _ hh
    case enter f args => exact hh.mono fun e w'' ⟨v, he, hr⟩ => by subst he; exact h _ _ hr
  | halt x w' => simp only [leavesUpon] at hh

/-- behind an operation: it has kept what it had to, and what is said of it holds -/
def RgR (G : Nat → (Nat → Value) → World → Prop) (St : World → Prop) (Keep : World → World → Prop) (us : Nat → Value) (w : World) (i : Nat) (d : Option Nat) (v : Value) (w' : World) : Prop :=
  St w' ∧ Keep w w' ∧ G i (upd us d v) w'
/-- the head's operations, one by one -/
def rgAll (P : Program) (ops : Array Oper) (A : (Nat → Value) → Act) (G : Nat → (Nat → Value) → World → Prop) (St : World → Prop) (Keep : World → World → Prop) : Nat → List Oper → Prop
  | _, [] => True
  | i, o :: r => (∀ (us : Nat → Value) (w : World), St w → (∀ e ∈ o.after, Region.binds .any e = true → G e.on us w) →
      if Region.wanted o (yielded ops (A us).tmps) then leaves P o (A us) w (RgR G St Keep us w i o.dst) else G i (upd us o.dst undef) w) ∧ rgAll P ops A G St Keep (i + 1) r

theorem rgAll_at {P : Program} {ops : Array Oper} {A : (Nat → Value) → Act} {G : Nat → (Nat → Value) → World → Prop} {St : World → Prop} {Keep : World → World → Prop} : ∀ (l : List Oper) (k : Nat), rgAll P ops A G St Keep k l → ∀ i o, l[i]? = some o →
    ∀ (us : Nat → Value) (w : World), St w → (∀ e ∈ o.after, Region.binds .any e = true → G e.on us w) →
      if Region.wanted o (yielded ops (A us).tmps) then leaves P o (A us) w (RgR G St Keep us w (k + i) o.dst) else G (k + i) (upd us o.dst undef) w
  | [], _, _, i, o, h => by simp at h
  | o' :: r, k, hall, 0, o, h => by simp at h; subst h; exact hall.1
  | o' :: r, k, hall, i + 1, o, h => by
    have := rgAll_at r (k + 1) hall.2 i o (by simpa using h)
    rw [show k + 1 + i = k + (i + 1) by omega] at this
    exact this

/-- **A REGION THAT DRAWS ITS ORDER, EACH OPERATION OF ITS HEAD BY WHAT IT LEAVES; the tail in its one order.** -/
theorem wp_region_rg {P : Program} {id : Nat} {l : List Oper} {Q : Exit → Act → World → Prop} {a0 : Act} {w0 : World} (m : Nat) (ds : List Nat) (sup : Nat → List Nat) (A : (Nat → Value) → Act) (G : Nat → (Nat → Value) → World → Prop) (St : World → Prop) (Keep : World → World → Prop)
    (hmix : P.follows .mixedOrders = true) (hB : rgOk l.toArray m ds sup = true) (hm : m ≤ l.length) (hA : ∀ us, over a0 ds us = A us) (h0 : St w0.drew) (hrefl : ∀ w, Keep w w)
    (hkeep : ∀ j us w w', j < m → Keep w w' → G j us w → G j us w') (hsup : ∀ j us us' w, j < m → (∀ t ∈ sup j, us t = us' t) → G j us w → G j us' w)
    (hall : rgAll P l.toArray A G St Keep 0 (l.take m))
    (hend : ∀ us w, St w → (∀ j, j < m → G j us w) → wpList P l.toArray Q (l.drop m) (A us) w) : (Code.region id l.toArray true).wp P Q a0 w0 := by
  refine wp_region_any hmix ?_
  refine wpAny_head (a0 := a0) (ds := ds) (G := G) (St := St) (Keep := Keep) hB (by simpa using hm) hkeep hrefl hsup ?_ ?_ _ _ _ _ (by rw [Array.toList_replicate, unl_replicate]; exact Nat.le_refl _) ?_
  · intro i o hi ho us w hst hd
    have ho' : (l.take m)[i]? = some o := by rw [List.getElem?_take, if_pos hi]; simpa using ho
    have := rgAll_at _ 0 hall i o ho' us w hst hd
    rw [Nat.zero_add] at this
    rw [hA]
    by_cases hw : Region.wanted o (yielded l.toArray (A us).tmps) = true
    · rw [if_pos hw] at this ⊢
      exact wp_of_leaves (fun v w' h => ⟨v, rfl, h.1, h.2.1, h.2.2⟩) this
    · rw [if_neg hw] at this ⊢
      exact this
  · intro us w hst hg
    have := hend us w hst hg
    rw [hA]
    have e := wpOps_eq_wpList (P := P) (ops := l.toArray) (Q := Q) (l.drop m) m (fun j => by simp [List.getElem?_drop])
    rw [List.length_drop] at e
    have e2 : l.toArray.size - m = l.length - m := by simp
    rw [e2, e]
    exact this
  · refine ⟨by simp, ?_, ?_, h0, fun t => a0.tmps.getD t undef, ?_, ?_⟩
    · intro j _ hj
      rw [getD_toList, Array.toList_replicate, List.getD_eq_getElem?_getD, List.getElem?_replicate]
      simp at hj
      simp [hj]
    · intro j o _ hj
      rw [getD_toList, Array.toList_replicate, List.getD_eq_getElem?_getD, List.getElem?_replicate] at hj
      split at hj <;> simp at hj
    · unfold over
      cases a0 with
      | mk tmps defers =>
        congr 1
        apply Array.ext_getElem?
        intro i
        rw [Array.getElem?_mapIdx]
        cases hx : tmps[i]? with
        | none => rfl
        | some v =>
          simp only [Option.map_some, Array.getD_eq_getD_getElem?, hx, Option.getD_some]
          split <;> rfl
    · intro j _ hj
      rw [getD_toList, Array.toList_replicate, List.getD_eq_getElem?_getD, List.getElem?_replicate] at hj
      split at hj <;> simp at hj

end Go.Proofs.Ythnjfdhijpfekaa
namespace Go.Proofs.Ythnjfdhijpfekaa
open Go.RowKit

/-- what is said of an operation's value: it stays true while the world is kept -/
structure Sp (Keep : World → World → Prop) where
  holds : Value → World → Prop
  kept : ∀ v w w', Keep w w' → holds v w → holds v w'

/-- what is said of operation j -/
def depHolds {Keep : World → World → Prop} (l : List Oper) (sp : List (Sp Keep)) (us : Nat → Value) (w : World) (j : Nat) : Prop :=
  match l[j]?, sp[j]? with
  | some o, some s => match o.dst with
    | some d => s.holds (us d) w
    | none => True
  | _, _ => True
def supOf (l : List Oper) (j : Nat) : List Nat :=
  match l[j]? with
  | some o => o.dst.toList
  | none => []

theorem depHolds_kept {Keep : World → World → Prop} {l : List Oper} {sp : List (Sp Keep)} {us : Nat → Value} {w w' : World} {j : Nat} (hk : Keep w w') (h : depHolds l sp us w j) : depHolds l sp us w' j := by
  unfold depHolds at *
  split
  · rename_i o s ho hs
    simp only [ho, hs] at h
    split
    · rename_i d hd
      simp only [hd] at h
      exact s.kept _ _ _ hk h
    · trivial
  · trivial
theorem depHolds_sup {Keep : World → World → Prop} {l : List Oper} {sp : List (Sp Keep)} {us us' : Nat → Value} {w : World} {j : Nat} (he : ∀ t ∈ supOf l j, us t = us' t) (h : depHolds l sp us w j) : depHolds l sp us' w j := by
  unfold depHolds at *
  split
  · rename_i o s ho hs
    simp only [ho, hs] at h
    split
    · rename_i d hd
      simp only [hd] at h
      have := he d (by simp [supOf, ho, hd])
      rwa [← this]
    · trivial
  · trivial

/-- behind an operation -/
def RsR {Keep : World → World → Prop} (St : World → Prop) (s : Sp Keep) (w : World) (v : Value) (w' : World) : Prop := St w' ∧ Keep w w' ∧ s.holds v w'
def rsAll (P : Program) (l : List Oper) (A : (Nat → Value) → Act) {Keep : World → World → Prop} (sp : List (Sp Keep)) (St : World → Prop) : List Oper → List (Sp Keep) → Prop
  | o :: r, s :: t => (∀ (us : Nat → Value) (w : World), St w → (∀ e ∈ o.after, Region.binds .any e = true → depHolds l sp us w e.on) →
      if Region.wanted o (yielded l.toArray (A us).tmps) then leaves P o (A us) w (RsR St s w) else s.holds undef w) ∧ rsAll P l A sp St r t
  | _, _ => True

theorem rg_of_rs {P : Program} {l : List Oper} {A : (Nat → Value) → Act} {Keep : World → World → Prop} {sp : List (Sp Keep)} {St : World → Prop} : ∀ (r : List Oper) (t : List (Sp Keep)) (k : Nat), r.length = t.length → (∀ j, r[j]? = some r[j]! → l[k + j]? = r[j]?) → (∀ j, j < r.length → l[k + j]? = r[j]?) → (∀ j, j < t.length → sp[k + j]? = t[j]?) → rsAll P l A sp St r t →
    rgAll P l.toArray A (fun i us w => depHolds l sp us w i) St Keep k r
  | [], [], _, _, _, _, _, _ => trivial
  | o :: r, s :: t, k, hlen, hx, hl, hs, h => by
    refine ⟨fun us w hst hd => ?_, rg_of_rs r t (k + 1) (by simpa using hlen) (fun j _ => ?_) (fun j hj => ?_) (fun j hj => ?_) h.2⟩
    · have h1 := h.1 us w hst hd
      have e1 : l[k]? = some o := by simpa using hl 0 (by simp)
      have e2 : sp[k]? = some s := by simpa using hs 0 (by simp)
      have dep : ∀ v w', s.holds v w' → depHolds l sp (upd us o.dst v) w' k := fun v w' hv => by
        unfold depHolds
        simp only [e1, e2]
        cases hd : o.dst with
        | none => trivial
        | some d => simpa [upd] using hv
      by_cases hw : Region.wanted o (yielded l.toArray (A us).tmps) = true
      · rw [if_pos hw] at h1 ⊢
        unfold leaves at *
        generalize (execOp (A us).eval o).run P w = q at *
        cases q with
        | ok n w' =>
          cases n <;> simp only [leavesUpon] at h1 ⊢
          case value v => exact ⟨h1.1, h1.2.1, dep _ _ h1.2.2⟩
          case skip => exact ⟨h1.1, h1.2.1, dep _ _ h1.2.2⟩
          case enter f args => exact h1.mono fun e w'' ⟨v, he, hr⟩ => ⟨v, he, hr.1, hr.2.1, dep _ _ hr.2.2⟩
        | halt x w' => simp only [leavesUpon] at h1
      · rw [if_neg hw] at h1 ⊢
        exact dep _ _ h1
    · have := hl (j + 1)
      by_cases hj : j < r.length
      · have := this (by simpa using hj)
        simpa [Nat.add_assoc, Nat.add_comm 1 j] using this
      · rename_i hh
        rw [List.getElem?_eq_none (by omega)] at hh; cases hh
    · have := hl (j + 1) (by simpa using hj)
      simpa [Nat.add_assoc, Nat.add_comm 1 j] using this
    · have := hs (j + 1) (by simpa using hj)
      simpa [Nat.add_assoc, Nat.add_comm 1 j] using this

/-- **A REGION THAT DRAWS ITS ORDER: what is said of each operation of its head (the first |sp|), whatever the order; then the tail.** -/
theorem wp_region_rs {P : Program} {id : Nat} {l : List Oper} {Q : Exit → Act → World → Prop} {a0 : Act} {w0 : World} (ds : List Nat) (A : (Nat → Value) → Act) {Keep : World → World → Prop} (sp : List (Sp Keep)) (St : World → Prop)
    (hmix : P.follows .mixedOrders = true) (hB : rgOk l.toArray sp.length ds (supOf l) = true) (hm : sp.length ≤ l.length) (hA : ∀ us, over a0 ds us = A us) (h0 : St w0.drew) (hrefl : ∀ w, Keep w w)
    (hall : rsAll P l A sp St (l.take sp.length) sp)
    (hend : ∀ us w, St w → (∀ j, j < sp.length → depHolds l sp us w j) → wpList P l.toArray Q (l.drop sp.length) (A us) w) : (Code.region id l.toArray true).wp P Q a0 w0 := by
  refine wp_region_rg sp.length ds (supOf l) A (fun i us w => depHolds l sp us w i) St Keep hmix hB hm hA h0 hrefl (fun j us w w' _ hk h => depHolds_kept hk h) (fun j us us' w _ he h => depHolds_sup he h) ?_ hend
  refine rg_of_rs _ _ 0 (by rw [List.length_take]; omega) (fun j hj => ?_) (fun j hj => ?_) (fun j _ => by simp) hall
  · have : j < (l.take sp.length).length := by
      apply Classical.byContradiction
      intro h
      rw [List.getElem?_eq_none (by omega)] at hj; cases hj
    rw [List.length_take] at this
    rw [Nat.zero_add, List.getElem?_take, if_pos (by omega)]
  · rw [List.length_take] at hj
    rw [Nat.zero_add, List.getElem?_take, if_pos (by omega)]

end Go.Proofs.Ythnjfdhijpfekaa
namespace Go.Proofs.Ythnjfdhijpfekaa
open Go.RowKit

/-- worlds in which block b alone has turned -/
def KeepB (b : Nat) (w w' : World) : Prop := w.grownBy w' (some b)

def NumB (lo hi : Int) (v : Value) : Prop := ∃ r : Int, v = .int .i64 r ∧ lo ≤ r ∧ r ≤ hi
def StrB (n : Nat) (v : Value) : Prop := ∃ s : ByteArray, v = .string s ∧ s.size ≤ n
/-- a table of n values in memory of the call's own, each as p says -/
def TabP (b n : Nat) (p : Value → Prop) (v : Value) (w : World) : Prop := ∃ g, v = .slice (some ⟨g, 0, none⟩) n n ∧ b < g ∧ ∀ i, i < n → ∃ u, w.cell? ⟨g, i, none⟩ = some u ∧ p u
def AtP (b : Nat) (p : Value → Prop) (v : Value) (w : World) : Prop := ∃ g i u, v = .pointer (some ⟨g, i, none⟩) ∧ b < g ∧ w.cell? ⟨g, i, none⟩ = some u ∧ p u
/-- a new block that is known -/
def NewP (b base : Nat) (o : Obj) (v : Value) (w : World) : Prop := ∃ g, v = .pointer (some ⟨g, 0, none⟩) ∧ (b < g ∧ base ≤ g) ∧ w.heap[g]? = some o

theorem kept_cell {w w' : World} {b g i : Nat} {u : Value} (hg : w.grownBy w' (some b)) (hlt : b < g) (hc : w.cell? ⟨g, i, none⟩ = some u) : w'.cell? ⟨g, i, none⟩ = some u :=
  hg.cell hc (by simp; omega)

def spV (b : Nat) (p : Value → Prop) : Sp (KeepB b) := ⟨fun v _ => p v, fun _ _ _ _ h => h⟩
def spEq (b : Nat) (x : Value) : Sp (KeepB b) := spV b (fun v => v = x)
def spTab (b n : Nat) (p : Value → Prop) : Sp (KeepB b) := ⟨TabP b n p, fun _ _ _ hg h => by
  obtain ⟨g, hv, hlt, hc⟩ := h
  exact ⟨g, hv, hlt, fun i hi => by obtain ⟨u, h1, h2⟩ := hc i hi; exact ⟨u, kept_cell hg hlt h1, h2⟩⟩⟩
def spAt (b : Nat) (p : Value → Prop) : Sp (KeepB b) := ⟨AtP b p, fun _ _ _ hg h => by
  obtain ⟨g, i, u, hv, hlt, hc, hs⟩ := h
  exact ⟨g, i, u, hv, hlt, kept_cell hg hlt hc, hs⟩⟩
def spNew (b base : Nat) (o : Obj) : Sp (KeepB b) := ⟨NewP b base o, fun _ _ _ hg h => by
  obtain ⟨g, hv, hlt, hc⟩ := h
  refine ⟨g, hv, hlt, ?_⟩
  rw [hg.block g (Array.getElem?_eq_some_iff.1 hc).1 (by simp; omega)]
  exact hc⟩

def BatV (v : Value) : Prop := ∃ (p : ByteArray) (x1 x2 x3 x4 : Int), v = .agg #[.string p, .int .i64 x1, .int .i64 x2, .int .i64 x3, .int .i64 x4] ∧ p.size ≤ 13 ∧ (0 ≤ x1 ∧ x1 ≤ 999999999) ∧ (0 ≤ x2 ∧ x2 ≤ 999999999) ∧ (0 ≤ x3 ∧ x3 ≤ 999999999) ∧ (0 ≤ x4 ∧ x4 ≤ 999999999)

/-- the state of a draw that goes on: the source stands, all else is as it was -/
def StB (b : Nat) (w0 w : World) : Prop := Src w b ∧ w0.grownBy w (some b)

/-- a number is drawn, behind a region's operation -/
theorem next_rs {b : Nat} {w0 w : World} {n : Int} {lo hi : Int} (hst : StB b w0 w) (hn : 2 ≤ n) (hn2 : n ≤ 1152921504606846976) (h0 : lo ≤ 0) (h1 : n - 1 ≤ hi) :
    Calls Try.prog 58 #[.pointer (some ⟨b, 0, none⟩), .int .i64 n] w fun e w'' => ∃ v, e = .returned v ∧ RsR (StB b w0) (spV b (NumB lo hi)) w v w'' :=
  (l01Next_any b n w hst.1 (by omega) hn2).mono fun e w' ⟨r, he, r0, r1, hs, hg⟩ => ⟨_, he, ⟨hs, grownBy_trans hst.2 hg⟩, hg, r, rfl, by omega, by omega⟩

theorem rs_same {b : Nat} {w0 w : World} {s : Sp (KeepB b)} {v : Value} (hst : StB b w0 w) (h : s.holds v w) : RsR (StB b w0) s w v w := ⟨hst, World.grownBy.refl _ _, h⟩
theorem stB_alloc {b : Nat} {w0 w : World} (hst : StB b w0 w) (o : Obj) : StB b w0 (w.alloc o) :=
  ⟨hst.1.kept (World.grownBy_alloc w o none) (by simp), grownBy_trans hst.2 (World.grownBy_alloc _ _ _)⟩
theorem rs_tab {b n : Nat} {w0 w : World} {p : Value → Prop} {C : Array Value} {t : TypeId} (hst : StB b w0 w) (hn : ∀ i, i < n → ∃ u, C[i]? = some u ∧ p u) :
    RsR (StB b w0) (spTab b n p) w (.slice (some ⟨w.heap.size, 0, none⟩) n n) (w.alloc (.cells C t (0, 0))) :=
  ⟨stB_alloc hst _, World.grownBy_alloc _ _ _, _, rfl, hst.1.lt, fun i hi => by
    obtain ⟨u, h1, h2⟩ := hn i hi
    exact ⟨u, by rw [box1 (Below.refl _ _)]; exact h1, h2⟩⟩
theorem rs_new {b base : Nat} {w0 w : World} {o : Obj} (hst : StB b w0 w) (h0 : base ≤ w0.heap.size) :
    RsR (StB b w0) (spNew b base o) w (.pointer (some ⟨w.heap.size, 0, none⟩)) (w.alloc o) :=
  ⟨stB_alloc hst _, World.grownBy_alloc _ _ _, _, rfl, ⟨hst.1.lt, Nat.le_trans h0 hst.2.size⟩, Array.getElem?_push_size⟩
theorem fourT {p : Value → Prop} {a b c d : Value} (ha : p a) (hb : p b) (hc : p c) (hd : p d) : ∀ i, i < 4 → ∃ u, (#[a, b, c, d] : Array Value)[i]? = some u ∧ p u
  | 0, _ => ⟨_, rfl, ha⟩
  | 1, _ => ⟨_, rfl, hb⟩
  | 2, _ => ⟨_, rfl, hc⟩
  | 3, _ => ⟨_, rfl, hd⟩
theorem threeT {p : Value → Prop} {a b c : Value} (ha : p a) (hb : p b) (hc : p c) : ∀ i, i < 3 → ∃ u, (#[a, b, c] : Array Value)[i]? = some u ∧ p u
  | 0, _ => ⟨_, rfl, ha⟩
  | 1, _ => ⟨_, rfl, hb⟩
  | 2, _ => ⟨_, rfl, hc⟩
theorem strB {n : Nat} (s : ByteArray) (h : s.size ≤ n) : StrB n (.string s) := ⟨s, rfl, h⟩
theorem numB {lo hi : Int} (r : Int) (h : lo ≤ r) (h' : r ≤ hi) : NumB lo hi (.int .i64 r) := ⟨r, rfl, h, h'⟩

def RetBat (w : World) (b : Nat) (e : Ending) (w' : World) : Prop :=
  ∃ (p : ByteArray) (x1 x2 x3 x4 : Int), e = .returned (.agg #[.string p, .int .i64 x1, .int .i64 x2, .int .i64 x3, .int .i64 x4]) ∧ p.size ≤ 13 ∧ (0 ≤ x1 ∧ x1 ≤ 999999999) ∧ (0 ≤ x2 ∧ x2 ≤ 999999999) ∧ (0 ≤ x3 ∧ x3 ≤ 999999999) ∧ (0 ≤ x4 ∧ x4 ≤ 999999999) ∧ Src w' b ∧ w.grownBy w' (some b)

theorem heap_cell {w : World} {g : Nat} {C : Array Value} {t : TypeId} (h : w.heap[g]? = some (.cells C t (0, 0))) : ∀ i, w.cell? ⟨g, i, none⟩ = C[i]? := fun i => by simp [World.cell?, h]
theorem heap_frozen {w : World} {g : Nat} {C : Array Value} {t : TypeId} (h : w.heap[g]? = some (.cells C t (0, 0))) : ∀ i, w.frozen? ⟨g, i, none⟩ = false := fun i => by simp [World.frozen?, h]
theorem stB_set {b g i : Nat} {w0 w : World} {v : Value} (hst : StB b w0 w) (hbg : b < g) (hwg : w0.heap.size ≤ g) : StB b w0 (w.setCell ⟨g, i, none⟩ v) :=
  ⟨hst.1.kept (grownBy_set w g i v) (fun k e => by have := Option.some.inj e; omega), hst.2.andThen (grownBy_set w g i v) (fun j e => by have := Option.some.inj e; omega)⟩
theorem set5 {b g : Nat} {w0 w : World} {o0 o1 o2 o3 o4 v0 v1 v2 v3 v4 : Value} {t : TypeId} (hst : StB b w0 w) (hbg : b < g) (hwg : w0.heap.size ≤ g) (hg : w.heap[g]? = some (.cells #[o0, o1, o2, o3, o4] t (0, 0))) :
    let W := ((((w.setCell ⟨g, 0, none⟩ v0).setCell ⟨g, 1, none⟩ v1).setCell ⟨g, 2, none⟩ v2).setCell ⟨g, 3, none⟩ v3).setCell ⟨g, 4, none⟩ v4
    StB b w0 W ∧ W.heap[g]? = some (.cells #[v0, v1, v2, v3, v4] t (0, 0)) :=
  ⟨stB_set (stB_set (stB_set (stB_set (stB_set hst hbg hwg) hbg hwg) hbg hwg) hbg hwg) hbg hwg, src_set (src_set (src_set (src_set (src_set hg 0 v0) 1 v1) 2 v2) 3 v3) 4 v4⟩

theorem stB_trans {b : Nat} {w0 w w' : World} (hst : StB b w0 w) (hs : Src w' b) (hg : w.grownBy w' (some b)) : StB b w0 w' := ⟨hs, grownBy_trans hst.2 hg⟩
/-- the end: the batch is read and lies in the result's box -/
theorem retBat_of {w W : World} {b : Nat} {v0 v1 v2 v3 v4 : Value} {o : Obj} {w0 : World} (hlt : b < w.heap.size) (hw : w.alloc o = w0) (hst : StB b w0 W) {p : ByteArray} {x1 x2 x3 x4 : Int} (hb : p.size ≤ 13 ∧ (0 ≤ x1 ∧ x1 ≤ 999999999) ∧ (0 ≤ x2 ∧ x2 ≤ 999999999) ∧ (0 ≤ x3 ∧ x3 ≤ 999999999) ∧ (0 ≤ x4 ∧ x4 ≤ 999999999)) :
    RetBat w b (.returned (.agg #[.string p, .int .i64 x1, .int .i64 x2, .int .i64 x3, .int .i64 x4])) (((((W.setCell ⟨w.heap.size, 0, none⟩ v0).setCell ⟨w.heap.size, 1, none⟩ v1).setCell ⟨w.heap.size, 2, none⟩ v2).setCell ⟨w.heap.size, 3, none⟩ v3).setCell ⟨w.heap.size, 4, none⟩ v4) := by
  subst hw
  have h0 : StB b w W := ⟨hst.1, grownBy_trans (World.grownBy_alloc _ _ _) hst.2⟩
  have h5 := stB_set (v := v4) (i := 4) (stB_set (v := v3) (i := 3) (stB_set (v := v2) (i := 2) (stB_set (v := v1) (i := 1) (stB_set (v := v0) (i := 0) h0 hlt (Nat.le_refl _)) hlt (Nat.le_refl _)) hlt (Nat.le_refl _)) hlt (Nat.le_refl _)) hlt (Nat.le_refl _)
  exact ⟨p, x1, x2, x3, x4, rfl, hb.1, hb.2.1, hb.2.2.1, hb.2.2.2.1, hb.2.2.2.2, h5.1, h5.2⟩

theorem tab_kept {b n : Nat} {p : Value → Prop} {W1 W2 : World} {C : Array Value} {t : TypeId} {r : Int} (hlt : b < W1.heap.size) (hg : (W1.alloc (.cells C t (0, 0))).grownBy W2 (some b)) (hn : ∀ i, i < n → ∃ u, C[i]? = some u ∧ p u) (h0 : 0 ≤ r) (h1 : r < n) :
    ∃ u, W2.cell? ⟨W1.heap.size, r.toNat, none⟩ = some u ∧ p u := by
  obtain ⟨u, c1, c2⟩ := hn r.toNat (by omega)
  exact ⟨u, kept_cell hg hlt (by rw [box1 (Below.refl _ _)]; exact c1), c2⟩

end Go.Proofs.Ythnjfdhijpfekaa
namespace Go.Proofs.Ythnjfdhijpfekaa
open Go.RowKit

/-- the first n marks from k on -/
def marks (k : Int) (n : Nat) : List Int := (List.range n).map fun (i : Nat) => k + (i : Int)
theorem marks_len (k : Int) (n : Nat) : (marks k n).length = n := by simp [marks]
theorem marks_at {k : Int} {n i : Nat} (h : i < n) : (marks k n)[i]? = some (k + i) := by simp [marks, h]

/-- what 'held' answers: the next mark, or -1 -/
def heldOf (m : Int) (xs : List Int) : Int := if xs = marks m xs.length then m + xs.length else -1

set_option maxHeartbeats 400000 in
theorem heldInt64S_any (a : Option Addr) (xs : List Int) (c : Nat) (m : Int) (w : World) (hx : IntsAt w a xs)
    (lx : xs.length ≤ 1099511627776) (hm0 : 0 ≤ m) (hm : m ≤ 1099511627776) :
    Calls Try.prog 42 #[.slice a xs.length c, .int .i64 m] w fun e w' => e = .returned (.int .i64 (heldOf m xs)) ∧ w = w' := by
  go_enter Try.func42, Try.ntmps42
  go_wp2
  go_loop [1, 5] (fun q i => ∃ k : Nat, k ≤ xs.length ∧ i = .int .i64 k ∧ q = .int .i64 (m + k) ∧ xs.take k = marks m k) (fun _ i => xs.length - (intOf i).toNat)
  case atStart => exact ⟨0, Nat.zero_le _, rfl, by simp, rfl⟩
  case round =>
    obtain ⟨k, hk, rfl, rfl, ht⟩ := hrel
    have HT := Lib.hid ht
    clear ht
    by_cases hlt : k < xs.length
    · obtain ⟨b1, o1, x, rfl, hxk, hb1, hc1⟩ := hx.at hlt
      have HX := Lib.hid hxk
      clear hxk hx
      by_cases hxy : x = m + k
      · have hxy' : (x != m + k) = false := by simp [hxy]
        have HE := Lib.hid hxy
        clear hxy
        go_wp2
        go_round
        case rel => exact ⟨k + 1, by omega, by go_num, by go_num, by rw [take_snoc' HX.out, HT.out, HE.out]; simp [marks, List.range_succ]⟩
        case measure => simp [intOf]; omega
      · have hxy' : (x != m + k) = true := by simp [hxy]
        have HE := Lib.hid hxy
        clear hxy
        go_wp2
        go_ret
        refine ⟨ret_int ?_, rfl⟩
        rw [heldOf, if_neg]
        intro e
        have h1 := HX.out
        rw [e, marks_at hlt] at h1
        exact HE.out (Option.some.inj h1).symm
    · clear hx
      go_wp2
      go_ret
      have e : xs = marks m xs.length := by
        have := HT.out
        rw [List.take_of_length_le (by omega)] at this
        have hk' : k = xs.length := by omega
        subst hk'
        exact this
      exact ⟨ret_int (by rw [heldOf, if_pos e]; omega), rfl⟩

end Go.Proofs.Ythnjfdhijpfekaa
namespace Go.Proofs.Ythnjfdhijpfekaa
open Go.RowKit

theorem OwnI.other {w w' : World} {base : Nat} {v : Value} {zs : List Int} {row : Option Nat} (h : OwnI w base v zs) (hg : w.grownBy w' row) (hne : ∀ k, v.ownBlock = some k → row ≠ some k) : OwnI w' base v zs :=
  h.kept hg (by
    cases hv : v.ownBlock with
    | none => exact Or.inl rfl
    | some k => exact Or.inr (fun e => hne k hv e.symm))
theorem OwnI.lo {w : World} {base : Nat} {v : Value} {zs : List Int} (h : OwnI w base v zs) : ∀ k, v.ownBlock = some k → base ≤ k := fun k hk => (World.ownsRow.lt h k hk).1
theorem OwnI.hi {w : World} {base : Nat} {v : Value} {zs : List Int} (h : OwnI w base v zs) : ∀ k, v.ownBlock = some k → k < w.heap.size := fun k hk => (World.ownsRow.lt h k hk).2
theorem OwnI.ints {w : World} {base : Nat} {a : Option Addr} {n c : Nat} {zs : List Int} (h : OwnI w base (.slice a n c) zs) : IntsAt w a zs := by
  obtain ⟨a', c', e, hx⟩ := h.read
  obtain ⟨rfl, _, _⟩ := Value.slice.inj e
  exact hx
/-- how a slice of numbers is written -/
def Slc (a : Option Addr) (xs : List Int) : Prop := (∀ ad, a = some ad → ad.spot = none) ∧ (a = none → xs = [])
theorem OwnI.slc {w : World} {base : Nat} {a : Option Addr} {n c : Nat} {xs : List Int} (h : OwnI w base (.slice a n c) xs) : Slc a xs := by
  rcases h.2 with ⟨h1, h0⟩ | ⟨g, cap, cur, h1, _⟩
  · obtain ⟨rfl, _, _⟩ := Value.slice.inj h1
    exact ⟨fun ad e => (by cases e), fun _ => List.eq_nil_of_length_eq_zero (by simpa using h0)⟩
  · obtain ⟨rfl, _, _⟩ := Value.slice.inj h1
    exact ⟨fun ad e => (by cases e; rfl), fun e => (by cases e)⟩

theorem boxG {w w1 : World} {b : Nat} {cs : Array Value} {row : Option Nat} (hg : w.grownBy w1 row) (h : ∀ i, w.cell? ⟨b, i, none⟩ = cs[i]?) (hne : row ≠ some b) (h0 : 0 < cs.size) : ∀ i, w1.cell? ⟨b, i, none⟩ = cs[i]? := fun i => by
  have h1 : b < w.heap.size := boxLt h h0
  rw [World.cell?_of_block (w := w) (a := ⟨b, i, none⟩) (hg.block b h1 (fun e => hne e.symm))]
  exact h i
/-- two rows whose blocks lie on two sides of a number are two -/
theorem apartB {v : Value} {u : Value} {T : Nat} (h1 : ∀ k, v.ownBlock = some k → k < T) (h2 : ∀ k, u.ownBlock = some k → T ≤ k) : ∀ k, v.ownBlock = some k → u.ownBlock ≠ some k := fun k hk e => by
  have a := h1 k hk
  have b := h2 k e
  omega
theorem apartB' {v : Value} {u : Value} {T : Nat} (h1 : ∀ k, v.ownBlock = some k → k < T) (h2 : ∀ k, u.ownBlock = some k → T ≤ k) : ∀ k, u.ownBlock = some k → v.ownBlock ≠ some k := fun k hk e => by
  have a := h1 k e
  have b := h2 k hk
  omega
theorem below_row {B : Nat} {w w' : World} {v : Value} (h : w.grownBy w' v.ownBlock) (hB : B ≤ w.heap.size) (hr : ∀ k, v.ownBlock = some k → B ≤ k) : Below B w w' := below_of_grownBy h hB hr

theorem heldOf_marks (m : Int) (n : Nat) : heldOf m (marks m n) = m + n := by rw [heldOf, if_pos (by rw [marks_len]), marks_len]

theorem heldInt64S_marks {a : Option Addr} {n c : Nat} {m : Int} {w : World} (hx : IntsAt w a (marks m n)) (ln : n ≤ 1099511627776) (hm0 : 0 ≤ m) (hm : m ≤ 1099511627776) :
    Calls Try.prog 42 #[.slice a n c, .int .i64 m] w fun e w' => e = .returned (.int .i64 (m + n)) ∧ w = w' := by
  have := heldInt64S_any a (marks m n) c m w hx (by rw [marks_len]; exact ln) hm0 hm
  rw [marks_len, heldOf_marks] at this
  exact this

end Go.Proofs.Ythnjfdhijpfekaa
namespace Go.Proofs.Ythnjfdhijpfekaa
open Go.RowKit

/-- a drawn session: a batch as l31Draw leaves it, a row of the call's own -/
def RetDrawn (w : World) (b : Nat) (e : Ending) (w' : World) : Prop :=
  ∃ (p : ByteArray) (x1 x2 x3 x4 : Int) (zs : List Int) (a : Option Addr) (c : Nat), e = .returned (.agg #[.string p, .int .i64 x1, .int .i64 x2, .int .i64 x3, .int .i64 x4, .slice a zs.length c]) ∧ p.size ≤ 13 ∧ (0 ≤ x1 ∧ x1 ≤ 999999999) ∧ (0 ≤ x2 ∧ x2 ≤ 999999999) ∧ (0 ≤ x3 ∧ x3 ≤ 999999999) ∧ (0 ≤ x4 ∧ x4 ≤ 999999999) ∧
    zs.length ≤ 300 ∧ (∀ z ∈ zs, -1 ≤ z ∧ z ≤ 5) ∧ IntsAt w' a zs ∧ Slc a zs ∧ (∀ ad, a = some ad → w.heap.size < ad.block) ∧ Src w' b ∧ w.grownBy w' (some b)

/-- the rows drawn so far -/
def Drawn (w0 : World) (b base : Nat) (lo hi : Int) (n : Nat) (v : Value) (wr : World) : Prop :=
  ∃ zs : List Int, zs.length = n ∧ (∀ z ∈ zs, lo ≤ z ∧ z ≤ hi) ∧ OwnI wr base v zs ∧ StB b w0 wr

theorem own_apart {w : World} {base b : Nat} {v : Value} {zs : List Int} (h : OwnI w base v zs) (hb : b < base) : v.ownBlock ≠ some b := by
  rcases h.2 with ⟨rfl, _⟩ | ⟨g, cap, cur, rfl, hg, _⟩
  · simp [Value.ownBlock]
  · simp [Value.ownBlock]; omega

theorem own_src {w w' : World} {base b : Nat} {v : Value} {zs : List Int} (h : OwnI w base v zs) (hb : b < base) (hg : w.grownBy w' (some b)) : OwnI w' base v zs :=
  h.kept (row := some b) hg (by have := own_apart h hb; cases hv : v.ownBlock <;> simp_all)

theorem own_at {w : World} {base : Nat} {v : Value} {zs : List Int} (h : OwnI w base v zs) : ∀ g, v.ownBlock = some g → base ≤ g := by
  rcases h.2 with ⟨rfl, _⟩ | ⟨g, cap, cur, rfl, hg, _⟩
  · simp [Value.ownBlock]
  · intro k e; simp [Value.ownBlock] at e; omega
theorem stB_own {b base : Nat} {w0 w wo w' : World} {v : Value} {zs : List Int} (hst : StB b w0 w) (ho : OwnI wo base v zs) (hg : w.grownBy w' v.ownBlock) (hb : b < base) (h0 : w0.heap.size ≤ base) : StB b w0 w' :=
  ⟨hst.1.kept hg (fun k e => by have := own_at ho k e; omega), hst.2.andThen hg (fun j e => Or.inl (by have := own_at ho j e; omega))⟩
theorem drawn_more {w0 w wo w' : World} {b base : Nat} {lo hi : Int} {v v0 : Value} {zs : List Int} {z : Int} (ho0 : OwnI wo base v0 zs) (hz : ∀ z ∈ zs, lo ≤ z ∧ z ≤ hi) (hl : lo ≤ z) (hh : z ≤ hi) (ho : w'.ownsRow base 2 1 v (zs.length + 1) (zs.map (Value.int .i64) ++ [.int .i64 z])) (hst : StB b w0 w) (hg : w.grownBy w' v0.ownBlock) (hb : b < base) (h0 : w0.heap.size ≤ base) :
    Drawn w0 b base lo hi (zs.length + 1) v w' := by
  have h1 : OwnI w' base v (zs ++ [z]) := by
    unfold OwnI
    rw [List.map_append, List.length_append]
    exact ho
  refine ⟨zs ++ [z], by simp, fun y hy => ?_, h1, stB_own hst ho0 hg hb h0⟩
  rcases List.mem_append.1 hy with hy | hy
  · exact hz y hy
  · simp at hy; subst hy; exact ⟨hl, hh⟩
theorem twoT {p : Value → Prop} {a b : Value} (ha : p a) (hb : p b) : ∀ i, i < 2 → ∃ u, (#[a, b] : Array Value)[i]? = some u ∧ p u
  | 0, _ => ⟨_, rfl, ha⟩
  | 1, _ => ⟨_, rfl, hb⟩
theorem sevenT {p : Value → Prop} {a b c d e f g : Value} (ha : p a) (hb : p b) (hc : p c) (hd : p d) (he : p e) (hf : p f) (hg : p g) : ∀ i, i < 7 → ∃ u, (#[a, b, c, d, e, f, g] : Array Value)[i]? = some u ∧ p u
  | 0, _ => ⟨_, rfl, ha⟩
  | 1, _ => ⟨_, rfl, hb⟩
  | 2, _ => ⟨_, rfl, hc⟩
  | 3, _ => ⟨_, rfl, hd⟩
  | 4, _ => ⟨_, rfl, he⟩
  | 5, _ => ⟨_, rfl, hf⟩
  | 6, _ => ⟨_, rfl, hg⟩

theorem intsAt_other {W : World} {a : Option Addr} {zs : List Int} (h : IntsAt W a zs) {R j : Nat} {v : Value} (hne : ∀ ad, a = some ad → ad.block ≠ R) : IntsAt (W.setCell ⟨R, j, none⟩ v) a zs := by
  intro i hi
  obtain ⟨g, o, ha, hc⟩ := h i hi
  refine ⟨g, o, ha, ?_⟩
  rw [← hc]
  exact World.cell?_of_block (a := ⟨g, o + i, none⟩) (heap_setCell_other W ⟨R, j, none⟩ g v (by have := hne _ ha; exact this))

/-- the end: the session lies in the result's box -/
theorem retDrawn_of {w W : World} {b : Nat} {v0 v1 v2 v3 v4 v5 : Value} {o : Obj} {w0 : World} (hlt : b < w.heap.size) (hw : (w.alloc o).grownBy w0 (some b)) (hst : StB b w0 W) {p : ByteArray} {x1 x2 x3 x4 : Int} (hb : p.size ≤ 13 ∧ (0 ≤ x1 ∧ x1 ≤ 999999999) ∧ (0 ≤ x2 ∧ x2 ≤ 999999999) ∧ (0 ≤ x3 ∧ x3 ≤ 999999999) ∧ (0 ≤ x4 ∧ x4 ≤ 999999999))
    {zs : List Int} {a : Option Addr} {c : Nat} (hl : zs.length ≤ 300) (hz : ∀ z ∈ zs, -1 ≤ z ∧ z ≤ 5) (hi : IntsAt W a zs) (hsl : Slc a zs) (hgt : ∀ ad, a = some ad → w.heap.size < ad.block) :
    RetDrawn w b (.returned (.agg #[.string p, .int .i64 x1, .int .i64 x2, .int .i64 x3, .int .i64 x4, .slice a zs.length c])) ((((((W.setCell ⟨w.heap.size, 0, none⟩ v0).setCell ⟨w.heap.size, 1, none⟩ v1).setCell ⟨w.heap.size, 2, none⟩ v2).setCell ⟨w.heap.size, 3, none⟩ v3).setCell ⟨w.heap.size, 4, none⟩ v4).setCell ⟨w.heap.size, 5, none⟩ v5) := by
  have hne : ∀ ad, a = some ad → ad.block ≠ w.heap.size := fun ad e => Nat.ne_of_gt (hgt ad e)
  have h0 : StB b w W := ⟨hst.1, grownBy_trans (World.grownBy_alloc _ _ _) (grownBy_trans hw hst.2)⟩
  have h5 := stB_set (v := v5) (i := 5) (stB_set (v := v4) (i := 4) (stB_set (v := v3) (i := 3) (stB_set (v := v2) (i := 2) (stB_set (v := v1) (i := 1) (stB_set (v := v0) (i := 0) h0 hlt (Nat.le_refl _)) hlt (Nat.le_refl _)) hlt (Nat.le_refl _)) hlt (Nat.le_refl _)) hlt (Nat.le_refl _)) hlt (Nat.le_refl _)
  exact ⟨p, x1, x2, x3, x4, zs, a, c, rfl, hb.1, hb.2.1, hb.2.2.1, hb.2.2.2.1, hb.2.2.2.2, hl, hz, intsAt_other (intsAt_other (intsAt_other (intsAt_other (intsAt_other (intsAt_other hi hne) hne) hne) hne) hne) hne, hsl, hgt, h5.1, h5.2⟩

theorem own_cap {w : World} {base n c : Nat} {a : Option Addr} {zs : List Int} (h : OwnI w base (.slice a n c) zs) : zs.length ≤ c := by
  rcases h.2 with ⟨h1, h2⟩ | ⟨g, cap, cur, h1, hg, _, h3, _⟩
  · omega
  · simp only [Value.slice.injEq] at h1; omega
/-- the rest behind the first -/
theorem ints_tail {w : World} {g : Nat} {zs : List Int} (h : IntsAt w (some ⟨g, 0, none⟩) zs) : IntsAt w (some ⟨g, 1, none⟩) zs.tail := by
  intro i hi
  obtain ⟨b, o, ha, hc⟩ := h (i + 1) (by simp at hi; omega)
  simp only [Option.some.injEq, Addr.mk.injEq, and_true] at ha
  obtain ⟨rfl, rfl⟩ := ha
  refine ⟨g, 1, rfl, ?_⟩
  rw [List.getElem_tail, ← hc, show (1 + i) = 0 + (i + 1) by omega]

end Go.Proofs.Ythnjfdhijpfekaa
namespace Go.Proofs.Ythnjfdhijpfekaa
open Go.RowKit

/-- the blocks from lo on and below hi are as they were -/
structure Same (lo hi : Nat) (w w' : World) : Prop where
  os : w'.os = w.os
  tape : w'.tape = w.tape
  output : w'.output = w.output
  size : w.heap.size ≤ w'.heap.size
  block : ∀ k, lo ≤ k → k < hi → w'.heap[k]? = w.heap[k]?

theorem Same.of_below {lo hi : Nat} {w w' : World} (hb : Below w.heap.size w w') (h : hi ≤ w.heap.size) : Same lo hi w w' :=
  ⟨hb.os, hb.tape, hb.output, hb.size, fun k _ hk => hb.block k (by omega)⟩
theorem Same.of_grown {lo hi : Nat} {w w' : World} {row : Option Nat} (hg : w.grownBy w' row) (h : hi ≤ w.heap.size) (hr : ∀ k, row = some k → k < lo ∨ hi ≤ k) : Same lo hi w w' :=
  ⟨hg.os, hg.tape, hg.output, hg.size, fun k h1 hk => hg.block k (by omega) (fun e => by have := hr k e.symm; omega)⟩

/-- what is known of some blocks: a box, a slice of its own, numbers that a slice holds, all that lay below -/
inductive Fact where
  | box (b : Nat) (cs : Array Value) (t : TypeId)
  | own (lo hi : Nat) (v : Value) (zs : List Int)
  | below (w0 : World)
def Fact.lo : Fact → Nat
  | .box b _ _ => b
  | .own lo _ _ _ => lo
  | .below _ => 0
def Fact.hi : Fact → Nat
  | .box b _ _ => b + 1
  | .own _ hi _ _ => hi
  | .below w0 => w0.heap.size
def Fact.P : Fact → World → Prop
  | .box b cs t, w => w.heap[b]? = some (.cells cs t (0, 0))
  | .own lo hi v zs, w => OwnI w lo v zs ∧ (∀ k, v.ownBlock = some k → k < hi)
  | .below w0, w => Below w0.heap.size w0 w
theorem Fact.keep (F : Fact) (w w' : World) (hs : Same F.lo F.hi w w') (h : F.P w) : F.P w' := by
  cases F with
  | box b cs t => exact (hs.block b (Nat.le_refl _) (Nat.lt_succ_self _)).trans h
  | own lo hi v zs =>
    obtain ⟨ho, hh⟩ : OwnI w lo v zs ∧ (∀ k, v.ownBlock = some k → k < hi) := h
    refine ⟨⟨ho.1, ?_⟩, hh⟩
    rcases ho.2 with h2 | ⟨g, cap, cur, h1, hb, hg, r⟩
    · exact Or.inl h2
    · refine Or.inr ⟨g, cap, cur, h1, hb, ?_, r⟩
      rw [hs.block g hb (hh g (by rw [h1]; rfl))]
      exact hg
  | below w0 =>
    have h : Below w0.heap.size w0 w := h
    exact (⟨hs.os.trans h.os, hs.tape.trans h.tape, hs.output.trans h.output, Nat.le_trans h.size hs.size, fun k hk => (hs.block k (Nat.zero_le _) hk).trans (h.block k hk)⟩ : Below w0.heap.size w0 w')

/-- what is known, each of other blocks -/
def Facts (L : List Fact) (w : World) : Prop := (∀ F ∈ L, F.P w ∧ F.lo ≤ F.hi ∧ F.hi ≤ w.heap.size) ∧ L.Pairwise (fun F G => G.hi ≤ F.lo ∨ F.hi ≤ G.lo)

theorem Facts.nil (w : World) : Facts [] w := ⟨by simp, List.Pairwise.nil⟩
theorem Facts.get {L : List Fact} {w : World} (h : Facts L w) (i : Nat) {F : Fact} (hF : L[i]? = some F) : F.P w := (h.1 F (List.mem_of_getElem? hF)).1
theorem Facts.top {L : List Fact} {w : World} (h : Facts L w) (i : Nat) {F : Fact} (hF : L[i]? = some F) : F.hi ≤ w.heap.size := (h.1 F (List.mem_of_getElem? hF)).2.2
theorem Facts.ord {L : List Fact} {w : World} (h : Facts L w) {i j : Nat} {F G : Fact} (hF : L[i]? = some F) (hG : L[j]? = some G) (hij : i < j) : G.hi ≤ F.lo ∨ F.hi ≤ G.lo := by
  obtain ⟨hi, rfl⟩ := List.getElem?_eq_some_iff.1 hF
  obtain ⟨hj, rfl⟩ := List.getElem?_eq_some_iff.1 hG
  exact List.pairwise_iff_getElem.1 h.2 i j hi hj hij
theorem Facts.below {L : List Fact} {w w' : World} (h : Facts L w) (hb : Below w.heap.size w w') : Facts L w' :=
  ⟨fun F hF => let ⟨a, b, c⟩ := h.1 F hF; ⟨F.keep w w' (Same.of_below hb c) a, b, Nat.le_trans c hb.size⟩, h.2⟩
theorem Facts.add {L : List Fact} {w w' : World} (h : Facts L w) (hb : Below w.heap.size w w') (F : Fact) (hlo : w.heap.size ≤ F.lo) (hle : F.lo ≤ F.hi) (hhi : F.hi ≤ w'.heap.size) (hP : F.P w') : Facts (F :: L) w' := by
  have h' := h.below hb
  refine ⟨fun G hG => ?_, List.Pairwise.cons (fun G hG => Or.inl (Nat.le_trans (h.1 G hG).2.2 hlo)) h.2⟩
  rcases List.mem_cons.1 hG with rfl | hG
  · exact ⟨hP, hle, hhi⟩
  · exact h'.1 G hG
/-- one of them is written over -/
theorem Facts.turn {L : List Fact} {w w' : World} (h : Facts L w) (i : Nat) {F : Fact} (hF : L[i]? = some F) {row : Option Nat} (hg : w.grownBy w' row) (hr : ∀ k, row = some k → F.lo ≤ k ∧ k < F.hi) (F' : Fact) (h1 : F'.lo = F.lo) (h2 : F'.hi = F.hi) (hP : F'.P w') : Facts (L.set i F') w' := by
  obtain ⟨hi, he⟩ := List.getElem?_eq_some_iff.1 hF
  have hs := hg.size
  constructor
  · intro G hG
    obtain ⟨j, hj, rfl⟩ := List.mem_iff_getElem.1 hG
    rw [List.length_set] at hj
    rw [List.getElem_set]
    split
    · have := h.1 F (List.mem_of_getElem? hF)
      exact ⟨hP, by omega, by omega⟩
    · rename_i hne
      obtain ⟨a, b, c⟩ := h.1 L[j] (List.getElem_mem hj)
      refine ⟨L[j].keep w w' (Same.of_grown hg c (fun k hk => ?_)) a, b, Nat.le_trans c hs⟩
      obtain ⟨k1, k2⟩ := hr k hk
      have hij : i < j ∨ j < i := by omega
      rcases hij with hij | hij
      · have := h.ord hF (List.getElem?_eq_getElem hj) hij
        omega
      · have := h.ord (List.getElem?_eq_getElem hj) hF hij
        omega
  · rw [List.pairwise_iff_getElem]
    intro a b ha hb hab
    rw [List.length_set] at ha hb
    rw [List.getElem_set, List.getElem_set]
    have h0 := List.pairwise_iff_getElem.1 h.2
    by_cases e1 : i = a
    · subst e1
      rw [if_pos rfl, if_neg (by omega)]
      have := h0 i b hi hb hab
      rw [he] at this
      rw [h1, h2]
      exact this
    · rw [if_neg e1]
      by_cases e2 : i = b
      · subst e2
        rw [if_pos rfl]
        have := h0 a i ha hi hab
        rw [he] at this
        rw [h1, h2]
        exact this
      · rw [if_neg e2]
        exact h0 a b ha hb hab

theorem Facts.drew {L : List Fact} {w : World} (h : Facts L w) : Facts L w.drew :=
  ⟨fun F hF => let ⟨a, b, c⟩ := h.1 F hF; ⟨F.keep w w.drew ⟨rfl, rfl, rfl, Nat.le_refl _, fun _ _ _ => rfl⟩ a, b, c⟩, h.2⟩
theorem Facts.perm {L L' : List Fact} {w : World} (h : Facts L w) (hp : L.Perm L') : Facts L' w :=
  ⟨fun F hF => h.1 F (hp.mem_iff.2 hF), (List.Perm.pairwise_iff (fun hxy => hxy.symm) hp).1 h.2⟩
/-- the second to the front -/
theorem Facts.swap {L : List Fact} {F G : Fact} {w : World} (h : Facts (F :: G :: L) w) : Facts (G :: F :: L) w := h.perm (List.Perm.swap _ _ _)
theorem Facts.bring3 {L : List Fact} {F G H : Fact} {w : World} (h : Facts (F :: G :: H :: L) w) : Facts (H :: F :: G :: L) w := h.perm (((List.Perm.swap _ _ _).cons _).trans (List.Perm.swap _ _ _))
theorem Facts.tail {L : List Fact} {F : Fact} {w : World} (h : Facts (F :: L) w) : Facts L w := ⟨fun G hG => h.1 G (List.mem_cons_of_mem _ hG), (List.pairwise_cons.1 h.2).2⟩
theorem Facts.drop2 {L : List Fact} {F G : Fact} {w : World} (h : Facts (F :: G :: L) w) : Facts (F :: L) w := h.swap.tail

theorem Facts.drop3 {L : List Fact} {F G H : Fact} {w : World} (h : Facts (F :: G :: H :: L) w) : Facts (F :: G :: L) w := h.bring3.tail

theorem boxF_cells {b : Nat} {cs : Array Value} {t : TypeId} {w : World} (h : (Fact.box b cs t).P w) : ∀ i, w.cell? ⟨b, i, none⟩ = cs[i]? := fun i => by
  have h' : w.heap[b]? = some (.cells cs t (0, 0)) := h
  simp [World.cell?, h']
theorem boxF_free {b : Nat} {cs : Array Value} {t : TypeId} {w : World} (h : (Fact.box b cs t).P w) : ∀ i, w.frozen? ⟨b, i, none⟩ = false := fun i => by
  have h' : w.heap[b]? = some (.cells cs t (0, 0)) := h
  simp [World.frozen?, h']
theorem boxF_new (w : World) (cs : Array Value) (t : TypeId) : (Fact.box w.heap.size cs t).P (w.alloc (.cells cs t (0, 0))) := Array.getElem?_push_size
/-- a box is made -/
theorem Facts.box {L : List Fact} {w : World} (h : Facts L w) (cs : Array Value) (t : TypeId) : Facts (Fact.box w.heap.size cs t :: L) (w.alloc (.cells cs t (0, 0))) :=
  h.add (ba1 _ _) _ (Nat.le_refl _) (Nat.le_succ _) (by simp [Fact.hi]) (boxF_new _ _ _)

/-- a box is stored into -/
theorem Facts.store {L : List Fact} {w : World} (h : Facts L w) (i : Nat) {b : Nat} {cs : Array Value} {t : TypeId} (hF : L[i]? = some (Fact.box b cs t)) (j : Nat) (v : Value) : Facts (L.set i (Fact.box b (cs.setIfInBounds j v) t)) (w.setCell ⟨b, j, none⟩ v) := by
  have hp : w.heap[b]? = some (.cells cs t (0, 0)) := h.get i hF
  have hg : w.grownBy (w.setCell ⟨b, j, none⟩ v) (some b) := ⟨rfl, rfl, rfl, by simp, fun k _ hk => heap_setCell_other w ⟨b, j, none⟩ k v (fun e => hk (by simp [e]))⟩
  refine h.turn i hF hg (fun k hk => ?_) (Fact.box b (cs.setIfInBounds j v) t) rfl rfl ?_
  · cases hk; exact ⟨Nat.le_refl _, Nat.lt_succ_self _⟩
  · show (w.setCell ⟨b, j, none⟩ v).heap[b]? = _
    rw [setCell_eq_setRow w b j cs t (0, 0) v hp]
    exact setRow_heap w b _ _ t _ hp

theorem Facts.start (w : World) : Facts [Fact.below w] w := ⟨fun F hF => by
  rw [List.mem_singleton] at hF
  subst hF
  exact ⟨Below.refl _ _, Nat.zero_le _, Nat.le_refl _⟩, List.pairwise_singleton _ _⟩

theorem ownF_ints {lo hi : Nat} {a : Option Addr} {n c : Nat} {zs : List Int} {w : World} (h : (Fact.own lo hi (.slice a n c) zs).P w) : IntsAt w a zs := by
  obtain ⟨a', c', e, hx⟩ := (show OwnI w lo (.slice a n c) zs ∧ _ from h).1.read
  obtain ⟨rfl, _, _⟩ := Value.slice.inj e
  exact hx
/-- a slice that a call has made -/
theorem Facts.own {L : List Fact} {w w' : World} (h : Facts L w) (hb : Below w.heap.size w w') {v : Value} {zs : List Int} (ho : OwnI w' w.heap.size v zs) : Facts (Fact.own w.heap.size w'.heap.size v zs :: L) w' :=
  h.add hb _ (Nat.le_refl _) hb.size (Nat.le_refl _) ⟨ho, fun k hk => (World.ownsRow.lt ho k hk).2⟩
/-- a slice's cells are written over -/
theorem Facts.turnOwn {L : List Fact} {w w' : World} (h : Facts L w) (i : Nat) {lo hi : Nat} {v : Value} {zs zs' : List Int} (hF : L[i]? = some (Fact.own lo hi v zs)) (hg : w.grownBy w' v.ownBlock) (ho : OwnI w' lo v zs') : Facts (L.set i (Fact.own lo hi v zs')) w' := by
  have hp := h.get i hF
  exact h.turn i hF hg (fun k hk => ⟨(World.ownsRow.lt ho k hk).1, hp.2 k hk⟩) (Fact.own lo hi v zs') rfl rfl ⟨ho, hp.2⟩

end Go.Proofs.Ythnjfdhijpfekaa
namespace Go.Proofs.Ythnjfdhijpfekaa
open Go.RowKit

/-! As RG, where one operation f of the head may come up behind the first of the tail (a result that is taken apart beside a late store). -/

def rgOkF (ops : Array Oper) (m f : Nat) (ds : List Nat) (sup : Nat → List Nat) : Bool :=
  decide (f < m) && decide (m < ops.size) && (List.range ops.size).all fun j => match ops[j]? with
    | none => true
    | some o =>
      (decide (m ≤ j) || ((match o.dst with | some d => ds.contains d | none => true) &&
        (sup j).all fun t => (List.range ops.size).all fun i => match ops[i]? with
          | none => true
          | some oi => oi.dst != some t || i == j || o.after.any fun e => Region.binds .any e && e.on == i)) &&
      (decide (j < m) || (List.range j).all (fun i => (i == f && j == m) || o.after.any fun e => Region.binds .any e && e.on == i)) && o.after.all fun e => !Region.binds .any e || decide (e.on < j)

variable {P : Program} {ops : Array Oper} {Q : Exit → Act → World → Prop}

/-- the tail, in its one order -/
theorem wpAny_tailF {m f : Nat} {ds : List Nat} {sup : Nat → List Nat} (hB0 : rgOkF ops m f ds sup = true) : ∀ (r k : Nat) (listed : Array Bool) (a : Act) (w : World), m ≤ k → k + r = ops.size →
    (∀ j, j < ops.size → listed.getD j true = decide (j < k)) → listed.size = ops.size → ∀ fuel, r ≤ fuel → wpOps P ops Q (List.range' k r) a w → wpAny P .any ops Q fuel listed a w
  | 0, k, listed, a, w, hm, hk, hl, hs, fuel, hf, h => by
    have hr : Region.ready .any ops listed = [] := by
      rw [List.eq_nil_iff_forall_not_mem]
      intro j hj
      obtain ⟨h1, o, ho, _⟩ := mem_ready.1 hj
      have hlt : j < ops.size := (Array.getElem?_eq_some_iff.1 ho).1
      rw [hl j hlt] at h1
      simp at h1; omega
    have hq : Q .normal a w := h
    cases fuel with
    | zero => exact ⟨hr, hq⟩
    | succ f => exact ⟨fun _ => hq, fun i hi => by rw [hr] at hi; cases hi⟩
  | r + 1, k, listed, a, w, hm, hk, hl, hs, fuel, hf, h => by
    have hB := hB0
    unfold rgOkF at hB
    rw [Bool.and_eq_true] at hB
    have hkn : k < ops.size := by omega
    have hready : ∀ j ∈ Region.ready .any ops listed, j = k := by
      intro j hj
      obtain ⟨h1, o, ho, hdep⟩ := mem_ready.1 hj
      have hlt : j < ops.size := (Array.getElem?_eq_some_iff.1 ho).1
      rw [hl j hlt] at h1
      have hjk : k ≤ j := by simpa using h1
      rcases Nat.lt_or_ge k j with hlt' | hge
      · exfalso
        have hb := List.all_eq_true.1 hB.2 j (List.mem_range.2 hlt)
        simp only [ho, Bool.and_eq_true, Bool.or_eq_true, decide_eq_true_eq] at hb
        rcases hb.1.2 with hb2 | hb2
        · omega
        · have := List.all_eq_true.1 hb2 k (List.mem_range.2 hlt')
          simp only [Bool.or_eq_true, Bool.and_eq_true, beq_iff_eq] at this
          have hfm : f < m := by have h := hB.1; rw [Bool.and_eq_true] at h; simpa using h.1
          rcases this with this | this
          · omega
          obtain ⟨e, he, hee⟩ := Array.any_eq_true'.1 this
          simp only [Bool.and_eq_true, beq_iff_eq] at hee
          have hd := hdep e he hee.1
          rw [hee.2] at hd
          have := hl k hkn
          rw [getD_toList] at this hd
          rw [List.getD_eq_getElem?_getD] at this hd
          cases hx : listed.toList[k]? with
          | none => rw [hx] at hd; simp at hd
          | some b => rw [hx] at this hd; simp at this hd; rw [this] at hd; cases hd
      · omega
    cases fuel with
    | zero => omega
    | succ f =>
      refine ⟨fun h0 => ?_, fun i hi => ?_⟩
      · exfalso
        obtain ⟨o, ho⟩ : ∃ o, ops[k]? = some o := ⟨ops[k], Array.getElem?_eq_getElem hkn⟩
        have : k ∈ Region.ready .any ops listed := by
          refine mem_ready.2 ⟨?_, o, ho, ?_⟩
          · rw [hl k hkn]; simp
          · intro e he hbind
            have hb := List.all_eq_true.1 hB.2 k (List.mem_range.2 hkn)
            simp only [ho, Bool.and_eq_true, Bool.or_eq_true, decide_eq_true_eq] at hb
            · have h2 := Array.all_eq_true'.1 hb.2 e he
              simp only [hbind, Bool.not_true, Bool.or_eq_true, Bool.false_eq_true, false_or, decide_eq_true_eq] at h2
              have := hl e.on (by omega)
              rw [getD_toList, List.getD_eq_getElem?_getD] at this ⊢
              cases hx : listed.toList[e.on]? with
              | none =>
                have := List.getElem?_eq_none_iff.1 hx
                simp [hs] at this; omega
              | some b => rw [hx] at this; simp at this; simp [this]; exact h2
        rw [h0] at this; cases this
      · obtain rfl := hready i hi
        rw [List.range'_succ, wpOps_cons] at h
        refine wpOp_mono (fun a' w' h' => ?_) h
        refine wpAny_tailF hB0 r (i + 1) _ a' w' (by omega) (by omega) ?_ (by simpa using hs) f (by omega) h'
        intro j hj
        by_cases e : i = j
        · subst e
          rw [getD_toList, Array.toList_setIfInBounds, List.getD_eq_getElem?_getD, List.getElem?_set]
          simp [hs, hj]
        · rw [getD_toList, Array.toList_setIfInBounds, List.getD_eq_getElem?_getD, List.getElem?_set, if_neg e, ← List.getD_eq_getElem?_getD, ← getD_toList, hl j hj]
          simp; omega


theorem wpAny_headF {m f : Nat} {a0 : Act} {ds : List Nat} {sup : Nat → List Nat} {G : Nat → (Nat → Value) → World → Prop} {St : World → Prop} {Keep : World → World → Prop} (hB0 : rgOkF ops m f ds sup = true)
    (hkeep : ∀ j us w w', j < m → Keep w w' → G j us w → G j us w') (hrefl : ∀ w, Keep w w) (hsup : ∀ j us us' w, j < m → (∀ t ∈ sup j, us t = us' t) → G j us w → G j us' w)
    (howe : ∀ i o, i < m → ops[i]? = some o → Owes P ops Q a0 ds G St Keep i o)
    (hend : ∀ us w, St w → (∀ j, j < m → G j us w) → wpOps P ops Q (List.range' m (ops.size - m)) (over a0 ds us) w)
    (hend2 : ∀ us w, St w → (∀ j, j < m → j ≠ f → G j us w) → wpOps P ops Q (m :: f :: List.range' (m + 1) (ops.size - (m + 1))) (over a0 ds us) w) :
    ∀ (fuel : Nat) (listed : Array Bool) (a : Act) (w : World), unl listed.toList ≤ fuel → Under ops m a0 ds G St listed a w → wpAny P .any ops Q fuel listed a w := by
  have hB1 := hB0
  unfold rgOkF at hB1
  rw [Bool.and_eq_true] at hB1
  have hB2 := hB1.1
  rw [Bool.and_eq_true] at hB2
  obtain ⟨hfm, hms⟩ := hB2
  have hfm : f < m := by simpa using hfm
  have hms : m < ops.size := by simpa using hms
  have hm : m ≤ ops.size := by omega
  have hB := hB1.2
  have hdepOk : ∀ j o, j < m → ops[j]? = some o → (∀ d, o.dst = some d → ds.contains d = true) ∧ ∀ t ∈ sup j, ∀ i oi, ops[i]? = some oi → oi.dst = some t → i = j ∨ ∃ e ∈ o.after, Region.binds .any e = true ∧ e.on = i := by
    intro j o hj ho
    have hlt : j < ops.size := (Array.getElem?_eq_some_iff.1 ho).1
    have hb := List.all_eq_true.1 hB j (List.mem_range.2 hlt)
    simp only [ho, Bool.and_eq_true, Bool.or_eq_true, decide_eq_true_eq] at hb
    rcases hb.1.1 with h | h
    · omega
    · refine ⟨?_, ?_⟩
      · intro d hd
        have := h.1
        rw [hd] at this
        exact this
      · intro t ht i oi hi hd
        have h2 := List.all_eq_true.1 (List.all_eq_true.1 h.2 t ht) i (List.mem_range.2 (Array.getElem?_eq_some_iff.1 hi).1)
        simp only [hi, Bool.or_eq_true, bne_iff_ne, beq_iff_eq, hd] at h2
        rcases h2 with (h2 | h2) | h2
        · exact absurd rfl h2
        · exact Or.inl h2
        · obtain ⟨e, he, hee⟩ := Array.any_eq_true'.1 h2
          simp only [Bool.and_eq_true, beq_iff_eq] at hee
          exact Or.inr ⟨e, he, hee.1, hee.2⟩
  have step : ∀ (fuel : Nat) (listed : Array Bool) (a : Act) (w : World), unl listed.toList ≤ fuel → Under ops m a0 ds G St listed a w →
      (∀ j, j < m → listed.getD j true = true) → wpAny P .any ops Q fuel listed a w := by
    intro fuel listed a w hf U hall
    obtain ⟨us, rfl, hG⟩ := U.left
    have hx : ∀ j, j < m → listed.getD j false = true := by
      intro j hj
      have := hall j hj
      rw [getD_toList, List.getD_eq_getElem?_getD] at this ⊢
      cases hy : listed.toList[j]? with
      | none =>
        have h1 := List.getElem?_eq_none_iff.1 hy
        have := U.size
        simp at h1; omega
      | some b => rw [hy] at this; simpa using this
    have hr : ops.size - m ≤ fuel := by
      refine Nat.le_trans ?_ hf
      have : ∀ (n : Nat) (l : List Bool), (∀ j, n ≤ j → j < l.length → l.getD j true = false) → l.length - n ≤ unl l := by
        intro n l
        induction l generalizing n with
        | nil => intro _; simp
        | cons b r ih =>
          intro hb
          cases n with
          | zero =>
            have h0 := hb 0 (Nat.le_refl _) (by simp)
            have h1 := ih 0 (fun j _ hj => by have := hb (j + 1) (by omega) (by simpa using hj); simpa using this)
            simp at h0
            subst h0
            simp [unl] at h1 ⊢; omega
          | succ n =>
            have h1 := ih n (fun j hj hj' => by have := hb (j + 1) (by omega) (by simpa using hj'); simpa using this)
            simp only [unl, List.length_cons]; omega
      have h2 := this m listed.toList (fun j hj hj' => by rw [← getD_toList]; exact U.tail j hj (by have := U.size; simp at hj'; omega))
      have := U.size
      simp at h2; omega
    refine wpAny_tailF hB0 (ops.size - m) m listed _ w (Nat.le_refl _) (by omega) ?_ U.size fuel hr (hend us w U.st (fun j hj => hG j hj (hx j hj)))
    intro j hj
    rcases Nat.lt_or_ge j m with h | h
    · rw [hall j h]; simp [h]
    · rw [U.tail j h hj]; simp; omega
  intro fuel
  induction fuel with
  | zero =>
    intro listed a w hf U
    exact step 0 listed a w hf U (fun j _ => by rw [getD_toList]; exact unl_zero _ (by omega) j)
  | succ fuel ih =>
    intro listed a w hf U
    by_cases hall : ∀ j, j < m → listed.getD j true = true
    · exact step _ listed a w hf U hall
    · obtain ⟨us, rfl, hG⟩ := U.left
      have hnot : ∃ j, j < m ∧ listed.getD j true = false := by
        apply Classical.byContradiction
        intro hn
        apply hall
        intro j hj
        cases hx : listed.getD j true with
        | true => rfl
        | false => exact absurd ⟨j, hj, hx⟩ hn
      refine ⟨fun h0 => ?_, fun i hi => ?_⟩
      · -- the least that is not listed may come up
        have least : ∀ n j, j ≤ n → j < m → listed.getD j true = false → False := by
          intro n
          induction n with
          | zero =>
            intro j hj hjm hjl
            obtain rfl : j = 0 := by omega
            obtain ⟨oj, hoj⟩ : ∃ oj, ops[0]? = some oj := ⟨ops[0], Array.getElem?_eq_getElem (by omega)⟩
            have : 0 ∈ Region.ready .any ops listed := mem_ready.2 ⟨hjl, oj, hoj, fun e he hbind => by
              have hb := List.all_eq_true.1 hB 0 (List.mem_range.2 (by omega))
              simp only [hoj, Bool.and_eq_true] at hb
              have h2 := Array.all_eq_true'.1 hb.2 e he
              simp only [hbind, Bool.not_true, Bool.or_eq_true, Bool.false_eq_true, false_or, decide_eq_true_eq] at h2
              omega⟩
            rw [h0] at this; cases this
          | succ n ihn =>
            intro j hj hjm hjl
            obtain ⟨oj, hoj⟩ : ∃ oj, ops[j]? = some oj := ⟨ops[j], Array.getElem?_eq_getElem (by omega)⟩
            have : j ∈ Region.ready .any ops listed := mem_ready.2 ⟨hjl, oj, hoj, fun e he hbind => by
              have hb := List.all_eq_true.1 hB j (List.mem_range.2 (by omega))
              simp only [hoj, Bool.and_eq_true] at hb
              have h2 := Array.all_eq_true'.1 hb.2 e he
              simp only [hbind, Bool.not_true, Bool.or_eq_true, Bool.false_eq_true, false_or, decide_eq_true_eq] at h2
              cases hx : listed.getD e.on true with
              | false => exact (ihn e.on (by omega) (by omega) hx).elim
              | true =>
                rw [getD_toList, List.getD_eq_getElem?_getD] at hx ⊢
                cases hy : listed.toList[e.on]? with
                | none =>
                  have h4 := List.getElem?_eq_none_iff.1 hy
                  have := U.size
                  simp at h4; omega
                | some b => rw [hy] at hx; simpa using hx⟩
            rw [h0] at this; cases this
        obtain ⟨j, hj, hjl⟩ := hnot
        exact (least j j (Nat.le_refl _) hj hjl).elim
      · obtain ⟨h1, o, ho, hdep⟩ := mem_ready.1 hi
        have hlt : i < ops.size := (Array.getElem?_eq_some_iff.1 ho).1
        have hil : listed.toList[i]? = some false := by
          rw [getD_toList, List.getD_eq_getElem?_getD] at h1
          cases hx : listed.toList[i]? with
          | none => rw [hx] at h1; simp at h1
          | some b => rw [hx] at h1; simp at h1; rw [h1]
        rcases Nat.lt_or_ge i m with him | hge
        rotate_left
        · have gd : ∀ t, t < ops.size → ∀ l : Array Bool, l.size = ops.size → l.getD t true = l.getD t false := fun t ht l hl => by
            rw [getD_toList, getD_toList, List.getD_eq_getElem?_getD, List.getD_eq_getElem?_getD, List.getElem?_eq_getElem (by simpa [hl] using ht)]; rfl
          have hb := List.all_eq_true.1 hB i (List.mem_range.2 hlt)
          simp only [ho, Bool.and_eq_true, Bool.or_eq_true, decide_eq_true_eq] at hb
          have hwait : ∀ t, t < i → (t = f ∧ i = m) ∨ listed.getD t false = true := by
            intro t ht
            rcases hb.1.2 with hb2 | hb2
            · omega
            · have := List.all_eq_true.1 hb2 t (List.mem_range.2 ht)
              simp only [Bool.or_eq_true, Bool.and_eq_true, beq_iff_eq] at this
              rcases this with this | this
              · exact Or.inl this
              · obtain ⟨e, he, hee⟩ := Array.any_eq_true'.1 this
                simp only [Bool.and_eq_true, beq_iff_eq] at hee
                have hd := hdep e he hee.1
                rw [hee.2] at hd
                exact Or.inr hd
          obtain ⟨j, hj, hjl⟩ := hnot
          have hjf : j = f ∧ i = m := by
            rcases hwait j (by omega) with h | h
            · exact h
            · rw [gd j (by omega) listed U.size, h] at hjl; cases hjl
          obtain ⟨hjf, him⟩ := hjf
          subst hjf
          subst him
          have hG' : ∀ t, t < i → t ≠ j → G t us w := fun t ht hne => hG t ht ((hwait t ht).resolve_left (fun h => hne h.1))
          have h2 := hend2 us w U.st hG'
          rw [wpOps_cons] at h2
          refine wpOp_mono (fun a' w' h' => ?_) h2
          rw [wpOps_cons] at h'
          have hu1 := unl_set listed.toList i hil
          rw [← Array.toList_setIfInBounds] at hu1
          have hs1 : (listed.setIfInBounds i true).size = ops.size := by simpa using U.size
          have hfl : (listed.setIfInBounds i true).getD j true = false := by rw [getD_set_other (by omega)]; exact hjl
          cases fuel with
          | zero =>
            have := unl_zero (listed.setIfInBounds i true).toList (by omega) j
            rw [← getD_toList, hfl] at this
            cases this
          | succ fu =>
            have hfs : (listed.setIfInBounds i true).toList[j]? = some false := by
              rw [getD_toList, List.getD_eq_getElem?_getD] at hfl
              cases hx : (listed.setIfInBounds i true).toList[j]? with
              | none => rw [hx] at hfl; simp at hfl
              | some b => rw [hx] at hfl; simp at hfl; rw [hfl]
            have hu2 := unl_set _ j hfs
            rw [← Array.toList_setIfInBounds] at hu2
            have hall1 : ∀ t, t < i → t ≠ j → (listed.setIfInBounds i true).getD t false = true := fun t ht hne => getD_set_true ((hwait t ht).resolve_left (fun h => hne h.1))
            refine ⟨fun h0 => ?_, fun i' hi' => ?_⟩
            · exfalso
              obtain ⟨oj, hoj⟩ : ∃ oj, ops[j]? = some oj := ⟨ops[j], Array.getElem?_eq_getElem (by omega)⟩
              have : j ∈ Region.ready .any ops (listed.setIfInBounds i true) := mem_ready.2 ⟨hfl, oj, hoj, fun e he hbind => by
                have hbj := List.all_eq_true.1 hB j (List.mem_range.2 (by omega))
                simp only [hoj, Bool.and_eq_true] at hbj
                have h3 := Array.all_eq_true'.1 hbj.2 e he
                simp only [hbind, Bool.not_true, Bool.or_eq_true, Bool.false_eq_true, false_or, decide_eq_true_eq] at h3
                exact hall1 e.on (by omega) (by omega)⟩
              rw [h0] at this; cases this
            · obtain ⟨h1', o', ho', hdep'⟩ := mem_ready.1 hi'
              have hlt' : i' < ops.size := (Array.getElem?_eq_some_iff.1 ho').1
              have hij : i' = j := by
                apply Classical.byContradiction
                intro hne
                rcases Nat.lt_trichotomy i' i with h | h | h
                · have := hall1 i' h hne
                  rw [← gd i' hlt' _ hs1, h1'] at this; cases this
                · subst h
                  have := gd i' hlt' _ hs1
                  have h5 : (listed.setIfInBounds i' true).getD i' false = true := by
                    rw [getD_toList, Array.toList_setIfInBounds, List.getD_eq_getElem?_getD, List.getElem?_set, if_pos rfl, if_pos (by have := U.size; simp; omega)]; rfl
                  rw [this, h5] at h1'; cases h1'
                · have hb' := List.all_eq_true.1 hB i' (List.mem_range.2 hlt')
                  simp only [ho', Bool.and_eq_true, Bool.or_eq_true, decide_eq_true_eq] at hb'
                  rcases hb'.1.2 with hb2 | hb2
                  · omega
                  · have := List.all_eq_true.1 hb2 j (List.mem_range.2 (by omega))
                    simp only [Bool.or_eq_true, Bool.and_eq_true, beq_iff_eq] at this
                    rcases this with this | this
                    · omega
                    · obtain ⟨e, he, hee⟩ := Array.any_eq_true'.1 this
                      simp only [Bool.and_eq_true, beq_iff_eq] at hee
                      have hd := hdep' e he hee.1
                      rw [hee.2, ← gd j (by omega) _ hs1, hfl] at hd
                      cases hd
              subst hij
              refine wpOp_mono (fun a'' w'' h'' => ?_) h'
              have hlow : ∀ (n : Nat) (l : List Bool), (∀ t, n ≤ t → t < l.length → l.getD t true = false) → l.length - n ≤ unl l := by
                intro n l
                induction l generalizing n with
                | nil => intro _; simp
                | cons b r ih =>
                  intro hb
                  cases n with
                  | zero =>
                    have h0 := hb 0 (Nat.le_refl _) (by simp)
                    have h1 := ih 0 (fun t _ ht => by have := hb (t + 1) (by omega) (by simpa using ht); simpa using this)
                    simp at h0
                    subst h0
                    simp [unl] at h1 ⊢; omega
                  | succ n =>
                    have h1 := ih n (fun t ht ht' => by have := hb (t + 1) (by omega) (by simpa using ht'); simpa using this)
                    simp only [unl, List.length_cons]; omega
              have hs2 : ((listed.setIfInBounds i true).setIfInBounds i' true).size = ops.size := by simpa using U.size
              have hrest : ∀ t, i + 1 ≤ t → t < ops.size → ((listed.setIfInBounds i true).setIfInBounds i' true).getD t true = false := fun t ht ht' => by
                rw [getD_set_other (by omega), getD_set_other (by omega)]; exact U.tail t (by omega) ht'
              have hn := hlow (i + 1) ((listed.setIfInBounds i true).setIfInBounds i' true).toList (fun t ht ht' => by
                rw [← getD_toList]; exact hrest t ht (by rw [Array.length_toList, hs2] at ht'; exact ht'))
              rw [Array.length_toList, hs2] at hn
              refine wpAny_tailF hB0 (ops.size - (i + 1)) (i + 1) _ a'' w'' (by omega) (by omega) (fun t ht => ?_) hs2 fu (by omega) h''
              by_cases h7 : i + 1 ≤ t
              · rw [hrest t h7 ht]; simp; omega
              · have e1 : ((listed.setIfInBounds i true).setIfInBounds i' true).getD t true = true := by
                  rw [gd t ht _ hs2]
                  by_cases h8 : i' = t
                  · subst h8
                    rw [getD_toList, Array.toList_setIfInBounds, List.getD_eq_getElem?_getD, List.getElem?_set, if_pos rfl, if_pos (by rw [Array.length_toList, hs1]; exact ht)]; rfl
                  · refine getD_set_true ?_
                    by_cases h9 : i = t
                    · subst h9
                      rw [getD_toList, Array.toList_setIfInBounds, List.getD_eq_getElem?_getD, List.getElem?_set, if_pos rfl, if_pos (by rw [Array.length_toList, U.size]; exact ht)]; rfl
                    · exact hall1 t (by omega) (fun e => h8 e.symm)
                rw [e1]; simp; omega
        obtain ⟨hds, hdp⟩ := hdepOk i o him ho
        have hdm : ∀ e ∈ o.after, Region.binds .any e = true → e.on < m := by
          intro e he hbind
          have hd := hdep e he hbind
          rcases Nat.lt_or_ge e.on m with h | h
          · exact h
          · exfalso
            rcases Nat.lt_or_ge e.on ops.size with h2 | h2
            · have := U.tail e.on h h2
              rw [getD_toList, List.getD_eq_getElem?_getD] at this hd
              cases hx : listed.toList[e.on]? with
              | none => rw [hx] at hd; simp at hd
              | some b => rw [hx] at hd this; simp at hd this; rw [hd] at this; cases this
            · rw [getD_toList, List.getD_eq_getElem?_getD, List.getElem?_eq_none (by have := U.size; simp; omega)] at hd
              simp at hd
        have next : ∀ v w', St w' → Keep w w' → G i (upd us o.dst v) w' → wpAny P .any ops Q fuel (listed.setIfInBounds i true) ((over a0 ds us).put o.dst v) w' := by
          intro v w' hst hk hg
          refine ih _ _ _ ?_ ⟨by simpa using U.size, ?_, ?_, hst, upd us o.dst v, over_put hds, ?_⟩
          · have := unl_set listed.toList i hil
            rw [Array.toList_setIfInBounds]; omega
          · intro j hj hj'
            rw [getD_set_other (by omega)]; exact U.tail j hj hj'
          · intro j oj hoj hlj e he hbind
            by_cases ej : i = j
            · subst ej
              rw [ho] at hoj
              cases hoj
              exact getD_set_true (hdep e he hbind)
            · rw [getD_set_other ej] at hlj
              exact getD_set_true (U.closed j oj hoj hlj e he hbind)
          · intro j hj hlj
            by_cases ej : i = j
            · subst ej; exact hg
            · rw [getD_set_other ej] at hlj
              refine hsup j us _ w' hj (fun t ht => ?_) (hkeep j us w w' hj hk (hG j hj hlj))
              symm
              refine upd_ne (fun hd => ?_)
              have hjs : j < ops.size := by omega
              obtain ⟨oj, hoj⟩ : ∃ oj, ops[j]? = some oj := ⟨ops[j], Array.getElem?_eq_getElem hjs⟩
              rcases (hdepOk j oj hj hoj).2 t ht i o ho hd with h | ⟨e, he, hbind, heq⟩
              · exact ej h
              · have := U.closed j oj hoj hlj e he hbind
                rw [heq, getD_toList, List.getD_eq_getElem?_getD, hil] at this
                simp at this
        have howes := howe i o him ho us w U.st (fun e he hbind => hG e.on (hdm e he hbind) (hdep e he hbind))
        unfold wpOp
        rw [ho]
        simp only
        by_cases hw : Region.wanted o (yielded ops (over a0 ds us).tmps) = true
        · rw [if_pos hw] at howes ⊢
          refine Or.inl (Oper.wp_mono (fun a' w' h => ?_) howes)
          obtain ⟨v, rfl, hst, hk, hg⟩ := h
          exact next v w' hst hk hg
        · rw [if_neg hw] at howes ⊢
          exact next undef w U.st (hrefl w) howes

theorem wp_region_rgF {P : Program} {id : Nat} {l : List Oper} {Q : Exit → Act → World → Prop} {a0 : Act} {w0 : World} (m f : Nat) (ds : List Nat) (sup : Nat → List Nat) (A : (Nat → Value) → Act) (G : Nat → (Nat → Value) → World → Prop) (St : World → Prop) (Keep : World → World → Prop)
    (hmix : P.follows .mixedOrders = true) (hB : rgOkF l.toArray m f ds sup = true) (hA : ∀ us, over a0 ds us = A us) (h0 : St w0.drew) (hrefl : ∀ w, Keep w w)
    (hkeep : ∀ j us w w', j < m → Keep w w' → G j us w → G j us w') (hsup : ∀ j us us' w, j < m → (∀ t ∈ sup j, us t = us' t) → G j us w → G j us' w)
    (hall : rgAll P l.toArray A G St Keep 0 (l.take m))
    (hend : ∀ us w, St w → (∀ j, j < m → G j us w) → wpList P l.toArray Q (l.drop m) (A us) w)
    (hend2 : ∀ us w, St w → (∀ j, j < m → j ≠ f → G j us w) → wpOps P l.toArray Q (m :: f :: List.range' (m + 1) (l.length - (m + 1))) (A us) w) : (Code.region id l.toArray true).wp P Q a0 w0 := by
  refine wp_region_any hmix ?_
  refine wpAny_headF (a0 := a0) (ds := ds) (G := G) (St := St) (Keep := Keep) hB hkeep hrefl hsup ?_ ?_ ?_ _ _ _ _ (by rw [Array.toList_replicate, unl_replicate]; exact Nat.le_refl _) ?_
  · intro i o hi ho us w hst hd
    have ho' : (l.take m)[i]? = some o := by rw [List.getElem?_take, if_pos hi]; simpa using ho
    have := rgAll_at _ 0 hall i o ho' us w hst hd
    rw [Nat.zero_add] at this
    rw [hA]
    by_cases hw : Region.wanted o (yielded l.toArray (A us).tmps) = true
    · rw [if_pos hw] at this ⊢
      exact wp_of_leaves (fun v w' h => ⟨v, rfl, h.1, h.2.1, h.2.2⟩) this
    · rw [if_neg hw] at this ⊢
      exact this
  · intro us w hst hg
    have := hend us w hst hg
    rw [hA]
    have e := wpOps_eq_wpList (P := P) (ops := l.toArray) (Q := Q) (l.drop m) m (fun j => by simp [List.getElem?_drop])
    rw [List.length_drop] at e
    have e2 : l.toArray.size - m = l.length - m := by simp
    rw [e2, e]
    exact this
  · intro us w hst hg
    have := hend2 us w hst hg
    rw [hA]
    simpa using this
  · refine ⟨by simp, ?_, ?_, h0, fun t => a0.tmps.getD t undef, ?_, ?_⟩
    · intro j _ hj
      rw [getD_toList, Array.toList_replicate, List.getD_eq_getElem?_getD, List.getElem?_replicate]
      simp at hj
      simp [hj]
    · intro j o _ hj
      rw [getD_toList, Array.toList_replicate, List.getD_eq_getElem?_getD, List.getElem?_replicate] at hj
      split at hj <;> simp at hj
    · unfold over
      cases a0 with
      | mk tmps defers =>
        congr 1
        apply Array.ext_getElem?
        intro i
        rw [Array.getElem?_mapIdx]
        cases hx : tmps[i]? with
        | none => rfl
        | some v =>
          simp only [Option.map_some, Array.getD_eq_getD_getElem?, hx, Option.getD_some]
          split <;> rfl
    · intro j _ hj
      rw [getD_toList, Array.toList_replicate, List.getD_eq_getElem?_getD, List.getElem?_replicate] at hj
      split at hj <;> simp at hj


/-- a store into a whole block, both ways -/
theorem wp_store_eq {P : Program} {o : Oper} {a : Act} {w : World} {K : Act → World → Prop} {Q : Exit → Act → World → Prop} (ty : TypeId) (x y : Operand) (ho : o.op = .store ty x y)
    (g : Nat) (cells : Array Value) (hx : a.eval x = .pointer (some ⟨g, 0, none⟩)) (hy : a.eval y = .agg cells)
    (t : TypeId) (old : Array Value) (hg : w.heap[g]? = some (.cells old t (0, 0))) (hi : (P.info? ty).map (·.size) = some cells.size)
    (hold : old.size = cells.size) (h1 : cells.all (·.oneCell') = true) : o.wp P a w K Q = K (a.put o.dst undef) (w.setRow g cells) := by
  unfold Oper.wp execOp
  simp only [ho, hx, hy, Instr.storeAt, Instr.sureAddr, Sem.run_bind, Sem.run_pure, Result.andThen_ok, run_storeVar_row w g t ty old cells hg hi hold h1]
  rfl

/-- **A REGION THAT DRAWS ITS ORDER, ITS TAIL A STORE BEHIND WHICH ONE OPERATION OF THE HEAD MAY COME.** -/
theorem wp_region_rsF {P : Program} {id : Nat} {l : List Oper} {Q : Exit → Act → World → Prop} {a0 : Act} {w0 : World} (f : Nat) (ds : List Nat) (A : (Nat → Value) → Act) {Keep : World → World → Prop} (sp : List (Sp Keep)) (St : World → Prop)
    (om of : Oper) (ty : TypeId) (x y : Operand) (df : Nat)
    (hmix : P.follows .mixedOrders = true) (hB : rgOkF l.toArray sp.length f ds (supOf l) = true) (hA : ∀ us, over a0 ds us = A us) (h0 : St w0.drew) (hrefl : ∀ w, Keep w w)
    (hom : l[sp.length]? = some om) (hof : l[f]? = some of) (hg1 : om.guard = none) (hd1 : om.dst = none) (ho1 : om.op = .store ty x y) (hg2 : of.guard = none) (hd2 : of.dst = some df)
    (hnd : ((List.range sp.length).all fun j => j == f || !(supOf l j).contains df) = true) (hdf : ds.contains df = true)
    (hxy : ∀ us v, (A (upd us (some df) v)).eval x = (A us).eval x ∧ (A (upd us (some df) v)).eval y = (A us).eval y)
    (hall : rsAll P l A sp St (l.take sp.length) sp)
    (hst2 : ∀ us w, St w → (∀ j, j < sp.length → j ≠ f → depHolds l sp us w j) → ∃ g cells t old, (A us).eval x = .pointer (some ⟨g, 0, none⟩) ∧ (A us).eval y = .agg cells ∧ w.heap[g]? = some (.cells old t (0, 0)) ∧ (P.info? ty).map (·.size) = some cells.size ∧ old.size = cells.size ∧ cells.all (·.oneCell') = true)
    (hfl : ∀ us w, St w → (∀ j, j < sp.length → j ≠ f → depHolds l sp us w j) → ∃ v, (∀ w', (execOp (A us).eval of).run P w' = .ok (.value v) w') ∧ depHolds l sp (upd us (some df) v) w f)
    (hend : ∀ us w, St w → (∀ j, j < sp.length → depHolds l sp us w j) → wpList P l.toArray Q (l.drop sp.length) (A us) w) : (Code.region id l.toArray true).wp P Q a0 w0 := by
  have hm : sp.length ≤ l.length := Nat.le_of_lt (List.getElem?_eq_some_iff.1 hom).1
  refine wp_region_rgF sp.length f ds (supOf l) A (fun i us w => depHolds l sp us w i) St Keep hmix hB hA h0 hrefl (fun j us w w' _ hk h => depHolds_kept hk h) (fun j us us' w _ he h => depHolds_sup he h) ?_ hend ?_
  · refine rg_of_rs _ _ 0 (by rw [List.length_take]; omega) (fun j hj => ?_) (fun j hj => ?_) (fun j _ => by simp) hall
    · have : j < (l.take sp.length).length := by
        apply Classical.byContradiction
        intro h
        rw [List.getElem?_eq_none (by omega)] at hj; cases hj
      rw [List.length_take] at this
      rw [Nat.zero_add, List.getElem?_take, if_pos (by omega)]
    · rw [List.length_take] at hj
      rw [Nat.zero_add, List.getElem?_take, if_pos (by omega)]
  · intro us w hst hd
    obtain ⟨v, hv, hvf⟩ := hfl us w hst hd
    obtain ⟨g, cells, t, old, e1, e2, e3, e4, e5, e6⟩ := hst2 us w hst hd
    have hd' : ∀ j, j < sp.length → depHolds l sp (upd us (some df) v) w j := by
      intro j hj
      by_cases e : j = f
      · subst e; exact hvf
      · refine depHolds_sup (fun t ht => ?_) (hd j hj e)
        have h1 := List.all_eq_true.1 hnd j (List.mem_range.2 hj)
        simp only [Bool.or_eq_true, beq_iff_eq, Bool.not_eq_true', e, false_or] at h1
        symm
        refine upd_ne (fun ht2 => ?_)
        obtain rfl := Option.some.inj ht2
        rw [List.contains_iff_mem.2 ht] at h1
        cases h1
    have h := hend _ w hst hd'
    have hcons : l.drop sp.length = om :: l.drop (sp.length + 1) := by
      obtain ⟨hl, he⟩ := List.getElem?_eq_some_iff.1 hom
      rw [← he]
      exact (List.getElem_cons_drop hl).symm
    rw [hcons] at h
    have hput : (A us).put of.dst v = A (upd us (some df) v) := by
      rw [← hA us, hd2, over_put (fun t ht => by cases ht; exact hdf), hA]
    have hrest : ∀ a w, wpOps P l.toArray Q (List.range' (sp.length + 1) (l.length - (sp.length + 1))) a w = wpList P l.toArray Q (l.drop (sp.length + 1)) a w := by
      intro a w
      have e := wpOps_eq_wpList (P := P) (ops := l.toArray) (Q := Q) (l.drop (sp.length + 1)) (sp.length + 1) (fun j => by simp [List.getElem?_drop])
      rw [List.length_drop] at e
      rw [e]
    have hx' := (hxy us v).1
    have hy' := (hxy us v).2
    have hex : execOp (A us).eval om = execOp (A (upd us (some df) v)).eval om := by
      unfold execOp
      simp only [ho1, hx', hy']
    have hom' : l.toArray[sp.length]? = some om := by simpa using hom
    have hof' : l.toArray[f]? = some of := by simpa using hof
    unfold wpList at h
    rw [if_pos (by simp [Region.wanted, hg1])] at h
    rw [wpOps_cons]
    unfold wpOp
    rw [hom']
    simp only
    rw [if_pos (by simp [Region.wanted, hg1])]
    rcases h with h | ⟨h, hq⟩
    · refine Or.inl ?_
      rw [wp_store_eq ty x y ho1 g cells (hx'.trans e1) (hy'.trans e2) t old e3 e4 e5 e6, hd1] at h
      rw [wp_store_eq ty x y ho1 g cells e1 e2 t old e3 e4 e5 e6, hd1]
      show wpOps P l.toArray Q (f :: _) (A us) _
      rw [wpOps_cons]
      unfold wpOp
      rw [hof']
      simp only
      rw [if_pos (by simp [Region.wanted, hg2])]
      refine Or.inl ?_
      unfold Oper.wp
      rw [hv]
      show wpOps P l.toArray Q _ ((A us).put of.dst v) _
      rw [hput, hrest]
      exact h
    · refine Or.inr ⟨?_, hq⟩
      unfold Oper.asks at h ⊢
      rw [hex]
      exact h

end Go.Proofs.Ythnjfdhijpfekaa
namespace Go.Proofs.Ythnjfdhijpfekaa
open Go.RowKit

/-- worlds that keep all that is there -/
def KeepX (w w' : World) : Prop := Below w.heap.size w w'
def xV (P : Value → Prop) : Sp KeepX := ⟨fun v _ => P v, fun _ _ _ _ h => h⟩
def xEq (u : Value) : Sp KeepX := xV (fun v => v = u)
/-- a new block that is known -/
def BoxV (B : Nat) (cs : Array Value) (t : TypeId) (v : Value) (w : World) : Prop := ∃ b, v = .pointer (some ⟨b, 0, none⟩) ∧ B ≤ b ∧ w.heap[b]? = some (.cells cs t (0, 0))
def xBox (B : Nat) (cs : Array Value) (t : TypeId) : Sp KeepX := ⟨BoxV B cs t, fun _ _ _ hk ⟨b, hv, hb, hg⟩ => ⟨b, hv, hb, (hk.block b (Array.getElem?_eq_some_iff.1 hg).1).trans hg⟩⟩

/-- the state: the facts, and how far the heap reaches -/
def StY (L : List Fact) (B : Nat) (w : World) : Prop := Facts L w ∧ B ≤ w.heap.size
theorem StY.below {L : List Fact} {B : Nat} {w w' : World} (h : StY L B w) (hb : Below w.heap.size w w') : StY L B w' := ⟨h.1.below hb, Nat.le_trans h.2 hb.size⟩

theorem rx_same {L : List Fact} {B : Nat} {w : World} {s : Sp KeepX} {v : Value} (hst : StY L B w) (h : s.holds v w) : RsR (StY L B) s w v w := ⟨hst, Below.refl _ _, h⟩
theorem rx_new {L : List Fact} {B : Nat} {w : World} {cs : Array Value} {t : TypeId} (hst : StY L B w) : RsR (StY L B) (xBox B cs t) w (.pointer (some ⟨w.heap.size, 0, none⟩)) (w.alloc (.cells cs t (0, 0))) :=
  ⟨hst.below (ba1 _ _), ba1 _ _, w.heap.size, rfl, hst.2, Array.getElem?_push_size⟩
/-- a call that keeps what is there -/
theorem rx_call {P : Program} {f : FuncId} {args : Array Value} {L : List Fact} {B : Nat} {w : World} {s : Sp KeepX} (hst : StY L B w) (h : Calls P f args w fun e w' => ∃ v, e = .returned v ∧ Below w.heap.size w w' ∧ s.holds v w') :
    Calls P f args w fun e w' => ∃ v, e = .returned v ∧ RsR (StY L B) s w v w' :=
  h.mono fun _ _ ⟨v, he, hb, hs⟩ => ⟨v, he, hst.below hb, hb, hs⟩
theorem rx_val {P : Program} {f : FuncId} {args : Array Value} {L : List Fact} {B : Nat} {w : World} {v : Value} (hst : StY L B w) (h : Calls P f args w fun e w' => e = .returned v ∧ Below w.heap.size w w') :
    Calls P f args w fun e w' => ∃ u, e = .returned u ∧ RsR (StY L B) (xEq v) w u w' :=
  rx_call hst (h.mono fun _ _ ⟨he, hb⟩ => ⟨v, he, hb, rfl⟩)

theorem Facts.cons {L : List Fact} {w : World} (h : Facts L w) (F : Fact) (hP : F.P w) (hle : F.lo ≤ F.hi) (hhi : F.hi ≤ w.heap.size) (hd : ∀ G ∈ L, G.hi ≤ F.lo ∨ F.hi ≤ G.lo) : Facts (F :: L) w := by
  refine ⟨fun G hG => ?_, List.Pairwise.cons hd h.2⟩
  rcases List.mem_cons.1 hG with rfl | hG
  · exact ⟨hP, hle, hhi⟩
  · exact h.1 G hG
/-- the stretch of a slice's own block -/
theorem own_stretch {w : World} {B : Nat} {v : Value} {zs : List Int} (ho : OwnI w B v zs) (hB : B ≤ w.heap.size) : ∃ lo hi, (Fact.own lo hi v zs).P w ∧ B ≤ lo ∧ lo ≤ hi ∧ hi ≤ w.heap.size ∧ (lo = B ∧ hi = B ∨ hi = lo + 1 ∧ ∃ cur, w.heap[lo]? = some (.cells cur 2 (0, 0))) := by
  rcases ho.2 with ⟨rfl, h0⟩ | ⟨g, cap, cur, rfl, hb, hg, r⟩
  · exact ⟨B, B, ⟨ho, fun k hk => by cases hk⟩, Nat.le_refl _, Nat.le_refl _, hB, Or.inl ⟨rfl, rfl⟩⟩
  · exact ⟨g, g + 1, ⟨⟨ho.1, Or.inr ⟨g, cap, cur, rfl, Nat.le_refl _, hg, r⟩⟩, fun k hk => by cases hk; exact Nat.lt_succ_self _⟩, hb, Nat.le_succ _, (Array.getElem?_eq_some_iff.1 hg).1, Or.inr ⟨rfl, cur, hg⟩⟩
/-- behind a region: a box and a slice -/
theorem facts_boxOwn {L : List Fact} {B b : Nat} {w : World} {cs : Array Value} {t : TypeId} {v : Value} {zs : List Int} (h : StY L B w) (hL : ∀ G ∈ L, G.hi ≤ B) (hb : B ≤ b) (hg : w.heap[b]? = some (.cells cs t (0, 0))) (ho : OwnI w B v zs) (ht : t ≠ 2) :
    ∃ lo hi, Facts (Fact.box b cs t :: Fact.own lo hi v zs :: L) w := by
  obtain ⟨lo, hi, hP, h1, h2, h3, h4⟩ := own_stretch ho h.2
  refine ⟨lo, hi, (h.1.cons (.own lo hi v zs) hP h2 h3 (fun G hG => Or.inl (Nat.le_trans (hL G hG) h1))).cons (.box b cs t) hg (Nat.le_succ _) (Array.getElem?_eq_some_iff.1 hg).1 (fun G hG => ?_)⟩
  rcases List.mem_cons.1 hG with rfl | hG
  · show hi ≤ b ∨ b + 1 ≤ lo
    rcases h4 with ⟨rfl, rfl⟩ | ⟨rfl, cur, hc⟩
    · exact Or.inl hb
    · have : b ≠ lo := fun e => by
        subst e
        rw [hg] at hc
        injection hc with hc
        injection hc with _ hc
        exact ht hc
      omega
  · exact Or.inl (Nat.le_trans (hL G hG) hb)
/-- a box is written whole -/
theorem facts_row {L : List Fact} {w : World} {b : Nat} {cs : Array Value} {t : TypeId} (h : Facts (Fact.box b cs t :: L) w) (ds : Array Value) : Facts (Fact.box b ds t :: L) (w.setRow b ds) := by
  have hp : w.heap[b]? = some (.cells cs t (0, 0)) := h.get 0 rfl
  have hg : w.grownBy (w.setRow b ds) (some b) := ⟨rfl, rfl, rfl, by simp [World.setRow], fun k _ hk => by
    simp only [World.setRow]
    rw [Array.getElem?_modify, if_neg (fun e => hk (by rw [e]))]⟩
  refine h.turn 0 rfl hg (fun k hk => ?_) (Fact.box b ds t) rfl rfl (setRow_heap w b _ _ t _ hp)
  cases hk; exact ⟨Nat.le_refl _, Nat.lt_succ_self _⟩
theorem facts_all {L : List Fact} {w : World} (h : Facts L w) : ∀ G ∈ L, G.hi ≤ w.heap.size := fun G hG => (h.1 G hG).2.2

end Go.Proofs.Ythnjfdhijpfekaa
namespace Go.Proofs.Ythnjfdhijpfekaa
open Go.RowKit

/-- after j rounds of a copy -/
def Copied (w : World) (base g : Nat) (xs : List Int) (j : Nat) : Prop :=
  ∃ zs : List Int, zs.length = xs.length ∧ OwnI w base (.slice (some ⟨g, 0, none⟩) xs.length xs.length) zs ∧ zs.take j = xs.take j

theorem Copied.step {w : World} {base g : Nat} {xs : List Int} {j : Nat} {x : Int} (h : Copied w base g xs j) (hx : xs[j]? = some x) : Copied (w.setCell ⟨g, j, none⟩ (.int .i64 x)) base g xs (j + 1) := by
  obtain ⟨zs, hl, ho, ht⟩ := h
  have hj : j < xs.length := (List.getElem?_eq_some_iff.1 hx).1
  refine ⟨zs.set j x, by simpa using hl, (ho.stored hl.symm j x).1, ?_⟩
  rw [take_snoc' hx, take_snoc' (zs := zs.set j x) (k := j) (z := x) (by simp [hl, hj]), List.take_set_of_le (Nat.le_refl _), ht]

theorem Copied.fin {w : World} {base g : Nat} {xs : List Int} (h : Copied w base g xs xs.length) : OwnI w base (.slice (some ⟨g, 0, none⟩) xs.length xs.length) xs := by
  obtain ⟨zs, hl, ho, ht⟩ := h
  rw [List.take_of_length_le (by omega), List.take_of_length_le (by omega)] at ht
  rwa [ht] at ho

set_option maxHeartbeats 400000 in
theorem toInt64S_any (a : Option Addr) (xs : List Int) (c : Nat) (w : World) (hx : IntsAt w a xs) (lx : xs.length ≤ 1099511627776) :
    Calls Try.prog 39 #[.slice a xs.length c] w fun e w' => e = .returned (.slice (some ⟨w.heap.size, 0, none⟩) xs.length xs.length) ∧
      OwnI w' w.heap.size (.slice (some ⟨w.heap.size, 0, none⟩) xs.length xs.length) xs ∧ Below w.heap.size w w' := by
  obtain ⟨i0, hi, hz0, hz1, hz2⟩ := info_parts infoI
  go_enter Try.func39, Try.ntmps39
  go_wp2_with (at_make; refine wpList_make_full _ rfl _ _ 22 rfl w.heap.size 2 i0 (.int .i64 0) 1 Try.underlying22 hi hz0 hz1 _ _ _ _ xs.length rfl rfl rfl rfl ?c1 ?c2 ?c3 ?_)
  case c1 => rw [hz2]; omega
  case c2 => unfold maxLen; omega
  case c3 => omega
  intro w1 hown hg
  have H0 : Hid (Copied w1 w.heap.size w.heap.size xs 0) := ⟨List.replicate xs.length 0, by simp, OwnI.of_made hown, by simp⟩
  have hb1 : Below w.heap.size w w1 := below_of_grownBy hg (Nat.le_refl _) (fun k h => by cases h)
  have HB := Lib.hid hb1
  clear hown hg hb1 hi hz0 hz1 hz2
  go_wp2
  go_loopw [4] (fun i wr => ∃ k : Nat, k ≤ xs.length ∧ i = .int .i64 k ∧ Copied wr w.heap.size w.heap.size xs k ∧ Below w.heap.size w wr) (fun i _ => xs.length - (intOf i).toNat)
  case atStart => exact ⟨0, Nat.zero_le _, rfl, H0.out, HB.out⟩
  case round =>
    obtain ⟨k, hk, rfl, hcp, hb⟩ := hrel
    have HC := Lib.hid hcp
    have HBr := Lib.hid hb
    clear hcp hb
    by_cases hlt : k < xs.length
    · obtain ⟨b1, o1, x, rfl, hxk, hb1, hc1⟩ := hx.at hlt
      have hc2 := (HBr.out.cell (p := ⟨b1, o1 + k, none⟩) hb1).trans hc1
      obtain ⟨z, hz, hf⟩ : ∃ z, wr.cell? ⟨w.heap.size, k, none⟩ = some (.int .i64 z) ∧ wr.frozen? ⟨w.heap.size, k, none⟩ = false := by
        obtain ⟨zs, hl, ho, _⟩ := HC.out
        obtain ⟨z, _, h1, h2⟩ := ho.cellAt hl.symm (k := k) (by omega)
        exact ⟨z, h1, h2⟩
      have HX := Lib.hid hxk
      clear hxk hx hc1
      go_wp2
      go_roundw
      case rel => exact ⟨k + 1, by omega, by go_num, HC.out.step HX.out, HBr.out.setCell (Nat.le_refl _) _⟩
      case measure => simp [intOf]; omega
    · clear hx
      obtain rfl : k = xs.length := by omega
      go_wp2
      go_ret
      exact ⟨rfl, HC.out.fin, HBr.out⟩

end Go.Proofs.Ythnjfdhijpfekaa
namespace Go.Proofs.Ythnjfdhijpfekaa
open Go.RowKit

theorem marks_of {k : Int} {zs : List Int} (h : ∀ i, i < zs.length → zs[i]? = some (k + i)) : zs = marks k zs.length := by
  apply List.ext_getElem?
  intro i
  by_cases hi : i < zs.length
  · rw [h i hi, marks_at hi]
  · rw [List.getElem?_eq_none (by omega), List.getElem?_eq_none (by rw [marks_len]; omega)]

/-- after j rounds -/
def Marked (w0 w : World) (base : Nat) (v : Value) (n j : Nat) (m : Int) : Prop :=
  ∃ zs : List Int, zs.length = n ∧ OwnI w base v zs ∧ (∀ i, i < j → zs[i]? = some (m + i)) ∧ w0.grownBy w v.ownBlock ∧ w.heap.size = w0.heap.size

theorem Marked.step {w0 w : World} {base g n c j : Nat} {m : Int} (h : Marked w0 w base (.slice (some ⟨g, 0, none⟩) n c) n j m) (hj : j < n) :
    Marked w0 (w.setCell ⟨g, j, none⟩ (.int .i64 (m + j))) base (.slice (some ⟨g, 0, none⟩) n c) n (j + 1) m := by
  obtain ⟨zs, hl, ho, hz, hg, hs⟩ := h
  subst hl
  have hst := World.ownsRow.stored (h := ho) j (.int .i64 (m + j))
  refine ⟨zs.set j (m + j), by simp, ?_, ?_, grownBy_trans hg hst.2, by simpa using hs⟩
  · have h1 := hst.1
    unfold OwnI
    rw [List.map_set, List.length_set]
    exact h1
  · intro i hi
    rw [List.getElem?_set]
    by_cases e : j = i
    · subst e; simp [hj]
    · rw [if_neg e]; exact hz i (by omega)

theorem Marked.fin {w0 w : World} {base : Nat} {v : Value} {n : Nat} {m : Int} (h : Marked w0 w base v n n m) :
    OwnI w base v (marks m n) ∧ w0.grownBy w v.ownBlock := by
  obtain ⟨zs, hl, ho, hz, hg, _⟩ := h
  subst hl
  rw [← marks_of hz]
  exact ⟨ho, hg⟩

theorem Marked.cell {w0 w : World} {base : Nat} {a : Option Addr} {c n j : Nat} {m : Int} (h : Marked w0 w base (.slice a n c) n j m) (hj : j < n) :
    ∃ g z, a = some ⟨g, 0, none⟩ ∧ base ≤ g ∧ w.cell? ⟨g, j, none⟩ = some (.int .i64 z) ∧ w.frozen? ⟨g, j, none⟩ = false := by
  obtain ⟨zs, hl, ho, hz, hg, _⟩ := h
  subst hl
  obtain ⟨g, rfl, hb, _, _⟩ := ho.block (by omega)
  obtain ⟨z, _, h1, h2⟩ := ho.cellAt rfl hj
  exact ⟨g, z, rfl, hb, h1, h2⟩

set_option maxHeartbeats 400000 in
theorem markInt64S_any (a : Option Addr) (xs : List Int) (c base : Nat) (m : Int) (w : World) (ho : OwnI w base (.slice a xs.length c) xs)
    (lx : xs.length ≤ 1099511627776) (hm0 : 0 ≤ m) (hm : m ≤ 1099511627776) :
    Calls Try.prog 41 #[.slice a xs.length c, .int .i64 m] w fun e w' => e = .returned (.int .i64 (m + xs.length)) ∧ OwnI w' base (.slice a xs.length c) (marks m xs.length) ∧ w.grownBy w' (Value.ownBlock (.slice a xs.length c)) := by
  have h0 : Marked w w base (.slice a xs.length c) xs.length 0 m := ⟨xs, rfl, ho, fun i hi => absurd hi (by omega), World.grownBy.refl _ _, rfl⟩
  clear ho
  have H0 := Lib.hid h0
  clear h0
  go_enter Try.func41, Try.ntmps41
  go_wp2
  go_loopw [1, 5] (fun q i wr => ∃ k : Nat, k ≤ xs.length ∧ i = .int .i64 k ∧ q = .int .i64 (m + k) ∧ Marked w wr base (.slice a xs.length c) xs.length k m) (fun _ i _ => xs.length - (intOf i).toNat)
  case atStart => exact ⟨0, Nat.zero_le _, rfl, by simp, H0.out⟩
  case round =>
    obtain ⟨k, hk, rfl, rfl, ht⟩ := hrel
    have HT := Lib.hid ht
    clear ht
    by_cases hlt : k < xs.length
    · obtain ⟨g, z, rfl, hb1, hc1, hf1⟩ := HT.out.cell hlt
      go_wp2
      go_roundw
      case rel => exact ⟨k + 1, by omega, by go_num, by go_num, HT.out.step hlt⟩
      case measure => simp [intOf]; omega
    · go_wp2
      go_ret
      obtain rfl : k = xs.length := by omega
      exact ⟨rfl, HT.out.fin⟩

end Go.Proofs.Ythnjfdhijpfekaa
namespace Go.Proofs.Ythnjfdhijpfekaa
open Go.RowKit

/-- what is left of a bound -/
def leftOf (l : Int) (n : Nat) : Int := if l - n < 0 then -1 else l - n

set_option maxHeartbeats 400000 in
theorem szInt64S_any (a : Option Addr) (n c : Nat) (l : Int) (w : World) (hn : n ≤ maxLen) (h0 : -1 ≤ l) (hl : l ≤ 1099511627776) :
    Calls Try.prog 35 #[.slice a n c, .int .i64 l] w fun e w' => e = .returned (.int .i64 (leftOf l n)) ∧ w = w' := by
  unfold maxLen at hn
  by_cases h : l - n < 0
  · have e : leftOf l n = -1 := by rw [leftOf, if_pos h]
    have E := Lib.hid e
    clear e
    go_enter Try.func35, Try.ntmps35
    go_wp2
    go_ret
    exact ⟨ret_int E.out.symm, rfl⟩
  · have e : leftOf l n = l - n := by rw [leftOf, if_neg h]
    have E := Lib.hid e
    clear e
    go_enter Try.func35, Try.ntmps35
    go_wp2
    go_ret
    exact ⟨ret_int E.out.symm, rfl⟩

end Go.Proofs.Ythnjfdhijpfekaa
namespace Go.Proofs.Ythnjfdhijpfekaa
open Go.RowKit

theorem eq_of_take {α : Type} {xs ys : List α} {k : Nat} (h : xs.take k = ys.take k) (hl : xs.length = ys.length) (hk : xs.length ≤ k) : xs = ys := by
  rwa [List.take_of_length_le hk, List.take_of_length_le (by omega)] at h

theorem ne_of_at {α : Type} {xs ys : List α} {k : Nat} {x y : α} (hx : xs[k]? = some x) (hy : ys[k]? = some y) (h : x ≠ y) : xs ≠ ys := by
  intro e; subst e; rw [hx] at hy; exact h (Option.some.inj hy)

set_option maxHeartbeats 400000 in
theorem eqInt64S_any (a b : Option Addr) (xs ys : List Int) (c d : Nat) (w : World) (hx : IntsAt w a xs) (hy : IntsAt w b ys)
    (lx : xs.length ≤ maxLen) (_ly : ys.length ≤ maxLen) :
    Calls Try.prog 40 #[.slice a xs.length c, .slice b ys.length d] w fun e w' => e = .returned (.bool (decide (xs = ys))) ∧ ∃ n, w' = w.drewN n := by
  unfold maxLen at lx
  by_cases hl : xs.length = ys.length
  · have hl' : (((xs.length : Nat) : Int) != ((ys.length : Nat) : Int)) = false := by simp [hl]
    go_enter Try.func40, Try.ntmps40
    go_wp2
    go_loopw [5] (fun i wr => ∃ k n : Nat, k ≤ xs.length ∧ i = .int .i64 k ∧ xs.take k = ys.take k ∧ wr = w.drewN n) (fun i _ => xs.length - (intOf i).toNat)
    case atStart => exact ⟨0, 0, Nat.zero_le _, rfl, rfl, rfl⟩
    case round =>
      obtain ⟨k, n, hk, rfl, ht, rfl⟩ := hrel
      have HL := Lib.hid hl
      have HT := Lib.hid ht
      clear hl ht
      by_cases hlt : k < xs.length
      · obtain ⟨b1, o1, x, rfl, hxk, hb1, hc1⟩ := hx.at hlt
        obtain ⟨b2, o2, y, rfl, hyk, hb2, hc2⟩ := hy.at (k := k) (by rw [← HL.out]; exact hlt)
        have HX := Lib.hid hxk
        have HY := Lib.hid hyk
        have hlt2 : (k : Int) < (ys.length : Int) := by rw [← HL.out]; omega
        clear hxk hyk hx hy
        by_cases hxy : x = y
        · have hxy' : (x != y) = false := by simp [hxy]
          have HE := Lib.hid hxy
          clear hxy
          go_wp2_with fail
          go_quiet (fail)
          go_wp2
          go_roundw
          case rel => exact ⟨k + 1, _, by omega, by go_num, by rw [take_snoc' HX.out, take_snoc' HY.out, HT.out, HE.out], rfl⟩
          case measure => simp [intOf]; omega
        · have hxy' : (x != y) = true := by simp [hxy]
          have HE := Lib.hid hxy
          clear hxy
          go_wp2_with fail
          go_quiet (fail)
          go_wp2
          go_ret
          exact ⟨ret_bool (by simp [ne_of_at HX.out HY.out HE.out]), _, World.drewN_drewN _ _ _⟩
      · clear hx hy
        go_wp2
        go_ret
        exact ⟨ret_bool (by simp [eq_of_take HT.out HL.out (by omega)]), _, rfl⟩
  · have hl' : (((xs.length : Nat) : Int) != ((ys.length : Nat) : Int)) = true := by simp; omega
    have hne : xs ≠ ys := fun e => hl (by rw [e])
    have HE := Lib.hid hne
    clear hne hl hx hy
    go_enter Try.func40, Try.ntmps40
    go_wp2
    go_ret
    exact ⟨ret_bool (by simp [HE.out]), 0, rfl⟩

end Go.Proofs.Ythnjfdhijpfekaa
namespace Go.Proofs.Ythnjfdhijpfekaa
open Go.RowKit

/-- a raster of the call's own is handed back -/
def RetRasL (w : World) (x1 x2 : Int) (xs : List Int) (e : Ending) (w' : World) : Prop :=
  ∃ a c, e = .returned (.agg #[.int .i64 x1, .int .i64 x2, .slice a xs.length c]) ∧ OwnI w' w.heap.size (.slice a xs.length c) xs ∧ Below w.heap.size w w'

set_option maxHeartbeats 1000000 in
theorem toRaster_any (x1 x2 : Int) (a : Option Addr) (xs : List Int) (c : Nat) (w : World) (hx : IntsAt w a xs) (lx : xs.length ≤ 1099511627776) :
    Calls Try.prog 10 #[.agg #[.int .i64 x1, .int .i64 x2, .slice a xs.length c]] w (RetRasL w x1 x2 xs) := by
  have HX := Lib.hid hx
  clear hx
  go_enter Try.func10, Try.ntmps10
  go_wp2_with fail
  refine (toInt64S_any _ _ _ _ (HX.out.below (ba3 _ _ _ _)) lx).mono ?_
  rintro e w2 ⟨rfl, ho, hb2⟩
  obtain ⟨hc2, hf2⟩ := bcell hb2
  have HB3 := Lib.hid (bt3 hb2)
  have HO : Hid (OwnI w2 (w.heap.size + 1 + 1 + 1) (.slice (some ⟨w.heap.size + 1 + 1 + 1, 0, none⟩) xs.length xs.length) xs) := by
    show OwnI _ _ _ _
    simpa using ho
  clear ho
  have hz2 : w.heap.size + 1 + 1 < w2.heap.size := by have := hb2.size; simp at this; omega
  go_wp2_with fail
  refine bodyPost_ret (v := .agg #[.int .i64 x1, .int .i64 x2, .slice (some ⟨w.heap.size + 1 + 1 + 1, 0, none⟩) xs.length xs.length]) (by simp [results, Try.results10, go_sem, hc2]) rfl ⟨_, _, rfl, ?_, ?_⟩
  · refine OwnI.weak (base := w.heap.size + 1 + 1 + 1) ?_ (by omega)
    iterate 4 (refine OwnI.setOld ?_ (by dsimp only; omega) _)
    exact HO.out
  · iterate 4 (refine Below.setCell ?_ (by dsimp only; omega) _)
    exact HB3.out

set_option maxHeartbeats 1000000 in
theorem markRaster_any (x1 x2 : Int) (a : Option Addr) (xs : List Int) (c base : Nat) (m : Int) (w : World) (ho : OwnI w base (.slice a xs.length c) xs)
    (lx : xs.length ≤ 1099511627776) (hm0 : 0 ≤ m) (hm : m ≤ 1099511627776) :
    Calls Try.prog 14 #[.agg #[.int .i64 x1, .int .i64 x2, .slice a xs.length c], .int .i64 m] w fun e w' => e = .returned (.int .i64 (m + xs.length)) ∧
      OwnI w' base (.slice a xs.length c) (marks m xs.length) ∧ w.grownBy w' (Value.ownBlock (.slice a xs.length c)) := by
  have HO := Lib.hid ho
  clear ho
  go_enter Try.func14, Try.ntmps14
  go_wp2_with fail
  refine (markInt64S_any _ _ _ base _ _ (HO.out.grown (ba1 _ _)) lx hm0 hm).mono ?_
  rintro e w1 ⟨rfl, ho1, hg1⟩
  have HO1 := Lib.hid ho1
  have HG1 := Lib.hid hg1
  clear ho1 hg1
  go_wp2_with fail
  go_ret
  exact ⟨rfl, HO1.out, grownBy_trans (World.grownBy_alloc _ _ _) HG1.out⟩

set_option maxHeartbeats 1000000 in
theorem heldRaster_marks {x1 x2 : Int} {a : Option Addr} {n c : Nat} {m : Int} {w : World} (hx : IntsAt w a (marks m n)) (ln : n ≤ 1099511627776) (hm0 : 0 ≤ m) (hm : m ≤ 1099511627776) :
    Calls Try.prog 15 #[.agg #[.int .i64 x1, .int .i64 x2, .slice a n c], .int .i64 m] w fun e w' => e = .returned (.int .i64 (m + n)) ∧ Below w.heap.size w w' := by
  have HX := Lib.hid hx
  clear hx
  go_enter Try.func15, Try.ntmps15
  go_wp2_with fail
  refine (heldInt64S_marks (HX.out.below (ba1 _ _)) ln hm0 hm).mono ?_
  rintro e w1 ⟨rfl, rfl⟩
  go_wp2_with fail
  go_ret
  exact ⟨rfl, ba1 _ _⟩

set_option maxHeartbeats 1000000 in
theorem szRaster_any (x1 x2 : Int) (a : Option Addr) (n c : Nat) (l : Int) (w : World) (hn : n ≤ maxLen) (h0 : -1 ≤ l) (hl : l ≤ 1099511627776) :
    Calls Try.prog 8 #[.agg #[.int .i64 x1, .int .i64 x2, .slice a n c], .int .i64 l] w fun e w' => e = .returned (.int .i64 (leftOf l n)) ∧ Below w.heap.size w w' := by
  have a1 : -1 ≤ leftOf l n := by unfold leftOf; split <;> omega
  have a2 : leftOf l n ≤ l := by unfold leftOf; split <;> omega
  obtain ⟨r, hr⟩ : ∃ r, leftOf l n = r := ⟨_, rfl⟩
  rw [hr] at a1 a2
  have HR := Lib.hid hr
  clear hr
  by_cases h : r < 0
  all_goals
    go_enter Try.func8, Try.ntmps8
    go_wp2_with fail
    refine (szInt64S_any _ _ _ _ _ hn h0 hl).mono ?_
    rintro e w1 ⟨rfl, rfl⟩
    rw [HR.out]
    go_wp2_with fail
    go_ret
    exact ⟨ret_int (by rw [HR.out]; try omega), ba1 _ _⟩

/-- two rasters -/
def eqRasB (x1 x2 : Int) (xs : List Int) (y1 y2 : Int) (ys : List Int) : Bool := x1 == y1 && x2 == y2 && decide (xs = ys)
set_option maxHeartbeats 1000000 in
theorem eqRaster_same {x1 x2 : Int} {a : Option Addr} {xs : List Int} {c : Nat} {b : Option Addr} {d : Nat} {w : World}
    (hx : IntsAt w a xs) (hy : IntsAt w b xs) (lx : xs.length ≤ maxLen) :
    Calls Try.prog 13 #[.agg #[.int .i64 x1, .int .i64 x2, .slice a xs.length c], .agg #[.int .i64 x1, .int .i64 x2, .slice b xs.length d]] w
      fun e w' => e = .returned (.bool true) ∧ Below w.heap.size w w' := by
  have HX := Lib.hid hx
  have HY := Lib.hid hy
  clear hx hy
  have e1 : (x1 != x1) = false := by simp
  have e2 : (x2 != x2) = false := by simp
  go_enter Try.func13, Try.ntmps13
  go_wp2_with fail
  refine (eqInt64S_any _ _ _ _ _ _ _ (HX.out.below (ba2 _ _ _)) (HY.out.below (ba2 _ _ _)) lx lx).mono ?_
  rintro e w2 ⟨rfl, n, rfl⟩
  rw [decide_eq_true rfl]
  go_wp2_with fail
  go_ret
  exact ⟨rfl, below_drewN (ba2 _ _ _) n⟩

/-! The calls of a law on rasters, said in facts. -/
theorem toRaster_f {L : List Fact} {x1 x2 : Int} {a : Option Addr} {xs : List Int} {c : Nat} {w : World} (h : Facts L w) (hx : IntsAt w a xs) (lx : xs.length ≤ 1099511627776) :
    Calls Try.prog 10 #[.agg #[.int .i64 x1, .int .i64 x2, .slice a xs.length c]] w fun e w' =>
      ∃ a' c', e = .returned (.agg #[.int .i64 x1, .int .i64 x2, .slice a' xs.length c']) ∧ Facts (Fact.own w.heap.size w'.heap.size (.slice a' xs.length c') xs :: L) w' ∧ w.heap.size ≤ w'.heap.size :=
  (toRaster_any x1 x2 a xs c w hx lx).mono fun _ _ ⟨a', c', he, ho, hb⟩ => ⟨a', c', he, h.own hb ho, hb.size⟩
theorem markRaster_f {L : List Fact} {x1 x2 : Int} {a : Option Addr} {xs : List Int} {c : Nat} {m : Int} {w : World} (h : Facts L w) (i : Nat) {lo hi : Nat} (hF : L[i]? = some (Fact.own lo hi (.slice a xs.length c) xs))
    (lx : xs.length ≤ 1099511627776) (hm0 : 0 ≤ m) (hm : m ≤ 1099511627776) :
    Calls Try.prog 14 #[.agg #[.int .i64 x1, .int .i64 x2, .slice a xs.length c], .int .i64 m] w fun e w' => e = .returned (.int .i64 (m + xs.length)) ∧ Facts (L.set i (Fact.own lo hi (.slice a xs.length c) (marks m xs.length))) w' ∧ w.heap.size ≤ w'.heap.size :=
  (markRaster_any x1 x2 a xs c lo m w (h.get i hF).1 lx hm0 hm).mono fun _ _ ⟨he, ho, hg⟩ => ⟨he, h.turnOwn i hF hg ho, hg.size⟩
theorem heldRaster_f {L : List Fact} {x1 x2 : Int} {a : Option Addr} {n c : Nat} {m : Int} {w : World} (h : Facts L w) (i : Nat) {lo hi : Nat} (hF : L[i]? = some (Fact.own lo hi (.slice a n c) (marks m n)))
    (lx : n ≤ 1099511627776) (hm0 : 0 ≤ m) (hm : m ≤ 1099511627776) :
    Calls Try.prog 15 #[.agg #[.int .i64 x1, .int .i64 x2, .slice a n c], .int .i64 m] w fun e w' => e = .returned (.int .i64 (m + n)) ∧ Facts L w' ∧ w.heap.size ≤ w'.heap.size :=
  (heldRaster_marks (ownF_ints (h.get i hF)) lx hm0 hm).mono fun _ _ ⟨he, hb⟩ => ⟨he, h.below hb, hb.size⟩
theorem eqRaster_f {L : List Fact} {x1 x2 : Int} {a b : Option Addr} {xs : List Int} {c d : Nat} {w : World} (h : Facts L w) (hx : IntsAt w a xs) (hy : IntsAt w b xs) (lx : xs.length ≤ maxLen) :
    Calls Try.prog 13 #[.agg #[.int .i64 x1, .int .i64 x2, .slice a xs.length c], .agg #[.int .i64 x1, .int .i64 x2, .slice b xs.length d]] w fun e w' =>
      e = .returned (.bool true) ∧ Facts L w' ∧ w.heap.size ≤ w'.heap.size :=
  (eqRaster_same hx hy lx).mono fun _ _ ⟨he, hb⟩ => ⟨he, h.below hb, hb.size⟩

/-! Damages by value. -/
theorem toDamage_any (k r c t g v : Int) (w : World) :
    Calls Try.prog 11 #[.agg #[.int .i64 k, .int .i64 r, .int .i64 c, .int .i64 t, .int .i64 v, .int .i64 g]] w fun e w' => e = .returned (.agg #[.int .i64 k, .int .i64 r, .int .i64 c, .int .i64 t, .int .i64 v, .int .i64 g]) ∧ Below w.heap.size w w' := by
  go_enter Try.func11, Try.ntmps11
  go_wp2
  exact bodyPost_ret (v := .agg #[.int .i64 k, .int .i64 r, .int .i64 c, .int .i64 t, .int .i64 v, .int .i64 g]) (by simp [results, Try.results11, go_sem]) rfl ⟨rfl, (((Below.refl _ _).alloc (Nat.le_refl _) _).alloc (by simp) _).alloc (by simp; omega) _⟩
theorem toDamage_f {L : List Fact} {k r c t g v : Int} {w : World} (h : Facts L w) :
    Calls Try.prog 11 #[.agg #[.int .i64 k, .int .i64 r, .int .i64 c, .int .i64 t, .int .i64 v, .int .i64 g]] w fun e w' => e = .returned (.agg #[.int .i64 k, .int .i64 r, .int .i64 c, .int .i64 t, .int .i64 v, .int .i64 g]) ∧ Facts L w' ∧ w.heap.size ≤ w'.heap.size :=
  (toDamage_any k r c t g v w).mono fun _ _ ⟨he, hb⟩ => ⟨he, h.below hb, hb.size⟩

end Go.Proofs.Ythnjfdhijpfekaa
