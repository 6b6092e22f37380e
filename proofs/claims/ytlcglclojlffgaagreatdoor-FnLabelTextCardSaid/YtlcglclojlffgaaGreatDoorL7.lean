import Derived.Test.YtlcglclojlffgaaGreatDoorL0
import Derived.Test.YtlcglclojlffgaaGreatDoorShelf
import Derived.Lib.ItoaLen
import Derived.Lib.ItoaMem
import Derived.Test.YtlcglclojlffgaaGreatDoorCards
import Derived.Test.YtlcglclojlffgaaGreatDoorTie
import Derived.ProofKit
import Derived.OpenShut
import Derived.Deep.DeepHandedRow
import Derived.Lib.LaidTab
import Derived.Stop.LaidErr
import Derived.Lib.ParseIntBTie
import Derived.ChangeSlices
import Derived.Lib.AppendStr
import Derived.Laws.BytesArg
import Derived.Test.YtlcglclojlffgaaGreatDoorL4
import Derived.Test.YtlcglclojlffgaaGreatDoorL5
import Derived.Test.YtlcglclojlffgaaGreatDoorL3
import Derived.Test.YtlcglclojlffgaaGreatDoorL1
import Derived.Deep.RegionWith
import Derived.IntWalk
import Derived.Test.YtlcglclojlffgaaGreatDoorL2
import Derived.Lib.Join
namespace Go.Proofs.YtlcglclojlffgaaGreatDoor
open Go.RowKit

/-- the library's table of powers of ten lies in memory -/
def Tab (w : World) : Prop := Lib.TabIs Tryz.prog w "internal/strconv.uint64pow10" .u64 Lib.pow10Tab

theorem gTab : Tryz.prog.globalNamed "internal/strconv.uint64pow10" = some 5 := by kernel_rfl

theorem Tab.lt {w : World} (h : Tab w) : 5 < w.heap.size := by
  have hc := Lib.TabIs.cell h gTab 0 (by decide)
  exact lt_of_cell hc

theorem Tab.below {w w' : World} {B : Nat} (h : Tab w) (hb : Below B w w') (hB : 5 < B) : Tab w' :=
  var?_below hb gTab hB h

theorem Tab.next {w w' : World} (h : Tab w) (hb : Below w.heap.size w w') : Tab w' := h.below hb h.lt

theorem Tab.alloc {w : World} (h : Tab w) (o : Obj) : Tab (w.alloc o) := h.next ((Below.refl _ _).alloc (Nat.le_refl _) _)
theorem Tab.ext {w : World} (h : Tab w) (s : Ext w) : Tab s.w := h.next s.below

/-- a number in decimal -/
def decB (n : Int) : ByteArray := ⟨(Lib.itoa n).toArray⟩

theorem decB_size (n : Int) : (decB n).size = (Lib.itoa n).length := by simp [decB, ByteArray.size]

theorem below_grow (w : World) (k : Nat) (os : Array Obj) : Below w.heap.size w (Go.Sort.grow (w.drewN k) os) := by
  refine ⟨rfl, rfl, rfl, ?_, ?_⟩
  · simp [Go.Sort.grow, World.drewN]
  · intro i hi
    simp only [Go.Sort.grow, World.drewN]
    rw [Array.getElem?_append_left hi]

theorem formatInt_any (n : Int) (w : World) (h0 : -9223372036854775808 ≤ n) (h1 : n ≤ 9223372036854775807) (ht : Tab w) :
    Calls Tryz.prog 177 #[.int .i64 n, .int .i64 10] w fun e w' => e = .returned (.string (decB n)) ∧ Below w.heap.size w w' :=
  (Tryz.strconv_FormatInt_10 n h0 h1 w ht).mono fun _ _ ⟨he, k, os, hw⟩ => ⟨he, by rw [hw]; exact below_grow _ _ _⟩

end Go.Proofs.YtlcglclojlffgaaGreatDoor
namespace Go.Proofs.YtlcglclojlffgaaGreatDoor
open Go.ChangeShapes Go.WideShapes Go.ChangeAt Go.RowKit

theorem ownLaw : ownKnob Tryz.prog.godebug = none := by kernel_rfl
theorem laidOutLaw : laidOutB Tryz.prog = true := by kernel_rfl
theorem gTabType : (Tryz.prog.globals[5]?).map (·.type) = some 192 := by kernel_rfl
theorem cellsTab : Tryz.prog.cellsOf 192 = 20 := by kernel_rfl
theorem cellsU64 : Tryz.prog.cellsOf 134 = 1 := by kernel_rfl

/-- the arguments read behind a call that keeps memory as they did -/
theorem trodAll_below {H : Type} {enc : TypeId × Value → H} {P : Program} (hl : laidOutB P = true) {W W' : World} (hb : Below W.heap.size W W') :
    ∀ (ts : List TypeId) (vs : List Value) (ds : List (DataW H)) (ps : List MemPlace), (∀ t ∈ ts, P.readableRec t = true ∧ t < P.types.size) → DataW.TrodAll enc P W 0 (fun _ => true) true ts vs ds ps → (∀ x ∈ ps, x.block < W.heap.size) →
      DataW.TrodAll enc P W' 0 (fun b => decide (b < W.heap.size)) true ts vs ds ps
  | [], [], [], ps, _, h, _ => h
  | t :: ts, v :: vs, d :: ds, ps, hr, h, hlt => by
    obtain ⟨p, q, h1, h2, rfl⟩ := h
    refine ⟨p, q, ?_, ?_, rfl⟩
    · exact Below.trod hl (hr t (by simp)).1 (hr t (by simp)).2 h1 hb (fun x hx => hlt x (by simp [hx]))
    · exact trodAll_below hl hb ts vs ds q (fun t ht => hr t (by simp [ht])) h2 (fun x hx => hlt x (by simp [hx]))

/-- what a law owes behind its call -/
theorem law_post {H : Type} {enc : TypeId × Value → H} {f : Func} {s : ChangeSpec} {W W' : World} {args : Array Value} {ds gs : List (DataW H)} {before : List MemPlace}
    (hW : DataW.Whole enc Tryz.prog f.params.toList s.vars false W args.toList ds gs before) (hv : s.vars = []) (hres : f.resultTypes = #[4]) (hb : Below W.heap.size W W')
    (hfn : ∀ gs, gs = [] → s.fn H (ds ++ gs) = { results := [.lit (.bool true)], args := ds }) (hr : ∀ t ∈ f.params.toList, Tryz.prog.readableRec t = true ∧ t < Tryz.prog.types.size) :
    s.post enc Tryz.prog f false true false false W args (.bool true) W' := by
  have hW' := hW
  obtain ⟨p, q, hA, hV, rfl, hfz, hnd⟩ := hW
  rw [hv] at hV
  obtain ⟨rfl, rfl⟩ := trodVars_none hV
  have hlt : ∀ x ∈ p ++ [], x.block < W.heap.size := hW'.lt
  refine ⟨ds, [], p ++ [], [], p, [], hW', ?_, ?_, ?_, hb.frame _, fun h => by cases h⟩
  · rw [hfn [] rfl, hres]
    exact trodAll_mk1 (shut_bool Tryz.underlying4 _)
  · rw [hfn [] rfl]
    exact trodAll_below laidOutLaw hb _ _ _ _ hr hA (fun x hx => hlt x (by simpa using hx))
  · rw [hfn [] rfl, hv]
    exact rfl

end Go.Proofs.YtlcglclojlffgaaGreatDoor
namespace Go.Proofs.YtlcglclojlffgaaGreatDoor
open Go.ChangeShapes Go.WideShapes Go.ChangeAt Go.RowKit

/-- a block with other cells -/
def withCells (cs : Array Value) : Obj → Obj
  | .cells _ t frozen => .cells cs t frozen
  | o => o
theorem laidMet_mem {P : Program} {W : World} {x : String × DataW Unit} : ∀ {laid : List (String × DataW Unit)}, laidMet P laid W → x ∈ laid → ∃ r, laidMet P (x :: r) W
  | y :: r, h, hm => by
    rcases List.mem_cons.1 hm with rfl | hm
    · exact ⟨r, h⟩
    · exact laidMet_mem h.tail hm

/-- the table of powers lies in memory -/
theorem tab_of {W : World} {laid : List (String × DataW Unit)} (h : laidMet Tryz.prog laid W) (hm : ("internal/strconv.uint64pow10", Lib.tabData .u64 Lib.pow10Tab) ∈ laid) : Tab W := by
  obtain ⟨r, hr⟩ := laidMet_mem h hm
  exact Lib.tabIs_of_head gTab gTabType Tryz.underlying192 Tryz.underlying134 cellsU64 cellsTab hr

end Go.Proofs.YtlcglclojlffgaaGreatDoor
namespace Go.Proofs.YtlcglclojlffgaaGreatDoor
open Go.RowKit

/-- what the library's variables hold -/
structure Env (w : World) : Prop where
  tab : Tab w
  syn : ∃ tp p, w.var? Tryz.prog "strconv.ErrSyntax" = some #[.iface tp p]
  rng : ∃ tp p, w.var? Tryz.prog "strconv.ErrRange" = some #[.iface tp p]
  mx : ∃ m, w.cell? ⟨0, 0, none⟩ = some (.int .i64 m)

theorem gSyn : Tryz.prog.globalNamed "strconv.ErrSyntax" = some 1 := by kernel_rfl
theorem gRng : Tryz.prog.globalNamed "strconv.ErrRange" = some 2 := by kernel_rfl
theorem var_lt {w : World} {n : String} {g : Nat} {v : Value} (hg : Tryz.prog.globalNamed n = some g) (h : w.var? Tryz.prog n = some #[v]) : g < w.heap.size :=
  lt_of_cell (v := v) (by have := World.var?_cell hg h 0; simpa using this)
theorem Env.next {w w' : World} (h : Env w) (hb : Below w.heap.size w w') : Env w' := by
  obtain ⟨t, ⟨a, b, hs⟩, ⟨c, d, hr⟩, ⟨m, hm⟩⟩ := h
  exact ⟨t.next hb, ⟨a, b, var?_below hb gSyn (var_lt gSyn hs) hs⟩, ⟨c, d, var?_below hb gRng (var_lt gRng hr) hr⟩, ⟨m, by rw [hb.cell (p := ⟨_, 0, none⟩) (lt_of_cell hm)]; exact hm⟩⟩
theorem Env.alloc {w : World} (h : Env w) (o : Obj) : Env (w.alloc o) := h.next (ba1 w o)

theorem below_bytes {w w' : World} (h : w' = w ∨ ∃ t, w' = Lib.bytesWorld w 5 t) : Below w.heap.size w w' := by
  rcases h with rfl | ⟨t, rfl⟩
  · exact Below.refl _ _
  · exact Lib.bytesWorld_below _ _ _

/-- what ParseInt gives: the number, and whether it read one -/
theorem parse_any (s : ByteArray) (w : World) (hs : s.size ≤ 281474976710656) (hE : Env w) :
    Calls Tryz.prog 53 #[.string s, .int .i64 10, .int .i64 64] w fun e w' =>
      ((∃ n, Lib.parseIntB 64 s.data.toList = .ok n ∧ e = .returned (.tuple #[.int .i64 n, .nilIface])) ∨
       ((∀ n, Lib.parseIntB 64 s.data.toList ≠ .ok n) ∧ ∃ v t p, e = .returned (.tuple #[.int .i64 v, .iface t p]))) ∧ Below w.heap.size w w' := by
  obtain ⟨_, ⟨a, b, hsy⟩, ⟨c, d, hrg⟩, _⟩ := hE
  cases hp : Lib.parseIntB 64 s.data.toList with
  | ok n => exact (Tryz.strconv_ParseInt_10_at64_ok s (by omega) n hp w).mono fun e w' ⟨he, hw⟩ => ⟨.inl ⟨n, rfl, he⟩, below_bytes hw⟩
  | «syntax» => exact (Tryz.strconv_ParseInt_10_at64_syntax_var s hs hp a b w hsy).mono fun e w' ⟨N, he, _, _, hb⟩ => ⟨.inr ⟨fun n h => (by cases h), _, _, _, he⟩, hb⟩
  | range => exact (Tryz.strconv_ParseInt_10_at64_range_var s hs hp c d w hrg).mono fun e w' ⟨N, he, _, _, hb⟩ => ⟨.inr ⟨fun n h => (by cases h), _, _, _, he⟩, hb⟩

end Go.Proofs.YtlcglclojlffgaaGreatDoor
namespace Go.Proofs.YtlcglclojlffgaaGreatDoor
open Go.ChangeShapes Go.WideShapes Go.ChangeAt Go.RowKit

theorem star : "*" ++ "errors.errorString" = "*errors.errorString" := by decide
theorem rowErr (u : TypeId) (h : Tryz.prog.typeName? 3 u = some "*errors.errorString") : u = 177 :=
  typeName_ptr_named (nm := "errors.errorString") (by rw [star]; kernel_rfl) (by kernel_rfl) (by decide) u (by rw [star]; exact h)
theorem gSynType : (Tryz.prog.globals[1]?).map (·.type) = some 94 := by kernel_rfl
theorem gRngType : (Tryz.prog.globals[2]?).map (·.type) = some 94 := by kernel_rfl
theorem cellsErr : Tryz.prog.cellsOf 179 = 1 := by kernel_rfl
theorem cellsStr2 : Tryz.prog.cellsOf 9 = 1 := by kernel_rfl

/-- what a row that lists the library's variables gives -/
theorem env_of {W : World} {laid : List (String × DataW Unit)} (h : laidMet Tryz.prog laid W) (hsh : W.ShapedOpen Tryz.prog) (hm : ("internal/strconv.uint64pow10", Lib.tabData .u64 Lib.pow10Tab) ∈ laid)
    (hs : ∃ t, (("strconv.ErrSyntax", .iface "*errors.errorString" (.ptr (.agg [.lit (.string t)]))) : String × DataW Unit) ∈ laid)
    (hr : ∃ t, (("strconv.ErrRange", .iface "*errors.errorString" (.ptr (.agg [.lit (.string t)]))) : String × DataW Unit) ∈ laid) : Env W := by
  obtain ⟨ts, hs⟩ := hs
  obtain ⟨tr, hr⟩ := hr
  obtain ⟨rs, hrs⟩ := laidMet_mem h hs
  obtain ⟨rr, hrr⟩ := laidMet_mem h hr
  obtain ⟨a1, s1, hv1, _⟩ := laid_sentinel hrs gSyn gSynType Tryz.underlying94 rowErr Tryz.underlying177 Tryz.underlying179 rfl rfl Tryz.underlying9 cellsErr cellsStr2
  obtain ⟨a2, s2, hv2, _⟩ := laid_sentinel hrr gRng gRngType Tryz.underlying94 rowErr Tryz.underlying177 Tryz.underlying179 rfl rfl Tryz.underlying9 cellsErr cellsStr2
  exact ⟨tab_of h hm, ⟨_, _, hv1⟩, ⟨_, _, hv2⟩, cell_of_shapedOpen_int (zero := #[.int .i64 0]) (t := 3) hsh (of_decide_eq_true (by kernel_rfl)) (by kernel_rfl) rfl (by kernel_rfl) (by kernel_rfl) Tryz.underlying3⟩

/-- the cells of what a row lists -/
def datCells : Nat → DataW Unit → List Value
  | 0, _ => []
  | _ + 1, .lit (.int k n) => [.int k n]
  | f + 1, .agg l => l.flatMap (datCells f)
  | _ + 1, _ => []
/-- a text behind a sentinel -/
def sentText : DataW Unit → Option (List UInt8)
  | .iface _ (.ptr (.agg [.lit (.string t)])) => some t
  | _ => none
/-- the blocks of the sentinels -/
def sentBlocks (laid : List (String × DataW Unit)) : List Obj := laid.filterMap fun nd => (sentText nd.2).map fun t => .cells #[.string ⟨t.toArray⟩] 179 (0, 0)
/-- the heap with what is listed; the sentinels' blocks begin at k -/
def laidHeap2 (P : Program) : List (String × DataW Unit) → Nat → Array Obj → Array Obj
  | [], _, h => h
  | nd :: r, k, h => match sentText nd.2 with
    | some _ => laidHeap2 P r (k + 1) (h.modify ((P.globalNamed nd.1).getD 0) (withCells #[.iface 177 (.pointer (some ⟨k, 0, none⟩))]))
    | none => laidHeap2 P r k (h.modify ((P.globalNamed nd.1).getD 0) (withCells (datCells 3 nd.2).toArray))

noncomputable def low : Nat := (World.holding Tryz.prog default ⟨#[], #[], []⟩).heap.size
/-- a world for the witness: the settled one, each listed variable holding what its initialiser lays -/
noncomputable def laidWorld2 (laid : List (String × DataW Unit)) (os : Os) : World :=
  let w0 := World.holding Tryz.prog os ⟨(sentBlocks laid).toArray, #[], []⟩
  { w0 with heap := laidHeap2 Tryz.prog laid low w0.heap }

end Go.Proofs.YtlcglclojlffgaaGreatDoor
namespace Go.Proofs.YtlcglclojlffgaaGreatDoor
open Go.ChangeShapes Go.WideShapes Go.ChangeAt Go.RowKit

theorem cellsU8 : Tryz.prog.cellsOf 5 = 1 := by kernel_rfl

theorem bytesAt_of {w : World} {a : Addr} {zs : List Int} (h : ∀ i, i < zs.length → w.cell? (a.add i) = some (.int .u8 (zs.getD i 0))) (hw : ∀ n ∈ zs, (Lit.int .u8 n).wf = true) {n : Nat} (hn : n ≤ zs.length) : BytesAt w w.heap.size (some a) n := by
  intro i hi
  have h0 := h 0 (by omega)
  have hs : a.spot = none := by
    obtain ⟨b, o, s⟩ := a
    cases s with
    | none => rfl
    | some s =>
      simp only [Addr.add, if_true] at h0
      unfold World.cell? at h0
      split at h0 <;> simp at h0
  obtain ⟨b, o, s⟩ := a
  obtain rfl : s = none := hs
  have h1 := h i (by omega)
  rw [Addr.add_lit] at h1
  have hm : zs.getD i 0 ∈ zs := by
    rw [List.getD_eq_getElem?_getD, List.getElem?_eq_getElem (by omega)]
    exact List.getElem_mem _
  have hb := hw _ hm
  refine ⟨b, o, _, rfl, lt_of_cell h1, h1, ?_⟩
  have e1 : IntKind.u8.min = 0 := by decide
  have e2 : IntKind.u8.max = 255 := by decide
  generalize zs.getD i 0 = z at *
  simp [Lit.wf] at hb
  rw [e1, e2] at hb
  exact hb

set_option maxRecDepth 100000 in
/-- bytes as an argument -/
theorem open_bytes {H : Type} {enc : TypeId × Value → H} {W : World} {b0 : Nat} {r : Reach} {spare : Nat → Bool} {held : Bool} {v : Value} {d : DataW H} {ps : List MemPlace} (hv : Value.okWide Tryz.prog W r b0 33 v) (h : DataW.Trod enc Tryz.prog W 0 spare held 33 v d ps) :
    ∃ (a : Option Addr) (n c : Nat), v = .slice a n c ∧ BytesAt W W.heap.size a n := by
  obtain ⟨a, len, cap, rfl⟩ := okWide_slice Tryz.underlying33 hv
  obtain ⟨fuel, hf⟩ := h
  rcases open_ints Tryz.underlying33 Tryz.underlying5 cellsU8 hf with ⟨h1, _⟩ | ⟨a', len', cap', zs, h1, _, hl, hm, hz, _, hc, hw⟩
  · simp [Value.cells] at h1
    obtain ⟨rfl, rfl, rfl⟩ := h1
    exact ⟨Option.none, 0, 0, rfl, fun i hi => absurd hi (Nat.not_lt_zero i)⟩
  · simp [Value.cells] at h1
    obtain ⟨rfl, rfl, rfl⟩ := h1
    exact ⟨some a', len, cap, rfl, bytesAt_of hc hw (by split at hz <;> omega)⟩

end Go.Proofs.YtlcglclojlffgaaGreatDoor
namespace Go.Proofs.YtlcglclojlffgaaGreatDoor
open Go.RowKit

/-- the slice v is the call's own and holds the bytes l -/
def OwnB (w : World) (base : Nat) (v : Value) (l : List UInt8) : Prop := w.ownsRow base 5 1 v l.length (Lib.byteCells l)
theorem infoU8 : (Tryz.prog.info? 5).map (fun i => (i.zero, i.size, i.bytes)) = some (some (.int .u8 0), 1, 1) := by kernel_rfl
theorem OwnB.nil (w : World) (base : Nat) : OwnB w base (.slice none 0 0) [] := World.ownsRow_nil _ _ _ _
theorem OwnB.grown {w w' : World} {base : Nat} {v : Value} {l : List UInt8} (h : OwnB w base v l) (hb : Below w.heap.size w w') : OwnB w' base v l :=
  h.kept (row := none) ⟨hb.os, hb.tape, hb.output, hb.size, fun k hk _ => hb.block k hk⟩ (by cases hv : v.ownBlock <;> simp)
theorem OwnB.lo {w : World} {base : Nat} {v : Value} {l : List UInt8} (h : OwnB w base v l) : ∀ k, v.ownBlock = some k → base ≤ k := fun k hk => (World.ownsRow.lt h k hk).1
theorem OwnB.hi {w : World} {base : Nat} {v : Value} {l : List UInt8} (h : OwnB w base v l) : ∀ k, v.ownBlock = some k → k < w.heap.size := fun k hk => (World.ownsRow.lt h k hk).2
theorem OwnB.weak {w : World} {base base' : Nat} {v : Value} {l : List UInt8} (h : OwnB w base v l) (hb : base' ≤ base) : OwnB w base' v l := by
  refine ⟨h.1, ?_⟩
  rcases h.2 with h2 | ⟨g, cap, cur, h1, hb', r⟩
  · exact Or.inl h2
  · exact Or.inr ⟨g, cap, cur, h1, by omega, r⟩
theorem OwnB.other {w w' : World} {base : Nat} {v : Value} {l : List UInt8} {row : Option Nat} (h : OwnB w base v l) (hg : w.grownBy w' row) (hne : ∀ k, v.ownBlock = some k → row ≠ some k) : OwnB w' base v l :=
  h.kept hg (by
    cases hv : v.ownBlock with
    | none => exact Or.inl rfl
    | some k => exact Or.inr (fun e => hne k hv e.symm))
/-- the bytes l lie at a -/
def BysAt (w : World) (a : Option Addr) (l : List UInt8) : Prop := ∀ i x, l[i]? = some x → ∃ b o, a = some ⟨b, o, none⟩ ∧ w.cell? ⟨b, o + i, none⟩ = some (.int .u8 x.toNat)
theorem BysAt.below {w w' : World} {a : Option Addr} {l : List UInt8} (h : BysAt w a l) (hb : Below w.heap.size w w') : BysAt w' a l := fun i x hx => by
  obtain ⟨b, o, e, hc⟩ := h i x hx
  exact ⟨b, o, e, by rw [hb.cell (p := ⟨b, o + i, none⟩) (lt_of_cell hc)]; exact hc⟩
theorem OwnB.read {w : World} {base : Nat} {v : Value} {l : List UInt8} (h : OwnB w base v l) : ∃ a c, v = .slice a l.length c ∧ BysAt w a l ∧ l.length ≤ maxLen := by
  have h2 := h.2
  rcases h2 with ⟨rfl, h0⟩ | ⟨g, cap, cur, rfl, hb, hg, hn, hm, hs, ht⟩
  · refine ⟨none, 0, by rw [h0], ?_, by rw [h0]; exact Nat.zero_le _⟩
    intro i x hx
    have := (List.getElem?_eq_some_iff.1 hx).1
    omega
  · refine ⟨some ⟨g, 0, none⟩, cap, rfl, ?_, by omega⟩
    intro i x hx
    refine ⟨g, 0, rfl, ?_⟩
    have hi := (List.getElem?_eq_some_iff.1 hx).1
    rw [Nat.zero_add, World.ownsRow.cellAt h i (by omega)]
    rw [Lib.byteCells, List.getElem?_map, hx]; rfl

/-- append of one byte -/
theorem wpList_append_b1 {ops : Array Oper} {rest : List Oper} {o : Oper} {a : Act} {Q : Exit → Act → World → Prop} {W : World} (hgd : o.guard = none) (s x : Operand)
    (ho : o.op = .call { callee := .builtin .append, args := #[s, x], argTypes := #[33, 33] })
    (base : Nat) (v : Value) (l : List UInt8) (z : UInt8) (hs : a.eval s = v) (hown : OwnB W base v l) (g : Nat) (hx : a.eval x = .slice (some ⟨g, 0, none⟩) 1 1)
    (hg : W.heap[g]? = some (.cells #[.int .u8 z.toNat] 5 (0, 0))) (hl : l.length ≤ 1000000000) (hb : base ≤ W.heap.size)
    (h : ∀ a' c' l' w', l' = l ++ [z] → OwnB w' base (.slice a' l'.length c') l' → Below base W w' → wpList Tryz.prog ops Q rest (a.put o.dst (.slice a' l'.length c')) w') : wpList Tryz.prog ops Q (o :: rest) a W := by
  obtain ⟨i0, hi, y0, y1, y2⟩ := info_parts infoU8
  refine wpList_append_own _ hgd s x 33 ho base 5 i0 _ 1 1 Tryz.underlying33 hi y0 y1 y2 rfl (by decide) v l.length (Lib.byteCells l) hs hown ⟨g, 0, none⟩ 1 1 [.int .u8 z.toNat] hx rfl ?_ ?_ (by unfold maxLen; omega) (by omega) hb
    (fun v' w' h1 h2 _ => ?_)
  · intro j u hu
    rw [Addr.add_lit, Nat.zero_add, (heap_cellR hg).1, ← hu]
    simp
  · intro u hu
    simp only [List.mem_singleton] at hu
    subst hu; rfl
  · have ho : OwnB w' base v' (l ++ [z]) := by
      unfold OwnB
      rw [List.length_append, Lib.byteCells, List.map_append]
      simpa [Lib.byteCells] using h1
    obtain ⟨a', c', e, _⟩ := ho.read
    rw [e] at ho ⊢
    exact h a' c' _ w' rfl ho (below_of_grownBy h2 hb (fun k hk => hown.lo k hk))
theorem tabBelow {w : World} {B : Nat} (h : Tab w) (hB : 5 < B) : Lib.TabBelow Tryz.prog B w "internal/strconv.uint64pow10" .u64 Lib.pow10Tab := fun _ hb => h.below hb hB
/-- strconv.AppendInt at bytes of the call's own -/
theorem appendInt_b (B : Nat) (n : Int) (v : Value) (l : List UInt8) (w : World) (h0 : -9223372036854775808 ≤ n) (h1 : n ≤ 9223372036854775807) (ho : OwnB w B v l) (hB : B ≤ w.heap.size) (hl : l.length ≤ 1000000000) (ht : Tab w) (hg : 5 < B) :
    Calls Tryz.prog 63 #[v, .int .i64 n, .int .i64 10] w fun e w' => ∃ a' c' l', l' = l ++ Lib.itoa n ∧ e = .returned (.slice a' l'.length c') ∧ OwnB w' B (.slice a' l'.length c') l' ∧ Below B w w' :=
  (Tryz.strconv_AppendInt_10 B l.length n h0 h1 v (Lib.byteCells l) w ho hB (by omega) (tabBelow ht hg)).mono fun e w' ⟨v', he, ho', hb, _⟩ => by
    have ho2 : OwnB w' B v' (l ++ Lib.itoa n) := by
      unfold OwnB
      rw [List.length_append, Lib.byteCells, List.map_append]
      exact ho'
    obtain ⟨a', c', e2, _⟩ := ho2.read
    rw [e2] at ho2
    exact ⟨a', c', _, rfl, by rw [he, e2], ho2, hb⟩
theorem nums_str (l : List UInt8) : strOfNums (l.map fun x => (x.toNat : Int)) = ⟨l.toArray⟩ := by
  unfold strOfNums
  congr 1
  rw [List.map_map]
  have : ((fun n : Int => UInt8.ofNat n.toNat) ∘ fun x : UInt8 => (x.toNat : Int)) = id := by funext x; simp
  rw [this, List.map_id]
theorem conv_at {w : World} {b o c : Nat} {l : List UInt8} (h : BysAt w (some ⟨b, o, none⟩) l) :
    (convert 33 9 (.slice (some ⟨b, o, none⟩) l.length c)).run Tryz.prog w = .ok (.string ⟨l.toArray⟩) w := by
  have := run_convert_bytes_arg (P := Tryz.prog) w 33 5 Tryz.underlying33 Tryz.underlying5 b o l.length c (l.map fun x => (x.toNat : Int)) (by simp) (fun i hi => by
    obtain ⟨b', o', e, hc⟩ := h i l[i] (List.getElem?_eq_getElem hi)
    simp only [Option.some.injEq, Addr.mk.injEq, and_true] at e
    obtain ⟨rfl, rfl⟩ := e
    rw [hc]
    simp [hi]) 9 Tryz.underlying9
  rw [nums_str] at this
  exact this
/-- bytes of the call's own as a string -/
theorem conv_own {w : World} {base : Nat} {a : Option Addr} {n c : Nat} {l : List UInt8} (h : OwnB w base (.slice a n c) l) :
    (convert 33 9 (.slice a n c)).run Tryz.prog w = .ok (.string ⟨l.toArray⟩) w := by
  obtain ⟨a', c', e, hb, _⟩ := h.read
  obtain ⟨rfl, rfl, rfl⟩ := Value.slice.inj e
  rcases h.2 with ⟨e2, h0⟩ | ⟨g, cap, cur, e2, _⟩
  · obtain ⟨rfl, _, rfl⟩ := Value.slice.inj e2
    have hl : l = [] := List.eq_nil_of_length_eq_zero h0
    subst hl
    exact run_convert_bytes_nil (P := Tryz.prog) w 33 5 Tryz.underlying33 Tryz.underlying5 _ _ 9 Tryz.underlying9
  · obtain ⟨rfl, _, rfl⟩ := Value.slice.inj e2
    exact conv_at hb

end Go.Proofs.YtlcglclojlffgaaGreatDoor
namespace Go.Proofs.YtlcglclojlffgaaGreatDoor
open Go.RowKit

theorem stB_ownB {b base : Nat} {w0 w wo w' : World} {v : Value} {l : List UInt8} (hst : StB b w0 w) (ho : OwnB wo base v l) (hg : w.grownBy w' v.ownBlock) (hb : b < base) (h0 : w0.heap.size ≤ base) : StB b w0 w' :=
  ⟨hst.1.kept hg (fun k e => by have := ho.lo k e; omega), hst.2.andThen hg (fun j e => Or.inl (by have := ho.lo j e; omega))⟩
/-- append of one byte, all that is known of it -/
theorem wpList_append_b1g {ops : Array Oper} {rest : List Oper} {o : Oper} {a : Act} {Q : Exit → Act → World → Prop} {W : World} (hgd : o.guard = none) (s x : Operand)
    (ho : o.op = .call { callee := .builtin .append, args := #[s, x], argTypes := #[33, 33] })
    (base : Nat) (v : Value) (l : List UInt8) (z : UInt8) (hs : a.eval s = v) (hown : OwnB W base v l) (g : Nat) (hx : a.eval x = .slice (some ⟨g, 0, none⟩) 1 1)
    (hg : W.heap[g]? = some (.cells #[.int .u8 z.toNat] 5 (0, 0))) (hl : l.length ≤ 1000000000) (hb : base ≤ W.heap.size)
    (h : ∀ a' c' l' w', l' = l ++ [z] → OwnB w' base (.slice a' l'.length c') l' → W.grownBy w' v.ownBlock → Below base W w' → wpList Tryz.prog ops Q rest (a.put o.dst (.slice a' l'.length c')) w') : wpList Tryz.prog ops Q (o :: rest) a W := by
  obtain ⟨i0, hi, y0, y1, y2⟩ := info_parts infoU8
  refine wpList_append_own _ hgd s x 33 ho base 5 i0 _ 1 1 Tryz.underlying33 hi y0 y1 y2 rfl (by decide) v l.length (Lib.byteCells l) hs hown ⟨g, 0, none⟩ 1 1 [.int .u8 z.toNat] hx rfl ?_ ?_ (by unfold maxLen; omega) (by omega) hb
    (fun v' w' h1 h2 _ => ?_)
  · intro j u hu
    rw [Addr.add_lit, Nat.zero_add, (heap_cellR hg).1, ← hu]
    simp
  · intro u hu
    simp only [List.mem_singleton] at hu
    subst hu; rfl
  · have ho : OwnB w' base v' (l ++ [z]) := by
      unfold OwnB
      rw [List.length_append, Lib.byteCells, List.map_append]
      simpa [Lib.byteCells] using h1
    obtain ⟨a', c', e, _⟩ := ho.read
    rw [e] at ho ⊢
    exact h a' c' _ w' rfl ho h2 (below_of_grownBy h2 hb (fun k hk => hown.lo k hk))
/-- while bytes are drawn into a row of the call's own -/
def StBy (w : World) (b : Nat) (v : Value) (l : List UInt8) (W : World) : Prop := StB b w W ∧ OwnB W w.heap.size v l
theorem StBy.draw {w W W' : World} {b : Nat} {v : Value} {l : List UInt8} (h : StBy w b v l W) (hlt : b < w.heap.size) (hs : Src W' b) (hg : W.grownBy W' (some b)) : StBy w b v l W' :=
  ⟨stB_trans h.1 hs hg, h.2.other hg (fun k hk e => by have := h.2.lo k hk; have := Option.some.inj e; omega)⟩
theorem chars_ln (m : Nat) (h1 : 1 ≤ m) (h3 : m ≤ 3) : 2 ≤ (charS m).size ∧ (charS m).size ≤ 1000 := by
  obtain rfl | rfl | rfl : m = 1 ∨ m = 2 ∨ m = 3 := by omega
  all_goals (rw [charS_size]; decide)

/-- a drawn text is handed back -/
def RetDT (w : World) (b : Nat) (n : Nat) (e : Ending) (w' : World) : Prop := ∃ t : ByteArray, e = .returned (.string t) ∧ t.size ≤ n ∧ StB b w w'
set_option maxRecDepth 100000 in
set_option maxHeartbeats 1000000 in
theorem l09DrawText_any (b : Nat) (m n : Nat) (w : World) (hs : Src w b) (m1 : 1 ≤ m) (m4 : m ≤ 4) (hn : n ≤ 1000) :
    Calls Tryz.prog 64 #[.pointer (some ⟨b, 0, none⟩), .int .i64 (m : Int), .int .i64 (n : Int)] w (RetDT w b n) := by
  have hlt := hs.lt
  have HS := Lib.hid hs
  clear hs
  have hnn : (2 : Int) ≤ (n : Int) + 1 ∨ n = 0 := by omega
  go_enter Tryz.func64, Tryz.ntmps64
  go_wp2_with fail
  refine (l01Next_any b ((n : Int) + 1) _ (HS.out.kept (World.grownBy_alloc _ _ none) (by simp)) (by omega) (by omega)).mono ?_
  rintro e W1 ⟨r1, rfl, p0, p1, hs, hg⟩
  obtain ⟨k1, rfl⟩ := Int.eq_ofNat_of_zero_le p0
  have hk1 : k1 ≤ n := by omega
  have H0 : Hid (StBy w b (.slice (some ⟨w.heap.size, 0, none⟩) 0 0) [] W1) := Lib.hid (StBy.draw (W := w.alloc (.cells #[] 5 (0, 0))) ⟨⟨HS.out.kept (World.grownBy_alloc _ _ none) (by simp), World.grownBy_alloc _ _ _⟩, World.ownsRow_lit (base := w.heap.size) (size := 1) w #[] 0 (Nat.le_refl _) (by unfold maxLen; omega) rfl⟩ hlt hs hg)
  clear hs hg p1 p0 hnn
  go_wp2_with fail
  go_loopw [7, 8, 9] (fun v i _ wr => ∃ (l : List UInt8) (k : Nat), i = .int .i64 k ∧ l.length + k ≤ n ∧ StBy w b v l wr) (fun _ i _ _ => (intOf i).toNat)
  case atStart => exact ⟨[], k1, rfl, by simp; omega, H0.out⟩
  case round =>
    clear H0
    obtain ⟨l, k, rfl, hdk, hst⟩ := hrel
    have HST := Lib.hid hst
    have HDK := Lib.hid hdk
    have hkn : k ≤ 1000 := by omega
    obtain ⟨a0, c0, rfl, -, -⟩ := hst.2.read
    clear hst hdk
    by_cases hk0 : 0 < k
    · have hki : (0 : Int) < (k : Int) := by omega
      by_cases h4 : m = 4
      · have h4i : ((m : Int) == 4) = true := by rw [h4]; rfl
        clear h4
        go_wp2_with fail
        refine (l01Next_any b 256 wr HST.out.1.1 (by decide) (by decide)).mono ?_
        rintro e W2 ⟨r, rfl, z0, z1, hs, hg⟩
        have H2 := Lib.hid (HST.out.draw hlt hs hg)
        clear hs hg
        obtain ⟨z, hz⟩ : ∃ z : UInt8, (z.toNat : Int) = r := ⟨UInt8.ofNat r.toNat, by rw [UInt8.toNat_ofNat', Nat.mod_eq_of_lt (by omega)]; omega⟩
        have hw1 : IntKind.u8.wrap r = (z.toNat : Int) := by rw [hz]; exact IntWalk.u8_in _ (by omega)
        have HZ := Lib.hid hz
        have hdk := HDK.out
        clear hz
        have hz2 := H2.out.1.2.size
        go_wp2_with (at_builtin; refine wpList_append_b1g (o := _) rfl (.tmp 21) (.tmp 25) rfl w.heap.size (.slice a0 l.length c0) l z rfl (H2.out.2.grown (ba1 W2 _)) W2.heap.size rfl (push_at W2 _) ?c3 ?c4 ?h8)
        case c3 => omega
        case c4 => simp; omega
        case h8 =>
        intro a6 c6 l6 w6 he6 ho6 hg6 hb6
        have H6 := Lib.hid (show StBy w b (.slice a6 l6.length c6) l6 w6 from ⟨stB_ownB (stB_alloc H2.out.1 _) H2.out.2 hg6 hlt (Nat.le_refl _), ho6⟩)
        have HL6 := Lib.hid he6
        clear he6 ho6 hg6 hb6
        go_wp2_with fail
        exact ⟨⟨l6, k - 1, by go_num, by have := HDK.out; rw [HL6.out]; simp; omega, H6.out⟩, by simp [intOf]; omega⟩
      · have h4i : ((m : Int) == 4) = false := by simp; omega
        have HCH := Lib.hid (chars_ln m m1 (by omega))
        have HSE := Lib.hid (fun w => spSet_any m m1 (by omega) w)
        obtain ⟨cs, hcs⟩ : ∃ cs, cs = charS m := ⟨_, rfl⟩
        rw [← hcs] at HCH HSE
        have hcz := HCH.out
        clear hcs
        go_wp2_with fail
        refine (HSE.out _).mono ?_
        rintro e W2 ⟨rfl, rfl⟩
        go_wp2_with fail
        refine (l01Next_any b (cs.size : Int) wr HST.out.1.1 (by omega) (by omega)).mono ?_
        rintro e W2 ⟨r, rfl, z0, z1, hs, hg⟩
        have H2 := Lib.hid (HST.out.draw hlt hs hg)
        obtain ⟨q, rfl⟩ := Int.eq_ofNat_of_zero_le z0
        have hq : q < cs.size := by omega
        clear hs hg
        have hdk := HDK.out
        have hz2 := H2.out.1.2.size
        go_wp2_with (at_builtin; refine wpList_append_b1g (o := _) rfl (.tmp 29) (.tmp 36) rfl w.heap.size (.slice a0 l.length c0) l (cs[q]'hq) rfl (H2.out.2.grown (ba1 W2 _)) W2.heap.size rfl (push_at W2 _) ?c3 ?c4 ?h8)
        case c3 => omega
        case c4 => simp; omega
        case h8 =>
        intro a6 c6 l6 w6 he6 ho6 hg6 hb6
        have H6 := Lib.hid (show StBy w b (.slice a6 l6.length c6) l6 w6 from ⟨stB_ownB (stB_alloc H2.out.1 _) H2.out.2 hg6 hlt (Nat.le_refl _), ho6⟩)
        have HL6 := Lib.hid he6
        clear he6 ho6 hg6 hb6
        go_wp2_with fail
        exact ⟨⟨l6, k - 1, by go_num, by have := HDK.out; rw [HL6.out]; simp; omega, H6.out⟩, by simp [intOf]; omega⟩
    · have hki : ¬ (0 : Int) < (k : Int) := by omega
      have hcv := conv_own HST.out.2
      have hl := HDK.out
      go_wp2_with fail
      go_ret
      exact ⟨_, rfl, by show l.toArray.size ≤ n; simp; omega, HST.out.1⟩

end Go.Proofs.YtlcglclojlffgaaGreatDoor
namespace Go.Proofs.YtlcglclojlffgaaGreatDoor
open Go.RowKit

/-- an item that is drawn, in its box -/
def StIt (w0 : World) (b g : Nat) (cs : Array Value) (W : World) : Prop := StB b w0 W ∧ W.heap[g]? = some (.cells cs 49 (0, 0))
theorem StIt.draw {w0 W W' : World} {b g : Nat} {cs : Array Value} (h : StIt w0 b g cs W) (hbg : b < g) (hs : Src W' b) (hg : W.grownBy W' (some b)) : StIt w0 b g cs W' :=
  ⟨stB_trans h.1 hs hg, (hg.block g (blkLt h.2) (fun e => by have := Option.some.inj e; omega)).trans h.2⟩
theorem StIt.alloc {w0 W : World} {b g : Nat} {cs : Array Value} (h : StIt w0 b g cs W) (o : Obj) : StIt w0 b g cs (W.alloc o) := ⟨stB_alloc h.1 o, push_old h.2⟩
theorem StIt.set {w0 W : World} {b g : Nat} {cs : Array Value} (h : StIt w0 b g cs W) (hbg : b < g) (hwg : w0.heap.size ≤ g) (i : Nat) (v : Value) : StIt w0 b g (cs.setIfInBounds i v) (W.setCell ⟨g, i, none⟩ v) :=
  ⟨stB_set h.1 hbg hwg, src_set h.2 i v⟩
theorem StIt.set9 {w0 W : World} {b g : Nat} {a0 a1 a2 a3 a4 a5 a6 a7 a8 v0 v1 v2 v3 v4 v5 v6 v7 v8 : Value} (h : StIt w0 b g #[a0, a1, a2, a3, a4, a5, a6, a7, a8] W) (hbg : b < g) (hwg : w0.heap.size ≤ g) :
    StIt w0 b g #[v0, v1, v2, v3, v4, v5, v6, v7, v8] (((((((((W.setCell ⟨g, 0, none⟩ v0).setCell ⟨g, 1, none⟩ v1).setCell ⟨g, 2, none⟩ v2).setCell ⟨g, 3, none⟩ v3).setCell ⟨g, 4, none⟩ v4).setCell ⟨g, 5, none⟩ v5).setCell ⟨g, 6, none⟩ v6).setCell ⟨g, 7, none⟩ v7).setCell ⟨g, 8, none⟩ v8) := by
  have h9 := ((((((((h.set hbg hwg 0 v0).set hbg hwg 1 v1).set hbg hwg 2 v2).set hbg hwg 3 v3).set hbg hwg 4 v4).set hbg hwg 5 v5).set hbg hwg 6 v6).set hbg hwg 7 v7).set hbg hwg 8 v8
  have e : ((((((((((#[a0, a1, a2, a3, a4, a5, a6, a7, a8] : Array Value).setIfInBounds 0 v0).setIfInBounds 1 v1).setIfInBounds 2 v2).setIfInBounds 3 v3).setIfInBounds 4 v4).setIfInBounds 5 v5).setIfInBounds 6 v6).setIfInBounds 7 v7).setIfInBounds 8 v8) = #[v0, v1, v2, v3, v4, v5, v6, v7, v8] := by simp
  rw [e] at h9
  exact h9
/-- the values of a drawn item keep to bounds -/
def ItD (n : Nat) (kd row col sc tall wide : Int) (nm : ByteArray) (lev : Int) (tx : ByteArray) : Prop := nm.size ≤ 6 ∧ tx.size ≤ n ∧ (0 ≤ row ∧ row ≤ 11) ∧ (0 ≤ col ∧ col ≤ 11) ∧ (-1 ≤ kd ∧ kd ≤ 20) ∧ (-1 ≤ sc ∧ sc ≤ 20) ∧ (-1 ≤ tall ∧ tall ≤ 30) ∧ (-1 ≤ wide ∧ wide ≤ 30) ∧ (-1 ≤ lev ∧ lev ≤ 20)
def StI9 (n : Nat) (w0 : World) (b g : Nat) (W : World) : Prop := ∃ (kd row col sc tall wide : Int) (nm : ByteArray) (lev : Int) (tx : ByteArray), ItD n kd row col sc tall wide nm lev tx ∧ StIt w0 b g #[.int .i64 kd, .int .i64 row, .int .i64 col, .int .i64 sc, .int .i64 tall, .int .i64 wide, .string nm, .int .i64 lev, .string tx] W
theorem fiveU {p : Value → Prop} {a b c d e : Value} (ha : p a) (hb : p b) (hc : p c) (hd : p d) (he : p e) : ∀ i, i < 5 → ∃ u, (#[a, b, c, d, e] : Array Value)[i]? = some u ∧ p u
  | 0, _ => ⟨_, rfl, ha⟩
  | 1, _ => ⟨_, rfl, hb⟩
  | 2, _ => ⟨_, rfl, hc⟩
  | 3, _ => ⟨_, rfl, hd⟩
  | 4, _ => ⟨_, rfl, he⟩
/-- a drawn item is handed back -/
def RetDI (w : World) (b : Nat) (e : Ending) (w' : World) : Prop :=
  ∃ (kd row col sc tall wide : Int) (nm : ByteArray) (lev : Int) (tx : ByteArray), e = .returned (.agg #[.int .i64 kd, .int .i64 row, .int .i64 col, .int .i64 sc, .int .i64 tall, .int .i64 wide, .string nm, .int .i64 lev, .string tx]) ∧ ItD 6 kd row col sc tall wide nm lev tx ∧ StB b w w'
/-- the value of a drawn line -/
def LnV (r2 r3 : Int) (v : Value) : Prop := ∃ z1 z2 : Int, (1 ≤ z1 ∧ z1 ≤ 9) ∧ (1 ≤ z2 ∧ z2 ≤ 20) ∧ v = .agg #[.int .i64 2, .int .i64 r2, .int .i64 r3, .int .i64 0, .int .i64 z1, .int .i64 z2, .string ⟨#[]⟩, .int .i64 0, .string ⟨#[]⟩]
abbrev zeroIt : Array Value := #[.int .i64 0, .int .i64 0, .int .i64 0, .int .i64 0, .int .i64 0, .int .i64 0, .string ⟨#[]⟩, .int .i64 0, .string ⟨#[]⟩]

set_option maxRecDepth 100000 in
set_option maxHeartbeats 1500000 in
theorem l29DrawItem_any (b : Nat) (w : World) (hs : Src w b) :
    Calls Tryz.prog 51 #[.pointer (some ⟨b, 0, none⟩)] w (RetDI w b) := by
  have hlt := hs.lt
  have HS := Lib.hid (hs.kept (World.grownBy_alloc w (.cells zeroIt 49 (0, 0)) none) (by simp))
  have HG := Lib.hid (World.grownBy_alloc w (.cells zeroIt 49 (0, 0)) (some b))
  clear hs
  go_enter Tryz.func51, Tryz.ntmps51
  go_wp2_with fail
  refine (l01Next_any b 3 _ HS.out (by decide) (by decide)).mono ?_
  rintro e W1 ⟨r1, rfl, p0, p1, hs, hg⟩
  have HS1 := Lib.hid hs
  have HG1 := Lib.hid hg
  replace p1 : r1 ≤ 2 := by omega
  clear hs hg HS HG
  go_wp2_with fail
  refine (l01Next_any b 12 _ HS1.out (by decide) (by decide)).mono ?_
  rintro e W2 ⟨r2, rfl, p2, p3, hs, hg⟩
  have HS2 := Lib.hid hs
  have HG2 := Lib.hid (grownBy_trans HG1.out hg)
  replace p3 : r2 ≤ 11 := by omega
  clear hs hg HS1 HG1
  go_wp2_with fail
  refine (l01Next_any b 12 _ HS2.out (by decide) (by decide)).mono ?_
  rintro e W3 ⟨r3, rfl, p4, p5, hs, hg⟩
  have HS3 := Lib.hid hs
  have HG3 := Lib.hid (grownBy_trans HG2.out hg)
  replace p5 : r3 ≤ 11 := by omega
  clear hs hg HS2 HG2
  go_wp2_with fail
  refine (l01Next_any b 2 _ HS3.out (by decide) (by decide)).mono ?_
  rintro e W4 ⟨r4, rfl, p6, p7, hs, hg⟩
  have HS4 := Lib.hid hs
  have HG4 := Lib.hid (grownBy_trans HG3.out hg)
  replace p7 : r4 ≤ 1 := by omega
  have hsz4 := HG4.out.size
  rw [World.size_alloc] at hsz4
  have hb4 := hs.lt
  clear hs hg HS3 HG3
  go_upto_block 0 with fail
  have H0 : Hid (StIt (w.alloc (.cells zeroIt 49 (0, 0))) b W4.heap.size #[.int .i64 (1 + r1), .int .i64 r2, .int .i64 r3, .int .i64 (1 + r4), .int .i64 0, .int .i64 0, .string ⟨#[]⟩, .int .i64 0, .string ⟨#[]⟩] (W4.alloc (.cells #[.int .i64 (1 + r1), .int .i64 r2, .int .i64 r3, .int .i64 (1 + r4), .int .i64 0, .int .i64 0, .string ⟨#[]⟩, .int .i64 0, .string ⟨#[]⟩] 49 (0, 0)))) :=
    Lib.hid ⟨stB_alloc ⟨HS4.out, HG4.out⟩ _, push_at _ _⟩
  have hgb : b < W4.heap.size := hb4
  have hgw : (w.alloc (.cells zeroIt 49 (0, 0))).heap.size ≤ W4.heap.size := by rw [World.size_alloc]; omega
  have hb8 : b < (W4.alloc (.cells #[.int .i64 (1 + r1), .int .i64 r2, .int .i64 r3, .int .i64 (1 + r4), .int .i64 0, .int .i64 0, .string ⟨#[]⟩, .int .i64 0, .string ⟨#[]⟩] 49 (0, 0))).heap.size := by rw [World.size_alloc]; omega
  generalize W4.alloc (.cells #[.int .i64 (1 + r1), .int .i64 r2, .int .i64 r3, .int .i64 (1 + r4), .int .i64 0, .int .i64 0, .string ⟨#[]⟩, .int .i64 0, .string ⟨#[]⟩] 49 (0, 0)) = W8 at *
  obtain ⟨g, hge⟩ : ∃ g, W4.heap.size = g := ⟨_, rfl⟩
  rw [hge] at H0 hgb hgw ⊢
  clear hge hb4 hsz4 HS4 HG4
  go_cut [] (fun wx => StI9 5 (w.alloc (.cells zeroIt 49 (0, 0))) b g wx)
  case first =>
    have hgl := blkLt H0.out.2
    rcases (show r1 = 0 ∨ r1 = 1 ∨ r1 = 2 by omega) with rfl | rfl | rfl
    · go_wp2_with fail
      refine (l01Next_any b 5 _ (H0.out.alloc _).1.1 (by decide) (by decide)).mono ?_
      rintro e W9 ⟨q, rfl, s0, s1, hs, hg⟩
      obtain ⟨u, hu, t, rfl, ht⟩ := tab_kept (p := StrB 5) (n := 5) hb8 hg (fiveU (strB _ (by decide)) (strB _ (by decide)) (strB _ (by decide)) (strB _ (by decide)) (strB _ (by decide))) s0 (by omega)
      have H9 := Lib.hid ((H0.out.alloc _).draw hgb hs hg)
      obtain ⟨hc, hf⟩ := heap_cellR H9.out.2
      have hgl9 := blkLt H9.out.2
      have hq5 : q < 5 := by omega
      clear hs hg
      go_wp2_with fail
      go_meet
      exact ⟨_, _, _, _, _, _, _, _, _, ⟨by decide, ht, by omega, by omega, by omega, by omega, by omega, by omega, by omega⟩, H9.out.set hgb hgw 8 _⟩
    · have H1 : Hid (StIt (w.alloc (.cells zeroIt 49 (0, 0))) b g #[.int .i64 2, .int .i64 r2, .int .i64 r3, .int .i64 (1 + r4), .int .i64 0, .int .i64 0, .string ⟨#[]⟩, .int .i64 0, .string ⟨#[]⟩] W8) := H0
      go_wp2_with fail
      refine wp_region_rs (Keep := KeepB b) [39, 40, 41, 42, 43, 44, 45, 46, 47, 48, 49, 50, 51] (fun us => _)
        [spEq b (.pointer (some ⟨g, 0, none⟩)), spEq b (.int .i64 2), spEq b (.pointer (some ⟨g, 1, none⟩)), spEq b (.int .i64 r2), spEq b (.pointer (some ⟨g, 2, none⟩)), spEq b (.int .i64 r3), spEq b (.pointer (some ⟨b, 0, none⟩)), spV b (NumB 0 8), spV b (NumB 1 9), spEq b (.pointer (some ⟨b, 0, none⟩)), spV b (NumB 0 19), spV b (NumB 1 20),
         spV b (LnV r2 r3)]
        (StIt (w.alloc (.cells zeroIt 49 (0, 0))) b g #[.int .i64 2, .int .i64 r2, .int .i64 r3, .int .i64 (1 + r4), .int .i64 0, .int .i64 0, .string ⟨#[]⟩, .int .i64 0, .string ⟨#[]⟩]) (by kernel_rfl) (by kernel_rfl) (Nat.le_of_ble_eq_true rfl) (fun us => by simp [over, List.mapIdx_cons]; exact rfl) ?_ (fun w => World.grownBy.refl _ _) ?_ ?_
      · exact H1.out.draw hgb (H1.out.1.1.kept (grownBy_drewN _ 1 none) (by simp)) (grownBy_drewN _ 1 _)
      · refine ⟨?_, ?_, ?_, ?_, ?_, ?_, ?_, ?_, ?_, ?_, ?_, ?_, ?_, trivial⟩
        all_goals (intro us wr hst hd; rw [if_pos (by kernel_rfl)]; dsimp only)
        · clear hd
          go_simp
          exact ⟨hst, World.grownBy.refl _ _, rfl⟩
        · have d0 : us 39 = .pointer (some ⟨g, 0, none⟩) := hd ⟨0, .data⟩ (by simp) rfl
          clear hd
          have hB := (heap_cellR hst.2).1
          go_simp
          exact ⟨hst, World.grownBy.refl _ _, rfl⟩
        · clear hd
          go_simp
          exact ⟨hst, World.grownBy.refl _ _, rfl⟩
        · have d0 : us 41 = .pointer (some ⟨g, 1, none⟩) := hd ⟨2, .data⟩ (by simp) rfl
          clear hd
          have hB := (heap_cellR hst.2).1
          go_simp
          exact ⟨hst, World.grownBy.refl _ _, rfl⟩
        · clear hd
          go_simp
          exact ⟨hst, World.grownBy.refl _ _, rfl⟩
        · have d0 : us 43 = .pointer (some ⟨g, 2, none⟩) := hd ⟨4, .data⟩ (by simp) rfl
          clear hd
          have hB := (heap_cellR hst.2).1
          go_simp
          exact ⟨hst, World.grownBy.refl _ _, rfl⟩
        · clear hd
          go_simp
          exact ⟨hst, World.grownBy.refl _ _, rfl⟩
        · have d0 : us 45 = .pointer (some ⟨b, 0, none⟩) := hd ⟨6, .data⟩ (by simp) rfl
          clear hd
          go_simp
          exact (l01Next_any b 9 _ hst.1.1 (by decide) (by decide)).mono fun e w' ⟨r, he, h0, h1, hs, hg⟩ => ⟨_, he, hst.draw hgb hs hg, hg, r, rfl, h0, by omega⟩
        · have d0 : NumB 0 8 (us 46) := hd ⟨7, .data⟩ (by simp) rfl
          clear hd
          obtain ⟨z, ez, z0, z1⟩ := d0
          have hw : IntKind.i64.wrap (1 + z) = 1 + z := IntWalk.i64_in _ (by omega)
          have hr : NumB 1 9 (.int .i64 (1 + z)) := numDb _ (by omega) (by omega)
          replace hr := Lib.hid hr
          go_simp
          exact ⟨hst, World.grownBy.refl _ _, hr.out⟩
        · clear hd
          go_simp
          exact ⟨hst, World.grownBy.refl _ _, rfl⟩
        · have d0 : us 48 = .pointer (some ⟨b, 0, none⟩) := hd ⟨9, .data⟩ (by simp) rfl
          clear hd
          go_simp
          exact (l01Next_any b 20 _ hst.1.1 (by decide) (by decide)).mono fun e w' ⟨r, he, h0, h1, hs, hg⟩ => ⟨_, he, hst.draw hgb hs hg, hg, r, rfl, h0, by omega⟩
        · have d0 : NumB 0 19 (us 49) := hd ⟨10, .data⟩ (by simp) rfl
          clear hd
          obtain ⟨z, ez, z0, z1⟩ := d0
          have hw : IntKind.i64.wrap (1 + z) = 1 + z := IntWalk.i64_in _ (by omega)
          have hr : NumB 1 20 (.int .i64 (1 + z)) := numDb _ (by omega) (by omega)
          replace hr := Lib.hid hr
          go_simp
          exact ⟨hst, World.grownBy.refl _ _, hr.out⟩
        · have d0 : us 40 = .int .i64 2 := hd ⟨1, .data⟩ (by simp) rfl
          have d1 : us 42 = .int .i64 r2 := hd ⟨3, .data⟩ (by simp) rfl
          have d2 : us 44 = .int .i64 r3 := hd ⟨5, .data⟩ (by simp) rfl
          have d3 : NumB 1 9 (us 47) := hd ⟨8, .data⟩ (by simp) rfl
          have d4 : NumB 1 20 (us 50) := hd ⟨11, .data⟩ (by simp) rfl
          clear hd
          obtain ⟨z1, e1, l1, u1⟩ := d3
          obtain ⟨z2, e2, l2, u2⟩ := d4
          go_simp
          exact ⟨hst, World.grownBy.refl _ _, z1, z2, ⟨l1, u1⟩, ⟨l2, u2⟩, rfl⟩
      · intro us wr hst hd
        have d : LnV r2 r3 (us 51) := hd 12 (by simp)
        clear hd
        obtain ⟨z1, z2, hz1, hz2, ez⟩ := d
        obtain ⟨hc, hf⟩ := heap_cellR hst.2
        have hglr := blkLt hst.2
        have HST := Lib.hid hst
        clear hst
        simp only [List.drop, List.length]
        rw [ez]
        clear ez
        go_wp2_with fail
        go_meet
        exact ⟨2, r2, r3, 0, z1, z2, ⟨#[]⟩, 0, ⟨#[]⟩, ⟨by decide, by decide, by omega, by omega, by omega, by omega, by omega, by omega, by omega⟩, HST.out.set9 hgb hgw⟩
    · go_wp2_with fail
      refine (l01Next_any b 4 _ (H0.out.alloc _).1.1 (by decide) (by decide)).mono ?_
      rintro e W9 ⟨q, rfl, s0, s1, hs, hg⟩
      obtain ⟨u, hu, t, rfl, ht⟩ := tab_kept (p := StrB 6) (n := 4) hb8 hg (fourT (strB _ (by decide)) (strB _ (by decide)) (strB _ (by decide)) (strB _ (by decide))) s0 (by omega)
      have H9 := Lib.hid ((H0.out.alloc _).draw hgb hs hg)
      obtain ⟨hc, hf⟩ := heap_cellR H9.out.2
      have hgl9 := blkLt H9.out.2
      have hq4 : q < 4 := by omega
      have H9b := Lib.hid (H9.out.set hgb hgw 6 (.string t))
      clear hs hg
      go_wp2_with fail
      refine (l01Next_any b 2 _ H9b.out.1.1 (by decide) (by decide)).mono ?_
      rintro e W10 ⟨r, rfl, t0, t1, hs, hg⟩
      have H10 := Lib.hid (H9b.out.draw hgb hs hg)
      obtain ⟨n, rfl⟩ := Int.eq_ofNat_of_zero_le t0
      have hn1 : n ≤ 1 := by omega
      have HT := Lib.hid (l09DrawText_any b (1 + n) 5 W10 H10.out.1.1 (by omega) (by omega) (by omega))
      rw [show ((1 + n : Nat) : Int) = 1 + (n : Int) by omega, show ((5 : Nat) : Int) = 5 from rfl] at HT
      clear hs hg hc hf hu
      go_wp2_with fail
      refine HT.out.mono ?_
      rintro e W11 ⟨tx, rfl, htx, hst11⟩
      have H11 := Lib.hid (H10.out.draw hgb hst11.1 hst11.2)
      obtain ⟨hc, hf⟩ := heap_cellR H11.out.2
      have hgl11 := blkLt H11.out.2
      clear hst11
      go_wp2_with fail
      go_meet
      exact ⟨_, _, _, _, _, _, _, _, _, ⟨ht, htx, by omega, by omega, by omega, by omega, by omega, by omega, by omega⟩, H11.out.set hgb hgw 8 _⟩
  case rest =>
    clear H0
    obtain ⟨kd, row, col, sc, tall, wide, nm, lev, tx, hd, hst⟩ := hcut
    have HD := Lib.hid hd
    have HST := Lib.hid hst
    clear hst hd
    go_wp2_with fail
    refine (l01Next_any b 30 _ HST.out.1.1 (by decide) (by decide)).mono ?_
    rintro e W9 ⟨r9, rfl, s0, s1, hs, hg⟩
    have HST9 := Lib.hid (HST.out.draw hgb hs hg)
    have hr : r9 = 0 ∨ r9 = 1 ∨ r9 = 2 ∨ r9 = 3 ∨ 4 ≤ r9 := by omega
    clear hs hg HST
    go_upto_block 1 with fail
    have hb9 : b < W9.heap.size := by have := blkLt HST9.out.2; omega
    have hgl9 := blkLt HST9.out.2
    go_cut [] (fun wx => StI9 6 (w.alloc (.cells zeroIt 49 (0, 0))) b g wx)
    case first =>
     rcases hr with rfl | rfl | rfl | rfl | hr
     · have htx : tx.size ≤ 5 := HD.out.2.1
       go_wp2_with fail
       refine wp_region_rs (Keep := KeepB b) [56, 57, 58, 59, 60, 61, 62, 63, 64] (fun us => _)
         [spEq b (.pointer (some ⟨g, 8, none⟩)), spEq b (.string tx), spTab b 3 (StrB 1), spEq b (.pointer (some ⟨b, 0, none⟩)), spV b (NumB 0 2), spAt b (StrB 1), spV b (StrB 1), spV b (StrB 6), spEq b (.pointer (some ⟨g, 8, none⟩))]
         (StIt (w.alloc (.cells zeroIt 49 (0, 0))) b g #[.int .i64 kd, .int .i64 row, .int .i64 col, .int .i64 sc, .int .i64 tall, .int .i64 wide, .string nm, .int .i64 lev, .string tx]) (by kernel_rfl) (by kernel_rfl) (Nat.le_of_ble_eq_true rfl) (fun us => by simp [over, List.mapIdx_cons]; exact rfl) ?_ (fun w => World.grownBy.refl _ _) ?_ ?_
       · exact HST9.out.draw hgb (HST9.out.1.1.kept (grownBy_drewN _ 1 none) (by simp)) (grownBy_drewN _ 1 _)
       · refine ⟨?_, ?_, ?_, ?_, ?_, ?_, ?_, ?_, ?_, trivial⟩
         all_goals (intro us wr hst hd; rw [if_pos (by kernel_rfl)]; dsimp only)
         · clear hd
           go_simp
           exact ⟨hst, World.grownBy.refl _ _, rfl⟩
         · have d0 : us 56 = .pointer (some ⟨g, 8, none⟩) := hd ⟨0, .data⟩ (by simp) rfl
           clear hd
           have hB := (heap_cellR hst.2).1
           go_simp
           exact ⟨hst, World.grownBy.refl _ _, rfl⟩
         · clear hd
           go_simp
           have h := rs_tab (t := 9) hst.1 (threeT (p := StrB 1) (strB ⟨#[98]⟩ (by decide)) (strB ⟨#[126]⟩ (by decide)) (strB ⟨#[10]⟩ (by decide)))
           exact ⟨hst.alloc _, h.2.1, h.2.2⟩
         · clear hd
           go_simp
           exact ⟨hst, World.grownBy.refl _ _, rfl⟩
         · have d0 : us 59 = .pointer (some ⟨b, 0, none⟩) := hd ⟨3, .data⟩ (by simp) rfl
           clear hd
           go_simp
           exact (l01Next_any b 3 _ hst.1.1 (by decide) (by decide)).mono fun e w' ⟨r, he, h0, h1, hs, hg⟩ => ⟨_, he, hst.draw hgb hs hg, hg, r, rfl, h0, by omega⟩
         · have d4 : TabP b 3 (StrB 1) (us 58) wr := hd ⟨2, .data⟩ (by simp) rfl
           have d6 : NumB 0 2 (us 60) := hd ⟨4, .data⟩ (by simp) rfl
           clear hd
           obtain ⟨g4, e4, hbg, hcs⟩ := d4
           obtain ⟨r6, e6, l6, u6⟩ := d6
           have hu : r6 < 3 := by omega
           obtain ⟨u, hc, hq⟩ := hcs r6.toNat (by omega)
           replace hc := Lib.hid hc
           go_simp
           exact ⟨hst, World.grownBy.refl _ _, g4, _, u, rfl, hbg, hc.out, hq⟩
         · have d7 : AtP b (StrB 1) (us 61) wr := hd ⟨5, .data⟩ (by simp) rfl
           clear hd
           obtain ⟨g4, i, u, e7, hbg, hc, q, rfl, hq⟩ := d7
           go_simp
           exact ⟨hst, World.grownBy.refl _ _, _, rfl, hq⟩
         · have d0 : us 57 = .string tx := hd ⟨1, .data⟩ (by simp) rfl
           have d1 : StrB 1 (us 62) := hd ⟨6, .data⟩ (by simp) rfl
           clear hd
           obtain ⟨q, eq, hq⟩ := d1
           have hcat : ¬ 9223372036854775807 < tx.size + q.size := by omega
           go_simp
           exact ⟨hst, World.grownBy.refl _ _, _, rfl, by rw [ByteArray.size_append]; omega⟩
         · clear hd
           go_simp
           exact ⟨hst, World.grownBy.refl _ _, rfl⟩
       · intro us wr hst hd
         have d7 : StrB 6 (us 63) := hd 7 (by simp)
         have d8 : us 64 = .pointer (some ⟨g, 8, none⟩) := hd 8 (by simp)
         clear hd
         obtain ⟨q, eq, hq⟩ := d7
         obtain ⟨hc, hf⟩ := heap_cellR hst.2
         have hglr := blkLt hst.2
         have HR := Lib.hid hst
         clear hst
         simp only [List.drop, List.length]
         rw [eq, d8]
         clear eq d8
         go_wp2_with fail
         go_meet
         obtain ⟨d1, d2, d3, d4, d5, d6, d7, d8, d9⟩ := HD.out
         exact ⟨kd, row, col, sc, tall, wide, nm, lev, q, ⟨d1, hq, by omega, by omega, by omega, by omega, by omega, by omega, by omega⟩, HR.out.set hgb hgw 8 _⟩
     · skip
       go_wp2_with fail
       refine (l01Next_any b 3 _ (HST9.out.alloc _).1.1 (by decide) (by decide)).mono ?_
       rintro e Wa ⟨q, rfl, z0, z1, hs, hg⟩
       obtain ⟨u, hu, x, rfl, x0, x1⟩ := tab_kept (p := NumB (0) 9) (n := 3) hb9 hg (threeT (numDb 0 (by decide) (by decide)) (numDb 8 (by decide) (by decide)) (numDb 9 (by decide) (by decide))) z0 (by omega)
       have Ha := Lib.hid ((HST9.out.alloc _).draw hgb hs hg)
       obtain ⟨hc, hf⟩ := heap_cellR Ha.out.2
       have hgla := blkLt Ha.out.2
       have hqn : q < 3 := by omega
       clear hs hg
       go_wp2_with fail
       go_meet
       obtain ⟨d1, d2, d3, d4, d5, d6, d7, d8, d9⟩ := HD.out
       exact ⟨kd, row, col, x, tall, wide, nm, lev, tx, ⟨d1, by omega, by omega, by omega, by omega, by omega, by omega, by omega, by omega⟩, Ha.out.set hgb hgw 3 _⟩
     · skip
       go_wp2_with fail
       refine (l01Next_any b 2 _ (HST9.out.alloc _).1.1 (by decide) (by decide)).mono ?_
       rintro e Wa ⟨q, rfl, z0, z1, hs, hg⟩
       obtain ⟨u, hu, x, rfl, x0, x1⟩ := tab_kept (p := NumB (0) 4) (n := 2) hb9 hg (twoT (numDb 0 (by decide) (by decide)) (numDb 4 (by decide) (by decide))) z0 (by omega)
       have Ha := Lib.hid ((HST9.out.alloc _).draw hgb hs hg)
       obtain ⟨hc, hf⟩ := heap_cellR Ha.out.2
       have hgla := blkLt Ha.out.2
       have hqn : q < 2 := by omega
       clear hs hg
       go_wp2_with fail
       go_meet
       obtain ⟨d1, d2, d3, d4, d5, d6, d7, d8, d9⟩ := HD.out
       exact ⟨x, row, col, sc, tall, wide, nm, lev, tx, ⟨d1, by omega, by omega, by omega, by omega, by omega, by omega, by omega, by omega⟩, Ha.out.set hgb hgw 0 _⟩
     · skip
       go_wp2_with fail
       refine (l01Next_any b 3 _ (HST9.out.alloc _).1.1 (by decide) (by decide)).mono ?_
       rintro e Wa ⟨q, rfl, z0, z1, hs, hg⟩
       obtain ⟨u, hu, x, rfl, x0, x1⟩ := tab_kept (p := NumB (-1) 9) (n := 3) hb9 hg (threeT (numDb 1 (by decide) (by decide)) (numDb 9 (by decide) (by decide)) (numDb (-1) (by decide) (by decide))) z0 (by omega)
       have Ha := Lib.hid ((HST9.out.alloc _).draw hgb hs hg)
       obtain ⟨hc, hf⟩ := heap_cellR Ha.out.2
       have hgla := blkLt Ha.out.2
       have hqn : q < 3 := by omega
       clear hs hg
       go_wp2_with fail
       go_meet
       obtain ⟨d1, d2, d3, d4, d5, d6, d7, d8, d9⟩ := HD.out
       exact ⟨kd, row, col, sc, tall, wide, nm, x, tx, ⟨d1, by omega, by omega, by omega, by omega, by omega, by omega, by omega, by omega⟩, Ha.out.set hgb hgw 7 _⟩
     · have h0 : (r9 == 0) = false := by simp; omega
       have h1 : (r9 == 1) = false := by simp; omega
       have h2 : (r9 == 2) = false := by simp; omega
       have h3 : (r9 == 3) = false := by simp; omega
       go_wp2_with fail
       go_meet
       obtain ⟨d1, d2, d3⟩ := HD.out
       exact ⟨kd, row, col, sc, tall, wide, nm, lev, tx, ⟨d1, by omega, d3⟩, HST9.out⟩
    case rest =>
      clear HST9 HD
      obtain ⟨kd, row, col, sc, tall, wide, nm, lev, tx, hd, hst⟩ := hcut
      have HD := Lib.hid hd
      have HST := Lib.hid hst
      obtain ⟨hc, hf⟩ := heap_cellR hst.2
      have hglr := blkLt hst.2
      have KR := Lib.hid ((hst.1.2.block w.heap.size (by simp) (fun e => by have := Option.some.inj e; omega)).trans (push_at w (.cells zeroIt 49 (0, 0))))
      obtain ⟨hcr, hfr⟩ := heap_cellR KR.out
      have hlr := blkLt KR.out
      have hne : ¬ g = w.heap.size := by rw [World.size_alloc] at hgw; omega
      have hne2 : ¬ w.heap.size = g := fun e => hne e.symm
      clear hd hst
      go_wp2_with fail
      refine bodyPost_ret (v := .agg #[.int .i64 kd, .int .i64 row, .int .i64 col, .int .i64 sc, .int .i64 tall, .int .i64 wide, .string nm, .int .i64 lev, .string tx]) (by simp [results, Tryz.results51, go_sem, hcr]) rfl ⟨kd, row, col, sc, tall, wide, nm, lev, tx, rfl, HD.out, ?_⟩
      iterate 9 (refine stB_set ?_ hlt (Nat.le_refl _))
      exact ⟨HST.out.1.1, grownBy_trans (World.grownBy_alloc _ _ _) HST.out.1.2⟩

end Go.Proofs.YtlcglclojlffgaaGreatDoor
namespace Go.Proofs.YtlcglclojlffgaaGreatDoor
open Go.RowKit

theorem indexByte_iff (c : UInt8) : ∀ l : List UInt8, decide (0 ≤ Lib.indexByte l c) = l.contains c ∧ -1 ≤ Lib.indexByte l c
  | [] => by simp [Lib.indexByte]
  | b :: l => by
    obtain ⟨h1, h2⟩ := indexByte_iff c l
    unfold Lib.indexByte
    by_cases hb : b = c
    · subst hb; simp
    · rw [if_neg (by simpa using hb), List.contains_cons, show (c == b) = false from by rw [beq_eq_false_iff_ne]; exact fun e => hb e.symm, Bool.false_or, ← h1]
      by_cases hm : Lib.indexByte l c = -1
      · rw [if_pos (by simpa using hm), hm]; decide
      · rw [if_neg (by simpa using hm)]
        refine ⟨?_, by omega⟩
        rw [decide_eq_decide]
        omega
theorem libF_ok : ∀ f ∈ libF, f.ok = true := by decide +kernel
theorem libF_nm : ∀ f ∈ libF, f.name.size ≤ 1048576 := by decide
theorem famN_nm {nm : ByteArray} {f : Fam} (h : famN nm = some f) : f.name.size ≤ 1048576 := libF_nm f (List.mem_of_find?_eq_some h)
theorem famN_ok {nm : ByteArray} {f : Fam} (h : famN nm = some f) : f.ok = true := libF_ok f (List.mem_of_find?_eq_some h)
theorem boxI_sym {x : It} (hk : x.kind = 3) : boxI x = if scaledI x = true ∧ (x.text.data.toList.contains 10) = false then (match famN x.name with | some f => (smS f x.level x.text.data.toList).map fun n => (n * x.scale, colsF f n * x.scale) | none => none) else none := by
  rw [boxI, if_neg (by rw [hk]; decide), if_neg (by rw [hk]; decide), if_pos hk]; rfl

theorem kind_st (nm : ByteArray) (p k g cl : Int) (s1 s2 : Value) (w : World) :
    Calls Tryz.prog 176 #[.agg #[.string nm, .int .i64 2, .int .i64 p, .int .i64 k, .int .i64 g, s1, .int .i64 cl, s2]] w fun e w' => e = .returned (.iface 232 (.agg #[.string nm, .int .i64 2, .int .i64 p, .int .i64 k, .int .i64 g, s1, .int .i64 cl, s2])) ∧ Below w.heap.size w w' := by
  go_enter Tryz.func176, Tryz.ntmps176
  go_wp2_with fail
  go_ret
  exact ⟨rfl, ba1 _ _⟩
theorem kind_mx (nm : ByteArray) (kd p k g cl : Int) (s1 s2 : Value) (hk : (kd == 2) = false) (w : World) :
    Calls Tryz.prog 176 #[.agg #[.string nm, .int .i64 kd, .int .i64 p, .int .i64 k, .int .i64 g, s1, .int .i64 cl, s2]] w fun e w' => e = .returned (.iface 233 (.agg #[.string nm, .int .i64 kd, .int .i64 p, .int .i64 k, .int .i64 g, s1, .int .i64 cl, s2])) ∧ Below w.heap.size w w' := by
  go_enter Tryz.func176, Tryz.ntmps176
  go_wp2_with fail
  go_ret
  exact ⟨rfl, ba1 _ _⟩
theorem rowWidth_any (v : Int) (hv : 0 ≤ v ∧ v ≤ 1000) (w : World) :
    Calls Tryz.prog 266 #[.int .i64 v] w fun e w' => e = .returned (.int .i64 (15 + 11 * v)) ∧ w = w' := by
  have h1 : wrap64 (11 * v) = 11 * v := by unfold wrap64; omega
  have h2 : wrap64 (7 + 11 * v) = 7 + 11 * v := by unfold wrap64; omega
  have h3 : wrap64 (7 + 11 * v + 8) = 15 + 11 * v := by unfold wrap64; omega
  go_enter Tryz.func266, Tryz.ntmps266
  go_wp2_with fail
  go_ret
  exact ⟨ret_int (by omega), rfl⟩
theorem cols_st (nm : ByteArray) (kd p k g cl : Int) (s1 s2 : Value) (n : Int) (hc : 1 ≤ cl ∧ cl ≤ 8) (w : World) :
    Calls Tryz.prog 265 #[.agg #[.string nm, .int .i64 kd, .int .i64 p, .int .i64 k, .int .i64 g, s1, .int .i64 cl, s2], .int .i64 n] w fun e w' => e = .returned (.int .i64 (15 + 11 * (cl + 2))) ∧ Below w.heap.size w w' := by
  go_enter Tryz.func265, Tryz.ntmps265
  go_wp2_with fail
  refine (rowWidth_any _ (by omega) _).mono ?_
  rintro e w' ⟨rfl, rfl⟩
  go_wp2_with fail
  go_ret
  exact ⟨rfl, ba1 _ _⟩
theorem cols_mx (nm : ByteArray) (kd p k g cl : Int) (s1 s2 : Value) (n : Int) (w : World) :
    Calls Tryz.prog 267 #[.agg #[.string nm, .int .i64 kd, .int .i64 p, .int .i64 k, .int .i64 g, s1, .int .i64 cl, s2], .int .i64 n] w fun e w' => e = .returned (.int .i64 n) ∧ Below w.heap.size w w' := by
  go_enter Tryz.func267, Tryz.ntmps267
  go_wp2_with fail
  go_ret
  exact ⟨rfl, ba1 _ _⟩
theorem meth_st (nm : ByteArray) (kd p k g cl : Int) (s1 s2 : Value) : Meth 232 (.agg #[.string nm, .int .i64 kd, .int .i64 p, .int .i64 k, .int .i64 g, s1, .int .i64 cl, s2]) "loop.example/g00879/impl.cols" 265 :=
  ⟨fun n W => by kernel_rfl, fun args W => by kernel_rfl, fun n W => by kernel_rfl⟩
theorem meth_mx (nm : ByteArray) (kd p k g cl : Int) (s1 s2 : Value) : Meth 233 (.agg #[.string nm, .int .i64 kd, .int .i64 p, .int .i64 k, .int .i64 g, s1, .int .i64 cl, s2]) "loop.example/g00879/impl.cols" 267 :=
  ⟨fun n W => by kernel_rfl, fun args W => by kernel_rfl, fun n W => by kernel_rfl⟩
/-- the kind of a valid family, and its columns -/
theorem kind_any (f : Fam) (hf : f.ok = true) (b1 b2 : Nat) (_w : World) (n : Int) : ∃ T fn, Meth T (fmA f b1 b2) "loop.example/g00879/impl.cols" fn ∧
    (∀ w, Calls Tryz.prog 176 #[fmA f b1 b2] w fun e w' => e = .returned (.iface T (fmA f b1 b2)) ∧ Below w.heap.size w w') ∧
    (∀ w, Calls Tryz.prog fn #[fmA f b1 b2, .int .i64 n] w fun e w' => e = .returned (.int .i64 (colsF f n)) ∧ Below w.heap.size w w') := by
  obtain ⟨nm, kd, p, k, g, szs, cl, lvs⟩ := f
  obtain ⟨-, -, -, -, h5⟩ := fam_ok hf
  rcases h5 with ⟨rfl, -, -⟩ | ⟨rfl, -, -, -, h6, -⟩
  · exact ⟨_, _, meth_mx _ _ _ _ _ _ _ _, fun w => kind_mx _ _ _ _ _ _ _ _ (show ((1 : Int) == 2) = false by decide) w, fun w => cols_mx _ _ _ _ _ _ _ _ _ w⟩
  · exact ⟨_, _, meth_st _ _ _ _ _ _ _ _, fun w => kind_st _ _ _ _ _ _ _ w, fun w => cols_st _ _ _ _ _ _ _ _ _ h6 w⟩

theorem mul_bd {a b m n : Int} (ha : 1 ≤ a ∧ a ≤ m) (hb : 1 ≤ b ∧ b ≤ n) : 1 ≤ a * b ∧ a * b ≤ m * n := by
  have h1 : 1 * 1 ≤ a * b := Int.mul_le_mul ha.1 hb.1 (by omega) (by omega)
  have h2 : a * b ≤ m * n := Int.mul_le_mul ha.2 hb.2 (by omega) (by omega)
  omega
theorem smS_mem {f : Fam} {lev : Int} {S : List UInt8} {n : Int} (h : smS f lev S = some n) : n ∈ f.sizes := by
  unfold smS at h
  split at h
  · split at h
    · exact List.mem_of_find?_eq_some h
    · cases h
  · cases h
theorem colsF_bd {f : Fam} (hf : f.ok = true) {n : Int} (hn : n ∈ f.sizes) : 1 ≤ colsF f n ∧ colsF f n ≤ 125 := by
  obtain ⟨nm, kd, p, k, g, szs, cl, lvs⟩ := f
  have h1 := fam_sz hf hn
  obtain ⟨-, -, -, -, h5⟩ := fam_ok hf
  unfold colsF
  dsimp only
  rcases h5 with ⟨rfl, -, -⟩ | ⟨rfl, -, -, -, h6, -⟩
  · rw [if_pos rfl]; omega
  · rw [if_neg (by decide)]; omega
set_option maxRecDepth 100000 in
set_option maxHeartbeats 8000000 in
theorem symbolBox_any (x : It) (w : World) (hk : x.kind = 3) (hs : x.text.size ≤ 1048576) :
    Calls Tryz.prog 170 #[itV x] w (RetBx w (boxI x)) := by
  have HN := Lib.hid (fun (h : ¬ ((((1 ≤ x.scale ∧ x.scale ≤ 8) ∧ x.tall = 0) ∧ x.wide = 0) ∧ (x.text.data.toList.contains 10) = false)) => (boxI_sym hk).trans (if_neg (fun hh => h ⟨scaledI_iff.1 hh.1, hh.2⟩)))
  have HY := Lib.hid (fun (h : (((1 ≤ x.scale ∧ x.scale ≤ 8) ∧ x.tall = 0) ∧ x.wide = 0) ∧ (x.text.data.toList.contains 10) = false) => (boxI_sym hk).trans (if_pos ⟨scaledI_iff.2 h.1, h.2⟩))
  obtain ⟨O, hO⟩ : ∃ O, O = boxI x := ⟨_, rfl⟩
  rw [← hO] at HN HY ⊢
  obtain ⟨kd, row, col, sc, tall, wide, nm, lev, tx⟩ := x
  dsimp only at hk hs HN HY ⊢
  subst hk
  clear hO
  have HIX := Lib.hid (indexByte_iff 10 tx.data.toList)
  have HBY := Lib.hid (fun w => Tryz.strings_IndexByte tx 10 w)
  have hte : (10 : Int).toNat.toUInt8 = (10 : UInt8) := rfl
  rw [hte] at HBY
  obtain ⟨ix, hix⟩ : ∃ ix, ix = Lib.indexByte tx.data.toList 10 := ⟨_, rfl⟩
  rw [← hix] at HIX HBY
  obtain ⟨S, hS⟩ : ∃ S, S = tx.data.toList := ⟨_, rfl⟩
  have HS := Lib.hid hS
  rw [← hS] at HN HY HIX
  clear hix hS hte
  have HK := Lib.hid (push_at w (.cells #[.int .i64 3, .int .i64 row, .int .i64 col, .int .i64 sc, .int .i64 tall, .int .i64 wide, .string nm, .int .i64 lev, .string tx] 113 (0, 0)))
  have HB := Lib.hid (ba1 w (.cells #[.int .i64 3, .int .i64 row, .int .i64 col, .int .i64 sc, .int .i64 tall, .int .i64 wide, .string nm, .int .i64 lev, .string tx] 113 (0, 0)))
  go_enter Tryz.func170, Tryz.ntmps170
  rcases Bool.eq_false_or_eq_true (inB sc 1 8) with h2 | h2
  rotate_left
  · have HR := Lib.hid (HN.out (fun h => by rw [inB_iff.2 (by omega)] at h2; cases h2))
    go_wp2_with (go_at_call 71; refine (inRange_any _ _ _ _).mono ?_; rw [h2]; rintro e w' ⟨rfl, rfl⟩)
    exact bodyPost_ret (v := .tuple #[.int .i64 0, .int .i64 0, .bool false]) (by simp [results, Tryz.results170, go_sem]) rfl ⟨HB.out, .inr ⟨HR.out, rfl⟩⟩
  by_cases h3 : tall = 0
  rotate_left
  · have HR := Lib.hid (HN.out (fun h => h3 h.1.1.2))
    have h3b : (tall == 0) = false := by rw [beq_eq_false_iff_ne]; exact h3
    go_wp2_with (go_at_call 71; refine (inRange_any _ _ _ _).mono ?_; rw [h2]; rintro e w' ⟨rfl, rfl⟩)
    exact bodyPost_ret (v := .tuple #[.int .i64 0, .int .i64 0, .bool false]) (by simp [results, Tryz.results170, go_sem]) rfl ⟨HB.out, .inr ⟨HR.out, rfl⟩⟩
  subst h3
  by_cases h4 : wide = 0
  rotate_left
  · have HR := Lib.hid (HN.out (fun h => h4 h.1.2))
    have h4b : (wide == 0) = false := by rw [beq_eq_false_iff_ne]; exact h4
    go_wp2_with (go_at_call 71; refine (inRange_any _ _ _ _).mono ?_; rw [h2]; rintro e w' ⟨rfl, rfl⟩)
    exact bodyPost_ret (v := .tuple #[.int .i64 0, .int .i64 0, .bool false]) (by simp [results, Tryz.results170, go_sem]) rfl ⟨HB.out, .inr ⟨HR.out, rfl⟩⟩
  subst h4
  by_cases h5 : 0 ≤ ix
  · have HR := Lib.hid (HN.out (fun h => by have h1 := HIX.out.1; rw [h.2, decide_eq_true h5] at h1; cases h1))
    go_wp2_with (first
      | (go_at_call 71; refine (inRange_any _ _ _ _).mono ?_; rw [h2]; rintro e w' ⟨rfl, rfl⟩)
      | (go_at_call 173; refine (HBY.out _).mono ?_; rintro e w' ⟨rfl, rfl⟩))
    exact bodyPost_ret (v := .tuple #[.int .i64 0, .int .i64 0, .bool false]) (by simp [results, Tryz.results170, go_sem]) rfl ⟨HB.out, .inr ⟨HR.out, rfl⟩⟩
  have HSC := Lib.hid (inB_iff.1 h2)
  have HC := Lib.hid (show (S.contains 10) = false by rw [← HIX.out.1]; exact decide_eq_false h5)
  have HY2 := Lib.hid (HY.out ⟨by simp only [and_true]; exact HSC.out, HC.out⟩)
  clear HN HY
  go_wp2_with (first
    | (go_at_call 71; refine (inRange_any _ _ _ _).mono ?_; rw [h2]; rintro e w' ⟨rfl, rfl⟩)
    | (go_at_call 173; refine (HBY.out _).mono ?_; rintro e w' ⟨rfl, rfl⟩))
  refine (familyNamed_any nm _).mono ?_
  rintro e w1 ⟨hb1, hr⟩
  have K1 := Lib.hid (blkK hb1 HK.out)
  have HB1 := Lib.hid (bt0 HB.out hb1 (Nat.le_refl _))
  clear hb1 h2 h5
  rcases hr with ⟨f, b1, b2, hf, rfl, hi1, hi2⟩ | ⟨hf, rfl⟩
  rotate_left
  · have HR := Lib.hid (show O = none by rw [HY2.out, hf])
    go_wp2_with fail
    exact bodyPost_ret (v := .tuple #[.int .i64 0, .int .i64 0, .bool false]) (by simp [results, Tryz.results170, go_sem]) rfl ⟨bt0 HB1.out (ba1 _ _) (Nat.le_refl _), .inr ⟨HR.out, rfl⟩⟩
  have HFK := Lib.hid (famN_ok hf)
  have HO := Lib.hid (show O = (smS f lev S).map fun n => (n * sc, colsF f n * sc) by rw [HY2.out, hf])
  have HI1 := Lib.hid hi1
  have HI2 := Lib.hid hi2
  have HSM := Lib.hid (fun w' (h1 : IntsAt w' (some ⟨b1, 0, none⟩) f.sizes) (h2 : IntsAt w' (some ⟨b2, 0, none⟩) f.levels) => smallestSize_any f.name f.kind f.fp f.fk f.fg (some ⟨b1, 0, none⟩) f.sizes f.sizes.length f.cols (some ⟨b2, 0, none⟩) f.levels f.levels.length lev tx w' HFK.out h1 h2 (famN_nm hf) hs)
  rw [← HS.out] at HSM
  clear hf hi1 hi2 HY2
  obtain ⟨hcA, hfA⟩ := heap_cellR K1.out
  have z1 := blkLt K1.out
  go_wp2_with fail
  have KF := Lib.hid (push_at w1 (.cells #[.string f.name, .int .i64 f.kind, .int .i64 f.fp, .int .i64 f.fk, .int .i64 f.fg, .slice (some ⟨b1, 0, none⟩) f.sizes.length f.sizes.length, .int .i64 f.cols, .slice (some ⟨b2, 0, none⟩) f.levels.length f.levels.length] 123 (0, 0)))
  have HBF := Lib.hid (bt0 HB1.out (ba1 w1 (.cells #[.string f.name, .int .i64 f.kind, .int .i64 f.fp, .int .i64 f.fk, .int .i64 f.fg, .slice (some ⟨b1, 0, none⟩) f.sizes.length f.sizes.length, .int .i64 f.cols, .slice (some ⟨b2, 0, none⟩) f.levels.length f.levels.length] 123 (0, 0))) (Nat.le_refl _))
  refine (HSM.out _ (HI1.out.below (ba1 _ _)).at (HI2.out.below (ba1 _ _)).at).mono ?_
  obtain ⟨SM, hSM⟩ : ∃ SM, SM = smS f lev S := ⟨_, rfl⟩
  have HSMe := Lib.hid hSM
  rw [← hSM] at HO ⊢
  clear hSM
  rintro e w2 ⟨hb2, hr⟩
  have KF2 := Lib.hid (blkK hb2 KF.out)
  have K2 := Lib.hid (blkK hb2 (blkK (ba1 _ _) K1.out))
  have HB2 := Lib.hid (bt0 HBF.out hb2 (Nat.le_refl _))
  clear hb2 hcA hfA
  obtain ⟨hcA, hfA⟩ := heap_cellR K2.out
  obtain ⟨hcF, hfF⟩ := heap_cellR KF2.out
  have z2 := blkLt K2.out
  have z3 := blkLt KF2.out
  rcases hr with ⟨n, hn, rfl⟩ | ⟨hn, cd, hcd, rfl⟩
  rotate_left
  · have HR := Lib.hid (show O = none by rw [HO.out, hn]; rfl)
    have hcb : (cd != 0) = true := by simpa using hcd
    clear hcd
    go_wp2_with fail
    exact bodyPost_ret (v := .tuple #[.int .i64 0, .int .i64 0, .bool false]) (by simp [results, Tryz.results170, go_sem]) rfl ⟨HB2.out, .inr ⟨HR.out, rfl⟩⟩
  have HR := Lib.hid (show O = some (n * sc, colsF f n * sc) by rw [HO.out, hn]; rfl)
  have hm := smS_mem (HSMe.out.symm.trans hn)
  have b1n := fam_sz (nm := f.name) (kd := f.kind) (p := f.fp) (k := f.fk) (g := f.fg) (szs := f.sizes) (cl := f.cols) (lvs := f.levels) HFK.out hm
  have b2n := colsF_bd HFK.out hm
  have hsc := HSC.out
  have e1 := mul_bd (a := n) (b := sc) (m := 41) (n := 8) (by omega) hsc
  have e2 := mul_bd (a := colsF f n) (b := sc) (m := 125) (n := 8) b2n hsc
  obtain ⟨T, fn, hMT, hKD, hCO⟩ := kind_any f HFK.out b1 b2 w n
  have HMT := Lib.hid hMT
  have HKD := Lib.hid hKD
  have HCO := Lib.hid hCO
  obtain ⟨CF, hCF⟩ : ∃ CF, CF = colsF f n := ⟨_, rfl⟩
  rw [← hCF] at HCO HR e2
  obtain ⟨R1, hR1⟩ : ∃ R, n * sc = R := ⟨_, rfl⟩
  obtain ⟨R2, hR2⟩ : ∃ R, CF * sc = R := ⟨_, rfl⟩
  rw [hR1, hR2] at HR
  rw [hR1] at e1
  rw [hR2] at e2
  have hw1 : wrap64 (n * sc) = R1 := by rw [hR1]; unfold wrap64; omega
  have hw2 : wrap64 (CF * sc) = R2 := by rw [hR2]; unfold wrap64; omega
  clear hn hm b2n hMT hKD hCO hCF hR1 hR2 hsc
  go_wp2_with fail
  refine wp_region_ext (by kernel_rfl) (by kernel_rfl) ?_
  repeat (first
    | (go_big_quiet_step ((go_at_call 176; go_must (exact calls_ext _ (HKD.out _)))))
    | (refine quiet_invoke1 rfl 60 61 "loop.example/g00879/impl.cols" _ rfl T (fmA f b1 b2) _ fn (.int .i64 CF) rfl rfl HMT.out (fun _ ⟨s, hs⟩ => by subst hs; exact calls_ext s (HCO.out _)) ?_; simp only [Act.put, List.setIfInBounds_toArray, List.set_cons_zero, List.set_cons_succ]))
  refine wpQuiet_nil ?_
  rintro _ ⟨s, rfl⟩
  have HS2 := Lib.hid s.below
  go_wp2_with fail
  exact bodyPost_ret (v := .tuple #[.int .i64 R1, .int .i64 R2, .bool true]) (by simp [results, Tryz.results170, go_sem, hw1, hw2]) rfl ⟨bt0 HB2.out HS2.out (Nat.le_refl _), .inl ⟨_, _, HR.out, rfl⟩⟩

end Go.Proofs.YtlcglclojlffgaaGreatDoor
namespace Go.Proofs.YtlcglclojlffgaaGreatDoor
open Go.RowKit

theorem thing1 (x : It) (hk : x.kind = 1) (w : World) :
    Calls Tryz.prog 48 #[itV x] w fun e w' => e = .returned (.tuple #[.iface 111 (itV x), .bool true]) ∧ Below w.heap.size w w' := by
  obtain ⟨kd, row, col, sc, tall, wide, nm, lev, tx⟩ := x
  dsimp only at hk
  subst hk
  go_enter Tryz.func48, Tryz.ntmps48
  go_wp2_with fail
  go_ret2
  exact ⟨rfl, ba1 _ _⟩
theorem thing2 (x : It) (hk : x.kind = 2) (w : World) :
    Calls Tryz.prog 48 #[itV x] w fun e w' => e = .returned (.tuple #[.iface 112 (itV x), .bool true]) ∧ Below w.heap.size w w' := by
  obtain ⟨kd, row, col, sc, tall, wide, nm, lev, tx⟩ := x
  dsimp only at hk
  subst hk
  go_enter Tryz.func48, Tryz.ntmps48
  go_wp2_with fail
  go_ret2
  exact ⟨rfl, ba1 _ _⟩
theorem thing3 (x : It) (hk : x.kind = 3) (w : World) :
    Calls Tryz.prog 48 #[itV x] w fun e w' => e = .returned (.tuple #[.iface 113 (itV x), .bool true]) ∧ Below w.heap.size w w' := by
  obtain ⟨kd, row, col, sc, tall, wide, nm, lev, tx⟩ := x
  dsimp only at hk
  subst hk
  go_enter Tryz.func48, Tryz.ntmps48
  go_wp2_with fail
  go_ret2
  exact ⟨rfl, ba1 _ _⟩
theorem thing0 (x : It) (h1 : x.kind ≠ 1) (h2 : x.kind ≠ 2) (h3 : x.kind ≠ 3) (w : World) :
    Calls Tryz.prog 48 #[itV x] w fun e w' => e = .returned (.tuple #[.iface 112 (itV x), .bool false]) ∧ Below w.heap.size w w' := by
  obtain ⟨kd, row, col, sc, tall, wide, nm, lev, tx⟩ := x
  dsimp only at h1 h2 h3
  have h1b : (kd == 1) = false := by rw [beq_eq_false_iff_ne]; exact h1
  have h2b : (kd == 2) = false := by rw [beq_eq_false_iff_ne]; exact h2
  have h3b : (kd == 3) = false := by rw [beq_eq_false_iff_ne]; exact h3
  go_enter Tryz.func48, Tryz.ntmps48
  go_wp2_with fail
  go_ret2
  exact ⟨rfl, ba1 _ _⟩
theorem methBox1 (kd row col sc tall wide : Int) (nm : ByteArray) (lev : Int) (tx : ByteArray) (n : Nat) (W : World) : (method (n + 1) 111 (.agg #[.int .i64 kd, .int .i64 row, .int .i64 col, .int .i64 sc, .int .i64 tall, .int .i64 wide, .string nm, .int .i64 lev, .string tx]) "loop.example/g00879/impl.box").run Tryz.prog W = .ok (163, (.agg #[.int .i64 kd, .int .i64 row, .int .i64 col, .int .i64 sc, .int .i64 tall, .int .i64 wide, .string nm, .int .i64 lev, .string tx])) W := by kernel_rfl
theorem methBox2 (kd row col sc tall wide : Int) (nm : ByteArray) (lev : Int) (tx : ByteArray) (n : Nat) (W : World) : (method (n + 1) 112 (.agg #[.int .i64 kd, .int .i64 row, .int .i64 col, .int .i64 sc, .int .i64 tall, .int .i64 wide, .string nm, .int .i64 lev, .string tx]) "loop.example/g00879/impl.box").run Tryz.prog W = .ok (167, (.agg #[.int .i64 kd, .int .i64 row, .int .i64 col, .int .i64 sc, .int .i64 tall, .int .i64 wide, .string nm, .int .i64 lev, .string tx])) W := by kernel_rfl
theorem methBox3 (kd row col sc tall wide : Int) (nm : ByteArray) (lev : Int) (tx : ByteArray) (n : Nat) (W : World) : (method (n + 1) 113 (.agg #[.int .i64 kd, .int .i64 row, .int .i64 col, .int .i64 sc, .int .i64 tall, .int .i64 wide, .string nm, .int .i64 lev, .string tx]) "loop.example/g00879/impl.box").run Tryz.prog W = .ok (170, (.agg #[.int .i64 kd, .int .i64 row, .int .i64 col, .int .i64 sc, .int .i64 tall, .int .i64 wide, .string nm, .int .i64 lev, .string tx])) W := by kernel_rfl
theorem boxI_bad {x : It} (h1 : x.kind ≠ 1) (h2 : x.kind ≠ 2) (h3 : x.kind ≠ 3) : boxI x = none := by rw [boxI, if_neg h1, if_neg h2, if_neg h3]

set_option maxRecDepth 100000 in
set_option maxHeartbeats 4000000 in
theorem itemBox_any (x : It) (hs : x.text.size ≤ 1048576) (w : World) :
    Calls Tryz.prog 56 #[itV x] w (RetBx w (boxI x)) := by
  have HT1 := Lib.hid (fun h w => thing1 x h w)
  have HT2 := Lib.hid (fun h w => thing2 x h w)
  have HT3 := Lib.hid (fun h w => thing3 x h w)
  have HT0 := Lib.hid (fun h1 h2 h3 w => thing0 x h1 h2 h3 w)
  have HX1 := Lib.hid (fun h w => textBox_any x w h)
  have HX2 := Lib.hid (fun h w => lineBox_any x w h)
  have HX3 := Lib.hid (fun h w => symbolBox_any x w h hs)
  have HX0 := Lib.hid (fun h1 h2 h3 => boxI_bad (x := x) h1 h2 h3)
  obtain ⟨O, hO⟩ : ∃ O, O = boxI x := ⟨_, rfl⟩
  rw [← hO] at HX1 HX2 HX3 HX0 ⊢
  clear hO
  obtain ⟨kd, row, col, sc, tall, wide, nm, lev, tx⟩ := x
  dsimp only at hs HT1 HT2 HT3 HT0 HX1 HX2 HX3 HX0 ⊢
  unfold itV at *
  have HB := Lib.hid (ba1 w (.cells #[.int .i64 kd, .int .i64 row, .int .i64 col, .int .i64 sc, .int .i64 tall, .int .i64 wide, .string nm, .int .i64 lev, .string tx] 49 (0, 0)))
  go_enter Tryz.func56, Tryz.ntmps56
  go_wp2_with fail
  by_cases h1 : kd = 1
  · subst h1
    refine (HT1.out rfl _).mono ?_
    rintro e w1 ⟨rfl, hb1⟩
    have HB1 := Lib.hid (bt0 HB.out hb1 (Nat.le_refl _))
    have hm := methBox1 1 row col sc tall wide nm lev tx
    clear hb1
    go_wp2_with fail
    refine (HX1.out (by first | trivial | rfl) _).mono ?_
    rintro e w2 ⟨hb2, hr⟩
    have HB2 := Lib.hid (bt0 HB1.out hb2 (Nat.le_refl _))
    clear hb2
    rcases hr with ⟨r, c, hr, rfl⟩ | ⟨hr, rfl⟩
    · have HR := Lib.hid hr
      go_wp2_with fail
      exact bodyPost_ret (v := .tuple #[.int .i64 r, .int .i64 c, .bool true]) (by simp [results, Tryz.results56, go_sem]) rfl ⟨HB2.out, .inl ⟨_, _, HR.out, rfl⟩⟩
    · have HR := Lib.hid hr
      go_wp2_with fail
      exact bodyPost_ret (v := .tuple #[.int .i64 0, .int .i64 0, .bool false]) (by simp [results, Tryz.results56, go_sem]) rfl ⟨HB2.out, .inr ⟨HR.out, rfl⟩⟩
  by_cases h2 : kd = 2
  · subst h2
    refine (HT2.out rfl _).mono ?_
    rintro e w1 ⟨rfl, hb1⟩
    have HB1 := Lib.hid (bt0 HB.out hb1 (Nat.le_refl _))
    have hm := methBox2 2 row col sc tall wide nm lev tx
    clear hb1
    go_wp2_with fail
    refine (HX2.out (by first | trivial | rfl) _).mono ?_
    rintro e w2 ⟨hb2, hr⟩
    have HB2 := Lib.hid (bt0 HB1.out hb2 (Nat.le_refl _))
    clear hb2
    rcases hr with ⟨r, c, hr, rfl⟩ | ⟨hr, rfl⟩
    · have HR := Lib.hid hr
      go_wp2_with fail
      exact bodyPost_ret (v := .tuple #[.int .i64 r, .int .i64 c, .bool true]) (by simp [results, Tryz.results56, go_sem]) rfl ⟨HB2.out, .inl ⟨_, _, HR.out, rfl⟩⟩
    · have HR := Lib.hid hr
      go_wp2_with fail
      exact bodyPost_ret (v := .tuple #[.int .i64 0, .int .i64 0, .bool false]) (by simp [results, Tryz.results56, go_sem]) rfl ⟨HB2.out, .inr ⟨HR.out, rfl⟩⟩
  by_cases h3 : kd = 3
  · subst h3
    refine (HT3.out rfl _).mono ?_
    rintro e w1 ⟨rfl, hb1⟩
    have HB1 := Lib.hid (bt0 HB.out hb1 (Nat.le_refl _))
    have hm := methBox3 3 row col sc tall wide nm lev tx
    clear hb1
    go_wp2_with fail
    refine (HX3.out (by first | trivial | rfl) _).mono ?_
    rintro e w2 ⟨hb2, hr⟩
    have HB2 := Lib.hid (bt0 HB1.out hb2 (Nat.le_refl _))
    clear hb2
    rcases hr with ⟨r, c, hr, rfl⟩ | ⟨hr, rfl⟩
    · have HR := Lib.hid hr
      go_wp2_with fail
      exact bodyPost_ret (v := .tuple #[.int .i64 r, .int .i64 c, .bool true]) (by simp [results, Tryz.results56, go_sem]) rfl ⟨HB2.out, .inl ⟨_, _, HR.out, rfl⟩⟩
    · have HR := Lib.hid hr
      go_wp2_with fail
      exact bodyPost_ret (v := .tuple #[.int .i64 0, .int .i64 0, .bool false]) (by simp [results, Tryz.results56, go_sem]) rfl ⟨HB2.out, .inr ⟨HR.out, rfl⟩⟩
  · refine (HT0.out h1 h2 h3 _).mono ?_
    rintro e w1 ⟨rfl, hb1⟩
    have HB1 := Lib.hid (bt0 HB.out hb1 (Nat.le_refl _))
    have HR := Lib.hid (HX0.out h1 h2 h3)
    clear hb1
    go_wp2_with fail
    exact bodyPost_ret (v := .tuple #[.int .i64 0, .int .i64 0, .bool false]) (by simp [results, Tryz.results56, go_sem]) rfl ⟨HB1.out, .inr ⟨HR.out, rfl⟩⟩

end Go.Proofs.YtlcglclojlffgaaGreatDoor
namespace Go.Proofs.YtlcglclojlffgaaGreatDoor
open Go.RowKit

/-- a box on a label -/
structure Bx where
  row : Int
  col : Int
  rows : Int
  cols : Int
/-- rows of boxes -/
def bxE : Enc Bx where
  enc r := [.int .i64 r.row, .int .i64 r.col, .int .i64 r.rows, .int .i64 r.cols]
  k := 4
  t := 66
  bytes := 32
  len _ := rfl
  one := by
    intro r u hu
    simp only [List.mem_cons, List.not_mem_nil, or_false] at hu
    rcases hu with rfl | rfl | rfl | rfl <;> rfl
  pos := by decide
theorem infoBx : (Tryz.prog.info? 66).map (fun i => (i.zero, i.size, i.bytes)) = some (some (.agg #[.int .i64 0, .int .i64 0, .int .i64 0, .int .i64 0]), 4, 32) := by kernel_rfl
theorem wpList_append_bx {ops : Array Oper} {rest : List Oper} {o : Oper} {a : Act} {Q : Exit → Act → World → Prop} {W : World} (hgd : o.guard = none) (s x : Operand)
    (ho : o.op = .call { callee := .builtin .append, args := #[s, x], argTypes := #[62, 62] })
    (base : Nat) (v : Value) (xs : List Bx) (y : Bx) (hs : a.eval s = v) (hown : bxE.Own W base v xs) (g : Nat) (hx : a.eval x = .slice (some ⟨g, 0, none⟩) 1 1)
    (hg : W.heap[g]? = some (.cells #[.int .i64 y.row, .int .i64 y.col, .int .i64 y.rows, .int .i64 y.cols] 66 (0, 0))) (hl : xs.length ≤ 1000000000) (hb : base ≤ W.heap.size)
    (h : ∀ a' c' xs' w', xs' = xs ++ [y] → bxE.Own w' base (.slice a' xs'.length c') xs' → W.grownBy w' v.ownBlock → Below base W w' → wpList Tryz.prog ops Q rest (a.put o.dst (.slice a' xs'.length c')) w') : wpList Tryz.prog ops Q (o :: rest) a W := by
  obtain ⟨i0, hi, y0, y1, y2⟩ := info_parts infoBx
  exact wpList_append_e bxE hgd s x _ ho Tryz.underlying62 i0 _ hi y0 y1 y2 rfl (by decide) base v xs y hs hown g _ hx hg rfl hl hb h
/-- rows of items -/
def itE : Enc It where
  enc x := [.int .i64 x.kind, .int .i64 x.row, .int .i64 x.col, .int .i64 x.scale, .int .i64 x.tall, .int .i64 x.wide, .string x.name, .int .i64 x.level, .string x.text]
  k := 9
  t := 49
  bytes := 88
  len _ := rfl
  one := by
    intro r u hu
    simp only [List.mem_cons, List.not_mem_nil, or_false] at hu
    rcases hu with rfl | rfl | rfl | rfl | rfl | rfl | rfl | rfl | rfl <;> rfl
  pos := by decide
/-- an item in memory -/
theorem it_at {w : World} {a : Option Addr} {l : List It} (h : itE.At w a l) {i : Nat} {x : It} (hr : l[i]? = some x) : ∃ b o, a = some ⟨b, o, none⟩ ∧ b < w.heap.size ∧
    w.cell? ⟨b, o + i * 9, none⟩ = some (.int .i64 x.kind) ∧ w.cell? ⟨b, o + i * 9 + 1, none⟩ = some (.int .i64 x.row) ∧ w.cell? ⟨b, o + i * 9 + 2, none⟩ = some (.int .i64 x.col) ∧ w.cell? ⟨b, o + i * 9 + 3, none⟩ = some (.int .i64 x.scale) ∧ w.cell? ⟨b, o + i * 9 + 4, none⟩ = some (.int .i64 x.tall) ∧
    w.cell? ⟨b, o + i * 9 + 5, none⟩ = some (.int .i64 x.wide) ∧ w.cell? ⟨b, o + i * 9 + 6, none⟩ = some (.string x.name) ∧ w.cell? ⟨b, o + i * 9 + 7, none⟩ = some (.int .i64 x.level) ∧ w.cell? ⟨b, o + i * 9 + 8, none⟩ = some (.string x.text) := by
  obtain ⟨b, o, e, hc⟩ := h i x hr
  have h0 : w.cell? ⟨b, o + i * 9, none⟩ = some (.int .i64 x.kind) := hc 0 _ rfl
  exact ⟨b, o, e, lt_of_cell h0, h0, hc 1 _ rfl, hc 2 _ rfl, hc 3 _ rfl, hc 4 _ rfl, hc 5 _ rfl, hc 6 _ rfl, hc 7 _ rfl, hc 8 _ rfl⟩

/-- the box of an item on a label -/
def bxO (x : It) : Bx := ⟨x.row, x.col, ((boxI x).getD (0, 0)).1, ((boxI x).getD (0, 0)).2⟩
theorem bxO_some {x : It} {r c : Int} (h : boxI x = some (r, c)) : bxO x = ⟨x.row, x.col, r, c⟩ := by simp [bxO, h]
/-- the bounds of a box -/
theorem boxI_bd {x : It} {r c : Int} (h : boxI x = some (r, c)) : (1 ≤ r ∧ r ≤ 2000) ∧ (1 ≤ c ∧ c ≤ 2000) := by
  by_cases h1 : x.kind = 1
  · rw [boxI_text h1] at h
    split at h
    · next hh =>
      rw [scaledI_iff] at hh
      obtain ⟨-, ⟨⟨hs, -⟩, -⟩, l1, l2, -⟩ := hh
      simp only [Option.some.injEq, Prod.mk.injEq] at h
      obtain ⟨rfl, rfl⟩ := h
      have := mul_bd (a := 4 * (x.text.size : Int) - 1) (b := x.scale) (m := 159) (n := 8) (by omega) (by omega)
      omega
    · cases h
  by_cases h2 : x.kind = 2
  · rw [boxI_line h2] at h
    split at h
    · next hh =>
      simp only [Option.some.injEq, Prod.mk.injEq] at h
      omega
    · cases h
  by_cases h3 : x.kind = 3
  · rw [boxI_sym h3] at h
    split at h
    · next hh =>
      have hs := (scaledI_iff.1 hh.1).1.1
      split at h
      · next f hf =>
        rw [Option.map_eq_some_iff] at h
        obtain ⟨n, hn, h⟩ := h
        simp only [Prod.mk.injEq] at h
        obtain ⟨rfl, rfl⟩ := h
        have hm := smS_mem hn
        have ho := famN_ok hf
        have b1 := fam_sz (nm := f.name) (kd := f.kind) (p := f.fp) (k := f.fk) (g := f.fg) (szs := f.sizes) (cl := f.cols) (lvs := f.levels) ho hm
        have b2 := colsF_bd ho hm
        have e1 := mul_bd (a := n) (b := x.scale) (m := 41) (n := 8) (by omega) hs
        have e2 := mul_bd (a := colsF f n) (b := x.scale) (m := 125) (n := 8) b2 hs
        omega
      · cases h
    · cases h
  · rw [boxI_bad h1 h2 h3] at h; cases h
/-- a box lies on a raster -/
def cntB (R C row col r c : Int) : Bool := decide (0 ≤ row) && decide (0 ≤ col) && inB r 1 R && inB c 1 C && decide (row ≤ R - r) && decide (col ≤ C - c)
theorem onL_cnt {l : Lb} {x : It} {r c : Int} (h : boxI x = some (r, c)) : onL l x = cntB l.rows l.cols x.row x.col r c := by
  have hb := boxI_bd h
  unfold onL cntB
  rw [h, Bool.eq_iff_iff]
  simp only [inB, Bool.and_eq_true, decide_eq_true_eq]
  omega
theorem onL_none {l : Lb} {x : It} (h : boxI x = none) : onL l x = false := by unfold onL; rw [h]
theorem lbok_parts (l : Lb) : l.ok = (sizeB l.rows l.cols && decide (l.items.length ≤ 12) && l.items.all (onL l)) := by
  rw [Lb.ok, Bool.eq_iff_iff]
  simp only [sizeB, inB, Bool.and_eq_true, decide_eq_true_eq, and_assoc]

end Go.Proofs.YtlcglclojlffgaaGreatDoor
namespace Go.Proofs.YtlcglclojlffgaaGreatDoor
open Go.RowKit

/-- the words' bytes -/
def bytesL (ws : List ByteArray) : List (List UInt8) := ws.map (fun b => b.data.toList)

theorem cut_len (c : UInt8) : ∀ (l : List UInt8), (cut c l).length ≤ l.length + 1 ∧ ∀ p ∈ cut c l, p.length ≤ l.length
  | [] => by simp [cut]
  | x :: r => by
    obtain ⟨h1, h2⟩ := cut_len c r
    rw [cut]
    split
    · refine ⟨by simpa using h1, ?_⟩
      intro p hp
      rcases List.mem_cons.1 hp with rfl | hp
      · simp
      · have := h2 p hp; simp; omega
    · split
      · simp
      · rename_i h t he
        rw [he] at h1 h2
        refine ⟨by simp at h1 ⊢; omega, ?_⟩
        intro p hp
        rcases List.mem_cons.1 hp with rfl | hp
        · have := h2 h (by simp); simp; omega
        · have := h2 p (by simp [hp]); simp; omega

theorem strs_new (w : World) (ss : List ByteArray) (t : TypeId) : StrsAt (w.alloc (.cells (ss.map Value.string).toArray t (0, 0))) (some ⟨w.heap.size, 0, none⟩) ss := by
  intro i hi
  refine ⟨w.heap.size, 0, rfl, ?_⟩
  rw [Nat.zero_add]
  simp [hi]

/-- strings.Split at a byte -/
theorem split_any (s : ByteArray) (c : UInt8) (w : World) (hs : s.size ≤ 1048576) (hE : Env w) :
    Calls Tryz.prog 31 #[.string s, .string ⟨#[c]⟩] w fun e w' => ∃ ss : List ByteArray, bytesL ss = cut c s.data.toList ∧ ss.length ≤ 1048577 ∧ (∀ b ∈ ss, b.size ≤ s.size) ∧ e = .returned (.slice (some ⟨w.heap.size, 0, none⟩) ss.length ss.length) ∧ w' = w.alloc (.cells (ss.map Value.string).toArray 9) := by
  obtain ⟨m, hm⟩ := hE.mx
  refine (Tryz.strings_Split s ⟨#[c]⟩ m w (by omega) hm (Nat.le_refl 1)).mono fun e w' ⟨he, hw⟩ => ?_
  have hl := Lib.splitB_all ⟨#[c]⟩ (Nat.le_refl 1) 0 (Lib.countB s ⟨#[c]⟩) s rfl
  have hc := splitB_cut s c
  refine ⟨Lib.splitB ⟨#[c]⟩ 0 (Lib.countB s ⟨#[c]⟩) s, hc, ?_, ?_, ?_, hw⟩
  · have h2 := congrArg List.length hc
    rw [List.length_map] at h2
    have h3 := (cut_len c s.data.toList).1
    have h4 : s.data.toList.length = s.size := rfl
    omega
  · intro b hb
    have h2 : b.data.toList ∈ cut c s.data.toList := by rw [← hc]; exact List.mem_map.2 ⟨b, hb, rfl⟩
    exact (cut_len c s.data.toList).2 _ h2
  · rw [hl]; exact he

end Go.Proofs.YtlcglclojlffgaaGreatDoor
namespace Go.Proofs.YtlcglclojlffgaaGreatDoor
open Go.RowKit

theorem itoa_small {n : Int} (h0 : 0 ≤ n) (h : n < 10) : Lib.itoa n = [UInt8.ofNat (48 + n).toNat] := by
  obtain ⟨u, rfl⟩ := Int.eq_ofNat_of_zero_le h0
  have e : (48 + (u : Int)).toNat = 48 + u := by omega
  rw [Lib.itoa_nonneg, Lib.decDigits, dif_pos (by omega), e]
theorem itoa_big {n : Int} (h : 10 ≤ n) : Lib.itoa n = Lib.itoa (n / 10) ++ [UInt8.ofNat (48 + n % 10).toNat] := by
  obtain ⟨u, rfl⟩ := Int.eq_ofNat_of_zero_le (show 0 ≤ n by omega)
  have e1 : ((u : Int) / 10) = ((u / 10 : Nat) : Int) := by omega
  have e2 : (48 + (u : Int) % 10).toNat = 48 + u % 10 := by omega
  rw [e1, e2, Lib.itoa_nonneg, Lib.itoa_nonneg, Lib.decDigits, dif_neg (by omega)]

/-- a string of one byte -/
def oneB (z : Int) : ByteArray := ⟨#[UInt8.ofNat z.toNat]⟩

theorem conv_one (w : World) (b : Nat) (z : Int) (hc : w.cell? ⟨b, 0, none⟩ = some (.int .u8 z)) :
    (convert 33 9 (.slice (some ⟨b, 0, none⟩) 1 1)).run Tryz.prog w = .ok (.string (oneB z)) w := by
  have := run_convert_bytes_arg (P := Tryz.prog) w 33 5 Tryz.underlying33 Tryz.underlying5 b 0 1 1 [z] rfl (fun i hi => by
      obtain rfl : i = 0 := by omega
      simpa using hc) 9 Tryz.underlying9
  simpa [strOfNums, oneB] using this
theorem conv_new (w : World) (z : Int) :
    (convert 33 9 (.slice (some ⟨w.heap.size, 0, none⟩) 1 1)).run Tryz.prog (w.alloc (.cells #[.int .u8 z] 5)) = .ok (.string (oneB z)) (w.alloc (.cells #[.int .u8 z] 5)) :=
  conv_one _ _ _ (by simp)
theorem conv_drew (w : World) (z : Int) :
    (convert 33 9 (.slice (some ⟨w.heap.size, 0, none⟩) 1 1)).run Tryz.prog (w.alloc (.cells #[.int .u8 z] 5)).drew = .ok (.string (oneB z)) (w.alloc (.cells #[.int .u8 z] 5)).drew :=
  conv_one _ _ _ (by simp)

theorem decB_small {n : Int} (h0 : 0 ≤ n) (h : n < 10) : decB n = oneB (48 + n) := by
  unfold decB oneB; rw [itoa_small h0 h]
theorem decB_big {n : Int} (h : 10 ≤ n) : decB n = decB (n / 10) ++ oneB (48 + n % 10) := by
  have e : decB n = ⟨(Lib.itoa n).toArray⟩ := rfl
  rw [e, itoa_big h]
  apply ByteArray.ext
  simp [decB, oneB]

set_option maxHeartbeats 400000 in
theorem l01Dec_any (k : Nat) : ∀ (n : Int) (w : World), n ≤ k → 0 ≤ n → n ≤ 9223372036854775807 →
    Calls Tryz.prog 45 #[.int .i64 n] w fun e w' => e = .returned (.string (decB n)) ∧ Below w.heap.size w w' := by
  induction k with
  | zero =>
    intro n w hk h0 h1
    have hn : n < 10 := by omega
    have hcv := conv_new w
    go_enter Tryz.func45, Tryz.ntmps45
    go_wp2_with fail
    go_ret
    exact ⟨ret_str (decB_small h0 hn).symm, (Below.refl _ _).alloc (Nat.le_refl _) _⟩
  | succ k ih =>
    intro n w hk h0 h1
    by_cases hn : n < 10
    · have hcv := conv_new w
      go_enter Tryz.func45, Tryz.ntmps45
      go_wp2_with fail
      go_ret
      exact ⟨ret_str (decB_small h0 hn).symm, (Below.refl _ _).alloc (Nat.le_refl _) _⟩
    · have e1 : IntKind.i64.wrap (n.tdiv 10) = n / 10 := by rw [Int.tdiv_eq_ediv_of_nonneg h0]; exact IntWalk.i64_in _ (by omega)
      have e2 : n.tmod 10 = n % 10 := Int.tmod_eq_emod_of_nonneg h0
      have e3 : IntKind.i64.wrap (48 + n % 10) = 48 + n % 10 := IntWalk.i64_in _ (by omega)
      have e4 : IntKind.u8.wrap (48 + n % 10) = 48 + n % 10 := IntWalk.u8_in _ (by omega)
      have hs1 : (decB (n / 10)).size ≤ 21 := by rw [decB_size]; exact Lib.itoa_length_le _ (by omega) (by omega)
      have hs2 : (oneB (48 + n % 10)).size ≤ 1 := by simp [oneB, ByteArray.size]
      have hs3 : (decB (n / 10)).size + (oneB (48 + n % 10)).size ≤ 9223372036854775807 := by omega
      clear hs1 hs2
      have hcv := conv_new w
      have hcd := conv_drew w
      go_enter Tryz.func45, Tryz.ntmps45
      go_wp2_with fail
      go_region_with (go_at_call 45; refine (ih _ _ (by omega) (by omega) (by omega)).mono ?_; rintro e w' ⟨rfl, hb⟩; have hcv' := conv_new w'; obtain ⟨hc, hf⟩ := bcell hb; have hko := conv_one w' w.heap.size (48 + n % 10))
      all_goals
        go_wp2
        go_ret
        refine ⟨ret_str (decB_big (by omega)).symm, ?_⟩
        first | exact ((Below.refl _ _).drew.trans hb).alloc hb.size _ | exact (((Below.refl _ _).alloc (Nat.le_refl _) _).drew).trans (hb.mono (by simp))

end Go.Proofs.YtlcglclojlffgaaGreatDoor
namespace Go.Proofs.YtlcglclojlffgaaGreatDoor
open Go.RowKit

theorem infoStr : (Tryz.prog.info? 9).map (fun i => (i.zero, i.size, i.bytes)) = some (some (.string ⟨#[]⟩), 1, 16) := by kernel_rfl
/-- while a text is cut -/
structure SplI (l : List UInt8) (c : UInt8) (k f : Nat) (ss : List ByteArray) : Prop where
  len : k ≤ l.length + 1
  fk : f ≤ k
  num : ss.length ≤ k
  mid : k ≤ l.length → bytesL ss ++ cut c (l.drop f) = cut c l ∧ c ∉ (l.drop f).take (k - f)
  fin : k = l.length + 1 → bytesL ss = cut c l

theorem splI_start (l : List UInt8) (c : UInt8) : SplI l c 0 0 [] :=
  ⟨Nat.zero_le _, Nat.le_refl _, Nat.zero_le _, fun _ => by simp [bytesL], fun h => by omega⟩
theorem splI_skip {l : List UInt8} {c x : UInt8} {k f : Nat} {ss : List ByteArray} (h : SplI l c k f ss) (hx : l[k]? = some x) (hne : x ≠ c) : SplI l c (k + 1) f ss := by
  have hk : k < l.length := (List.getElem?_eq_some_iff.1 hx).1
  obtain ⟨h1, h2⟩ := h.mid (by omega)
  have hfk := h.fk
  refine ⟨by omega, by omega, by have := h.num; omega, fun _ => ⟨h1, ?_⟩, fun e => by omega⟩
  rw [show k + 1 - f = (k - f) + 1 by omega]
  rw [List.take_add_one, List.getElem?_drop, show f + (k - f) = k by omega, hx]
  simp only [Option.toList_some, List.mem_append, List.mem_singleton, not_or]
  exact ⟨h2, fun e => hne e.symm⟩
theorem drop_split {l : List UInt8} {x : UInt8} {k f : Nat} (hx : l[k]? = some x) (hfk : f ≤ k) : l.drop f = (l.drop f).take (k - f) ++ x :: l.drop (k + 1) := by
  have hk : k < l.length := (List.getElem?_eq_some_iff.1 hx).1
  have e := (List.take_append_drop (k - f) (l.drop f)).symm
  rw [List.drop_drop, show f + (k - f) = k by omega] at e
  rw [List.drop_eq_getElem_cons hk] at e
  have hxk : l[k] = x := (List.getElem?_eq_some_iff.1 hx).2
  rw [hxk] at e
  exact e
theorem bytesL_snoc (ss : List ByteArray) (b : ByteArray) : bytesL (ss ++ [b]) = bytesL ss ++ [b.data.toList] := by rw [bytesL, List.map_append]; rfl
theorem splI_cut {l : List UInt8} {c : UInt8} {k f : Nat} {ss : List ByteArray} {b : ByteArray} (h : SplI l c k f ss) (hx : l[k]? = some c) (hb : b.data.toList = (l.drop f).take (k - f)) : SplI l c (k + 1) (k + 1) (ss ++ [b]) := by
  have hk : k < l.length := (List.getElem?_eq_some_iff.1 hx).1
  obtain ⟨h1, h2⟩ := h.mid (by omega)
  refine ⟨by omega, by omega, by have := h.num; simp; omega, fun _ => ⟨?_, by simp⟩, fun e => by omega⟩
  rw [bytesL_snoc, hb, List.append_assoc, List.singleton_append, ← h1]
  conv => rhs; rw [drop_split hx h.fk, cut_app c _ _ h2]
theorem splI_end {l : List UInt8} {c : UInt8} {f : Nat} {ss : List ByteArray} {b : ByteArray} (h : SplI l c l.length f ss) (hb : b.data.toList = (l.drop f).take (l.length - f)) : SplI l c (l.length + 1) (l.length + 1) (ss ++ [b]) := by
  obtain ⟨h1, h2⟩ := h.mid (Nat.le_refl _)
  refine ⟨Nat.le_refl _, by omega, by have := h.num; simp; omega, fun e => by omega, fun _ => ?_⟩
  have e : (l.drop f).take (l.length - f) = l.drop f := List.take_of_length_le (by simp)
  rw [e] at h2 hb
  rw [bytesL_snoc, hb, ← h1, cut_piece c _ h2]
theorem extract_toList (s : ByteArray) (f k : Nat) : (s.extract f k).data.toList = (s.data.toList.drop f).take (k - f) := by
  rw [ByteArray.data_extract, Array.toList_extract, List.extract_eq_take_drop]
theorem str_one_new (w : World) (x : ByteArray) (t : TypeId) : ∀ j u, [Value.string x][j]? = some u → (w.alloc (.cells #[.string x] t (0, 0))).cell? ((⟨w.heap.size, 0, none⟩ : Addr).add j) = some u := by
  intro j u hu
  rw [Addr.add_lit, Nat.zero_add, ← hu]
  simp
theorem str_one (x : ByteArray) : ∀ u ∈ [Value.string x], u.oneCell' = true := by
  intro u hu
  simp only [List.mem_singleton] at hu
  subst hu; rfl
theorem OwnS.snoc {w : World} {base : Nat} {v : Value} {ss : List ByteArray} {b : ByteArray} (h : w.ownsRow base 9 1 v (ss.length + 1) (ss.map Value.string ++ [.string b])) : OwnS w base v (ss ++ [b]) := by
  unfold OwnS
  rw [List.length_append, List.map_append]
  simpa using h
theorem OwnS.new (w : World) : OwnS (w.alloc (.cells #[] 9 (0, 0))) w.heap.size (.slice (some ⟨w.heap.size, 0, none⟩) 0 0) [] :=
  World.ownsRow_lit (base := w.heap.size) (size := 1) w #[] 0 (Nat.le_refl _) (by unfold maxLen; omega) rfl

/-- texts of the call's own are handed back -/
def RetStrs (w : World) (l : List (List UInt8)) (e : Ending) (w' : World) : Prop :=
  ∃ (ss : List ByteArray) (a : Option Addr) (cp : Nat), bytesL ss = l ∧ e = .returned (.slice a ss.length cp) ∧ OwnS w' w.heap.size (.slice a ss.length cp) ss ∧ Below w.heap.size w w'
theorem below_of_grownBy' {w wr w9 : World} {v : Value} {o : Obj} (hb : Below w.heap.size w wr) (hlo : ∀ k, v.ownBlock = some k → w.heap.size ≤ k) (hg : (wr.alloc o).grownBy w9 v.ownBlock) : Below w.heap.size w w9 :=
  (bt0 hb (ba1 _ _) (Nat.le_refl _)).trans (below_of_grownBy hg (by have := hb.size; simp; omega) hlo)

set_option maxRecDepth 100000 in
set_option maxHeartbeats 1000000 in
theorem l01Split_any (s : ByteArray) (c : UInt8) (w : World) (hs : s.size ≤ 1048576) :
    Calls Tryz.prog 37 #[.string s, .int .u8 c.toNat] w (RetStrs w (cut c s.data.toList)) := by
  obtain ⟨i0, hi, y0, y1, y2⟩ := info_parts infoStr
  go_enter Tryz.func37, Tryz.ntmps37
  go_wp2_with fail
  go_loopw [5, 6, 7] (fun v f i wr => ∃ (k g : Nat) (ss : List ByteArray), i = .int .i64 k ∧ f = .int .i64 g ∧ SplI s.data.toList c k g ss ∧ OwnS wr w.heap.size v ss ∧ Below w.heap.size w wr) (fun _ _ i _ => s.data.toList.length + 1 - (intOf i).toNat)
  case atStart => exact ⟨0, 0, [], rfl, rfl, splI_start _ _, OwnS.new w, ba1 _ _⟩
  case round =>
    obtain ⟨k, g, ss, rfl, rfl, hi', ho, hb⟩ := hrel
    obtain ⟨a, cp, rfl, -⟩ := ho.read
    have HI := Lib.hid hi'
    have HO := Lib.hid ho
    have HB := Lib.hid hb
    have hfk := hi'.fk
    have hkl := hi'.len
    have HNM := Lib.hid hi'.num
    have HBS := Lib.hid hb.size
    clear hi' ho hb
    have hsz : s.data.toList.length = s.size := rfl
    by_cases hlt : k < s.size
    · have hk1 : (k : Int) ≤ (s.size : Int) := by omega
      have hk2 : ((k : Int) == (s.size : Int)) = false := by simp; omega
      have hxk : Hid (s.data.toList[k]? = some s[k]) := Lib.hid (by
        rw [List.getElem?_eq_getElem (by omega)]
        rfl)
      by_cases hx : s[k] = c
      · have hx2 : (((s[k].toNat : Nat) : Int) == ((c.toNat : Nat) : Int)) = true := by rw [hx]; simp
        have HXK : Hid (s.data.toList[k]? = some c) := Lib.hid (by rw [hxk.out, hx])
        clear hx hxk
        go_wp2_with (at_builtin; refine wpList_append_own _ rfl _ _ 55 rfl w.heap.size 9 i0 (.string ⟨#[]⟩) 1 16 Tryz.underlying55 hi y0 y1 y2 rfl (by decide) _ _ _ rfl (World.ownsRow.alloc HO.out _) ⟨wr.heap.size, 0, none⟩ 1 1 [.string (s.extract g k)] rfl rfl (str_one_new _ _ _) (str_one _) (by have := HNM.out; unfold maxLen; omega) (by have := HNM.out; omega) (by have := HBS.out; simp; omega) ?_; intro v' w9 hown3 hgrow3 _)
        refine ⟨⟨k + 1, k + 1, _, by go_num, by go_num, splI_cut HI.out HXK.out (extract_toList s g k), OwnS.snoc hown3, ?_⟩, by simp [intOf]; omega⟩
        exact below_of_grownBy' HB.out HO.out.lo hgrow3
      · have hx2 : (((s[k].toNat : Nat) : Int) == ((c.toNat : Nat) : Int)) = false := by
          rw [Bool.eq_false_iff]; intro e
          have e2 : ((s[k].toNat : Nat) : Int) = ((c.toNat : Nat) : Int) := by simpa using e
          exact hx (UInt8.toNat_inj.1 (by omega))
        have HX := Lib.hid hx
        clear hx
        go_wp2_with fail
        exact ⟨⟨k + 1, g, ss, by go_num, rfl, splI_skip HI.out hxk.out HX.out, HO.out, HB.out⟩, by simp [intOf]; omega⟩
    · by_cases hlt2 : k = s.size
      · subst hlt2
        go_wp2_with (at_builtin; refine wpList_append_own _ rfl _ _ 55 rfl w.heap.size 9 i0 (.string ⟨#[]⟩) 1 16 Tryz.underlying55 hi y0 y1 y2 rfl (by decide) _ _ _ rfl (World.ownsRow.alloc HO.out _) ⟨wr.heap.size, 0, none⟩ 1 1 [.string (s.extract g s.size)] rfl rfl (str_one_new _ _ _) (str_one _) (by have := HNM.out; unfold maxLen; omega) (by have := HNM.out; omega) (by have := HBS.out; simp; omega) ?_; intro v' w9 hown3 hgrow3 _)
        refine ⟨⟨s.size + 1, s.size + 1, _, by go_num, by go_num, splI_end HI.out (extract_toList s g s.size), OwnS.snoc hown3, ?_⟩, by first | (simp [intOf]; done) | (simp [intOf]; omega)⟩
        exact below_of_grownBy' HB.out HO.out.lo hgrow3
      · have hk3 : k = s.size + 1 := by omega
        have hk1 : ¬ (k : Int) ≤ (s.size : Int) := by omega
        go_wp2_with fail
        go_ret
        exact ⟨ss, a, cp, HI.out.fin hk3, rfl, HO.out, HB.out⟩

end Go.Proofs.YtlcglclojlffgaaGreatDoor
namespace Go.Proofs.YtlcglclojlffgaaGreatDoor
open Go.RowKit

/-- rows and a code are handed back -/
def RetGr (b : Int) (w : World) (e : Ending) (w' : World) : Prop := (∃ a n c cd, e = .returned (.tuple #[.slice a n c, .int .i64 cd]) ∧ (cd = 0 ↔ glyB b = true) ∧ (0 ≤ cd ∧ cd ≤ 4)) ∧ Below w.heap.size w w'
set_option maxRecDepth 100000 in
theorem spGlyphs_any (w : World) : Calls Tryz.prog 87 #[] w fun e w' => (∃ S : ByteArray, S.size = 180 ∧ e = .returned (.string S)) ∧ w = w' := by
  go_enter Tryz.func87, Tryz.ntmps87
  go_wp2_with fail
  go_ret
  exact ⟨⟨_, rfl, rfl⟩, rfl⟩
set_option maxRecDepth 100000 in
set_option maxHeartbeats 4000000 in
theorem spGlyph_any (b : Int) (w : World) :
    Calls Tryz.prog 72 #[.int .i64 b] w (RetGr b w) := by
  have HG := Lib.hid (glyB_eq b)
  obtain ⟨R, hR⟩ : ∃ R, R = glyB b := ⟨_, rfl⟩
  unfold RetGr
  rw [← hR] at HG ⊢
  clear hR
  by_cases h32 : b = 32
  · subst h32
    obtain rfl : R = true := by rw [HG.out]; rfl
    go_enter Tryz.func72, Tryz.ntmps72
    go_wp2_with fail
    go_ret2
    exact ⟨⟨_, _, _, _, rfl, by simp, by omega, by omega⟩, ba1 _ _⟩
  · have h32b : (b == 32) = false := by rw [beq_eq_false_iff_ne]; exact h32
    rcases Bool.eq_false_or_eq_true (inB b 48 57 || inB b 65 90) with hd | hd
    · obtain rfl : R = true := by rw [HG.out, Bool.or_assoc, hd, Bool.or_true]
      go_enter Tryz.func72, Tryz.ntmps72
      rcases Bool.eq_false_or_eq_true (inB b 48 57) with h1 | h1
      rotate_left
      rcases Bool.eq_false_or_eq_true (inB b 65 90) with h2 | h2
      rotate_left
      · rw [h1, h2] at hd; cases hd
      all_goals
        have hbd : (48 ≤ b ∧ b ≤ 57) ∨ (65 ≤ b ∧ b ≤ 90) := by
          first
            | exact .inl (inB_iff.1 h1)
            | exact .inr (inB_iff.1 h2)
        clear hd
        go_wp2_with (go_at_call 44; refine (spIn_any _ _ _ _).mono ?_; (first | rw [h1] | rw [h2]); rintro e w' ⟨rfl, rfl⟩)
        first
          | (obtain ⟨A, hA, hA1⟩ : ∃ A : Nat, b - 48 = (A : Int) ∧ A ≤ 35 := ⟨(b - 48).toNat, by have := inB_iff.1 h1; omega, by have := inB_iff.1 h1; omega⟩
             rw [hA])
          | (obtain ⟨A, hA, hA1⟩ : ∃ A : Nat, b - 65 + 10 = (A : Int) ∧ A ≤ 35 := ⟨(b - 65 + 10).toNat, by have := inB_iff.1 h2; omega, by have := inB_iff.1 h2; omega⟩
             rw [hA])
        go_loopw [5, 6] (fun v i wr => ∃ (j : Nat) (a' : Option Addr) (c' : Nat) (l : List Int), j ≤ 5 ∧ i = .int .i64 (j : Int) ∧ v = .slice a' l.length c' ∧ l.length ≤ 100 * j ∧ OwnI wr w.heap.size v l ∧ Below w.heap.size w wr) (fun _ i _ => 5 - (intOf i).toNat)
        case atStart => exact ⟨0, _, _, [], by omega, rfl, rfl, by simp, World.ownsRow_lit (base := w.heap.size) (size := 1) w #[] 0 (Nat.le_refl _) (by unfold maxLen; omega) rfl, ba1 _ _⟩
        case round =>
          obtain ⟨j, a', c', l, hj, rfl, rfl, hll, ho, hbr⟩ := hrel
          have HO := Lib.hid ho
          have HBR := Lib.hid hbr
          have hwz := hbr.size
          clear ho hbr
          by_cases hlt : j < 5
          · have hji : (j : Int) < 5 := by omega
            obtain ⟨m, hm⟩ : ∃ m : Nat, m = 5 * A + j := ⟨_, rfl⟩
            have hmi : 5 * (A : Int) + (j : Int) = (m : Int) := by omega
            have hm180 : m < 180 := by omega
            clear hm
            go_wp2_with fail
            refine (spGlyphs_any _).mono ?_
            rintro e w' ⟨⟨S, hS, rfl⟩, rfl⟩
            have hms : m < S.size := by omega
            clear hS
            go_wp2_with (at_builtin; refine wpList_append_i1 (o := _) rfl (.tmp 27) (.tmp 36) 67 Tryz.underlying67 rfl w.heap.size (.slice a' l.length c') l _ rfl (HO.out.grown (ba1 _ _)) wr.heap.size rfl (push_at wr _) (by omega) (by simp; omega) ?h9)
            case h9 =>
            intro a4 c4 l4 w4 he4 ho4 hg4 hb4
            have HO4 := Lib.hid ho4
            have HB4 := Lib.hid ((HBR.out.alloc hwz _).trans hb4)
            have hl4 : l4.length ≤ 100 * (j + 1) := by rw [he4]; simp; omega
            clear he4 ho4 hg4 hb4
            go_wp2_with fail
            exact ⟨⟨j + 1, a4, c4, l4, by omega, by go_num, rfl, hl4, HO4.out, HB4.out⟩, by simp [intOf]; omega⟩
          · have hji : ¬ (j : Int) < 5 := by omega
            go_wp2_with fail
            go_ret2
            exact ⟨⟨_, _, _, _, rfl, by simp, by omega, by omega⟩, HBR.out⟩
    · obtain rfl : R = false := by rw [HG.out, Bool.or_assoc, hd, decide_eq_false h32]; rfl
      have h1 : inB b 48 57 = false := by revert hd; cases inB b 48 57 <;> simp
      have h2 : inB b 65 90 = false := by revert hd; cases inB b 65 90 <;> simp
      clear hd
      go_enter Tryz.func72, Tryz.ntmps72
      go_wp2_with fail
      refine (spIn_below h1).mono ?_
      rintro e w1 ⟨rfl, hb1⟩
      have HB1 := Lib.hid hb1
      clear hb1
      go_wp2_with fail
      refine (spIn_below h2).mono ?_
      rintro e w2 ⟨rfl, hb2⟩
      have HB2 := Lib.hid (bt0 HB1.out hb2 (Nat.le_refl _))
      clear hb2
      go_wp2_with fail
      go_ret2
      exact ⟨⟨_, _, _, _, rfl, by simp, by omega, by omega⟩, HB2.out⟩

end Go.Proofs.YtlcglclojlffgaaGreatDoor
namespace Go.Proofs.YtlcglclojlffgaaGreatDoor
open Go.RowKit

/-- a text has glyphs -/
def glyT (t : ByteArray) : Bool := (t.data.toList.all fun b => glyB b.toNat) && inB (t.size : Int) 1 40
set_option maxRecDepth 100000 in
set_option maxHeartbeats 2000000 in
theorem spText_any (tx : ByteArray) (w : World) (hs : tx.size ≤ 1048576) :
    Calls Tryz.prog 58 #[.string tx] w fun e w' => e = .returned (.bool (glyT tx)) ∧ Below w.heap.size w w' := by
  obtain ⟨G, hG⟩ : ∃ G, G = glyT tx := ⟨_, rfl⟩
  have HG := Lib.hid (show G = ((tx.data.toList.all fun b => glyB b.toNat) && inB (tx.size : Int) 1 40) by rw [hG]; rfl)
  rw [← hG]
  clear hG
  have hsz : tx.data.toList.length = tx.size := rfl
  have HSZ := Lib.hid hsz
  clear hsz
  go_enter Tryz.func58, Tryz.ntmps58
  go_wp2_with fail
  go_loopw [3] (fun i wr => ∃ j : Nat, j ≤ tx.size ∧ i = .int .i64 (j : Int) ∧ ((tx.data.toList.take j).all fun b => glyB b.toNat) = true ∧ Below w.heap.size w wr) (fun i _ => tx.size - (intOf i).toNat)
  case atStart => exact ⟨0, Nat.zero_le _, rfl, rfl, Below.refl _ _⟩
  case round =>
    obtain ⟨j, hj, rfl, hall, hbr⟩ := hrel
    have HA := Lib.hid hall
    have HBR := Lib.hid hbr
    clear hall hbr
    by_cases hlt : j < tx.size
    · have hji : (j : Int) < (tx.size : Int) := by omega
      have HXK := Lib.hid (show tx.data.toList[j]? = some tx[j] by rw [List.getElem?_eq_getElem (by rw [HSZ.out]; exact hlt)]; rfl)
      obtain ⟨x, hx⟩ : ∃ x, x = tx[j] := ⟨_, rfl⟩
      rw [← hx] at HXK
      go_wp2_with fail
      rw [← hx]
      have hwx : wrap64 ((x.toNat : Nat) : Int) = (x.toNat : Int) := by have := x.toNat_lt; unfold wrap64; omega
      try rw [hwx]
      refine (spGlyph_any _ _).mono ?_
      rintro e w2 ⟨⟨a2, n2, c2, cd, rfl, hcd, hc4⟩, hb2⟩
      have HB2 := Lib.hid (bt0 HBR.out hb2 (Nat.le_refl _))
      clear hb2 hx hwx
      by_cases h0 : cd = 0
      · have HGt := Lib.hid (hcd.1 h0)
        subst h0
        clear hcd
        go_wp2_with fail
        refine ⟨⟨j + 1, by omega, by go_num, ?_, HB2.out⟩, by simp [intOf]; omega⟩
        rw [take_snoc' HXK.out, List.all_append, HA.out]
        simp [HGt.out]
      · have hg : glyB x.toNat = false := by rw [Bool.eq_false_iff]; exact fun e => h0 (hcd.2 e)
        have HR := Lib.hid (show G = false by rw [HG.out, all_gly_no HXK.out hg]; rfl)
        have h0b : (cd != 0) = true := by simpa using h0
        clear hcd hg
        go_wp2_with fail
        go_ret
        exact ⟨ret_bool HR.out.symm, HB2.out⟩
    · have hji : ¬ (j : Int) < (tx.size : Int) := by omega
      have HR := Lib.hid (show G = inB (tx.size : Int) 1 40 by
        have h := HA.out
        rw [List.take_of_length_le (by rw [HSZ.out]; omega)] at h
        rw [HG.out, h]; rfl)
      go_wp2_with fail
      refine (spIn_any _ _ _ _).mono ?_
      rintro e w' ⟨rfl, rfl⟩
      go_wp2_with fail
      go_ret
      exact ⟨ret_bool HR.out.symm, HBR.out⟩

theorem spCols_any (f : Fam) (hf : f.ok = true) (b1 b2 : Nat) (n : Int) (w : World) :
    Calls Tryz.prog 75 #[fmA f b1 b2, .int .i64 n] w fun e w' => e = .returned (.int .i64 (colsF f n)) ∧ Below w.heap.size w w' := by
  obtain ⟨nm, kd, p, k, g, szs, cl, lvs⟩ := f
  obtain ⟨-, -, -, -, h5⟩ := fam_ok hf
  rcases h5 with ⟨rfl, -, -⟩ | ⟨rfl, -, -, -, h6, -⟩
  · have HC := Lib.hid (show colsF ⟨nm, 1, p, k, g, szs, cl, lvs⟩ n = n by rw [colsF]; exact if_pos rfl)
    go_enter Tryz.func75, Tryz.ntmps75
    go_wp2_with fail
    go_ret
    exact ⟨ret_int HC.out.symm, ba1 _ _⟩
  · have HC := Lib.hid (show colsF ⟨nm, 2, p, k, g, szs, cl, lvs⟩ n = 15 + 11 * (cl + 2) by rw [colsF]; exact if_neg (show ¬ (2 : Int) = 1 by decide))
    go_enter Tryz.func75, Tryz.ntmps75
    go_wp2_with fail
    go_ret
    exact ⟨ret_int HC.out.symm, ba1 _ _⟩
theorem cut_count (c : UInt8) : ∀ l : List UInt8, (cut c l).length = l.count c + 1
  | [] => rfl
  | x :: r => by
    have ih := cut_count c r
    unfold cut
    by_cases h : x = c
    · subst h
      rw [if_pos rfl, List.length_cons, ih, List.count_cons_self]
    · rw [if_neg h, List.count_cons_of_ne (by simpa using h)]
      cases hc : cut c r with
      | nil => exact absurd hc (cut_ne c r)
      | cons p t => rw [hc] at ih; simpa using ih
theorem cut_one {c : UInt8} {l : List UInt8} : 1 < (cut c l).length ↔ l.contains c = true := by
  rw [cut_count, List.contains_iff_mem]
  have := List.count_pos_iff (a := c) (l := l)
  constructor
  · intro h; exact this.1 (by omega)
  · intro h; have := this.2 h; omega
/-- what a symbol's item shows -/
def symI (x : It) : Option (Int × Int) := if (x.text.data.toList.contains 10) = false then (match famN x.name with | some f => (smS f x.level x.text.data.toList).map fun n => (n, colsF f n) | none => none) else none

set_option maxRecDepth 100000 in
set_option maxHeartbeats 8000000 in
theorem spSymbol_any (x : It) (w : World) (hs : x.text.size ≤ 1048576) :
    Calls Tryz.prog 59 #[itV x] w (RetBx w (symI x)) := by
  have HE := Lib.hid (show symI x = if (x.text.data.toList.contains 10) = false then (match famN x.name with | some f => (smS f x.level x.text.data.toList).map fun n => (n, colsF f n) | none => none) else none from rfl)
  obtain ⟨O, hO⟩ : ∃ O, O = symI x := ⟨_, rfl⟩
  rw [← hO] at HE ⊢
  obtain ⟨kd, row, col, sc, tall, wide, nm, lev, tx⟩ := x
  dsimp only at hs HE ⊢
  clear hO
  have HSP := Lib.hid (fun w => l01Split_any tx 10 w hs)
  obtain ⟨S, hS⟩ : ∃ S, S = tx.data.toList := ⟨_, rfl⟩
  have HS := Lib.hid hS
  rw [← hS] at HE HSP
  clear hS
  have HK := Lib.hid (push_at w (.cells #[.int .i64 kd, .int .i64 row, .int .i64 col, .int .i64 sc, .int .i64 tall, .int .i64 wide, .string nm, .int .i64 lev, .string tx] 49 (0, 0)))
  have HB := Lib.hid (ba1 w (.cells #[.int .i64 kd, .int .i64 row, .int .i64 col, .int .i64 sc, .int .i64 tall, .int .i64 wide, .string nm, .int .i64 lev, .string tx] 49 (0, 0)))
  go_enter Tryz.func59, Tryz.ntmps59
  go_wp2_with fail
  refine (spFamilyNamed_any nm _).mono ?_
  rintro e w1 ⟨hb1, hr⟩
  have K1 := Lib.hid (blkK hb1 HK.out)
  have HB1 := Lib.hid (bt0 HB.out hb1 (Nat.le_refl _))
  clear hb1
  rcases hr with ⟨f, b1, b2, hf, rfl, hi1, hi2⟩ | ⟨hf, rfl⟩
  rotate_left
  · have HR := Lib.hid (show O = none by rw [HE.out, hf]; split <;> rfl)
    go_wp2_with fail
    exact bodyPost_ret (v := .tuple #[.int .i64 0, .int .i64 0, .bool false]) (by simp [results, Tryz.results59, go_sem]) rfl ⟨bt0 HB1.out (ba1 _ _) (Nat.le_refl _), .inr ⟨HR.out, rfl⟩⟩
  have HFK := Lib.hid (famN_ok hf)
  have HE2 := Lib.hid (show O = if (S.contains 10) = false then (smS f lev S).map fun n => (n, colsF f n) else none by rw [HE.out, hf])
  have HI1 := Lib.hid hi1
  have HI2 := Lib.hid hi2
  have HSM := Lib.hid (fun w' (h1 : IntsAt w' (some ⟨b1, 0, none⟩) f.sizes) (h2 : IntsAt w' (some ⟨b2, 0, none⟩) f.levels) => spSmallestSize_any f.name f.kind f.fp f.fk f.fg b1 f.sizes f.sizes.length f.cols b2 f.levels f.levels.length lev tx w' HFK.out h1 h2 (famN_nm hf) hs)
  rw [← HS.out] at HSM
  have HCO := Lib.hid (fun n w => spCols_any f HFK.out b1 b2 n w)
  clear hf hi1 hi2
  obtain ⟨hcA, hfA⟩ := heap_cellR K1.out
  have z1 := blkLt K1.out
  go_wp2_with fail
  have KF := Lib.hid (push_at w1 (.cells #[.string f.name, .int .i64 f.kind, .int .i64 f.fp, .int .i64 f.fk, .int .i64 f.fg, .slice (some ⟨b1, 0, none⟩) f.sizes.length f.sizes.length, .int .i64 f.cols, .slice (some ⟨b2, 0, none⟩) f.levels.length f.levels.length] 123 (0, 0)))
  have HBF := Lib.hid (bt0 HB1.out (ba1 w1 (.cells #[.string f.name, .int .i64 f.kind, .int .i64 f.fp, .int .i64 f.fk, .int .i64 f.fg, .slice (some ⟨b1, 0, none⟩) f.sizes.length f.sizes.length, .int .i64 f.cols, .slice (some ⟨b2, 0, none⟩) f.levels.length f.levels.length] 123 (0, 0))) (Nat.le_refl _))
  refine (HSP.out _).mono ?_
  rintro e w2 ⟨ss, a2, c2, hss, rfl, -, hb2⟩
  have hsl : ss.length = (cut 10 S).length := by rw [← hss]; simp [bytesL]
  have KF2 := Lib.hid (blkK hb2 KF.out)
  have K2 := Lib.hid (blkK hb2 (blkK (ba1 _ _) K1.out))
  have HB2 := Lib.hid (bt0 HBF.out hb2 (Nat.le_refl _))
  have HJ1 := Lib.hid ((HI1.out.below (ba1 _ _)).below hb2)
  have HJ2 := Lib.hid ((HI2.out.below (ba1 _ _)).below hb2)
  clear hb2 hcA hfA hss
  obtain ⟨hcA, hfA⟩ := heap_cellR K2.out
  obtain ⟨hcF, hfF⟩ := heap_cellR KF2.out
  have z2 := blkLt K2.out
  have z3 := blkLt KF2.out
  by_cases h1 : 1 < ss.length
  · have h1i : (1 : Int) < (ss.length : Int) := by omega
    have HR := Lib.hid (show O = none by rw [HE2.out, if_neg]; rw [cut_one.1 (by omega)]; decide)
    clear hsl
    go_wp2_with fail
    exact bodyPost_ret (v := .tuple #[.int .i64 0, .int .i64 0, .bool false]) (by simp [results, Tryz.results59, go_sem]) rfl ⟨HB2.out, .inr ⟨HR.out, rfl⟩⟩
  have h1i : ¬ (1 : Int) < (ss.length : Int) := by omega
  have HO := Lib.hid (show O = (smS f lev S).map fun n => (n, colsF f n) by
    rw [HE2.out, if_pos]
    rw [Bool.eq_false_iff]
    intro e
    have := cut_one.2 e
    omega)
  clear hsl h1
  go_wp2_with fail
  refine (HSM.out _ HJ1.out.at HJ2.out.at).mono ?_
  obtain ⟨SM, hSM⟩ : ∃ SM, SM = smS f lev S := ⟨_, rfl⟩
  rw [← hSM] at HO ⊢
  clear hSM
  rintro e w3 ⟨hb3, hr⟩
  have KF3 := Lib.hid (blkK hb3 KF2.out)
  have HB3 := Lib.hid (bt0 HB2.out hb3 (Nat.le_refl _))
  clear hb3 hcA hfA hcF hfF
  obtain ⟨hcF, hfF⟩ := heap_cellR KF3.out
  have z4 := blkLt KF3.out
  rcases hr with ⟨n, hn, rfl⟩ | ⟨hn, cd, hcd, rfl⟩
  rotate_left
  · have HR := Lib.hid (show O = none by rw [HO.out, hn]; rfl)
    have hcb : (cd != 0) = true := by simpa using hcd
    clear hcd
    go_wp2_with fail
    exact bodyPost_ret (v := .tuple #[.int .i64 0, .int .i64 0, .bool false]) (by simp [results, Tryz.results59, go_sem]) rfl ⟨HB3.out, .inr ⟨HR.out, rfl⟩⟩
  have HR := Lib.hid (show O = some (n, colsF f n) by rw [HO.out, hn]; rfl)
  clear hn
  go_wp2_with fail
  refine (HCO.out n _).mono ?_
  rintro e w4 ⟨rfl, hb4⟩
  have HB4 := Lib.hid (bt0 HB3.out hb4 (Nat.le_refl _))
  clear hb4
  go_wp2_with fail
  exact bodyPost_ret (v := .tuple #[.int .i64 n, .int .i64 (colsF f n), .bool true]) (by simp [results, Tryz.results59, go_sem]) rfl ⟨HB4.out, .inl ⟨_, _, HR.out, rfl⟩⟩

end Go.Proofs.YtlcglclojlffgaaGreatDoor
namespace Go.Proofs.YtlcglclojlffgaaGreatDoor
open Go.RowKit

/-- the rows and columns of a box and a code are handed back -/
def RetBc (w : World) (o : Option (Int × Int)) (e : Ending) (w' : World) : Prop :=
  Below w.heap.size w w' ∧ ((∃ r c, o = some (r, c) ∧ e = .returned (.tuple #[.int .i64 r, .int .i64 c, .int .i64 0])) ∨ (o = none ∧ e = .returned (.tuple #[.int .i64 0, .int .i64 0, .int .i64 1])))
theorem boxI_t1 {x : It} (hk : x.kind = 1) : boxI x = if plainI x = true ∧ scaledI x = true ∧ glyT x.text = true then some (5 * x.scale, (4 * x.text.size - 1) * x.scale) else none := by
  rw [boxI_text hk]
  have e : (plainI x = true ∧ scaledI x = true ∧ 1 ≤ x.text.size ∧ x.text.size ≤ 40 ∧ (x.text.data.toList.all fun b => glyB b.toNat) = true) ↔ (plainI x = true ∧ scaledI x = true ∧ glyT x.text = true) := by
    rw [glyT, Bool.and_eq_true, inB_iff]
    constructor
    · rintro ⟨h1, h2, h3, h4, h5⟩; exact ⟨h1, h2, h5, by omega, by omega⟩
    · rintro ⟨h1, h2, h5, h3, h4⟩; exact ⟨h1, h2, by omega, by omega, h5⟩
  by_cases h : plainI x = true ∧ scaledI x = true ∧ glyT x.text = true
  · rw [if_pos h, if_pos (e.2 h)]
  · rw [if_neg h, if_neg (fun hh => h (e.1 hh))]
theorem boxI_t3 {x : It} (hk : x.kind = 3) : boxI x = if scaledI x = true then (symI x).map fun p => (p.1 * x.scale, p.2 * x.scale) else none := by
  rw [boxI_sym hk, symI]
  by_cases h : scaledI x = true
  · rw [if_pos h]
    by_cases h2 : (x.text.data.toList.contains 10) = false
    · rw [if_pos ⟨h, h2⟩, if_pos h2]
      cases famN x.name with
      | none => rfl
      | some f => simp [Option.map_map, Function.comp_def]
    · rw [if_neg (fun hh => h2 hh.2), if_neg h2]; rfl
  · rw [if_neg h, if_neg (fun hh => h hh.1)]
theorem scaledI_in (x : It) : scaledI x = (inB x.scale 1 8 && decide (x.tall = 0) && decide (x.wide = 0)) := by
  rw [Bool.eq_iff_iff]; simp [scaledI, inB]
theorem symI_bd {x : It} {r c : Int} (h : symI x = some (r, c)) : (1 ≤ r ∧ r ≤ 41) ∧ (1 ≤ c ∧ c ≤ 125) := by
  unfold symI at h
  split at h
  · split at h
    · next f hf =>
      rw [Option.map_eq_some_iff] at h
      obtain ⟨n, hn, h⟩ := h
      simp only [Prod.mk.injEq] at h
      obtain ⟨rfl, rfl⟩ := h
      have hm := smS_mem hn
      have ho := famN_ok hf
      have b1 := fam_sz (nm := f.name) (kd := f.kind) (p := f.fp) (k := f.fk) (g := f.fg) (szs := f.sizes) (cl := f.cols) (lvs := f.levels) ho hm
      exact ⟨by omega, colsF_bd ho hm⟩
    · cases h
  · cases h
set_option maxRecDepth 100000 in
set_option maxHeartbeats 8000000 in
theorem spItemBox_any (x : It) (w : World) (hs : x.text.size ≤ 1048576) :
    Calls Tryz.prog 35 #[itV x] w (RetBc w (boxI x)) := by
  have HSY := Lib.hid (fun w => spSymbol_any x w hs)
  have HTX := Lib.hid (fun w => spText_any x.text w hs)
  have HSB := Lib.hid (fun r c h => symI_bd (x := x) (r := r) (c := c) h)
  have H0 := Lib.hid (fun h1 h2 h3 => boxI_bad (x := x) h1 h2 h3)
  have H1 := Lib.hid (fun h => boxI_t1 (x := x) h)
  have H2 := Lib.hid (fun h => boxI_line (x := x) h)
  have H3 := Lib.hid (fun h => boxI_t3 (x := x) h)
  have HPL := Lib.hid (show plainI x = (decide (x.name = ⟨#[]⟩) && decide (x.level = 0)) from rfl)
  have HSC := Lib.hid (scaledI_in x)
  obtain ⟨O, hO⟩ : ∃ O, O = boxI x := ⟨_, rfl⟩
  obtain ⟨PL, hPL⟩ : ∃ PL, PL = plainI x := ⟨_, rfl⟩
  obtain ⟨SC, hSC⟩ : ∃ SC, SC = scaledI x := ⟨_, rfl⟩
  obtain ⟨SY, hSY⟩ : ∃ SY, SY = symI x := ⟨_, rfl⟩
  rw [← hO] at H0 H1 H2 H3 ⊢
  rw [← hPL] at H1 H2 HPL
  rw [← hSC] at H1 H3 HSC
  rw [← hSY] at H3 HSY HSB
  clear hO hPL hSC hSY
  obtain ⟨kd, row, col, sc, tall, wide, nm, lev, tx⟩ := x
  dsimp only at hs HSY HTX HSB H0 H1 H2 H3 HPL HSC ⊢
  obtain ⟨G, hG⟩ : ∃ G, G = glyT tx := ⟨_, rfl⟩
  rw [← hG] at H1 HTX
  have HGT := Lib.hid (show G = true → 1 ≤ (tx.size : Int) ∧ (tx.size : Int) ≤ 40 from fun h => by rw [hG, glyT, Bool.and_eq_true, inB_iff] at h; exact h.2)
  clear hG
  have hK := push_at w (.cells #[.int .i64 kd, .int .i64 row, .int .i64 col, .int .i64 sc, .int .i64 tall, .int .i64 wide, .string nm, .int .i64 lev, .string tx] 49 (0, 0))
  have hB := ba1 w (.cells #[.int .i64 kd, .int .i64 row, .int .i64 col, .int .i64 sc, .int .i64 tall, .int .i64 wide, .string nm, .int .i64 lev, .string tx] 49 (0, 0))
  obtain ⟨W, hW⟩ : ∃ W, W = w.alloc (.cells #[.int .i64 kd, .int .i64 row, .int .i64 col, .int .i64 sc, .int .i64 tall, .int .i64 wide, .string nm, .int .i64 lev, .string tx] 49 (0, 0)) := ⟨_, rfl⟩
  have HW := Lib.hid hW
  rw [← hW] at hK hB
  have K := Lib.hid hK
  have HB := Lib.hid hB
  clear hK hB hW
  obtain ⟨hcA, hfA⟩ := heap_cellR K.out
  have hlA := blkLt K.out
  go_enter Tryz.func35, Tryz.ntmps35
  go_upto_region 1 with fail
  go_cut [5] (fun p wx => p = .bool PL ∧ W = wx)
  case first =>
    rw [← HW.out]
    by_cases h1 : nm = ⟨#[]⟩
    · subst h1
      by_cases h2 : lev = 0
      · subst h2
        have HR := Lib.hid (show PL = true by rw [HPL.out]; rfl)
        go_wp2_with fail
        go_meet
        exact ⟨by rw [HR.out], rfl⟩
      · have h2b : (lev == 0) = false := by rw [beq_eq_false_iff_ne]; exact h2
        have HR := Lib.hid (show PL = false by rw [HPL.out, decide_eq_false h2, Bool.and_false])
        go_wp2_with fail
        go_meet
        exact ⟨by rw [HR.out], rfl⟩
    · have h1b := bytes_ne h1
      have HR := Lib.hid (show PL = false by rw [HPL.out, decide_eq_false h1, Bool.false_and])
      clear h1
      go_wp2_with fail
      go_meet
      exact ⟨by rw [HR.out], rfl⟩
  case rest =>
  obtain ⟨rfl, rfl⟩ := hcut
  go_upto_region 2 with fail
  go_cut [6] (fun p wx => p = .bool SC ∧ W = wx)
  case first =>
    rcases Bool.eq_false_or_eq_true (inB sc 1 8) with h1 | h1
    · by_cases h2 : tall = 0
      · subst h2
        by_cases h3 : wide = 0
        · subst h3
          have HR := Lib.hid (show SC = true by rw [HSC.out, h1]; rfl)
          go_wp2_with (go_at_call 44; refine (spIn_any _ _ _ _).mono ?_; rw [h1]; rintro e w' ⟨rfl, rfl⟩)
          go_meet
          exact ⟨by rw [HR.out], rfl⟩
        · have h3b : (wide == 0) = false := by rw [beq_eq_false_iff_ne]; exact h3
          have HR := Lib.hid (show SC = false by rw [HSC.out, decide_eq_false h3, Bool.and_false])
          go_wp2_with (go_at_call 44; refine (spIn_any _ _ _ _).mono ?_; rw [h1]; rintro e w' ⟨rfl, rfl⟩)
          go_meet
          exact ⟨by rw [HR.out], rfl⟩
      · have h2b : (tall == 0) = false := by rw [beq_eq_false_iff_ne]; exact h2
        have HR := Lib.hid (show SC = false by rw [HSC.out, decide_eq_false h2, Bool.and_false, Bool.false_and])
        go_wp2_with (go_at_call 44; refine (spIn_any _ _ _ _).mono ?_; rw [h1]; rintro e w' ⟨rfl, rfl⟩)
        go_meet
        exact ⟨by rw [HR.out], rfl⟩
    · have HR := Lib.hid (show SC = false by rw [HSC.out, h1]; rfl)
      go_wp2_with (go_at_call 44; refine (spIn_any _ _ _ _).mono ?_; rw [h1]; rintro e w' ⟨rfl, rfl⟩)
      go_meet
      exact ⟨by rw [HR.out], rfl⟩
  case rest =>
  obtain ⟨rfl, rfl⟩ := hcut
  by_cases k1 : kd = 1
  · subst k1
    have H1' := Lib.hid (H1.out (by first | rfl | trivial))
    clear H0 H2 H3
    rcases Bool.eq_false_or_eq_true PL with rfl | rfl
    · rcases Bool.eq_false_or_eq_true SC with rfl | rfl
      · have hsb : 1 ≤ sc ∧ sc ≤ 8 := by
          have h := HSC.out.symm
          rw [Bool.and_eq_true, Bool.and_eq_true, inB_iff] at h
          exact h.1.1
        go_wp2_with fail
        refine (HTX.out _).mono ?_
        rintro e w2 ⟨rfl, hb2⟩
        have K2 := Lib.hid (blkK hb2 K.out)
        have HB2 := Lib.hid (bt0 HB.out hb2 (Nat.le_refl _))
        clear hb2 hcA hfA
        obtain ⟨hcA, hfA⟩ := heap_cellR K2.out
        have hlB := blkLt K2.out
        rcases Bool.eq_false_or_eq_true G with rfl | rfl
        · have HR := Lib.hid (show O = some (5 * sc, (4 * (tx.size : Int) - 1) * sc) by rw [H1'.out]; exact if_pos (by simp))
          have htx : (1 ≤ (tx.size : Int) ∧ (tx.size : Int) ≤ 40) := HGT.out (by first | rfl | trivial)
          have hb := mul_bd (a := 4 * (tx.size : Int) - 1) (b := sc) (m := 159) (n := 8) (by omega) hsb
          obtain ⟨Z, hZ⟩ : ∃ Z, (4 * (tx.size : Int) - 1) * sc = Z := ⟨_, rfl⟩
          rw [hZ] at hb HR
          have hwz : wrap64 ((4 * (tx.size : Int) - 1) * sc) = Z := by rw [hZ]; unfold wrap64; omega
          clear hZ
          go_wp2_with fail
          go_quiet (fail)
          go_wp2_with fail
          exact bodyPost_ret (v := .tuple #[.int .i64 (5 * sc), .int .i64 Z, .int .i64 0]) (by simp [results, Tryz.results35, go_sem, hwz]) rfl ⟨below_dn HB2.out, .inl ⟨_, _, HR.out, rfl⟩⟩
        · have HR := Lib.hid (show O = none by rw [H1'.out]; simp)
          go_wp2_with fail
          exact bodyPost_ret (v := .tuple #[.int .i64 0, .int .i64 0, .int .i64 1]) (by simp [results, Tryz.results35, go_sem]) rfl ⟨HB2.out, .inr ⟨HR.out, rfl⟩⟩
      · have HR := Lib.hid (show O = none by rw [H1'.out]; simp)
        go_wp2_with fail
        exact bodyPost_ret (v := .tuple #[.int .i64 0, .int .i64 0, .int .i64 1]) (by simp [results, Tryz.results35, go_sem]) rfl ⟨HB.out, .inr ⟨HR.out, rfl⟩⟩
    · have HR := Lib.hid (show O = none by rw [H1'.out]; simp)
      go_wp2_with fail
      exact bodyPost_ret (v := .tuple #[.int .i64 0, .int .i64 0, .int .i64 1]) (by simp [results, Tryz.results35, go_sem]) rfl ⟨HB.out, .inr ⟨HR.out, rfl⟩⟩
  by_cases k2 : kd = 2
  · subst k2
    have H2' := Lib.hid (H2.out (by first | rfl | trivial))
    clear H0 H1 H3
    rcases Bool.eq_false_or_eq_true PL with rfl | rfl
    rotate_left
    · have HR := Lib.hid (show O = none by rw [H2'.out]; simp)
      go_wp2_with fail
      exact bodyPost_ret (v := .tuple #[.int .i64 0, .int .i64 0, .int .i64 1]) (by simp [results, Tryz.results35, go_sem]) rfl ⟨HB.out, .inr ⟨HR.out, rfl⟩⟩
    by_cases h3 : sc = 0
    rotate_left
    · have h3b : (sc == 0) = false := by rw [beq_eq_false_iff_ne]; exact h3
      have HR := Lib.hid (show O = none by rw [H2'.out]; exact if_neg (fun h => h3 h.2.1))
      go_wp2_with fail
      exact bodyPost_ret (v := .tuple #[.int .i64 0, .int .i64 0, .int .i64 1]) (by simp [results, Tryz.results35, go_sem]) rfl ⟨HB.out, .inr ⟨HR.out, rfl⟩⟩
    subst h3
    by_cases h4 : tx = ⟨#[]⟩
    rotate_left
    · have h4b := bytes_ne h4
      have HR := Lib.hid (show O = none by rw [H2'.out]; exact if_neg (fun h => h4 h.2.2.1))
      clear h4
      go_wp2_with fail
      exact bodyPost_ret (v := .tuple #[.int .i64 0, .int .i64 0, .int .i64 1]) (by simp [results, Tryz.results35, go_sem]) rfl ⟨HB.out, .inr ⟨HR.out, rfl⟩⟩
    subst h4
    rcases Bool.eq_false_or_eq_true (inB tall 1 400) with h5 | h5
    rotate_left
    · have HR := Lib.hid (show O = none by rw [H2'.out]; exact if_neg (fun h => by rw [inB_iff.2 h.2.2.2.1] at h5; cases h5))
      go_wp2_with (go_at_call 44; refine (spIn_any _ _ _ _).mono ?_; (first | rw [h5] | rw [h6]); rintro e w' ⟨rfl, rfl⟩)
      exact bodyPost_ret (v := .tuple #[.int .i64 0, .int .i64 0, .int .i64 1]) (by simp [results, Tryz.results35, go_sem]) rfl ⟨HB.out, .inr ⟨HR.out, rfl⟩⟩
    rcases Bool.eq_false_or_eq_true (inB wide 1 400) with h6 | h6
    rotate_left
    · have HR := Lib.hid (show O = none by rw [H2'.out]; exact if_neg (fun h => by rw [inB_iff.2 h.2.2.2.2] at h6; cases h6))
      go_wp2_with (go_at_call 44; refine (spIn_any _ _ _ _).mono ?_; (first | rw [h5] | rw [h6]); rintro e w' ⟨rfl, rfl⟩)
      exact bodyPost_ret (v := .tuple #[.int .i64 0, .int .i64 0, .int .i64 1]) (by simp [results, Tryz.results35, go_sem]) rfl ⟨HB.out, .inr ⟨HR.out, rfl⟩⟩
    have HR := Lib.hid (show O = some (tall, wide) by rw [H2'.out]; exact if_pos ⟨by first | rfl | trivial, by first | rfl | trivial, by first | rfl | trivial, inB_iff.1 h5, inB_iff.1 h6⟩)
    go_wp2_with (go_at_call 44; refine (spIn_any _ _ _ _).mono ?_; (first | rw [h5] | rw [h6]); rintro e w' ⟨rfl, rfl⟩)
    go_quiet (fail)
    go_wp2_with fail
    exact bodyPost_ret (v := .tuple #[.int .i64 (tall), .int .i64 (wide), .int .i64 0]) (by simp [results, Tryz.results35, go_sem]) rfl ⟨below_dn HB.out, .inl ⟨_, _, HR.out, rfl⟩⟩
  by_cases k3 : kd = 3
  · subst k3
    have H3' := Lib.hid (H3.out (by first | rfl | trivial))
    clear H0 H1 H2
    go_wp2_with fail
    refine (HSY.out _).mono ?_
    rintro e w2 ⟨hb2, hr⟩
    have K2 := Lib.hid (blkK hb2 K.out)
    have HB2 := Lib.hid (bt0 HB.out hb2 (Nat.le_refl _))
    clear hb2 hcA hfA
    obtain ⟨hcA, hfA⟩ := heap_cellR K2.out
    have hlB := blkLt K2.out
    rcases hr with ⟨r, c, hr, rfl⟩ | ⟨hr, rfl⟩
    rotate_left
    · have HR := Lib.hid (show O = none by rw [H3'.out, hr]; split <;> rfl)
      clear hr
      rcases Bool.eq_false_or_eq_true SC with rfl | rfl
      · go_wp2_with fail
        exact bodyPost_ret (v := .tuple #[.int .i64 0, .int .i64 0, .int .i64 1]) (by simp [results, Tryz.results35, go_sem]) rfl ⟨HB2.out, .inr ⟨HR.out, rfl⟩⟩
      · go_wp2_with fail
        exact bodyPost_ret (v := .tuple #[.int .i64 0, .int .i64 0, .int .i64 1]) (by simp [results, Tryz.results35, go_sem]) rfl ⟨HB2.out, .inr ⟨HR.out, rfl⟩⟩
    rcases Bool.eq_false_or_eq_true SC with rfl | rfl
    rotate_left
    · have HR := Lib.hid (show O = none by rw [H3'.out]; simp)
      clear hr
      go_wp2_with fail
      exact bodyPost_ret (v := .tuple #[.int .i64 0, .int .i64 0, .int .i64 1]) (by simp [results, Tryz.results35, go_sem]) rfl ⟨HB2.out, .inr ⟨HR.out, rfl⟩⟩
    have hsb : 1 ≤ sc ∧ sc ≤ 8 := by
      have h := HSC.out.symm
      rw [Bool.and_eq_true, Bool.and_eq_true, inB_iff] at h
      exact h.1.1
    have hbd := HSB.out r c hr
    have e1 := mul_bd (a := sc) (b := r) (m := 8) (n := 41) hsb hbd.1
    have e2 := mul_bd (a := sc) (b := c) (m := 8) (n := 125) hsb hbd.2
    have hO : O = some (sc * r, sc * c) := by rw [H3'.out, hr, Int.mul_comm sc r, Int.mul_comm sc c]; simp
    obtain ⟨Z1, hZ1⟩ : ∃ Z, sc * r = Z := ⟨_, rfl⟩
    obtain ⟨Z2, hZ2⟩ : ∃ Z, sc * c = Z := ⟨_, rfl⟩
    rw [hZ1, hZ2] at hO
    rw [hZ1] at e1
    rw [hZ2] at e2
    have HR := Lib.hid hO
    have hw1 : wrap64 (sc * r) = Z1 := by rw [hZ1]; unfold wrap64; omega
    have hw2 : wrap64 (sc * c) = Z2 := by rw [hZ2]; unfold wrap64; omega
    clear hO hZ1 hZ2 hr
    go_wp2_with fail
    go_quiet (fail)
    go_wp2_with fail
    exact bodyPost_ret (v := .tuple #[.int .i64 (Z1), .int .i64 (Z2), .int .i64 0]) (by simp [results, Tryz.results35, go_sem, hw1, hw2]) rfl ⟨below_dn HB2.out, .inl ⟨_, _, HR.out, rfl⟩⟩
  · have HR := Lib.hid (H0.out k1 k2 k3)
    have k1b : (kd == 1) = false := by rw [beq_eq_false_iff_ne]; exact k1
    have k2b : (kd == 2) = false := by rw [beq_eq_false_iff_ne]; exact k2
    have k3b : (kd == 3) = false := by rw [beq_eq_false_iff_ne]; exact k3
    clear H1 H2 H3
    go_wp2_with fail
    exact bodyPost_ret (v := .tuple #[.int .i64 0, .int .i64 0, .int .i64 1]) (by simp [results, Tryz.results35, go_sem]) rfl ⟨HB.out, .inr ⟨HR.out, rfl⟩⟩

end Go.Proofs.YtlcglclojlffgaaGreatDoor
namespace Go.Proofs.YtlcglclojlffgaaGreatDoor
open Go.RowKit

/-- the decimal texts of numbers, one space between -/
def decX (xs : List Int) : List UInt8 := glue 32 (xs.map Lib.itoa)
theorem glue_snoc (c : UInt8) (xs : List (List UInt8)) (x : List UInt8) : glue c (xs ++ [x]) = if xs = [] then x else glue c xs ++ c :: x := by
  induction xs with
  | nil => rfl
  | cons a t ih =>
    cases t with
    | nil => simp [glue]
    | cons b u =>
      rw [List.cons_append, glue_cons _ _ _ (by simp), ih, if_neg (by simp), if_neg (by simp), glue_cons _ _ (b :: u) (by simp)]
      simp
theorem decX_snoc (xs : List Int) (x : Int) : decX (xs ++ [x]) = (if xs = [] then [] else decX xs ++ [32]) ++ Lib.itoa x := by
  unfold decX
  rw [List.map_append, List.map_cons, List.map_nil, glue_snoc]
  by_cases h : xs = []
  · subst h; rfl
  · rw [if_neg (by simpa using h), if_neg h]; simp
theorem decX_len : ∀ xs : List Int, (∀ x ∈ xs, -9223372036854775808 ≤ x ∧ x ≤ 9223372036854775807) → (decX xs).length ≤ 22 * xs.length
  | [], _ => by simp [decX, glue]
  | [x], h => by
    have h1 := h x (by simp)
    have := Lib.itoa_length_le x h1.1 h1.2
    simp [decX, glue]; omega
  | x :: y :: xs, h => by
    have h1 := h x (by simp)
    have h2 := Lib.itoa_length_le x h1.1 h1.2
    have h3 := decX_len (y :: xs) (fun z hz => h z (by simp [hz]))
    unfold decX at h3 ⊢
    rw [List.map_cons, glue_cons _ _ _ (by simp), List.length_append, List.length_cons]
    simp only [List.length_cons] at h3 ⊢
    omega
end Go.Proofs.YtlcglclojlffgaaGreatDoor
namespace Go.Proofs.YtlcglclojlffgaaGreatDoor
open Go.RowKit

/-- numbers, each behind a space -/
def wordsX (xs : List Int) : List UInt8 := xs.flatMap fun n => 32 :: Lib.itoa n
/-- the line of an item -/
def lineI (x : It) : List UInt8 :=
  if x.kind = 1 then [116, 101, 120, 116] ++ wordsX [x.row, x.col, x.scale] ++ 32 :: x.text.data.toList
  else if x.kind = 2 then [108, 105, 110, 101] ++ wordsX [x.row, x.col, x.tall, x.wide]
  else [115, 121, 109, 98, 111, 108] ++ wordsX [x.row, x.col, x.scale] ++ 32 :: x.name.data.toList ++ wordsX [x.level] ++ 32 :: x.text.data.toList
/-- the text of a valid label -/
def textL (l : Lb) : List UInt8 := [108, 97, 98, 101, 108] ++ wordsX [l.rows, l.cols] ++ 10 :: l.items.flatMap fun x => lineI x ++ [10]
def labT (l : Lb) : List UInt8 := if l.ok = true then textL l else []

theorem wordsX_dec (x : Int) (xs : List Int) : wordsX (x :: xs) = 32 :: decX (x :: xs) := by
  unfold decX
  induction xs generalizing x with
  | nil => simp [wordsX, glue]
  | cons y t ih =>
    have h := ih y
    simp only [List.map_cons] at h ⊢
    rw [show wordsX (x :: y :: t) = 32 :: Lib.itoa x ++ wordsX (y :: t) by simp [wordsX], h]
    simp [glue]
theorem wordsX_snoc (xs : List Int) (x : Int) : wordsX (xs ++ [x]) = wordsX xs ++ 32 :: Lib.itoa x := by simp [wordsX]
theorem wordsX_len (xs : List Int) (h : ∀ x ∈ xs, (Lib.itoa x).length ≤ 21) : (wordsX xs).length ≤ 22 * xs.length := by
  induction xs with
  | nil => simp [wordsX]
  | cons y t ih =>
    have h1 := h y (by simp)
    have h2 := ih fun x hx => h x (by simp [hx])
    rw [show wordsX (y :: t) = (32 :: Lib.itoa y) ++ wordsX t by simp [wordsX]]
    simp only [List.length_append, List.length_cons]
    omega

end Go.Proofs.YtlcglclojlffgaaGreatDoor
