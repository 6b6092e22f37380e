import Derived.Test.YtlcglclojlffgaaGreatDoorK0
import Derived.Test.YtlcglclojlffgaaGreatDoorShelf
import Derived.Lib.ItoaLen
import Derived.Lib.ItoaMem
import Derived.Test.YtlcglclojlffgaaGreatDoorCards
import Derived.Test.YtlcglclojlffgaaGreatDoorTie
import Derived.ProofKit
import Derived.OpenShut
import Derived.Deep.DeepHandedRow
import Derived.Lib.LaidTab
import Derived.Stop.LaidErr
import Derived.Lib.ParseIntBTie
import Derived.Test.YtlcglclojlffgaaGreatDoorK4
import Derived.Test.YtlcglclojlffgaaGreatDoorK2
import Derived.Test.YtlcglclojlffgaaGreatDoorK3
import Derived.Deep.RegionWith
import Derived.Laws.BytesArg
import Derived.IntWalk
import Derived.Lib.Join
import Derived.Maps.OwnOps
import Derived.Maps.Views
import Derived.StringKeys
namespace Go.Proofs.YtlcglclojlffgaaGreatDoor
open Go.RowKit

/-- the library's table of powers of ten lies in memory -/
def Tab (w : World) : Prop := Lib.TabIs Tryz.prog w "internal/strconv.uint64pow10" .u64 Lib.pow10Tab

theorem gTab : Tryz.prog.globalNamed "internal/strconv.uint64pow10" = some 5 := by kernel_rfl

theorem Tab.lt {w : World} (h : Tab w) : 5 < w.heap.size := by
  have hc := Lib.TabIs.cell h gTab 0 (by decide)
  exact lt_of_cell hc

theorem Tab.below {w w' : World} {B : Nat} (h : Tab w) (hb : Below B w w') (hB : 5 < B) : Tab w' :=
  var?_below hb gTab hB h

theorem Tab.next {w w' : World} (h : Tab w) (hb : Below w.heap.size w w') : Tab w' := h.below hb h.lt

theorem Tab.alloc {w : World} (h : Tab w) (o : Obj) : Tab (w.alloc o) := h.next ((Below.refl _ _).alloc (Nat.le_refl _) _)
theorem Tab.ext {w : World} (h : Tab w) (s : Ext w) : Tab s.w := h.next s.below

/-- a number in decimal -/
def decB (n : Int) : ByteArray := ⟨(Lib.itoa n).toArray⟩

theorem decB_size (n : Int) : (decB n).size = (Lib.itoa n).length := by simp [decB, ByteArray.size]

theorem below_grow (w : World) (k : Nat) (os : Array Obj) : Below w.heap.size w (Go.Sort.grow (w.drewN k) os) := by
  refine ⟨rfl, rfl, rfl, ?_, ?_⟩
  · simp [Go.Sort.grow, World.drewN]
  · intro i hi
    simp only [Go.Sort.grow, World.drewN]
    rw [Array.getElem?_append_left hi]

theorem formatInt_any (n : Int) (w : World) (h0 : -9223372036854775808 ≤ n) (h1 : n ≤ 9223372036854775807) (ht : Tab w) :
    Calls Tryz.prog 177 #[.int .i64 n, .int .i64 10] w fun e w' => e = .returned (.string (decB n)) ∧ Below w.heap.size w w' :=
  (Tryz.strconv_FormatInt_10 n h0 h1 w ht).mono fun _ _ ⟨he, k, os, hw⟩ => ⟨he, by rw [hw]; exact below_grow _ _ _⟩

end Go.Proofs.YtlcglclojlffgaaGreatDoor
namespace Go.Proofs.YtlcglclojlffgaaGreatDoor
open Go.ChangeShapes Go.WideShapes Go.ChangeAt Go.RowKit

theorem ownLaw : ownKnob Tryz.prog.godebug = none := by kernel_rfl
theorem laidOutLaw : laidOutB Tryz.prog = true := by kernel_rfl
theorem gTabType : (Tryz.prog.globals[5]?).map (·.type) = some 192 := by kernel_rfl
theorem cellsTab : Tryz.prog.cellsOf 192 = 20 := by kernel_rfl
theorem cellsU64 : Tryz.prog.cellsOf 134 = 1 := by kernel_rfl

/-- the arguments read behind a call that keeps memory as they did -/
theorem trodAll_below {H : Type} {enc : TypeId × Value → H} {P : Program} (hl : laidOutB P = true) {W W' : World} (hb : Below W.heap.size W W') :
    ∀ (ts : List TypeId) (vs : List Value) (ds : List (DataW H)) (ps : List MemPlace), (∀ t ∈ ts, P.readableRec t = true ∧ t < P.types.size) → DataW.TrodAll enc P W 0 (fun _ => true) true ts vs ds ps → (∀ x ∈ ps, x.block < W.heap.size) →
      DataW.TrodAll enc P W' 0 (fun b => decide (b < W.heap.size)) true ts vs ds ps
  | [], [], [], ps, _, h, _ => h
  | t :: ts, v :: vs, d :: ds, ps, hr, h, hlt => by
    obtain ⟨p, q, h1, h2, rfl⟩ := h
    refine ⟨p, q, ?_, ?_, rfl⟩
    · exact Below.trod hl (hr t (by simp)).1 (hr t (by simp)).2 h1 hb (fun x hx => hlt x (by simp [hx]))
    · exact trodAll_below hl hb ts vs ds q (fun t ht => hr t (by simp [ht])) h2 (fun x hx => hlt x (by simp [hx]))

/-- what a law owes behind its call -/
theorem law_post {H : Type} {enc : TypeId × Value → H} {f : Func} {s : ChangeSpec} {W W' : World} {args : Array Value} {ds gs : List (DataW H)} {before : List MemPlace}
    (hW : DataW.Whole enc Tryz.prog f.params.toList s.vars false W args.toList ds gs before) (hv : s.vars = []) (hres : f.resultTypes = #[4]) (hb : Below W.heap.size W W')
    (hfn : ∀ gs, gs = [] → s.fn H (ds ++ gs) = { results := [.lit (.bool true)], args := ds }) (hr : ∀ t ∈ f.params.toList, Tryz.prog.readableRec t = true ∧ t < Tryz.prog.types.size) :
    s.post enc Tryz.prog f false true false false W args (.bool true) W' := by
  have hW' := hW
  obtain ⟨p, q, hA, hV, rfl, hfz, hnd⟩ := hW
  rw [hv] at hV
  obtain ⟨rfl, rfl⟩ := trodVars_none hV
  have hlt : ∀ x ∈ p ++ [], x.block < W.heap.size := hW'.lt
  refine ⟨ds, [], p ++ [], [], p, [], hW', ?_, ?_, ?_, hb.frame _, fun h => by cases h⟩
  · rw [hfn [] rfl, hres]
    exact trodAll_mk1 (shut_bool Tryz.underlying4 _)
  · rw [hfn [] rfl]
    exact trodAll_below laidOutLaw hb _ _ _ _ hr hA (fun x hx => hlt x (by simpa using hx))
  · rw [hfn [] rfl, hv]
    exact rfl

end Go.Proofs.YtlcglclojlffgaaGreatDoor
namespace Go.Proofs.YtlcglclojlffgaaGreatDoor
open Go.ChangeShapes Go.WideShapes Go.ChangeAt Go.RowKit

/-- a block with other cells -/
def withCells (cs : Array Value) : Obj → Obj
  | .cells _ t frozen => .cells cs t frozen
  | o => o
theorem laidMet_mem {P : Program} {W : World} {x : String × DataW Unit} : ∀ {laid : List (String × DataW Unit)}, laidMet P laid W → x ∈ laid → ∃ r, laidMet P (x :: r) W
  | y :: r, h, hm => by
    rcases List.mem_cons.1 hm with rfl | hm
    · exact ⟨r, h⟩
    · exact laidMet_mem h.tail hm

/-- the table of powers lies in memory -/
theorem tab_of {W : World} {laid : List (String × DataW Unit)} (h : laidMet Tryz.prog laid W) (hm : ("internal/strconv.uint64pow10", Lib.tabData .u64 Lib.pow10Tab) ∈ laid) : Tab W := by
  obtain ⟨r, hr⟩ := laidMet_mem h hm
  exact Lib.tabIs_of_head gTab gTabType Tryz.underlying192 Tryz.underlying134 cellsU64 cellsTab hr

end Go.Proofs.YtlcglclojlffgaaGreatDoor
namespace Go.Proofs.YtlcglclojlffgaaGreatDoor
open Go.RowKit

/-- what the library's variables hold -/
structure Env (w : World) : Prop where
  tab : Tab w
  syn : ∃ tp p, w.var? Tryz.prog "strconv.ErrSyntax" = some #[.iface tp p]
  rng : ∃ tp p, w.var? Tryz.prog "strconv.ErrRange" = some #[.iface tp p]
  mx : ∃ m, w.cell? ⟨0, 0, none⟩ = some (.int .i64 m)

theorem gSyn : Tryz.prog.globalNamed "strconv.ErrSyntax" = some 1 := by kernel_rfl
theorem gRng : Tryz.prog.globalNamed "strconv.ErrRange" = some 2 := by kernel_rfl
theorem var_lt {w : World} {n : String} {g : Nat} {v : Value} (hg : Tryz.prog.globalNamed n = some g) (h : w.var? Tryz.prog n = some #[v]) : g < w.heap.size :=
  lt_of_cell (v := v) (by have := World.var?_cell hg h 0; simpa using this)
theorem Env.next {w w' : World} (h : Env w) (hb : Below w.heap.size w w') : Env w' := by
  obtain ⟨t, ⟨a, b, hs⟩, ⟨c, d, hr⟩, ⟨m, hm⟩⟩ := h
  exact ⟨t.next hb, ⟨a, b, var?_below hb gSyn (var_lt gSyn hs) hs⟩, ⟨c, d, var?_below hb gRng (var_lt gRng hr) hr⟩, ⟨m, by rw [hb.cell (p := ⟨_, 0, none⟩) (lt_of_cell hm)]; exact hm⟩⟩
theorem Env.alloc {w : World} (h : Env w) (o : Obj) : Env (w.alloc o) := h.next (ba1 w o)

theorem below_bytes {w w' : World} (h : w' = w ∨ ∃ t, w' = Lib.bytesWorld w 5 t) : Below w.heap.size w w' := by
  rcases h with rfl | ⟨t, rfl⟩
  · exact Below.refl _ _
  · exact Lib.bytesWorld_below _ _ _

/-- what ParseInt gives: the number, and whether it read one -/
theorem parse_any (s : ByteArray) (w : World) (hs : s.size ≤ 281474976710656) (hE : Env w) :
    Calls Tryz.prog 53 #[.string s, .int .i64 10, .int .i64 64] w fun e w' =>
      ((∃ n, Lib.parseIntB 64 s.data.toList = .ok n ∧ e = .returned (.tuple #[.int .i64 n, .nilIface])) ∨
       ((∀ n, Lib.parseIntB 64 s.data.toList ≠ .ok n) ∧ ∃ v t p, e = .returned (.tuple #[.int .i64 v, .iface t p]))) ∧ Below w.heap.size w w' := by
  obtain ⟨_, ⟨a, b, hsy⟩, ⟨c, d, hrg⟩, _⟩ := hE
  cases hp : Lib.parseIntB 64 s.data.toList with
  | ok n => exact (Tryz.strconv_ParseInt_10_at64_ok s (by omega) n hp w).mono fun e w' ⟨he, hw⟩ => ⟨.inl ⟨n, rfl, he⟩, below_bytes hw⟩
  | «syntax» => exact (Tryz.strconv_ParseInt_10_at64_syntax_var s hs hp a b w hsy).mono fun e w' ⟨N, he, _, _, hb⟩ => ⟨.inr ⟨fun n h => (by cases h), _, _, _, he⟩, hb⟩
  | range => exact (Tryz.strconv_ParseInt_10_at64_range_var s hs hp c d w hrg).mono fun e w' ⟨N, he, _, _, hb⟩ => ⟨.inr ⟨fun n h => (by cases h), _, _, _, he⟩, hb⟩

end Go.Proofs.YtlcglclojlffgaaGreatDoor
namespace Go.Proofs.YtlcglclojlffgaaGreatDoor
open Go.ChangeShapes Go.WideShapes Go.ChangeAt Go.RowKit

theorem star : "*" ++ "errors.errorString" = "*errors.errorString" := by decide
theorem rowErr (u : TypeId) (h : Tryz.prog.typeName? 3 u = some "*errors.errorString") : u = 177 :=
  typeName_ptr_named (nm := "errors.errorString") (by rw [star]; kernel_rfl) (by kernel_rfl) (by decide) u (by rw [star]; exact h)
theorem gSynType : (Tryz.prog.globals[1]?).map (·.type) = some 94 := by kernel_rfl
theorem gRngType : (Tryz.prog.globals[2]?).map (·.type) = some 94 := by kernel_rfl
theorem cellsErr : Tryz.prog.cellsOf 179 = 1 := by kernel_rfl
theorem cellsStr2 : Tryz.prog.cellsOf 9 = 1 := by kernel_rfl

/-- what a row that lists the library's variables gives -/
theorem env_of {W : World} {laid : List (String × DataW Unit)} (h : laidMet Tryz.prog laid W) (hsh : W.ShapedOpen Tryz.prog) (hm : ("internal/strconv.uint64pow10", Lib.tabData .u64 Lib.pow10Tab) ∈ laid)
    (hs : ∃ t, (("strconv.ErrSyntax", .iface "*errors.errorString" (.ptr (.agg [.lit (.string t)]))) : String × DataW Unit) ∈ laid)
    (hr : ∃ t, (("strconv.ErrRange", .iface "*errors.errorString" (.ptr (.agg [.lit (.string t)]))) : String × DataW Unit) ∈ laid) : Env W := by
  obtain ⟨ts, hs⟩ := hs
  obtain ⟨tr, hr⟩ := hr
  obtain ⟨rs, hrs⟩ := laidMet_mem h hs
  obtain ⟨rr, hrr⟩ := laidMet_mem h hr
  obtain ⟨a1, s1, hv1, _⟩ := laid_sentinel hrs gSyn gSynType Tryz.underlying94 rowErr Tryz.underlying177 Tryz.underlying179 rfl rfl Tryz.underlying9 cellsErr cellsStr2
  obtain ⟨a2, s2, hv2, _⟩ := laid_sentinel hrr gRng gRngType Tryz.underlying94 rowErr Tryz.underlying177 Tryz.underlying179 rfl rfl Tryz.underlying9 cellsErr cellsStr2
  exact ⟨tab_of h hm, ⟨_, _, hv1⟩, ⟨_, _, hv2⟩, cell_of_shapedOpen_int (zero := #[.int .i64 0]) (t := 3) hsh (of_decide_eq_true (by kernel_rfl)) (by kernel_rfl) rfl (by kernel_rfl) (by kernel_rfl) Tryz.underlying3⟩

/-- the cells of what a row lists -/
def datCells : Nat → DataW Unit → List Value
  | 0, _ => []
  | _ + 1, .lit (.int k n) => [.int k n]
  | f + 1, .agg l => l.flatMap (datCells f)
  | _ + 1, _ => []
/-- a text behind a sentinel -/
def sentText : DataW Unit → Option (List UInt8)
  | .iface _ (.ptr (.agg [.lit (.string t)])) => some t
  | _ => none
/-- the blocks of the sentinels -/
def sentBlocks (laid : List (String × DataW Unit)) : List Obj := laid.filterMap fun nd => (sentText nd.2).map fun t => .cells #[.string ⟨t.toArray⟩] 179 (0, 0)
/-- the heap with what is listed; the sentinels' blocks begin at k -/
def laidHeap2 (P : Program) : List (String × DataW Unit) → Nat → Array Obj → Array Obj
  | [], _, h => h
  | nd :: r, k, h => match sentText nd.2 with
    | some _ => laidHeap2 P r (k + 1) (h.modify ((P.globalNamed nd.1).getD 0) (withCells #[.iface 177 (.pointer (some ⟨k, 0, none⟩))]))
    | none => laidHeap2 P r k (h.modify ((P.globalNamed nd.1).getD 0) (withCells (datCells 3 nd.2).toArray))

noncomputable def low : Nat := (World.holding Tryz.prog default ⟨#[], #[], []⟩).heap.size
/-- a world for the witness: the settled one, each listed variable holding what its initialiser lays -/
noncomputable def laidWorld2 (laid : List (String × DataW Unit)) (os : Os) : World :=
  let w0 := World.holding Tryz.prog os ⟨(sentBlocks laid).toArray, #[], []⟩
  { w0 with heap := laidHeap2 Tryz.prog laid low w0.heap }

end Go.Proofs.YtlcglclojlffgaaGreatDoor
namespace Go.Proofs.YtlcglclojlffgaaGreatDoor
open Go.RowKit

theorem indexByte_iff (c : UInt8) : ∀ l : List UInt8, decide (0 ≤ Lib.indexByte l c) = l.contains c ∧ -1 ≤ Lib.indexByte l c
  | [] => by simp [Lib.indexByte]
  | b :: l => by
    obtain ⟨h1, h2⟩ := indexByte_iff c l
    unfold Lib.indexByte
    by_cases hb : b = c
    · subst hb; simp
    · rw [if_neg (by simpa using hb), List.contains_cons, show (c == b) = false from by rw [beq_eq_false_iff_ne]; exact fun e => hb e.symm, Bool.false_or, ← h1]
      by_cases hm : Lib.indexByte l c = -1
      · rw [if_pos (by simpa using hm), hm]; decide
      · rw [if_neg (by simpa using hm)]
        refine ⟨?_, by omega⟩
        rw [decide_eq_decide]
        omega
theorem libF_ok : ∀ f ∈ libF, f.ok = true := by decide +kernel
theorem libF_nm : ∀ f ∈ libF, f.name.size ≤ 1048576 := by decide
theorem famN_nm {nm : ByteArray} {f : Fam} (h : famN nm = some f) : f.name.size ≤ 1048576 := libF_nm f (List.mem_of_find?_eq_some h)
theorem famN_ok {nm : ByteArray} {f : Fam} (h : famN nm = some f) : f.ok = true := libF_ok f (List.mem_of_find?_eq_some h)
theorem boxI_sym {x : It} (hk : x.kind = 3) : boxI x = if scaledI x = true ∧ (x.text.data.toList.contains 10) = false then (match famN x.name with | some f => (smS f x.level x.text.data.toList).map fun n => (n * x.scale, colsF f n * x.scale) | none => none) else none := by
  rw [boxI, if_neg (by rw [hk]; decide), if_neg (by rw [hk]; decide), if_pos hk]; rfl

theorem kind_st (nm : ByteArray) (p k g cl : Int) (s1 s2 : Value) (w : World) :
    Calls Tryz.prog 176 #[.agg #[.string nm, .int .i64 2, .int .i64 p, .int .i64 k, .int .i64 g, s1, .int .i64 cl, s2]] w fun e w' => e = .returned (.iface 232 (.agg #[.string nm, .int .i64 2, .int .i64 p, .int .i64 k, .int .i64 g, s1, .int .i64 cl, s2])) ∧ Below w.heap.size w w' := by
  go_enter Tryz.func176, Tryz.ntmps176
  go_wp2_with fail
  go_ret
  exact ⟨rfl, ba1 _ _⟩
theorem kind_mx (nm : ByteArray) (kd p k g cl : Int) (s1 s2 : Value) (hk : (kd == 2) = false) (w : World) :
    Calls Tryz.prog 176 #[.agg #[.string nm, .int .i64 kd, .int .i64 p, .int .i64 k, .int .i64 g, s1, .int .i64 cl, s2]] w fun e w' => e = .returned (.iface 233 (.agg #[.string nm, .int .i64 kd, .int .i64 p, .int .i64 k, .int .i64 g, s1, .int .i64 cl, s2])) ∧ Below w.heap.size w w' := by
  go_enter Tryz.func176, Tryz.ntmps176
  go_wp2_with fail
  go_ret
  exact ⟨rfl, ba1 _ _⟩
theorem rowWidth_any (v : Int) (hv : 0 ≤ v ∧ v ≤ 1000) (w : World) :
    Calls Tryz.prog 266 #[.int .i64 v] w fun e w' => e = .returned (.int .i64 (15 + 11 * v)) ∧ w = w' := by
  have h1 : wrap64 (11 * v) = 11 * v := by unfold wrap64; omega
  have h2 : wrap64 (7 + 11 * v) = 7 + 11 * v := by unfold wrap64; omega
  have h3 : wrap64 (7 + 11 * v + 8) = 15 + 11 * v := by unfold wrap64; omega
  go_enter Tryz.func266, Tryz.ntmps266
  go_wp2_with fail
  go_ret
  exact ⟨ret_int (by omega), rfl⟩
theorem cols_st (nm : ByteArray) (kd p k g cl : Int) (s1 s2 : Value) (n : Int) (hc : 1 ≤ cl ∧ cl ≤ 8) (w : World) :
    Calls Tryz.prog 265 #[.agg #[.string nm, .int .i64 kd, .int .i64 p, .int .i64 k, .int .i64 g, s1, .int .i64 cl, s2], .int .i64 n] w fun e w' => e = .returned (.int .i64 (15 + 11 * (cl + 2))) ∧ Below w.heap.size w w' := by
  go_enter Tryz.func265, Tryz.ntmps265
  go_wp2_with fail
  refine (rowWidth_any _ (by omega) _).mono ?_
  rintro e w' ⟨rfl, rfl⟩
  go_wp2_with fail
  go_ret
  exact ⟨rfl, ba1 _ _⟩
theorem cols_mx (nm : ByteArray) (kd p k g cl : Int) (s1 s2 : Value) (n : Int) (w : World) :
    Calls Tryz.prog 267 #[.agg #[.string nm, .int .i64 kd, .int .i64 p, .int .i64 k, .int .i64 g, s1, .int .i64 cl, s2], .int .i64 n] w fun e w' => e = .returned (.int .i64 n) ∧ Below w.heap.size w w' := by
  go_enter Tryz.func267, Tryz.ntmps267
  go_wp2_with fail
  go_ret
  exact ⟨rfl, ba1 _ _⟩
theorem meth_st (nm : ByteArray) (kd p k g cl : Int) (s1 s2 : Value) : Meth 232 (.agg #[.string nm, .int .i64 kd, .int .i64 p, .int .i64 k, .int .i64 g, s1, .int .i64 cl, s2]) "loop.example/g00879/impl.cols" 265 :=
  ⟨fun n W => by kernel_rfl, fun args W => by kernel_rfl, fun n W => by kernel_rfl⟩
theorem meth_mx (nm : ByteArray) (kd p k g cl : Int) (s1 s2 : Value) : Meth 233 (.agg #[.string nm, .int .i64 kd, .int .i64 p, .int .i64 k, .int .i64 g, s1, .int .i64 cl, s2]) "loop.example/g00879/impl.cols" 267 :=
  ⟨fun n W => by kernel_rfl, fun args W => by kernel_rfl, fun n W => by kernel_rfl⟩
/-- the kind of a valid family, and its columns -/
theorem kind_any (f : Fam) (hf : f.ok = true) (b1 b2 : Nat) (_w : World) (n : Int) : ∃ T fn, Meth T (fmA f b1 b2) "loop.example/g00879/impl.cols" fn ∧
    (∀ w, Calls Tryz.prog 176 #[fmA f b1 b2] w fun e w' => e = .returned (.iface T (fmA f b1 b2)) ∧ Below w.heap.size w w') ∧
    (∀ w, Calls Tryz.prog fn #[fmA f b1 b2, .int .i64 n] w fun e w' => e = .returned (.int .i64 (colsF f n)) ∧ Below w.heap.size w w') := by
  obtain ⟨nm, kd, p, k, g, szs, cl, lvs⟩ := f
  obtain ⟨-, -, -, -, h5⟩ := fam_ok hf
  rcases h5 with ⟨rfl, -, -⟩ | ⟨rfl, -, -, -, h6, -⟩
  · exact ⟨_, _, meth_mx _ _ _ _ _ _ _ _, fun w => kind_mx _ _ _ _ _ _ _ _ (show ((1 : Int) == 2) = false by decide) w, fun w => cols_mx _ _ _ _ _ _ _ _ _ w⟩
  · exact ⟨_, _, meth_st _ _ _ _ _ _ _ _, fun w => kind_st _ _ _ _ _ _ _ w, fun w => cols_st _ _ _ _ _ _ _ _ _ h6 w⟩

theorem mul_bd {a b m n : Int} (ha : 1 ≤ a ∧ a ≤ m) (hb : 1 ≤ b ∧ b ≤ n) : 1 ≤ a * b ∧ a * b ≤ m * n := by
  have h1 : 1 * 1 ≤ a * b := Int.mul_le_mul ha.1 hb.1 (by omega) (by omega)
  have h2 : a * b ≤ m * n := Int.mul_le_mul ha.2 hb.2 (by omega) (by omega)
  omega
theorem smS_mem {f : Fam} {lev : Int} {S : List UInt8} {n : Int} (h : smS f lev S = some n) : n ∈ f.sizes := by
  unfold smS at h
  split at h
  · split at h
    · exact List.mem_of_find?_eq_some h
    · cases h
  · cases h
theorem colsF_bd {f : Fam} (hf : f.ok = true) {n : Int} (hn : n ∈ f.sizes) : 1 ≤ colsF f n ∧ colsF f n ≤ 125 := by
  obtain ⟨nm, kd, p, k, g, szs, cl, lvs⟩ := f
  have h1 := fam_sz hf hn
  obtain ⟨-, -, -, -, h5⟩ := fam_ok hf
  unfold colsF
  dsimp only
  rcases h5 with ⟨rfl, -, -⟩ | ⟨rfl, -, -, -, h6, -⟩
  · rw [if_pos rfl]; omega
  · rw [if_neg (by decide)]; omega
set_option maxRecDepth 100000 in
set_option maxHeartbeats 8000000 in
theorem symbolBox_any (x : It) (w : World) (hk : x.kind = 3) (hs : x.text.size ≤ 1048576) :
    Calls Tryz.prog 170 #[itV x] w (RetBx w (boxI x)) := by
  have HN := Lib.hid (fun (h : ¬ ((((1 ≤ x.scale ∧ x.scale ≤ 8) ∧ x.tall = 0) ∧ x.wide = 0) ∧ (x.text.data.toList.contains 10) = false)) => (boxI_sym hk).trans (if_neg (fun hh => h ⟨scaledI_iff.1 hh.1, hh.2⟩)))
  have HY := Lib.hid (fun (h : (((1 ≤ x.scale ∧ x.scale ≤ 8) ∧ x.tall = 0) ∧ x.wide = 0) ∧ (x.text.data.toList.contains 10) = false) => (boxI_sym hk).trans (if_pos ⟨scaledI_iff.2 h.1, h.2⟩))
  obtain ⟨O, hO⟩ : ∃ O, O = boxI x := ⟨_, rfl⟩
  rw [← hO] at HN HY ⊢
  obtain ⟨kd, row, col, sc, tall, wide, nm, lev, tx⟩ := x
  dsimp only at hk hs HN HY ⊢
  subst hk
  clear hO
  have HIX := Lib.hid (indexByte_iff 10 tx.data.toList)
  have HBY := Lib.hid (fun w => Tryz.strings_IndexByte tx 10 w)
  have hte : (10 : Int).toNat.toUInt8 = (10 : UInt8) := rfl
  rw [hte] at HBY
  obtain ⟨ix, hix⟩ : ∃ ix, ix = Lib.indexByte tx.data.toList 10 := ⟨_, rfl⟩
  rw [← hix] at HIX HBY
  obtain ⟨S, hS⟩ : ∃ S, S = tx.data.toList := ⟨_, rfl⟩
  have HS := Lib.hid hS
  rw [← hS] at HN HY HIX
  clear hix hS hte
  have HK := Lib.hid (push_at w (.cells #[.int .i64 3, .int .i64 row, .int .i64 col, .int .i64 sc, .int .i64 tall, .int .i64 wide, .string nm, .int .i64 lev, .string tx] 113 (0, 0)))
  have HB := Lib.hid (ba1 w (.cells #[.int .i64 3, .int .i64 row, .int .i64 col, .int .i64 sc, .int .i64 tall, .int .i64 wide, .string nm, .int .i64 lev, .string tx] 113 (0, 0)))
  go_enter Tryz.func170, Tryz.ntmps170
  rcases Bool.eq_false_or_eq_true (inB sc 1 8) with h2 | h2
  rotate_left
  · have HR := Lib.hid (HN.out (fun h => by rw [inB_iff.2 (by omega)] at h2; cases h2))
    go_wp2_with (go_at_call 71; refine (inRange_any _ _ _ _).mono ?_; rw [h2]; rintro e w' ⟨rfl, rfl⟩)
    exact bodyPost_ret (v := .tuple #[.int .i64 0, .int .i64 0, .bool false]) (by simp [results, Tryz.results170, go_sem]) rfl ⟨HB.out, .inr ⟨HR.out, rfl⟩⟩
  by_cases h3 : tall = 0
  rotate_left
  · have HR := Lib.hid (HN.out (fun h => h3 h.1.1.2))
    have h3b : (tall == 0) = false := by rw [beq_eq_false_iff_ne]; exact h3
    go_wp2_with (go_at_call 71; refine (inRange_any _ _ _ _).mono ?_; rw [h2]; rintro e w' ⟨rfl, rfl⟩)
    exact bodyPost_ret (v := .tuple #[.int .i64 0, .int .i64 0, .bool false]) (by simp [results, Tryz.results170, go_sem]) rfl ⟨HB.out, .inr ⟨HR.out, rfl⟩⟩
  subst h3
  by_cases h4 : wide = 0
  rotate_left
  · have HR := Lib.hid (HN.out (fun h => h4 h.1.2))
    have h4b : (wide == 0) = false := by rw [beq_eq_false_iff_ne]; exact h4
    go_wp2_with (go_at_call 71; refine (inRange_any _ _ _ _).mono ?_; rw [h2]; rintro e w' ⟨rfl, rfl⟩)
    exact bodyPost_ret (v := .tuple #[.int .i64 0, .int .i64 0, .bool false]) (by simp [results, Tryz.results170, go_sem]) rfl ⟨HB.out, .inr ⟨HR.out, rfl⟩⟩
  subst h4
  by_cases h5 : 0 ≤ ix
  · have HR := Lib.hid (HN.out (fun h => by have h1 := HIX.out.1; rw [h.2, decide_eq_true h5] at h1; cases h1))
    go_wp2_with (first
      | (go_at_call 71; refine (inRange_any _ _ _ _).mono ?_; rw [h2]; rintro e w' ⟨rfl, rfl⟩)
      | (go_at_call 173; refine (HBY.out _).mono ?_; rintro e w' ⟨rfl, rfl⟩))
    exact bodyPost_ret (v := .tuple #[.int .i64 0, .int .i64 0, .bool false]) (by simp [results, Tryz.results170, go_sem]) rfl ⟨HB.out, .inr ⟨HR.out, rfl⟩⟩
  have HSC := Lib.hid (inB_iff.1 h2)
  have HC := Lib.hid (show (S.contains 10) = false by rw [← HIX.out.1]; exact decide_eq_false h5)
  have HY2 := Lib.hid (HY.out ⟨by simp only [and_true]; exact HSC.out, HC.out⟩)
  clear HN HY
  go_wp2_with (first
    | (go_at_call 71; refine (inRange_any _ _ _ _).mono ?_; rw [h2]; rintro e w' ⟨rfl, rfl⟩)
    | (go_at_call 173; refine (HBY.out _).mono ?_; rintro e w' ⟨rfl, rfl⟩))
  refine (familyNamed_any nm _).mono ?_
  rintro e w1 ⟨hb1, hr⟩
  have K1 := Lib.hid (blkK hb1 HK.out)
  have HB1 := Lib.hid (bt0 HB.out hb1 (Nat.le_refl _))
  clear hb1 h2 h5
  rcases hr with ⟨f, b1, b2, hf, rfl, hi1, hi2⟩ | ⟨hf, rfl⟩
  rotate_left
  · have HR := Lib.hid (show O = none by rw [HY2.out, hf])
    go_wp2_with fail
    exact bodyPost_ret (v := .tuple #[.int .i64 0, .int .i64 0, .bool false]) (by simp [results, Tryz.results170, go_sem]) rfl ⟨bt0 HB1.out (ba1 _ _) (Nat.le_refl _), .inr ⟨HR.out, rfl⟩⟩
  have HFK := Lib.hid (famN_ok hf)
  have HO := Lib.hid (show O = (smS f lev S).map fun n => (n * sc, colsF f n * sc) by rw [HY2.out, hf])
  have HI1 := Lib.hid hi1
  have HI2 := Lib.hid hi2
  have HSM := Lib.hid (fun w' (h1 : IntsAt w' (some ⟨b1, 0, none⟩) f.sizes) (h2 : IntsAt w' (some ⟨b2, 0, none⟩) f.levels) => smallestSize_any f.name f.kind f.fp f.fk f.fg (some ⟨b1, 0, none⟩) f.sizes f.sizes.length f.cols (some ⟨b2, 0, none⟩) f.levels f.levels.length lev tx w' HFK.out h1 h2 (famN_nm hf) hs)
  rw [← HS.out] at HSM
  clear hf hi1 hi2 HY2
  obtain ⟨hcA, hfA⟩ := heap_cellR K1.out
  have z1 := blkLt K1.out
  go_wp2_with fail
  have KF := Lib.hid (push_at w1 (.cells #[.string f.name, .int .i64 f.kind, .int .i64 f.fp, .int .i64 f.fk, .int .i64 f.fg, .slice (some ⟨b1, 0, none⟩) f.sizes.length f.sizes.length, .int .i64 f.cols, .slice (some ⟨b2, 0, none⟩) f.levels.length f.levels.length] 123 (0, 0)))
  have HBF := Lib.hid (bt0 HB1.out (ba1 w1 (.cells #[.string f.name, .int .i64 f.kind, .int .i64 f.fp, .int .i64 f.fk, .int .i64 f.fg, .slice (some ⟨b1, 0, none⟩) f.sizes.length f.sizes.length, .int .i64 f.cols, .slice (some ⟨b2, 0, none⟩) f.levels.length f.levels.length] 123 (0, 0))) (Nat.le_refl _))
  refine (HSM.out _ (HI1.out.below (ba1 _ _)).at (HI2.out.below (ba1 _ _)).at).mono ?_
  obtain ⟨SM, hSM⟩ : ∃ SM, SM = smS f lev S := ⟨_, rfl⟩
  have HSMe := Lib.hid hSM
  rw [← hSM] at HO ⊢
  clear hSM
  rintro e w2 ⟨hb2, hr⟩
  have KF2 := Lib.hid (blkK hb2 KF.out)
  have K2 := Lib.hid (blkK hb2 (blkK (ba1 _ _) K1.out))
  have HB2 := Lib.hid (bt0 HBF.out hb2 (Nat.le_refl _))
  clear hb2 hcA hfA
  obtain ⟨hcA, hfA⟩ := heap_cellR K2.out
  obtain ⟨hcF, hfF⟩ := heap_cellR KF2.out
  have z2 := blkLt K2.out
  have z3 := blkLt KF2.out
  rcases hr with ⟨n, hn, rfl⟩ | ⟨hn, cd, hcd, rfl⟩
  rotate_left
  · have HR := Lib.hid (show O = none by rw [HO.out, hn]; rfl)
    have hcb : (cd != 0) = true := by simpa using hcd
    clear hcd
    go_wp2_with fail
    exact bodyPost_ret (v := .tuple #[.int .i64 0, .int .i64 0, .bool false]) (by simp [results, Tryz.results170, go_sem]) rfl ⟨HB2.out, .inr ⟨HR.out, rfl⟩⟩
  have HR := Lib.hid (show O = some (n * sc, colsF f n * sc) by rw [HO.out, hn]; rfl)
  have hm := smS_mem (HSMe.out.symm.trans hn)
  have b1n := fam_sz (nm := f.name) (kd := f.kind) (p := f.fp) (k := f.fk) (g := f.fg) (szs := f.sizes) (cl := f.cols) (lvs := f.levels) HFK.out hm
  have b2n := colsF_bd HFK.out hm
  have hsc := HSC.out
  have e1 := mul_bd (a := n) (b := sc) (m := 41) (n := 8) (by omega) hsc
  have e2 := mul_bd (a := colsF f n) (b := sc) (m := 125) (n := 8) b2n hsc
  obtain ⟨T, fn, hMT, hKD, hCO⟩ := kind_any f HFK.out b1 b2 w n
  have HMT := Lib.hid hMT
  have HKD := Lib.hid hKD
  have HCO := Lib.hid hCO
  obtain ⟨CF, hCF⟩ : ∃ CF, CF = colsF f n := ⟨_, rfl⟩
  rw [← hCF] at HCO HR e2
  obtain ⟨R1, hR1⟩ : ∃ R, n * sc = R := ⟨_, rfl⟩
  obtain ⟨R2, hR2⟩ : ∃ R, CF * sc = R := ⟨_, rfl⟩
  rw [hR1, hR2] at HR
  rw [hR1] at e1
  rw [hR2] at e2
  have hw1 : wrap64 (n * sc) = R1 := by rw [hR1]; unfold wrap64; omega
  have hw2 : wrap64 (CF * sc) = R2 := by rw [hR2]; unfold wrap64; omega
  clear hn hm b2n hMT hKD hCO hCF hR1 hR2 hsc
  go_wp2_with fail
  refine wp_region_ext (by kernel_rfl) (by kernel_rfl) ?_
  repeat (first
    | (go_big_quiet_step ((go_at_call 176; go_must (exact calls_ext _ (HKD.out _)))))
    | (refine quiet_invoke1 rfl 60 61 "loop.example/g00879/impl.cols" _ rfl T (fmA f b1 b2) _ fn (.int .i64 CF) rfl rfl HMT.out (fun _ ⟨s, hs⟩ => by subst hs; exact calls_ext s (HCO.out _)) ?_; simp only [Act.put, List.setIfInBounds_toArray, List.set_cons_zero, List.set_cons_succ]))
  refine wpQuiet_nil ?_
  rintro _ ⟨s, rfl⟩
  have HS2 := Lib.hid s.below
  go_wp2_with fail
  exact bodyPost_ret (v := .tuple #[.int .i64 R1, .int .i64 R2, .bool true]) (by simp [results, Tryz.results170, go_sem, hw1, hw2]) rfl ⟨bt0 HB2.out HS2.out (Nat.le_refl _), .inl ⟨_, _, HR.out, rfl⟩⟩

end Go.Proofs.YtlcglclojlffgaaGreatDoor
namespace Go.Proofs.YtlcglclojlffgaaGreatDoor
open Go.RowKit

theorem thing1 (x : It) (hk : x.kind = 1) (w : World) :
    Calls Tryz.prog 48 #[itV x] w fun e w' => e = .returned (.tuple #[.iface 111 (itV x), .bool true]) ∧ Below w.heap.size w w' := by
  obtain ⟨kd, row, col, sc, tall, wide, nm, lev, tx⟩ := x
  dsimp only at hk
  subst hk
  go_enter Tryz.func48, Tryz.ntmps48
  go_wp2_with fail
  go_ret2
  exact ⟨rfl, ba1 _ _⟩
theorem thing2 (x : It) (hk : x.kind = 2) (w : World) :
    Calls Tryz.prog 48 #[itV x] w fun e w' => e = .returned (.tuple #[.iface 112 (itV x), .bool true]) ∧ Below w.heap.size w w' := by
  obtain ⟨kd, row, col, sc, tall, wide, nm, lev, tx⟩ := x
  dsimp only at hk
  subst hk
  go_enter Tryz.func48, Tryz.ntmps48
  go_wp2_with fail
  go_ret2
  exact ⟨rfl, ba1 _ _⟩
theorem thing3 (x : It) (hk : x.kind = 3) (w : World) :
    Calls Tryz.prog 48 #[itV x] w fun e w' => e = .returned (.tuple #[.iface 113 (itV x), .bool true]) ∧ Below w.heap.size w w' := by
  obtain ⟨kd, row, col, sc, tall, wide, nm, lev, tx⟩ := x
  dsimp only at hk
  subst hk
  go_enter Tryz.func48, Tryz.ntmps48
  go_wp2_with fail
  go_ret2
  exact ⟨rfl, ba1 _ _⟩
theorem thing0 (x : It) (h1 : x.kind ≠ 1) (h2 : x.kind ≠ 2) (h3 : x.kind ≠ 3) (w : World) :
    Calls Tryz.prog 48 #[itV x] w fun e w' => e = .returned (.tuple #[.iface 112 (itV x), .bool false]) ∧ Below w.heap.size w w' := by
  obtain ⟨kd, row, col, sc, tall, wide, nm, lev, tx⟩ := x
  dsimp only at h1 h2 h3
  have h1b : (kd == 1) = false := by rw [beq_eq_false_iff_ne]; exact h1
  have h2b : (kd == 2) = false := by rw [beq_eq_false_iff_ne]; exact h2
  have h3b : (kd == 3) = false := by rw [beq_eq_false_iff_ne]; exact h3
  go_enter Tryz.func48, Tryz.ntmps48
  go_wp2_with fail
  go_ret2
  exact ⟨rfl, ba1 _ _⟩
theorem methBox1 (kd row col sc tall wide : Int) (nm : ByteArray) (lev : Int) (tx : ByteArray) (n : Nat) (W : World) : (method (n + 1) 111 (.agg #[.int .i64 kd, .int .i64 row, .int .i64 col, .int .i64 sc, .int .i64 tall, .int .i64 wide, .string nm, .int .i64 lev, .string tx]) "loop.example/g00879/impl.box").run Tryz.prog W = .ok (163, (.agg #[.int .i64 kd, .int .i64 row, .int .i64 col, .int .i64 sc, .int .i64 tall, .int .i64 wide, .string nm, .int .i64 lev, .string tx])) W := by kernel_rfl
theorem methBox2 (kd row col sc tall wide : Int) (nm : ByteArray) (lev : Int) (tx : ByteArray) (n : Nat) (W : World) : (method (n + 1) 112 (.agg #[.int .i64 kd, .int .i64 row, .int .i64 col, .int .i64 sc, .int .i64 tall, .int .i64 wide, .string nm, .int .i64 lev, .string tx]) "loop.example/g00879/impl.box").run Tryz.prog W = .ok (167, (.agg #[.int .i64 kd, .int .i64 row, .int .i64 col, .int .i64 sc, .int .i64 tall, .int .i64 wide, .string nm, .int .i64 lev, .string tx])) W := by kernel_rfl
theorem methBox3 (kd row col sc tall wide : Int) (nm : ByteArray) (lev : Int) (tx : ByteArray) (n : Nat) (W : World) : (method (n + 1) 113 (.agg #[.int .i64 kd, .int .i64 row, .int .i64 col, .int .i64 sc, .int .i64 tall, .int .i64 wide, .string nm, .int .i64 lev, .string tx]) "loop.example/g00879/impl.box").run Tryz.prog W = .ok (170, (.agg #[.int .i64 kd, .int .i64 row, .int .i64 col, .int .i64 sc, .int .i64 tall, .int .i64 wide, .string nm, .int .i64 lev, .string tx])) W := by kernel_rfl
theorem boxI_bad {x : It} (h1 : x.kind ≠ 1) (h2 : x.kind ≠ 2) (h3 : x.kind ≠ 3) : boxI x = none := by rw [boxI, if_neg h1, if_neg h2, if_neg h3]

set_option maxRecDepth 100000 in
set_option maxHeartbeats 4000000 in
theorem itemBox_any (x : It) (hs : x.text.size ≤ 1048576) (w : World) :
    Calls Tryz.prog 56 #[itV x] w (RetBx w (boxI x)) := by
  have HT1 := Lib.hid (fun h w => thing1 x h w)
  have HT2 := Lib.hid (fun h w => thing2 x h w)
  have HT3 := Lib.hid (fun h w => thing3 x h w)
  have HT0 := Lib.hid (fun h1 h2 h3 w => thing0 x h1 h2 h3 w)
  have HX1 := Lib.hid (fun h w => textBox_any x w h)
  have HX2 := Lib.hid (fun h w => lineBox_any x w h)
  have HX3 := Lib.hid (fun h w => symbolBox_any x w h hs)
  have HX0 := Lib.hid (fun h1 h2 h3 => boxI_bad (x := x) h1 h2 h3)
  obtain ⟨O, hO⟩ : ∃ O, O = boxI x := ⟨_, rfl⟩
  rw [← hO] at HX1 HX2 HX3 HX0 ⊢
  clear hO
  obtain ⟨kd, row, col, sc, tall, wide, nm, lev, tx⟩ := x
  dsimp only at hs HT1 HT2 HT3 HT0 HX1 HX2 HX3 HX0 ⊢
  unfold itV at *
  have HB := Lib.hid (ba1 w (.cells #[.int .i64 kd, .int .i64 row, .int .i64 col, .int .i64 sc, .int .i64 tall, .int .i64 wide, .string nm, .int .i64 lev, .string tx] 49 (0, 0)))
  go_enter Tryz.func56, Tryz.ntmps56
  go_wp2_with fail
  by_cases h1 : kd = 1
  · subst h1
    refine (HT1.out rfl _).mono ?_
    rintro e w1 ⟨rfl, hb1⟩
    have HB1 := Lib.hid (bt0 HB.out hb1 (Nat.le_refl _))
    have hm := methBox1 1 row col sc tall wide nm lev tx
    clear hb1
    go_wp2_with fail
    refine (HX1.out (by first | trivial | rfl) _).mono ?_
    rintro e w2 ⟨hb2, hr⟩
    have HB2 := Lib.hid (bt0 HB1.out hb2 (Nat.le_refl _))
    clear hb2
    rcases hr with ⟨r, c, hr, rfl⟩ | ⟨hr, rfl⟩
    · have HR := Lib.hid hr
      go_wp2_with fail
      exact bodyPost_ret (v := .tuple #[.int .i64 r, .int .i64 c, .bool true]) (by simp [results, Tryz.results56, go_sem]) rfl ⟨HB2.out, .inl ⟨_, _, HR.out, rfl⟩⟩
    · have HR := Lib.hid hr
      go_wp2_with fail
      exact bodyPost_ret (v := .tuple #[.int .i64 0, .int .i64 0, .bool false]) (by simp [results, Tryz.results56, go_sem]) rfl ⟨HB2.out, .inr ⟨HR.out, rfl⟩⟩
  by_cases h2 : kd = 2
  · subst h2
    refine (HT2.out rfl _).mono ?_
    rintro e w1 ⟨rfl, hb1⟩
    have HB1 := Lib.hid (bt0 HB.out hb1 (Nat.le_refl _))
    have hm := methBox2 2 row col sc tall wide nm lev tx
    clear hb1
    go_wp2_with fail
    refine (HX2.out (by first | trivial | rfl) _).mono ?_
    rintro e w2 ⟨hb2, hr⟩
    have HB2 := Lib.hid (bt0 HB1.out hb2 (Nat.le_refl _))
    clear hb2
    rcases hr with ⟨r, c, hr, rfl⟩ | ⟨hr, rfl⟩
    · have HR := Lib.hid hr
      go_wp2_with fail
      exact bodyPost_ret (v := .tuple #[.int .i64 r, .int .i64 c, .bool true]) (by simp [results, Tryz.results56, go_sem]) rfl ⟨HB2.out, .inl ⟨_, _, HR.out, rfl⟩⟩
    · have HR := Lib.hid hr
      go_wp2_with fail
      exact bodyPost_ret (v := .tuple #[.int .i64 0, .int .i64 0, .bool false]) (by simp [results, Tryz.results56, go_sem]) rfl ⟨HB2.out, .inr ⟨HR.out, rfl⟩⟩
  by_cases h3 : kd = 3
  · subst h3
    refine (HT3.out rfl _).mono ?_
    rintro e w1 ⟨rfl, hb1⟩
    have HB1 := Lib.hid (bt0 HB.out hb1 (Nat.le_refl _))
    have hm := methBox3 3 row col sc tall wide nm lev tx
    clear hb1
    go_wp2_with fail
    refine (HX3.out (by first | trivial | rfl) _).mono ?_
    rintro e w2 ⟨hb2, hr⟩
    have HB2 := Lib.hid (bt0 HB1.out hb2 (Nat.le_refl _))
    clear hb2
    rcases hr with ⟨r, c, hr, rfl⟩ | ⟨hr, rfl⟩
    · have HR := Lib.hid hr
      go_wp2_with fail
      exact bodyPost_ret (v := .tuple #[.int .i64 r, .int .i64 c, .bool true]) (by simp [results, Tryz.results56, go_sem]) rfl ⟨HB2.out, .inl ⟨_, _, HR.out, rfl⟩⟩
    · have HR := Lib.hid hr
      go_wp2_with fail
      exact bodyPost_ret (v := .tuple #[.int .i64 0, .int .i64 0, .bool false]) (by simp [results, Tryz.results56, go_sem]) rfl ⟨HB2.out, .inr ⟨HR.out, rfl⟩⟩
  · refine (HT0.out h1 h2 h3 _).mono ?_
    rintro e w1 ⟨rfl, hb1⟩
    have HB1 := Lib.hid (bt0 HB.out hb1 (Nat.le_refl _))
    have HR := Lib.hid (HX0.out h1 h2 h3)
    clear hb1
    go_wp2_with fail
    exact bodyPost_ret (v := .tuple #[.int .i64 0, .int .i64 0, .bool false]) (by simp [results, Tryz.results56, go_sem]) rfl ⟨HB1.out, .inr ⟨HR.out, rfl⟩⟩

end Go.Proofs.YtlcglclojlffgaaGreatDoor
namespace Go.Proofs.YtlcglclojlffgaaGreatDoor
open Go.RowKit

/-- a box on a label -/
structure Bx where
  row : Int
  col : Int
  rows : Int
  cols : Int
/-- rows of boxes -/
def bxE : Enc Bx where
  enc r := [.int .i64 r.row, .int .i64 r.col, .int .i64 r.rows, .int .i64 r.cols]
  k := 4
  t := 66
  bytes := 32
  len _ := rfl
  one := by
    intro r u hu
    simp only [List.mem_cons, List.not_mem_nil, or_false] at hu
    rcases hu with rfl | rfl | rfl | rfl <;> rfl
  pos := by decide
theorem infoBx : (Tryz.prog.info? 66).map (fun i => (i.zero, i.size, i.bytes)) = some (some (.agg #[.int .i64 0, .int .i64 0, .int .i64 0, .int .i64 0]), 4, 32) := by kernel_rfl
theorem wpList_append_bx {ops : Array Oper} {rest : List Oper} {o : Oper} {a : Act} {Q : Exit → Act → World → Prop} {W : World} (hgd : o.guard = none) (s x : Operand)
    (ho : o.op = .call { callee := .builtin .append, args := #[s, x], argTypes := #[62, 62] })
    (base : Nat) (v : Value) (xs : List Bx) (y : Bx) (hs : a.eval s = v) (hown : bxE.Own W base v xs) (g : Nat) (hx : a.eval x = .slice (some ⟨g, 0, none⟩) 1 1)
    (hg : W.heap[g]? = some (.cells #[.int .i64 y.row, .int .i64 y.col, .int .i64 y.rows, .int .i64 y.cols] 66 (0, 0))) (hl : xs.length ≤ 1000000000) (hb : base ≤ W.heap.size)
    (h : ∀ a' c' xs' w', xs' = xs ++ [y] → bxE.Own w' base (.slice a' xs'.length c') xs' → W.grownBy w' v.ownBlock → Below base W w' → wpList Tryz.prog ops Q rest (a.put o.dst (.slice a' xs'.length c')) w') : wpList Tryz.prog ops Q (o :: rest) a W := by
  obtain ⟨i0, hi, y0, y1, y2⟩ := info_parts infoBx
  exact wpList_append_e bxE hgd s x _ ho Tryz.underlying62 i0 _ hi y0 y1 y2 rfl (by decide) base v xs y hs hown g _ hx hg rfl hl hb h
/-- rows of items -/
def itE : Enc It where
  enc x := [.int .i64 x.kind, .int .i64 x.row, .int .i64 x.col, .int .i64 x.scale, .int .i64 x.tall, .int .i64 x.wide, .string x.name, .int .i64 x.level, .string x.text]
  k := 9
  t := 49
  bytes := 88
  len _ := rfl
  one := by
    intro r u hu
    simp only [List.mem_cons, List.not_mem_nil, or_false] at hu
    rcases hu with rfl | rfl | rfl | rfl | rfl | rfl | rfl | rfl | rfl <;> rfl
  pos := by decide
/-- an item in memory -/
theorem it_at {w : World} {a : Option Addr} {l : List It} (h : itE.At w a l) {i : Nat} {x : It} (hr : l[i]? = some x) : ∃ b o, a = some ⟨b, o, none⟩ ∧ b < w.heap.size ∧
    w.cell? ⟨b, o + i * 9, none⟩ = some (.int .i64 x.kind) ∧ w.cell? ⟨b, o + i * 9 + 1, none⟩ = some (.int .i64 x.row) ∧ w.cell? ⟨b, o + i * 9 + 2, none⟩ = some (.int .i64 x.col) ∧ w.cell? ⟨b, o + i * 9 + 3, none⟩ = some (.int .i64 x.scale) ∧ w.cell? ⟨b, o + i * 9 + 4, none⟩ = some (.int .i64 x.tall) ∧
    w.cell? ⟨b, o + i * 9 + 5, none⟩ = some (.int .i64 x.wide) ∧ w.cell? ⟨b, o + i * 9 + 6, none⟩ = some (.string x.name) ∧ w.cell? ⟨b, o + i * 9 + 7, none⟩ = some (.int .i64 x.level) ∧ w.cell? ⟨b, o + i * 9 + 8, none⟩ = some (.string x.text) := by
  obtain ⟨b, o, e, hc⟩ := h i x hr
  have h0 : w.cell? ⟨b, o + i * 9, none⟩ = some (.int .i64 x.kind) := hc 0 _ rfl
  exact ⟨b, o, e, lt_of_cell h0, h0, hc 1 _ rfl, hc 2 _ rfl, hc 3 _ rfl, hc 4 _ rfl, hc 5 _ rfl, hc 6 _ rfl, hc 7 _ rfl, hc 8 _ rfl⟩

/-- the box of an item on a label -/
def bxO (x : It) : Bx := ⟨x.row, x.col, ((boxI x).getD (0, 0)).1, ((boxI x).getD (0, 0)).2⟩
theorem bxO_some {x : It} {r c : Int} (h : boxI x = some (r, c)) : bxO x = ⟨x.row, x.col, r, c⟩ := by simp [bxO, h]
/-- the bounds of a box -/
theorem boxI_bd {x : It} {r c : Int} (h : boxI x = some (r, c)) : (1 ≤ r ∧ r ≤ 2000) ∧ (1 ≤ c ∧ c ≤ 2000) := by
  by_cases h1 : x.kind = 1
  · rw [boxI_text h1] at h
    split at h
    · next hh =>
      rw [scaledI_iff] at hh
      obtain ⟨-, ⟨⟨hs, -⟩, -⟩, l1, l2, -⟩ := hh
      simp only [Option.some.injEq, Prod.mk.injEq] at h
      obtain ⟨rfl, rfl⟩ := h
      have := mul_bd (a := 4 * (x.text.size : Int) - 1) (b := x.scale) (m := 159) (n := 8) (by omega) (by omega)
      omega
    · cases h
  by_cases h2 : x.kind = 2
  · rw [boxI_line h2] at h
    split at h
    · next hh =>
      simp only [Option.some.injEq, Prod.mk.injEq] at h
      omega
    · cases h
  by_cases h3 : x.kind = 3
  · rw [boxI_sym h3] at h
    split at h
    · next hh =>
      have hs := (scaledI_iff.1 hh.1).1.1
      split at h
      · next f hf =>
        rw [Option.map_eq_some_iff] at h
        obtain ⟨n, hn, h⟩ := h
        simp only [Prod.mk.injEq] at h
        obtain ⟨rfl, rfl⟩ := h
        have hm := smS_mem hn
        have ho := famN_ok hf
        have b1 := fam_sz (nm := f.name) (kd := f.kind) (p := f.fp) (k := f.fk) (g := f.fg) (szs := f.sizes) (cl := f.cols) (lvs := f.levels) ho hm
        have b2 := colsF_bd ho hm
        have e1 := mul_bd (a := n) (b := x.scale) (m := 41) (n := 8) (by omega) hs
        have e2 := mul_bd (a := colsF f n) (b := x.scale) (m := 125) (n := 8) b2 hs
        omega
      · cases h
    · cases h
  · rw [boxI_bad h1 h2 h3] at h; cases h
/-- a box lies on a raster -/
def cntB (R C row col r c : Int) : Bool := decide (0 ≤ row) && decide (0 ≤ col) && inB r 1 R && inB c 1 C && decide (row ≤ R - r) && decide (col ≤ C - c)
theorem onL_cnt {l : Lb} {x : It} {r c : Int} (h : boxI x = some (r, c)) : onL l x = cntB l.rows l.cols x.row x.col r c := by
  have hb := boxI_bd h
  unfold onL cntB
  rw [h, Bool.eq_iff_iff]
  simp only [inB, Bool.and_eq_true, decide_eq_true_eq]
  omega
theorem onL_none {l : Lb} {x : It} (h : boxI x = none) : onL l x = false := by unfold onL; rw [h]
theorem lbok_parts (l : Lb) : l.ok = (sizeB l.rows l.cols && decide (l.items.length ≤ 12) && l.items.all (onL l)) := by
  rw [Lb.ok, Bool.eq_iff_iff]
  simp only [sizeB, inB, Bool.and_eq_true, decide_eq_true_eq, and_assoc]

end Go.Proofs.YtlcglclojlffgaaGreatDoor
namespace Go.Proofs.YtlcglclojlffgaaGreatDoor
open Go.RowKit

/-- the words' bytes -/
def bytesL (ws : List ByteArray) : List (List UInt8) := ws.map (fun b => b.data.toList)

theorem cut_len (c : UInt8) : ∀ (l : List UInt8), (cut c l).length ≤ l.length + 1 ∧ ∀ p ∈ cut c l, p.length ≤ l.length
  | [] => by simp [cut]
  | x :: r => by
    obtain ⟨h1, h2⟩ := cut_len c r
    rw [cut]
    split
    · refine ⟨by simpa using h1, ?_⟩
      intro p hp
      rcases List.mem_cons.1 hp with rfl | hp
      · simp
      · have := h2 p hp; simp; omega
    · split
      · simp
      · rename_i h t he
        rw [he] at h1 h2
        refine ⟨by simp at h1 ⊢; omega, ?_⟩
        intro p hp
        rcases List.mem_cons.1 hp with rfl | hp
        · have := h2 h (by simp); simp; omega
        · have := h2 p (by simp [hp]); simp; omega

theorem strs_new (w : World) (ss : List ByteArray) (t : TypeId) : StrsAt (w.alloc (.cells (ss.map Value.string).toArray t (0, 0))) (some ⟨w.heap.size, 0, none⟩) ss := by
  intro i hi
  refine ⟨w.heap.size, 0, rfl, ?_⟩
  rw [Nat.zero_add]
  simp [hi]

/-- strings.Split at a byte -/
theorem split_any (s : ByteArray) (c : UInt8) (w : World) (hs : s.size ≤ 1048576) (hE : Env w) :
    Calls Tryz.prog 31 #[.string s, .string ⟨#[c]⟩] w fun e w' => ∃ ss : List ByteArray, bytesL ss = cut c s.data.toList ∧ ss.length ≤ 1048577 ∧ (∀ b ∈ ss, b.size ≤ s.size) ∧ e = .returned (.slice (some ⟨w.heap.size, 0, none⟩) ss.length ss.length) ∧ w' = w.alloc (.cells (ss.map Value.string).toArray 9) := by
  obtain ⟨m, hm⟩ := hE.mx
  refine (Tryz.strings_Split s ⟨#[c]⟩ m w (by omega) hm (Nat.le_refl 1)).mono fun e w' ⟨he, hw⟩ => ?_
  have hl := Lib.splitB_all ⟨#[c]⟩ (Nat.le_refl 1) 0 (Lib.countB s ⟨#[c]⟩) s rfl
  have hc := splitB_cut s c
  refine ⟨Lib.splitB ⟨#[c]⟩ 0 (Lib.countB s ⟨#[c]⟩) s, hc, ?_, ?_, ?_, hw⟩
  · have h2 := congrArg List.length hc
    rw [List.length_map] at h2
    have h3 := (cut_len c s.data.toList).1
    have h4 : s.data.toList.length = s.size := rfl
    omega
  · intro b hb
    have h2 : b.data.toList ∈ cut c s.data.toList := by rw [← hc]; exact List.mem_map.2 ⟨b, hb, rfl⟩
    exact (cut_len c s.data.toList).2 _ h2
  · rw [hl]; exact he

end Go.Proofs.YtlcglclojlffgaaGreatDoor
namespace Go.Proofs.YtlcglclojlffgaaGreatDoor
open Go.RowKit

theorem itoa_small {n : Int} (h0 : 0 ≤ n) (h : n < 10) : Lib.itoa n = [UInt8.ofNat (48 + n).toNat] := by
  obtain ⟨u, rfl⟩ := Int.eq_ofNat_of_zero_le h0
  have e : (48 + (u : Int)).toNat = 48 + u := by omega
  rw [Lib.itoa_nonneg, Lib.decDigits, dif_pos (by omega), e]
theorem itoa_big {n : Int} (h : 10 ≤ n) : Lib.itoa n = Lib.itoa (n / 10) ++ [UInt8.ofNat (48 + n % 10).toNat] := by
  obtain ⟨u, rfl⟩ := Int.eq_ofNat_of_zero_le (show 0 ≤ n by omega)
  have e1 : ((u : Int) / 10) = ((u / 10 : Nat) : Int) := by omega
  have e2 : (48 + (u : Int) % 10).toNat = 48 + u % 10 := by omega
  rw [e1, e2, Lib.itoa_nonneg, Lib.itoa_nonneg, Lib.decDigits, dif_neg (by omega)]

/-- a string of one byte -/
def oneB (z : Int) : ByteArray := ⟨#[UInt8.ofNat z.toNat]⟩

theorem conv_one (w : World) (b : Nat) (z : Int) (hc : w.cell? ⟨b, 0, none⟩ = some (.int .u8 z)) :
    (convert 33 9 (.slice (some ⟨b, 0, none⟩) 1 1)).run Tryz.prog w = .ok (.string (oneB z)) w := by
  have := run_convert_bytes_arg (P := Tryz.prog) w 33 5 Tryz.underlying33 Tryz.underlying5 b 0 1 1 [z] rfl (fun i hi => by
      obtain rfl : i = 0 := by omega
      simpa using hc) 9 Tryz.underlying9
  simpa [strOfNums, oneB] using this
theorem conv_new (w : World) (z : Int) :
    (convert 33 9 (.slice (some ⟨w.heap.size, 0, none⟩) 1 1)).run Tryz.prog (w.alloc (.cells #[.int .u8 z] 5)) = .ok (.string (oneB z)) (w.alloc (.cells #[.int .u8 z] 5)) :=
  conv_one _ _ _ (by simp)
theorem conv_drew (w : World) (z : Int) :
    (convert 33 9 (.slice (some ⟨w.heap.size, 0, none⟩) 1 1)).run Tryz.prog (w.alloc (.cells #[.int .u8 z] 5)).drew = .ok (.string (oneB z)) (w.alloc (.cells #[.int .u8 z] 5)).drew :=
  conv_one _ _ _ (by simp)

theorem decB_small {n : Int} (h0 : 0 ≤ n) (h : n < 10) : decB n = oneB (48 + n) := by
  unfold decB oneB; rw [itoa_small h0 h]
theorem decB_big {n : Int} (h : 10 ≤ n) : decB n = decB (n / 10) ++ oneB (48 + n % 10) := by
  have e : decB n = ⟨(Lib.itoa n).toArray⟩ := rfl
  rw [e, itoa_big h]
  apply ByteArray.ext
  simp [decB, oneB]

set_option maxHeartbeats 400000 in
theorem l01Dec_any (k : Nat) : ∀ (n : Int) (w : World), n ≤ k → 0 ≤ n → n ≤ 9223372036854775807 →
    Calls Tryz.prog 45 #[.int .i64 n] w fun e w' => e = .returned (.string (decB n)) ∧ Below w.heap.size w w' := by
  induction k with
  | zero =>
    intro n w hk h0 h1
    have hn : n < 10 := by omega
    have hcv := conv_new w
    go_enter Tryz.func45, Tryz.ntmps45
    go_wp2_with fail
    go_ret
    exact ⟨ret_str (decB_small h0 hn).symm, (Below.refl _ _).alloc (Nat.le_refl _) _⟩
  | succ k ih =>
    intro n w hk h0 h1
    by_cases hn : n < 10
    · have hcv := conv_new w
      go_enter Tryz.func45, Tryz.ntmps45
      go_wp2_with fail
      go_ret
      exact ⟨ret_str (decB_small h0 hn).symm, (Below.refl _ _).alloc (Nat.le_refl _) _⟩
    · have e1 : IntKind.i64.wrap (n.tdiv 10) = n / 10 := by rw [Int.tdiv_eq_ediv_of_nonneg h0]; exact IntWalk.i64_in _ (by omega)
      have e2 : n.tmod 10 = n % 10 := Int.tmod_eq_emod_of_nonneg h0
      have e3 : IntKind.i64.wrap (48 + n % 10) = 48 + n % 10 := IntWalk.i64_in _ (by omega)
      have e4 : IntKind.u8.wrap (48 + n % 10) = 48 + n % 10 := IntWalk.u8_in _ (by omega)
      have hs1 : (decB (n / 10)).size ≤ 21 := by rw [decB_size]; exact Lib.itoa_length_le _ (by omega) (by omega)
      have hs2 : (oneB (48 + n % 10)).size ≤ 1 := by simp [oneB, ByteArray.size]
      have hs3 : (decB (n / 10)).size + (oneB (48 + n % 10)).size ≤ 9223372036854775807 := by omega
      clear hs1 hs2
      have hcv := conv_new w
      have hcd := conv_drew w
      go_enter Tryz.func45, Tryz.ntmps45
      go_wp2_with fail
      go_region_with (go_at_call 45; refine (ih _ _ (by omega) (by omega) (by omega)).mono ?_; rintro e w' ⟨rfl, hb⟩; have hcv' := conv_new w'; obtain ⟨hc, hf⟩ := bcell hb; have hko := conv_one w' w.heap.size (48 + n % 10))
      all_goals
        go_wp2
        go_ret
        refine ⟨ret_str (decB_big (by omega)).symm, ?_⟩
        first | exact ((Below.refl _ _).drew.trans hb).alloc hb.size _ | exact (((Below.refl _ _).alloc (Nat.le_refl _) _).drew).trans (hb.mono (by simp))

end Go.Proofs.YtlcglclojlffgaaGreatDoor
namespace Go.Proofs.YtlcglclojlffgaaGreatDoor
open Go.RowKit

theorem infoStr : (Tryz.prog.info? 9).map (fun i => (i.zero, i.size, i.bytes)) = some (some (.string ⟨#[]⟩), 1, 16) := by kernel_rfl
/-- while a text is cut -/
structure SplI (l : List UInt8) (c : UInt8) (k f : Nat) (ss : List ByteArray) : Prop where
  len : k ≤ l.length + 1
  fk : f ≤ k
  num : ss.length ≤ k
  mid : k ≤ l.length → bytesL ss ++ cut c (l.drop f) = cut c l ∧ c ∉ (l.drop f).take (k - f)
  fin : k = l.length + 1 → bytesL ss = cut c l

theorem splI_start (l : List UInt8) (c : UInt8) : SplI l c 0 0 [] :=
  ⟨Nat.zero_le _, Nat.le_refl _, Nat.zero_le _, fun _ => by simp [bytesL], fun h => by omega⟩
theorem splI_skip {l : List UInt8} {c x : UInt8} {k f : Nat} {ss : List ByteArray} (h : SplI l c k f ss) (hx : l[k]? = some x) (hne : x ≠ c) : SplI l c (k + 1) f ss := by
  have hk : k < l.length := (List.getElem?_eq_some_iff.1 hx).1
  obtain ⟨h1, h2⟩ := h.mid (by omega)
  have hfk := h.fk
  refine ⟨by omega, by omega, by have := h.num; omega, fun _ => ⟨h1, ?_⟩, fun e => by omega⟩
  rw [show k + 1 - f = (k - f) + 1 by omega]
  rw [List.take_add_one, List.getElem?_drop, show f + (k - f) = k by omega, hx]
  simp only [Option.toList_some, List.mem_append, List.mem_singleton, not_or]
  exact ⟨h2, fun e => hne e.symm⟩
theorem drop_split {l : List UInt8} {x : UInt8} {k f : Nat} (hx : l[k]? = some x) (hfk : f ≤ k) : l.drop f = (l.drop f).take (k - f) ++ x :: l.drop (k + 1) := by
  have hk : k < l.length := (List.getElem?_eq_some_iff.1 hx).1
  have e := (List.take_append_drop (k - f) (l.drop f)).symm
  rw [List.drop_drop, show f + (k - f) = k by omega] at e
  rw [List.drop_eq_getElem_cons hk] at e
  have hxk : l[k] = x := (List.getElem?_eq_some_iff.1 hx).2
  rw [hxk] at e
  exact e
theorem bytesL_snoc (ss : List ByteArray) (b : ByteArray) : bytesL (ss ++ [b]) = bytesL ss ++ [b.data.toList] := by rw [bytesL, List.map_append]; rfl
theorem splI_cut {l : List UInt8} {c : UInt8} {k f : Nat} {ss : List ByteArray} {b : ByteArray} (h : SplI l c k f ss) (hx : l[k]? = some c) (hb : b.data.toList = (l.drop f).take (k - f)) : SplI l c (k + 1) (k + 1) (ss ++ [b]) := by
  have hk : k < l.length := (List.getElem?_eq_some_iff.1 hx).1
  obtain ⟨h1, h2⟩ := h.mid (by omega)
  refine ⟨by omega, by omega, by have := h.num; simp; omega, fun _ => ⟨?_, by simp⟩, fun e => by omega⟩
  rw [bytesL_snoc, hb, List.append_assoc, List.singleton_append, ← h1]
  conv => rhs; rw [drop_split hx h.fk, cut_app c _ _ h2]
theorem splI_end {l : List UInt8} {c : UInt8} {f : Nat} {ss : List ByteArray} {b : ByteArray} (h : SplI l c l.length f ss) (hb : b.data.toList = (l.drop f).take (l.length - f)) : SplI l c (l.length + 1) (l.length + 1) (ss ++ [b]) := by
  obtain ⟨h1, h2⟩ := h.mid (Nat.le_refl _)
  refine ⟨Nat.le_refl _, by omega, by have := h.num; simp; omega, fun e => by omega, fun _ => ?_⟩
  have e : (l.drop f).take (l.length - f) = l.drop f := List.take_of_length_le (by simp)
  rw [e] at h2 hb
  rw [bytesL_snoc, hb, ← h1, cut_piece c _ h2]
theorem extract_toList (s : ByteArray) (f k : Nat) : (s.extract f k).data.toList = (s.data.toList.drop f).take (k - f) := by
  rw [ByteArray.data_extract, Array.toList_extract, List.extract_eq_take_drop]
theorem str_one_new (w : World) (x : ByteArray) (t : TypeId) : ∀ j u, [Value.string x][j]? = some u → (w.alloc (.cells #[.string x] t (0, 0))).cell? ((⟨w.heap.size, 0, none⟩ : Addr).add j) = some u := by
  intro j u hu
  rw [Addr.add_lit, Nat.zero_add, ← hu]
  simp
theorem str_one (x : ByteArray) : ∀ u ∈ [Value.string x], u.oneCell' = true := by
  intro u hu
  simp only [List.mem_singleton] at hu
  subst hu; rfl
theorem OwnS.snoc {w : World} {base : Nat} {v : Value} {ss : List ByteArray} {b : ByteArray} (h : w.ownsRow base 9 1 v (ss.length + 1) (ss.map Value.string ++ [.string b])) : OwnS w base v (ss ++ [b]) := by
  unfold OwnS
  rw [List.length_append, List.map_append]
  simpa using h
theorem OwnS.new (w : World) : OwnS (w.alloc (.cells #[] 9 (0, 0))) w.heap.size (.slice (some ⟨w.heap.size, 0, none⟩) 0 0) [] :=
  World.ownsRow_lit (base := w.heap.size) (size := 1) w #[] 0 (Nat.le_refl _) (by unfold maxLen; omega) rfl

/-- texts of the call's own are handed back -/
def RetStrs (w : World) (l : List (List UInt8)) (e : Ending) (w' : World) : Prop :=
  ∃ (ss : List ByteArray) (a : Option Addr) (cp : Nat), bytesL ss = l ∧ e = .returned (.slice a ss.length cp) ∧ OwnS w' w.heap.size (.slice a ss.length cp) ss ∧ Below w.heap.size w w'
theorem below_of_grownBy' {w wr w9 : World} {v : Value} {o : Obj} (hb : Below w.heap.size w wr) (hlo : ∀ k, v.ownBlock = some k → w.heap.size ≤ k) (hg : (wr.alloc o).grownBy w9 v.ownBlock) : Below w.heap.size w w9 :=
  (bt0 hb (ba1 _ _) (Nat.le_refl _)).trans (below_of_grownBy hg (by have := hb.size; simp; omega) hlo)

set_option maxRecDepth 100000 in
set_option maxHeartbeats 1000000 in
theorem l01Split_any (s : ByteArray) (c : UInt8) (w : World) (hs : s.size ≤ 1048576) :
    Calls Tryz.prog 37 #[.string s, .int .u8 c.toNat] w (RetStrs w (cut c s.data.toList)) := by
  obtain ⟨i0, hi, y0, y1, y2⟩ := info_parts infoStr
  go_enter Tryz.func37, Tryz.ntmps37
  go_wp2_with fail
  go_loopw [5, 6, 7] (fun v f i wr => ∃ (k g : Nat) (ss : List ByteArray), i = .int .i64 k ∧ f = .int .i64 g ∧ SplI s.data.toList c k g ss ∧ OwnS wr w.heap.size v ss ∧ Below w.heap.size w wr) (fun _ _ i _ => s.data.toList.length + 1 - (intOf i).toNat)
  case atStart => exact ⟨0, 0, [], rfl, rfl, splI_start _ _, OwnS.new w, ba1 _ _⟩
  case round =>
    obtain ⟨k, g, ss, rfl, rfl, hi', ho, hb⟩ := hrel
    obtain ⟨a, cp, rfl, -⟩ := ho.read
    have HI := Lib.hid hi'
    have HO := Lib.hid ho
    have HB := Lib.hid hb
    have hfk := hi'.fk
    have hkl := hi'.len
    have HNM := Lib.hid hi'.num
    have HBS := Lib.hid hb.size
    clear hi' ho hb
    have hsz : s.data.toList.length = s.size := rfl
    by_cases hlt : k < s.size
    · have hk1 : (k : Int) ≤ (s.size : Int) := by omega
      have hk2 : ((k : Int) == (s.size : Int)) = false := by simp; omega
      have hxk : Hid (s.data.toList[k]? = some s[k]) := Lib.hid (by
        rw [List.getElem?_eq_getElem (by omega)]
        rfl)
      by_cases hx : s[k] = c
      · have hx2 : (((s[k].toNat : Nat) : Int) == ((c.toNat : Nat) : Int)) = true := by rw [hx]; simp
        have HXK : Hid (s.data.toList[k]? = some c) := Lib.hid (by rw [hxk.out, hx])
        clear hx hxk
        go_wp2_with (at_builtin; refine wpList_append_own _ rfl _ _ 55 rfl w.heap.size 9 i0 (.string ⟨#[]⟩) 1 16 Tryz.underlying55 hi y0 y1 y2 rfl (by decide) _ _ _ rfl (World.ownsRow.alloc HO.out _) ⟨wr.heap.size, 0, none⟩ 1 1 [.string (s.extract g k)] rfl rfl (str_one_new _ _ _) (str_one _) (by have := HNM.out; unfold maxLen; omega) (by have := HNM.out; omega) (by have := HBS.out; simp; omega) ?_; intro v' w9 hown3 hgrow3 _)
        refine ⟨⟨k + 1, k + 1, _, by go_num, by go_num, splI_cut HI.out HXK.out (extract_toList s g k), OwnS.snoc hown3, ?_⟩, by simp [intOf]; omega⟩
        exact below_of_grownBy' HB.out HO.out.lo hgrow3
      · have hx2 : (((s[k].toNat : Nat) : Int) == ((c.toNat : Nat) : Int)) = false := by
          rw [Bool.eq_false_iff]; intro e
          have e2 : ((s[k].toNat : Nat) : Int) = ((c.toNat : Nat) : Int) := by simpa using e
          exact hx (UInt8.toNat_inj.1 (by omega))
        have HX := Lib.hid hx
        clear hx
        go_wp2_with fail
        exact ⟨⟨k + 1, g, ss, by go_num, rfl, splI_skip HI.out hxk.out HX.out, HO.out, HB.out⟩, by simp [intOf]; omega⟩
    · by_cases hlt2 : k = s.size
      · subst hlt2
        go_wp2_with (at_builtin; refine wpList_append_own _ rfl _ _ 55 rfl w.heap.size 9 i0 (.string ⟨#[]⟩) 1 16 Tryz.underlying55 hi y0 y1 y2 rfl (by decide) _ _ _ rfl (World.ownsRow.alloc HO.out _) ⟨wr.heap.size, 0, none⟩ 1 1 [.string (s.extract g s.size)] rfl rfl (str_one_new _ _ _) (str_one _) (by have := HNM.out; unfold maxLen; omega) (by have := HNM.out; omega) (by have := HBS.out; simp; omega) ?_; intro v' w9 hown3 hgrow3 _)
        refine ⟨⟨s.size + 1, s.size + 1, _, by go_num, by go_num, splI_end HI.out (extract_toList s g s.size), OwnS.snoc hown3, ?_⟩, by first | (simp [intOf]; done) | (simp [intOf]; omega)⟩
        exact below_of_grownBy' HB.out HO.out.lo hgrow3
      · have hk3 : k = s.size + 1 := by omega
        have hk1 : ¬ (k : Int) ≤ (s.size : Int) := by omega
        go_wp2_with fail
        go_ret
        exact ⟨ss, a, cp, HI.out.fin hk3, rfl, HO.out, HB.out⟩

end Go.Proofs.YtlcglclojlffgaaGreatDoor
namespace Go.Proofs.YtlcglclojlffgaaGreatDoor
open Go.RowKit

theorem decB_eq {n : Int} {s : ByteArray} (h : Lib.itoa n = s.data.toList) : decB n = s := by
  apply ByteArray.ext; simp [decB, h]
end Go.Proofs.YtlcglclojlffgaaGreatDoor
namespace Go.Proofs.YtlcglclojlffgaaGreatDoor
open Go.RowKit

theorem dval_snoc (l : List UInt8) (x : UInt8) : dval (l ++ [x]) = 10 * dval l + (x.toNat - 48) := by simp [dval, List.foldl_append]
/-- all bytes are digits -/
def DigL (l : List UInt8) : Prop := ∀ x ∈ l, 48 ≤ x.toNat ∧ x.toNat ≤ 57
/-- while digits are read -/
structure ValI (l : List UInt8) (k n : Nat) : Prop where
  len : k ≤ l.length
  val : n = dval (l.take k)
  bd : n < 10 ^ k
  dig : DigL (l.take k)
theorem valI_start (l : List UInt8) : ValI l 0 0 := ⟨Nat.zero_le _, by simp [dval], by simp, by intro x hx; simp at hx⟩
theorem valI_step {l : List UInt8} {k n : Nat} {x : UInt8} (h : ValI l k n) (hx : l[k]? = some x) (h1 : 48 ≤ x.toNat) (h2 : x.toNat ≤ 57) : ValI l (k + 1) (10 * n + (x.toNat - 48)) := by
  have hk : k < l.length := (List.getElem?_eq_some_iff.1 hx).1
  have ht := take_snoc' hx
  refine ⟨by omega, ?_, ?_, ?_⟩
  · rw [ht, dval_snoc, ← h.val]
  · have := h.bd; rw [Nat.pow_succ]; omega
  · rw [ht]
    intro y hy
    rcases List.mem_append.1 hy with hy | hy
    · exact h.dig y hy
    · simp at hy; subst hy; exact ⟨h1, h2⟩
theorem valI_pow {l : List UInt8} {k n : Nat} (h : ValI l k n) (hl : l.length ≤ 12) : n < 1000000000000 := by
  have h1 := h.bd
  have h2 : 10 ^ k ≤ 10 ^ 12 := Nat.pow_le_pow_right (by omega) (by have := h.len; omega)
  have h3 : (10 : Nat) ^ 12 = 1000000000000 := by decide
  omega
theorem valS_bad {l : List UInt8} {k : Nat} {x : UInt8} (hx : l[k]? = some x) (hb : ¬ (48 ≤ x.toNat ∧ x.toNat ≤ 57)) : valS l = none := by
  rw [valS, if_neg]
  rintro ⟨_, _, h, _⟩
  exact hb (h x (List.mem_of_getElem? hx))
theorem valS_len {l : List UInt8} (h : ¬ (1 ≤ l.length ∧ l.length ≤ 12)) : valS l = none := by
  rw [valS, if_neg]
  rintro ⟨h1, h2, _⟩
  exact h ⟨h1, h2⟩
theorem valS_end {l : List UInt8} {n : Nat} (h : ValI l l.length n) (h1 : 1 ≤ l.length) (h2 : l.length ≤ 12) : valS l = if Lib.decDigits n = l then some (n : Int) else none := by
  have hv := h.val
  have hd := h.dig
  rw [List.take_of_length_le (Nat.le_refl _)] at hv hd
  rw [valS, ← hv]
  by_cases he : Lib.decDigits n = l
  · rw [if_pos ⟨h1, h2, hd, he⟩, if_pos he]
  · rw [if_neg (fun h => he h.2.2.2), if_neg he]

/-- a number, perhaps none -/
def RetVal (w : World) (o : Option Int) (e : Ending) (w' : World) : Prop :=
  ∃ v : Int, e = .returned (.tuple #[.int .i64 v, .bool o.isSome]) ∧ (∀ n, o = some n → v = n) ∧ (0 ≤ v ∧ v < 1000000000000) ∧ Below w.heap.size w w'
theorem retVal_no {w w' : World} {o : Option Int} (h : o = none) {v : Int} (h0 : 0 ≤ v) (h1 : v < 1000000000000) (hb : Below w.heap.size w w') : RetVal w o (.returned (.tuple #[.int .i64 v, .bool false])) w' := by
  subst h
  exact ⟨v, rfl, fun n e => (by cases e), ⟨h0, h1⟩, hb⟩

set_option maxRecDepth 100000 in
set_option maxHeartbeats 1000000 in
theorem l01Value_any (s : ByteArray) (w : World) (hs : s.size ≤ 1048576) :
    Calls Tryz.prog 60 #[.string s] w (RetVal w (valS s.data.toList)) := by
  have hsz : s.data.toList.length = s.size := rfl
  by_cases h1 : s.size < 1
  · have hi1 : ((s.size : Nat) : Int) < 1 := by omega
    have HN := Lib.hid (valS_len (l := s.data.toList) (by omega))
    go_enter Tryz.func60, Tryz.ntmps60
    go_wp2_with fail
    go_ret2
    exact retVal_no HN.out (by omega) (by omega) (Below.refl _ _)
  by_cases h2 : 12 < s.size
  · have hi1 : ¬ ((s.size : Nat) : Int) < 1 := by omega
    have hi2 : (12 : Int) < ((s.size : Nat) : Int) := by omega
    have HN := Lib.hid (valS_len (l := s.data.toList) (by omega))
    go_enter Tryz.func60, Tryz.ntmps60
    go_wp2_with fail
    go_ret2
    exact retVal_no HN.out (by omega) (by omega) (Below.refl _ _)
  have hi1 : ¬ ((s.size : Nat) : Int) < 1 := by omega
  have hi2 : ¬ (12 : Int) < ((s.size : Nat) : Int) := by omega
  go_enter Tryz.func60, Tryz.ntmps60
  go_wp2_with fail
  go_loopw [4, 5] (fun v i wr => ∃ (k n : Nat), i = .int .i64 k ∧ v = .int .i64 n ∧ ValI s.data.toList k n ∧ Below w.heap.size w wr) (fun _ i _ => s.size - (intOf i).toNat)
  case atStart => exact ⟨0, 0, rfl, rfl, valI_start _, Below.refl _ _⟩
  case round =>
    obtain ⟨k, n, rfl, rfl, hv, hb⟩ := hrel
    have HV := Lib.hid hv
    have HB := Lib.hid hb
    have hn := valI_pow hv (by omega)
    have hkl := hv.len
    clear hv hb
    by_cases hlt : k < s.size
    · obtain ⟨x, hx⟩ : ∃ x, s[k] = x := ⟨_, rfl⟩
      have hxk : Hid (s.data.toList[k]? = some x) := Lib.hid (by
        rw [List.getElem?_eq_getElem (by omega), ← hx]
        rfl)
      by_cases hx1 : x.toNat < 48
      · have hx2 : ((x.toNat : Nat) : Int) < 48 := by omega
        have HN := Lib.hid (valS_bad hxk.out (by omega))
        go_wp2_with fail
        go_ret2
        exact retVal_no HN.out (by omega) (by omega) HB.out
      · by_cases hx3 : 57 < x.toNat
        · have hx2 : ¬ ((x.toNat : Nat) : Int) < 48 := by omega
          have hx4 : (57 : Int) < ((x.toNat : Nat) : Int) := by omega
          have HN := Lib.hid (valS_bad hxk.out (by omega))
          go_wp2_with fail
          go_ret2
          exact retVal_no HN.out (by omega) (by omega) HB.out
        · have hx2 : ¬ ((x.toNat : Nat) : Int) < 48 := by omega
          have hx4 : ¬ (57 : Int) < ((x.toNat : Nat) : Int) := by omega
          have e1 : IntKind.u8.wrap ((x.toNat : Int) - 48) = (x.toNat : Int) - 48 := IntWalk.u8_in _ (by omega)
          have e2 : IntKind.i64.wrap (10 * (n : Int)) = 10 * (n : Int) := IntWalk.i64_in _ (by omega)
          have e3 : IntKind.i64.wrap ((x.toNat : Int) - 48) = (x.toNat : Int) - 48 := IntWalk.i64_in _ (by omega)
          have e4 : IntKind.i64.wrap (10 * (n : Int) + ((x.toNat : Int) - 48)) = 10 * (n : Int) + ((x.toNat : Int) - 48) := IntWalk.i64_in _ (by omega)
          have HS := Lib.hid (valI_step HV.out hxk.out (by omega) (by omega))
          go_wp2_with fail
          exact ⟨⟨k + 1, 10 * n + (x.toNat - 48), by go_num, by congr 1; omega, HS.out, HB.out⟩, by simp [intOf]; omega⟩
    · obtain rfl : k = s.size := by omega
      go_wp2_with fail
      refine (l01Dec_any n n _ (by omega) (by omega) (by omega)).mono ?_
      rintro e w1 ⟨rfl, hb1⟩
      have HB1 := Lib.hid (bt0 HB.out hb1 (Nat.le_refl _))
      have HVE := Lib.hid (valS_end (l := s.data.toList) HV.out (by omega) (by omega))
      clear hb1
      by_cases he : Lib.itoa (n : Int) = s.data.toList
      · have e2 : ((decB n).toList == s.toList) = true := by rw [decB_eq he]; simp
        rw [Lib.itoa_nonneg] at he
        have HE := Lib.hid (HVE.out.trans (if_pos he))
        clear he
        go_wp2_with fail
        go_ret2
        rw [HE.out]
        exact ⟨n, rfl, fun m hm => Option.some.inj hm, ⟨by omega, by omega⟩, HB1.out⟩
      · have e2 : ((decB n).toList == s.toList) = false := by
          rw [Bool.eq_false_iff]; intro h
          rw [beq_iff_eq, ByteArray.toList_eq, ByteArray.toList_eq] at h
          exact he (by rw [← h]; simp [decB])
        rw [Lib.itoa_nonneg] at he
        have HE := Lib.hid (HVE.out.trans (if_neg he))
        clear he
        go_wp2_with fail
        go_ret2
        exact retVal_no HE.out (by omega) (by omega) HB1.out

end Go.Proofs.YtlcglclojlffgaaGreatDoor
namespace Go.Proofs.YtlcglclojlffgaaGreatDoor
open Go.RowKit

/-- the decimal texts of numbers, one space between -/
def decX (xs : List Int) : List UInt8 := glue 32 (xs.map Lib.itoa)
theorem glue_snoc (c : UInt8) (xs : List (List UInt8)) (x : List UInt8) : glue c (xs ++ [x]) = if xs = [] then x else glue c xs ++ c :: x := by
  induction xs with
  | nil => rfl
  | cons a t ih =>
    cases t with
    | nil => simp [glue]
    | cons b u =>
      rw [List.cons_append, glue_cons _ _ _ (by simp), ih, if_neg (by simp), if_neg (by simp), glue_cons _ _ (b :: u) (by simp)]
      simp
theorem decX_snoc (xs : List Int) (x : Int) : decX (xs ++ [x]) = (if xs = [] then [] else decX xs ++ [32]) ++ Lib.itoa x := by
  unfold decX
  rw [List.map_append, List.map_cons, List.map_nil, glue_snoc]
  by_cases h : xs = []
  · subst h; rfl
  · rw [if_neg (by simpa using h), if_neg h]; simp
theorem decX_len : ∀ xs : List Int, (∀ x ∈ xs, -9223372036854775808 ≤ x ∧ x ≤ 9223372036854775807) → (decX xs).length ≤ 22 * xs.length
  | [], _ => by simp [decX, glue]
  | [x], h => by
    have h1 := h x (by simp)
    have := Lib.itoa_length_le x h1.1 h1.2
    simp [decX, glue]; omega
  | x :: y :: xs, h => by
    have h1 := h x (by simp)
    have h2 := Lib.itoa_length_le x h1.1 h1.2
    have h3 := decX_len (y :: xs) (fun z hz => h z (by simp [hz]))
    unfold decX at h3 ⊢
    rw [List.map_cons, glue_cons _ _ _ (by simp), List.length_append, List.length_cons]
    simp only [List.length_cons] at h3 ⊢
    omega
end Go.Proofs.YtlcglclojlffgaaGreatDoor
namespace Go.Proofs.YtlcglclojlffgaaGreatDoor
open Go.RowKit

/-- numbers, each behind a space -/
def wordsX (xs : List Int) : List UInt8 := xs.flatMap fun n => 32 :: Lib.itoa n
/-- the line of an item -/
def lineI (x : It) : List UInt8 :=
  if x.kind = 1 then [116, 101, 120, 116] ++ wordsX [x.row, x.col, x.scale] ++ 32 :: x.text.data.toList
  else if x.kind = 2 then [108, 105, 110, 101] ++ wordsX [x.row, x.col, x.tall, x.wide]
  else [115, 121, 109, 98, 111, 108] ++ wordsX [x.row, x.col, x.scale] ++ 32 :: x.name.data.toList ++ wordsX [x.level] ++ 32 :: x.text.data.toList
/-- the text of a valid label -/
def textL (l : Lb) : List UInt8 := [108, 97, 98, 101, 108] ++ wordsX [l.rows, l.cols] ++ 10 :: l.items.flatMap fun x => lineI x ++ [10]
def labT (l : Lb) : List UInt8 := if l.ok = true then textL l else []

theorem wordsX_dec (x : Int) (xs : List Int) : wordsX (x :: xs) = 32 :: decX (x :: xs) := by
  unfold decX
  induction xs generalizing x with
  | nil => simp [wordsX, glue]
  | cons y t ih =>
    have h := ih y
    simp only [List.map_cons] at h ⊢
    rw [show wordsX (x :: y :: t) = 32 :: Lib.itoa x ++ wordsX (y :: t) by simp [wordsX], h]
    simp [glue]
theorem wordsX_snoc (xs : List Int) (x : Int) : wordsX (xs ++ [x]) = wordsX xs ++ 32 :: Lib.itoa x := by simp [wordsX]
theorem wordsX_len (xs : List Int) (h : ∀ x ∈ xs, (Lib.itoa x).length ≤ 21) : (wordsX xs).length ≤ 22 * xs.length := by
  induction xs with
  | nil => simp [wordsX]
  | cons y t ih =>
    have h1 := h y (by simp)
    have h2 := ih fun x hx => h x (by simp [hx])
    rw [show wordsX (y :: t) = (32 :: Lib.itoa y) ++ wordsX t by simp [wordsX]]
    simp only [List.length_append, List.length_cons]
    omega

end Go.Proofs.YtlcglclojlffgaaGreatDoor
namespace Go.Proofs.YtlcglclojlffgaaGreatDoor
open Go.RowKit

/-- the bounds of an item that lies on a label -/
structure ItB (x : It) : Prop where
  kind : x.kind = 1 ∨ x.kind = 2 ∨ x.kind = 3
  row : 0 ≤ x.row ∧ x.row ≤ 400
  col : 0 ≤ x.col ∧ x.col ≤ 400
  sc : 0 ≤ x.scale ∧ x.scale ≤ 8
  tall : 0 ≤ x.tall ∧ x.tall ≤ 400
  wide : 0 ≤ x.wide ∧ x.wide ≤ 400
  lev : 0 ≤ x.level ∧ x.level ≤ 4
  nm : x.name.size ≤ 8
  tx : x.text.size ≤ 400
theorem libF_sz : ∀ f ∈ libF, f.name.size ≤ 8 ∧ f.levels.length ≤ 4 := by decide
theorem smS_bd {f : Fam} {lev : Int} {S : List UInt8} {n : Int} (h : smS f lev S = some n) : (0 ≤ lev ∧ lev < f.levels.length) ∧ S.length ≤ 400 := by
  unfold smS at h
  split at h
  · next hl =>
    refine ⟨hl, ?_⟩
    split at h
    · next need hp =>
      unfold payS at hp
      split at hp
      · next hh => exact hh.1
      · cases hp
    · cases h
  · cases h
theorem it_bd {l : Lb} {x : It} (h : onL l x = true) (hr : l.rows ≤ 400) (hc : l.cols ≤ 400) : ItB x := by
  cases hb : boxI x with
  | none => rw [onL_none hb] at h; cases h
  | some rc =>
    obtain ⟨r, c⟩ := rc
    have hbd := boxI_bd hb
    rw [onL_cnt hb] at h
    simp only [cntB, inB, Bool.and_eq_true, decide_eq_true_eq] at h
    have hrow : 0 ≤ x.row ∧ x.row ≤ 400 := by omega
    have hcol : 0 ≤ x.col ∧ x.col ≤ 400 := by omega
    clear h
    by_cases h1 : x.kind = 1
    · rw [boxI_text h1] at hb
      split at hb
      · next hh =>
        obtain ⟨hp, hs, l1, l2, -⟩ := hh
        rw [plainI_iff] at hp
        rw [scaledI_iff] at hs
        exact ⟨.inl h1, hrow, hcol, by omega, by omega, by omega, by omega, by rw [hp.1]; decide, by omega⟩
      · cases hb
    by_cases h2 : x.kind = 2
    · rw [boxI_line h2] at hb
      split at hb
      · next hh =>
        obtain ⟨hp, hs, ht, h3, h4⟩ := hh
        rw [plainI_iff] at hp
        exact ⟨.inr (.inl h2), hrow, hcol, by omega, by omega, by omega, by omega, by rw [hp.1]; decide, by rw [ht]; decide⟩
      · cases hb
    by_cases h3 : x.kind = 3
    · rw [boxI_sym h3] at hb
      split at hb
      · next hh =>
        have hs := scaledI_iff.1 hh.1
        split at hb
        · next f hf =>
          rw [Option.map_eq_some_iff] at hb
          obtain ⟨n, hn, -⟩ := hb
          have hm := smS_bd hn
          have hl := libF_sz f (List.mem_of_find?_eq_some hf)
          have hq : f.name = x.name := by have := List.find?_some hf; simpa using this
          have htx : x.text.size = x.text.data.toList.length := rfl
          exact ⟨.inr (.inr h3), hrow, hcol, by omega, by omega, by omega, by omega, by rw [← hq]; exact hl.1, by omega⟩
        · cases hb
      · cases hb
    · rw [boxI_bad h1 h2 h3] at hb; cases hb
theorem lineI_len {x : It} (h : ItB x) : (lineI x).length ≤ 700 := by
  have i64 : ∀ n : Int, 0 ≤ n ∧ n ≤ 400 → (Lib.itoa n).length ≤ 21 := fun n hn => by have := Lib.itoa_length_le n (by omega) (by omega); omega
  have w3 : (wordsX [x.row, x.col, x.scale]).length ≤ 66 := wordsX_len [x.row, x.col, x.scale] (by
    intro y hy; simp only [List.mem_cons, List.not_mem_nil, or_false] at hy
    rcases hy with rfl | rfl | rfl
    · exact i64 _ h.row
    · exact i64 _ h.col
    · exact i64 _ (by have := h.sc; omega))
  have w4 : (wordsX [x.row, x.col, x.tall, x.wide]).length ≤ 88 := wordsX_len [x.row, x.col, x.tall, x.wide] (by
    intro y hy; simp only [List.mem_cons, List.not_mem_nil, or_false] at hy
    rcases hy with rfl | rfl | rfl | rfl
    · exact i64 _ h.row
    · exact i64 _ h.col
    · exact i64 _ h.tall
    · exact i64 _ h.wide)
  have w1 : (wordsX [x.level]).length ≤ 22 := wordsX_len [x.level] (by
    intro y hy; simp only [List.mem_cons, List.not_mem_nil, or_false] at hy
    rcases hy with rfl
    exact i64 _ (by have := h.lev; omega))
  have htx : x.text.data.toList.length ≤ 400 := h.tx
  have hnm : x.name.data.toList.length ≤ 8 := h.nm
  unfold lineI
  split
  · simp only [List.length_append, List.length_cons, List.length_nil]; omega
  · split
    · simp only [List.length_append, List.length_cons, List.length_nil]; omega
    · simp only [List.length_append, List.length_cons, List.length_nil]; omega
/-- the text up to an item -/
def textP (l : Lb) (k : Nat) : List UInt8 := [108, 97, 98, 101, 108] ++ wordsX [l.rows, l.cols] ++ 10 :: (l.items.take k).flatMap fun x => lineI x ++ [10]
theorem textP_full (l : Lb) : textP l l.items.length = textL l := by rw [textP, List.take_length]; rfl
theorem textP_step {l : Lb} {k : Nat} {x : It} (h : l.items[k]? = some x) : textP l (k + 1) = textP l k ++ (lineI x ++ [10]) := by
  simp only [textP, take_snoc' h, List.flatMap_append, List.flatMap_cons, List.flatMap_nil, List.append_nil, List.append_assoc, List.cons_append]
theorem textP_len {l : Lb} (h : ∀ x ∈ l.items, ItB x) (hr : 0 ≤ l.rows ∧ l.rows ≤ 400) (hc : 0 ≤ l.cols ∧ l.cols ≤ 400) (k : Nat) : (textP l k).length ≤ 60 + 701 * k := by
  induction k with
  | zero =>
    have i64 : ∀ n : Int, 0 ≤ n ∧ n ≤ 400 → (Lib.itoa n).length ≤ 21 := fun n hn => by have := Lib.itoa_length_le n (by omega) (by omega); omega
    have w2 : (wordsX [l.rows, l.cols]).length ≤ 44 := wordsX_len [l.rows, l.cols] (by
      intro y hy; simp only [List.mem_cons, List.not_mem_nil, or_false] at hy
      rcases hy with rfl | rfl
      · exact i64 _ hr
      · exact i64 _ hc)
    simp only [textP, List.take_zero, List.flatMap_nil, List.length_append, List.length_cons, List.length_nil]
    omega
  | succ k ih =>
    by_cases hk : k < l.items.length
    · obtain ⟨x, hx⟩ : ∃ x, l.items[k]? = some x := by rw [List.getElem?_eq_getElem hk]; exact ⟨_, rfl⟩
      have := lineI_len (h x (List.mem_of_getElem? hx))
      rw [textP_step hx]
      simp only [List.length_append, List.length_cons, List.length_nil]
      omega
    · have e : textP l (k + 1) = textP l k := by
        unfold textP
        rw [List.take_of_length_le (by omega), List.take_of_length_le (by omega)]
      rw [e]; omega
theorem lb_bd {l : Lb} (h : l.ok = true) : (∀ x ∈ l.items, ItB x) ∧ ((1 ≤ l.rows ∧ l.rows ≤ 400) ∧ (1 ≤ l.cols ∧ l.cols ≤ 400)) ∧ l.items.length ≤ 12 := by
  rw [lbok_parts, Bool.and_eq_true, Bool.and_eq_true, decide_eq_true_eq] at h
  obtain ⟨⟨h1, h2⟩, h3⟩ := h
  rw [sizeB, Bool.and_eq_true, Bool.and_eq_true] at h1
  have e1 := inB_iff.1 h1.1.1
  have e2 := inB_iff.1 h1.1.2
  exact ⟨fun x hx => it_bd (List.all_eq_true.1 h3 x hx) e1.2 e2.2, ⟨e1, e2⟩, h2⟩

end Go.Proofs.YtlcglclojlffgaaGreatDoor
namespace Go.Proofs.YtlcglclojlffgaaGreatDoor
open Go.RowKit

/-- at most k cuts at a byte -/
def cutN (c : UInt8) : Nat → List UInt8 → List (List UInt8)
  | 0, l => [l]
  | k + 1, l => if c ∈ l then l.takeWhile (fun x => x ≠ c) :: cutN c k ((l.dropWhile (fun x => x ≠ c)).drop 1) else [l]
theorem cutN_free {c : UInt8} (k : Nat) {l : List UInt8} (h : c ∉ l) : cutN c k l = [l] := by
  cases k with
  | zero => rfl
  | succ k => rw [cutN, if_neg h]
theorem while_app (c : UInt8) : ∀ (p l : List UInt8), c ∉ p → (p ++ c :: l).takeWhile (fun x => x ≠ c) = p ∧ (p ++ c :: l).dropWhile (fun x => x ≠ c) = c :: l
  | [], l, _ => by simp
  | x :: p, l, h => by
    have hx : x ≠ c := fun e => h (by simp [e])
    have ih := while_app c p l (fun hh => h (by simp [hh]))
    have e : decide (x ≠ c) = true := decide_eq_true hx
    rw [List.cons_append, List.takeWhile_cons, List.dropWhile_cons, e]
    exact ⟨congrArg (x :: ·) ih.1, ih.2⟩
theorem cutN_app (c : UInt8) (k : Nat) (p l : List UInt8) (h : c ∉ p) : cutN c (k + 1) (p ++ c :: l) = p :: cutN c k l := by
  obtain ⟨h1, h2⟩ := while_app c p l h
  rw [cutN, if_pos (by simp), h1, h2]
  rfl
theorem cutN_glue (c : UInt8) : ∀ (ps : List (List UInt8)) (k : Nat), ps ≠ [] → (∀ p ∈ ps, c ∉ p) → ps.length ≤ k + 1 → cutN c k (glue c ps) = ps
  | [], _, h, _, _ => absurd rfl h
  | [p], k, _, hf, _ => cutN_free k (hf p (by simp))
  | p :: q :: r, 0, _, _, hl => by simp at hl
  | p :: q :: r, k + 1, _, hf, hl => by
    rw [glue_cons _ _ _ (by simp), cutN_app c k p _ (hf p (by simp)), cutN_glue c (q :: r) k (by simp) (fun x hx => hf x (by simp [hx])) (by simp at hl ⊢; omega)]

/-- the words of the text of a label -/
def wTxt : List UInt8 := [116, 101, 120, 116]
def wLin : List UInt8 := [108, 105, 110, 101]
def wSym : List UInt8 := [115, 121, 109, 98, 111, 108]
def wLab : List UInt8 := [108, 97, 98, 101, 108]
/-- a line of an item as the program reads it -/
def itemI (l : List UInt8) : Option It :=
  if (cut 32 l).head? = some wTxt then
    match cutN 32 4 l with
    | [_, a, b, c, t] => match rdec a, rdec b, rdec c with | some x, some y, some z => some ⟨1, x, y, z, 0, 0, ⟨#[]⟩, 0, ⟨t.toArray⟩⟩ | _, _, _ => none
    | _ => none
  else if (cut 32 l).head? = some wLin then
    match cutN 32 4 l with
    | [_, a, b, c, d] => match rdec a, rdec b, rdec c, rdec d with | some x, some y, some z, some u => some ⟨2, x, y, 0, z, u, ⟨#[]⟩, 0, ⟨#[]⟩⟩ | _, _, _, _ => none
    | _ => none
  else if (cut 32 l).head? = some wSym then
    match cutN 32 6 l with
    | [_, a, b, c, n, e, t] => match rdec a, rdec b, rdec c, rdec e with | some x, some y, some z, some u => some ⟨3, x, y, z, 0, 0, ⟨n.toArray⟩, u, ⟨t.toArray⟩⟩ | _, _, _, _ => none
    | _ => none
  else none
/-- the items of lines -/
def itemsI : List (List UInt8) → Option (List It)
  | [] => some []
  | l :: r => match itemI l, itemsI r with | some x, some xs => some (x :: xs) | _, _ => none
/-- a label as the program reads it, not yet checked -/
def labI (s : List UInt8) : Option Lb :=
  if 2 ≤ (cutN 10 14 s).length ∧ (cutN 10 14 s).length ≤ 14 ∧ (cutN 10 14 s).getLast? = some [] then
    match cut 32 ((cutN 10 14 s).headD []) with
    | [h, a, b] => if h = wLab then (match rdec a, rdec b, itemsI ((cutN 10 14 s).drop 1).dropLast with | some x, some y, some xs => some ⟨x, y, xs⟩ | _, _, _ => none) else none
    | _ => none
  else none
/-- a label that a text stands for -/
def rdLab (s : List UInt8) : Option Lb := (labI s).filter fun l => l.ok && decide (textL l = s)

/-- the lines of the text of a label -/
def linesL (l : Lb) : List (List UInt8) := (wLab ++ wordsX [l.rows, l.cols]) :: (l.items.map lineI ++ [[]])
theorem glue_map (c : UInt8) (f : It → List UInt8) : ∀ (h : List UInt8) (xs : List It), glue c (h :: (xs.map f ++ [[]])) = h ++ c :: xs.flatMap fun x => f x ++ [c]
  | h, [] => by simp [glue]
  | h, x :: r => by
    rw [List.map_cons, List.cons_append, glue_cons _ _ _ (by simp), glue_map c f (f x) r]
    simp
theorem textL_glue (l : Lb) : textL l = glue 10 (linesL l) := by rw [linesL, glue_map]; rfl
theorem words_no {c : UInt8} (h1 : c ≠ 32) (h2 : c.toNat ≠ 45) (h3 : ¬ (48 ≤ c.toNat ∧ c.toNat ≤ 57)) (xs : List Int) : c ∉ wordsX xs := by
  intro h
  unfold wordsX at h
  rw [List.mem_flatMap] at h
  obtain ⟨n, -, hn⟩ := h
  rcases List.mem_cons.1 hn with rfl | hn
  · exact h1 rfl
  · exact itoa_no n c h2 h3 hn
/-- what the lines of a label's items are made of -/
structure ItT (x : It) : Prop where
  b : ItB x
  one : x.kind = 1 → 10 ∉ x.text.data.toList ∧ x.tall = 0 ∧ x.wide = 0 ∧ x.name = ⟨#[]⟩ ∧ x.level = 0
  two : x.kind = 2 → x.scale = 0 ∧ x.name = ⟨#[]⟩ ∧ x.level = 0 ∧ x.text = ⟨#[]⟩
  three : x.kind = 3 → 10 ∉ x.text.data.toList ∧ x.tall = 0 ∧ x.wide = 0 ∧ 10 ∉ x.name.data.toList ∧ 32 ∉ x.name.data.toList
theorem libF_free : ∀ f ∈ libF, 10 ∉ f.name.data.toList ∧ 32 ∉ f.name.data.toList := by decide
theorem itT_of {l : Lb} {x : It} (h : onL l x = true) (hr : l.rows ≤ 400) (hc : l.cols ≤ 400) : ItT x := by
  refine ⟨it_bd h hr hc, fun hk => ?_, fun hk => ?_, fun hk => ?_⟩
  · cases hb : boxI x with
    | none => rw [onL_none hb] at h; cases h
    | some rc =>
      rw [boxI_text hk] at hb
      split at hb
      · next hh =>
        obtain ⟨hp, hs, -, -, ha⟩ := hh
        have hp := plainI_iff.1 hp
        have hs := scaledI_iff.1 hs
        refine ⟨fun hm => ?_, hs.1.2, hs.2, hp.1, hp.2⟩
        have := List.all_eq_true.1 ha 10 hm
        simp [glyB] at this
      · cases hb
  · cases hb : boxI x with
    | none => rw [onL_none hb] at h; cases h
    | some rc =>
      rw [boxI_line hk] at hb
      split at hb
      · next hh =>
        have hp := plainI_iff.1 hh.1
        exact ⟨hh.2.1, hp.1, hp.2, hh.2.2.1⟩
      · cases hb
  · cases hb : boxI x with
    | none => rw [onL_none hb] at h; cases h
    | some rc =>
      rw [boxI_sym hk] at hb
      split at hb
      · next hh =>
        have hs := scaledI_iff.1 hh.1
        split at hb
        · next f hf =>
          have hl := libF_free f (List.mem_of_find?_eq_some hf)
          have hq : f.name = x.name := by have := List.find?_some hf; simpa using this
          refine ⟨fun hm => ?_, hs.1.2, hs.2, by rw [← hq]; exact hl.1, by rw [← hq]; exact hl.2⟩
          have := hh.2
          rw [List.contains_iff_mem.2 hm] at this
          cases this
        · cases hb
      · cases hb
theorem line_no {x : It} (h : ItT x) : 10 ∉ lineI x := by
  have hw := fun xs => words_no (c := 10) (by decide) (by decide) (by decide) xs
  unfold lineI
  rcases h.b.kind with hk | hk | hk
  · rw [if_pos hk]
    have h1 := (h.one hk).1
    simp only [List.mem_append, List.mem_cons, not_or]
    exact ⟨⟨by decide, hw _⟩, by decide, h1⟩
  · rw [if_neg (by rw [hk]; decide), if_pos hk]
    simp only [List.mem_append, not_or]
    exact ⟨by decide, hw _⟩
  · rw [if_neg (by rw [hk]; decide), if_neg (by rw [hk]; decide)]
    have h1 := h.three hk
    simp only [List.mem_append, List.mem_cons, not_or]
    exact ⟨⟨⟨⟨by decide, hw _⟩, by decide, h1.2.2.2.1⟩, hw _⟩, by decide, h1.1⟩

theorem words3 (a b c : Int) : wordsX [a, b, c] = 32 :: Lib.itoa a ++ (32 :: Lib.itoa b ++ 32 :: Lib.itoa c) := by simp [wordsX]
theorem words4 (a b c d : Int) : wordsX [a, b, c, d] = 32 :: Lib.itoa a ++ (32 :: Lib.itoa b ++ (32 :: Lib.itoa c ++ 32 :: Lib.itoa d)) := by simp [wordsX]
theorem itoa_sp (n : Int) : (32 : UInt8) ∉ Lib.itoa n := itoa_no n 32 (by decide) (by decide)
theorem cut_head (c : UInt8) (p l : List UInt8) (h : c ∉ p) : (cut c (p ++ c :: l)).head? = some p := by rw [cut_app c p l h]; rfl
theorem ba_list (t : ByteArray) : (⟨t.data.toList.toArray⟩ : ByteArray) = t := by simp
/-- the program reads back the line of an item -/
theorem itemI_line {x : It} (h : ItT x) : itemI (lineI x) = some x := by
  obtain ⟨kd, row, col, sc, tall, wide, nm, lev, tx⟩ := x
  have hb := h.b
  obtain ⟨hkd, hrow, hcol, hsc, htall, hwide, hlev, hnm, htx⟩ := hb
  dsimp only at hkd hrow hcol hsc htall hwide hlev hnm htx
  have r1 : rdec (Lib.itoa row) = some row := rdec_itoa hrow.1 (by omega)
  have r2 : rdec (Lib.itoa col) = some col := rdec_itoa hcol.1 (by omega)
  have r3 : rdec (Lib.itoa sc) = some sc := rdec_itoa hsc.1 (by omega)
  have r4 : rdec (Lib.itoa tall) = some tall := rdec_itoa htall.1 (by omega)
  have r5 : rdec (Lib.itoa wide) = some wide := rdec_itoa hwide.1 (by omega)
  have r6 : rdec (Lib.itoa lev) = some lev := rdec_itoa hlev.1 (by omega)
  rcases hkd with rfl | rfl | rfl
  · obtain ⟨-, rfl, rfl, rfl, rfl⟩ := h.one rfl
    have hl : lineI ⟨1, row, col, sc, 0, 0, ⟨#[]⟩, 0, tx⟩ = wTxt ++ 32 :: (Lib.itoa row ++ 32 :: (Lib.itoa col ++ 32 :: (Lib.itoa sc ++ 32 :: tx.data.toList))) := by
      rw [lineI, if_pos rfl, words3]; simp [wTxt]
    rw [hl, itemI, cut_head 32 _ _ (by decide), if_pos rfl, cutN_app 32 3 _ _ (by decide), cutN_app 32 2 _ _ (itoa_sp row), cutN_app 32 1 _ _ (itoa_sp col), cutN_app 32 0 _ _ (itoa_sp sc), cutN]
    simp only [r1, r2, r3, ba_list]
  · obtain ⟨rfl, rfl, rfl, rfl⟩ := h.two rfl
    have hl : lineI ⟨2, row, col, 0, tall, wide, ⟨#[]⟩, 0, ⟨#[]⟩⟩ = wLin ++ 32 :: (Lib.itoa row ++ 32 :: (Lib.itoa col ++ 32 :: (Lib.itoa tall ++ 32 :: Lib.itoa wide))) := by
      rw [lineI, if_neg (show ¬ (2 : Int) = 1 by decide), if_pos rfl, words4]; simp [wLin]
    rw [hl, itemI, cut_head 32 _ _ (by decide), if_neg (by decide), if_pos rfl, cutN_app 32 3 _ _ (by decide), cutN_app 32 2 _ _ (itoa_sp row), cutN_app 32 1 _ _ (itoa_sp col), cutN_app 32 0 _ _ (itoa_sp tall), cutN]
    simp only [r1, r2, r4, r5]
  · obtain ⟨-, rfl, rfl, -, hns⟩ := h.three rfl
    have hl : lineI ⟨3, row, col, sc, 0, 0, nm, lev, tx⟩ = wSym ++ 32 :: (Lib.itoa row ++ 32 :: (Lib.itoa col ++ 32 :: (Lib.itoa sc ++ 32 :: (nm.data.toList ++ 32 :: (Lib.itoa lev ++ 32 :: tx.data.toList))))) := by
      rw [lineI, if_neg (show ¬ (3 : Int) = 1 by decide), if_neg (show ¬ (3 : Int) = 2 by decide), words3]; simp [wSym, wordsX]
    rw [hl, itemI, cut_head 32 _ _ (by decide), if_neg (by decide), if_neg (by decide), if_pos rfl, cutN_app 32 5 _ _ (by decide), cutN_app 32 4 _ _ (itoa_sp row), cutN_app 32 3 _ _ (itoa_sp col), cutN_app 32 2 _ _ (itoa_sp sc), cutN_app 32 1 _ _ hns, cutN_app 32 0 _ _ (itoa_sp lev), cutN]
    simp only [r1, r2, r3, r6, ba_list]
theorem itemsI_lines : ∀ {xs : List It}, (∀ x ∈ xs, ItT x) → itemsI (xs.map lineI) = some xs
  | [], _ => rfl
  | x :: r, h => by
    rw [List.map_cons, itemsI, itemI_line (h x (by simp)), itemsI_lines (xs := r) (fun y hy => h y (by simp [hy]))]
/-- the program reads back the text of a valid label -/
theorem labI_text {l : Lb} (h : l.ok = true) : labI (textL l) = some l := by
  obtain ⟨hib, hrc, h12⟩ := lb_bd h
  have hit : ∀ x ∈ l.items, ItT x := by
    rw [lbok_parts, Bool.and_eq_true, Bool.and_eq_true] at h
    exact fun x hx => itT_of (List.all_eq_true.1 h.2 x hx) hrc.1.2 hrc.2.2
  have hfree : ∀ p ∈ linesL l, (10 : UInt8) ∉ p := by
    intro p hp
    rw [linesL, List.mem_cons, List.mem_append, List.mem_map, List.mem_singleton] at hp
    rcases hp with rfl | ⟨x, hx, rfl⟩ | rfl
    · rw [List.mem_append, not_or]
      exact ⟨by decide, words_no (by decide) (by decide) (by decide) _⟩
    · exact line_no (hit x hx)
    · simp
  have hlen : (linesL l).length = l.items.length + 2 := by simp [linesL]
  have hc : cutN 10 14 (textL l) = linesL l := by rw [textL_glue]; exact cutN_glue 10 _ 14 (by simp [linesL]) hfree (by omega)
  have hhead : cut 32 ((linesL l).headD []) = [wLab, Lib.itoa l.rows, Lib.itoa l.cols] := by
    show cut 32 (wLab ++ wordsX [l.rows, l.cols]) = _
    have e : wLab ++ wordsX [l.rows, l.cols] = wLab ++ 32 :: (Lib.itoa l.rows ++ 32 :: Lib.itoa l.cols) := by simp [wordsX]
    rw [e, cut_app 32 _ _ (by decide), cut_app 32 _ _ (itoa_sp _), cut_piece 32 _ (itoa_sp _)]
  have hmid : ((linesL l).drop 1).dropLast = l.items.map lineI := by simp [linesL]
  have hlast : (linesL l).getLast? = some [] := by simp [linesL, List.getLast?_cons]
  rw [labI, hc, if_pos ⟨by omega, by omega, hlast⟩, hhead]
  simp only [if_true, rdec_itoa (show 0 ≤ l.rows by omega) (by omega), rdec_itoa (show 0 ≤ l.cols by omega) (by omega), hmid, itemsI_lines hit]
theorem rdLab_iff {s : List UInt8} {l : Lb} : rdLab s = some l ↔ l.ok = true ∧ textL l = s := by
  rw [rdLab, Option.filter_eq_some_iff, Bool.and_eq_true, decide_eq_true_eq]
  constructor
  · rintro ⟨-, h1, h2⟩; exact ⟨h1, h2⟩
  · rintro ⟨h1, h2⟩
    refine ⟨?_, h1, h2⟩
    rw [← h2]; exact labI_text h1

end Go.Proofs.YtlcglclojlffgaaGreatDoor
namespace Go.Proofs.YtlcglclojlffgaaGreatDoor
open Go.RowKit

/-- numbers as the reference reads them -/
def valsS : List (List UInt8) → Option (List Int)
  | [] => some []
  | l :: r => match valS l, valsS r with | some x, some xs => some (x :: xs) | _, _ => none
/-- a line of an item as the reference reads it -/
def itemS (l : List UInt8) : Option It :=
  match cutN 32 1 l with
  | [k, r] =>
    if k = wLin then
      match valsS (cut 32 r) with
      | some [a, b, c, d] => some ⟨2, a, b, 0, c, d, ⟨#[]⟩, 0, ⟨#[]⟩⟩
      | _ => none
    else if k = wSym then
      match cutN 32 5 r with
      | [a, b, c, n, e, t] => match valsS [a, b, c], valS e with | some [x, y, z], some u => some ⟨3, x, y, z, 0, 0, ⟨n.toArray⟩, u, ⟨t.toArray⟩⟩ | _, _ => none
      | _ => none
    else if k = wTxt then
      match cutN 32 3 r with
      | [a, b, c, t] => match valsS [a, b, c] with | some [x, y, z] => some ⟨1, x, y, z, 0, 0, ⟨#[]⟩, 0, ⟨t.toArray⟩⟩ | _ => none
      | _ => none
    else none
  | _ => none
def itemsS : List (List UInt8) → Option (List It)
  | [] => some []
  | l :: r => match itemS l, itemsS r with | some x, some xs => some (x :: xs) | _, _ => none
/-- a label as the reference reads it, not yet checked -/
def labS (s : List UInt8) : Option Lb :=
  if 2 ≤ (cut 10 s).length ∧ (cut 10 s).length ≤ 14 then
    match valsS ((cut 32 ((cut 10 s).headD [])).drop 1) with
    | some [x, y] => match itemsS ((cut 10 s).drop 1).dropLast with | some xs => some ⟨x, y, xs⟩ | none => none
    | _ => none
  else none
def rdLabS (s : List UInt8) : Option Lb := (labS s).filter fun l => l.ok && decide (textL l = s)
theorem valS_itoa {n : Int} (h0 : 0 ≤ n) (h1 : n < 1000000000000) : valS (Lib.itoa n) = some n := by
  obtain ⟨u, rfl⟩ := Int.eq_ofNat_of_zero_le h0
  have h2 := valS_dec u (by omega)
  rw [show Lib.itoa (u : Int) = Lib.decDigits u by rw [Lib.itoa, if_neg (by omega)]; rfl]
  exact h2
/-- the reference reads back the line of an item -/
theorem itemS_line {x : It} (h : ItT x) : itemS (lineI x) = some x := by
  obtain ⟨kd, row, col, sc, tall, wide, nm, lev, tx⟩ := x
  have hb := h.b
  obtain ⟨hkd, hrow, hcol, hsc, htall, hwide, hlev, hnm, htx⟩ := hb
  dsimp only at hkd hrow hcol hsc htall hwide hlev hnm htx
  have r1 : valS (Lib.itoa row) = some row := valS_itoa hrow.1 (by omega)
  have r2 : valS (Lib.itoa col) = some col := valS_itoa hcol.1 (by omega)
  have r3 : valS (Lib.itoa sc) = some sc := valS_itoa hsc.1 (by omega)
  have r4 : valS (Lib.itoa tall) = some tall := valS_itoa htall.1 (by omega)
  have r5 : valS (Lib.itoa wide) = some wide := valS_itoa hwide.1 (by omega)
  have r6 : valS (Lib.itoa lev) = some lev := valS_itoa hlev.1 (by omega)
  rcases hkd with rfl | rfl | rfl
  · obtain ⟨-, rfl, rfl, rfl, rfl⟩ := h.one rfl
    have hl : lineI ⟨1, row, col, sc, 0, 0, ⟨#[]⟩, 0, tx⟩ = wTxt ++ 32 :: (Lib.itoa row ++ 32 :: (Lib.itoa col ++ 32 :: (Lib.itoa sc ++ 32 :: tx.data.toList))) := by
      rw [lineI, if_pos rfl, words3]; simp [wTxt]
    rw [hl, itemS, cutN_app 32 0 _ _ (by decide), cutN]
    simp only [show ¬ wTxt = wLin by decide, show ¬ wTxt = wSym by decide, if_false, if_true]
    rw [cutN_app 32 2 _ _ (itoa_sp row), cutN_app 32 1 _ _ (itoa_sp col), cutN_app 32 0 _ _ (itoa_sp sc), cutN]
    simp only [valsS, r1, r2, r3, ba_list]
  · obtain ⟨rfl, rfl, rfl, rfl⟩ := h.two rfl
    have hl : lineI ⟨2, row, col, 0, tall, wide, ⟨#[]⟩, 0, ⟨#[]⟩⟩ = wLin ++ 32 :: (Lib.itoa row ++ 32 :: (Lib.itoa col ++ 32 :: (Lib.itoa tall ++ 32 :: Lib.itoa wide))) := by
      rw [lineI, if_neg (show ¬ (2 : Int) = 1 by decide), if_pos rfl, words4]; simp [wLin]
    rw [hl, itemS, cutN_app 32 0 _ _ (by decide), cutN]
    simp only [if_true]
    rw [cut_app 32 _ _ (itoa_sp row), cut_app 32 _ _ (itoa_sp col), cut_app 32 _ _ (itoa_sp tall), cut_piece 32 _ (itoa_sp wide)]
    simp only [valsS, r1, r2, r4, r5]
  · obtain ⟨-, rfl, rfl, -, hns⟩ := h.three rfl
    have hl : lineI ⟨3, row, col, sc, 0, 0, nm, lev, tx⟩ = wSym ++ 32 :: (Lib.itoa row ++ 32 :: (Lib.itoa col ++ 32 :: (Lib.itoa sc ++ 32 :: (nm.data.toList ++ 32 :: (Lib.itoa lev ++ 32 :: tx.data.toList))))) := by
      rw [lineI, if_neg (show ¬ (3 : Int) = 1 by decide), if_neg (show ¬ (3 : Int) = 2 by decide), words3]; simp [wSym, wordsX]
    rw [hl, itemS, cutN_app 32 0 _ _ (by decide), cutN]
    simp only [show ¬ wSym = wLin by decide, if_false, if_true]
    rw [cutN_app 32 4 _ _ (itoa_sp row), cutN_app 32 3 _ _ (itoa_sp col), cutN_app 32 2 _ _ (itoa_sp sc), cutN_app 32 1 _ _ hns, cutN_app 32 0 _ _ (itoa_sp lev), cutN]
    simp only [valsS, r1, r2, r3, r6, ba_list]
theorem itemsS_lines : ∀ {xs : List It}, (∀ x ∈ xs, ItT x) → itemsS (xs.map lineI) = some xs
  | [], _ => rfl
  | x :: r, h => by
    rw [List.map_cons, itemsS, itemS_line (h x (by simp)), itemsS_lines (xs := r) (fun y hy => h y (by simp [hy]))]
theorem labS_text {l : Lb} (h : l.ok = true) : labS (textL l) = some l := by
  obtain ⟨hib, hrc, h12⟩ := lb_bd h
  have hit : ∀ x ∈ l.items, ItT x := by
    rw [lbok_parts, Bool.and_eq_true, Bool.and_eq_true] at h
    exact fun x hx => itT_of (List.all_eq_true.1 h.2 x hx) hrc.1.2 hrc.2.2
  have hfree : ∀ p ∈ linesL l, (10 : UInt8) ∉ p := by
    intro p hp
    rw [linesL, List.mem_cons, List.mem_append, List.mem_map, List.mem_singleton] at hp
    rcases hp with rfl | ⟨x, hx, rfl⟩ | rfl
    · rw [List.mem_append, not_or]
      exact ⟨by decide, words_no (by decide) (by decide) (by decide) _⟩
    · exact line_no (hit x hx)
    · simp
  have hlen : (linesL l).length = l.items.length + 2 := by simp [linesL]
  have hc : cut 10 (textL l) = linesL l := by rw [textL_glue]; exact cut_glue 10 _ (by simp [linesL]) hfree
  have hhead : (cut 32 ((linesL l).headD [])).drop 1 = [Lib.itoa l.rows, Lib.itoa l.cols] := by
    show (cut 32 (wLab ++ wordsX [l.rows, l.cols])).drop 1 = _
    have e : wLab ++ wordsX [l.rows, l.cols] = wLab ++ 32 :: (Lib.itoa l.rows ++ 32 :: Lib.itoa l.cols) := by simp [wordsX]
    rw [e, cut_app 32 _ _ (by decide), cut_app 32 _ _ (itoa_sp _), cut_piece 32 _ (itoa_sp _)]
    rfl
  have hmid : ((linesL l).drop 1).dropLast = l.items.map lineI := by simp [linesL]
  rw [labS, hc, if_pos ⟨by omega, by omega⟩, hhead]
  simp only [valsS, valS_itoa (show 0 ≤ l.rows by omega) (by omega), valS_itoa (show 0 ≤ l.cols by omega) (by omega), hmid, itemsS_lines hit]
theorem rdLabS_iff {s : List UInt8} {l : Lb} : rdLabS s = some l ↔ l.ok = true ∧ textL l = s := by
  rw [rdLabS, Option.filter_eq_some_iff, Bool.and_eq_true, decide_eq_true_eq]
  constructor
  · rintro ⟨-, h1, h2⟩; exact ⟨h1, h2⟩
  · rintro ⟨h1, h2⟩
    refine ⟨?_, h1, h2⟩
    rw [← h2]; exact labS_text h1
/-- both readers answer alike -/
theorem rdLabS_eq (s : List UInt8) : rdLabS s = rdLab s := by
  apply Option.ext
  intro l
  rw [rdLabS_iff, rdLab_iff]

end Go.Proofs.YtlcglclojlffgaaGreatDoor
namespace Go.Proofs.YtlcglclojlffgaaGreatDoor
open Go.RowKit Go.Maps

/-- how many pieces the line of an item has, by its word -/
def cntW (s : List UInt8) : Int := if s = wSym then 7 else if s = wLin then 5 else if s = wTxt then 5 else 0
theorem keyedS : Keyed Tryz.prog 9 := string_keyed Tryz.underlying9
theorem keyS {s : ByteArray} (hs : s.size ≤ maxLen) : keyOf Tryz.prog 9 (.string s) = some (.string s.data.toList) := Go.WideMaps.keyOf_string_mk Tryz.underlying9 hs
theorem zeroI (w : World) : (zeroValue 3).run Tryz.prog w = .ok (.int .i64 0) w := by kernel_rfl
theorem elI {n : Int} (h : (Lit.int .i64 n).wf = true) : plainElem (H := Unit) Tryz.prog 3 (.int .i64 n) = some (.lit (.int .i64 n), []) := plainElem_int Tryz.underlying3 h
/-- the map of the words and their counts, made and asked -/
theorem words_map (w : World) : ∃ w1 w2 w3,
    (Instr.mapUpdate 99 (.map (some w.heap.size)) (.string ⟨#[116, 101, 120, 116]⟩) (.int .i64 5)).run Tryz.prog (w.alloc (.map #[] 0)) = .ok () w1 ∧
    (Instr.mapUpdate 99 (.map (some w.heap.size)) (.string ⟨#[108, 105, 110, 101]⟩) (.int .i64 5)).run Tryz.prog w1 = .ok () w2 ∧
    (Instr.mapUpdate 99 (.map (some w.heap.size)) (.string ⟨#[115, 121, 109, 98, 111, 108]⟩) (.int .i64 7)).run Tryz.prog w2 = .ok () w3 ∧
    Below w.heap.size w w3 ∧ ∀ wx, Below w3.heap.size w3 wx → ∀ s : ByteArray, s.size ≤ maxLen → (Instr.lookup 99 (.map (some w.heap.size)) (.string s) false).run Tryz.prog wx = .ok (.int .i64 (cntW s.data.toList)) wx := by
  have h0 := World.ownsMap_made w Tryz.prog 9 (plainElem (H := Unit) Tryz.prog 3)
  obtain ⟨w1, r1, o1, g1⟩ := h0.update keyedS Tryz.underlying99 (by unfold maxLen; omega) (keyS (s := ⟨#[116, 101, 120, 116]⟩) (by decide)) (elI (n := 5) (by decide))
  obtain ⟨w2, r2, o2, g2⟩ := o1.update keyedS Tryz.underlying99 (by unfold maxLen; omega) (keyS (s := ⟨#[108, 105, 110, 101]⟩) (by decide)) (elI (n := 5) (by decide))
  obtain ⟨w3, r3, o3, g3⟩ := o2.update keyedS Tryz.underlying99 (by unfold maxLen; omega) (keyS (s := ⟨#[115, 121, 109, 98, 111, 108]⟩) (by decide)) (elI (n := 7) (by decide))
  have hb : ∀ k, some w.heap.size = some k → w.heap.size ≤ k := fun k h => by cases h; exact Nat.le_refl _
  have z0 : (w.alloc (.map #[] 0)).heap.size = w.heap.size + 1 := by simp
  have b1 := below_of_grownBy g1 (show w.heap.size ≤ (w.alloc (.map #[] 0)).heap.size by omega) hb
  have b2 := below_of_grownBy g2 (by have := b1.size; omega) hb
  have b3 := below_of_grownBy g3 (by have := b2.size; have := b1.size; omega) hb
  refine ⟨w1, w2, w3, r1, r2, r3, (((ba1 w _).trans b1).trans b2).trans b3, fun wx hx s hs => ?_⟩
  have o4 := o3.kept (w' := wx) (row := none) ⟨hx.os, hx.tape, hx.output, hx.size, fun k hk _ => hx.block k hk⟩ (by simp)
  obtain ⟨c, hrun, hat, -⟩ := o4.lookup_int keyedS Tryz.underlying99 Tryz.underlying3 (zeroI wx) (keyS hs)
  have hm0 : IsMap (.map [] : DataW Unit) := isMap_empty
  have e : c = cntW s.data.toList := by
    have key : ∀ u : List UInt8, Lit.string s.data.toList = Lit.string u ↔ s.data.toList = u := fun u => ⟨fun h => by injection h, fun h => by rw [h]⟩
    unfold cntW
    by_cases h1 : s.data.toList = wSym
    · rw [if_pos h1]
      rw [h1] at hat
      rw [show (⟨#[115, 121, 109, 98, 111, 108]⟩ : ByteArray).data.toList = wSym from rfl, atKey_put_same ((hm0.put _ _).put _ _) (show WideAt.IsKeyLit (.string _) from trivial)] at hat
      simp at hat
      exact hat.symm
    · rw [if_neg h1]
      rw [atKey_put_other (by rw [ne_eq, key]; exact h1)] at hat
      by_cases h2 : s.data.toList = wLin
      · rw [if_pos h2]
        rw [h2] at hat
        rw [show (⟨#[108, 105, 110, 101]⟩ : ByteArray).data.toList = wLin from rfl, atKey_put_same (hm0.put _ _) (show WideAt.IsKeyLit (.string _) from trivial)] at hat
        simp at hat
        exact hat.symm
      · rw [if_neg h2]
        rw [atKey_put_other (by rw [ne_eq, key]; exact h2)] at hat
        by_cases h3 : s.data.toList = wTxt
        · rw [if_pos h3]
          rw [h3] at hat
          rw [show (⟨#[116, 101, 120, 116]⟩ : ByteArray).data.toList = wTxt from rfl, atKey_put_same hm0 (show WideAt.IsKeyLit (.string _) from trivial)] at hat
          simp at hat
          exact hat.symm
        · rw [if_neg h3]
          rw [atKey_put_other (by rw [ne_eq, key]; exact h3)] at hat
          have h9 : (DataW.map [] : DataW Unit).atKey (.string s.data.toList) (.lit (.int .i64 0)) = .lit (.int .i64 0) := rfl
          rw [h9] at hat
          simp at hat
          exact hat.symm
  rw [hrun, e]

end Go.Proofs.YtlcglclojlffgaaGreatDoor
namespace Go.Proofs.YtlcglclojlffgaaGreatDoor
open Go.RowKit

/-- a reader over a list: all or none -/
def allO {α β : Type} (f : β → Option α) : List β → Option (List α)
  | [] => some []
  | l :: r => match f l, allO f r with | some x, some xs => some (x :: xs) | _, _ => none
section
variable {α β : Type} {f : β → Option α}
theorem allO_cons_some {x : β} {y : α} {l : List β} {ys : List α} (h : f x = some y) (hl : allO f l = some ys) : allO f (x :: l) = some (y :: ys) := by rw [allO, h, hl]
theorem allO_cons_none {x : β} {l : List β} (h : f x = none) : allO f (x :: l) = none := by rw [allO, h]
theorem allO_cons_tail {x : β} {l : List β} (h : allO f l = none) : allO f (x :: l) = none := by rw [allO, h]; cases f x <;> rfl
theorem allO_snoc : ∀ {l : List β} {ys : List α} {x : β} {y : α}, allO f l = some ys → f x = some y → allO f (l ++ [x]) = some (ys ++ [y])
  | [], ys, x, y, h, hx => by
    rw [allO] at h
    obtain rfl := Option.some.inj h
    exact allO_cons_some hx rfl
  | a :: l, ys, x, y, h, hx => by
    rw [allO] at h
    split at h
    · next b bs hb hbs =>
      obtain rfl := Option.some.inj h
      exact allO_cons_some hb (allO_snoc hbs hx)
    · cases h
theorem allO_bad : ∀ {l : List β} {x : β}, x ∈ l → f x = none → allO f l = none
  | a :: l, x, hm, hx => by
    rcases List.mem_cons.1 hm with rfl | hm
    · exact allO_cons_none hx
    · exact allO_cons_tail (allO_bad hm hx)
theorem allO_take {l : List β} {k : Nat} {x : β} {ys : List α} {y : α} (hx : l[k]? = some x) (h : allO f (l.take k) = some ys) (hy : f x = some y) : allO f (l.take (k + 1)) = some (ys ++ [y]) := by
  rw [List.take_add_one, hx]; exact allO_snoc h hy
theorem allO_len : ∀ {l : List β} {ys : List α}, allO f l = some ys → ys.length = l.length
  | [], ys, h => by rw [allO] at h; obtain rfl := Option.some.inj h; rfl
  | a :: l, ys, h => by
    rw [allO] at h
    split at h
    · next b bs hb hbs =>
      obtain rfl := Option.some.inj h
      rw [List.length_cons, List.length_cons, allO_len hbs]
    · cases h
theorem allO_mem : ∀ {l : List β} {ys : List α} {y : α}, allO f l = some ys → y ∈ ys → ∃ x ∈ l, f x = some y
  | [], ys, y, h, hm => by rw [allO] at h; obtain rfl := Option.some.inj h; cases hm
  | a :: l, ys, y, h, hm => by
    rw [allO] at h
    split at h
    · next b bs hb hbs =>
      obtain rfl := Option.some.inj h
      rcases List.mem_cons.1 hm with rfl | hm
      · exact ⟨a, by simp, hb⟩
      · obtain ⟨x, hx, he⟩ := allO_mem hbs hm
        exact ⟨x, by simp [hx], he⟩
    · cases h
end
theorem itemsI_all : ∀ l, itemsI l = allO itemI l
  | [] => rfl
  | x :: l => by rw [itemsI, allO, itemsI_all l]; cases itemI x <;> cases allO itemI l <;> rfl
theorem itemsS_all : ∀ l, itemsS l = allO itemS l
  | [] => rfl
  | x :: l => by rw [itemsS, allO, itemsS_all l]; cases itemS x <;> cases allO itemS l <;> rfl
theorem valsS_all : ∀ l, valsS l = allO valS l
  | [] => rfl
  | x :: l => by rw [valsS, allO, valsS_all l]; cases valS x <;> cases allO valS l <;> rfl

/-- the pieces of a cut are no longer than the text -/
theorem cutN_len (c : UInt8) : ∀ (k : Nat) (l : List UInt8), (cutN c k l).length ≤ k + 1 ∧ 1 ≤ (cutN c k l).length ∧ ∀ p ∈ cutN c k l, p.length ≤ l.length
  | 0, l => by simp [cutN]
  | k + 1, l => by
    rw [cutN]
    split
    · obtain ⟨h1, h2, h3⟩ := cutN_len c k ((l.dropWhile (fun x => x ≠ c)).drop 1)
      refine ⟨by rw [List.length_cons]; omega, by simp, ?_⟩
      have e := List.takeWhile_append_dropWhile (p := fun x => decide (x ≠ c)) (l := l)
      have el := congrArg List.length e
      rw [List.length_append] at el
      intro p hp
      rcases List.mem_cons.1 hp with rfl | hp
      · omega
      · have := h3 p hp
        rw [List.length_drop] at this
        omega
    · simp

/-- what the program reads of a line, by its word -/
theorem itemI_word {l w : List UInt8} (hw : (cut 32 l).head? = some w) (h : cntW w = 0) : itemI l = none := by
  unfold cntW at h
  rw [itemI, hw]
  split at h
  · cases h
  · next h1 =>
    split at h
    · cases h
    · next h2 =>
      split at h
      · cases h
      · next h3 =>
        rw [if_neg (fun e => h3 (Option.some.inj e)), if_neg (fun e => h2 (Option.some.inj e)), if_neg (fun e => h1 (Option.some.inj e))]
theorem dec3_some {a b c : List UInt8} {x y z : Int} (h : allO rdec [a, b, c] = some [x, y, z]) : rdec a = some x ∧ rdec b = some y ∧ rdec c = some z := by
  simp only [allO] at h
  cases ha : rdec a <;> cases hb : rdec b <;> cases hc : rdec c <;> simp_all
theorem dec3_none {a b c : List UInt8} (h : allO rdec [a, b, c] = none) : rdec a = none ∨ rdec b = none ∨ rdec c = none := by
  simp only [allO] at h
  cases ha : rdec a <;> cases hb : rdec b <;> cases hc : rdec c <;> simp_all
theorem itemI_txt {l p a b c t : List UInt8} {x y z : Int} (hw : (cut 32 l).head? = some wTxt) (hp : cutN 32 4 l = [p, a, b, c, t]) (hd : allO rdec [a, b, c] = some [x, y, z]) :
    itemI l = some ⟨1, x, y, z, 0, 0, ⟨#[]⟩, 0, ⟨t.toArray⟩⟩ := by
  obtain ⟨h1, h2, h3⟩ := dec3_some hd
  rw [itemI, hw, if_pos rfl, hp]
  simp only [h1, h2, h3]
theorem itemI_lin {l p a b c t : List UInt8} {x y z u : Int} (hw : (cut 32 l).head? = some wLin) (hp : cutN 32 4 l = [p, a, b, c, t]) (hd : allO rdec [a, b, c] = some [x, y, z]) (hu : rdec t = some u) :
    itemI l = some ⟨2, x, y, 0, z, u, ⟨#[]⟩, 0, ⟨#[]⟩⟩ := by
  obtain ⟨h1, h2, h3⟩ := dec3_some hd
  rw [itemI, hw, if_neg (by decide), if_pos rfl, hp]
  simp only [h1, h2, h3, hu]
theorem itemI_lin_no {l p a b c t : List UInt8} (hw : (cut 32 l).head? = some wLin) (hp : cutN 32 4 l = [p, a, b, c, t]) (hu : rdec t = none) : itemI l = none := by
  rw [itemI, hw, if_neg (by decide), if_pos rfl, hp]
  simp only [hu]
  generalize rdec a = A
  generalize rdec b = B
  generalize rdec c = C
  cases A <;> cases B <;> cases C <;> rfl
theorem itemI_sym {l p a b c n e t : List UInt8} {x y z u : Int} (hw : (cut 32 l).head? = some wSym) (hp : cutN 32 6 l = [p, a, b, c, n, e, t]) (hd : allO rdec [a, b, c] = some [x, y, z]) (hu : rdec e = some u) :
    itemI l = some ⟨3, x, y, z, 0, 0, ⟨n.toArray⟩, u, ⟨t.toArray⟩⟩ := by
  obtain ⟨h1, h2, h3⟩ := dec3_some hd
  rw [itemI, hw, if_neg (by decide), if_neg (by decide), if_pos rfl, hp]
  simp only [h1, h2, h3, hu]
theorem itemI_sym_no {l p a b c n e t : List UInt8} (hw : (cut 32 l).head? = some wSym) (hp : cutN 32 6 l = [p, a, b, c, n, e, t]) (hu : rdec e = none) : itemI l = none := by
  rw [itemI, hw, if_neg (by decide), if_neg (by decide), if_pos rfl, hp]
  simp only [hu]
  generalize rdec a = A
  generalize rdec b = B
  generalize rdec c = C
  cases A <;> cases B <;> cases C <;> rfl
theorem cntW_pos {w : List UInt8} {n : Nat} (h : cntW w = (n : Int)) (h0 : n ≠ 0) : (n = 5 ∧ (w = wTxt ∨ w = wLin)) ∨ (n = 7 ∧ w = wSym) := by
  unfold cntW at h
  split at h
  · next h1 => exact .inr ⟨by omega, h1⟩
  · split at h
    · next h2 => exact .inl ⟨by omega, .inr h2⟩
    · split at h
      · next h3 => exact .inl ⟨by omega, .inl h3⟩
      · omega
theorem itemI_len {l w : List UInt8} {n : Nat} (hw : (cut 32 l).head? = some w) (h : cntW w = (n : Int)) (h0 : n ≠ 0) (hl : (cutN 32 (n - 1) l).length ≠ n) : itemI l = none := by
  rcases cntW_pos h h0 with ⟨rfl, rfl | rfl⟩ | ⟨rfl, rfl⟩
  · rw [itemI, hw, if_pos rfl]
    split
    · next he => rw [he] at hl; exact absurd rfl hl
    · rfl
  · rw [itemI, hw, if_neg (by decide), if_pos rfl]
    split
    · next he => rw [he] at hl; exact absurd rfl hl
    · rfl
  · rw [itemI, hw, if_neg (by decide), if_neg (by decide), if_pos rfl]
    split
    · next he => rw [he] at hl; exact absurd rfl hl
    · rfl
theorem itemI_num {l w p a b c : List UInt8} {n : Nat} {r : List (List UInt8)} (hw : (cut 32 l).head? = some w) (h : cntW w = (n : Int)) (h0 : n ≠ 0) (hp : cutN 32 (n - 1) l = p :: a :: b :: c :: r) (hd : allO rdec [a, b, c] = none) : itemI l = none := by
  rcases cntW_pos h h0 with ⟨rfl, rfl | rfl⟩ | ⟨rfl, rfl⟩
  · rw [itemI, hw, if_pos rfl]
    split
    · next he =>
      rw [show 4 = 5 - 1 from rfl, hp] at he
      injection he with e1 he
      injection he with e2 he
      injection he with e3 he
      injection he with e4 he
      subst e2; subst e3; subst e4
      have h3 := dec3_none hd
      generalize rdec a = A at h3 ⊢
      generalize rdec b = B at h3 ⊢
      generalize rdec c = C at h3 ⊢
      cases A <;> cases B <;> cases C <;> first | rfl | simp_all
    · rfl
  · rw [itemI, hw, if_neg (by decide), if_pos rfl]
    split
    · next he =>
      rw [show 4 = 5 - 1 from rfl, hp] at he
      injection he with e1 he
      injection he with e2 he
      injection he with e3 he
      injection he with e4 he
      subst e2; subst e3; subst e4
      have h3 := dec3_none hd
      generalize rdec a = A at h3 ⊢
      generalize rdec b = B at h3 ⊢
      generalize rdec c = C at h3 ⊢
      cases A <;> cases B <;> cases C <;> first | rfl | simp_all
    · rfl
  · rw [itemI, hw, if_neg (by decide), if_neg (by decide), if_pos rfl]
    split
    · next he =>
      rw [show 6 = 7 - 1 from rfl, hp] at he
      injection he with e1 he
      injection he with e2 he
      injection he with e3 he
      injection he with e4 he
      subst e2; subst e3; subst e4
      have h3 := dec3_none hd
      generalize rdec a = A at h3 ⊢
      generalize rdec b = B at h3 ⊢
      generalize rdec c = C at h3 ⊢
      cases A <;> cases B <;> cases C <;> first | rfl | simp_all
    · rfl
theorem itemI_bad {l w : List UInt8} {n k : Nat} {ps : List (List UInt8)} {x : List UInt8} (hw : (cut 32 l).head? = some w) (h : cntW w = (n : Int)) (h0 : n ≠ 0) (hp : ps = cutN 32 (n - 1) l) (hl : ps.length = n) (hk : k < 3) (hx : ps[k + 1]? = some x) (hn : rdec x = none) : itemI l = none := by
  have h5 : 5 ≤ n := by rcases cntW_pos h h0 with ⟨rfl, -⟩ | ⟨rfl, -⟩ <;> omega
  obtain ⟨p, a, b, c, r, rfl⟩ : ∃ p a b c r, ps = p :: a :: b :: c :: r := by
    match ps, hl with
    | p :: a :: b :: c :: r, _ => exact ⟨p, a, b, c, r, rfl⟩
    | [], hl => simp at hl; omega
    | [_], hl => simp at hl; omega
    | [_, _], hl => simp at hl; omega
    | [_, _, _], hl => simp at hl; omega
  refine itemI_num hw h h0 hp.symm (allO_bad (x := x) ?_ hn)
  have hk3 : k = 0 ∨ k = 1 ∨ k = 2 := by omega
  rcases hk3 with rfl | rfl | rfl
  · simp at hx; simp [hx]
  · simp at hx; simp [hx]
  · simp at hx; simp [hx]
/-- the texts of an item that is read are pieces of its line -/
theorem itemI_sz {l : List UInt8} {x : It} (h : itemI l = some x) : x.text.size ≤ l.length ∧ x.name.size ≤ l.length := by
  have hs : ∀ t : List UInt8, (⟨t.toArray⟩ : ByteArray).size = t.length := fun t => by show t.toArray.size = _; simp
  have h0 : (⟨#[]⟩ : ByteArray).size = 0 := rfl
  rw [itemI] at h
  split at h
  · split at h
    · next he =>
      have hl := (cutN_len 32 4 l).2.2
      split at h
      · obtain rfl := Option.some.inj h
        dsimp only
        rw [hs, h0]
        exact ⟨hl _ (by rw [he]; simp), Nat.zero_le _⟩
      · cases h
    · cases h
  · split at h
    · split at h
      · split at h
        · obtain rfl := Option.some.inj h
          dsimp only
          rw [h0]
          exact ⟨Nat.zero_le _, Nat.zero_le _⟩
        · cases h
      · cases h
    · split at h
      · split at h
        · next he =>
          have hl := (cutN_len 32 6 l).2.2
          split at h
          · obtain rfl := Option.some.inj h
            dsimp only
            rw [hs, hs]
            exact ⟨hl _ (by rw [he]; simp), hl _ (by rw [he]; simp)⟩
          · cases h
        · cases h
      · cases h

end Go.Proofs.YtlcglclojlffgaaGreatDoor
namespace Go.Proofs.YtlcglclojlffgaaGreatDoor
open Go.RowKit

/-- words cut off a line, and the rest -/
def RetCut (w : World) (k : Nat) (l : List UInt8) (e : Ending) (w' : World) : Prop :=
  Below w.heap.size w w' ∧ ((∃ (ss : List ByteArray) (r : ByteArray) (a : Option Addr) (c : Nat), cutN 32 k l = bytesL ss ++ [r.data.toList] ∧ ss.length = k ∧ e = .returned (.tuple #[.slice a ss.length c, .string r, .bool true]) ∧ OwnS w' w.heap.size (.slice a ss.length c) ss) ∨
   ((cutN 32 k l).length ≠ k + 1 ∧ e = .returned (.tuple #[.slice none 0 0, .string ⟨#[]⟩, .bool false])))
/-- while words are cut off -/
structure CutI (l : List UInt8) (k j : Nat) (ss : List ByteArray) (V : ByteArray) : Prop where
  jk : j ≤ k
  num : ss.length = j
  eq : cutN 32 k l = bytesL ss ++ cutN 32 (k - j) V.data.toList
theorem cutI_start (s : ByteArray) (k : Nat) : CutI s.data.toList k 0 [] s := ⟨Nat.zero_le _, rfl, rfl⟩
theorem cutI_end {l : List UInt8} {k j : Nat} {ss : List ByteArray} {V : ByteArray} (h : CutI l k j ss V) (hj : j = k) : cutN 32 k l = bytesL ss ++ [V.data.toList] := by
  have e := h.eq
  rw [hj, Nat.sub_self, cutN] at e
  exact e
theorem cutI_short {l : List UInt8} {k j : Nat} {ss : List ByteArray} {V : ByteArray} (h : CutI l k j ss V) (hj : j < k) (hn : 32 ∉ V.data.toList) : (cutN 32 k l).length ≠ k + 1 := by
  rw [h.eq, cutN_free _ hn, List.length_append, bytesL, List.length_map, h.num]
  simp; omega
theorem cutI_step {l : List UInt8} {k j i : Nat} {ss : List ByteArray} {V : ByteArray} (h : CutI l k j ss V) (hj : j < k) (hn : 32 ∉ V.data.toList.take i) (hx : V.data.toList[i]? = some 32) : CutI l k (j + 1) (ss ++ [V.extract 0 i]) (V.extract (i + 1) V.size) := by
  have hi : i < V.data.toList.length := (List.getElem?_eq_some_iff.1 hx).1
  have hs : V.data.toList.length = V.size := rfl
  refine ⟨hj, by rw [List.length_append, h.num]; rfl, ?_⟩
  have e : V.data.toList = V.data.toList.take i ++ 32 :: V.data.toList.drop (i + 1) := by
    have e := (List.take_append_drop i V.data.toList).symm
    rw [List.drop_eq_getElem_cons hi] at e
    have hxi : V.data.toList[i] = 32 := (List.getElem?_eq_some_iff.1 hx).2
    rw [hxi] at e
    exact e
  rw [h.eq, bytesL_snoc, extract_toList, extract_toList, List.drop_zero, Nat.sub_zero, List.take_of_length_le (l := V.data.toList.drop (i + 1)) (by rw [List.length_drop]; omega)]
  conv => lhs; rw [e, show k - j = (k - (j + 1)) + 1 by omega, cutN_app 32 _ _ _ hn]
  simp

set_option maxRecDepth 100000 in
set_option maxHeartbeats 4000000 in
theorem l29Cut_any (s : ByteArray) (k : Nat) (w : World) (hs : s.size ≤ 1048576) (hk : k ≤ 100) :
    Calls Tryz.prog 61 #[.string s, .int .i64 (k : Int)] w (RetCut w k s.data.toList) := by
  obtain ⟨i0, hi, y0, y1, y2⟩ := info_parts infoStr
  go_enter Tryz.func61, Tryz.ntmps61
  go_wp2_with fail
  go_loopw [0, 1, 7, 8] (fun V n v _ wr => ∃ (j m : Nat) (ss : List ByteArray) (L : ByteArray), V = .string L ∧ n = .int .i64 (m : Int) ∧ j + m = k ∧ CutI s.data.toList k j ss L ∧ L.size ≤ 1048576 ∧ OwnS wr w.heap.size v ss ∧ Below w.heap.size w wr) (fun _ n _ _ _ => (intOf n).toNat)
  case atStart => exact ⟨0, k, [], s, rfl, rfl, by omega, cutI_start s k, hs, OwnS.new w, ba1 _ _⟩
  case round =>
    obtain ⟨j, m, ss, V, rfl, rfl, hjm, hci, hV, ho, hb⟩ := hrel
    obtain ⟨a, cp, rfl, -⟩ := ho.read
    have HCI := Lib.hid hci
    have HO := Lib.hid ho
    have HB := Lib.hid hb
    have HBS := Lib.hid hb.size
    have HNM := Lib.hid (show ss.length ≤ 100 by rw [hci.num]; omega)
    clear hci ho hb
    by_cases hm : 0 < m
    · have hmi : (0 : Int) < (m : Int) := by omega
      go_wp2_with fail
      go_loop [8] (fun i => ∃ q : Nat, q ≤ V.size ∧ i = .int .i64 (q : Int) ∧ 32 ∉ V.data.toList.take q) (fun i => V.size - (intOf i).toNat)
      case atStart => exact ⟨0, Nat.zero_le _, rfl, by simp⟩
      case round =>
        obtain ⟨q, hq, rfl, hfree⟩ := hrel
        have HFR := Lib.hid hfree
        clear hfree
        have hsz : V.data.toList.length = V.size := rfl
        by_cases hlt : q < V.size
        · have hqi : (q : Int) < (V.size : Int) := by omega
          have hqe : ((q : Int) == (V.size : Int)) = false := by simp; omega
          have hxk : Hid (V.data.toList[q]? = some V[q]) := Lib.hid (by
            rw [List.getElem?_eq_getElem (by omega)]
            rfl)
          by_cases hx : V[q] = 32
          · have hx2 : (((V[q].toNat : Nat) : Int) == 32) = true := by rw [hx]; rfl
            have HXK : Hid (V.data.toList[q]? = some 32) := Lib.hid (by rw [hxk.out, hx])
            have HST := Lib.hid (cutI_step HCI.out (by omega) HFR.out HXK.out)
            clear hx hxk
            go_wp2_with (at_builtin; refine wpList_append_own _ rfl _ _ 55 rfl w.heap.size 9 i0 (.string ⟨#[]⟩) 1 16 Tryz.underlying55 hi y0 y1 y2 rfl (by decide) _ _ _ rfl (World.ownsRow.alloc HO.out _) ⟨wr.heap.size, 0, none⟩ 1 1 [.string (V.extract 0 q)] rfl rfl (str_one_new _ _ _) (str_one _) (by have := HNM.out; unfold maxLen; omega) (by have := HNM.out; omega) (by have := HBS.out; simp; omega) ?_; intro v3 w9 hown3 hgrow3 hcap3)
            obtain ⟨a', c', rfl, -⟩ := (OwnS.snoc hown3).read
            exact ⟨⟨j + 1, m - 1, _, _, rfl, by simp; omega, by omega, HST.out, by rw [ByteArray.size_extract]; omega, OwnS.snoc hown3, below_of_grownBy' HB.out HO.out.lo hgrow3⟩, by simp [intOf]; omega⟩
          · have hx2 : (((V[q].toNat : Nat) : Int) == 32) = false := by
              rw [Bool.eq_false_iff]; intro e
              have e2 : ((V[q].toNat : Nat) : Int) = 32 := by simpa using e
              exact hx (UInt8.toNat_inj.1 (by show V[q].toNat = 32; omega))
            have HNX := Lib.hid (show 32 ∉ V.data.toList.take (q + 1) by
              rw [List.take_add_one, hxk.out, List.mem_append, not_or]
              exact ⟨HFR.out, by simpa using fun e => hx e.symm⟩)
            clear hx hxk
            go_wp2_with fail
            exact ⟨⟨q + 1, by omega, by go_num, HNX.out⟩, by simp [intOf]; omega⟩
        · obtain rfl : q = V.size := by omega
          have hqi : ¬ ((V.size : Nat) : Int) < (V.size : Int) := by omega
          have HSH := Lib.hid (cutI_short HCI.out (by omega) (by have h := HFR.out; rwa [List.take_of_length_le (Nat.le_of_eq hsz)] at h))
          go_wp2_with fail
          exact bodyPost_ret (v := .tuple #[.slice none 0 0, .string ⟨#[]⟩, .bool false]) (by simp [results, Tryz.results61, go_sem]) rfl ⟨HB.out, .inr ⟨HSH.out, rfl⟩⟩
    · obtain rfl : m = 0 := by omega
      have HE := Lib.hid (cutI_end HCI.out (by omega))
      have HNE := Lib.hid (show ss.length = k by rw [HCI.out.num]; omega)
      go_wp2_with fail
      exact bodyPost_ret (v := .tuple #[.slice a ss.length cp, .string V, .bool true]) (by simp [results, Tryz.results61, go_sem]) rfl ⟨HB.out, .inl ⟨ss, V, a, cp, HE.out, HNE.out, rfl, HO.out⟩⟩

end Go.Proofs.YtlcglclojlffgaaGreatDoor
namespace Go.Proofs.YtlcglclojlffgaaGreatDoor
open Go.RowKit

theorem index_app (c : UInt8) : ∀ (p l : List UInt8), c ∉ p → Lib.index (p ++ c :: l) [c] = (p.length : Int)
  | [], l, _ => by simp [Lib.index]
  | x :: p, l, h => by
    have hx : (c == x) = false := by rw [beq_eq_false_iff_ne]; exact fun e => h (by simp [e])
    have ih := index_app c p l (fun hh => h (by simp [hh]))
    rw [List.cons_append, Lib.index, ih]
    have h1 : ([c] : List UInt8).isPrefixOf (x :: (p ++ c :: l)) = false := by simp [List.isPrefixOf, hx]
    rw [h1]
    simp only [Bool.false_eq_true, if_false]
    rw [if_neg (by simp)]
    simp
theorem index_none (c : UInt8) : ∀ l : List UInt8, c ∉ l → Lib.index l [c] = -1
  | [], _ => by simp [Lib.index]
  | x :: l, h => by
    have hx : (c == x) = false := by rw [beq_eq_false_iff_ne]; exact fun e => h (by simp [e])
    have ih := index_none c l (fun hh => h (by simp [hh]))
    rw [Lib.index, ih]
    have h1 : ([c] : List UInt8).isPrefixOf (x :: l) = false := by simp [List.isPrefixOf, hx]
    rw [h1]
    simp
theorem mem_split {c : UInt8} : ∀ {l : List UInt8}, c ∈ l → ∃ p r, l = p ++ c :: r ∧ c ∉ p
  | x :: l, h => by
    by_cases hx : x = c
    · subst hx; exact ⟨[], l, rfl, by simp⟩
    · have h2 : c ∈ l := by
        rcases List.mem_cons.1 h with h | h
        · exact absurd h.symm hx
        · exact h
      obtain ⟨p, r, rfl, hp⟩ := mem_split h2
      refine ⟨x :: p, r, rfl, ?_⟩
      intro hm
      rcases List.mem_cons.1 hm with h | h
      · exact hx h.symm
      · exact hp h
theorem splitK_cutN (c : UInt8) : ∀ (k : Nat) (l : List UInt8), Lib.splitK [c] 0 k l = cutN c k l
  | 0, l => rfl
  | k + 1, l => by
    by_cases h : c ∈ l
    · obtain ⟨p, r, rfl, hp⟩ := mem_split h
      rw [cutN_app c k p r hp, Lib.splitK, index_app c p r hp, if_neg (by simp)]
      simp only [Int.toNat_natCast, Nat.add_zero, List.length_cons, List.length_nil, Nat.zero_add]
      rw [List.take_left, splitK_cutN c k]
      congr 2
      rw [show p.length + 1 = (p ++ [c]).length by simp, show p ++ c :: r = (p ++ [c]) ++ r by simp, List.drop_left]
    · rw [cutN_free _ h, Lib.splitK, index_none c l h, if_pos (by rfl)]
theorem cutN_sat (c : UInt8) : ∀ (k m : Nat) (l : List UInt8), l.length ≤ k → l.length ≤ m → cutN c k l = cutN c m l
  | 0, m, l, h, _ => by
    have : l = [] := List.eq_nil_of_length_eq_zero (by omega)
    subst this
    rw [cutN_free m (by simp)]; rfl
  | k + 1, 0, l, _, h => by
    have : l = [] := List.eq_nil_of_length_eq_zero (by omega)
    subst this
    rw [cutN_free (k + 1) (by simp)]; rfl
  | k + 1, m + 1, l, h1, h2 => by
    by_cases h : c ∈ l
    · obtain ⟨p, r, rfl, hp⟩ := mem_split h
      rw [cutN_app c k p r hp, cutN_app c m p r hp]
      simp only [List.length_append, List.length_cons] at h1 h2
      rw [cutN_sat c k m r (by omega) (by omega)]
    · rw [cutN_free _ h, cutN_free _ h]
/-- texts in memory, not of one's own -/
def RetSp (w : World) (l : List (List UInt8)) (e : Ending) (w' : World) : Prop :=
  ∃ (ss : List ByteArray) (c : Nat), bytesL ss = l ∧ e = .returned (.slice (some ⟨w.heap.size, 0, none⟩) ss.length c) ∧ StrsAt w' (some ⟨w.heap.size, 0, none⟩) ss ∧ Below w.heap.size w w' ∧ ss.length ≤ c
theorem splitB_cutN (s : ByteArray) (c : UInt8) (k : Nat) : bytesL (Lib.splitB ⟨#[c]⟩ 0 k s) = cutN c k s.data.toList := by
  have h := Lib.splitB_data ⟨#[c]⟩ 0 k s
  rw [bytesL, h]
  exact splitK_cutN c k _
theorem splitN_any (s : ByteArray) (c : UInt8) (n : Nat) (w : World) (hs : s.size ≤ 1048576) (hn : 1 ≤ n) (hn2 : n ≤ 100) (hE : Env w) :
    Calls Tryz.prog 30 #[.string s, .string ⟨#[c]⟩, .int .i64 (n : Int)] w (RetSp w (cutN c (n - 1) s.data.toList)) := by
  obtain ⟨m, hm⟩ := hE.mx
  refine (Tryz.strings_SplitN s ⟨#[c]⟩ n m w (by omega) hm (Nat.le_refl 1) hn (by omega)).mono fun e w' ⟨he, hw⟩ => ?_
  have hb := splitB_cutN s c (min n (s.size + 1) - 1)
  have hlen := Lib.splitB_length_le ⟨#[c]⟩ 0 (min n (s.size + 1) - 1) s
  have hsz : s.data.toList.length = s.size := rfl
  have hsat : cutN c (min n (s.size + 1) - 1) s.data.toList = cutN c (n - 1) s.data.toList := by
    by_cases h : n ≤ s.size + 1
    · rw [Nat.min_eq_left h]
    · rw [Nat.min_eq_right (by omega)]
      exact cutN_sat c _ _ _ (by omega) (by omega)
  rw [hsat] at hb
  refine ⟨_, _, hb, he, ?_, ?_, by omega⟩
  · intro i hi
    refine ⟨w.heap.size, 0, rfl, ?_⟩
    rw [Nat.zero_add, hw, (heap_cellR (push_at _ _)).1]
    unfold Lib.cellsOf
    rw [List.getElem?_toArray, List.getElem?_append_left (by simpa using hi)]
    simp [hi]
  · rw [hw]; exact ba1 _ _
/-- strings.Cut at a byte: the word ahead of it -/
theorem cut_word (s : List UInt8) (c : UInt8) : (cut c s).head? = some (Lib.cut s [c]).1 := by
  by_cases h : c ∈ s
  · obtain ⟨p, r, rfl, hp⟩ := mem_split h
    rw [cut_head c p r hp, Lib.cut, index_app c p r hp, if_pos (by omega)]
    simp
  · rw [cut_piece c s h, Lib.cut, index_none c s h, if_neg (by omega)]; rfl

end Go.Proofs.YtlcglclojlffgaaGreatDoor
namespace Go.Proofs.YtlcglclojlffgaaGreatDoor
open Go.RowKit

set_option maxRecDepth 100000 in
theorem genSplit_zero (s sep : ByteArray) (w : World) :
    Calls Tryz.prog 52 #[.string s, .string sep, .int .i64 0, .int .i64 0] w fun e w' => e = .returned (.slice none 0 0) ∧ w = w' := by
  go_enter Tryz.func52, Tryz.ntmps52
  go_wp2_with fail
  go_ret
  exact ⟨rfl, rfl⟩
set_option maxRecDepth 100000 in
theorem splitN_zero (s sep : ByteArray) (w : World) :
    Calls Tryz.prog 30 #[.string s, .string sep, .int .i64 0] w fun e w' => e = .returned (.slice none 0 0) ∧ w = w' := by
  go_enter Tryz.func30, Tryz.ntmps30
  go_wp2_with fail
  refine (genSplit_zero _ _ _).mono ?_
  rintro e w' ⟨rfl, rfl⟩
  go_wp2_with fail
  go_ret
  exact ⟨rfl, rfl⟩

end Go.Proofs.YtlcglclojlffgaaGreatDoor
namespace Go.Proofs.YtlcglclojlffgaaGreatDoor
open Go.RowKit

set_option maxRecDepth 100000 in
set_option maxHeartbeats 4000000 in
theorem contains_any (R C row col r c : Int) (hR : 1 ≤ R ∧ R ≤ 400) (hC : 1 ≤ C ∧ C ≤ 400) (w : World) :
    Calls Tryz.prog 57 #[.agg #[.int .i64 R, .int .i64 C, .slice none 0 0], .int .i64 row, .int .i64 col, .int .i64 r, .int .i64 c] w fun e w' => e = .returned (.bool (cntB R C row col r c)) ∧ Below w.heap.size w w' := by
  obtain ⟨X, hX⟩ : ∃ X, X = cntB R C row col r c := ⟨_, rfl⟩
  have HX := Lib.hid (show X = (decide (0 ≤ row) && decide (0 ≤ col) && inB r 1 R && inB c 1 C && decide (row ≤ R - r) && decide (col ≤ C - c)) by rw [hX]; rfl)
  rw [← hX]
  clear hX
  have HB := Lib.hid (ba1 w (.cells #[.int .i64 R, .int .i64 C, .slice none 0 0] 101 (0, 0)))
  go_enter Tryz.func57, Tryz.ntmps57
  rcases Bool.eq_false_or_eq_true (decide (0 ≤ row)) with h1 | h1
  rotate_left
  · have HR := Lib.hid (show X = false by rw [HX.out, h1]; rfl)
    go_wp2_with (go_at_call 71; refine (inRange_any _ _ _ _).mono ?_; rintro e w' ⟨rfl, rfl⟩)
    go_ret
    exact ⟨ret_bool HR.out.symm, HB.out⟩
  rcases Bool.eq_false_or_eq_true (decide (0 ≤ col)) with h2 | h2
  rotate_left
  · have HR := Lib.hid (show X = false by rw [HX.out, h2, Bool.and_false]; rfl)
    go_wp2_with (go_at_call 71; refine (inRange_any _ _ _ _).mono ?_; rintro e w' ⟨rfl, rfl⟩)
    go_ret
    exact ⟨ret_bool HR.out.symm, HB.out⟩
  rcases Bool.eq_false_or_eq_true (inB r 1 R) with h3 | h3
  rotate_left
  · have HR := Lib.hid (show X = false by rw [HX.out, h3, Bool.and_false]; rfl)
    go_wp2_with (go_at_call 71; refine (inRange_any _ _ _ _).mono ?_; rw [h3]; rintro e w' ⟨rfl, rfl⟩)
    go_ret
    exact ⟨ret_bool HR.out.symm, HB.out⟩
  rcases Bool.eq_false_or_eq_true (inB c 1 C) with h4 | h4
  rotate_left
  · have HR := Lib.hid (show X = false by rw [HX.out, h4, Bool.and_false]; rfl)
    go_wp2_with (go_at_call 71; refine (inRange_any _ _ _ _).mono ?_; (first | rw [h3] | rw [h4]); rintro e w' ⟨rfl, rfl⟩)
    go_ret
    exact ⟨ret_bool HR.out.symm, HB.out⟩
  have b3 := inB_iff.1 h3
  have b4 := inB_iff.1 h4
  have hw1 : wrap64 (R - r) = R - r := by unfold wrap64; omega
  have hw2 : wrap64 (C - c) = C - c := by unfold wrap64; omega
  rcases Bool.eq_false_or_eq_true (decide (row ≤ R - r)) with h5 | h5
  rotate_left
  · have HR := Lib.hid (show X = false by rw [HX.out, h5, Bool.and_false]; rfl)
    go_wp2_with (go_at_call 71; refine (inRange_any _ _ _ _).mono ?_; (first | rw [h3] | rw [h4]); rintro e w' ⟨rfl, rfl⟩)
    go_ret
    exact ⟨ret_bool HR.out.symm, HB.out⟩
  have HR := Lib.hid (show X = decide (col ≤ C - c) by rw [HX.out, h1, h2, h3, h4, h5]; rfl)
  go_wp2_with (go_at_call 71; refine (inRange_any _ _ _ _).mono ?_; (first | rw [h3] | rw [h4]); rintro e w' ⟨rfl, rfl⟩)
  go_ret
  exact ⟨ret_bool HR.out.symm, HB.out⟩

/-- the boxes of a label are handed back, or none -/
def RetBs (w : World) (ok : Bool) (bs : List Bx) (e : Ending) (w' : World) : Prop :=
  Below w.heap.size w w' ∧ ((ok = true ∧ ∃ a c out, out = bs ∧ e = .returned (.tuple #[.slice a out.length c, .bool true]) ∧ bxE.Own w' w.heap.size (.slice a out.length c) out) ∨ (ok = false ∧ e = .returned (.tuple #[.slice none 0 0, .bool false])))
theorem all_noL {α : Type} {p : α → Bool} {l : List α} {k : Nat} {x : α} (h : l[k]? = some x) (hx : p x = false) : l.all p = false := by
  rw [List.all_eq_false]; exact ⟨x, List.mem_of_getElem? h, by rw [hx]; decide⟩
theorem all_snocL {α : Type} {p : α → Bool} {l : List α} {k : Nat} {x : α} (h : l[k]? = some x) (ha : (l.take k).all p = true) (hx : p x = true) : (l.take (k + 1)).all p = true := by
  rw [take_snoc' h, List.all_append, ha]; simp [hx]
/-- a label as a value -/
abbrev lbV (l : Lb) (a : Option Addr) (c : Nat) : Value := .agg #[.int .i64 l.rows, .int .i64 l.cols, .slice a l.items.length c]
set_option maxRecDepth 100000 in
set_option maxHeartbeats 8000000 in
theorem boxes_any (l : Lb) (a : Option Addr) (c : Nat) (w : World) (hx : itE.At w a l.items) (ht : ∀ x ∈ l.items, x.text.size ≤ 1048576) (hn : l.items.length ≤ 1048576) :
    Calls Tryz.prog 34 #[lbV l a c] w (RetBs w l.ok (l.items.map bxO)) := by
  have HOK := Lib.hid (lbok_parts l)
  have HX := Lib.hid hx
  have HT := Lib.hid ht
  obtain ⟨ok, hok⟩ : ∃ ok, ok = l.ok := ⟨_, rfl⟩
  have HOKe := Lib.hid hok
  rw [← hok] at HOK ⊢
  clear hx ht hok
  have HSZ := Lib.hid (fun w => isRasterSize_any l.rows l.cols w)
  have HLl := Lib.hid (show ∀ x r c, boxI x = some (r, c) → onL l x = cntB l.rows l.cols x.row x.col r c from fun x r c h => onL_cnt h)
  have HLn := Lib.hid (show ∀ x, boxI x = none → onL l x = false from fun x h => onL_none h)
  obtain ⟨ON, hON⟩ : ∃ ON, ON = onL l := ⟨_, rfl⟩
  rw [← hON] at HOK HLl HLn
  clear hON
  obtain ⟨rows, cols, items⟩ := l
  dsimp only at hn HOK HX HT HSZ HLl HLn ⊢
  have HB0 := Lib.hid (ba1 w (.cells #[.int .i64 rows, .int .i64 cols, .slice a items.length c] 29 (0, 0)))
  go_enter Tryz.func34, Tryz.ntmps34
  go_wp2_with fail
  refine (HSZ.out _).mono ?_
  rintro e w' ⟨rfl, rfl⟩
  rcases Bool.eq_false_or_eq_true (sizeB rows cols) with h1 | h1
  rotate_left
  · have HR := Lib.hid (show ok = false by rw [HOK.out, h1]; rfl)
    rw [h1]
    clear h1
    go_wp2_with fail
    go_ret2
    exact ⟨HB0.out, .inr ⟨HR.out, rfl⟩⟩
  rw [h1]
  by_cases h12 : items.length ≤ 12
  rotate_left
  · have HR := Lib.hid (show ok = false by rw [HOK.out, decide_eq_false h12, Bool.and_false]; rfl)
    have h12i : (12 : Int) < (items.length : Int) := by omega
    clear h1
    go_wp2_with fail
    go_ret2
    exact ⟨HB0.out, .inr ⟨HR.out, rfl⟩⟩
  have h12i : ¬ (12 : Int) < (items.length : Int) := by omega
  have HAll := Lib.hid (show ok = items.all ON by rw [HOK.out, h1, decide_eq_true h12]; rfl)
  have hsb : (1 ≤ rows ∧ rows ≤ 400) ∧ (1 ≤ cols ∧ cols ≤ 400) := by
    rw [sizeB, Bool.and_eq_true, Bool.and_eq_true] at h1
    exact ⟨inB_iff.1 h1.1.1, inB_iff.1 h1.1.2⟩
  clear h1
  have e2 := heap2 w (.cells #[.int .i64 rows, .int .i64 cols, .slice a items.length c] 29 (0, 0)) (.cells #[.int .i64 rows, .int .i64 cols, .slice none 0 0] 101 (0, 0))
  have hB2 := ba2 w (.cells #[.int .i64 rows, .int .i64 cols, .slice a items.length c] 29 (0, 0)) (.cells #[.int .i64 rows, .int .i64 cols, .slice none 0 0] 101 (0, 0))
  obtain ⟨W, hW⟩ : ∃ W, W = (w.alloc (.cells #[.int .i64 rows, .int .i64 cols, .slice a items.length c] 29 (0, 0))).alloc (.cells #[.int .i64 rows, .int .i64 cols, .slice none 0 0] 101 (0, 0)) := ⟨_, rfl⟩
  have hWs : W.heap.size = w.heap.size + 1 + 1 := by rw [hW]; simp
  have HW := Lib.hid hW
  rw [← hW] at e2 hB2
  have K1 := Lib.hid e2.1
  have K2 := Lib.hid e2.2
  have HB2 := Lib.hid hB2
  clear hW e2 hB2
  go_wp2_with fail
  go_loopw [5, 32] (fun v i wr => ∃ (k : Nat) (a' : Option Addr) (c' : Nat) (out : List Bx), k ≤ items.length ∧ i = .int .i64 (k : Int) ∧ v = .slice a' out.length c' ∧ out = (items.take k).map bxO ∧ (items.take k).all ON = true ∧ bxE.Own wr W.heap.size v out ∧ Below W.heap.size W wr) (fun _ i _ => items.length - (intOf i).toNat)
  case atStart =>
    rw [← HW.out]
    refine ⟨0, _, 0, [], Nat.zero_le _, rfl, rfl, rfl, rfl, ?_, ba1 _ _⟩
    have h := Enc.Own.new bxE W
    rw [hWs] at h ⊢
    exact h
  case round =>
    have HWS := Lib.hid hWs
    clear hWs
    obtain ⟨k, a', c', out, hk, rfl, rfl, hout, hall, ho, hbr⟩ := hrel
    have HOut := Lib.hid hout
    have HAL := Lib.hid hall
    have HO := Lib.hid ho
    have HBR := Lib.hid hbr
    have hol : out.length ≤ 12 := by rw [hout, List.length_map, List.length_take]; omega
    have KR1 := Lib.hid (blkK hbr K1.out)
    have KR2 := Lib.hid (blkK hbr K2.out)
    have HXr := Lib.hid (HX.out.below (bt0 HB2.out hbr (Nat.le_refl _)))
    clear hout hall ho hbr
    obtain ⟨hc1, hf1⟩ := heap_cellR KR1.out
    obtain ⟨hc2, hf2⟩ := heap_cellR KR2.out
    have hl1 := blkLt KR1.out
    have hl2 := blkLt KR2.out
    by_cases hlt : k < items.length
    · have hki : (k : Int) < (items.length : Int) := by omega
      obtain ⟨x, hx⟩ : ∃ x, items[k]? = some x := by rw [List.getElem?_eq_getElem hlt]; exact ⟨_, rfl⟩
      have HXK := Lib.hid hx
      have htx := HT.out x (List.mem_of_getElem? hx)
      obtain ⟨b, o, rfl, hbl, y0, y1, y2, y3, y4, y5, y6, y7, y8⟩ := it_at HXr.out hx
      have HIB := Lib.hid (fun w => itemBox_any x htx w)
      have HLl2 := Lib.hid (HLl.out x)
      have HLn2 := Lib.hid (HLn.out x)
      have HBO := Lib.hid (fun r c h => bxO_some (x := x) (r := r) (c := c) h)
      have HBD := Lib.hid (fun r c h => boxI_bd (x := x) (r := r) (c := c) h)
      obtain ⟨BI, hBI⟩ : ∃ BI, BI = boxI x := ⟨_, rfl⟩
      rw [← hBI] at HIB HLl2 HLn2 HBO HBD
      clear hx htx hBI
      obtain ⟨kd, row, col, sc, tall, wide, nm, lev, tx⟩ := x
      dsimp only at y0 y1 y2 y3 y4 y5 y6 y7 y8 HIB HLl2 HLn2 HBO
      unfold itV at HIB
      go_wp2_with fail
      have KI := Lib.hid (push_at wr (.cells #[.int .i64 kd, .int .i64 row, .int .i64 col, .int .i64 sc, .int .i64 tall, .int .i64 wide, .string nm, .int .i64 lev, .string tx] 49 (0, 0)))
      have HBI := Lib.hid (bt0 HBR.out (ba1 wr (.cells #[.int .i64 kd, .int .i64 row, .int .i64 col, .int .i64 sc, .int .i64 tall, .int .i64 wide, .string nm, .int .i64 lev, .string tx] 49 (0, 0))) (Nat.le_refl _))
      have HOI := Lib.hid (HO.out.grown (ba1 wr (.cells #[.int .i64 kd, .int .i64 row, .int .i64 col, .int .i64 sc, .int .i64 tall, .int .i64 wide, .string nm, .int .i64 lev, .string tx] 49 (0, 0))))
      refine (HIB.out _).mono ?_
      rintro e w2 ⟨hb2, hr⟩
      have KI2 := Lib.hid (blkK hb2 KI.out)
      have HBJ := Lib.hid (bt0 HBI.out hb2 (Nat.le_refl _))
      have HOJ := Lib.hid (HOI.out.grown hb2)
      have KJ2 := Lib.hid (blkK HBJ.out K2.out)
      clear hb2 hc1 hf1 hc2 hf2 y0 y1 y2 y3 y4 y5 y6 y7 y8
      obtain ⟨hcI, hfI⟩ := heap_cellR KI2.out
      have hlI := blkLt KI2.out
      obtain ⟨hc2, hf2⟩ := heap_cellR KJ2.out
      have hl3 := blkLt KJ2.out
      rcases hr with ⟨r, cc, hr, rfl⟩ | ⟨hr, rfl⟩
      rotate_left
      · have HR := Lib.hid (show ok = false by rw [HAll.out]; exact all_noL HXK.out (HLn2.out hr))
        clear hr
        go_wp2_with fail
        go_ret2
        exact ⟨bt0 HB2.out HBJ.out (Nat.le_refl _), .inr ⟨HR.out, rfl⟩⟩
      have HR := Lib.hid hr
      have hbd := HBD.out r cc hr
      clear hr
      go_wp2_with fail
      refine (contains_any rows cols row col r cc hsb.1 hsb.2 _).mono ?_
      rw [← HLl2.out r cc HR.out]
      rintro e w3 ⟨rfl, hb3⟩
      have KI3 := Lib.hid (blkK hb3 KI2.out)
      have HBK := Lib.hid (bt0 HBJ.out hb3 (Nat.le_refl _))
      have HOK3 := Lib.hid (HOJ.out.grown hb3)
      clear hb3 hcI hfI hc2 hf2
      obtain ⟨hcI, hfI⟩ := heap_cellR KI3.out
      have hlI3 := blkLt KI3.out
      rcases Bool.eq_false_or_eq_true (ON ⟨kd, row, col, sc, tall, wide, nm, lev, tx⟩) with hon | hon
      rotate_left
      · have HR2 := Lib.hid (show ok = false by rw [HAll.out]; exact all_noL HXK.out hon)
        rw [hon]
        clear hon
        go_wp2_with fail
        go_ret2
        exact ⟨bt0 HB2.out HBK.out (Nat.le_refl _), .inr ⟨HR2.out, rfl⟩⟩
      have HON := Lib.hid (all_snocL HXK.out HAL.out hon)
      rw [hon]
      clear hon
      go_wp2_with (at_builtin; refine wpList_append_bx rfl (.tmp 55) (.tmp 63) rfl W.heap.size (.slice a' out.length c') out ⟨row, col, r, cc⟩ rfl (HOK3.out.grown (ba1 _ _)) w3.heap.size rfl (push_at w3 _) (by omega) (by have := HBK.out.size; simp; omega) ?h9)
      case h9 =>
      intro a4 c4 out4 w4 he4 ho4 hg4 hb4
      have HE4 := Lib.hid he4
      have HO4 := Lib.hid ho4
      have HB4 := Lib.hid ((HBK.out.alloc HBK.out.size _).trans hb4)
      clear he4 ho4 hg4 hb4 hcI hfI
      go_wp2_with fail
      refine ⟨⟨k + 1, a4, c4, out4, by omega, by go_num, rfl, ?_, HON.out, HO4.out, HB4.out⟩, by simp [intOf]; omega⟩
      rw [HE4.out, HOut.out, take_snoc' HXK.out, List.map_append, List.map_cons, List.map_nil, HBO.out r cc HR.out]
    · have hki : ¬ (k : Int) < (items.length : Int) := by omega
      have HR := Lib.hid (show ok = true by rw [HAll.out]; have h := HAL.out; rwa [List.take_of_length_le (by omega)] at h)
      have HOut2 := Lib.hid (show out = items.map bxO by have h := HOut.out; rwa [List.take_of_length_le (by omega)] at h)
      go_wp2_with fail
      go_ret2
      exact ⟨bt0 HB2.out HBR.out (Nat.le_refl _), .inl ⟨HR.out, a', c', out, HOut2.out, rfl, HO.out.weak (by have := HWS.out; omega)⟩⟩

set_option maxRecDepth 100000 in
theorem isLabel_any (l : Lb) (a : Option Addr) (c : Nat) (w : World) (hx : itE.At w a l.items) (ht : ∀ x ∈ l.items, x.text.size ≤ 1048576) (hn : l.items.length ≤ 1048576) :
    Calls Tryz.prog 25 #[lbV l a c] w fun e w' => e = .returned (.bool l.ok) ∧ Below w.heap.size w w' := by
  have HC := Lib.hid (fun w (hx : itE.At w a l.items) => boxes_any l a c w hx ht hn)
  have HX := Lib.hid hx
  obtain ⟨ok, hok⟩ : ∃ ok, ok = l.ok := ⟨_, rfl⟩
  rw [← hok] at HC ⊢
  clear hx ht hok hn
  obtain ⟨rows, cols, items⟩ := l
  dsimp only at HX HC ⊢
  have HB0 := Lib.hid (ba1 w (.cells #[.int .i64 rows, .int .i64 cols, .slice a items.length c] 29 (0, 0)))
  go_enter Tryz.func25, Tryz.ntmps25
  go_wp2_with fail
  refine (HC.out _ (HX.out.below HB0.out)).mono ?_
  rintro e w1 ⟨hb1, hr⟩
  have HB1 := Lib.hid (bt0 HB0.out hb1 (Nat.le_refl _))
  clear hb1
  rcases hr with ⟨ho, a1, c1, out, -, rfl, -⟩ | ⟨ho, rfl⟩
  · have HO := Lib.hid ho
    clear ho
    go_wp2_with fail
    go_ret
    exact ⟨ret_bool HO.out.symm, HB1.out⟩
  · have HO := Lib.hid ho
    clear ho
    go_wp2_with fail
    go_ret
    exact ⟨ret_bool HO.out.symm, HB1.out⟩

end Go.Proofs.YtlcglclojlffgaaGreatDoor
