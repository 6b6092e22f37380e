import Derived.Test.YthnjfdhijpfekaaUSrcFrom
import Derived.Test.YthnjfdhijpfekaaURG3
namespace Go.Proofs.Ythnjfdhijpfekaa
open Go.RowKit

/-- worlds in which block b alone has turned -/
def KeepB (b : Nat) (w w' : World) : Prop := w.grownBy w' (some b)

def NumB (lo hi : Int) (v : Value) : Prop := ∃ r : Int, v = .int .i64 r ∧ lo ≤ r ∧ r ≤ hi
def StrB (n : Nat) (v : Value) : Prop := ∃ s : ByteArray, v = .string s ∧ s.size ≤ n
/-- a table of n values in memory of the call's own, each as p says -/
def TabP (b n : Nat) (p : Value → Prop) (v : Value) (w : World) : Prop := ∃ g, v = .slice (some ⟨g, 0, none⟩) n n ∧ b < g ∧ ∀ i, i < n → ∃ u, w.cell? ⟨g, i, none⟩ = some u ∧ p u
def AtP (b : Nat) (p : Value → Prop) (v : Value) (w : World) : Prop := ∃ g i u, v = .pointer (some ⟨g, i, none⟩) ∧ b < g ∧ w.cell? ⟨g, i, none⟩ = some u ∧ p u
/-- a new block that is known -/
def NewP (b base : Nat) (o : Obj) (v : Value) (w : World) : Prop := ∃ g, v = .pointer (some ⟨g, 0, none⟩) ∧ (b < g ∧ base ≤ g) ∧ w.heap[g]? = some o

theorem kept_cell {w w' : World} {b g i : Nat} {u : Value} (hg : w.grownBy w' (some b)) (hlt : b < g) (hc : w.cell? ⟨g, i, none⟩ = some u) : w'.cell? ⟨g, i, none⟩ = some u :=
  hg.cell hc (by simp; omega)

def spV (b : Nat) (p : Value → Prop) : Sp (KeepB b) := ⟨fun v _ => p v, fun _ _ _ _ h => h⟩
def spEq (b : Nat) (x : Value) : Sp (KeepB b) := spV b (fun v => v = x)
def spTab (b n : Nat) (p : Value → Prop) : Sp (KeepB b) := ⟨TabP b n p, fun _ _ _ hg h => by
  obtain ⟨g, hv, hlt, hc⟩ := h
  exact ⟨g, hv, hlt, fun i hi => by obtain ⟨u, h1, h2⟩ := hc i hi; exact ⟨u, kept_cell hg hlt h1, h2⟩⟩⟩
def spAt (b : Nat) (p : Value → Prop) : Sp (KeepB b) := ⟨AtP b p, fun _ _ _ hg h => by
  obtain ⟨g, i, u, hv, hlt, hc, hs⟩ := h
  exact ⟨g, i, u, hv, hlt, kept_cell hg hlt hc, hs⟩⟩
def spNew (b base : Nat) (o : Obj) : Sp (KeepB b) := ⟨NewP b base o, fun _ _ _ hg h => by
  obtain ⟨g, hv, hlt, hc⟩ := h
  refine ⟨g, hv, hlt, ?_⟩
  rw [hg.block g (Array.getElem?_eq_some_iff.1 hc).1 (by simp; omega)]
  exact hc⟩

def BatV (v : Value) : Prop := ∃ (p : ByteArray) (x1 x2 x3 x4 : Int), v = .agg #[.string p, .int .i64 x1, .int .i64 x2, .int .i64 x3, .int .i64 x4] ∧ p.size ≤ 13 ∧ (0 ≤ x1 ∧ x1 ≤ 999999999) ∧ (0 ≤ x2 ∧ x2 ≤ 999999999) ∧ (0 ≤ x3 ∧ x3 ≤ 999999999) ∧ (0 ≤ x4 ∧ x4 ≤ 999999999)

/-- the state of a draw that goes on: the source stands, all else is as it was -/
def StB (b : Nat) (w0 w : World) : Prop := Src w b ∧ w0.grownBy w (some b)

/-- a number is drawn, behind a region's operation -/
theorem next_rs {b : Nat} {w0 w : World} {n : Int} {lo hi : Int} (hst : StB b w0 w) (hn : 2 ≤ n) (hn2 : n ≤ 1152921504606846976) (h0 : lo ≤ 0) (h1 : n - 1 ≤ hi) :
    Calls Try.prog 58 #[.pointer (some ⟨b, 0, none⟩), .int .i64 n] w fun e w'' => ∃ v, e = .returned v ∧ RsR (StB b w0) (spV b (NumB lo hi)) w v w'' :=
  (l01Next_any b n w hst.1 (by omega) hn2).mono fun e w' ⟨r, he, r0, r1, hs, hg⟩ => ⟨_, he, ⟨hs, grownBy_trans hst.2 hg⟩, hg, r, rfl, by omega, by omega⟩

theorem rs_same {b : Nat} {w0 w : World} {s : Sp (KeepB b)} {v : Value} (hst : StB b w0 w) (h : s.holds v w) : RsR (StB b w0) s w v w := ⟨hst, World.grownBy.refl _ _, h⟩
theorem stB_alloc {b : Nat} {w0 w : World} (hst : StB b w0 w) (o : Obj) : StB b w0 (w.alloc o) :=
  ⟨hst.1.kept (World.grownBy_alloc w o none) (by simp), grownBy_trans hst.2 (World.grownBy_alloc _ _ _)⟩
theorem rs_tab {b n : Nat} {w0 w : World} {p : Value → Prop} {C : Array Value} {t : TypeId} (hst : StB b w0 w) (hn : ∀ i, i < n → ∃ u, C[i]? = some u ∧ p u) :
    RsR (StB b w0) (spTab b n p) w (.slice (some ⟨w.heap.size, 0, none⟩) n n) (w.alloc (.cells C t (0, 0))) :=
  ⟨stB_alloc hst _, World.grownBy_alloc _ _ _, _, rfl, hst.1.lt, fun i hi => by
    obtain ⟨u, h1, h2⟩ := hn i hi
    exact ⟨u, by rw [box1 (Below.refl _ _)]; exact h1, h2⟩⟩
theorem rs_new {b base : Nat} {w0 w : World} {o : Obj} (hst : StB b w0 w) (h0 : base ≤ w0.heap.size) :
    RsR (StB b w0) (spNew b base o) w (.pointer (some ⟨w.heap.size, 0, none⟩)) (w.alloc o) :=
  ⟨stB_alloc hst _, World.grownBy_alloc _ _ _, _, rfl, ⟨hst.1.lt, Nat.le_trans h0 hst.2.size⟩, Array.getElem?_push_size⟩
theorem fourT {p : Value → Prop} {a b c d : Value} (ha : p a) (hb : p b) (hc : p c) (hd : p d) : ∀ i, i < 4 → ∃ u, (#[a, b, c, d] : Array Value)[i]? = some u ∧ p u
  | 0, _ => ⟨_, rfl, ha⟩
  | 1, _ => ⟨_, rfl, hb⟩
  | 2, _ => ⟨_, rfl, hc⟩
  | 3, _ => ⟨_, rfl, hd⟩
theorem threeT {p : Value → Prop} {a b c : Value} (ha : p a) (hb : p b) (hc : p c) : ∀ i, i < 3 → ∃ u, (#[a, b, c] : Array Value)[i]? = some u ∧ p u
  | 0, _ => ⟨_, rfl, ha⟩
  | 1, _ => ⟨_, rfl, hb⟩
  | 2, _ => ⟨_, rfl, hc⟩
theorem strB {n : Nat} (s : ByteArray) (h : s.size ≤ n) : StrB n (.string s) := ⟨s, rfl, h⟩
theorem numB {lo hi : Int} (r : Int) (h : lo ≤ r) (h' : r ≤ hi) : NumB lo hi (.int .i64 r) := ⟨r, rfl, h, h'⟩

def RetBat (w : World) (b : Nat) (e : Ending) (w' : World) : Prop :=
  ∃ (p : ByteArray) (x1 x2 x3 x4 : Int), e = .returned (.agg #[.string p, .int .i64 x1, .int .i64 x2, .int .i64 x3, .int .i64 x4]) ∧ p.size ≤ 13 ∧ (0 ≤ x1 ∧ x1 ≤ 999999999) ∧ (0 ≤ x2 ∧ x2 ≤ 999999999) ∧ (0 ≤ x3 ∧ x3 ≤ 999999999) ∧ (0 ≤ x4 ∧ x4 ≤ 999999999) ∧ Src w' b ∧ w.grownBy w' (some b)

theorem heap_cell {w : World} {g : Nat} {C : Array Value} {t : TypeId} (h : w.heap[g]? = some (.cells C t (0, 0))) : ∀ i, w.cell? ⟨g, i, none⟩ = C[i]? := fun i => by simp [World.cell?, h]
theorem heap_frozen {w : World} {g : Nat} {C : Array Value} {t : TypeId} (h : w.heap[g]? = some (.cells C t (0, 0))) : ∀ i, w.frozen? ⟨g, i, none⟩ = false := fun i => by simp [World.frozen?, h]
theorem stB_set {b g i : Nat} {w0 w : World} {v : Value} (hst : StB b w0 w) (hbg : b < g) (hwg : w0.heap.size ≤ g) : StB b w0 (w.setCell ⟨g, i, none⟩ v) :=
  ⟨hst.1.kept (grownBy_set w g i v) (fun k e => by have := Option.some.inj e; omega), hst.2.andThen (grownBy_set w g i v) (fun j e => by have := Option.some.inj e; omega)⟩
theorem set5 {b g : Nat} {w0 w : World} {o0 o1 o2 o3 o4 v0 v1 v2 v3 v4 : Value} {t : TypeId} (hst : StB b w0 w) (hbg : b < g) (hwg : w0.heap.size ≤ g) (hg : w.heap[g]? = some (.cells #[o0, o1, o2, o3, o4] t (0, 0))) :
    let W := ((((w.setCell ⟨g, 0, none⟩ v0).setCell ⟨g, 1, none⟩ v1).setCell ⟨g, 2, none⟩ v2).setCell ⟨g, 3, none⟩ v3).setCell ⟨g, 4, none⟩ v4
    StB b w0 W ∧ W.heap[g]? = some (.cells #[v0, v1, v2, v3, v4] t (0, 0)) :=
  ⟨stB_set (stB_set (stB_set (stB_set (stB_set hst hbg hwg) hbg hwg) hbg hwg) hbg hwg) hbg hwg, src_set (src_set (src_set (src_set (src_set hg 0 v0) 1 v1) 2 v2) 3 v3) 4 v4⟩

theorem stB_trans {b : Nat} {w0 w w' : World} (hst : StB b w0 w) (hs : Src w' b) (hg : w.grownBy w' (some b)) : StB b w0 w' := ⟨hs, grownBy_trans hst.2 hg⟩
/-- the end: the batch is read and lies in the result's box -/
theorem retBat_of {w W : World} {b : Nat} {v0 v1 v2 v3 v4 : Value} {o : Obj} {w0 : World} (hlt : b < w.heap.size) (hw : w.alloc o = w0) (hst : StB b w0 W) {p : ByteArray} {x1 x2 x3 x4 : Int} (hb : p.size ≤ 13 ∧ (0 ≤ x1 ∧ x1 ≤ 999999999) ∧ (0 ≤ x2 ∧ x2 ≤ 999999999) ∧ (0 ≤ x3 ∧ x3 ≤ 999999999) ∧ (0 ≤ x4 ∧ x4 ≤ 999999999)) :
    RetBat w b (.returned (.agg #[.string p, .int .i64 x1, .int .i64 x2, .int .i64 x3, .int .i64 x4])) (((((W.setCell ⟨w.heap.size, 0, none⟩ v0).setCell ⟨w.heap.size, 1, none⟩ v1).setCell ⟨w.heap.size, 2, none⟩ v2).setCell ⟨w.heap.size, 3, none⟩ v3).setCell ⟨w.heap.size, 4, none⟩ v4) := by
  subst hw
  have h0 : StB b w W := ⟨hst.1, grownBy_trans (World.grownBy_alloc _ _ _) hst.2⟩
  have h5 := stB_set (v := v4) (i := 4) (stB_set (v := v3) (i := 3) (stB_set (v := v2) (i := 2) (stB_set (v := v1) (i := 1) (stB_set (v := v0) (i := 0) h0 hlt (Nat.le_refl _)) hlt (Nat.le_refl _)) hlt (Nat.le_refl _)) hlt (Nat.le_refl _)) hlt (Nat.le_refl _)
  exact ⟨p, x1, x2, x3, x4, rfl, hb.1, hb.2.1, hb.2.2.1, hb.2.2.2.1, hb.2.2.2.2, h5.1, h5.2⟩

theorem tab_kept {b n : Nat} {p : Value → Prop} {W1 W2 : World} {C : Array Value} {t : TypeId} {r : Int} (hlt : b < W1.heap.size) (hg : (W1.alloc (.cells C t (0, 0))).grownBy W2 (some b)) (hn : ∀ i, i < n → ∃ u, C[i]? = some u ∧ p u) (h0 : 0 ≤ r) (h1 : r < n) :
    ∃ u, W2.cell? ⟨W1.heap.size, r.toNat, none⟩ = some u ∧ p u := by
  obtain ⟨u, c1, c2⟩ := hn r.toNat (by omega)
  exact ⟨u, kept_cell hg hlt (by rw [box1 (Below.refl _ _)]; exact c1), c2⟩

end Go.Proofs.Ythnjfdhijpfekaa
