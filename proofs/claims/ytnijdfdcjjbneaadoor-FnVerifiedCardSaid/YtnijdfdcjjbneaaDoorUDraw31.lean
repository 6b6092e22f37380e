import Derived.Test.YtnijdfdcjjbneaaDoorUSrcFrom
import Derived.Test.YtnijdfdcjjbneaaDoorURG3
namespace Go.Proofs.YtnijdfdcjjbneaaDoor
open Go.RowKit

/-- worlds in which block b alone has turned -/
def KeepB (b : Nat) (w w' : World) : Prop := w.grownBy w' (some b)

def NumB (lo hi : Int) (v : Value) : Prop := ∃ r : Int, v = .int .i64 r ∧ lo ≤ r ∧ r ≤ hi
def StrB (n : Nat) (v : Value) : Prop := ∃ s : ByteArray, v = .string s ∧ s.size ≤ n
/-- a table of n values in memory of the call's own, each as p says -/
def TabP (b n : Nat) (p : Value → Prop) (v : Value) (w : World) : Prop := ∃ g, v = .slice (some ⟨g, 0, none⟩) n n ∧ b < g ∧ ∀ i, i < n → ∃ u, w.cell? ⟨g, i, none⟩ = some u ∧ p u
def AtP (b : Nat) (p : Value → Prop) (v : Value) (w : World) : Prop := ∃ g i u, v = .pointer (some ⟨g, i, none⟩) ∧ b < g ∧ w.cell? ⟨g, i, none⟩ = some u ∧ p u
/-- a new block that is known -/
def NewP (b base : Nat) (o : Obj) (v : Value) (w : World) : Prop := ∃ g, v = .pointer (some ⟨g, 0, none⟩) ∧ (b < g ∧ base ≤ g) ∧ w.heap[g]? = some o

theorem kept_cell {w w' : World} {b g i : Nat} {u : Value} (hg : w.grownBy w' (some b)) (hlt : b < g) (hc : w.cell? ⟨g, i, none⟩ = some u) : w'.cell? ⟨g, i, none⟩ = some u :=
  hg.cell hc (by simp; omega)

def spV (b : Nat) (p : Value → Prop) : Sp (KeepB b) := ⟨fun v _ => p v, fun _ _ _ _ h => h⟩
def spEq (b : Nat) (x : Value) : Sp (KeepB b) := spV b (fun v => v = x)
def spTab (b n : Nat) (p : Value → Prop) : Sp (KeepB b) := ⟨TabP b n p, fun _ _ _ hg h => by
  obtain ⟨g, hv, hlt, hc⟩ := h
  exact ⟨g, hv, hlt, fun i hi => by obtain ⟨u, h1, h2⟩ := hc i hi; exact ⟨u, kept_cell hg hlt h1, h2⟩⟩⟩
def spAt (b : Nat) (p : Value → Prop) : Sp (KeepB b) := ⟨AtP b p, fun _ _ _ hg h => by
  obtain ⟨g, i, u, hv, hlt, hc, hs⟩ := h
  exact ⟨g, i, u, hv, hlt, kept_cell hg hlt hc, hs⟩⟩
def spNew (b base : Nat) (o : Obj) : Sp (KeepB b) := ⟨NewP b base o, fun _ _ _ hg h => by
  obtain ⟨g, hv, hlt, hc⟩ := h
  refine ⟨g, hv, hlt, ?_⟩
  rw [hg.block g (Array.getElem?_eq_some_iff.1 hc).1 (by simp; omega)]
  exact hc⟩

def BatV (v : Value) : Prop := ∃ (p : ByteArray) (x1 x2 x3 x4 : Int), v = .agg #[.string p, .int .i64 x1, .int .i64 x2, .int .i64 x3, .int .i64 x4] ∧ p.size ≤ 13 ∧ (0 ≤ x1 ∧ x1 ≤ 999999999) ∧ (0 ≤ x2 ∧ x2 ≤ 999999999) ∧ (0 ≤ x3 ∧ x3 ≤ 999999999) ∧ (0 ≤ x4 ∧ x4 ≤ 999999999)

/-- the state of a draw that goes on: the source stands, all else is as it was -/
def StB (b : Nat) (w0 w : World) : Prop := Src w b ∧ w0.grownBy w (some b)

/-- a number is drawn, behind a region's operation -/
theorem next_rs {b : Nat} {w0 w : World} {n : Int} {lo hi : Int} (hst : StB b w0 w) (hn : 2 ≤ n) (hn2 : n ≤ 1152921504606846976) (h0 : lo ≤ 0) (h1 : n - 1 ≤ hi) :
    Calls Tryd.prog 32 #[.pointer (some ⟨b, 0, none⟩), .int .i64 n] w fun e w'' => ∃ v, e = .returned v ∧ RsR (StB b w0) (spV b (NumB lo hi)) w v w'' :=
  (l01Next_any b n w hst.1 (by omega) hn2).mono fun e w' ⟨r, he, r0, r1, hs, hg⟩ => ⟨_, he, ⟨hs, grownBy_trans hst.2 hg⟩, hg, r, rfl, by omega, by omega⟩

theorem rs_same {b : Nat} {w0 w : World} {s : Sp (KeepB b)} {v : Value} (hst : StB b w0 w) (h : s.holds v w) : RsR (StB b w0) s w v w := ⟨hst, World.grownBy.refl _ _, h⟩
theorem stB_alloc {b : Nat} {w0 w : World} (hst : StB b w0 w) (o : Obj) : StB b w0 (w.alloc o) :=
  ⟨hst.1.kept (World.grownBy_alloc w o none) (by simp), grownBy_trans hst.2 (World.grownBy_alloc _ _ _)⟩
theorem rs_tab {b n : Nat} {w0 w : World} {p : Value → Prop} {C : Array Value} {t : TypeId} (hst : StB b w0 w) (hn : ∀ i, i < n → ∃ u, C[i]? = some u ∧ p u) :
    RsR (StB b w0) (spTab b n p) w (.slice (some ⟨w.heap.size, 0, none⟩) n n) (w.alloc (.cells C t (0, 0))) :=
  ⟨stB_alloc hst _, World.grownBy_alloc _ _ _, _, rfl, hst.1.lt, fun i hi => by
    obtain ⟨u, h1, h2⟩ := hn i hi
    exact ⟨u, by rw [box1 (Below.refl _ _)]; exact h1, h2⟩⟩
theorem rs_new {b base : Nat} {w0 w : World} {o : Obj} (hst : StB b w0 w) (h0 : base ≤ w0.heap.size) :
    RsR (StB b w0) (spNew b base o) w (.pointer (some ⟨w.heap.size, 0, none⟩)) (w.alloc o) :=
  ⟨stB_alloc hst _, World.grownBy_alloc _ _ _, _, rfl, ⟨hst.1.lt, Nat.le_trans h0 hst.2.size⟩, Array.getElem?_push_size⟩
theorem fourT {p : Value → Prop} {a b c d : Value} (ha : p a) (hb : p b) (hc : p c) (hd : p d) : ∀ i, i < 4 → ∃ u, (#[a, b, c, d] : Array Value)[i]? = some u ∧ p u
  | 0, _ => ⟨_, rfl, ha⟩
  | 1, _ => ⟨_, rfl, hb⟩
  | 2, _ => ⟨_, rfl, hc⟩
  | 3, _ => ⟨_, rfl, hd⟩
theorem threeT {p : Value → Prop} {a b c : Value} (ha : p a) (hb : p b) (hc : p c) : ∀ i, i < 3 → ∃ u, (#[a, b, c] : Array Value)[i]? = some u ∧ p u
  | 0, _ => ⟨_, rfl, ha⟩
  | 1, _ => ⟨_, rfl, hb⟩
  | 2, _ => ⟨_, rfl, hc⟩
theorem strB {n : Nat} (s : ByteArray) (h : s.size ≤ n) : StrB n (.string s) := ⟨s, rfl, h⟩
theorem numB {lo hi : Int} (r : Int) (h : lo ≤ r) (h' : r ≤ hi) : NumB lo hi (.int .i64 r) := ⟨r, rfl, h, h'⟩

def RetBat (w : World) (b : Nat) (e : Ending) (w' : World) : Prop :=
  ∃ (p : ByteArray) (x1 x2 x3 x4 : Int), e = .returned (.agg #[.string p, .int .i64 x1, .int .i64 x2, .int .i64 x3, .int .i64 x4]) ∧ p.size ≤ 13 ∧ (0 ≤ x1 ∧ x1 ≤ 999999999) ∧ (0 ≤ x2 ∧ x2 ≤ 999999999) ∧ (0 ≤ x3 ∧ x3 ≤ 999999999) ∧ (0 ≤ x4 ∧ x4 ≤ 999999999) ∧ Src w' b ∧ w.grownBy w' (some b)

/-- block g is a batch that the draw itself has made -/
def BatAt (W : World) (g : Nat) : Prop := ∃ (p : ByteArray) (x1 x2 x3 x4 : Int), W.heap[g]? = some (.cells #[.string p, .int .i64 x1, .int .i64 x2, .int .i64 x3, .int .i64 x4] 25 (0, 0)) ∧ p.size ≤ 13 ∧ (0 ≤ x1 ∧ x1 ≤ 999999999) ∧ (0 ≤ x2 ∧ x2 ≤ 999999999) ∧ (0 ≤ x3 ∧ x3 ≤ 999999999) ∧ (0 ≤ x4 ∧ x4 ≤ 999999999)
theorem heap_cell {w : World} {g : Nat} {C : Array Value} {t : TypeId} (h : w.heap[g]? = some (.cells C t (0, 0))) : ∀ i, w.cell? ⟨g, i, none⟩ = C[i]? := fun i => by simp [World.cell?, h]
theorem heap_frozen {w : World} {g : Nat} {C : Array Value} {t : TypeId} (h : w.heap[g]? = some (.cells C t (0, 0))) : ∀ i, w.frozen? ⟨g, i, none⟩ = false := fun i => by simp [World.frozen?, h]
theorem stB_set {b g i : Nat} {w0 w : World} {v : Value} (hst : StB b w0 w) (hbg : b < g) (hwg : w0.heap.size ≤ g) : StB b w0 (w.setCell ⟨g, i, none⟩ v) :=
  ⟨hst.1.kept (grownBy_set w g i v) (fun k e => by have := Option.some.inj e; omega), hst.2.andThen (grownBy_set w g i v) (fun j e => by have := Option.some.inj e; omega)⟩
theorem set5 {b g : Nat} {w0 w : World} {o0 o1 o2 o3 o4 v0 v1 v2 v3 v4 : Value} {t : TypeId} (hst : StB b w0 w) (hbg : b < g) (hwg : w0.heap.size ≤ g) (hg : w.heap[g]? = some (.cells #[o0, o1, o2, o3, o4] t (0, 0))) :
    let W := ((((w.setCell ⟨g, 0, none⟩ v0).setCell ⟨g, 1, none⟩ v1).setCell ⟨g, 2, none⟩ v2).setCell ⟨g, 3, none⟩ v3).setCell ⟨g, 4, none⟩ v4
    StB b w0 W ∧ W.heap[g]? = some (.cells #[v0, v1, v2, v3, v4] t (0, 0)) :=
  ⟨stB_set (stB_set (stB_set (stB_set (stB_set hst hbg hwg) hbg hwg) hbg hwg) hbg hwg) hbg hwg, src_set (src_set (src_set (src_set (src_set hg 0 v0) 1 v1) 2 v2) 3 v3) 4 v4⟩

theorem BatAt.kept {W W' : World} {b g : Nat} (h : BatAt W g) (hg : W.grownBy W' (some b)) (hbg : b < g) : BatAt W' g := by
  obtain ⟨p, x1, x2, x3, x4, hh, hr⟩ := h
  refine ⟨p, x1, x2, x3, x4, ?_, hr⟩
  rw [hg.block _ (Array.getElem?_eq_some_iff.1 hh).1 (by simp; omega)]
  exact hh
theorem stB_trans {b : Nat} {w0 w w' : World} (hst : StB b w0 w) (hs : Src w' b) (hg : w.grownBy w' (some b)) : StB b w0 w' := ⟨hs, grownBy_trans hst.2 hg⟩
/-- the end: the batch is read and lies in the result's box -/
theorem retBat_of {w W : World} {b : Nat} {v0 v1 v2 v3 v4 : Value} {o : Obj} {w0 : World} (hlt : b < w.heap.size) (hw : w.alloc o = w0) (hst : StB b w0 W) {p : ByteArray} {x1 x2 x3 x4 : Int} (hb : p.size ≤ 13 ∧ (0 ≤ x1 ∧ x1 ≤ 999999999) ∧ (0 ≤ x2 ∧ x2 ≤ 999999999) ∧ (0 ≤ x3 ∧ x3 ≤ 999999999) ∧ (0 ≤ x4 ∧ x4 ≤ 999999999)) :
    RetBat w b (.returned (.agg #[.string p, .int .i64 x1, .int .i64 x2, .int .i64 x3, .int .i64 x4])) (((((W.setCell ⟨w.heap.size, 0, none⟩ v0).setCell ⟨w.heap.size, 1, none⟩ v1).setCell ⟨w.heap.size, 2, none⟩ v2).setCell ⟨w.heap.size, 3, none⟩ v3).setCell ⟨w.heap.size, 4, none⟩ v4) := by
  subst hw
  have h0 : StB b w W := ⟨hst.1, grownBy_trans (World.grownBy_alloc _ _ _) hst.2⟩
  have h5 := stB_set (v := v4) (i := 4) (stB_set (v := v3) (i := 3) (stB_set (v := v2) (i := 2) (stB_set (v := v1) (i := 1) (stB_set (v := v0) (i := 0) h0 hlt (Nat.le_refl _)) hlt (Nat.le_refl _)) hlt (Nat.le_refl _)) hlt (Nat.le_refl _)) hlt (Nat.le_refl _)
  exact ⟨p, x1, x2, x3, x4, rfl, hb.1, hb.2.1, hb.2.2.1, hb.2.2.2.1, hb.2.2.2.2, h5.1, h5.2⟩

theorem tab_kept {b n : Nat} {p : Value → Prop} {W1 W2 : World} {C : Array Value} {t : TypeId} {r : Int} (hlt : b < W1.heap.size) (hg : (W1.alloc (.cells C t (0, 0))).grownBy W2 (some b)) (hn : ∀ i, i < n → ∃ u, C[i]? = some u ∧ p u) (h0 : 0 ≤ r) (h1 : r < n) :
    ∃ u, W2.cell? ⟨W1.heap.size, r.toNat, none⟩ = some u ∧ p u := by
  obtain ⟨u, c1, c2⟩ := hn r.toNat (by omega)
  exact ⟨u, kept_cell hg hlt (by rw [box1 (Below.refl _ _)]; exact c1), c2⟩

set_option maxRecDepth 100000 in
set_option maxHeartbeats 2000000 in
theorem l31Draw_any (b : Nat) (w : World) (hs : Src w b) :
    Calls Tryd.prog 31 #[.pointer (some ⟨b, 0, none⟩)] w (RetBat w b) := by
  have hlt := hs.lt
  have HS := Lib.hid hs
  clear hs
  go_enter Tryd.func31, Tryd.ntmps31
  go_wp2_with fail
  refine wp_region_rs (Keep := KeepB b) [3, 4, 5, 6, 7, 8, 9, 10, 11, 12, 13, 14, 15, 16, 17, 18, 19, 20] (fun us => _)
    [spTab b 4 (StrB 13), spEq b (.pointer (some ⟨b, 0, none⟩)), spV b (NumB 0 3), spAt b (StrB 13), spV b (StrB 13), spEq b (.pointer (some ⟨b, 0, none⟩)), spV b (NumB 0 499), spEq b (.pointer (some ⟨b, 0, none⟩)), spV b (NumB 0 3), spV b (NumB 1 4),
     spEq b (.pointer (some ⟨b, 0, none⟩)), spV b (NumB 0 7), spV b (NumB 1 8), spEq b (.pointer (some ⟨b, 0, none⟩)), spV b (NumB 0 3), spV b (NumB 3 6), spV b BatV, spNew b (w.heap.size + 1) (.cells #[.string ⟨#[]⟩, .int .i64 0, .int .i64 0, .int .i64 0, .int .i64 0] 25 (0, 0))]
    (StB b (w.alloc (.cells #[.string ⟨#[]⟩, .int .i64 0, .int .i64 0, .int .i64 0, .int .i64 0] 25 (0, 0)))) (by kernel_rfl) (by kernel_rfl) (Nat.le_of_ble_eq_true rfl) (fun us => by simp [over, List.mapIdx_cons]; exact rfl) ?_ (fun w => World.grownBy.refl _ _) ?_ ?_
  · refine ⟨HS.out.kept (row := none) (w' := World.drew _) ?_ (by simp), ?_⟩
    · exact grownBy_trans (World.grownBy_alloc w _ none) (grownBy_drewN _ 1 _)
    · exact grownBy_drewN _ 1 _
  · refine ⟨?_, ?_, ?_, ?_, ?_, ?_, ?_, ?_, ?_, ?_, ?_, ?_, ?_, ?_, ?_, ?_, ?_, ?_, trivial⟩
    all_goals (intro us w1 hst hd; rw [if_pos (by kernel_rfl)]; dsimp only)
    · clear hd
      go_simp
      exact rs_tab hst (fourT (strB _ (by decide)) (strB _ (by decide)) (strB _ (by decide)) (strB _ (by decide)))
    · clear hd
      go_simp
      exact rs_same hst rfl
    · have d5 : us 5 = .pointer (some ⟨b, 0, none⟩) := hd ⟨1, .data⟩ (by simp) rfl
      clear hd
      go_simp
      exact next_rs hst (by decide) (by decide) (by decide) (by decide)
    · have d4 : TabP b 4 (StrB 13) (us 4) w1 := hd ⟨0, .data⟩ (by simp) rfl
      have d6 : NumB 0 3 (us 6) := hd ⟨2, .data⟩ (by simp) rfl
      clear hd
      obtain ⟨g, e4, hbg, hcs⟩ := d4
      obtain ⟨r6, e6, l6, u6⟩ := d6
      have hu : r6 < 4 := by omega
      obtain ⟨u, hc, hq⟩ := hcs r6.toNat (by omega)
      replace hc := Lib.hid hc
      go_simp
      exact rs_same hst ⟨g, _, u, rfl, hbg, hc.out, hq⟩
    · have d7 : AtP b (StrB 13) (us 7) w1 := hd ⟨3, .data⟩ (by simp) rfl
      clear hd
      obtain ⟨g, i, u, e7, hbg, hc, q, rfl, hq⟩ := d7
      go_simp
      exact rs_same hst ⟨_, rfl, hq⟩
    · clear hd
      go_simp
      exact rs_same hst rfl
    · have d9 : us 9 = .pointer (some ⟨b, 0, none⟩) := hd ⟨5, .data⟩ (by simp) rfl
      clear hd
      go_simp
      exact next_rs hst (by decide) (by decide) (by decide) (by decide)
    · clear hd
      go_simp
      exact rs_same hst rfl
    · have d11 : us 11 = .pointer (some ⟨b, 0, none⟩) := hd ⟨7, .data⟩ (by simp) rfl
      clear hd
      go_simp
      exact next_rs hst (by decide) (by decide) (by decide) (by decide)
    · have d12 : NumB 0 3 (us 12) := hd ⟨8, .data⟩ (by simp) rfl
      clear hd
      obtain ⟨r12, e12, l12, u12⟩ := d12
      have hw : IntKind.i64.wrap (1 + r12) = 1 + r12 := IntWalk.i64_in _ (by omega)
      have hr : NumB 1 4 (.int .i64 (1 + r12)) := numB _ (by omega) (by omega)
      replace hr := Lib.hid hr
      go_simp
      exact rs_same hst hr.out
    · clear hd
      go_simp
      exact rs_same hst rfl
    · have d14 : us 14 = .pointer (some ⟨b, 0, none⟩) := hd ⟨10, .data⟩ (by simp) rfl
      clear hd
      go_simp
      exact next_rs hst (by decide) (by decide) (by decide) (by decide)
    · have d15 : NumB 0 7 (us 15) := hd ⟨11, .data⟩ (by simp) rfl
      clear hd
      obtain ⟨r15, e15, l15, u15⟩ := d15
      have hw : IntKind.i64.wrap (1 + r15) = 1 + r15 := IntWalk.i64_in _ (by omega)
      have hr : NumB 1 8 (.int .i64 (1 + r15)) := numB _ (by omega) (by omega)
      replace hr := Lib.hid hr
      go_simp
      exact rs_same hst hr.out
    · clear hd
      go_simp
      exact rs_same hst rfl
    · have d17 : us 17 = .pointer (some ⟨b, 0, none⟩) := hd ⟨13, .data⟩ (by simp) rfl
      clear hd
      go_simp
      exact next_rs hst (by decide) (by decide) (by decide) (by decide)
    · have d18 : NumB 0 3 (us 18) := hd ⟨14, .data⟩ (by simp) rfl
      clear hd
      obtain ⟨r18, e18, l18, u18⟩ := d18
      have hw : IntKind.i64.wrap (3 + r18) = 3 + r18 := IntWalk.i64_in _ (by omega)
      have hr : NumB 3 6 (.int .i64 (3 + r18)) := numB _ (by omega) (by omega)
      replace hr := Lib.hid hr
      go_simp
      exact rs_same hst hr.out
    · have d8 : StrB 13 (us 8) := hd ⟨4, .data⟩ (by simp) rfl
      have d10 : NumB 0 499 (us 10) := hd ⟨6, .data⟩ (by simp) rfl
      have d13 : NumB 1 4 (us 13) := hd ⟨9, .data⟩ (by simp) rfl
      have d16 : NumB 1 8 (us 16) := hd ⟨12, .data⟩ (by simp) rfl
      have d19 : NumB 3 6 (us 19) := hd ⟨15, .data⟩ (by simp) rfl
      clear hd
      obtain ⟨q8, e8, h8⟩ := d8
      obtain ⟨r10, e10, l10, u10⟩ := d10
      obtain ⟨r13, e13, l13, u13⟩ := d13
      obtain ⟨r16, e16, l16, u16⟩ := d16
      obtain ⟨r19, e19, l19, u19⟩ := d19
      go_simp
      exact rs_same hst ⟨q8, r10, r13, r16, r19, rfl, h8, by omega, by omega, by omega, by omega⟩
    · clear hd
      go_simp
      exact rs_new hst (by simp)
  · intro us w1 hst hd
    have d20 : BatV (us 20) := hd 16 (by simp)
    have d3 : NewP b (w.heap.size + 1) (.cells #[.string ⟨#[]⟩, .int .i64 0, .int .i64 0, .int .i64 0, .int .i64 0] 25 (0, 0)) (us 3) w1 := hd 17 (by simp)
    clear hd
    obtain ⟨p, x1, x2, x3, x4, e20, hbs⟩ := d20
    obtain ⟨g, e3, ⟨hbg, hwg⟩, hg⟩ := d3
    have HB := Lib.hid hbs
    clear hbs
    have HST := Lib.hid hst
    clear hst
    have HG := Lib.hid hg
    have hc := heap_cell hg
    have hf := heap_frozen hg
    clear hg
    simp only [List.drop, List.length]
    go_wp2_with fail
    obtain ⟨hst2, hg2⟩ := set5 (v0 := .string p) (v1 := .int .i64 x1) (v2 := .int .i64 x2) (v3 := .int .i64 x3) (v4 := .int .i64 x4) HST.out hbg (by simpa using hwg) HG.out
    generalize ((((w1.setCell ⟨g, 0, none⟩ (.string p)).setCell ⟨g, 1, none⟩ (.int .i64 x1)).setCell ⟨g, 2, none⟩ (.int .i64 x2)).setCell ⟨g, 3, none⟩ (.int .i64 x3)).setCell ⟨g, 4, none⟩ (.int .i64 x4) = W at *
    clear hc hf HG HST e20 w1
    have hB : BatAt W g := ⟨p, x1, x2, x3, x4, hg2, HB.out⟩
    clear HB hg2 x1 x2 x3 x4 p
    have hlw : w.heap.size < (w.alloc (.cells #[.string ⟨#[]⟩, .int .i64 0, .int .i64 0, .int .i64 0, .int .i64 0] 25 (0, 0))).heap.size := by simp
    have hwg0 : (w.alloc (.cells #[.string ⟨#[]⟩, .int .i64 0, .int .i64 0, .int .i64 0, .int .i64 0] 25 (0, 0))).heap.size ≤ g := by simpa using hwg
    clear hwg
    have hw1 : (w.alloc (.cells #[.string ⟨#[]⟩, .int .i64 0, .int .i64 0, .int .i64 0, .int .i64 0] 25 (0, 0))).heap[w.heap.size]? = some (.cells #[.string ⟨#[]⟩, .int .i64 0, .int .i64 0, .int .i64 0, .int .i64 0] 25 (0, 0)) := Array.getElem?_push_size
    generalize hw0 : w.alloc (.cells #[.string ⟨#[]⟩, .int .i64 0, .int .i64 0, .int .i64 0, .int .i64 0] 25 (0, 0)) = w0 at *
    have HW0 := Lib.hid hw0
    clear hw0
    refine (l01Next_any b 24 W hst2.1 (by decide) (by decide)).mono ?_
    rintro e W1 ⟨r, rfl, r0, r1, hs1, hg1⟩
    have hB1 := Lib.hid (hB.kept hg1 hbg)
    have hst1 := Lib.hid (stB_trans hst2 hs1 hg1)
    clear hs1 hg1 hB hst2
    have hr : r = 0 ∨ r = 1 ∨ r = 2 ∨ r = 3 ∨ r = 4 ∨ 5 ≤ r := by omega
    clear r0 r1
    rcases hr with rfl | rfl | rfl | rfl | rfl | hr
    · go_wp2_with fail
      refine (l01Next_any b 4 _ (hst1.out.1.kept (World.grownBy_alloc _ _ none) (by simp)) (by decide) (by decide)).mono ?_
      rintro e W2 ⟨r, rfl, r0, r1, hs2, hg2⟩
      obtain ⟨u, hu, q, rfl, hq⟩ := tab_kept (n := 4) hst1.out.1.lt hg2 (fourT (strB (n := 13) _ (by decide)) (strB (n := 13) _ (by decide)) (strB (n := 13) _ (by decide)) (strB (n := 13) _ (by decide))) r0 (by omega)
      have hg12 := grownBy_trans (World.grownBy_alloc W1 _ _) hg2
      have hst2 := stB_trans hst1.out hs2 hg12
      obtain ⟨p, x1, x2, x3, x4, hh, hb⟩ := hB1.out.kept hg12 hbg
      have hc := heap_cell hh
      have hf := heap_frozen hh
      have hv : r < 4 := by omega
      have hrb : W2.heap[w.heap.size]? = _ := hst2.2.block w.heap.size hlw (by simp; omega) ▸ hw1
      have hrc := heap_cell hrb
      have hrf := heap_frozen hrb
      have hne : ¬ g = w.heap.size := by omega
      have HX := Lib.hid (And.intro hst2 hb)
      have HQ := Lib.hid hq
      clear hst2 hb hg12 hg2 hs2 hh hrb hq
      go_wp2_with fail
      exact bodyPost_ret (v := .agg #[.string q, .int .i64 x1, .int .i64 x2, .int .i64 x3, .int .i64 x4]) (by simp [results, Tryd.results31, go_sem, hrc]) rfl (retBat_of hlt HW0.out (stB_set HX.out.1 hbg hwg0) ⟨HQ.out, HX.out.2.2.1, HX.out.2.2.2.1, HX.out.2.2.2.2.1, HX.out.2.2.2.2.2⟩)
    · go_wp2_with fail
      refine (l01Next_any b 4 _ (hst1.out.1.kept (World.grownBy_alloc _ _ none) (by simp)) (by decide) (by decide)).mono ?_
      rintro e W2 ⟨r, rfl, r0, r1, hs2, hg2⟩
      obtain ⟨u, hu, q, rfl, hq, hq2⟩ := tab_kept (n := 4) hst1.out.1.lt hg2 (fourT (numB (lo := 0) (hi := 10) _ (by decide) (by decide)) (numB (lo := 0) (hi := 10) _ (by decide) (by decide)) (numB (lo := 0) (hi := 10) _ (by decide) (by decide)) (numB (lo := 0) (hi := 10) _ (by decide) (by decide))) r0 (by omega)
      have hg12 := grownBy_trans (World.grownBy_alloc W1 _ _) hg2
      have hst2 := stB_trans hst1.out hs2 hg12
      obtain ⟨p, x1, x2, x3, x4, hh, hb⟩ := hB1.out.kept hg12 hbg
      have hc := heap_cell hh
      have hf := heap_frozen hh
      have hv : r < 4 := by omega
      have hrb : W2.heap[w.heap.size]? = _ := hst2.2.block w.heap.size hlw (by simp; omega) ▸ hw1
      have hrc := heap_cell hrb
      have hrf := heap_frozen hrb
      have hne : ¬ g = w.heap.size := by omega
      have HX := Lib.hid (And.intro hst2 hb)
      have HQ := Lib.hid (And.intro hq hq2)
      clear hst2 hb hg12 hg2 hs2 hh hrb hq hq2
      go_wp2_with fail
      exact bodyPost_ret (v := .agg #[.string p, .int .i64 x1, .int .i64 x2, .int .i64 x3, .int .i64 q]) (by simp [results, Tryd.results31, go_sem, hrc]) rfl (retBat_of hlt HW0.out (stB_set HX.out.1 hbg hwg0) ⟨HX.out.2.1, HX.out.2.2.1, HX.out.2.2.2.1, HX.out.2.2.2.2.1, ⟨HQ.out.1, Int.le_trans HQ.out.2 (by decide)⟩⟩)
    · go_wp2_with fail
      refine (l01Next_any b 3 _ (hst1.out.1.kept (World.grownBy_alloc _ _ none) (by simp)) (by decide) (by decide)).mono ?_
      rintro e W2 ⟨r, rfl, r0, r1, hs2, hg2⟩
      obtain ⟨u, hu, q, rfl, hq, hq2⟩ := tab_kept (n := 3) hst1.out.1.lt hg2 (threeT (numB (lo := 0) (hi := 201) _ (by decide) (by decide)) (numB (lo := 0) (hi := 201) _ (by decide) (by decide)) (numB (lo := 0) (hi := 201) _ (by decide) (by decide))) r0 (by omega)
      have hg12 := grownBy_trans (World.grownBy_alloc W1 _ _) hg2
      have hst2 := stB_trans hst1.out hs2 hg12
      obtain ⟨p, x1, x2, x3, x4, hh, hb⟩ := hB1.out.kept hg12 hbg
      have hc := heap_cell hh
      have hf := heap_frozen hh
      have hv : r < 3 := by omega
      have hrb : W2.heap[w.heap.size]? = _ := hst2.2.block w.heap.size hlw (by simp; omega) ▸ hw1
      have hrc := heap_cell hrb
      have hrf := heap_frozen hrb
      have hne : ¬ g = w.heap.size := by omega
      have HX := Lib.hid (And.intro hst2 hb)
      have HQ := Lib.hid (And.intro hq hq2)
      clear hst2 hb hg12 hg2 hs2 hh hrb hq hq2
      go_wp2_with fail
      exact bodyPost_ret (v := .agg #[.string p, .int .i64 x1, .int .i64 x2, .int .i64 q, .int .i64 x4]) (by simp [results, Tryd.results31, go_sem, hrc]) rfl (retBat_of hlt HW0.out (stB_set HX.out.1 hbg hwg0) ⟨HX.out.2.1, HX.out.2.2.1, HX.out.2.2.2.1, ⟨HQ.out.1, Int.le_trans HQ.out.2 (by decide)⟩, HX.out.2.2.2.2.2⟩)
    · go_wp2_with fail
      refine (l01Next_any b 3 _ hst1.out.1 (by decide) (by decide)).mono ?_
      rintro e W2 ⟨r, rfl, r0, r1, hs2, hg12⟩
      have hst2 := stB_trans hst1.out hs2 hg12
      obtain ⟨p, x1, x2, x3, x4, hh, _⟩ := hB1.out.kept hg12 hbg
      have hc := heap_cell hh
      have hf := heap_frozen hh
      have hv : r < 3 := by omega
      have hw : IntKind.i64.wrap (2 + r) = 2 + r := IntWalk.i64_in _ (by omega)
      have hrb : W2.heap[w.heap.size]? = _ := hst2.2.block w.heap.size hlw (by simp; omega) ▸ hw1
      have hrc := heap_cell hrb
      have hrf := heap_frozen hrb
      have hne : ¬ g = w.heap.size := by omega
      have HX := Lib.hid (And.intro hst2 hh)
      have HQ := Lib.hid (show 0 ≤ 2 + r ∧ 2 + r ≤ 999999999 from ⟨by omega, by omega⟩)
      clear hst2 hg12 hs2 hh hrb
      go_wp2_with fail
      exact bodyPost_ret (v := .agg #[.string ⟨#[]⟩, .int .i64 999999997, .int .i64 1, .int .i64 (2 + r), .int .i64 9]) (by simp [results, Tryd.results31, go_sem, hrc]) rfl (retBat_of hlt HW0.out (set5 HX.out.1 hbg hwg0 HX.out.2).1 ⟨by decide, by decide, by decide, HQ.out, by decide⟩)
    · go_wp2_with fail
      refine (l01Next_any b 3 _ (hst1.out.1.kept (World.grownBy_alloc _ _ none) (by simp)) (by decide) (by decide)).mono ?_
      rintro e W2 ⟨r, rfl, r0, r1, hs2, hg2⟩
      obtain ⟨u, hu, q, rfl, hq, hq2⟩ := tab_kept (n := 3) hst1.out.1.lt hg2 (threeT (numB (lo := 0) (hi := 1001) _ (by decide) (by decide)) (numB (lo := 0) (hi := 1001) _ (by decide) (by decide)) (numB (lo := 0) (hi := 1001) _ (by decide) (by decide))) r0 (by omega)
      have hg12 := grownBy_trans (World.grownBy_alloc W1 _ _) hg2
      have hst2 := stB_trans hst1.out hs2 hg12
      obtain ⟨p, x1, x2, x3, x4, hh, hb⟩ := hB1.out.kept hg12 hbg
      have hc := heap_cell hh
      have hf := heap_frozen hh
      have hv : r < 3 := by omega
      have hrb : W2.heap[w.heap.size]? = _ := hst2.2.block w.heap.size hlw (by simp; omega) ▸ hw1
      have hrc := heap_cell hrb
      have hrf := heap_frozen hrb
      have hne : ¬ g = w.heap.size := by omega
      have HX := Lib.hid (And.intro hst2 hb)
      have HQ := Lib.hid (And.intro hq hq2)
      clear hst2 hb hg12 hg2 hs2 hh hrb hq hq2
      go_wp2_with fail
      exact bodyPost_ret (v := .agg #[.string p, .int .i64 x1, .int .i64 q, .int .i64 x3, .int .i64 x4]) (by simp [results, Tryd.results31, go_sem, hrc]) rfl (retBat_of hlt HW0.out (stB_set HX.out.1 hbg hwg0) ⟨HX.out.2.1, HX.out.2.2.1, ⟨HQ.out.1, Int.le_trans HQ.out.2 (by decide)⟩, HX.out.2.2.2.2.1, HX.out.2.2.2.2.2⟩)
    · have q0 : ¬ r = 0 := by omega
      have q1 : ¬ r = 1 := by omega
      have q2 : ¬ r = 2 := by omega
      have q3 : ¬ r = 3 := by omega
      have q4 : ¬ r = 4 := by omega
      clear hr
      obtain ⟨p, x1, x2, x3, x4, hh, hb⟩ := hB1.out
      have hc := heap_cell hh
      have hf := heap_frozen hh
      have hrb : W1.heap[w.heap.size]? = _ := hst1.out.2.block w.heap.size hlw (by simp; omega) ▸ hw1
      have hrc := heap_cell hrb
      have hrf := heap_frozen hrb
      have hne : ¬ g = w.heap.size := by omega
      have HX := Lib.hid hb
      clear hb hh hrb
      go_wp2_with fail
      exact bodyPost_ret (v := .agg #[.string p, .int .i64 x1, .int .i64 x2, .int .i64 x3, .int .i64 x4]) (by simp [results, Tryd.results31, go_sem, hrc]) rfl (retBat_of hlt HW0.out hst1.out HX.out)

end Go.Proofs.YtnijdfdcjjbneaaDoor
