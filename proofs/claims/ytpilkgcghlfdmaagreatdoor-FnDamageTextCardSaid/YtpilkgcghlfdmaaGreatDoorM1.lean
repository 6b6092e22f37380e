import Derived.Test.YtpilkgcghlfdmaaGreatDoorM0
import Derived.Lib.AppendStr
import Derived.Laws.BytesArg
import Derived.Lib.SplitLaws
import Derived.Lib.ParseIntBCases
import Derived.Lib.ItoaLen
import Derived.ArgAppend
import Derived.BigQuiet
import Derived.Laws.AppendOwnNone
import Derived.Deep.RegionHeld3
import Derived.Lib.SlSplitV
namespace Go.Proofs.YtpilkgcghlfdmaaGreatDoor
open Go.RowKit

/-- a text is handed back, the source goes on -/
def RetDmg (w : World) (b n : Nat) (e : Ending) (w' : World) : Prop := ∃ s : ByteArray, e = .returned (.string s) ∧ s.size ≤ n ∧ Src w' b ∧ w.grownBy w' (some b)
theorem eightT {p : Value → Prop} {a b c d e f g h : Value} (h0 : p a) (h1 : p b) (h2 : p c) (h3 : p d) (h4 : p e) (h5 : p f) (h6 : p g) (h7 : p h) : ∀ i, i < 8 → ∃ u, (#[a, b, c, d, e, f, g, h] : Array Value)[i]? = some u ∧ p u
  | 0, _ => ⟨_, rfl, h0⟩
  | 1, _ => ⟨_, rfl, h1⟩
  | 2, _ => ⟨_, rfl, h2⟩
  | 3, _ => ⟨_, rfl, h3⟩
  | 4, _ => ⟨_, rfl, h4⟩
  | 5, _ => ⟨_, rfl, h5⟩
  | 6, _ => ⟨_, rfl, h6⟩
  | 7, _ => ⟨_, rfl, h7⟩
theorem ext_size (s : ByteArray) (i j : Nat) : (s.extract i j).size = min j s.size - i := ByteArray.size_extract

set_option maxRecDepth 100000 in
set_option maxHeartbeats 1000000 in
theorem l01Damage_any (b : Nat) (s : ByteArray) (n : Nat) (w : World) (hs : Src w b) (hn : s.size ≤ n) (hn2 : n ≤ 1099511627776) :
    Calls Tryz.prog 59 #[.pointer (some ⟨b, 0, none⟩), .string s] w (RetDmg w b (n + 1)) := by
  have HS := Lib.hid hs
  clear hs
  go_enter Tryz.func59, Tryz.ntmps59
  go_wp2_with fail
  refine (l01Next_any b _ _ HS.out (by omega) (by omega)).mono ?_
  rintro e w1 ⟨r, rfl, r0, r1, hs1, hg1⟩
  have HS1 := Lib.hid hs1
  have HG1 := Lib.hid hg1
  obtain ⟨k, rfl⟩ := Int.eq_ofNat_of_zero_le r0
  have hk : k ≤ s.size := by omega
  clear hs1 hg1 r1 r0
  go_wp2_with fail
  refine (l01Next_any b 8 _ HS1.out (by decide) (by decide)).mono ?_
  rintro e w2 ⟨q, rfl, q0, q1, hs2, hg2⟩
  have HS2 := Lib.hid hs2
  have HG2 := Lib.hid (grownBy_trans HG1.out hg2)
  clear hs2 hg2
  have hq : q = 0 ∨ q = 1 ∨ q = 2 ∨ 3 ≤ q := by omega
  clear q1
  have hki : (k : Int) ≤ (s.size : Int) := by omega
  rcases hq with rfl | rfl | rfl | hq
  · go_wp2_with fail
    go_ret
    exact ⟨_, rfl, by rw [ext_size]; omega, HS2.out, HG2.out⟩
  · go_wp2_with fail
    refine wp_region_rs (Keep := KeepB b) [20, 21, 22, 23, 24, 25, 26, 27, 28, 29, 30, 31, 32] (fun us => _)
      [spEq b (.string s), spEq b (.int .i64 k), spEq b (.string (s.extract 0 k)), spTab b 8 (StrB 1), spEq b (.pointer (some ⟨b, 0, none⟩)), spV b (NumB 0 7), spAt b (StrB 1), spV b (StrB 1), spV b (StrB (k + 1)), spEq b (.string s), spEq b (.int .i64 k), spEq b (.string (s.extract k s.size)), spV b (StrB (n + 1))]
      (StB b w2) (by kernel_rfl) (by kernel_rfl) (Nat.le_of_ble_eq_true rfl) (fun us => by simp [over, List.mapIdx_cons]; exact rfl) ?_ (fun w => World.grownBy.refl _ _) ?_ ?_
    · exact ⟨HS2.out.kept (row := none) (w' := World.drew w2) (grownBy_drewN w2 1 none) (by simp), grownBy_drewN w2 1 _⟩
    · refine ⟨?_, ?_, ?_, ?_, ?_, ?_, ?_, ?_, ?_, ?_, ?_, ?_, ?_, trivial⟩
      all_goals (intro us wr hst hd; rw [if_pos (by kernel_rfl)]; dsimp only)
      · clear hd
        go_simp
        exact rs_same hst rfl
      · clear hd
        go_simp
        exact rs_same hst rfl
      · have d20 : us 20 = .string s := hd ⟨0, .data⟩ (by simp) rfl
        have d21 : us 21 = .int .i64 k := hd ⟨1, .data⟩ (by simp) rfl
        clear hd
        go_simp
        exact rs_same hst rfl
      · clear hd
        go_simp
        exact rs_tab hst (eightT (strB _ (by decide)) (strB _ (by decide)) (strB _ (by decide)) (strB _ (by decide)) (strB _ (by decide)) (strB _ (by decide)) (strB _ (by decide)) (strB _ (by decide)))
      · clear hd
        go_simp
        exact rs_same hst rfl
      · have d24 : us 24 = .pointer (some ⟨b, 0, none⟩) := hd ⟨4, .data⟩ (by simp) rfl
        clear hd
        go_simp
        exact next_rs hst (by decide) (by decide) (by decide) (by decide)
      · have d23 : TabP b 8 (StrB 1) (us 23) wr := hd ⟨3, .data⟩ (by simp) rfl
        have d25 : NumB 0 7 (us 25) := hd ⟨5, .data⟩ (by simp) rfl
        clear hd
        obtain ⟨g, e23, hbg, hcs⟩ := d23
        obtain ⟨r, e25, l25, u25⟩ := d25
        have hu : r < 8 := by omega
        obtain ⟨u, hc, hq⟩ := hcs r.toNat (by omega)
        replace hc := Lib.hid hc
        go_simp
        exact rs_same hst ⟨g, _, u, rfl, hbg, hc.out, hq⟩
      · have d26 : AtP b (StrB 1) (us 26) wr := hd ⟨6, .data⟩ (by simp) rfl
        clear hd
        obtain ⟨g, i, u, e26, hbg, hc, q, rfl, hq⟩ := d26
        go_simp
        exact rs_same hst ⟨_, rfl, hq⟩
      · have d22 : us 22 = .string (s.extract 0 k) := hd ⟨2, .data⟩ (by simp) rfl
        have d27 : StrB 1 (us 27) := hd ⟨7, .data⟩ (by simp) rfl
        clear hd
        obtain ⟨q, e27, hq⟩ := d27
        have hsz : (s.extract 0 k).size ≤ k := by rw [ext_size]; omega
        obtain ⟨x, hx⟩ : ∃ x, s.extract 0 k = x := ⟨_, rfl⟩
        rw [hx] at d22 hsz
        clear hx
        have hs1 : ¬ 9223372036854775807 < x.size + q.size := by omega
        have hs2 : (x ++ q).size ≤ k + 1 := by rw [ByteArray.size_append]; omega
        have HS2' := Lib.hid hs2
        clear hs2
        go_simp

        exact rs_same hst ⟨_, rfl, HS2'.out⟩
      · clear hd
        go_simp
        exact rs_same hst rfl
      · clear hd
        go_simp
        exact rs_same hst rfl
      · have d29 : us 29 = .string s := hd ⟨9, .data⟩ (by simp) rfl
        have d30 : us 30 = .int .i64 k := hd ⟨10, .data⟩ (by simp) rfl
        clear hd
        go_simp
        exact rs_same hst rfl
      · have d28 : StrB (k + 1) (us 28) := hd ⟨8, .data⟩ (by simp) rfl
        have d31 : us 31 = .string (s.extract k s.size) := hd ⟨11, .data⟩ (by simp) rfl
        clear hd
        obtain ⟨x, e28, hx⟩ := d28
        have hsz : (s.extract k s.size).size = s.size - k := by rw [ext_size]; omega
        obtain ⟨q, hq⟩ : ∃ q, s.extract k s.size = q := ⟨_, rfl⟩
        rw [hq] at d31 hsz
        clear hq
        have hs1 : ¬ 9223372036854775807 < x.size + q.size := by omega
        have hs2 : (x ++ q).size ≤ n + 1 := by rw [ByteArray.size_append]; omega
        have HS2' := Lib.hid hs2
        clear hs2 hsz
        go_simp
        exact rs_same hst ⟨_, rfl, HS2'.out⟩
    · intro us wr hst hd
      have d32 : StrB (n + 1) (us 32) := hd 12 (by simp)
      clear hd
      obtain ⟨x, e32, hx⟩ := d32
      have HST := Lib.hid hst
      clear hst
      simp only [List.drop, List.length]
      rw [e32]
      go_wp2_with fail
      go_ret
      exact ⟨_, rfl, hx, HST.out.1, grownBy_trans HG2.out HST.out.2⟩
  · by_cases hlt : (k : Int) < s.size
    · have hsum : (s.extract 0 k).size + (s.extract (k + 1) s.size).size ≤ n := by rw [ext_size, ext_size]; omega
      have hb1 : (s.extract 0 k).size + (s.extract (k + 1) s.size).size ≤ 9223372036854775807 := by omega
      have hk1 : (k : Int) + 1 ≤ s.size := by omega
      have hw : IntKind.i64.wrap ((k : Int) + 1) = k + 1 := IntWalk.i64_in _ (by omega)
      have ht1 : ((k : Int) + 1).toNat = k + 1 := by omega
      have HSUM := Lib.hid hsum
      clear hsum
      go_wp2_with fail
      go_quiet (fail)
      go_wp2_with fail
      go_ret
      exact ⟨_, rfl, by rw [ByteArray.size_append]; have := HSUM.out; omega, HS2.out.kept (row := none) (grownBy_drewN _ _ none) (by simp), grownBy_trans HG2.out (grownBy_drewN _ _ _)⟩
    · go_wp2_with fail
      go_ret
      exact ⟨_, rfl, by omega, HS2.out, HG2.out⟩
  · have q2 : (q == 0) = false := by simp; omega
    have q3 : (q == 1) = false := by simp; omega
    have q4 : (q == 2) = false := by simp; omega
    go_wp2_with fail
    go_ret
    exact ⟨_, rfl, by omega, HS2.out, HG2.out⟩

end Go.Proofs.YtpilkgcghlfdmaaGreatDoor
namespace Go.Proofs.YtpilkgcghlfdmaaGreatDoor
open Go.RowKit

theorem boxF0 (w : World) (A : Array Value) (t : TypeId) (i : Nat) : (w.alloc (.cells A t (0, 0))).cell? ⟨w.heap.size, i, none⟩ = A[i]? := by simp
theorem boxF1 (w : World) (A : Array Value) (t : TypeId) (i : Nat) : (w.alloc (.cells A t (0, 0))).frozen? ⟨w.heap.size, i, none⟩ = false := by simp
/-- two new blocks' cells, behind a call -/
theorem box2s {w w1 : World} {A B : Array Value} {t u : TypeId} (hb : Below ((w.alloc (.cells A t (0, 0))).alloc (.cells B u (0, 0))).heap.size ((w.alloc (.cells A t (0, 0))).alloc (.cells B u (0, 0))) w1) :
    (∀ i, w1.cell? ⟨w.heap.size, i, none⟩ = A[i]?) ∧ (∀ i, w1.cell? ⟨w.heap.size + 1, i, none⟩ = B[i]?) ∧ (∀ i, w1.frozen? ⟨w.heap.size + 1, i, none⟩ = false) := by
  refine ⟨fun i => ?_, fun i => ?_, fun i => ?_⟩
  · rw [hb.cell (p := ⟨w.heap.size, i, none⟩) (by simp only [World.size_alloc]; omega)]; simp
  · rw [hb.cell (p := ⟨w.heap.size + 1, i, none⟩) (by simp only [World.size_alloc]; omega)]; simp
  · rw [hb.frozen (p := ⟨w.heap.size + 1, i, none⟩) (by simp only [World.size_alloc]; omega)]; simp
/-- three new blocks' cells, behind a call -/
theorem box3s {w w1 : World} {A B C : Array Value} {t u v : TypeId} (hb : Below (((w.alloc (.cells A t (0, 0))).alloc (.cells B u (0, 0))).alloc (.cells C v (0, 0))).heap.size (((w.alloc (.cells A t (0, 0))).alloc (.cells B u (0, 0))).alloc (.cells C v (0, 0))) w1) :
    (∀ i, w1.cell? ⟨w.heap.size, i, none⟩ = A[i]?) ∧ (∀ i, w1.cell? ⟨w.heap.size + 1, i, none⟩ = B[i]?) ∧ (∀ i, w1.cell? ⟨w.heap.size + 1 + 1, i, none⟩ = C[i]?) ∧ (∀ i, w1.frozen? ⟨w.heap.size + 1 + 1, i, none⟩ = false) ∧ w.heap.size + 1 + 1 < w1.heap.size := by
  refine ⟨fun i => ?_, fun i => ?_, fun i => ?_, fun i => ?_, ?_⟩
  · rw [hb.cell (p := ⟨w.heap.size, i, none⟩) (by simp only [World.size_alloc]; omega), (ba2 (w.alloc (.cells A t (0, 0))) _ _).cell (p := ⟨w.heap.size, i, none⟩) (by simp)]; simp
  · have h := (ba1 ((w.alloc (.cells A t (0, 0))).alloc (.cells B u (0, 0))) (.cells C v (0, 0))).cell (p := ⟨w.heap.size + 1, i, none⟩) (by simp)
    rw [hb.cell (p := ⟨w.heap.size + 1, i, none⟩) (by simp only [World.size_alloc]; omega), h]
    simp
  · rw [hb.cell (p := ⟨w.heap.size + 1 + 1, i, none⟩) (by simp only [World.size_alloc]; omega)]
    have := boxF0 ((w.alloc (.cells A t (0, 0))).alloc (.cells B u (0, 0))) C v i
    simpa using this
  · rw [hb.frozen (p := ⟨w.heap.size + 1 + 1, i, none⟩) (by simp only [World.size_alloc]; omega)]
    have := boxF1 ((w.alloc (.cells A t (0, 0))).alloc (.cells B u (0, 0))) C v i
    simpa using this
  · have := hb.size; simp at this; omega
/-- a block's marks, behind a call -/
theorem freeK {w w1 : World} {b : Nat} (hb : Below w.heap.size w w1) (h : ∀ i, w.frozen? ⟨b, i, none⟩ = false) (h0 : b < w.heap.size) : ∀ i, w1.frozen? ⟨b, i, none⟩ = false := fun i => by
  rw [hb.frozen (p := ⟨b, i, none⟩) h0]; exact h i

/-- a block's cells, where less is kept -/
theorem boxB {w w1 : World} {B b : Nat} {cs : Array Value} (hb : Below B w w1) (h : ∀ i, w.cell? ⟨b, i, none⟩ = cs[i]?) (h0 : b < B) : ∀ i, w1.cell? ⟨b, i, none⟩ = cs[i]? := fun i => by
  rw [hb.cell (p := ⟨b, i, none⟩) h0]; exact h i
theorem freeB {w w1 : World} {B b : Nat} (hb : Below B w w1) (h : ∀ i, w.frozen? ⟨b, i, none⟩ = false) (h0 : b < B) : ∀ i, w1.frozen? ⟨b, i, none⟩ = false := fun i => by
  rw [hb.frozen (p := ⟨b, i, none⟩) h0]; exact h i

end Go.Proofs.YtpilkgcghlfdmaaGreatDoor
namespace Go.Proofs.YtpilkgcghlfdmaaGreatDoor
open Go.RowKit

/-! Regions that draw their order and only read or make memory: what stands in world w0 stands still. -/
def KB (W W' : World) : Prop := Below W.heap.size W W'
def StX (w0 W : World) : Prop := Below w0.heap.size w0 W
def spE (v : Value) : Sp KB := ⟨fun u _ => u = v, fun _ _ _ _ h => h⟩
/-- a slice of n cells, each as f tells -/
def RowF (n : Nat) (f : Nat → Value) (u : Value) (W : World) : Prop := ∃ b, u = .slice (some ⟨b, 0, none⟩) n n ∧ ∀ i, i < n → W.cell? ⟨b, i, none⟩ = some (f i)
theorem RowF.below {n : Nat} {f : Nat → Value} {u : Value} {W W' : World} (h : RowF n f u W) (hb : Below W.heap.size W W') : RowF n f u W' := by
  obtain ⟨b, e, hc⟩ := h
  exact ⟨b, e, fun i hi => by rw [hb.cell (p := ⟨b, i, none⟩) (lt_of_cell (hc i hi))]; exact hc i hi⟩
def spRow (n : Nat) (f : Nat → Value) : Sp KB := ⟨RowF n f, fun _ _ _ hk h => h.below hk⟩
theorem stX0 (w : World) : StX w w.drew := (Below.refl _ _).drew
theorem kbr (w : World) : KB w w := Below.refl _ _
theorem kb_same {w0 W : World} {s : Sp KB} {v : Value} (hst : StX w0 W) (h : s.holds v W) : RsR (StX w0) s W v W := ⟨hst, Below.refl _ _, h⟩
theorem kb_below {w0 W W' : World} {s : Sp KB} {v : Value} (hst : StX w0 W) (hb : Below W.heap.size W W') (h : s.holds v W') : RsR (StX w0) s W v W' := ⟨bt0 hst hb (Nat.le_refl _), hb, h⟩
/-- a slice of the call's own: blocks from base on -/
def spOwn (base : Nat) (zs : List Int) : Sp KB := ⟨fun v W => OwnI W base v zs, fun _ _ _ hk h => h.grown hk⟩

def spN (p : Value → Prop) : Sp (fun _ _ : World => True) := ⟨fun v _ => p v, fun _ _ _ _ h => h⟩
theorem n_same {St : World → Prop} {W : World} {s : Sp (fun _ _ : World => True)} {v : Value} (h : St W) (hs : s.holds v W) : RsR St s W v W := ⟨h, trivial, hs⟩

/-- a raster of the call's own -/
def RasV (base : Nat) (n m : Int) (zs : List Int) (v : Value) (W : World) : Prop := ∃ a c, v = .agg #[.int .i64 n, .int .i64 m, .slice a zs.length c] ∧ OwnI W base (.slice a zs.length c) zs
def spRas (base : Nat) (n m : Int) (zs : List Int) : Sp KB := ⟨RasV base n m zs, fun _ _ _ hk ⟨a, c, e, h⟩ => ⟨a, c, e, h.grown hk⟩⟩

end Go.Proofs.YtpilkgcghlfdmaaGreatDoor
namespace Go.Proofs.YtpilkgcghlfdmaaGreatDoor
open Go.RowKit

theorem push_at (w : World) (A : Obj) : (w.alloc A).heap[w.heap.size]? = some A := Array.getElem?_push_size
theorem push_old {w : World} {i : Nat} {A B : Obj} (h : w.heap[i]? = some B) : (w.alloc A).heap[i]? = some B := ((ba1 w A).block i (Array.getElem?_eq_some_iff.1 h).1).trans h
theorem heap2 (w : World) (A B : Obj) : ((w.alloc A).alloc B).heap[w.heap.size]? = some A ∧ ((w.alloc A).alloc B).heap[w.heap.size + 1]? = some B := by
  refine ⟨push_old (push_at w A), ?_⟩
  have h := push_at (w.alloc A) B
  rw [World.size_alloc] at h
  exact h
theorem heap3 (w : World) (A B C : Obj) : (((w.alloc A).alloc B).alloc C).heap[w.heap.size]? = some A ∧ (((w.alloc A).alloc B).alloc C).heap[w.heap.size + 1]? = some B ∧ (((w.alloc A).alloc B).alloc C).heap[w.heap.size + 1 + 1]? = some C := by
  refine ⟨push_old (heap2 w A B).1, push_old (heap2 w A B).2, ?_⟩
  have h := push_at ((w.alloc A).alloc B) C
  rw [World.size_alloc, World.size_alloc] at h
  exact h
theorem heap4 (w : World) (A B C D : Obj) : ((((w.alloc A).alloc B).alloc C).alloc D).heap[w.heap.size]? = some A ∧ ((((w.alloc A).alloc B).alloc C).alloc D).heap[w.heap.size + 1]? = some B ∧ ((((w.alloc A).alloc B).alloc C).alloc D).heap[w.heap.size + 1 + 1]? = some C ∧ ((((w.alloc A).alloc B).alloc C).alloc D).heap[w.heap.size + 1 + 1 + 1]? = some D := by
  refine ⟨push_old (heap3 w A B C).1, push_old (heap3 w A B C).2.1, push_old (heap3 w A B C).2.2, ?_⟩
  have h := push_at (((w.alloc A).alloc B).alloc C) D
  rw [World.size_alloc, World.size_alloc, World.size_alloc] at h
  exact h
theorem blk {w w' : World} {B i : Nat} {A : Obj} (hb : Below B w w') (h : w.heap[i]? = some A) (hB : i < B) : w'.heap[i]? = some A := (hb.block i hB).trans h
theorem blkK {w w' : World} {i : Nat} {A : Obj} (hb : Below w.heap.size w w') (h : w.heap[i]? = some A) : w'.heap[i]? = some A := (hb.block i (Array.getElem?_eq_some_iff.1 h).1).trans h
theorem blkLt {w : World} {i : Nat} {A : Obj} (h : w.heap[i]? = some A) : i < w.heap.size := (Array.getElem?_eq_some_iff.1 h).1

end Go.Proofs.YtpilkgcghlfdmaaGreatDoor
namespace Go.Proofs.YtpilkgcghlfdmaaGreatDoor
open Go.RowKit

/-- the slice v is the call's own and holds the bytes l -/
def OwnB (w : World) (base : Nat) (v : Value) (l : List UInt8) : Prop := w.ownsRow base 5 1 v l.length (Lib.byteCells l)
theorem infoU8 : (Tryz.prog.info? 5).map (fun i => (i.zero, i.size, i.bytes)) = some (some (.int .u8 0), 1, 1) := by kernel_rfl
theorem OwnB.nil (w : World) (base : Nat) : OwnB w base (.slice none 0 0) [] := World.ownsRow_nil _ _ _ _
theorem OwnB.grown {w w' : World} {base : Nat} {v : Value} {l : List UInt8} (h : OwnB w base v l) (hb : Below w.heap.size w w') : OwnB w' base v l :=
  h.kept (row := none) ⟨hb.os, hb.tape, hb.output, hb.size, fun k hk _ => hb.block k hk⟩ (by cases hv : v.ownBlock <;> simp)
theorem OwnB.lo {w : World} {base : Nat} {v : Value} {l : List UInt8} (h : OwnB w base v l) : ∀ k, v.ownBlock = some k → base ≤ k := fun k hk => (World.ownsRow.lt h k hk).1
theorem OwnB.hi {w : World} {base : Nat} {v : Value} {l : List UInt8} (h : OwnB w base v l) : ∀ k, v.ownBlock = some k → k < w.heap.size := fun k hk => (World.ownsRow.lt h k hk).2
theorem OwnB.weak {w : World} {base base' : Nat} {v : Value} {l : List UInt8} (h : OwnB w base v l) (hb : base' ≤ base) : OwnB w base' v l := by
  refine ⟨h.1, ?_⟩
  rcases h.2 with h2 | ⟨g, cap, cur, h1, hb', r⟩
  · exact Or.inl h2
  · exact Or.inr ⟨g, cap, cur, h1, by omega, r⟩
theorem OwnB.other {w w' : World} {base : Nat} {v : Value} {l : List UInt8} {row : Option Nat} (h : OwnB w base v l) (hg : w.grownBy w' row) (hne : ∀ k, v.ownBlock = some k → row ≠ some k) : OwnB w' base v l :=
  h.kept hg (by
    cases hv : v.ownBlock with
    | none => exact Or.inl rfl
    | some k => exact Or.inr (fun e => hne k hv e.symm))
/-- the bytes l lie at a -/
def BysAt (w : World) (a : Option Addr) (l : List UInt8) : Prop := ∀ i x, l[i]? = some x → ∃ b o, a = some ⟨b, o, none⟩ ∧ w.cell? ⟨b, o + i, none⟩ = some (.int .u8 x.toNat)
theorem BysAt.below {w w' : World} {a : Option Addr} {l : List UInt8} (h : BysAt w a l) (hb : Below w.heap.size w w') : BysAt w' a l := fun i x hx => by
  obtain ⟨b, o, e, hc⟩ := h i x hx
  exact ⟨b, o, e, by rw [hb.cell (p := ⟨b, o + i, none⟩) (lt_of_cell hc)]; exact hc⟩
theorem OwnB.read {w : World} {base : Nat} {v : Value} {l : List UInt8} (h : OwnB w base v l) : ∃ a c, v = .slice a l.length c ∧ BysAt w a l ∧ l.length ≤ maxLen := by
  have h2 := h.2
  rcases h2 with ⟨rfl, h0⟩ | ⟨g, cap, cur, rfl, hb, hg, hn, hm, hs, ht⟩
  · refine ⟨none, 0, by rw [h0], ?_, by rw [h0]; exact Nat.zero_le _⟩
    intro i x hx
    have := (List.getElem?_eq_some_iff.1 hx).1
    omega
  · refine ⟨some ⟨g, 0, none⟩, cap, rfl, ?_, by omega⟩
    intro i x hx
    refine ⟨g, 0, rfl, ?_⟩
    have hi := (List.getElem?_eq_some_iff.1 hx).1
    rw [Nat.zero_add, World.ownsRow.cellAt h i (by omega)]
    rw [Lib.byteCells, List.getElem?_map, hx]; rfl

/-- append of one byte -/
theorem wpList_append_b1 {ops : Array Oper} {rest : List Oper} {o : Oper} {a : Act} {Q : Exit → Act → World → Prop} {W : World} (hgd : o.guard = none) (s x : Operand)
    (ho : o.op = .call { callee := .builtin .append, args := #[s, x], argTypes := #[22, 22] })
    (base : Nat) (v : Value) (l : List UInt8) (z : UInt8) (hs : a.eval s = v) (hown : OwnB W base v l) (g : Nat) (hx : a.eval x = .slice (some ⟨g, 0, none⟩) 1 1)
    (hg : W.heap[g]? = some (.cells #[.int .u8 z.toNat] 5 (0, 0))) (hl : l.length ≤ 1000000000) (hb : base ≤ W.heap.size)
    (h : ∀ a' c' l' w', l' = l ++ [z] → OwnB w' base (.slice a' l'.length c') l' → Below base W w' → wpList Tryz.prog ops Q rest (a.put o.dst (.slice a' l'.length c')) w') : wpList Tryz.prog ops Q (o :: rest) a W := by
  obtain ⟨i0, hi, y0, y1, y2⟩ := info_parts infoU8
  refine wpList_append_own _ hgd s x 22 ho base 5 i0 _ 1 1 Tryz.underlying22 hi y0 y1 y2 rfl (by decide) v l.length (Lib.byteCells l) hs hown ⟨g, 0, none⟩ 1 1 [.int .u8 z.toNat] hx rfl ?_ ?_ (by unfold maxLen; omega) (by omega) hb
    (fun v' w' h1 h2 _ => ?_)
  · intro j u hu
    rw [Addr.add_lit, Nat.zero_add, (heap_cellR hg).1, ← hu]
    simp
  · intro u hu
    simp only [List.mem_singleton] at hu
    subst hu; rfl
  · have ho : OwnB w' base v' (l ++ [z]) := by
      unfold OwnB
      rw [List.length_append, Lib.byteCells, List.map_append]
      simpa [Lib.byteCells] using h1
    obtain ⟨a', c', e, _⟩ := ho.read
    rw [e] at ho ⊢
    exact h a' c' _ w' rfl ho (below_of_grownBy h2 hb (fun k hk => hown.lo k hk))
/-- append of a text -/
theorem wpList_append_bs {ops : Array Oper} {rest : List Oper} {o : Oper} {a : Act} {Q : Exit → Act → World → Prop} {W : World} (hgd : o.guard = none) (s x : Operand)
    (ho : o.op = .call { callee := .builtin .append, args := #[s, x], argTypes := #[22, 9] })
    (base : Nat) (v : Value) (l : List UInt8) (t : ByteArray) (hs : a.eval s = v) (hown : OwnB W base v l) (hx : a.eval x = .string t)
    (hl : l.length + t.size ≤ 1000000000) (hb : base ≤ W.heap.size)
    (h : ∀ a' c' l' w', l' = l ++ t.data.toList → OwnB w' base (.slice a' l'.length c') l' → Below base W w' → wpList Tryz.prog ops Q rest (a.put o.dst (.slice a' l'.length c')) w') : wpList Tryz.prog ops Q (o :: rest) a W := by
  obtain ⟨i0, hi, y0, y1, y2⟩ := info_parts infoU8
  refine Lib.wpList_append_own_string _ hgd s x 22 9 ho base 5 i0 Tryz.underlying22 Tryz.underlying9 hi y0 y1 y2 v l.length (Lib.byteCells l) hs hown t hx (by unfold maxLen; omega) (by omega) hb
    (fun v' w' h1 h2 _ => ?_)
  have ho : OwnB w' base v' (l ++ t.data.toList) := by
    unfold OwnB
    rw [List.length_append, Lib.byteCells, List.map_append]
    exact h1
  obtain ⟨a', c', e, _⟩ := ho.read
  rw [e] at ho ⊢
  exact h a' c' _ w' rfl ho (below_of_grownBy h2 hb (fun k hk => hown.lo k hk))
theorem tabBelow {w : World} {B : Nat} (h : Tab w) (hB : 1 < B) : Lib.TabBelow Tryz.prog B w "internal/strconv.uint64pow10" .u64 Lib.pow10Tab := fun _ hb => h.below hb hB
/-- strconv.AppendInt at bytes of the call's own -/
theorem appendInt_b (B : Nat) (n : Int) (v : Value) (l : List UInt8) (w : World) (h0 : -9223372036854775808 ≤ n) (h1 : n ≤ 9223372036854775807) (ho : OwnB w B v l) (hB : B ≤ w.heap.size) (hl : l.length ≤ 1000000000) (ht : Tab w) (hg : 1 < B) :
    Calls Tryz.prog 50 #[v, .int .i64 n, .int .i64 10] w fun e w' => ∃ a' c' l', l' = l ++ Lib.itoa n ∧ e = .returned (.slice a' l'.length c') ∧ OwnB w' B (.slice a' l'.length c') l' ∧ Below B w w' :=
  (Tryz.strconv_AppendInt_10 B l.length n h0 h1 v (Lib.byteCells l) w ho hB (by omega) (tabBelow ht hg)).mono fun e w' ⟨v', he, ho', hb, _⟩ => by
    have ho2 : OwnB w' B v' (l ++ Lib.itoa n) := by
      unfold OwnB
      rw [List.length_append, Lib.byteCells, List.map_append]
      exact ho'
    obtain ⟨a', c', e2, _⟩ := ho2.read
    rw [e2] at ho2
    exact ⟨a', c', _, rfl, by rw [he, e2], ho2, hb⟩
theorem nums_str (l : List UInt8) : strOfNums (l.map fun x => (x.toNat : Int)) = ⟨l.toArray⟩ := by
  unfold strOfNums
  congr 1
  rw [List.map_map]
  have : ((fun n : Int => UInt8.ofNat n.toNat) ∘ fun x : UInt8 => (x.toNat : Int)) = id := by funext x; simp
  rw [this, List.map_id]
theorem conv_at {w : World} {b o c : Nat} {l : List UInt8} (h : BysAt w (some ⟨b, o, none⟩) l) :
    (convert 22 9 (.slice (some ⟨b, o, none⟩) l.length c)).run Tryz.prog w = .ok (.string ⟨l.toArray⟩) w := by
  have := run_convert_bytes_arg (P := Tryz.prog) w 22 5 Tryz.underlying22 Tryz.underlying5 b o l.length c (l.map fun x => (x.toNat : Int)) (by simp) (fun i hi => by
    obtain ⟨b', o', e, hc⟩ := h i l[i] (List.getElem?_eq_getElem hi)
    simp only [Option.some.injEq, Addr.mk.injEq, and_true] at e
    obtain ⟨rfl, rfl⟩ := e
    rw [hc]
    simp [hi]) 9 Tryz.underlying9
  rw [nums_str] at this
  exact this
/-- bytes of the call's own as a string -/
theorem conv_own {w : World} {base : Nat} {a : Option Addr} {n c : Nat} {l : List UInt8} (h : OwnB w base (.slice a n c) l) :
    (convert 22 9 (.slice a n c)).run Tryz.prog w = .ok (.string ⟨l.toArray⟩) w := by
  obtain ⟨a', c', e, hb, _⟩ := h.read
  obtain ⟨rfl, rfl, rfl⟩ := Value.slice.inj e
  rcases h.2 with ⟨e2, h0⟩ | ⟨g, cap, cur, e2, _⟩
  · obtain ⟨rfl, _, rfl⟩ := Value.slice.inj e2
    have hl : l = [] := List.eq_nil_of_length_eq_zero h0
    subst hl
    exact run_convert_bytes_nil (P := Tryz.prog) w 22 5 Tryz.underlying22 Tryz.underlying5 _ _ 9 Tryz.underlying9
  · obtain ⟨rfl, _, rfl⟩ := Value.slice.inj e2
    exact conv_at hb

end Go.Proofs.YtpilkgcghlfdmaaGreatDoor
namespace Go.Proofs.YtpilkgcghlfdmaaGreatDoor
open Go.RowKit

/-- a text cut at every byte c -/
def cut (c : UInt8) : List UInt8 → List (List UInt8)
  | [] => [[]]
  | x :: r => if x = c then [] :: cut c r else match cut c r with
    | [] => [[x]]
    | h :: t => (x :: h) :: t

theorem cut_ne (c : UInt8) (l : List UInt8) : cut c l ≠ [] := by
  cases l with
  | nil => simp [cut]
  | cons x r => rw [cut]; split; · simp
                split <;> simp

theorem index1_cases (c : UInt8) : ∀ l : List UInt8, Lib.index l [c] = -1 ∨ ∃ i : Nat, Lib.index l [c] = i
  | [] => by left; rw [Lib.index.eq_1]; simp
  | x :: r => by
    rw [Lib.index.eq_2]
    split
    · exact .inr ⟨0, rfl⟩
    · split
      · exact .inl rfl
      · rename_i _ h
        rcases index1_cases c r with h2 | ⟨i, h2⟩
        · simp [h2] at h
        · exact .inr ⟨i + 1, by rw [h2]; rfl⟩

theorem splitK_cut (c : UInt8) : ∀ l : List UInt8, Lib.splitK [c] 0 (Lib.count l [c]) l = cut c l
  | [] => by rw [Lib.count_one]; simp [Lib.splitK.eq_1, cut]
  | x :: r => by
    have ih := splitK_cut c r
    by_cases hx : x = c
    · subst hx
      rw [Lib.count_cons_eq, Nat.add_comm, Lib.splitK.eq_2, Lib.index.eq_2]
      simp [cut, ih]
    · rw [Lib.count_cons_ne _ _ _ hx, cut, if_neg hx, ← ih]
      generalize Lib.count r [c] = k
      cases k with
      | zero => simp [Lib.splitK.eq_1]
      | succ k =>
        rw [Lib.splitK.eq_2, Lib.splitK.eq_2, Lib.index.eq_2]
        have hp : ([c] : List UInt8).isPrefixOf (x :: r) = false := by
          simp [List.isPrefixOf]; exact fun h => hx h.symm
        rw [hp]
        rcases index1_cases c r with h2 | ⟨i, h2⟩
        · simp [h2]
        · have h3 : ¬ ((i : Int) == -1) = true := by simp <;> omega
          have h4 : ¬ (((i : Int) + 1) == -1) = true := by simp <;> omega
          simp only [h2, if_neg h3, Bool.false_eq_true, if_false, if_neg h4]
          have h5 : ((i : Int) + 1).toNat = i + 1 := by omega
          have h6 : ((i : Int)).toNat = i := by omega
          simp [h5, h6]

theorem splitB_cut (s : ByteArray) (c : UInt8) :
    (Lib.splitB ⟨#[c]⟩ 0 (Lib.countB s ⟨#[c]⟩) s).map (fun x => x.data.toList) = cut c s.data.toList := by
  rw [Lib.splitB_data]; exact splitK_cut c _

/-- texts put together with a byte between them -/
def glue (c : UInt8) : List (List UInt8) → List UInt8
  | [] => []
  | [h] => h
  | h :: t => h ++ c :: glue c t

theorem glue_cons (c : UInt8) (h : List UInt8) (t : List (List UInt8)) (ht : t ≠ []) : glue c (h :: t) = h ++ c :: glue c t := by
  cases t with
  | nil => exact absurd rfl ht
  | cons => rfl

theorem glue_cut (c : UInt8) : ∀ l : List UInt8, glue c (cut c l) = l
  | [] => rfl
  | x :: r => by
    have ih := glue_cut c r
    rw [cut]
    split
    · rename_i h; subst h
      rw [glue_cons _ _ _ (cut_ne _ _), ih]; rfl
    · have hne := cut_ne c r
      split
      · rename_i h; exact absurd h hne
      · rename_i h t he
        rw [he] at ih
        cases t with
        | nil => simp only [glue] at ih ⊢; rw [ih]
        | cons a b => simp only [glue] at ih ⊢; rw [← ih]; rfl

theorem cut_free (c : UInt8) : ∀ l : List UInt8, ∀ p ∈ cut c l, c ∉ p
  | [] => by simp [cut]
  | x :: r => by
    have ih := cut_free c r
    rw [cut]
    split
    · intro p hp; rcases List.mem_cons.1 hp with rfl | hp
      · simp
      · exact ih p hp
    · rename_i hx
      split
      · intro p hp; simp at hp; subst hp; simp; exact fun h => hx h.symm
      · rename_i h t he
        rw [he] at ih
        intro p hp; rcases List.mem_cons.1 hp with rfl | hp
        · have := ih h (by simp); simp [this]; exact fun h => hx h.symm
        · exact ih p (by simp [hp])

theorem cut_piece (c : UInt8) : ∀ l : List UInt8, c ∉ l → cut c l = [l]
  | [] => fun _ => rfl
  | x :: r => fun h => by
    simp at h
    rw [cut, if_neg (fun e => h.1 e.symm), cut_piece c r h.2]

theorem cut_app (c : UInt8) : ∀ (p l : List UInt8), c ∉ p → cut c (p ++ c :: l) = p :: cut c l
  | [], l => fun _ => by simp [cut]
  | x :: r, l => fun h => by
    simp at h
    rw [List.cons_append, cut, if_neg (fun e => h.1 e.symm), cut_app c r l h.2]

theorem cut_glue (c : UInt8) : ∀ ps : List (List UInt8), ps ≠ [] → (∀ p ∈ ps, c ∉ p) → cut c (glue c ps) = ps
  | [] => fun h => absurd rfl h
  | [p] => fun _ h => cut_piece c p (h p (by simp))
  | p :: q :: t => fun _ h => by
    rw [glue_cons _ _ _ (by simp), cut_app c p _ (h p (by simp)), cut_glue c (q :: t) (by simp) (fun x hx => h x (by simp [hx]))]

/-- the library's reading of a decimal -/
theorem parseUintM_dec (M : Nat) (hM : M ≤ 18446744073709551615) : ∀ (u : Nat), u ≤ M → ∀ r, Lib.parseUintM M 0 (Lib.decDigits u ++ r) = Lib.parseUintM M u r := by
  intro u
  induction u using Nat.strongRecOn with
  | _ u ih =>
    intro hu r
    rw [Lib.decDigits.eq_1]
    split
    · rename_i h
      have h1 : (UInt8.ofNat (48 + u)).toNat = 48 + u := by simp; omega
      rw [List.singleton_append, Lib.parseUintM.eq_2, h1, if_pos (by omega), if_neg (by omega), if_neg (by omega)]
      congr 1; omega
    · rename_i h
      have h1 : (UInt8.ofNat (48 + u % 10)).toNat = 48 + u % 10 := by simp; omega
      rw [List.append_assoc, ih (u / 10) (by omega) (by omega), List.singleton_append, Lib.parseUintM.eq_2, h1, if_pos (by omega), if_neg (by omega), if_neg (by omega)]
      congr 1; omega

theorem decDigits_ne (u : Nat) : Lib.decDigits u ≠ [] := by
  rw [Lib.decDigits.eq_1]; split <;> simp

theorem dec_digit : ∀ (u : Nat), ∀ x ∈ Lib.decDigits u, 48 ≤ x.toNat ∧ x.toNat ≤ 57 := by
  intro u
  induction u using Nat.strongRecOn with
  | _ u ih =>
    rw [Lib.decDigits.eq_1]
    split
    · intro x hx; simp at hx; subst hx; simp; omega
    · intro x hx
      rcases List.mem_append.1 hx with hx | hx
      · exact ih (u / 10) (by omega) x hx
      · simp at hx; subst hx; simp; omega

theorem parseUintB_dec (u : Nat) (hu : u ≤ 18446744073709551615) : Lib.parseUintB 64 (Lib.decDigits u) = .ok u := by
  have h := parseUintM_dec (2 ^ 64 - 1) (by omega) u (by omega) []
  rw [List.append_nil] at h
  rw [Lib.parseUintB, if_neg (decDigits_ne u), h, Lib.parseUintM.eq_1]

theorem parseIntB_itoa (n : Int) (h0 : -9223372036854775808 ≤ n) (h1 : n ≤ 9223372036854775807) : Lib.parseIntB 64 (Lib.itoa n) = .ok n := by
  by_cases hn : n < 0
  · have e : Lib.itoa n = 45 :: Lib.decDigits n.natAbs := by rw [Lib.itoa, if_pos hn]
    rw [e, Lib.parseIntB_minus, parseUintB_dec _ (by omega), Lib.signedC, if_neg (by omega)]
    congr 1; omega
  · have e : Lib.itoa n = Lib.decDigits n.toNat := by rw [Lib.itoa, if_neg hn]
    rw [e]
    have hd := dec_digit n.toNat
    have hp := parseUintB_dec n.toNat (by omega)
    cases he : Lib.decDigits n.toNat with
    | nil => exact absurd he (decDigits_ne _)
    | cons c r =>
      rw [he] at hd hp
      have := hd c (by simp)
      rw [Lib.parseIntB_plain _ _ _ (by omega) (by omega), hp, Lib.signlessC, if_neg (by omega)]
      congr 1; omega

/-- the number that a text is in decimal, as the program reads it -/
def rnum (l : List UInt8) : Option Int :=
  match Lib.parseIntB 64 l with
  | .ok n => if Lib.itoa n = l then some n else none
  | _ => none

theorem rnum_some (l : List UInt8) (n : Int) (h : rnum l = some n) : l = Lib.itoa n := by
  unfold rnum at h
  split at h
  · split at h
    · rename_i h2; cases h; exact h2.symm
    · cases h
  · cases h

theorem rnum_itoa (n : Int) (h0 : -9223372036854775808 ≤ n) (h1 : n ≤ 9223372036854775807) : rnum (Lib.itoa n) = some n := by
  unfold rnum; rw [parseIntB_itoa n h0 h1]; simp

end Go.Proofs.YtpilkgcghlfdmaaGreatDoor
namespace Go.Proofs.YtpilkgcghlfdmaaGreatDoor
open Go.RowKit

/-- the number that digits spell -/
def dval (l : List UInt8) : Nat := l.foldl (fun n x => 10 * n + (x.toNat - 48)) 0

theorem dval_dec : ∀ u : Nat, dval (Lib.decDigits u) = u := by
  intro u
  induction u using Nat.strongRecOn with
  | _ u ih =>
    rw [Lib.decDigits.eq_1]
    split
    · rename_i h
      have h1 : (UInt8.ofNat (48 + u)).toNat = 48 + u := by simp; omega
      simp only [dval, List.foldl_cons, List.foldl_nil, h1]; omega
    · rename_i h
      have h1 : (UInt8.ofNat (48 + u % 10)).toNat = 48 + u % 10 := by simp; omega
      have h2 := ih (u / 10) (by omega)
      unfold dval at h2 ⊢
      rw [List.foldl_append, h2]
      simp only [List.foldl_cons, List.foldl_nil, h1]; omega

theorem dec_len : ∀ (k u : Nat), u < 10 ^ (k + 1) → (Lib.decDigits u).length ≤ k + 1
  | 0, u, h => by rw [Lib.decDigits.eq_1, dif_pos (by omega)]; simp
  | k + 1, u, h => by
    rw [Lib.decDigits.eq_1]
    split
    · simp
    · have := dec_len k (u / 10) (by rw [Nat.pow_succ] at h; omega)
      simp; omega

/-- the reference's reading of a number of at most twelve digits -/
def valS (l : List UInt8) : Option Int :=
  if 1 ≤ l.length ∧ l.length ≤ 12 ∧ (∀ x ∈ l, 48 ≤ x.toNat ∧ x.toNat ≤ 57) ∧ Lib.decDigits (dval l) = l then some (dval l) else none

theorem valS_dec (u : Nat) (h : u < 1000000000000) : valS (Lib.decDigits u) = some (u : Int) := by
  have hl := dec_len 11 u (by simpa using h)
  have hne := decDigits_ne u
  have h1 : 1 ≤ (Lib.decDigits u).length := by
    cases he : Lib.decDigits u with
    | nil => exact absurd he hne
    | cons => simp
  unfold valS
  rw [dval_dec, if_pos ⟨h1, by omega, dec_digit u, rfl⟩]

theorem itoa_mem (n : Int) : ∀ x ∈ Lib.itoa n, x.toNat = 45 ∨ (48 ≤ x.toNat ∧ x.toNat ≤ 57) := by
  intro x hx
  unfold Lib.itoa at hx
  split at hx
  · rcases List.mem_cons.1 hx with rfl | hx
    · exact .inl rfl
    · exact .inr (dec_digit _ x hx)
  · exact .inr (dec_digit _ x hx)

theorem itoa_no (n : Int) (c : UInt8) (hc : c.toNat ≠ 45) (hd : ¬ (48 ≤ c.toNat ∧ c.toNat ≤ 57)) : c ∉ Lib.itoa n := by
  intro hx
  rcases itoa_mem n c hx with h | h
  · exact hc h
  · exact hd h

end Go.Proofs.YtpilkgcghlfdmaaGreatDoor
namespace Go.Proofs.YtpilkgcghlfdmaaGreatDoor
open Go.RowKit

/-- a record in two numbers -/
structure Rc where
  k : Int
  n : Int
def Rc.ok (r : Rc) : Bool := inB r.k 1 4 && inB r.n 0 199
theorem Rc.ok_iff (r : Rc) : r.ok = true ↔ (1 ≤ r.k ∧ r.k ≤ 4) ∧ (0 ≤ r.n ∧ r.n ≤ 199) := by
  unfold Rc.ok; rw [Bool.and_eq_true, inB_iff, inB_iff]

def wPlan : List UInt8 := [112, 108, 97, 110]
def wPrint : List UInt8 := [112, 114, 105, 110, 116]
def wRead : List UInt8 := [114, 101, 97, 100]
def wVoid : List UInt8 := [118, 111, 105, 100]
/-- the word of a kind -/
def wordJ (k : Int) : List UInt8 := if k = 1 then wPlan else if k = 2 then wPrint else if k = 3 then wRead else wVoid
/-- the kind with a word; 0 if it is none -/
def kindJ (l : List UInt8) : Int := if l = wPlan then 1 else if l = wPrint then 2 else if l = wRead then 3 else if l = wVoid then 4 else 0
theorem kindJ_word {k : Int} (h1 : 1 ≤ k) (h4 : k ≤ 4) : kindJ (wordJ k) = k := by
  have : k = 1 ∨ k = 2 ∨ k = 3 ∨ k = 4 := by omega
  rcases this with rfl | rfl | rfl | rfl <;> decide
theorem word_kindJ {l : List UInt8} (h : kindJ l ≠ 0) : wordJ (kindJ l) = l ∧ 1 ≤ kindJ l ∧ kindJ l ≤ 4 := by
  unfold kindJ at h ⊢
  repeat' split
  all_goals first | (rename_i e; subst e; decide) | skip
  all_goals simp_all

/-- the beginning of a line -/
def headJ (n : Nat) (r : Rc) : List UInt8 := Lib.itoa n ++ 32 :: (wordJ r.k ++ 32 :: Lib.itoa r.n)
/-- the sum behind some bytes -/
def sumJ (s : Int) (l : List UInt8) : Int := l.foldl (fun s b => (131 * s + b.toNat + 1) % 65521) s
def nextJ (n : Nat) (s : Int) (r : Rc) : Int := sumJ s (headJ n r)
/-- a line without its end -/
def lineJ (n : Nat) (s : Int) (r : Rc) : List UInt8 := headJ n r ++ 32 :: Lib.itoa (nextJ n s r)

theorem sumJ_cons (s : Int) (b : UInt8) (l : List UInt8) : sumJ s (b :: l) = sumJ ((131 * s + b.toNat + 1) % 65521) l := rfl
theorem sumJ_snoc (s : Int) (l : List UInt8) (b : UInt8) : sumJ s (l ++ [b]) = (131 * sumJ s l + b.toNat + 1) % 65521 := by simp [sumJ, List.foldl_append]
theorem sumJ_range {s : Int} (h : 0 ≤ s ∧ s < 65521) : ∀ l, 0 ≤ sumJ s l ∧ sumJ s l < 65521 := by
  intro l
  induction l generalizing s with
  | nil => exact h
  | cons b l ih => rw [sumJ_cons]; exact ih (by omega)
theorem nextJ_range {n : Nat} {s : Int} {r : Rc} (h : 0 ≤ s ∧ s < 65521) : 0 ≤ nextJ n s r ∧ nextJ n s r < 65521 := sumJ_range h _

/-- the journal of records, and its last sum -/
def textJ : Nat → Int → List Rc → List UInt8
  | _, _, [] => []
  | n, s, r :: t => lineJ n s r ++ 10 :: textJ (n + 1) (nextJ n s r) t
def lastJ : Nat → Int → List Rc → Int
  | _, s, [] => s
  | n, s, r :: t => lastJ (n + 1) (nextJ n s r) t

theorem lastJ_range : ∀ (l : List Rc) (n : Nat) {s : Int}, 0 ≤ s ∧ s < 65521 → 0 ≤ lastJ n s l ∧ lastJ n s l < 65521
  | [], _, _, h => h
  | _ :: t, n, _, h => lastJ_range t (n + 1) (nextJ_range h)
theorem textJ_snoc : ∀ (l : List Rc) (n : Nat) (s : Int) (r : Rc), textJ n s (l ++ [r]) = textJ n s l ++ (lineJ (n + l.length) (lastJ n s l) r ++ [10])
  | [], n, s, r => by simp [textJ, lastJ]
  | a :: t, n, s, r => by
    rw [List.cons_append, textJ, textJ_snoc t (n + 1) (nextJ n s a) r, textJ, lastJ, List.length_cons]
    have e : n + 1 + t.length = n + (t.length + 1) := by omega
    rw [e]; simp
theorem lastJ_snoc : ∀ (l : List Rc) (n : Nat) (s : Int) (r : Rc), lastJ n s (l ++ [r]) = nextJ (n + l.length) (lastJ n s l) r
  | [], n, s, r => by simp [lastJ]
  | a :: t, n, s, r => by
    rw [List.cons_append, lastJ, lastJ_snoc t (n + 1) (nextJ n s a) r, lastJ, List.length_cons]
    have e : n + 1 + t.length = n + (t.length + 1) := by omega
    rw [e]

/-- the words of a line -/
def wordsJ (n : Nat) (s : Int) (r : Rc) : List (List UInt8) := [Lib.itoa n, wordJ r.k, Lib.itoa r.n, Lib.itoa (nextJ n s r)]
theorem lineJ_glue (n : Nat) (s : Int) (r : Rc) : lineJ n s r = glue 32 (wordsJ n s r) := by
  simp [lineJ, headJ, wordsJ, glue]
theorem wordJ_free (k : Int) : (32 : UInt8) ∉ wordJ k ∧ (10 : UInt8) ∉ wordJ k := by
  have h : ((32 : UInt8) ∉ wPlan ∧ (10 : UInt8) ∉ wPlan) ∧ ((32 : UInt8) ∉ wPrint ∧ (10 : UInt8) ∉ wPrint) ∧ ((32 : UInt8) ∉ wRead ∧ (10 : UInt8) ∉ wRead) ∧ ((32 : UInt8) ∉ wVoid ∧ (10 : UInt8) ∉ wVoid) := by decide
  unfold wordJ
  repeat' split
  · exact h.1
  · exact h.2.1
  · exact h.2.2.1
  · exact h.2.2.2
theorem wordsJ_free (n : Nat) (s : Int) (r : Rc) : ∀ p ∈ wordsJ n s r, (32 : UInt8) ∉ p ∧ (10 : UInt8) ∉ p := by
  have ha : ∀ n, (32 : UInt8) ∉ Lib.itoa n ∧ (10 : UInt8) ∉ Lib.itoa n := fun n => ⟨itoa_no n 32 (by decide) (by decide), itoa_no n 10 (by decide) (by decide)⟩
  intro p hp
  simp only [wordsJ, List.mem_cons, List.not_mem_nil, or_false] at hp
  rcases hp with rfl | rfl | rfl | rfl
  · exact ha _
  · exact wordJ_free _
  · exact ha _
  · exact ha _
theorem cut_lineJ (n : Nat) (s : Int) (r : Rc) : cut 32 (lineJ n s r) = wordsJ n s r := by
  rw [lineJ_glue]; exact cut_glue 32 _ (by simp [wordsJ]) (fun p hp => (wordsJ_free n s r p hp).1)
theorem lineJ_no (n : Nat) (s : Int) (r : Rc) : (10 : UInt8) ∉ lineJ n s r := by
  intro h
  simp only [lineJ, headJ, List.mem_append, List.mem_cons] at h
  have ha : ∀ n, (10 : UInt8) ∉ Lib.itoa n := fun n => itoa_no n 10 (by decide) (by decide)
  have hw := (wordJ_free r.k).2
  rcases h with (h | h | h | h | h) | h | h
  · exact ha _ h
  · exact absurd h (by decide)
  · exact hw h
  · exact absurd h (by decide)
  · exact ha _ h
  · exact absurd h (by decide)
  · exact ha _ h

/-- the bytes before the first end of a line -/
def lineOf : List UInt8 → Option (List UInt8)
  | [] => none
  | x :: r => if x = 10 then some [] else (lineOf r).map (x :: ·)
theorem lineOf_some : ∀ (l p : List UInt8), lineOf l = some p → (10 : UInt8) ∉ p ∧ ∃ t, l = p ++ 10 :: t
  | [], p, h => by simp [lineOf] at h
  | x :: r, p, h => by
    rw [lineOf] at h
    split at h
    · rename_i hx; subst hx; cases h; exact ⟨by simp, r, rfl⟩
    · rename_i hx
      cases hr : lineOf r with
      | none => rw [hr] at h; cases h
      | some q =>
        rw [hr] at h; cases h
        obtain ⟨h1, t, h2⟩ := lineOf_some r q hr
        exact ⟨by simp; exact ⟨fun e => hx e.symm, h1⟩, t, by rw [h2]; rfl⟩
theorem lineOf_app : ∀ (p t : List UInt8), (10 : UInt8) ∉ p → lineOf (p ++ 10 :: t) = some p
  | [], t, _ => by simp [lineOf]
  | x :: p, t, h => by
    simp at h
    rw [List.cons_append, lineOf, if_neg (fun e => h.1 e.symm), lineOf_app p t h.2]; rfl
theorem lineOf_none : ∀ l : List UInt8, lineOf l = none → (10 : UInt8) ∉ l
  | [], _ => by simp
  | x :: r, h => by
    rw [lineOf] at h
    split at h
    · cases h
    · rename_i hx
      cases hr : lineOf r with
      | none => simp; exact ⟨fun e => hx e.symm, lineOf_none r hr⟩
      | some q => rw [hr] at h; cases h

/-- the program's reading of a number that is not negative -/
def rdec (l : List UInt8) : Option Int :=
  if l = [] ∨ (1 < l.length ∧ l[0]? = some 48) ∨ l[0]? = some 43 ∨ l[0]? = some 45 then none
  else match Lib.parseIntB 64 l with | .ok n => some n | _ => none
theorem dec_head : ∀ u : Nat, 10 ≤ u → (Lib.decDigits u)[0]? ≠ some 48 := by
  intro u
  induction u using Nat.strongRecOn with
  | _ u ih =>
    intro h
    rw [Lib.decDigits.eq_1, dif_neg (by omega)]
    by_cases h2 : u / 10 < 10
    · rw [Lib.decDigits.eq_1, dif_pos h2]
      intro e
      have h3 : UInt8.ofNat (48 + u / 10) = 48 := by
        rw [List.singleton_append, List.getElem?_cons_zero] at e
        exact Option.some.inj e
      have : (UInt8.ofNat (48 + u / 10)).toNat = 48 := by rw [h3]; rfl
      rw [UInt8.toNat_ofNat'] at this
      omega
    · have := ih (u / 10) (by omega) (by omega)
      rw [List.getElem?_append_left]
      · exact this
      · cases he : Lib.decDigits (u / 10) with
        | nil => exact absurd he (decDigits_ne _)
        | cons => simp
theorem rdec_itoa {n : Int} (h0 : 0 ≤ n) (h1 : n ≤ 9223372036854775807) : rdec (Lib.itoa n) = some n := by
  unfold rdec
  rw [if_neg, parseIntB_itoa n (by omega) h1]
  obtain ⟨u, rfl⟩ := Int.eq_ofNat_of_zero_le h0
  rw [Lib.itoa_nonneg]
  have hd := dec_digit u
  have hh := dec_head u
  rintro (h | ⟨h, h2⟩ | h | h)
  · exact decDigits_ne _ h
  · by_cases hu : 10 ≤ u
    · exact hh hu h2
    · rw [Lib.decDigits.eq_1, dif_pos (by omega)] at h; simp at h
  · have := hd 43 (List.mem_of_getElem? h); simp at this
  · have := hd 45 (List.mem_of_getElem? h); simp at this

/-- the program's reading of the next record -/
def readJ (n : Nat) (s : Int) (rest : List UInt8) : Option Rc :=
  match lineOf rest with
  | none => none
  | some p => match cut 32 p with
    | [_, b, c, _] => match rdec c with
      | none => none
      | some i => if kindJ b ≠ 0 ∧ Rc.ok ⟨kindJ b, i⟩ = true ∧ (lineJ n s ⟨kindJ b, i⟩ ++ [10]).isPrefixOf rest = true then some ⟨kindJ b, i⟩ else none
    | _ => none

theorem readJ_iff (n : Nat) (s : Int) (rest : List UInt8) (r : Rc) : readJ n s rest = some r ↔ r.ok = true ∧ ∃ t, rest = lineJ n s r ++ 10 :: t := by
  constructor
  · intro h
    unfold readJ at h
    split at h
    · cases h
    · split at h
      · split at h
        · cases h
        · split at h
          rotate_left
          · cases h
          rename_i hk
          cases h
          refine ⟨hk.2.1, ?_⟩
          obtain ⟨t, ht⟩ := List.isPrefixOf_iff_prefix.1 hk.2.2
          exact ⟨t, by rw [← ht]; simp⟩
      · cases h
  · rintro ⟨hok, t, rfl⟩
    have ho := (r.ok_iff).1 hok
    unfold readJ
    rw [lineOf_app _ _ (lineJ_no n s r)]
    simp only [cut_lineJ, wordsJ, rdec_itoa ho.2.1 (show r.n ≤ 9223372036854775807 by omega), kindJ_word ho.1.1 ho.1.2]
    rw [if_pos]
    refine ⟨by omega, hok, List.isPrefixOf_iff_prefix.2 ⟨t, by simp⟩⟩

/-- the program's reading of a journal -/
def recJ : Nat → Nat → Int → List UInt8 → List Rc
  | 0, _, _, _ => []
  | f + 1, n, s, rest => match readJ n s rest with
    | none => []
    | some r => r :: recJ f (n + 1) (nextJ n s r) (rest.drop ((lineJ n s r).length + 1))

/-- the reference's reading of a line: the record, perhaps wrong -/
def spReadJ (p : List UInt8) : Rc :=
  match cut 32 p with
  | [_, b, c, _] => match valS c with
    | none => ⟨0, 0⟩
    | some i => ⟨kindJ b, i⟩
  | _ => ⟨0, 0⟩
theorem spReadJ_line {n : Nat} {s : Int} {r : Rc} (h : r.ok = true) : spReadJ (lineJ n s r) = r := by
  have ho := (r.ok_iff).1 h
  obtain ⟨k, i⟩ := r
  dsimp only at ho
  obtain ⟨u, rfl⟩ := Int.eq_ofNat_of_zero_le ho.2.1
  unfold spReadJ
  simp only [cut_lineJ, wordsJ, Lib.itoa_nonneg, valS_dec u (by omega), kindJ_word ho.1.1 ho.1.2]

/-- the reference's reading of a journal's lines -/
def spRecJ : Nat → Nat → Int → List (List UInt8) → List Rc
  | 0, _, _, _ => []
  | f + 1, n, s, p :: q :: t => if (spReadJ p).ok = true ∧ lineJ n s (spReadJ p) = p then spReadJ p :: spRecJ f (n + 1) (nextJ n s (spReadJ p)) (q :: t) else []
  | _ + 1, _, _, _ => []

theorem rec_sp : ∀ (f n : Nat) (s : Int) (rest : List UInt8), recJ f n s rest = spRecJ f n s (cut 10 rest)
  | 0, n, s, rest => by rw [recJ, spRecJ]
  | f + 1, n, s, rest => by
    rw [recJ]
    cases hr : readJ n s rest with
    | some r =>
      obtain ⟨hok, t, rfl⟩ := (readJ_iff n s rest r).1 hr
      have hd : (lineJ n s r ++ 10 :: t).drop ((lineJ n s r).length + 1) = t := by
        rw [List.drop_append]; simp
      simp only []
      rw [hd, cut_app 10 _ _ (lineJ_no n s r), rec_sp f]
      cases hc : cut 10 t with
      | nil => exact absurd hc (cut_ne 10 t)
      | cons q u => rw [spRecJ, spReadJ_line hok, if_pos ⟨hok, rfl⟩]
    | none =>
      simp only []
      have hg := glue_cut 10 rest
      have hf := cut_free 10 rest
      cases hc : cut 10 rest with
      | nil => rw [spRecJ]; simp
      | cons p t =>
        cases t with
        | nil => rw [spRecJ]; simp
        | cons q u =>
          rw [spRecJ, if_neg]
          rintro ⟨h1, h2⟩
          rw [hc, glue_cons 10 p _ (by simp)] at hg
          have := (readJ_iff n s rest (spReadJ p)).2 ⟨h1, glue 10 (q :: u), by rw [h2, hg]⟩
          rw [hr] at this; cases this

theorem recJ_prop : ∀ (f n : Nat) (s : Int) (rest : List UInt8), (∀ r ∈ recJ f n s rest, r.ok = true) ∧ (recJ f n s rest).length ≤ f ∧ ∃ t, rest = textJ n s (recJ f n s rest) ++ t
  | 0, n, s, rest => by rw [recJ]; exact ⟨by simp, by simp, rest, rfl⟩
  | f + 1, n, s, rest => by
    rw [recJ]
    cases hr : readJ n s rest with
    | some r =>
      obtain ⟨hok, t, rfl⟩ := (readJ_iff n s rest r).1 hr
      have hd : (lineJ n s r ++ 10 :: t).drop ((lineJ n s r).length + 1) = t := by
        rw [List.drop_append]; simp
      simp only [hd]
      obtain ⟨h1, h2, u, h3⟩ := recJ_prop f (n + 1) (nextJ n s r) t
      refine ⟨?_, by simpa using h2, u, ?_⟩
      · intro x hx
        rcases List.mem_cons.1 hx with rfl | hx
        · exact hok
        · exact h1 x hx
      · rw [textJ, List.append_assoc, List.cons_append, ← h3]
    | none => exact ⟨by simp, by simp, rest, rfl⟩

theorem recJ_text : ∀ (l : List Rc) (f n : Nat) (s : Int), (∀ r ∈ l, r.ok = true) → l.length ≤ f → recJ f n s (textJ n s l) = l
  | [], f, n, s, _, _ => by
    cases f with
    | zero => rfl
    | succ f =>
      rw [recJ]
      cases hr : readJ n s (textJ n s []) with
      | none => rfl
      | some r =>
        obtain ⟨_, t, h⟩ := (readJ_iff n s _ r).1 hr
        simp [textJ] at h
  | r :: t, f, n, s, hok, hl => by
    cases f with
    | zero => simp at hl
    | succ f =>
      have h := (readJ_iff n s (textJ n s (r :: t)) r).2 ⟨hok r (by simp), _, by rw [textJ]⟩
      rw [recJ, h]
      simp only []
      have hd : (textJ n s (r :: t)).drop ((lineJ n s r).length + 1) = textJ (n + 1) (nextJ n s r) t := by
        rw [textJ, List.drop_append]; simp
      rw [hd, recJ_text t f (n + 1) (nextJ n s r) (fun x hx => hok x (by simp [hx])) (by simp at hl; omega)]

theorem itoa_len {n : Int} (k : Nat) (h0 : 0 ≤ n) (h : n < 10 ^ (k + 1)) : (Lib.itoa n).length ≤ k + 1 := by
  obtain ⟨u, rfl⟩ := Int.eq_ofNat_of_zero_le h0
  rw [Lib.itoa_nonneg]
  exact dec_len k u (by exact_mod_cast h)
theorem wordJ_len (k : Int) : (wordJ k).length ≤ 5 := by
  unfold wordJ
  repeat' split
  all_goals decide
theorem lineJ_len {n : Nat} {s : Int} {r : Rc} (hn : n < 1000) (hs : 0 ≤ s ∧ s < 65521) (hok : r.ok = true) : (lineJ n s r).length ≤ 19 := by
  have ho := (r.ok_iff).1 hok
  have hx := nextJ_range (n := n) (r := r) hs
  have h1 := itoa_len 2 (n := (n : Int)) (by omega) (by omega)
  have h2 := wordJ_len r.k
  have h3 := itoa_len 2 ho.2.1 (by omega)
  have h4 := itoa_len 4 hx.1 (by omega)
  simp only [lineJ, headJ, List.length_append, List.length_cons]
  omega
theorem textJ_len : ∀ (l : List Rc) (n : Nat) (s : Int), n + l.length ≤ 1000 → 0 ≤ s ∧ s < 65521 → (∀ r ∈ l, r.ok = true) → (textJ n s l).length ≤ 20 * l.length
  | [], _, _, _, _, _ => by simp [textJ]
  | r :: t, n, s, hn, hs, hok => by
    have h1 := lineJ_len (n := n) (s := s) (r := r) (by simp at hn; omega) hs (hok r (by simp))
    have h2 := textJ_len t (n + 1) (nextJ n s r) (by simp at hn; omega) (nextJ_range hs) (fun x hx => hok x (by simp [hx]))
    rw [textJ]
    simp only [List.length_append, List.length_cons]
    omega

end Go.Proofs.YtpilkgcghlfdmaaGreatDoor
namespace Go.Proofs.YtpilkgcghlfdmaaGreatDoor
open Go.RowKit

def wordJB (k : Int) : ByteArray := ⟨(wordJ k).toArray⟩
theorem wordJB_list (k : Int) : (wordJB k).data.toList = wordJ k := by simp [wordJB]
theorem wordJB_size (k : Int) : (wordJB k).size ≤ 5 := wordJ_len k

theorem ixW0 (w : World) : (Instr.index 194 (.agg #[.string ⟨#[112, 108, 97, 110]⟩, .string ⟨#[112, 114, 105, 110, 116]⟩, .string ⟨#[114, 101, 97, 100]⟩, .string ⟨#[118, 111, 105, 100]⟩]) (.int .i64 0)).run Tryz.prog w = .ok (.string ⟨#[112, 108, 97, 110]⟩) w := by kernel_rfl
theorem ixW1 (w : World) : (Instr.index 194 (.agg #[.string ⟨#[112, 108, 97, 110]⟩, .string ⟨#[112, 114, 105, 110, 116]⟩, .string ⟨#[114, 101, 97, 100]⟩, .string ⟨#[118, 111, 105, 100]⟩]) (.int .i64 1)).run Tryz.prog w = .ok (.string ⟨#[112, 114, 105, 110, 116]⟩) w := by kernel_rfl
theorem ixW2 (w : World) : (Instr.index 194 (.agg #[.string ⟨#[112, 108, 97, 110]⟩, .string ⟨#[112, 114, 105, 110, 116]⟩, .string ⟨#[114, 101, 97, 100]⟩, .string ⟨#[118, 111, 105, 100]⟩]) (.int .i64 2)).run Tryz.prog w = .ok (.string ⟨#[114, 101, 97, 100]⟩) w := by kernel_rfl
theorem ixW3 (w : World) : (Instr.index 194 (.agg #[.string ⟨#[112, 108, 97, 110]⟩, .string ⟨#[112, 114, 105, 110, 116]⟩, .string ⟨#[114, 101, 97, 100]⟩, .string ⟨#[118, 111, 105, 100]⟩]) (.int .i64 3)).run Tryz.prog w = .ok (.string ⟨#[118, 111, 105, 100]⟩) w := by kernel_rfl

set_option maxRecDepth 100000 in
set_option maxHeartbeats 400000 in
theorem recordWord_any (k : Int) (w : World) (h1 : 1 ≤ k) (h4 : k ≤ 4) :
    Calls Tryz.prog 111 #[.int .i64 k] w fun e w' => e = .returned (.string (wordJB k)) ∧ Below w.heap.size w w' := by
  have hk : k = 1 ∨ k = 2 ∨ k = 3 ∨ k = 4 := by omega
  have i0 := ixW0 w
  have i1 := ixW1 w
  have i2 := ixW2 w
  have i3 := ixW3 w
  rcases hk with rfl | rfl | rfl | rfl
  all_goals
    go_enter Tryz.func111, Tryz.ntmps111
    go_wp2_with fail
    go_ret
    exact ⟨rfl, Below.refl _ _⟩

/-- the journal at block J -/
def JnAt (w : World) (J : Nat) (v : Value) (n : Nat) (s : Int) : Prop := w.heap[J]? = some (.cells #[v, .int .i64 n, .int .i64 s] 134 (0, 0))
/-- a line and its sum are handed back -/
def RetLine (w : World) (l : List UInt8) (s : Int) (e : Ending) (w' : World) : Prop :=
  ∃ a c l', l' = l ∧ e = .returned (.tuple #[.slice a l'.length c, .int .i64 s]) ∧ OwnB w' w.heap.size (.slice a l'.length c) l' ∧ Below w.heap.size w w'
theorem sumJ_take {l : List UInt8} {s : Int} {k : Nat} {x : UInt8} (hx : l[k]? = some x) : sumJ s (l.take (k + 1)) = (131 * sumJ s (l.take k) + x.toNat + 1) % 65521 := by
  rw [take_snoc' hx, sumJ_snoc]

set_option maxRecDepth 100000 in
set_option maxHeartbeats 1000000 in
theorem line_any (J n : Nat) (s : Int) (v : Value) (r : Rc) (w : World) (hj : JnAt w J v n s) (hok : r.ok = true) (hn : n < 1000) (hs : 0 ≤ s ∧ s < 65521) (ht : Tab w) :
    Calls Tryz.prog 112 #[.pointer (some ⟨J, 0, none⟩), .agg #[.int .i64 r.k, .int .i64 r.n]] w (RetLine w (lineJ n s r ++ [10]) (nextJ n s r)) := by
  have hok' := (r.ok_iff).1 hok
  obtain ⟨k, i⟩ := r
  dsimp only at hok' ⊢
  have HJ := Lib.hid hj
  have HT := Lib.hid ht
  obtain ⟨hcj, hfj⟩ := heap_cellR hj
  have hjl : J < w.heap.size := blkLt hj
  clear hj ht hok
  go_enter Tryz.func112, Tryz.ntmps112
  go_wp2_with fail
  have HB0 := Lib.hid (ba1 w (.cells #[.int .i64 k, .int .i64 i] 53 (0, 0)))
  have hbx := push_at w (.cells #[.int .i64 k, .int .i64 i] 53 (0, 0))
  have HBX := Lib.hid hbx
  have hltg := HT.out.lt
  have HB_ := Lib.hid (Below.refl (w.heap.size + 1) (w.alloc (.cells #[.int .i64 k, .int .i64 i] 53 (0, 0))))
  refine (appendInt_b (w.heap.size + 1) (n : Int) _ [] _ (by omega) (by omega) (OwnB.nil _ _) (by simp) (by simp) (HT.out.next HB0.out) (by omega)).mono ?_
  rintro e w1 ⟨a1, c1, l1, he1, rfl, ho1, hb1⟩
  have HO1 := Lib.hid ho1
  have HB1 := Lib.hid hb1
  have hz1 : w.heap.size + 1 ≤ w1.heap.size := by have := hb1.size; simpa using this
  have hl1 : l1.length ≤ 3 := by
    have := itoa_len (n := (n : Int)) 2 (by omega) (by omega)
    rw [he1, List.nil_append]; omega
  have HE1 := Lib.hid he1
  clear he1 ho1 hb1 hbx hcj hfj
  go_wp2_with (at_builtin; refine wpList_append_b1 (o := _) (s := .tmp 15) (x := .tmp 16) rfl rfl (w.heap.size + 1) (.slice a1 l1.length c1) l1 32 rfl (HO1.out.grown (ba1 _ _)) w1.heap.size rfl (push_at w1 _) (by omega) (by simp; omega) ?h9)
  case h9 =>
  intro a2 c2 l2 w2 he2 ho2 hb2
  have HO2 := Lib.hid ho2
  have HB2 := Lib.hid (HB1.out.trans (((ba1 w1 (.cells #[.int .u8 32] 5 (0, 0))).mono hz1).trans hb2))
  have hz2 : w.heap.size + 1 ≤ w2.heap.size := by have := hb2.size; simp at this; omega
  have hl2 : l2.length ≤ l1.length + 1 := by rw [he2]; simp
  have HE2 := Lib.hid he2
  clear he2 ho2 hb2
  have hc2 := (heap_cellR ((HB2.out.block w.heap.size (Nat.lt_succ_self _)).trans HBX.out)).1
  go_wp2_with fail
  refine (recordWord_any k _ hok'.1.1 hok'.1.2).mono ?_
  rintro e w2b ⟨rfl, hb2b⟩
  have HO2b := Lib.hid (HO2.out.grown hb2b)
  have HB2b := Lib.hid (HB2.out.trans (hb2b.mono hz2))
  have hz2b : w.heap.size + 1 ≤ w2b.heap.size := Nat.le_trans hz2 hb2b.size
  have hws := wordJB_size k
  clear hb2b hc2
  go_wp2_with (at_builtin; refine wpList_append_bs (o := _) (s := .tmp 18) (x := .tmp 21) rfl rfl (w.heap.size + 1) (.slice a2 l2.length c2) l2 (wordJB k) rfl HO2b.out rfl (by omega) hz2b ?h9)
  case h9 =>
  intro a3 c3 l3 w3 he3 ho3 hb3
  have HO3 := Lib.hid ho3
  have HB3 := Lib.hid (HB2b.out.trans hb3)
  have hz3 : w.heap.size + 1 ≤ w3.heap.size := Nat.le_trans hz2b hb3.size
  have hl3 : l3.length ≤ l2.length + 5 := by
    have h9 : (wordJB k).data.toList.length = (wordJB k).size := rfl
    rw [he3, List.length_append]; omega
  have HE3 := Lib.hid he3
  clear he3 ho3 hb3
  go_wp2_with (at_builtin; refine wpList_append_b1 (o := _) (s := .tmp 23) (x := .tmp 24) rfl rfl (w.heap.size + 1) (.slice a3 l3.length c3) l3 32 rfl (HO3.out.grown (ba1 _ _)) w3.heap.size rfl (push_at w3 _) (by omega) (by simp; omega) ?h9)
  case h9 =>
  intro a4 c4 l4 w4 he4 ho4 hb4
  have HO4 := Lib.hid ho4
  have HB4 := Lib.hid (HB3.out.trans (((ba1 w3 (.cells #[.int .u8 32] 5 (0, 0))).mono hz3).trans hb4))
  have hz4 : w.heap.size + 1 ≤ w4.heap.size := by have := hb4.size; simp at this; omega
  have hl4 : l4.length ≤ l3.length + 1 := by rw [he4]; simp
  have HE4 := Lib.hid he4
  clear he4 ho4 hb4
  have hc4 := (heap_cellR ((HB4.out.block w.heap.size (Nat.lt_succ_self _)).trans HBX.out)).1
  go_wp2_with fail
  refine (appendInt_b (w.heap.size + 1) i _ l4 _ (by omega) (by omega) HO4.out hz4 (by omega) (HT.out.next (HB0.out.trans (HB4.out.mono (by omega)))) (by omega)).mono ?_
  rintro e w5 ⟨a5, c5, l5, he5, rfl, ho5, hb5⟩
  have HO5 := Lib.hid ho5
  have HB5 := Lib.hid (HB4.out.trans hb5)
  have hz5 : w.heap.size + 1 ≤ w5.heap.size := Nat.le_trans hz4 hb5.size
  have hl5 : l5.length ≤ l4.length + 3 := by
    have := itoa_len (n := i) 2 (by omega) (by omega)
    rw [he5, List.length_append]; omega
  have HE5 := Lib.hid he5
  clear he5 ho5 hb5
  have hj5 : w5.heap[J]? = some (.cells #[v, .int .i64 n, .int .i64 s] 134 (0, 0)) := (HB5.out.block J (by omega)).trans ((HB0.out.block J hjl).trans HJ.out)
  obtain ⟨hcj, hfj⟩ := heap_cellR hj5
  have hll : l5.length ≤ 20 := by omega
  have HHD : Hid (headJ n ⟨k, i⟩ = l5) := Lib.hid (by
    rw [HE5.out, HE4.out, HE3.out, HE2.out, HE1.out, wordJB_list, headJ]; simp)
  clear hc4 hj5
  have HSUM := Lib.hid (show nextJ n s ⟨k, i⟩ = sumJ s l5 by rw [nextJ, HHD.out])
  have hby := HO5.out.read
  obtain ⟨a5', c5', e5, hby, -⟩ := hby
  obtain ⟨rfl, -, rfl⟩ := Value.slice.inj e5
  have HBY := Lib.hid hby
  clear hby e5
  go_wp2_with fail
  go_loop [7, 9, 36] (fun q _ i => ∃ j : Nat, j ≤ l5.length ∧ i = .int .i64 j ∧ q = .int .i64 (sumJ s (l5.take j))) (fun _ _ i => l5.length - (intOf i).toNat)
  case atStart => exact ⟨0, Nat.zero_le _, rfl, rfl⟩
  case round =>
    obtain ⟨j, hj, rfl, rfl⟩ := hrel
    have hsr := sumJ_range hs (l5.take j)
    by_cases hlt : j < l5.length
    · obtain ⟨x, hx⟩ : ∃ x, l5[j]? = some x := ⟨_, List.getElem?_eq_getElem hlt⟩
      obtain ⟨bb, oo, rfl, hcx⟩ := HBY.out j x hx
      have hx8 : x.toNat < 256 := x.toNat_lt
      have HSS := Lib.hid (sumJ_take (s := s) hx)
      obtain ⟨q, hq⟩ : ∃ q, sumJ s (l5.take j) = q := ⟨_, rfl⟩
      rw [hq] at hsr HSS ⊢
      have e1 : IntKind.i64.wrap (131 * q) = 131 * q := IntWalk.i64_in _ (by omega)
      have e2 : IntKind.i64.wrap (x.toNat : Int) = (x.toNat : Int) := IntWalk.i64_in _ (by omega)
      have e3 : IntKind.i64.wrap (131 * q + (x.toNat : Int)) = 131 * q + (x.toNat : Int) := IntWalk.i64_in _ (by omega)
      have e4 : IntKind.i64.wrap (131 * q + (x.toNat : Int) + 1) = 131 * q + (x.toNat : Int) + 1 := IntWalk.i64_in _ (by omega)
      have e5 : (131 * q + (x.toNat : Int) + 1).tmod 65521 = (131 * q + (x.toNat : Int) + 1) % 65521 := Int.tmod_eq_emod_of_nonneg (by omega)
      clear hx hq hcj hfj
      go_wp2_with fail
      exact ⟨⟨j + 1, by omega, by go_num, by rw [HSS.out]⟩, by simp [intOf]; omega⟩
    · obtain rfl : j = l5.length := by omega
      have e9 : sumJ s (l5.take l5.length) = nextJ n s ⟨k, i⟩ := by rw [List.take_length, HSUM.out]
      rw [e9]
      have hnr := nextJ_range (n := n) (r := ⟨k, i⟩) hs
      obtain ⟨q, hq⟩ : ∃ q, nextJ n s ⟨k, i⟩ = q := ⟨_, rfl⟩
      have HQ := Lib.hid hq
      rw [hq] at hnr ⊢
      clear hsr e9 hq hcj hfj
      go_wp2_with (at_builtin; refine wpList_append_b1 (o := _) (s := .tmp 48) (x := .tmp 49) rfl rfl (w.heap.size + 1) (.slice a5 l5.length c5) l5 32 rfl (HO5.out.grown (ba1 _ _)) w5.heap.size rfl (push_at w5 _) (by omega) (by simp; omega) ?h9)
      case h9 =>
      intro a6 c6 l6 w6 he6 ho6 hb6
      have HO6 := Lib.hid ho6
      have HB6 := Lib.hid (HB5.out.trans (((ba1 w5 (.cells #[.int .u8 32] 5 (0, 0))).mono hz5).trans hb6))
      have hz6 : w.heap.size + 1 ≤ w6.heap.size := by have := hb6.size; simp at this; omega
      have hl6 : l6.length ≤ l5.length + 1 := by rw [he6]; simp
      have HE6 := Lib.hid he6
      clear he6 ho6 hb6
      go_wp2_with fail
      refine (appendInt_b (w.heap.size + 1) q _ l6 _ (by omega) (by omega) HO6.out hz6 (by omega) (HT.out.next (HB0.out.trans (HB6.out.mono (by omega)))) (by omega)).mono ?_
      rintro e w7 ⟨a7, c7, l7, he7, rfl, ho7, hb7⟩
      have HO7 := Lib.hid ho7
      have HB7 := Lib.hid (HB6.out.trans hb7)
      have hz7 : w.heap.size + 1 ≤ w7.heap.size := Nat.le_trans hz6 hb7.size
      have hl7 : l7.length ≤ l6.length + 5 := by
        have := itoa_len (n := q) 4 (by omega) (by omega)
        rw [he7, List.length_append]; omega
      have HE7 := Lib.hid he7
      clear he7 ho7 hb7
      go_wp2_with (at_builtin; refine wpList_append_b1 (o := _) (s := .tmp 54) (x := .tmp 55) rfl rfl (w.heap.size + 1) (.slice a7 l7.length c7) l7 10 rfl (HO7.out.grown (ba1 _ _)) w7.heap.size rfl (push_at w7 _) (by omega) (by simp; omega) ?h9)
      case h9 =>
      intro a8 c8 l8 w8 he8 ho8 hb8
      have HO8 := Lib.hid ho8
      have HB8 := Lib.hid (HB7.out.trans (((ba1 w7 (.cells #[.int .u8 10] 5 (0, 0))).mono hz7).trans hb8))
      have hz8 : w.heap.size + 1 ≤ w8.heap.size := by have := hb8.size; simp at this; omega
      have hl8 : l8.length ≤ l7.length + 1 := by rw [he8]; simp
      have HE8 := Lib.hid he8
      clear he8 ho8 hb8
      go_wp2_with fail
      have HFIN : Hid (l8 = lineJ n s ⟨k, i⟩ ++ [10]) := Lib.hid (by rw [HE8.out, HE7.out, HE6.out, lineJ, HHD.out, HQ.out]; simp)
      go_ret2
      exact ⟨a8, c8, l8, HFIN.out, by simp [HQ.out], HO8.out.weak (by omega), HB0.out.trans (HB8.out.mono (by omega))⟩

end Go.Proofs.YtpilkgcghlfdmaaGreatDoor
namespace Go.Proofs.YtpilkgcghlfdmaaGreatDoor
open Go.RowKit

/-! A region that draws its order and holds one operation (number c) that changes what is said of the world: it is met once. It may leave by a panic. -/
variable {P : Program} {ops : Array Oper} {Q : Exit → Act → World → Prop}

/-- operation i waits for operation j, perhaps by way of others -/
def waits (ops : Array Oper) : Nat → Nat → Nat → Bool
  | 0, _, _ => false
  | f + 1, i, j => match ops[i]? with
    | none => false
    | some o => o.after.any fun e => Region.binds .any e && (e.on == j || waits ops f e.on j)
def rgOkO (ops : Array Oper) (m : Nat) (ds : List Nat) (sup : Nat → List Nat) : Bool :=
  (List.range ops.size).all fun j => match ops[j]? with
    | none => true
    | some o =>
      (decide (m ≤ j) || ((match o.dst with | some d => ds.contains d | none => true) &&
        (sup j).all fun t => (List.range ops.size).all fun i => match ops[i]? with
          | none => true
          | some oi => oi.dst != some t || i == j || o.after.any fun e => Region.binds .any e && e.on == i)) &&
      (decide (j < m) || (List.range j).all (fun i => waits ops ops.size j i)) && o.after.all fun e => !Region.binds .any e || decide (e.on < j)
theorem waits_first {f i j : Nat} {o : Oper} (ho : ops[i]? = some o) (h : waits ops f i j = true) : ∃ e ∈ o.after, Region.binds .any e = true ∧ (e.on = j ∨ ∃ f', waits ops f' e.on j = true) := by
  cases f with
  | zero => simp [waits] at h
  | succ f =>
    rw [waits, ho] at h
    obtain ⟨e, he, hee⟩ := Array.any_eq_true'.1 h
    simp only [Bool.and_eq_true, Bool.or_eq_true, beq_iff_eq] at hee
    exact ⟨e, he, hee.1, hee.2.imp id (fun h => ⟨f, h⟩)⟩
theorem waits_lt {m : Nat} {ds : List Nat} {sup : Nat → List Nat} (hB : rgOkO ops m ds sup = true) : ∀ (f i j : Nat), waits ops f i j = true → j < i
  | 0, i, j, h => by simp [waits] at h
  | f + 1, i, j, h => by
    cases ho : ops[i]? with
    | none => rw [waits, ho] at h; cases h
    | some o =>
      rw [waits, ho] at h
      obtain ⟨e, he, hee⟩ := Array.any_eq_true'.1 h
      simp only [Bool.and_eq_true, Bool.or_eq_true, beq_iff_eq] at hee
      have hlt : i < ops.size := (Array.getElem?_eq_some_iff.1 ho).1
      have := List.all_eq_true.1 hB i (List.mem_range.2 hlt)
      simp only [ho, Bool.and_eq_true] at this
      have h2 := Array.all_eq_true'.1 this.2 e he
      simp only [hee.1, Bool.not_true, Bool.or_eq_true, Bool.false_eq_true, false_or, decide_eq_true_eq] at h2
      rcases hee.2 with h3 | h3
      · omega
      · have := waits_lt hB f e.on j h3
        omega
theorem waits_listed {L : Nat → Bool} (hc : ∀ j o, ops[j]? = some o → L j = true → ∀ e ∈ o.after, Region.binds .any e = true → L e.on = true) : ∀ (f i j : Nat), waits ops f i j = true → L i = true → L j = true
  | 0, i, j, h, _ => by simp [waits] at h
  | f + 1, i, j, h, hi => by
    cases ho : ops[i]? with
    | none => rw [waits, ho] at h; cases h
    | some o =>
      rw [waits, ho] at h
      obtain ⟨e, he, hee⟩ := Array.any_eq_true'.1 h
      simp only [Bool.and_eq_true, Bool.or_eq_true, beq_iff_eq] at hee
      have h1 := hc i o ho hi e he hee.1
      rcases hee.2 with h3 | h3
      · rw [← h3]; exact h1
      · exact waits_listed hc f e.on j h3 h1

/-- the tail, in its one order -/
theorem wpAny_tailO {m : Nat} {ds : List Nat} {sup : Nat → List Nat} (hB : rgOkO ops m ds sup = true) : ∀ (r k : Nat) (listed : Array Bool) (a : Act) (w : World), m ≤ k → k + r = ops.size →
    (∀ j, j < ops.size → listed.getD j true = decide (j < k)) → listed.size = ops.size → ∀ fuel, r ≤ fuel → wpOps P ops Q (List.range' k r) a w → wpAny P .any ops Q fuel listed a w
  | 0, k, listed, a, w, hm, hk, hl, hs, fuel, hf, h => by
    have hr : Region.ready .any ops listed = [] := by
      rw [List.eq_nil_iff_forall_not_mem]
      intro j hj
      obtain ⟨h1, o, ho, _⟩ := mem_ready.1 hj
      have hlt : j < ops.size := (Array.getElem?_eq_some_iff.1 ho).1
      rw [hl j hlt] at h1
      simp at h1; omega
    have hq : Q .normal a w := h
    cases fuel with
    | zero => exact ⟨hr, hq⟩
    | succ f => exact ⟨fun _ => hq, fun i hi => by rw [hr] at hi; cases hi⟩
  | r + 1, k, listed, a, w, hm, hk, hl, hs, fuel, hf, h => by
    have hkn : k < ops.size := by omega
    have hready : ∀ j ∈ Region.ready .any ops listed, j = k := by
      intro j hj
      obtain ⟨h1, o, ho, hdep⟩ := mem_ready.1 hj
      have hlt : j < ops.size := (Array.getElem?_eq_some_iff.1 ho).1
      rw [hl j hlt] at h1
      have hjk : k ≤ j := by simpa using h1
      rcases Nat.lt_or_ge k j with hlt' | hge
      · exfalso
        have hb := List.all_eq_true.1 hB j (List.mem_range.2 hlt)
        simp only [ho, Bool.and_eq_true, Bool.or_eq_true, decide_eq_true_eq] at hb
        rcases hb.1.2 with hb2 | hb2
        · omega
        · have := List.all_eq_true.1 hb2 k (List.mem_range.2 hlt')
          obtain ⟨e, he, hbind, hee⟩ := waits_first ho this
          have hd := hdep e he hbind
          have hek : e.on = k := by
            rcases hee with h | ⟨f', h⟩
            · exact h
            · exfalso
              have h4 := waits_lt hB f' e.on k h
              have h5 : e.on < ops.size := by
                have := List.all_eq_true.1 hB j (List.mem_range.2 hlt)
                simp only [ho, Bool.and_eq_true] at this
                have h2 := Array.all_eq_true'.1 this.2 e he
                simp only [hbind, Bool.not_true, Bool.or_eq_true, Bool.false_eq_true, false_or, decide_eq_true_eq] at h2
                omega
              have h6 := hl e.on h5
              rw [getD_toList] at h6 hd
              rw [List.getD_eq_getElem?_getD] at h6 hd
              cases hx : listed.toList[e.on]? with
              | none => rw [hx] at hd; simp at hd
              | some b => rw [hx] at h6 hd; simp at h6 hd; rw [hd] at h6; simp at h6; omega
          rw [hek] at hd
          have := hl k hkn
          rw [getD_toList] at this hd
          rw [List.getD_eq_getElem?_getD] at this hd
          cases hx : listed.toList[k]? with
          | none => rw [hx] at hd; simp at hd
          | some b => rw [hx] at this hd; simp at this hd; rw [this] at hd; cases hd
      · omega
    cases fuel with
    | zero => omega
    | succ f =>
      refine ⟨fun h0 => ?_, fun i hi => ?_⟩
      · exfalso
        obtain ⟨o, ho⟩ : ∃ o, ops[k]? = some o := ⟨ops[k], Array.getElem?_eq_getElem hkn⟩
        have : k ∈ Region.ready .any ops listed := by
          refine mem_ready.2 ⟨?_, o, ho, ?_⟩
          · rw [hl k hkn]; simp
          · intro e he hbind
            have hb := List.all_eq_true.1 hB k (List.mem_range.2 hkn)
            simp only [ho, Bool.and_eq_true, Bool.or_eq_true, decide_eq_true_eq] at hb
            · have h2 := Array.all_eq_true'.1 hb.2 e he
              simp only [hbind, Bool.not_true, Bool.or_eq_true, Bool.false_eq_true, false_or, decide_eq_true_eq] at h2
              have := hl e.on (by omega)
              rw [getD_toList, List.getD_eq_getElem?_getD] at this ⊢
              cases hx : listed.toList[e.on]? with
              | none =>
                have := List.getElem?_eq_none_iff.1 hx
                simp [hs] at this; omega
              | some b => rw [hx] at this; simp at this; simp [this]; exact h2
        rw [h0] at this; cases this
      · obtain rfl := hready i hi
        rw [List.range'_succ, wpOps_cons] at h
        refine wpOp_mono (fun a' w' h' => ?_) h
        refine wpAny_tailO hB r (i + 1) _ a' w' (by omega) (by omega) ?_ (by simpa using hs) f (by omega) h'
        intro j hj
        by_cases e : i = j
        · subst e
          rw [getD_toList, Array.toList_setIfInBounds, List.getD_eq_getElem?_getD, List.getElem?_set]
          simp [hs, hj]
        · rw [getD_toList, Array.toList_setIfInBounds, List.getD_eq_getElem?_getD, List.getElem?_set, if_neg e, ← List.getD_eq_getElem?_getD, ← getD_toList, hl j hj]
          simp; omega


/-- what stands while the head is under way -/
structure UnderO (ops : Array Oper) (m : Nat) (a0 : Act) (ds : List Nat) (G : Nat → (Nat → Value) → World → Prop) (St : (Nat → Bool) → World → Prop) (listed : Array Bool) (a : Act) (w : World) : Prop where
  size : listed.size = ops.size
  tail : ∀ j, m ≤ j → j < ops.size → listed.getD j true = false
  closed : ∀ j o, ops[j]? = some o → listed.getD j false = true → ∀ e ∈ o.after, Region.binds .any e = true → listed.getD e.on false = true
  st : St (fun j => listed.getD j false) w
  left : ∃ us, a = over a0 ds us ∧ ∀ j, j < m → listed.getD j false = true → G j us w

/-- what one operation of the head owes: IN EVERY FRAME AND WORLD in which what it waits for stands, it leaves what is said of it, and does away with nothing -/
def OwesO (P : Program) (ops : Array Oper) (Q : Exit → Act → World → Prop) (a0 : Act) (ds : List Nat) (G : Nat → (Nat → Value) → World → Prop) (St : (Nat → Bool) → World → Prop) (Keep : World → World → Prop) (i : Nat) (o : Oper) : Prop :=
  ∀ (us : Nat → Value) (w : World) (L : Nat → Bool), L i = false → St L w → (∀ e ∈ o.after, Region.binds .any e = true → L e.on = true ∧ G e.on us w) →
    if Region.wanted o (yielded ops (over a0 ds us).tmps) then o.wp P (over a0 ds us) w (fun a' w' => ∃ v, a' = (over a0 ds us).put o.dst v ∧ St (fun j => L j || i == j) w' ∧ Keep w w' ∧ G i (upd us o.dst v) w') Q
    else St (fun j => L j || i == j) w ∧ G i (upd us o.dst undef) w

theorem wpAny_headO {m : Nat} {a0 : Act} {ds : List Nat} {sup : Nat → List Nat} {G : Nat → (Nat → Value) → World → Prop} {St : (Nat → Bool) → World → Prop} {Keep : World → World → Prop} (hB : rgOkO ops m ds sup = true) (hm : m ≤ ops.size)
    (hkeep : ∀ j us w w', j < m → Keep w w' → G j us w → G j us w') (hrefl : ∀ w, Keep w w) (hsup : ∀ j us us' w, j < m → (∀ t ∈ sup j, us t = us' t) → G j us w → G j us' w)
    (howe : ∀ i o, i < m → ops[i]? = some o → OwesO P ops Q a0 ds G St Keep i o)
    (hend : ∀ us w L, (∀ j, j < m → L j = true) → St L w → (∀ j, j < m → G j us w) → wpOps P ops Q (List.range' m (ops.size - m)) (over a0 ds us) w) :
    ∀ (fuel : Nat) (listed : Array Bool) (a : Act) (w : World), unl listed.toList ≤ fuel → UnderO ops m a0 ds G St listed a w → wpAny P .any ops Q fuel listed a w := by
  have hdepOk : ∀ j o, j < m → ops[j]? = some o → (∀ d, o.dst = some d → ds.contains d = true) ∧ ∀ t ∈ sup j, ∀ i oi, ops[i]? = some oi → oi.dst = some t → i = j ∨ ∃ e ∈ o.after, Region.binds .any e = true ∧ e.on = i := by
    intro j o hj ho
    have hlt : j < ops.size := (Array.getElem?_eq_some_iff.1 ho).1
    have hb := List.all_eq_true.1 hB j (List.mem_range.2 hlt)
    simp only [ho, Bool.and_eq_true, Bool.or_eq_true, decide_eq_true_eq] at hb
    rcases hb.1.1 with h | h
    · omega
    · refine ⟨?_, ?_⟩
      · intro d hd
        have := h.1
        rw [hd] at this
        exact this
      · intro t ht i oi hi hd
        have h2 := List.all_eq_true.1 (List.all_eq_true.1 h.2 t ht) i (List.mem_range.2 (Array.getElem?_eq_some_iff.1 hi).1)
        simp only [hi, Bool.or_eq_true, bne_iff_ne, beq_iff_eq, hd] at h2
        rcases h2 with (h2 | h2) | h2
        · exact absurd rfl h2
        · exact Or.inl h2
        · obtain ⟨e, he, hee⟩ := Array.any_eq_true'.1 h2
          simp only [Bool.and_eq_true, beq_iff_eq] at hee
          exact Or.inr ⟨e, he, hee.1, hee.2⟩
  have step : ∀ (fuel : Nat) (listed : Array Bool) (a : Act) (w : World), unl listed.toList ≤ fuel → UnderO ops m a0 ds G St listed a w →
      (∀ j, j < m → listed.getD j true = true) → wpAny P .any ops Q fuel listed a w := by
    intro fuel listed a w hf U hall
    obtain ⟨us, rfl, hG⟩ := U.left
    have hx : ∀ j, j < m → listed.getD j false = true := by
      intro j hj
      have := hall j hj
      rw [getD_toList, List.getD_eq_getElem?_getD] at this ⊢
      cases hy : listed.toList[j]? with
      | none =>
        have h1 := List.getElem?_eq_none_iff.1 hy
        have := U.size
        simp at h1; omega
      | some b => rw [hy] at this; simpa using this
    have hr : ops.size - m ≤ fuel := by
      refine Nat.le_trans ?_ hf
      have : ∀ (n : Nat) (l : List Bool), (∀ j, n ≤ j → j < l.length → l.getD j true = false) → l.length - n ≤ unl l := by
        intro n l
        induction l generalizing n with
        | nil => intro _; simp
        | cons b r ih =>
          intro hb
          cases n with
          | zero =>
            have h0 := hb 0 (Nat.le_refl _) (by simp)
            have h1 := ih 0 (fun j _ hj => by have := hb (j + 1) (by omega) (by simpa using hj); simpa using this)
            simp at h0
            subst h0
            simp [unl] at h1 ⊢; omega
          | succ n =>
            have h1 := ih n (fun j hj hj' => by have := hb (j + 1) (by omega) (by simpa using hj'); simpa using this)
            simp only [unl, List.length_cons]; omega
      have h2 := this m listed.toList (fun j hj hj' => by rw [← getD_toList]; exact U.tail j hj (by have := U.size; simp at hj'; omega))
      have := U.size
      simp at h2; omega
    refine wpAny_tailO hB (ops.size - m) m listed _ w (Nat.le_refl _) (by omega) ?_ U.size fuel hr (hend us w _ hx U.st (fun j hj => hG j hj (hx j hj)))
    intro j hj
    rcases Nat.lt_or_ge j m with h | h
    · rw [hall j h]; simp [h]
    · rw [U.tail j h hj]; simp; omega
  intro fuel
  induction fuel with
  | zero =>
    intro listed a w hf U
    exact step 0 listed a w hf U (fun j _ => by rw [getD_toList]; exact unl_zero _ (by omega) j)
  | succ fuel ih =>
    intro listed a w hf U
    by_cases hall : ∀ j, j < m → listed.getD j true = true
    · exact step _ listed a w hf U hall
    · obtain ⟨us, rfl, hG⟩ := U.left
      have hnot : ∃ j, j < m ∧ listed.getD j true = false := by
        apply Classical.byContradiction
        intro hn
        apply hall
        intro j hj
        cases hx : listed.getD j true with
        | true => rfl
        | false => exact absurd ⟨j, hj, hx⟩ hn
      refine ⟨fun h0 => ?_, fun i hi => ?_⟩
      · -- the least that is not listed may come up
        have least : ∀ n j, j ≤ n → j < m → listed.getD j true = false → False := by
          intro n
          induction n with
          | zero =>
            intro j hj hjm hjl
            obtain rfl : j = 0 := by omega
            obtain ⟨oj, hoj⟩ : ∃ oj, ops[0]? = some oj := ⟨ops[0], Array.getElem?_eq_getElem (by omega)⟩
            have : 0 ∈ Region.ready .any ops listed := mem_ready.2 ⟨hjl, oj, hoj, fun e he hbind => by
              have hb := List.all_eq_true.1 hB 0 (List.mem_range.2 (by omega))
              simp only [hoj, Bool.and_eq_true] at hb
              have h2 := Array.all_eq_true'.1 hb.2 e he
              simp only [hbind, Bool.not_true, Bool.or_eq_true, Bool.false_eq_true, false_or, decide_eq_true_eq] at h2
              omega⟩
            rw [h0] at this; cases this
          | succ n ihn =>
            intro j hj hjm hjl
            obtain ⟨oj, hoj⟩ : ∃ oj, ops[j]? = some oj := ⟨ops[j], Array.getElem?_eq_getElem (by omega)⟩
            have : j ∈ Region.ready .any ops listed := mem_ready.2 ⟨hjl, oj, hoj, fun e he hbind => by
              have hb := List.all_eq_true.1 hB j (List.mem_range.2 (by omega))
              simp only [hoj, Bool.and_eq_true] at hb
              have h2 := Array.all_eq_true'.1 hb.2 e he
              simp only [hbind, Bool.not_true, Bool.or_eq_true, Bool.false_eq_true, false_or, decide_eq_true_eq] at h2
              cases hx : listed.getD e.on true with
              | false => exact (ihn e.on (by omega) (by omega) hx).elim
              | true =>
                rw [getD_toList, List.getD_eq_getElem?_getD] at hx ⊢
                cases hy : listed.toList[e.on]? with
                | none =>
                  have h4 := List.getElem?_eq_none_iff.1 hy
                  have := U.size
                  simp at h4; omega
                | some b => rw [hy] at hx; simpa using hx⟩
            rw [h0] at this; cases this
        obtain ⟨j, hj, hjl⟩ := hnot
        exact (least j j (Nat.le_refl _) hj hjl).elim
      · obtain ⟨h1, o, ho, hdep⟩ := mem_ready.1 hi
        have hlt : i < ops.size := (Array.getElem?_eq_some_iff.1 ho).1
        have him : i < m := by
          rcases Nat.lt_or_ge i m with h | h
          · exact h
          · exfalso
            obtain ⟨j, hj, hjl⟩ := hnot
            have hb := List.all_eq_true.1 hB i (List.mem_range.2 hlt)
            simp only [ho, Bool.and_eq_true, Bool.or_eq_true, decide_eq_true_eq] at hb
            rcases hb.1.2 with hb2 | hb2
            · omega
            · have := List.all_eq_true.1 hb2 j (List.mem_range.2 (by omega))
              obtain ⟨e, he, hbind, hee⟩ := waits_first ho this
              have hd0 := hdep e he hbind
              have hd : listed.getD j false = true := by
                rcases hee with h | ⟨f', h⟩
                · rw [← h]; exact hd0
                · exact waits_listed (L := fun j => listed.getD j false) U.closed f' e.on j h hd0
              rw [getD_toList, List.getD_eq_getElem?_getD] at hd hjl
              cases hx : listed.toList[j]? with
              | none => rw [hx] at hd; simp at hd
              | some b => rw [hx] at hd hjl; simp at hd hjl; rw [hd] at hjl; cases hjl
        obtain ⟨hds, hdp⟩ := hdepOk i o him ho
        have hil : listed.toList[i]? = some false := by
          rw [getD_toList, List.getD_eq_getElem?_getD] at h1
          cases hx : listed.toList[i]? with
          | none => rw [hx] at h1; simp at h1
          | some b => rw [hx] at h1; simp at h1; rw [h1]
        have hdm : ∀ e ∈ o.after, Region.binds .any e = true → e.on < m := by
          intro e he hbind
          have hd := hdep e he hbind
          rcases Nat.lt_or_ge e.on m with h | h
          · exact h
          · exfalso
            rcases Nat.lt_or_ge e.on ops.size with h2 | h2
            · have := U.tail e.on h h2
              rw [getD_toList, List.getD_eq_getElem?_getD] at this hd
              cases hx : listed.toList[e.on]? with
              | none => rw [hx] at hd; simp at hd
              | some b => rw [hx] at hd this; simp at hd this; rw [hd] at this; cases this
            · rw [getD_toList, List.getD_eq_getElem?_getD, List.getElem?_eq_none (by have := U.size; simp; omega)] at hd
              simp at hd
        have hcb : (fun j => (listed.setIfInBounds i true).getD j false) = (fun j => listed.getD j false || i == j) := by
          funext c
          by_cases ec : i = c
          · subst ec
            rw [getD_toList, Array.toList_setIfInBounds, List.getD_eq_getElem?_getD, List.getElem?_set, if_pos rfl]
            have := (List.getElem?_eq_some_iff.1 hil).1
            rw [if_pos this]; simp
          · rw [getD_set_other ec]; simp [ec]
        have next : ∀ v w', St (fun j => listed.getD j false || i == j) w' → Keep w w' → G i (upd us o.dst v) w' → wpAny P .any ops Q fuel (listed.setIfInBounds i true) ((over a0 ds us).put o.dst v) w' := by
          intro v w' hst hk hg
          refine ih _ _ _ ?_ ⟨by simpa using U.size, ?_, ?_, by rw [hcb]; exact hst, upd us o.dst v, over_put hds, ?_⟩
          · have := unl_set listed.toList i hil
            rw [Array.toList_setIfInBounds]; omega
          · intro j hj hj'
            rw [getD_set_other (by omega)]; exact U.tail j hj hj'
          · intro j oj hoj hlj e he hbind
            by_cases ej : i = j
            · subst ej
              rw [ho] at hoj
              cases hoj
              exact getD_set_true (hdep e he hbind)
            · rw [getD_set_other ej] at hlj
              exact getD_set_true (U.closed j oj hoj hlj e he hbind)
          · intro j hj hlj
            by_cases ej : i = j
            · subst ej; exact hg
            · rw [getD_set_other ej] at hlj
              refine hsup j us _ w' hj (fun t ht => ?_) (hkeep j us w w' hj hk (hG j hj hlj))
              symm
              refine upd_ne (fun hd => ?_)
              have hjs : j < ops.size := by omega
              obtain ⟨oj, hoj⟩ : ∃ oj, ops[j]? = some oj := ⟨ops[j], Array.getElem?_eq_getElem hjs⟩
              rcases (hdepOk j oj hj hoj).2 t ht i o ho hd with h | ⟨e, he, hbind, heq⟩
              · exact ej h
              · have := U.closed j oj hoj hlj e he hbind
                rw [heq, getD_toList, List.getD_eq_getElem?_getD, hil] at this
                simp at this
        have howes := howe i o him ho us w (fun j => listed.getD j false) (by rw [getD_toList, List.getD_eq_getElem?_getD, hil]; rfl) U.st (fun e he hbind => ⟨hdep e he hbind, hG e.on (hdm e he hbind) (hdep e he hbind)⟩)
        unfold wpOp
        rw [ho]
        simp only
        by_cases hw : Region.wanted o (yielded ops (over a0 ds us).tmps) = true
        · rw [if_pos hw] at howes ⊢
          refine Or.inl (Oper.wp_mono (fun a' w' h => ?_) howes)
          obtain ⟨v, rfl, hst, hk, hg⟩ := h
          exact next v w' hst hk hg
        · rw [if_neg hw] at howes ⊢
          exact next undef w howes.1 (hrefl w) howes.2


/-- the head's operations, one by one, each by its own walk -/
def rsAllO (P : Program) (l : List Oper) (Q : Exit → Act → World → Prop) (A : (Nat → Value) → Act) {Keep : World → World → Prop} (sp : List (Sp Keep)) (St : (Nat → Bool) → World → Prop) : Nat → List Oper → List (Sp Keep) → Prop
  | i, o :: r, s :: t => (∀ (us : Nat → Value) (w : World) (L : Nat → Bool), L i = false → St L w → (∀ e ∈ o.after, Region.binds .any e = true → L e.on = true ∧ depHolds l sp us w e.on) →
      Region.wanted o (yielded l.toArray (A us).tmps) = true ∧ o.wp P (A us) w (fun a' w' => ∃ v, a' = (A us).put o.dst v ∧ St (fun j => L j || i == j) w' ∧ Keep w w' ∧ s.holds v w') Q) ∧ rsAllO P l Q A sp St (i + 1) r t
  | _, _, _ => True

theorem rsAllO_at {P : Program} {l : List Oper} {Q : Exit → Act → World → Prop} {A : (Nat → Value) → Act} {Keep : World → World → Prop} {sp : List (Sp Keep)} {St : (Nat → Bool) → World → Prop} : ∀ (r : List Oper) (t : List (Sp Keep)) (k : Nat), rsAllO P l Q A sp St k r t → ∀ (i : Nat) (o : Oper) (s : Sp Keep), r[i]? = some o → t[i]? = some s →
    ∀ (us : Nat → Value) (w : World) (L : Nat → Bool), L (k + i) = false → St L w → (∀ e ∈ o.after, Region.binds .any e = true → L e.on = true ∧ depHolds l sp us w e.on) →
      Region.wanted o (yielded l.toArray (A us).tmps) = true ∧ o.wp P (A us) w (fun a' w' => ∃ v, a' = (A us).put o.dst v ∧ St (fun j => L j || (k + i) == j) w' ∧ Keep w w' ∧ s.holds v w') Q
  | [], _, _, _, i, o, s, h, _ => by simp at h
  | o' :: r, [], _, _, i, o, s, _, h => by simp at h
  | o' :: r, s' :: t, k, hall, 0, o, s, h, h2 => by
    simp at h h2; subst h; subst h2; exact hall.1
  | o' :: r, s' :: t, k, hall, i + 1, o, s, h, h2 => by
    have := rsAllO_at r t (k + 1) hall.2 i o s (by simpa using h) (by simpa using h2)
    rw [show k + 1 + i = k + (i + 1) by omega] at this
    exact this

/-- **A REGION THAT DRAWS ITS ORDER, one operation of which (number c) is met once and may panic.** -/
theorem wp_region_once {P : Program} {id : Nat} {l : List Oper} {Q : Exit → Act → World → Prop} {a0 : Act} {w0 : World} (ds : List Nat) (A : (Nat → Value) → Act) {Keep : World → World → Prop} (sp : List (Sp Keep)) (St : (Nat → Bool) → World → Prop)
    (hmix : P.follows .mixedOrders = true) (hB : rgOkO l.toArray sp.length ds (supOf l) = true) (hm : sp.length ≤ l.length) (hA : ∀ us, over a0 ds us = A us) (h0 : St (fun _ => false) w0.drew) (hrefl : ∀ w, Keep w w)
    (hall : rsAllO P l Q A sp St 0 (l.take sp.length) sp)
    (hend : ∀ us w L, (∀ j, j < sp.length → L j = true) → St L w → (∀ j, j < sp.length → depHolds l sp us w j) → wpList P l.toArray Q (l.drop sp.length) (A us) w) : (Code.region id l.toArray true).wp P Q a0 w0 := by
  refine wp_region_any hmix ?_
  refine wpAny_headO (a0 := a0) (ds := ds) (G := fun i us w => depHolds l sp us w i) (St := St) (Keep := Keep) hB (by simpa using hm) (fun j us w w' _ hk h => depHolds_kept hk h) hrefl (fun j us us' w _ he h => depHolds_sup he h) ?_ ?_ _ _ _ _ (by rw [Array.toList_replicate, unl_replicate]; exact Nat.le_refl _) ?_
  · intro i o hi ho us w L hb hst hd
    have ho1 : l[i]? = some o := by simpa using ho
    have ho' : (l.take sp.length)[i]? = some o := by rw [List.getElem?_take, if_pos hi]; exact ho1
    have hs : sp[i]? = some sp[i] := List.getElem?_eq_getElem hi
    have := rsAllO_at _ _ 0 hall i o sp[i] ho' hs us w L (by simpa using hb) hst hd
    rw [Nat.zero_add] at this
    rw [hA, if_pos this.1]
    refine Oper.wp_mono (fun a' w' h => ?_) this.2
    obtain ⟨v, ha, h1, h2, h3⟩ := h
    refine ⟨v, ha, h1, h2, ?_⟩
    unfold depHolds
    simp only [ho1, hs]
    cases hdst : o.dst with
    | none => trivial
    | some d => simpa [upd] using h3
  · intro us w L hL hst hg
    have := hend us w L hL hst hg
    rw [hA]
    have e := wpOps_eq_wpList (P := P) (ops := l.toArray) (Q := Q) (l.drop sp.length) sp.length (fun j => by simp [List.getElem?_drop])
    rw [List.length_drop] at e
    have e2 : l.toArray.size - sp.length = l.length - sp.length := by simp
    rw [e2, e]
    exact this
  · refine ⟨by simp, ?_, ?_, ?_, fun t => a0.tmps.getD t undef, ?_, ?_⟩
    · intro j _ hj
      rw [getD_toList, Array.toList_replicate, List.getD_eq_getElem?_getD, List.getElem?_replicate]
      simp at hj
      simp [hj]
    · intro j o _ hj
      rw [getD_toList, Array.toList_replicate, List.getD_eq_getElem?_getD, List.getElem?_replicate] at hj
      split at hj <;> simp at hj
    · have e : (fun j => (Array.replicate l.toArray.size false).getD j false) = (fun _ => false) := by
        funext c
        rw [getD_toList, Array.toList_replicate, List.getD_eq_getElem?_getD, List.getElem?_replicate]
        split <;> rfl
      rw [e]; exact h0
    · unfold over
      cases a0 with
      | mk tmps defers =>
        congr 1
        apply Array.ext_getElem?
        intro i
        rw [Array.getElem?_mapIdx]
        cases hx : tmps[i]? with
        | none => rfl
        | some v =>
          simp only [Option.map_some, Array.getD_eq_getD_getElem?, hx, Option.getD_some]
          split <;> rfl
    · intro j _ hj
      rw [getD_toList, Array.toList_replicate, List.getD_eq_getElem?_getD, List.getElem?_replicate] at hj
      split at hj <;> simp at hj

end Go.Proofs.YtpilkgcghlfdmaaGreatDoor
namespace Go.Proofs.YtpilkgcghlfdmaaGreatDoor
open Go.RowKit

/-- **A REGION THAT DRAWS ITS ORDER, as wp_region_rs; the tail may wait for the head by way of others.** -/
theorem wp_region_rt {P : Program} {id : Nat} {l : List Oper} {Q : Exit → Act → World → Prop} {a0 : Act} {w0 : World} (ds : List Nat) (A : (Nat → Value) → Act) {Keep : World → World → Prop} (sp : List (Sp Keep)) (St : World → Prop)
    (hmix : P.follows .mixedOrders = true) (hB : rgOkO l.toArray sp.length ds (supOf l) = true) (hm : sp.length ≤ l.length) (hA : ∀ us, over a0 ds us = A us) (h0 : St w0.drew) (hrefl : ∀ w, Keep w w)
    (hall : rsAll P l A sp St (l.take sp.length) sp)
    (hend : ∀ us w, St w → (∀ j, j < sp.length → depHolds l sp us w j) → wpList P l.toArray Q (l.drop sp.length) (A us) w) : (Code.region id l.toArray true).wp P Q a0 w0 := by
  have hrg := rg_of_rs (P := P) (l := l) (A := A) (sp := sp) (St := St) (l.take sp.length) sp 0 (by rw [List.length_take]; omega) (fun j hj => by
      have : j < (l.take sp.length).length := by
        apply Classical.byContradiction
        intro h
        rw [List.getElem?_eq_none (by omega)] at hj; cases hj
      rw [List.length_take] at this
      rw [Nat.zero_add, List.getElem?_take, if_pos (by omega)]) (fun j hj => by
      rw [List.length_take] at hj
      rw [Nat.zero_add, List.getElem?_take, if_pos (by omega)]) (fun j _ => by simp) hall
  refine wp_region_any hmix ?_
  refine wpAny_headO (a0 := a0) (ds := ds) (G := fun i us w => depHolds l sp us w i) (St := fun _ => St) (Keep := Keep) hB (by simpa using hm) (fun j us w w' _ hk h => depHolds_kept hk h) hrefl (fun j us us' w _ he h => depHolds_sup he h) ?_ ?_ _ _ _ _ (by rw [Array.toList_replicate, unl_replicate]; exact Nat.le_refl _) ?_
  · intro i o hi ho us w L hb hst hd
    have ho' : (l.take sp.length)[i]? = some o := by rw [List.getElem?_take, if_pos hi]; simpa using ho
    have := rgAll_at _ 0 hrg i o ho' us w hst (fun e he hb => (hd e he hb).2)
    rw [Nat.zero_add] at this
    rw [hA]
    by_cases hw : Region.wanted o (yielded l.toArray (A us).tmps) = true
    · rw [if_pos hw] at this ⊢
      exact wp_of_leaves (fun v w' h => ⟨v, rfl, h.1, h.2.1, h.2.2⟩) this
    · rw [if_neg hw] at this ⊢
      exact ⟨hst, this⟩
  · intro us w L hL hst hg
    have := hend us w hst hg
    rw [hA]
    have e := wpOps_eq_wpList (P := P) (ops := l.toArray) (Q := Q) (l.drop sp.length) sp.length (fun j => by simp [List.getElem?_drop])
    rw [List.length_drop] at e
    have e2 : l.toArray.size - sp.length = l.length - sp.length := by simp
    rw [e2, e]
    exact this
  · refine ⟨by simp, ?_, ?_, h0, fun t => a0.tmps.getD t undef, ?_, ?_⟩
    · intro j _ hj
      rw [getD_toList, Array.toList_replicate, List.getD_eq_getElem?_getD, List.getElem?_replicate]
      simp at hj
      simp [hj]
    · intro j o _ hj
      rw [getD_toList, Array.toList_replicate, List.getD_eq_getElem?_getD, List.getElem?_replicate] at hj
      split at hj <;> simp at hj
    · unfold over
      cases a0 with
      | mk tmps defers =>
        congr 1
        apply Array.ext_getElem?
        intro i
        rw [Array.getElem?_mapIdx]
        cases hx : tmps[i]? with
        | none => rfl
        | some v =>
          simp only [Option.map_some, Array.getD_eq_getD_getElem?, hx, Option.getD_some]
          split <;> rfl
    · intro j _ hj
      rw [getD_toList, Array.toList_replicate, List.getD_eq_getElem?_getD, List.getElem?_replicate] at hj
      split at hj <;> simp at hj

end Go.Proofs.YtpilkgcghlfdmaaGreatDoor
namespace Go.Proofs.YtpilkgcghlfdmaaGreatDoor
open Go.RowKit

/-- bytes of the call's own, in regions -/
def spOwnB (base : Nat) (l : List UInt8) : Sp KB := ⟨fun v W => ∃ a c, v = .slice a l.length c ∧ OwnB W base (.slice a l.length c) l, fun _ _ _ hk ⟨a, c, e, h⟩ => ⟨a, c, e, h.grown hk⟩⟩

theorem OwnB.none_len {w : World} {base n c : Nat} {l : List UInt8} (h : OwnB w base (.slice none n c) l) : l.length = 0 ∧ n = 0 ∧ c = 0 := by
  rcases h.2 with ⟨e, h0⟩ | ⟨g, cap, cur, e, _⟩
  · cases e; exact ⟨h0, rfl, rfl⟩
  · cases e
theorem OwnB.cap {w : World} {base n c : Nat} {a : Option Addr} {l : List UInt8} (h : OwnB w base (.slice a n c) l) : n = l.length ∧ n ≤ c ∧ c ≤ maxLen := by
  rcases h.2 with ⟨e, h0⟩ | ⟨g, cap, cur, e, hb, hg, hn, hm, hs, ht⟩
  · cases e; exact ⟨h0.symm, Nat.zero_le _, Nat.zero_le _⟩
  · cases e; exact ⟨rfl, hn, hm⟩
theorem OwnB.some_at {w : World} {base n c : Nat} {b : Addr} {l : List UInt8} (h : OwnB w base (.slice (some b) n c) l) : ∃ g, b = ⟨g, 0, none⟩ ∧ ∀ j u, (Lib.byteCells l)[j]? = some u → w.cell? (b.add j) = some u := by
  rcases h.2 with ⟨e, h0⟩ | ⟨g, cap, cur, e, hb, hg, hn, hm, hs, ht⟩
  · cases e
  · cases e
    refine ⟨g, rfl, fun j u hj => ?_⟩
    have hjl : j < l.length := by
      have := (List.getElem?_eq_some_iff.1 hj).1
      simpa [Lib.byteCells] using this
    have := World.ownsRow.cellAt h j (by simpa [Lib.byteCells] using hjl)
    rw [Addr.add_lit, Nat.zero_add, this]; exact hj

/-- append of bytes to a slice without room, in a region -/
theorem leaves_app_b {o : Oper} {a : Act} {w : World} {R : Value → World → Prop} (s x : Operand)
    (ho : o.op = .call { callee := .builtin .append, args := #[s, x], argTypes := #[22, 22] })
    (base : Nat) (ao : Option Addr) (l : List UInt8) (c : Nat) (hs : a.eval s = .slice ao l.length l.length) (hown : OwnB w base (.slice ao l.length c) l)
    (base2 : Nat) (bo : Option Addr) (m : List UInt8) (c2 : Nat) (hx : a.eval x = .slice bo m.length c2) (hm : OwnB w base2 (.slice bo m.length c2) m) (h0 : 0 < m.length) (hl : l.length + m.length ≤ 1000000000)
    (h : ∀ v w', (∃ a' c', v = .slice a' (l ++ m).length c' ∧ OwnB w' w.heap.size (.slice a' (l ++ m).length c') (l ++ m)) → Below w.heap.size w w' → R v w') : leaves Tryz.prog o a w R := by
  obtain ⟨i0, hi, y0, y1, y2⟩ := info_parts infoU8
  have fin : ∀ v' w', w'.ownsRow w.heap.size 5 1 v' (l.length + m.length) (Lib.byteCells l ++ Lib.byteCells m) → w.grownBy w' none → R v' w' := fun v' w' h1 h2 => by
    have ho : OwnB w' w.heap.size v' (l ++ m) := by
      unfold OwnB
      rw [List.length_append, Lib.byteCells, List.map_append]
      exact h1
    obtain ⟨a', c', e, _⟩ := ho.read
    rw [e] at ho
    exact h v' w' ⟨a', c', e, ho⟩ (below_of_grownBy h2 (Nat.le_refl _) (fun k hk => by cases hk))
  cases bo with
  | none => have := hm.none_len; omega
  | some bd =>
    obtain ⟨g, -, hcm⟩ := hm.some_at
    have hml : (Lib.byteCells m).length = m.length * 1 := by simp [Lib.byteCells]
    cases ao with
    | some b =>
      obtain ⟨g2, -, hcl⟩ := hown.some_at
      obtain ⟨v', w', hrun, r1, r2⟩ := run_append_arg_grows (P := Tryz.prog) w 22 o.type 5 i0 (.int .u8 0) 1 1 Tryz.underlying22 hi y0 y1 y2 rfl (by decide) b l.length l.length (Lib.byteCells l) (by simp [Lib.byteCells]) hcl bd m.length c2 (Lib.byteCells m) hml hcm (by omega) (by unfold maxLen; omega) (by omega)
      unfold leaves
      simp [execOp, ho, resolve, invoke, builtin, hs, hx, hrun, leavesUpon, Result.andThen]
      exact fin _ _ r1 r2
    | none =>
      have hn := hown.none_len
      obtain rfl : l = [] := List.eq_nil_of_length_eq_zero hn.1
      obtain ⟨v', w', hrun, r1, r2, _⟩ := run_append_own (P := Tryz.prog) w w.heap.size 22 o.type 5 i0 (.int .u8 0) 1 1 Tryz.underlying22 hi y0 y1 y2 rfl (by decide) (.slice none 0 0) 0 [] (World.ownsRow_nil w _ _ 1) bd m.length c2 (Lib.byteCells m) hml hcm (fun u hu => by simp only [Lib.byteCells, List.mem_map] at hu; obtain ⟨x, _, rfl⟩ := hu; rfl) (by unfold maxLen; omega) (by omega) (Nat.le_refl _)
      unfold leaves
      simp [execOp, ho, resolve, invoke, builtin, hs, hx, hrun, leavesUpon, Result.andThen]
      exact fin _ _ (by simpa [Lib.byteCells] using r1) r2

/-- the journal at J holds the text l -/
def JSt (w : World) (J n : Nat) (s : Int) (l : List UInt8) : Prop := ∃ a c, JnAt w J (.slice a l.length c) n s ∧ OwnB w (J + 1) (.slice a l.length c) l
theorem JSt.below {w w' : World} {J n : Nat} {s : Int} {l : List UInt8} (h : JSt w J n s l) (hb : Below w.heap.size w w') : JSt w' J n s l := by
  obtain ⟨a, c, h1, h2⟩ := h
  exact ⟨a, c, blkK hb h1, h2.grown hb⟩

set_option maxRecDepth 100000 in
set_option maxHeartbeats 1000000 in
theorem add_any (J n : Nat) (s : Int) (l : List UInt8) (r : Rc) (w : World) (hj : JSt w J n s l) (hok : r.ok = true) (hn : n < 1000) (hs : 0 ≤ s ∧ s < 65521) (hl : l.length ≤ 100000) (ht : Tab w) :
    Calls Tryz.prog 87 #[.pointer (some ⟨J, 0, none⟩), .agg #[.int .i64 r.k, .int .i64 r.n]] w fun e w' => e = .returned (.tuple #[]) ∧ JSt w' J (n + 1) (nextJ n s r) (l ++ (lineJ n s r ++ [10])) ∧ w.grownBy w' (some J) := by
  obtain ⟨a, c, hj1, ho⟩ := hj
  have HJ := Lib.hid hj1
  have HO0 := Lib.hid ho
  have HT := Lib.hid ht
  have hjl : J < w.heap.size := blkLt hj1
  obtain ⟨L1, hL1⟩ : ∃ L1, lineJ n s r ++ [10] = L1 := ⟨_, rfl⟩
  have hlen : 0 < L1.length ∧ L1.length ≤ 20 := by have := lineJ_len hn hs hok; rw [← hL1]; simp; omega
  have HL := Lib.hid hL1
  clear hj1 ho ht
  go_enter Tryz.func87, Tryz.ntmps87
  go_wp2_with fail
  have HB0 := Lib.hid (ba1 w (.cells #[.int .i64 r.k, .int .i64 r.n] 53 (0, 0)))
  refine (line_any J n s _ r _ (blkK HB0.out HJ.out) hok hn hs (HT.out.next HB0.out)).mono ?_
  rintro e w1 ⟨a1, c1, l1, e1, rfl, ho1, hb1⟩
  obtain rfl : l1 = L1 := e1.trans HL.out
  have HB1 := Lib.hid (bt0 HB0.out hb1 (Nat.le_refl _))
  have HO1 := Lib.hid ho1
  have HO := Lib.hid (HO0.out.grown HB1.out)
  have HJ1 := Lib.hid (blkK HB1.out HJ.out)
  have hcap := HO.out.cap
  have hw1 : w.heap.size ≤ w1.heap.size := HB1.out.size
  clear ho1 hb1 e1
  go_wp2_with fail
  refine wp_region_rt (Keep := KB) [12, 13, 14, 15, 16, 17, 18, 19, 20, 21, 22, 23, 24, 25, 26, 27, 28, 29, 30, 31] (fun us => _)
    [spE (.pointer (some ⟨J, 0, none⟩)),
     spE (.pointer (some ⟨J, 0, none⟩)),
     spE (.pointer (some ⟨J, 0, none⟩)),
     spE (.pointer (some ⟨J, 0, none⟩)),
     spE (.slice a l.length c),
     spE (.pointer (some ⟨J, 0, none⟩)),
     spE (.pointer (some ⟨J, 0, none⟩)),
     spE (.pointer (some ⟨J, 0, none⟩)),
     spE (.slice a l.length c),
     spE (.int .i64 (l.length : Int)),
     spE (.pointer (some ⟨J, 0, none⟩)),
     spE (.pointer (some ⟨J, 0, none⟩)),
     spE (.pointer (some ⟨J, 0, none⟩)),
     spE (.slice a l.length c),
     spE (.int .i64 (l.length : Int)),
     spE (.slice a l.length l.length),
     spE (.slice a1 l1.length c1),
     spOwnB (w1.heap.size) (l ++ l1),
     spE (.pointer (some ⟨J, 0, none⟩)),
     spE (.pointer (some ⟨J, 0, none⟩))]
    (StX w1) (by kernel_rfl) (by kernel_rfl) (Nat.le_of_ble_eq_true rfl) (fun us => by simp [over, List.mapIdx_cons]; exact rfl) (stX0 _) kbr ?_ ?_
  · refine ⟨?_, ?_, ?_, ?_, ?_, ?_, ?_, ?_, ?_, ?_, ?_, ?_, ?_, ?_, ?_, ?_, ?_, ?_, ?_, ?_, trivial⟩
    all_goals (intro us wx hst hd; rw [if_pos (by kernel_rfl)]; dsimp only)
    · clear hd
      go_simp
      exact kb_same hst rfl
    · clear hd
      go_simp
      exact kb_same hst rfl
    · have d13 : us 13 = (.pointer (some ⟨J, 0, none⟩)) := hd ⟨1, .data⟩ (by simp) rfl
      clear hd
      go_simp
      exact kb_same hst rfl
    · have d14 : us 14 = (.pointer (some ⟨J, 0, none⟩)) := hd ⟨2, .data⟩ (by simp) rfl
      clear hd
      go_simp
      exact kb_same hst rfl
    · have d15 : us 15 = (.pointer (some ⟨J, 0, none⟩)) := hd ⟨3, .data⟩ (by simp) rfl
      clear hd
      have hc := (heap_cellR (blkK hst HJ1.out)).1
      go_simp
      exact kb_same hst rfl
    · clear hd
      go_simp
      exact kb_same hst rfl
    · have d17 : us 17 = (.pointer (some ⟨J, 0, none⟩)) := hd ⟨5, .data⟩ (by simp) rfl
      clear hd
      go_simp
      exact kb_same hst rfl
    · have d18 : us 18 = (.pointer (some ⟨J, 0, none⟩)) := hd ⟨6, .data⟩ (by simp) rfl
      clear hd
      go_simp
      exact kb_same hst rfl
    · have d19 : us 19 = (.pointer (some ⟨J, 0, none⟩)) := hd ⟨7, .data⟩ (by simp) rfl
      clear hd
      have hc := (heap_cellR (blkK hst HJ1.out)).1
      go_simp
      exact kb_same hst rfl
    · have d20 : us 20 = (.slice a l.length c) := hd ⟨8, .data⟩ (by simp) rfl
      clear hd
      go_simp
      exact kb_same hst rfl
    · clear hd
      go_simp
      exact kb_same hst rfl
    · have d22 : us 22 = (.pointer (some ⟨J, 0, none⟩)) := hd ⟨10, .data⟩ (by simp) rfl
      clear hd
      go_simp
      exact kb_same hst rfl
    · have d23 : us 23 = (.pointer (some ⟨J, 0, none⟩)) := hd ⟨11, .data⟩ (by simp) rfl
      clear hd
      go_simp
      exact kb_same hst rfl
    · have d24 : us 24 = (.pointer (some ⟨J, 0, none⟩)) := hd ⟨12, .data⟩ (by simp) rfl
      clear hd
      have hc := (heap_cellR (blkK hst HJ1.out)).1
      go_simp
      exact kb_same hst rfl
    · have d25 : us 25 = (.slice a l.length c) := hd ⟨13, .data⟩ (by simp) rfl
      clear hd
      go_simp
      exact kb_same hst rfl
    · have d16 : us 16 = (.slice a l.length c) := hd ⟨4, .data⟩ (by simp) rfl
      have d21 : us 21 = (.int .i64 (l.length : Int)) := hd ⟨9, .data⟩ (by simp) rfl
      have d26 : us 26 = (.int .i64 (l.length : Int)) := hd ⟨14, .data⟩ (by simp) rfl
      clear hd
      go_simp
      exact kb_same hst rfl
    · clear hd
      go_simp
      exact kb_same hst rfl
    · have d27 : us 27 = (.slice a l.length l.length) := hd ⟨15, .data⟩ (by simp) rfl
      have d28 : us 28 = (.slice a1 l1.length c1) := hd ⟨16, .data⟩ (by simp) rfl
      clear hd
      refine leaves_app_b _ _ rfl (J + 1) a l c (by simp [Act.eval, d27]) (HO.out.grown hst) (w.heap.size + 1) a1 l1 c1 (by simp [Act.eval, d28]) ((OwnB.weak HO1.out (by simp)).grown hst) hlen.1 (by omega) ?_
      rintro v w' ⟨a2, c2, rfl, ho2⟩ hb2
      exact kb_below hst hb2 ⟨a2, c2, rfl, ho2.weak hst.size⟩
    · have d12 : us 12 = (.pointer (some ⟨J, 0, none⟩)) := hd ⟨0, .data⟩ (by simp) rfl
      clear hd
      go_simp
      exact kb_same hst rfl
    · have d30 : us 30 = (.pointer (some ⟨J, 0, none⟩)) := hd ⟨18, .data⟩ (by simp) rfl
      clear hd
      go_simp
      exact kb_same hst rfl
  · intro us wx hst hd
    have d31 : us 31 = (.pointer (some ⟨J, 0, none⟩)) := hd 19 (by simp)
    have d29 := hd 17 (by simp)
    clear hd
    simp only [List.drop, List.length]
    rw [d31]
    obtain ⟨a2, c2, e29, ho2⟩ := d29
    rw [e29]
    have HL1 := Lib.hid hL1
    obtain ⟨N, hN⟩ : ∃ N, (l ++ l1).length = N := ⟨_, rfl⟩
    rw [hN] at ho2 ⊢
    have HN := Lib.hid hN
    have HO2 := Lib.hid ho2
    have HJx := Lib.hid (blkK hst HJ1.out)
    have HBx := Lib.hid (bt0 HB1.out hst (Nat.le_refl _))
    obtain ⟨hcx, hfx⟩ := heap_cellR HJx.out
    have e1 : IntKind.i64.wrap ((n : Int) + 1) = (n : Int) + 1 := IntWalk.i64_in _ (by omega)
    have hne : J < w1.heap.size := by omega
    clear ho2 hst e29 d31 hcap hN hL1
    go_wp2_with fail
    refine bodyPost_end (results_none rfl _ _ _) rfl ⟨rfl, ?_, ?_⟩
    · rw [HL1.out]
      refine ⟨a2, c2, ?_, ?_⟩
      all_goals rw [HN.out]
      · have h1 := src_set HJx.out 0 (Value.slice a2 N c2)
        have h2 := src_set h1 1 (Value.int .i64 ((n : Int) + 1))
        have h3 := src_set h2 2 (Value.int .i64 (nextJ n s r))
        simpa [JnAt] using h3
      · have hx : ∀ k, Value.ownBlock (.slice a2 N c2) = some k → some J ≠ some k := fun k hk e => by
          have := HO2.out.lo k hk
          have := Option.some.inj e
          omega
        exact (((HO2.out.other (grownBy_set _ _ _ _) hx).other (grownBy_set _ _ _ _) hx).other (grownBy_set _ _ _ _) hx).weak (by omega)
    · have hg2 : w.grownBy wx (some J) := ⟨HBx.out.os, HBx.out.tape, HBx.out.output, HBx.out.size, fun k hk _ => HBx.out.block k hk⟩
      exact grownBy_trans (grownBy_trans (grownBy_trans hg2 (grownBy_set _ _ _ _)) (grownBy_set _ _ _ _)) (grownBy_set _ _ _ _)

end Go.Proofs.YtpilkgcghlfdmaaGreatDoor
namespace Go.Proofs.YtpilkgcghlfdmaaGreatDoor
open Go.RowKit

theorem below_drewN {B : Nat} (w : World) (k : Nat) : Below B w (w.drewN k) := ⟨rfl, rfl, rfl, Nat.le_refl _, fun _ _ => rfl⟩
/-- what readDecimal answers -/
def RetDecR (w : World) (o : Option Int) (e : Ending) (w' : World) : Prop :=
  ∃ v : Int, e = .returned (.tuple #[.int .i64 v, .bool o.isSome]) ∧ (∀ n, o = some n → v = n) ∧ Below w.heap.size w w'
theorem retDecR_no {w w' : World} {o : Option Int} (h : o = none) (v : Int) (hb : Below w.heap.size w w') : RetDecR w o (.returned (.tuple #[.int .i64 v, .bool false])) w' := by
  subst h; exact ⟨v, rfl, fun n e => (by cases e), hb⟩
theorem retDecR_yes {w w' : World} {o : Option Int} {v : Int} (h : o = some v) (hb : Below w.heap.size w w') : RetDecR w o (.returned (.tuple #[.int .i64 v, .bool true])) w' := by
  subst h; exact ⟨v, rfl, fun n e => Option.some.inj e, hb⟩
theorem get0 {s : ByteArray} (h : 0 < s.size) : s.data.toList[0]? = some s[0] := by
  have hl : s.data.toList.length = s.size := rfl
  rw [List.getElem?_eq_getElem (by omega)]
  rfl

set_option maxRecDepth 100000 in
set_option maxHeartbeats 1000000 in
theorem readDecimal_any (s : ByteArray) (w : World) (hs : s.size ≤ 1048576) (hE : Env w) :
    Calls Tryz.prog 110 #[.string s] w (RetDecR w (rdec s.data.toList)) := by
  have HE := Lib.hid hE
  clear hE
  have hl : s.data.toList.length = s.size := rfl
  by_cases h0 : s.size = 0
  · have hd : s.data.toList = [] := List.eq_nil_of_length_eq_zero (by omega)
    have e : s = ⟨#[]⟩ := by apply ByteArray.ext; apply Array.toList_inj.1; exact hd
    subst e
    have HN := Lib.hid (show rdec (ByteArray.data ⟨#[]⟩).toList = none from rfl)
    go_enter Tryz.func110, Tryz.ntmps110
    go_wp2_with fail
    go_ret2
    exact retDecR_no HN.out _ (Below.refl _ _)
  have hp : 0 < s.size := by omega
  have hne : s.data.toList ≠ [] := fun e => by rw [e] at hl; simp at hl; omega
  have e0 : (s.toList == []) = false := by
    rw [Bool.eq_false_iff]; intro e
    rw [beq_iff_eq, ByteArray.toList_eq] at e
    exact hne e
  have hx := get0 hp
  obtain ⟨x, hxe⟩ : ∃ x, s[0] = x := ⟨_, rfl⟩
  rw [hxe] at hx
  have HX := Lib.hid hx
  clear hx hne h0
  by_cases h1 : 1 < s.size ∧ x.toNat = 48
  · have hi1 : (1 : Int) < ((s.size : Nat) : Int) := by omega
    have hi2 : (((s[0].toNat : Nat) : Int) == 48) = true := by rw [hxe, h1.2]; rfl
    have HN := Lib.hid (show rdec s.data.toList = none by
      rw [rdec, if_pos]
      exact .inr (.inl ⟨by omega, by rw [HX.out, show x = 48 from UInt8.toNat_inj.1 h1.2]⟩))
    clear h1 hxe
    go_enter Tryz.func110, Tryz.ntmps110
    go_wp2_with fail
    go_ret2
    exact retDecR_no HN.out _ (Below.refl _ _)
  by_cases h3 : x.toNat = 43
  · have hi2 : (((s[0].toNat : Nat) : Int) == 48) = false := by rw [hxe, h3]; rfl
    have hi3 : (((s[0].toNat : Nat) : Int) == 43) = true := by rw [hxe, h3]; rfl
    have HN := Lib.hid (show rdec s.data.toList = none by
      rw [rdec, if_pos]
      exact .inr (.inr (.inl (by rw [HX.out, show x = 43 from UInt8.toNat_inj.1 h3]))))
    clear h1 h3 hxe
    by_cases h5 : 1 < s.size
    · have hi1 : (1 : Int) < ((s.size : Nat) : Int) := by omega
      go_enter Tryz.func110, Tryz.ntmps110
      go_wp2_with fail
      go_ret2
      exact retDecR_no HN.out _ (Below.refl _ _)
    · have hi1 : ¬ (1 : Int) < ((s.size : Nat) : Int) := by omega
      go_enter Tryz.func110, Tryz.ntmps110
      go_wp2_with fail
      go_ret2
      exact retDecR_no HN.out _ (Below.refl _ _)
  by_cases h4 : x.toNat = 45
  · have hi2 : (((s[0].toNat : Nat) : Int) == 48) = false := by rw [hxe, h4]; rfl
    have hi3 : (((s[0].toNat : Nat) : Int) == 43) = false := by rw [hxe, h4]; rfl
    have hi4 : (((s[0].toNat : Nat) : Int) == 45) = true := by rw [hxe, h4]; rfl
    have HN := Lib.hid (show rdec s.data.toList = none by
      rw [rdec, if_pos]
      exact .inr (.inr (.inr (by rw [HX.out, show x = 45 from UInt8.toNat_inj.1 h4]))))
    clear h1 h3 h4 hxe
    by_cases h5 : 1 < s.size
    · have hi1 : (1 : Int) < ((s.size : Nat) : Int) := by omega
      go_enter Tryz.func110, Tryz.ntmps110
      go_wp2_with fail
      go_ret2
      exact retDecR_no HN.out _ (Below.refl _ _)
    · have hi1 : ¬ (1 : Int) < ((s.size : Nat) : Int) := by omega
      go_enter Tryz.func110, Tryz.ntmps110
      go_wp2_with fail
      go_ret2
      exact retDecR_no HN.out _ (Below.refl _ _)
  have hi3 : (((s[0].toNat : Nat) : Int) == 43) = false := by rw [hxe]; simp; omega
  have hi4 : (((s[0].toNat : Nat) : Int) == 45) = false := by rw [hxe]; simp; omega
  have HN := Lib.hid (show rdec s.data.toList = match Lib.parseIntB 64 s.data.toList with | .ok n => some n | _ => none by
    rw [rdec, if_neg]
    case hnc =>
      rintro (h | ⟨h, h2⟩ | h | h)
      · rw [h] at hl; simp at hl; omega
      · rw [HX.out] at h2
        have := Option.some.inj h2
        exact h1 ⟨by omega, by rw [this]; rfl⟩
      · rw [HX.out] at h
        have := Option.some.inj h
        exact h3 (by rw [this]; rfl)
      · rw [HX.out] at h
        have := Option.some.inj h
        exact h4 (by rw [this]; rfl)
    all_goals (cases Lib.parseIntB 64 s.data.toList <;> rfl))
  have hg : Hid (∀ (e : Ending) (w' : World), ((∃ n, Lib.parseIntB 64 s.data.toList = .ok n ∧ e = .returned (.tuple #[.int .i64 n, .nilIface])) ∨ ((∀ n, Lib.parseIntB 64 s.data.toList ≠ .ok n) ∧ ∃ v t p, e = .returned (.tuple #[.int .i64 v, .iface t p]))) ∧ Below w.heap.size w w' → ((∃ n, rdec s.data.toList = some n ∧ e = .returned (.tuple #[.int .i64 n, .nilIface])) ∨ (rdec s.data.toList = none ∧ ∃ v t p, e = .returned (.tuple #[.int .i64 v, .iface t p]))) ∧ Below w.heap.size w w') := Lib.hid (by
    rintro e w' ⟨⟨n, hn, he⟩ | ⟨hn, he⟩, hb⟩
    · exact ⟨.inl ⟨n, by rw [HN.out, hn], he⟩, hb⟩
    · refine ⟨.inr ⟨?_, he⟩, hb⟩
      rw [HN.out]
      split
      · rename_i n hn2; exact absurd hn2 (hn n)
      · rfl)
  have hfin : (1 < s.size ∧ (((s[0].toNat : Nat) : Int) == 48) = false) ∨ ¬ 1 < s.size := by
    by_cases h5 : 1 < s.size
    · refine .inl ⟨h5, ?_⟩
      rw [hxe]; simp; intro h; exact h1 ⟨h5, by omega⟩
    · exact .inr h5
  clear h1 h3 h4 hxe
  rcases hfin with ⟨h5, hi2⟩ | h5
  · have hi1 : (1 : Int) < ((s.size : Nat) : Int) := by omega
    go_enter Tryz.func110, Tryz.ntmps110
    go_wp2_with fail
    refine (parse_any s w (by omega) HE.out).mono ?_
    intro e w1 h9
    obtain ⟨⟨n, hn, rfl⟩ | ⟨hn, v, t, p, rfl⟩, hb1⟩ := hg.out _ _ h9
    · have HN2 := Lib.hid hn
      have HB1 := Lib.hid hb1
      clear h9 hn hb1
      go_wp2_with fail
      go_quiet (fail)
      go_wp2_with fail
      go_ret2
      exact retDecR_yes HN2.out (HB1.out.trans (below_drewN _ _))
    · have HN2 := Lib.hid hn
      have HB1 := Lib.hid hb1
      clear h9 hn hb1
      go_wp2_with fail
      go_quiet (fail)
      go_wp2_with fail
      go_ret2
      exact retDecR_no HN2.out _ (HB1.out.trans (below_drewN _ _))
  · have hi1 : ¬ (1 : Int) < ((s.size : Nat) : Int) := by omega
    go_enter Tryz.func110, Tryz.ntmps110
    go_wp2_with fail
    refine (parse_any s w (by omega) HE.out).mono ?_
    intro e w1 h9
    obtain ⟨⟨n, hn, rfl⟩ | ⟨hn, v, t, p, rfl⟩, hb1⟩ := hg.out _ _ h9
    · have HN2 := Lib.hid hn
      have HB1 := Lib.hid hb1
      clear h9 hn hb1
      go_wp2_with fail
      go_quiet (fail)
      go_wp2_with fail
      go_ret2
      exact retDecR_yes HN2.out (HB1.out.trans (below_drewN _ _))
    · have HN2 := Lib.hid hn
      have HB1 := Lib.hid hb1
      clear h9 hn hb1
      go_wp2_with fail
      go_quiet (fail)
      go_wp2_with fail
      go_ret2
      exact retDecR_no HN2.out _ (HB1.out.trans (below_drewN _ _))

end Go.Proofs.YtpilkgcghlfdmaaGreatDoor
namespace Go.Proofs.YtpilkgcghlfdmaaGreatDoor
open Go.RowKit

def isRecB (k n : Int) : Bool := inB k 1 4 && inB n 0 199

theorem isRecord_any (k n : Int) (w : World) :
    Calls Tryz.prog 67 #[.agg #[.int .i64 k, .int .i64 n]] w fun e w' => e = .returned (.bool (isRecB k n)) ∧ Below w.heap.size w w' := by
  rcases Bool.eq_false_or_eq_true (inB k 1 4) with h1 | h1
  · rcases Bool.eq_false_or_eq_true (inB n 0 199) with h2 | h2
    all_goals
      have E := Lib.hid (show isRecB k n = _ by unfold isRecB; rw [h1, h2])
      go_enter Tryz.func67, Tryz.ntmps67
      go_wp2_with (go_at_call 60; go_must (refine (inRange_val (by assumption)).mono ?_; rintro e w' ⟨rfl, rfl⟩))
      go_ret
      exact ⟨ret_bool (by rw [E.out]; rfl), ba1 _ _⟩
  · have E := Lib.hid (show isRecB k n = false by unfold isRecB; rw [h1]; rfl)
    go_enter Tryz.func67, Tryz.ntmps67
    go_wp2_with (go_at_call 60; go_must (refine (inRange_val (by assumption)).mono ?_; rintro e w' ⟨rfl, rfl⟩))
    go_ret
    exact ⟨ret_bool (by rw [E.out]), ba1 _ _⟩
theorem specIsRecord_any (k n : Int) (w : World) :
    Calls Tryz.prog 73 #[.agg #[.int .i64 k, .int .i64 n]] w fun e w' => e = .returned (.bool (isRecB k n)) ∧ Below w.heap.size w w' := by
  rcases Bool.eq_false_or_eq_true (inB k 1 4) with h1 | h1
  · rcases Bool.eq_false_or_eq_true (inB n 0 199) with h2 | h2
    all_goals
      have E := Lib.hid (show isRecB k n = _ by unfold isRecB; rw [h1, h2])
      go_enter Tryz.func73, Tryz.ntmps73
      go_wp2_with (go_at_call 75; go_must (refine (l01In_val (by assumption)).mono ?_; rintro e w' ⟨rfl, rfl⟩))
      go_ret
      exact ⟨ret_bool (by rw [E.out]; rfl), ba1 _ _⟩
  · have E := Lib.hid (show isRecB k n = false by unfold isRecB; rw [h1]; rfl)
    go_enter Tryz.func73, Tryz.ntmps73
    go_wp2_with (go_at_call 75; go_must (refine (l01In_val (by assumption)).mono ?_; rintro e w' ⟨rfl, rfl⟩))
    go_ret
    exact ⟨ret_bool (by rw [E.out]), ba1 _ _⟩
theorem isRecord_val {k n : Int} {w : World} {b : Bool} (h : isRecB k n = b) :
    Calls Tryz.prog 67 #[.agg #[.int .i64 k, .int .i64 n]] w fun e w' => e = .returned (.bool b) ∧ Below w.heap.size w w' := h ▸ isRecord_any k n w
theorem specIsRecord_val {k n : Int} {w : World} {b : Bool} (h : isRecB k n = b) :
    Calls Tryz.prog 73 #[.agg #[.int .i64 k, .int .i64 n]] w fun e w' => e = .returned (.bool b) ∧ Below w.heap.size w w' := h ▸ specIsRecord_any k n w

/-- the state behind a record of kind k, 0 where there is none -/
def nextS (k s : Int) : Int := if k = 1 ∧ s = 0 then 1 else if k = 2 ∧ s = 1 then 2 else if k = 3 ∧ (s = 2 ∨ s = 3) then 3 else if k = 4 ∧ (s = 1 ∨ s = 2) then 4 else 0

theorem kind4 {k : Int} (h : 1 ≤ k) (h' : k ≤ 4) : k = 1 ∨ k = 2 ∨ k = 3 ∨ k = 4 := by omega
theorem fiveS {k : Int} (h : 0 ≤ k) (h' : k ≤ 4) : k = 0 ∨ k = 1 ∨ k = 2 ∨ k = 3 ∨ k = 4 := by omega

end Go.Proofs.YtpilkgcghlfdmaaGreatDoor
namespace Go.Proofs.YtpilkgcghlfdmaaGreatDoor
open Go.RowKit

/-- after j rounds of a copy -/
def Copied (w : World) (base g : Nat) (xs : List Int) (j : Nat) : Prop :=
  ∃ zs : List Int, zs.length = xs.length ∧ OwnI w base (.slice (some ⟨g, 0, none⟩) xs.length xs.length) zs ∧ zs.take j = xs.take j

theorem Copied.step {w : World} {base g : Nat} {xs : List Int} {j : Nat} {x : Int} (h : Copied w base g xs j) (hx : xs[j]? = some x) : Copied (w.setCell ⟨g, j, none⟩ (.int .i64 x)) base g xs (j + 1) := by
  obtain ⟨zs, hl, ho, ht⟩ := h
  have hj : j < xs.length := (List.getElem?_eq_some_iff.1 hx).1
  refine ⟨zs.set j x, by simpa using hl, (ho.stored hl.symm j x).1, ?_⟩
  rw [take_snoc' hx, take_snoc' (zs := zs.set j x) (k := j) (z := x) (by simp [hl, hj]), List.take_set_of_le (Nat.le_refl _), ht]

theorem Copied.fin {w : World} {base g : Nat} {xs : List Int} (h : Copied w base g xs xs.length) : OwnI w base (.slice (some ⟨g, 0, none⟩) xs.length xs.length) xs := by
  obtain ⟨zs, hl, ho, ht⟩ := h
  rw [List.take_of_length_le (by omega), List.take_of_length_le (by omega)] at ht
  rwa [ht] at ho

end Go.Proofs.YtpilkgcghlfdmaaGreatDoor
namespace Go.Proofs.YtpilkgcghlfdmaaGreatDoor
open Go.RowKit

/-- the slice at address a holds the texts ss -/
def StrsAt (w : World) (a : Option Addr) (ss : List ByteArray) : Prop :=
  ∀ i (h : i < ss.length), ∃ b o, a = some ⟨b, o, none⟩ ∧ w.cell? ⟨b, o + i, none⟩ = some (.string ss[i])
theorem StrsAt.at {w : World} {a : Option Addr} {ss : List ByteArray} (H : StrsAt w a ss) {k : Nat} (hk : k < ss.length) :
    ∃ b o z, a = some ⟨b, o, none⟩ ∧ ss[k]? = some z ∧ b < w.heap.size ∧ w.cell? ⟨b, o + k, none⟩ = some (.string z) := by
  obtain ⟨b, o, ha, hc⟩ := H k hk
  exact ⟨b, o, ss[k], ha, List.getElem?_eq_getElem hk, lt_of_cell hc, hc⟩
theorem StrsAt.below {w w' : World} {a : Option Addr} {ss : List ByteArray} (H : StrsAt w a ss) (hb : Below w.heap.size w w') : StrsAt w' a ss := by
  intro i h
  obtain ⟨b, o, ha, hc⟩ := H i h
  exact ⟨b, o, ha, by rw [hb.cell (p := ⟨b, o + i, none⟩) (lt_of_cell hc)]; exact hc⟩
theorem StrsAt.grow {w w' : World} {a : Option Addr} {ss : List ByteArray} {B : Nat} (H : StrsAt w a ss) (hB : ∀ ad, a = some ad → ad.block < B) (hb : Below B w w') : StrsAt w' a ss := by
  intro i h
  obtain ⟨b, o, ha, hc⟩ := H i h
  exact ⟨b, o, ha, by rw [hb.cell (p := ⟨b, o + i, none⟩) (show b < B from hB _ ha)]; exact hc⟩
theorem StrsAt.nil {w : World} {a : Option Addr} : StrsAt w a [] := fun i h => absurd h (by simp)

/-- the slice v is the call's own and holds the texts ss -/
def OwnS (w : World) (base : Nat) (v : Value) (ss : List ByteArray) : Prop := w.ownsRow base 9 1 v ss.length (ss.map Value.string)
theorem OwnS.read {w : World} {base : Nat} {v : Value} {zs : List ByteArray} (h : OwnS w base v zs) : ∃ a c, v = .slice a zs.length c ∧ StrsAt w a zs := by
  unfold OwnS at h
  have h2 := h.2
  rcases h2 with ⟨rfl, h0⟩ | ⟨g, cap, cur, rfl, hb, hg, hn, hm, hs, ht⟩
  · refine ⟨none, 0, by rw [h0], ?_⟩
    intro i hi; omega
  · refine ⟨some ⟨g, 0, none⟩, cap, rfl, ?_⟩
    intro i hi
    refine ⟨g, 0, rfl, ?_⟩
    rw [Nat.zero_add, h.cellAt i (by omega)]
    simp [hi]
theorem OwnS.strs {w : World} {base : Nat} {a : Option Addr} {n c : Nat} {zs : List ByteArray} (h : OwnS w base (.slice a n c) zs) : StrsAt w a zs := by
  obtain ⟨a', c', e, hx⟩ := h.read
  obtain ⟨rfl, _, _⟩ := Value.slice.inj e
  exact hx
theorem OwnS.len {w : World} {base : Nat} {v : Value} {zs : List ByteArray} (h : OwnS w base v zs) : zs.length ≤ maxLen := by
  rcases h.2 with ⟨_, h0⟩ | ⟨g, cap, cur, rfl, hb, hg, hn, hm, hs, ht⟩
  · rw [h0]; exact Nat.zero_le _
  · omega
theorem OwnS.block {w : World} {base : Nat} {a : Option Addr} {n c : Nat} {zs : List ByteArray} (h : OwnS w base (.slice a n c) zs) (hk : 0 < zs.length) : ∃ g, a = some ⟨g, 0, none⟩ ∧ base ≤ g ∧ n = zs.length ∧ g < w.heap.size := by
  rcases h.2 with ⟨h1, h0⟩ | ⟨g, cap, cur, h1, hb, hg, _⟩
  · omega
  · simp only [Value.slice.injEq] at h1
    obtain ⟨rfl, rfl, rfl⟩ := h1
    exact ⟨g, rfl, hb, rfl, (Array.getElem?_eq_some_iff.1 hg).1⟩
theorem OwnS.grown {w w' : World} {base : Nat} {v : Value} {zs : List ByteArray} (h : OwnS w base v zs) (hb : Below w.heap.size w w') : OwnS w' base v zs :=
  h.kept (row := none) ⟨hb.os, hb.tape, hb.output, hb.size, fun k hk _ => hb.block k hk⟩ (by cases hv : v.ownBlock <;> simp)
theorem OwnS.weak {w : World} {base base' : Nat} {v : Value} {zs : List ByteArray} (h : OwnS w base v zs) (hb : base' ≤ base) : OwnS w base' v zs := by
  refine ⟨h.1, ?_⟩
  rcases h.2 with h2 | ⟨g, cap, cur, h1, hb', r⟩
  · exact Or.inl h2
  · exact Or.inr ⟨g, cap, cur, h1, by omega, r⟩
theorem OwnS.lo {w : World} {base : Nat} {v : Value} {zs : List ByteArray} (h : OwnS w base v zs) : ∀ k, v.ownBlock = some k → base ≤ k := fun k hk => (World.ownsRow.lt h k hk).1
theorem OwnS.hi {w : World} {base : Nat} {v : Value} {zs : List ByteArray} (h : OwnS w base v zs) : ∀ k, v.ownBlock = some k → k < w.heap.size := fun k hk => (World.ownsRow.lt h k hk).2
theorem OwnS.cellAt {w : World} {base g n c : Nat} {zs : List ByteArray} (h : OwnS w base (.slice (some ⟨g, 0, none⟩) n c) zs) (hn : n = zs.length) {k : Nat} (hk : k < zs.length) :
    ∃ z, zs[k]? = some z ∧ w.cell? ⟨g, k, none⟩ = some (.string z) ∧ w.frozen? ⟨g, k, none⟩ = false := by
  subst hn
  refine ⟨zs[k], by simp [hk], ?_, h.frozenAt k⟩
  rw [World.ownsRow.cellAt h k (by omega)]
  simp [hk]
theorem OwnS.stored {w : World} {base g n c : Nat} {zs : List ByteArray} (h : OwnS w base (.slice (some ⟨g, 0, none⟩) n c) zs) (hn : n = zs.length) (k : Nat) (z : ByteArray) :
    OwnS (w.setCell ⟨g, k, none⟩ (.string z)) base (.slice (some ⟨g, 0, none⟩) n c) (zs.set k z) ∧ w.grownBy (w.setCell ⟨g, k, none⟩ (.string z)) (some g) := by
  subst hn
  have hst := World.ownsRow.stored (h := h) k (.string z)
  refine ⟨?_, hst.2⟩
  unfold OwnS
  rw [List.map_set, List.length_set]
  exact hst.1
theorem OwnS.of_made {w : World} {base : Nat} {v : Value} {n : Nat} (h : w.ownsRow base 9 1 v n (madeCells #[.string ⟨#[]⟩] n).toList) : OwnS w base v (List.replicate n ⟨#[]⟩) := by
  unfold OwnS
  rw [toList_madeCells_one] at h
  simpa using h
theorem infoS : (Tryz.prog.info? 9).map (fun i => (i.zero, i.size, i.bytes)) = some (some (.string ⟨#[]⟩), 1, 16) := by kernel_rfl

theorem strs_at {w : World} {b o : Nat} {xs : List ByteArray} (h : StrsAt w (some ⟨b, o, none⟩) xs) : ∀ j u, (xs.map Value.string)[j]? = some u → w.cell? ((⟨b, o, none⟩ : Addr).add j) = some u := by
  intro j u hu
  rw [List.getElem?_map] at hu
  cases hx : xs[j]? with
  | none => rw [hx] at hu; cases hu
  | some x =>
    rw [hx] at hu
    obtain ⟨hj, rfl⟩ := List.getElem?_eq_some_iff.1 hx
    obtain ⟨b', o', e, hc⟩ := h j hj
    simp only [Option.some.injEq, Addr.mk.injEq, and_true] at e
    obtain ⟨rfl, rfl⟩ := e
    simp only [Option.map_some, Option.some.injEq] at hu
    subst hu
    rw [Addr.add_mid]
    exact hc

/-- after j rounds of a copy -/
def CopiedS (w : World) (base g : Nat) (xs : List ByteArray) (j : Nat) : Prop :=
  ∃ zs : List ByteArray, zs.length = xs.length ∧ OwnS w base (.slice (some ⟨g, 0, none⟩) xs.length xs.length) zs ∧ zs.take j = xs.take j
theorem CopiedS.step {w : World} {base g : Nat} {xs : List ByteArray} {j : Nat} {x : ByteArray} (h : CopiedS w base g xs j) (hx : xs[j]? = some x) : CopiedS (w.setCell ⟨g, j, none⟩ (.string x)) base g xs (j + 1) := by
  obtain ⟨zs, hl, ho, ht⟩ := h
  have hj : j < xs.length := (List.getElem?_eq_some_iff.1 hx).1
  refine ⟨zs.set j x, by simpa using hl, (ho.stored hl.symm j x).1, ?_⟩
  rw [take_snoc' hx, take_snoc' (zs := zs.set j x) (k := j) (z := x) (by simp [hl, hj]), List.take_set_of_le (Nat.le_refl _), ht]
theorem CopiedS.fin {w : World} {base g : Nat} {xs : List ByteArray} (h : CopiedS w base g xs xs.length) : OwnS w base (.slice (some ⟨g, 0, none⟩) xs.length xs.length) xs := by
  obtain ⟨zs, hl, ho, ht⟩ := h
  rw [List.take_of_length_le (by omega), List.take_of_length_le (by omega)] at ht
  rwa [ht] at ho

end Go.Proofs.YtpilkgcghlfdmaaGreatDoor
namespace Go.Proofs.YtpilkgcghlfdmaaGreatDoor
open Go.RowKit

/-- the words' bytes -/
def bytesL (ws : List ByteArray) : List (List UInt8) := ws.map (fun b => b.data.toList)

theorem cut_len (c : UInt8) : ∀ (l : List UInt8), (cut c l).length ≤ l.length + 1 ∧ ∀ p ∈ cut c l, p.length ≤ l.length
  | [] => by simp [cut]
  | x :: r => by
    obtain ⟨h1, h2⟩ := cut_len c r
    rw [cut]
    split
    · refine ⟨by simpa using h1, ?_⟩
      intro p hp
      rcases List.mem_cons.1 hp with rfl | hp
      · simp
      · have := h2 p hp; simp; omega
    · split
      · simp
      · rename_i h t he
        rw [he] at h1 h2
        refine ⟨by simp at h1 ⊢; omega, ?_⟩
        intro p hp
        rcases List.mem_cons.1 hp with rfl | hp
        · have := h2 h (by simp); simp; omega
        · have := h2 p (by simp [hp]); simp; omega

theorem strs_new (w : World) (ss : List ByteArray) (t : TypeId) : StrsAt (w.alloc (.cells (ss.map Value.string).toArray t (0, 0))) (some ⟨w.heap.size, 0, none⟩) ss := by
  intro i hi
  refine ⟨w.heap.size, 0, rfl, ?_⟩
  rw [Nat.zero_add]
  simp [hi]

/-- strings.Split at a byte -/
theorem split_any (s : ByteArray) (c : UInt8) (w : World) (hs : s.size ≤ 1048576) (hE : Env w) :
    Calls Tryz.prog 31 #[.string s, .string ⟨#[c]⟩] w fun e w' => ∃ ss : List ByteArray, bytesL ss = cut c s.data.toList ∧ ss.length ≤ 1048577 ∧ (∀ b ∈ ss, b.size ≤ s.size) ∧ e = .returned (.slice (some ⟨w.heap.size, 0, none⟩) ss.length ss.length) ∧ w' = w.alloc (.cells (ss.map Value.string).toArray 9) := by
  obtain ⟨m, hm⟩ := hE.mx
  refine (Tryz.strings_Split s ⟨#[c]⟩ m w (by omega) hm (Nat.le_refl 1)).mono fun e w' ⟨he, hw⟩ => ?_
  have hl := Lib.splitB_all ⟨#[c]⟩ (Nat.le_refl 1) 0 (Lib.countB s ⟨#[c]⟩) s rfl
  have hc := splitB_cut s c
  refine ⟨Lib.splitB ⟨#[c]⟩ 0 (Lib.countB s ⟨#[c]⟩) s, hc, ?_, ?_, ?_, hw⟩
  · have h2 := congrArg List.length hc
    rw [List.length_map] at h2
    have h3 := (cut_len c s.data.toList).1
    have h4 : s.data.toList.length = s.size := rfl
    omega
  · intro b hb
    have h2 : b.data.toList ∈ cut c s.data.toList := by rw [← hc]; exact List.mem_map.2 ⟨b, hb, rfl⟩
    exact (cut_len c s.data.toList).2 _ h2
  · rw [hl]; exact he

end Go.Proofs.YtpilkgcghlfdmaaGreatDoor
namespace Go.Proofs.YtpilkgcghlfdmaaGreatDoor
open Go.RowKit

/-- bytes as numbers -/
def byInts (l : List UInt8) : List Int := l.map fun x => (x.toNat : Int)
theorem byInts_of (l : List UInt8) : Lib.bytesOf (byInts l) = l := by
  unfold Lib.bytesOf byInts
  rw [List.map_map]
  have : ((fun n : Int => UInt8.ofNat n.toNat) ∘ fun x : UInt8 => (x.toNat : Int)) = id := by funext x; simp
  rw [this, List.map_id]
theorem byInts_len (l : List UInt8) : (byInts l).length = l.length := by simp [byInts]
theorem byInts_range (l : List UInt8) : ∀ x ∈ byInts l, 0 ≤ x ∧ x < 256 := by
  intro x hx
  simp only [byInts, List.mem_map] at hx
  obtain ⟨y, _, rfl⟩ := hx
  have := y.toNat_lt
  omega
theorem byInts_at {l : List UInt8} {i : Nat} (h : i < l.length) : (byInts l).getD i 0 = ((l[i]).toNat : Int) := by
  rw [List.getD_eq_getElem?_getD]; simp [byInts, h]
theorem BysAt.cells {w : World} {b o : Nat} {l : List UInt8} (h : BysAt w (some ⟨b, o, none⟩) l) : ∀ i, i < l.length → w.cell? ⟨b, o + i, none⟩ = some (.int .u8 ((byInts l).getD i 0)) := fun i hi => by
  obtain ⟨b', o', e, hc⟩ := h i l[i] (List.getElem?_eq_getElem hi)
  simp only [Option.some.injEq, Addr.mk.injEq, and_true] at e
  obtain ⟨rfl, rfl⟩ := e
  rw [hc, byInts_at hi]
theorem BysAt.take {w : World} {a : Option Addr} {l : List UInt8} (h : BysAt w a l) {p t : List UInt8} (e : l = p ++ t) : BysAt w a p := fun i x hx => h i x (by
  rw [e, List.getElem?_append_left (List.getElem?_eq_some_iff.1 hx).1]; exact hx)

theorem indexByte_line : ∀ l : List UInt8, Lib.indexByte l 10 = match lineOf l with | none => -1 | some p => (p.length : Int)
  | [] => rfl
  | x :: r => by
    have ih := indexByte_line r
    rw [Lib.indexByte, lineOf]
    by_cases hx : x = 10
    · subst hx; simp
    · have : (x == 10) = false := by simpa using hx
      rw [this, if_neg hx]
      simp only [Bool.false_eq_true, if_false]
      rw [ih]
      cases lineOf r with
      | none => rfl
      | some p =>
        have : (((p.length : Nat) : Int) == -1) = false := by rw [beq_eq_false_iff_ne]; omega
        simp only [this, Bool.false_eq_true, if_false, Option.map_some, List.length_cons]
        simp

theorem splitV_plain (sep : List UInt8) (save b : Nat) : ∀ (k o cap : Nat) (l : List UInt8), ∀ v ∈ Lib.splitV sep save k ⟨b, o, none⟩ cap l, ∃ o' n c, v = .slice (some ⟨b, o', none⟩) n c
  | 0, o, cap, l, v, hv => by
    simp only [Lib.splitV, List.mem_singleton] at hv
    exact ⟨_, _, _, hv⟩
  | k + 1, o, cap, l, v, hv => by
    unfold Lib.splitV at hv
    split at hv
    · simp only [List.mem_singleton] at hv
      exact ⟨_, _, _, hv⟩
    · rcases List.mem_cons.1 hv with h | h
      · exact ⟨_, _, _, h⟩
      · have : ∃ o2, Lib.tailAddr ⟨b, o, none⟩ cap ((Lib.index l sep).toNat + sep.length) = ⟨b, o2, none⟩ := by
          unfold Lib.tailAddr
          split
          · exact ⟨_, rfl⟩
          · exact ⟨o + ((Lib.index l sep).toNat + sep.length), by rw [Addr.add_lit]⟩
        obtain ⟨o2, e⟩ := this
        rw [e] at h
        exact splitV_plain sep save b k o2 _ _ v h

/-- the pieces of a line -/
def PiecesAt (w : World) (b : Nat) (vs : List Value) (ps : List (List UInt8)) : Prop :=
  vs.length = ps.length ∧ ∀ (j : Nat) (p : List UInt8), ps[j]? = some p → ∃ o c, vs[j]? = some (Value.slice (some ⟨b, o, none⟩) p.length c) ∧ BysAt w (some ⟨b, o, none⟩) p
theorem PiecesAt.below {w w' : World} {b : Nat} {vs : List Value} {ps : List (List UInt8)} (h : PiecesAt w b vs ps) (hb : Below w.heap.size w w') : PiecesAt w' b vs ps :=
  ⟨h.1, fun j p hp => by obtain ⟨o, c, e, ha⟩ := h.2 j p hp; exact ⟨o, c, e, ha.below hb⟩⟩

theorem bytesSplit_any (b o cp b2 : Nat) (c : UInt8) (l : List UInt8) (w : World) (hE : Env w) (h : BysAt w (some ⟨b, o, none⟩) l) (h2 : BysAt w (some ⟨b2, 0, none⟩) [c]) (hl : l.length ≤ 1000000000) (hcp : l.length ≤ cp) (hcp2 : cp ≤ maxLen) :
    Calls Tryz.prog 109 #[.slice (some ⟨b, o, none⟩) l.length cp, .slice (some ⟨b2, 0, none⟩) 1 1] w fun e w' => ∃ vs : List Value, PiecesAt w' b vs (cut c l) ∧ e = .returned (.slice (some ⟨w.heap.size, 0, none⟩) vs.length vs.length) ∧ w'.heap[w.heap.size]? = some (.cells vs.toArray 22 (0, 0)) ∧ Below w.heap.size w w' := by
  obtain ⟨m, hm⟩ := hE.mx
  unfold maxLen at hcp2
  have ec : [c] = Lib.bytesOf (byInts [c]) := (byInts_of [c]).symm
  refine (Tryz.bytes_Split ⟨b, o, none⟩ ⟨b2, 0, none⟩ l.length cp 1 1 (byInts l) (byInts [c]) m w (byInts_len l) rfl (byInts_range l) (byInts_range [c]) (fun i hi => by rw [Addr.add_lit]; exact h.cells i hi) (fun i hi => by rw [Addr.add_lit]; exact h2.cells i hi) hcp (by omega) (by omega) (by omega) (Nat.le_refl 1) hm).mono ?_
  rintro e w' ⟨he, q, hw⟩
  rw [byInts_of, byInts_of] at he hw
  obtain ⟨vs, hvs⟩ : ∃ vs, Lib.splitV [c] 0 (Lib.count l [c]) ⟨b, o, none⟩ cp l = vs := ⟨_, rfl⟩
  have hk : Lib.splitK [c] 0 (Lib.count l [c]) l = cut c l := splitK_cut c l
  have hlen : vs.length = (cut c l).length := by rw [← hvs, Lib.splitV_length, hk]
  have hlen2 : (cut c l).length = Lib.count l [c] + 1 := by
    have := Lib.splitB_all ⟨#[c]⟩ (Nat.le_refl 1) 0 (Lib.count l [c]) ⟨l.toArray⟩ rfl
    have d := congrArg List.length (Lib.splitB_data ⟨#[c]⟩ 0 (Lib.count l [c]) ⟨l.toArray⟩)
    rw [List.length_map, this] at d
    have hk2 : Lib.splitK [c] 0 (Lib.count l [c]) l = Lib.splitK (ByteArray.data ⟨#[c]⟩).toList 0 (Lib.count l [c]) (ByteArray.data ⟨l.toArray⟩).toList := by simp
    rw [← hk, hk2]; exact d.symm
  have hbel : Below w.heap.size w w' := by rw [hw]; exact (ba1 w _).trans (below_drewN _ _)
  refine ⟨vs, ⟨hlen, fun j p hp => ?_⟩, by rw [hlen, hlen2]; exact he, ?_, hbel⟩
  · have hj : j < vs.length := by rw [hlen]; exact (List.getElem?_eq_some_iff.1 hp).1
    have hv : vs[j]? = some vs[j] := List.getElem?_eq_getElem hj
    obtain ⟨o', n', c', ev⟩ := splitV_plain [c] 0 b _ o cp l vs[j] (by rw [hvs]; exact List.getElem_mem hj)
    obtain ⟨a', off, len, c2, e1, e2, e3, e4, e5⟩ := Lib.splitV_spec [c] 0 (by simp) (by simp) (Lib.count l [c]) ⟨b, o, none⟩ cp l hcp j vs[j] (by rw [hvs]; exact hv)
    rw [hk, hp] at e4
    have e4 := Option.some.inj e4
    rw [ev] at e1
    simp only [Value.slice.injEq, Option.some.injEq] at e1
    obtain ⟨rfl, rfl, rfl⟩ := e1
    have hpl : p.length = n' := by rw [e4]; simp; omega
    refine ⟨o', c', by rw [hv, ev, hpl], fun i x hx => ⟨b, o', rfl, ?_⟩⟩
    have hi : i < p.length := (List.getElem?_eq_some_iff.1 hx).1
    have h5 := e5 i (by omega)
    rw [Addr.add_lit, Addr.add_lit] at h5
    have h6 := Addr.mk.inj h5
    rw [h6.2.1]
    obtain ⟨b3, o3, e, hc⟩ := h (off + i) x (by
      rw [e4, List.getElem?_take, if_pos (by omega), List.getElem?_drop] at hx; exact hx)
    simp only [Option.some.injEq, Addr.mk.injEq, and_true] at e
    obtain ⟨rfl, rfl⟩ := e
    rw [hbel.cell (p := ⟨b, o + (off + i), none⟩) (lt_of_cell hc)]
    exact hc
  · rw [hw, hvs]
    exact blk (below_drewN (B := w.heap.size + 1) _ q) (push_at w _) (Nat.lt_succ_self _)


theorem bys_one {w : World} {g : Nat} {x : UInt8} (h : w.heap[g]? = some (.cells #[.int .u8 x.toNat] 5 (0, 0))) : BysAt w (some ⟨g, 0, none⟩) [x] := by
  intro i y hy
  have hi := (List.getElem?_eq_some_iff.1 hy).1
  obtain rfl : i = 0 := by simpa using hi
  simp at hy
  subst hy
  exact ⟨g, 0, rfl, by rw [(heap_cellR h).1]; rfl⟩
/-- what readLine hands back -/
def RetRcO (w : World) (o : Option Rc) (e : Ending) (w' : World) : Prop := ∃ k i, e = .returned (.tuple #[.agg #[.int .i64 k, .int .i64 i], .bool o.isSome]) ∧ (∀ r, o = some r → k = r.k ∧ i = r.n) ∧ Below w.heap.size w w'
theorem retRcO_no {w w' : World} {o : Option Rc} {k i : Int} (h : o = none) (hb : Below w.heap.size w w') : RetRcO w o (.returned (.tuple #[.agg #[.int .i64 k, .int .i64 i], .bool false])) w' := by
  subst h; exact ⟨k, i, rfl, (fun r e => by cases e), hb⟩
theorem readJ_none1 {n : Nat} {s : Int} {l : List UInt8} (h : lineOf l = none) : readJ n s l = none := by rw [readJ, h]
theorem readJ_none2 {n : Nat} {s : Int} {l p : List UInt8} (h : lineOf l = some p) (h4 : (cut 32 p).length ≠ 4) : readJ n s l = none := by
  rw [readJ, h]
  simp only []
  split
  · rename_i a b c d he; rw [he] at h4; simp at h4
  · rfl
theorem cut4 {p : List UInt8} (h4 : (cut 32 p).length = 4) : ∃ a b c d, cut 32 p = [a, b, c, d] := by
  cases h : cut 32 p with
  | nil => rw [h] at h4; simp at h4
  | cons a t => cases t with
    | nil => rw [h] at h4; simp at h4
    | cons b t => cases t with
      | nil => rw [h] at h4; simp at h4
      | cons c t => cases t with
        | nil => rw [h] at h4; simp at h4
        | cons d t => cases t with
          | nil => exact ⟨a, b, c, d, rfl⟩
          | cons e t => rw [h] at h4; simp at h4
theorem readJ_none3 {n : Nat} {s : Int} {l p a b c d : List UInt8} (h : lineOf l = some p) (h4 : cut 32 p = [a, b, c, d]) (hc : rdec c = none) : readJ n s l = none := by
  rw [readJ, h]; simp only [h4, hc]
theorem readJ_some4 {n : Nat} {s : Int} {l p a b c d : List UInt8} {i : Int} (h : lineOf l = some p) (h4 : cut 32 p = [a, b, c, d]) (hc : rdec c = some i) :
    readJ n s l = if kindJ b ≠ 0 ∧ Rc.ok ⟨kindJ b, i⟩ = true ∧ (lineJ n s ⟨kindJ b, i⟩ ++ [10]).isPrefixOf l = true then some ⟨kindJ b, i⟩ else none := by
  rw [readJ, h]; simp only [h4, hc]

theorem hasPrefix_any {w : World} {b c base c2 : Nat} {a2 : Option Addr} {l m : List UInt8} (h : BysAt w (some ⟨b, 0, none⟩) l) (hc : l.length ≤ c) (h2 : OwnB w base (.slice a2 m.length c2) m) :
    Calls Tryz.prog 113 #[.slice (some ⟨b, 0, none⟩) l.length c, .slice a2 m.length c2] w fun e w' => e = .returned (.bool (m.isPrefixOf l)) ∧ w' = w := by
  have e : m.isPrefixOf l = Lib.hasPrefix (Lib.bytesOf (byInts l)) (Lib.bytesOf (byInts m)) := by rw [byInts_of, byInts_of]; rfl
  rw [e]
  obtain ⟨a3, c3, e3, hb, _⟩ := h2.read
  obtain ⟨rfl, -, rfl⟩ := Value.slice.inj e3
  cases a2 with
  | some ad =>
    rcases h2.2 with ⟨e4, _⟩ | ⟨g, cap, cur, e4, _⟩
    · cases e4
    · cases e4
      exact Tryz.bytes_HasPrefix b 0 l.length c g 0 m.length c2 (byInts l) (byInts m) w (byInts_len l) (byInts_len m) hc (fun i hi => h.cells i hi) (fun i hi => hb.cells i hi)
  | none =>
    have h0 := h2.none_len
    obtain rfl : m = [] := List.eq_nil_of_length_eq_zero h0.1
    refine (Tryz.bytes_HasPrefix_e2 (some ⟨b, 0, none⟩) none l.length c c2 w).mono fun e w' ⟨he, hw⟩ => ⟨he.trans ?_, hw⟩
    simp [Lib.hasPrefix, Lib.bytesOf, byInts]
/-- no kind below kk has the word and makes a record -/
def NoKind (p : List UInt8) (i : Int) (kk : Int) : Prop := ∀ m, 1 ≤ m → m < kk → ¬ (p = wordJ m ∧ Rc.ok ⟨m, i⟩ = true)
theorem NoKind.step {p : List UInt8} {i kk : Int} (h : NoKind p i kk) (hk : ¬ (p = wordJ kk ∧ Rc.ok ⟨kk, i⟩ = true)) : NoKind p i (kk + 1) := fun m h1 h2 => by
  by_cases e : m = kk
  · subst e; exact hk
  · exact h m h1 (by omega)
theorem NoKind.no {p : List UInt8} {i : Int} (h : NoKind p i 5) : ¬ (kindJ p ≠ 0 ∧ Rc.ok ⟨kindJ p, i⟩ = true) := fun ⟨h0, h1⟩ => by
  obtain ⟨e, h2, h3⟩ := word_kindJ h0
  exact h (kindJ p) h2 (by omega) ⟨e.symm, h1⟩

set_option maxRecDepth 100000 in
set_option maxHeartbeats 1000000 in
theorem readLine_any (J n : Nat) (s : Int) (v : Value) (b c : Nat) (l : List UInt8) (w : World) (hj : JnAt w J v n s) (hr : BysAt w (some ⟨b, 0, none⟩) l) (hl : l.length ≤ 100000) (hlc : l.length ≤ c) (hcm : c ≤ maxLen) (hn : n < 1000) (hs : 0 ≤ s ∧ s < 65521) (hE : Env w) :
    Calls Tryz.prog 86 #[.pointer (some ⟨J, 0, none⟩), .slice (some ⟨b, 0, none⟩) l.length c] w (RetRcO w (readJ n s l)) := by
  have HJ := Lib.hid hj
  have HR := Lib.hid hr
  have HE := Lib.hid hE
  have hix := indexByte_line l
  clear hj hr hE
  go_enter Tryz.func86, Tryz.ntmps86
  go_wp2_with fail
  have HB0 := Lib.hid (ba1 w (.cells #[.int .i64 0, .int .i64 0] 53 (0, 0)))
  have HBX := Lib.hid (push_at w (.cells #[.int .i64 0, .int .i64 0] 53 (0, 0)))
  refine (Tryz.bytes_IndexByte b 0 l.length c (byInts l) 10 _ (byInts_len l) (fun i hi => (HR.out.below HB0.out).cells i hi)).mono ?_
  rintro e w1 ⟨rfl, rfl⟩
  rw [byInts_of, show ((10 : Int).toNat.toUInt8) = 10 from rfl, hix]
  cases hp : lineOf l with
  | none =>
    have HN := Lib.hid (readJ_none1 (n := n) (s := s) hp)
    obtain ⟨hc0, hf0⟩ := heap_cellR HBX.out
    clear hix hp
    go_wp2_with fail
    refine bodyPost_ret (v := .tuple #[.agg #[.int .i64 0, .int .i64 0], .bool false]) (by simp [results, Tryz.results86, go_sem, hc0]) rfl (retRcO_no HN.out ?_)
    exact HB0.out
  | some p =>
    have HP := Lib.hid hp
    obtain ⟨t, ht⟩ : ∃ t, l = p ++ 10 :: t := (lineOf_some l p hp).2
    have hpl : p.length < l.length := by rw [ht]; simp
    have HRP := Lib.hid (HR.out.take ht)
    clear hix hp ht
    simp only []
    go_wp2_with fail
    have HB1 := Lib.hid (ba2 w (.cells #[.int .i64 0, .int .i64 0] 53 (0, 0)) (.cells #[.int .u8 32] 5 (0, 0)))
    refine (bytesSplit_any b 0 p.length (w.heap.size + 1) 32 p _ (HE.out.next HB1.out) (HRP.out.below HB1.out) (bys_one (heap2 w _ _).2) (by omega) (Nat.le_refl _) (by omega)).mono ?_
    rintro e w2 ⟨vs, hps, rfl, hvs, hb2⟩
    have HB2 := Lib.hid (bt0 HB1.out hb2 (Nat.le_refl _))
    have HX2 := Lib.hid (blkK hb2 (heap2 w _ _).1)
    have HVS := Lib.hid hvs
    have HPS := Lib.hid hps
    have hlen := hps.1
    have hsz2 : w.heap.size + 1 + 1 < w2.heap.size := by have := blkLt hvs; simpa using this
    simp only [World.size_alloc] at HVS ⊢
    clear hps hvs hb2 HB1 HB0 HBX
    by_cases h4 : vs.length = 4
    · rw [h4]
      obtain ⟨p0, p1, p2, p3, hcut⟩ := cut4 (hlen.symm.trans h4)
      obtain ⟨o1, c1, hv1, hp1⟩ := HPS.out.2 1 p1 (by rw [hcut]; rfl)
      obtain ⟨o2, c2, hv2, hp2⟩ := HPS.out.2 2 p2 (by rw [hcut]; rfl)
      have hl1 : p1.length ≤ p.length := (cut_len 32 p).2 p1 (by rw [hcut]; simp)
      have hl2 : p2.length ≤ p.length := (cut_len 32 p).2 p2 (by rw [hcut]; simp)
      obtain ⟨hcv, hfv⟩ := heap_cellR HVS.out
      have hw2 : w2.cell? ⟨w.heap.size + 1 + 1, 2, none⟩ = some (.slice (some ⟨b, o2, none⟩) p2.length c2) := by rw [hcv]; simpa using hv2
      have hcn := conv_at (c := c2) hp2
      have HP1 := Lib.hid hp1
      have HCUT := Lib.hid hcut
      have HV1 := Lib.hid hv1
      clear hlen hcv hfv hv1 hv2 hp1 hp2 hcut
      go_wp2_with fail
      refine (readDecimal_any ⟨p2.toArray⟩ w2 (by show p2.length ≤ _; omega) (HE.out.next HB2.out)).mono ?_
      rintro e w3 ⟨v3, rfl, hv3, hb3⟩
      change ∀ n, rdec p2 = some n → v3 = n at hv3
      have HB3 := Lib.hid (bt0 HB2.out hb3 (Nat.le_refl _))
      have HX3 := Lib.hid (blkK hb3 HX2.out)
      have HVS3 := Lib.hid (blkK hb3 HVS.out)
      have HP1b := Lib.hid (HP1.out.below hb3)
      have hsz3 : w2.heap.size ≤ w3.heap.size := hb3.size
      clear hb3 hcn hw2 HX2
      cases hd : rdec p2 with
      | none =>
        have HN := Lib.hid (readJ_none3 (n := n) (s := s) HP.out HCUT.out hd)
        simp only [Option.isSome]
        clear hd hv3
        obtain ⟨hc0, hf0⟩ := heap_cellR HX3.out
        go_wp2_with fail
        refine bodyPost_ret (v := .tuple #[.agg #[.int .i64 0, .int .i64 0], .bool false]) (by simp [results, Tryz.results86, go_sem, hc0]) rfl (retRcO_no HN.out ?_)
        iterate 2 (refine Below.setCell ?_ (by dsimp only; omega) _)
        exact HB3.out
      | some i =>
        have HN := Lib.hid (readJ_some4 (n := n) (s := s) HP.out HCUT.out hd)
        obtain rfl : v3 = i := hv3 i hd
        simp only [Option.isSome]
        clear hd hv3
        go_wp2_with fail
        have HJ3 := Lib.hid (blkK HB3.out HJ.out)
        have HR3 := Lib.hid (HR.out.below HB3.out)
        have HE3 := Lib.hid (HE.out.next HB3.out)
        have hJ3 := blkLt HJ3.out
        have hz3 : w.heap.size ≤ w3.heap.size := HB3.out.size
        have hx3 := blkLt HX3.out
        clear hcm hpl HRP
        go_loopw [10, 11] (fun q _ wr => ∃ kk : Int, 1 ≤ kk ∧ kk ≤ 5 ∧ q = .int .i64 kk ∧ NoKind p1 v3 kk ∧ Below w3.heap.size w3 wr) (fun q _ _ => 5 - (intOf q).toNat)
        case atStart => exact ⟨1, by omega, by omega, rfl, fun m h1 h2 => by omega, Below.refl _ _⟩
        case round =>
          obtain ⟨kk, hk1, hk5, rfl, hno, hbr⟩ := hrel
          have HNO := Lib.hid hno
          have HBR := Lib.hid hbr
          have hzr := hbr.size
          clear hno hbr
          by_cases hk : kk ≤ 4
          · have HBW := Lib.hid (bt0 HBR.out (ba1 wr (.cells #[.int .i64 kk, .int .i64 v3] 53 (0, 0))) (Nat.le_refl _))
            have hvw := (heap_cellR (blkK HBW.out HVS3.out)).1
            have hv1 := hvw 1
            have hvl := blkLt (blkK HBW.out HVS3.out)
            rw [show vs.toArray[1]? = some (Value.slice (some ⟨b, o1, none⟩) p1.length c1) by simpa using HV1.out] at hv1
            have hbx := push_at wr (.cells #[.int .i64 kk, .int .i64 v3] 53 (0, 0))
            have HBX := Lib.hid hbx
            have hxc := (heap_cellR hbx).1
            have hxl := blkLt hbx
            have HPW := Lib.hid (HP1b.out.below HBW.out)
            clear hvw hbx
            go_wp2_with fail
            generalize wr.alloc (.cells #[.int .i64 kk, .int .i64 v3] 53 (0, 0)) = W at *
            have hcv : ∀ sx : Ext W, (convert 22 9 (.slice (some ⟨b, o1, none⟩) p1.length c1)).run Tryz.prog sx.w = .ok (.string ⟨p1.toArray⟩) sx.w := fun sx => conv_at (HPW.out.below sx.below)
            by_cases hm : p1 = wordJ kk ∧ isRecB kk v3 = true
            · obtain ⟨hm1, hm2⟩ := hm
              have h1 : (p1 == (wordJB kk).toList) = true := by rw [beq_iff_eq, ByteArray.toList_eq, wordJB_list]; exact hm1
              have HM := Lib.hid hm1
              clear hm1
              refine wp_region_ext (by kernel_rfl) (by kernel_rfl) ?_
              repeat (go_big_quiet_step (first | (go_at_call 111; go_must (apply calls_ext; apply recordWord_any <;> omega)) | (go_at_call 67; go_must (apply calls_ext; apply isRecord_val; assumption))))
              refine wpQuiet_nil ?_
              rintro _ ⟨sx, rfl⟩
              have HSX := Lib.hid (bt0 HBW.out sx.below (Nat.le_refl _))
              have HJX := Lib.hid (blkK HSX.out HJ3.out)
              have HXX := Lib.hid (blkK sx.below HBX.out)
              have hsl : W.heap.size ≤ sx.w.heap.size := sx.below.size
              have HOK := Lib.hid (show Rc.ok ⟨kk, v3⟩ = true from hm2)
              clear h1 hm2 hcv
              go_wp2_with fail
              refine (line_any J n s v ⟨kk, v3⟩ _ HJX.out HOK.out hn hs (HE3.out.next HSX.out).tab).mono ?_
              rintro e w6 ⟨a6, c6, l6, he6, rfl, ho6, hb6⟩
              have HB6 := Lib.hid (bt0 HSX.out hb6 (Nat.le_refl _))
              have HX6 := Lib.hid (blkK hb6 HXX.out)
              have HX0 := Lib.hid (blkK HB6.out HX3.out)
              have HL6 := Lib.hid he6
              have HPF : Hid (∀ W', Below w6.heap.size w6 W' → Calls Tryz.prog 113 #[.slice (some ⟨b, 0, none⟩) l.length c, .slice a6 l6.length c6] W' fun e w' => e = .returned (.bool (l6.isPrefixOf l)) ∧ w' = W') := Lib.hid (fun W' hb => hasPrefix_any ((HR3.out.below HB6.out).below hb) hlc (ho6.grown hb))
              have hx6 := blkLt HX6.out
              have hx0 := blkLt HX0.out
              clear he6 ho6 hb6 HXX HJX
              go_wp2_with fail
              obtain ⟨hc6, hf6⟩ := heap_cellR HX6.out
              obtain ⟨hc0, hf0⟩ := heap_cellR HX0.out
              have hne : wr.heap.size ≠ w.heap.size := by omega
              refine wp_region_rt (Keep := KB) [65, 66, 67, 68] (fun us => _)
                [spE (.agg #[.int .i64 kk, .int .i64 v3]),
                 spE (.slice (some ⟨b, 0, none⟩) l.length c),
                 spE (.slice a6 l6.length c6),
                 spE (.bool (l6.isPrefixOf l))]
                (StX w6) (by kernel_rfl) (by kernel_rfl) (Nat.le_of_ble_eq_true rfl) (fun us => by simp [over, List.mapIdx_cons]; exact rfl) (stX0 _) kbr ?_ ?_
              · refine ⟨?_, ?_, ?_, ?_, trivial⟩
                all_goals (intro us wx hst hd; rw [if_pos (by kernel_rfl)]; dsimp only)
                · clear hd
                  have hq6 := boxB hst hc6 hx6
                  go_simp
                  exact kb_same hst rfl
                · clear hd
                  go_simp
                  exact kb_same hst rfl
                · clear hd
                  go_simp
                  exact kb_same hst rfl
                · have d66 : us 66 = (.slice (some ⟨b, 0, none⟩) l.length c) := hd ⟨1, .data⟩ (by simp) rfl
                  have d67 : us 67 = (.slice a6 l6.length c6) := hd ⟨2, .data⟩ (by simp) rfl
                  clear hd
                  go_simp
                  exact (HPF.out _ hst).mono fun e w' ⟨he, hw⟩ => ⟨_, he, kb_below hst (hw ▸ Below.refl _ _) rfl⟩
              · intro us wx hst hd
                have d65 : us 65 = (.agg #[.int .i64 kk, .int .i64 v3]) := hd 0 (by simp)
                have d68 : us 68 = (.bool (l6.isPrefixOf l)) := hd 3 (by simp)
                clear hd
                simp only [List.drop, List.length]
                rw [d65, d68]
                have hq0 := boxB hst hc0 hx0
                have fq0 := freeB hst hf0 hx0
                have HBX6 := Lib.hid (bt0 HB3.out (bt0 HB6.out hst (Nat.le_refl _)) (Nat.le_refl _))
                have hkk : kindJ p1 = kk := by rw [HM.out]; exact kindJ_word hk1 hk
                have HF : Hid (readJ n s l = if l6.isPrefixOf l = true then some ⟨kk, v3⟩ else none) := Lib.hid (by
                  rw [HN.out, hkk, ← HL6.out]
                  have h0 : kk ≠ 0 := by omega
                  simp only [HOK.out, ne_eq, h0, not_false_eq_true, true_and])
                clear hst hc6 hf6 hc0 hf0 hkk
                go_wp2_with fail
                obtain ⟨px, hpx⟩ : ∃ px, l6.isPrefixOf l = px := ⟨_, rfl⟩
                rw [hpx] at HF
                refine bodyPost_ret (v := .tuple #[.agg #[.int .i64 kk, .int .i64 v3], .bool px]) (by simp [results, Tryz.results86, go_sem, hq0, hpx]) rfl ?_
                rw [HF.out]
                have hb9 : Below w.heap.size w ((wx.setCell ⟨w.heap.size, 0, none⟩ (.int .i64 kk)).setCell ⟨w.heap.size, 1, none⟩ (.int .i64 v3)) := (HBX6.out.setCell (Nat.le_refl _) _).setCell (Nat.le_refl _) _
                cases px with
                | false => exact retRcO_no rfl hb9
                | true => exact ⟨kk, v3, rfl, fun r e => by cases e; exact ⟨rfl, rfl⟩, hb9⟩
            · have HNX := Lib.hid (HNO.out.step hm)
              by_cases hw1 : p1 = wordJ kk
              · have h2 : isRecB kk v3 = false := by
                  cases h : isRecB kk v3 with
                  | false => rfl
                  | true => exact absurd ⟨hw1, h⟩ hm
                have h1 : (p1 == (wordJB kk).toList) = true := by rw [beq_iff_eq, ByteArray.toList_eq, wordJB_list]; exact hw1
                clear hm hw1
                refine wp_region_ext (by kernel_rfl) (by kernel_rfl) ?_
                repeat (go_big_quiet_step (first | (go_at_call 111; go_must (apply calls_ext; apply recordWord_any <;> omega)) | (go_at_call 67; go_must (apply calls_ext; apply isRecord_val; assumption))))
                refine wpQuiet_nil ?_
                rintro _ ⟨sx, rfl⟩
                have hsl : W.heap.size ≤ sx.w.heap.size := sx.below.size
                go_wp2_with fail
                exact ⟨⟨kk + 1, by omega, by omega, by go_num, HNX.out, bt0 HBW.out sx.below (Nat.le_refl _)⟩, by simp [intOf]; omega⟩
              · have h1 : (p1 == (wordJB kk).toList) = false := by
                  rw [beq_eq_false_iff_ne, ne_eq, ByteArray.toList_eq, wordJB_list]; exact hw1
                clear hm hw1
                refine wp_region_ext (by kernel_rfl) (by kernel_rfl) ?_
                repeat (go_big_quiet_step (first | (go_at_call 111; go_must (apply calls_ext; apply recordWord_any <;> omega)) | (go_at_call 67; go_must (apply calls_ext; apply isRecord_val; assumption))))
                refine wpQuiet_nil ?_
                rintro _ ⟨sx, rfl⟩
                have hsl : W.heap.size ≤ sx.w.heap.size := sx.below.size
                go_wp2_with fail
                exact ⟨⟨kk + 1, by omega, by omega, by go_num, HNX.out, bt0 HBW.out sx.below (Nat.le_refl _)⟩, by simp [intOf]; omega⟩
          · obtain ⟨hc0, hf0⟩ := heap_cellR (blkK HBR.out HX3.out)
            obtain rfl : kk = 5 := by omega
            have HN9 := Lib.hid (HN.out.trans (if_neg (fun h => HNO.out.no ⟨h.1, h.2.1⟩)))
            go_wp2_with fail
            refine bodyPost_ret (v := .tuple #[.agg #[.int .i64 0, .int .i64 0], .bool false]) (by simp [results, Tryz.results86, go_sem, hc0]) rfl (retRcO_no HN9.out ?_)
            iterate 2 (refine Below.setCell ?_ (by dsimp only; omega) _)
            exact bt0 HB3.out HBR.out (Nat.le_refl _)
    · have HN := Lib.hid (readJ_none2 (n := n) (s := s) HP.out (by rw [← hlen]; exact h4))
      have h4' : ((vs.length : Int) != 4) = true := by simp; omega
      obtain ⟨hc0, hf0⟩ := heap_cellR HX2.out
      clear hlen h4
      go_wp2_with fail
      refine bodyPost_ret (v := .tuple #[.agg #[.int .i64 0, .int .i64 0], .bool false]) (by simp [results, Tryz.results86, go_sem, hc0]) rfl (retRcO_no HN.out ?_)
      iterate 2 (refine Below.setCell ?_ (by dsimp only; omega) _)
      exact HB2.out

end Go.Proofs.YtpilkgcghlfdmaaGreatDoor
