import Derived.Test.YthnjfdhijpfekaaUTouch
import Derived.Test.YthnjfdhijpfekaaUKB
import Derived.Outline
namespace Go.Proofs.Ythnjfdhijpfekaa
open Go.RowKit

theorem push_at (w : World) (A : Obj) : (w.alloc A).heap[w.heap.size]? = some A := Array.getElem?_push_size
theorem push_old {w : World} {i : Nat} {A B : Obj} (h : w.heap[i]? = some B) : (w.alloc A).heap[i]? = some B := ((ba1 w A).block i (Array.getElem?_eq_some_iff.1 h).1).trans h
theorem heap2 (w : World) (A B : Obj) : ((w.alloc A).alloc B).heap[w.heap.size]? = some A ∧ ((w.alloc A).alloc B).heap[w.heap.size + 1]? = some B := by
  refine ⟨push_old (push_at w A), ?_⟩
  have h := push_at (w.alloc A) B
  rw [World.size_alloc] at h
  exact h
theorem heap3 (w : World) (A B C : Obj) : (((w.alloc A).alloc B).alloc C).heap[w.heap.size]? = some A ∧ (((w.alloc A).alloc B).alloc C).heap[w.heap.size + 1]? = some B ∧ (((w.alloc A).alloc B).alloc C).heap[w.heap.size + 1 + 1]? = some C := by
  refine ⟨push_old (heap2 w A B).1, push_old (heap2 w A B).2, ?_⟩
  have h := push_at ((w.alloc A).alloc B) C
  rw [World.size_alloc, World.size_alloc] at h
  exact h
theorem heap4 (w : World) (A B C D : Obj) : ((((w.alloc A).alloc B).alloc C).alloc D).heap[w.heap.size]? = some A ∧ ((((w.alloc A).alloc B).alloc C).alloc D).heap[w.heap.size + 1]? = some B ∧ ((((w.alloc A).alloc B).alloc C).alloc D).heap[w.heap.size + 1 + 1]? = some C ∧ ((((w.alloc A).alloc B).alloc C).alloc D).heap[w.heap.size + 1 + 1 + 1]? = some D := by
  refine ⟨push_old (heap3 w A B C).1, push_old (heap3 w A B C).2.1, push_old (heap3 w A B C).2.2, ?_⟩
  have h := push_at (((w.alloc A).alloc B).alloc C) D
  rw [World.size_alloc, World.size_alloc, World.size_alloc] at h
  exact h
theorem blk {w w' : World} {B i : Nat} {A : Obj} (hb : Below B w w') (h : w.heap[i]? = some A) (hB : i < B) : w'.heap[i]? = some A := (hb.block i hB).trans h
theorem blkK {w w' : World} {i : Nat} {A : Obj} (hb : Below w.heap.size w w') (h : w.heap[i]? = some A) : w'.heap[i]? = some A := (hb.block i (Array.getElem?_eq_some_iff.1 h).1).trans h
theorem blkLt {w : World} {i : Nat} {A : Obj} (h : w.heap[i]? = some A) : i < w.heap.size := (Array.getElem?_eq_some_iff.1 h).1

/-- the end of a function that hands back a raster out of its box -/
theorem retRas_box {w w4 w1 : World} {n m : Int} {xs : List Int} {a : Option Addr} {c B : Nat} (hw : Below w.heap.size w w4) (ho : OwnI w1 w4.heap.size (.slice a xs.length c) xs) (hb : Below w4.heap.size w4 w1) (hB : w.heap.size ≤ B) (hB4 : B < w4.heap.size) (v0 v1 v2 : Value) :
    RetRas w n m xs (.returned (.agg #[.int .i64 n, .int .i64 m, .slice a xs.length c])) (((w1.setCell ⟨B, 0, none⟩ v0).setCell ⟨B, 1, none⟩ v1).setCell ⟨B, 2, none⟩ v2) := by
  refine ⟨a, c, rfl, ?_, ?_⟩
  · refine OwnI.weak (base := w4.heap.size) ?_ hw.size
    iterate 3 (refine OwnI.setOld ?_ (by dsimp only; omega) _)
    exact ho
  · iterate 3 (refine Below.setCell ?_ (by dsimp only; omega) _)
    exact bt0 hw hb (Nat.le_refl _)

set_option maxRecDepth 100000 in
set_option maxHeartbeats 400000 in
theorem painted1_val {K2 : FuncId} {V2 : Value} {T : Bool} {a : Option Addr} {xs : List Int} {cp n m r c i b1 b2 b3 : Nat} {g z : Int} {W : World} (h1 : W.cell? ⟨b1, 0, none⟩ = some (.func (.func K2) #[V2] #[])) (h2 : W.cell? ⟨b2, 0, none⟩ = some (.int .i64 g)) (h3 : ∀ i, W.cell? ⟨b3, i, none⟩ = (#[.int .i64 (n : Int), .int .i64 (m : Int), .slice a xs.length cp] : Array Value)[i]?)
    (hE : ∀ (args : Array Value) (W : World), (callFunc K2 args).run Try.prog W = .ok (.enter K2 args) W)
    (hT : Calls Try.prog K2 #[V2, .int .i64 (r : Int), .int .i64 (c : Int)] W fun e W' => e = .returned (.bool T) ∧ Below W.heap.size W W')
    (hi : r * m + c = i) (hz : xs[i]? = some z) (hx : IntsAt W a xs) (hr : r ≤ 400) (hc : c ≤ 400) (hl : xs.length ≤ 40000) :
    Calls Try.prog 109 #[.int .i64 (r : Int), .int .i64 (c : Int), .pointer (some ⟨b1, 0, none⟩), .pointer (some ⟨b2, 0, none⟩), .pointer (some ⟨b3, 0, none⟩)] W fun e W' => e = .returned (.int .i64 (if T = true then g else z)) ∧ Below W.heap.size W W' := by
  have HT := Lib.hid hT
  have HX := Lib.hid hx
  have HI := Lib.hid hi
  have HZ := Lib.hid hz
  have l1 := lt_of_cell h1
  have l2 := lt_of_cell h2
  have l3 := boxLt h3 (by simp)
  clear hT hx hi hz
  cases T
  · rw [if_neg (by decide)]
    go_enter Try.func109, Try.ntmps109
    go_wp2_with fail
    refine HT.out.mono ?_
    rintro e w1 ⟨rfl, hb1⟩
    have hA := boxK hb1 h3 (by simp)
    have HX1 := Lib.hid (HX.out.below hb1)
    have HB1 := Lib.hid hb1
    clear hb1
    go_wp2_with fail
    refine (pixel_val HI.out HZ.out HX1.out hr hc (by omega)).mono ?_
    rintro e w2 ⟨rfl, hb2⟩
    have HB2 := Lib.hid (bt0 HB1.out hb2 (Nat.le_refl _))
    clear hb2
    go_wp2_with fail
    go_ret
    exact ⟨rfl, HB2.out⟩
  · rw [if_pos rfl]
    go_enter Try.func109, Try.ntmps109
    go_wp2_with fail
    refine HT.out.mono ?_
    rintro e w1 ⟨rfl, hb1⟩
    have h2' := (hb1.cell (p := ⟨b2, 0, none⟩) l2).trans h2
    have HB1 := Lib.hid hb1
    clear hb1
    go_wp2_with fail
    go_ret
    exact ⟨rfl, HB1.out⟩

theorem painted1_enter : ∀ (args : Array Value) (W : World), (callFunc 109 args).run Try.prog W = .ok (.enter 109 args) W := fun args W => by kernel_rfl
theorem getD_at {xs : List Int} {i : Nat} (h : i < xs.length) : xs[i]? = some (xs.getD i 0) := by rw [List.getD_eq_getElem?_getD, List.getElem?_eq_getElem h]; rfl

set_option maxRecDepth 100000 in
set_option maxHeartbeats 1000000 in
theorem painted_any (K2 : FuncId) (V2 : Value) (T : Nat → Nat → Bool) (a : Option Addr) (xs : List Int) (cp n m : Nat) (g : Int) (w : World) (hx : IntsAt w a xs) (hl : xs.length = n * m) (hN2 : n * m ≤ 40000) (hn : n ≤ 400) (hm : m ≤ 400)
    (hE : ∀ (args : Array Value) (W : World), (callFunc K2 args).run Try.prog W = .ok (.enter K2 args) W)
    (hT : ∀ W (r c : Nat), r < n → c < m → Calls Try.prog K2 #[V2, .int .i64 (r : Int), .int .i64 (c : Int)] W fun e W' => e = .returned (.bool (T r c)) ∧ Below W.heap.size W W') :
    Calls Try.prog 108 #[.agg #[.int .i64 (n : Int), .int .i64 (m : Int), .slice a xs.length cp], .func (.func K2) #[V2] #[], .int .i64 g] w (RetRas w n m (pix (fun r c => if T r c = true then g else xs.getD (r * m + c) 0) m (n * m))) := by
  have HX := Lib.hid hx
  have HL := Lib.hid hl
  have HE := Lib.hid hE
  have HE1 := Lib.hid painted1_enter
  have HT := Lib.hid hT
  have hlen : xs.length ≤ 40000 := by omega
  clear hx hl hT hE
  obtain ⟨N, hN⟩ : ∃ N, n * m = N := ⟨_, rfl⟩
  have HNN := Lib.hid hN
  rw [hN] at hN2 ⊢
  clear hN
  have hmf := run_makeFunc'' Try.prog
  go_enter Try.func108, Try.ntmps108
  go_wp2_with fail
  obtain ⟨q1, q2, q3, q4⟩ := heap4 w (.cells #[.int .i64 (n : Int), .int .i64 (m : Int), .slice a xs.length cp] 28 (0, 0)) (.cells #[.func (.func K2) #[V2] #[]] 80 (0, 0)) (.cells #[.int .i64 g] 2 (0, 0)) (.cells #[.int .i64 0, .int .i64 0, .slice none 0 0] 28 (0, 0))
  have HW := Lib.hid (ba4 w (.cells #[.int .i64 (n : Int), .int .i64 (m : Int), .slice a xs.length cp] 28 (0, 0)) (.cells #[.func (.func K2) #[V2] #[]] 80 (0, 0)) (.cells #[.int .i64 g] 2 (0, 0)) (.cells #[.int .i64 0, .int .i64 0, .slice none 0 0] 28 (0, 0)))
  generalize ((((w.alloc (.cells #[.int .i64 (n : Int), .int .i64 (m : Int), .slice a xs.length cp] 28 (0, 0))).alloc (.cells #[.func (.func K2) #[V2] #[]] 80 (0, 0))).alloc (.cells #[.int .i64 g] 2 (0, 0))).alloc (.cells #[.int .i64 0, .int .i64 0, .slice none 0 0] 28 (0, 0))) = w4 at *
  have HQ := Lib.hid (And.intro q1 (And.intro q2 (And.intro q3 q4)))
  clear q1 q2 q3 q4
  refine (raster_any 109 #[] #[.pointer (some ⟨w.heap.size + 1, 0, none⟩), .pointer (some ⟨w.heap.size + 1 + 1, 0, none⟩), .pointer (some ⟨w.heap.size, 0, none⟩)] n m N (fun r c => if T r c = true then g else xs.getD (r * m + c) 0) _ HNN.out.symm hN2 hn hm HE1.out ?_).mono ?_
  · intro W hb r c hr hc
    obtain ⟨q1, q2, q3, q4⟩ := HQ.out
    have hi := pix_in hr hc
    rw [← HL.out] at hi
    exact painted1_val ((heap_cellR (blkK hb q2)).1 0) ((heap_cellR (blkK hb q3)).1 0) (heap_cellR (blkK hb q1)).1 HE.out (HT.out W r c hr hc) rfl (getD_at hi) ((HX.out.below HW.out).below hb) (by omega) (by omega) hlen
  rintro e w1 ⟨a1, c1, rfl, ho, hb1⟩
  obtain ⟨hc4, hf4⟩ := heap_cellR (blkK hb1 HQ.out.2.2.2)
  have HB1 := Lib.hid hb1
  have HO := Lib.hid ho
  have hs4 := blkLt HQ.out.2.2.2
  have hs1 := hb1.size
  clear hb1 ho hmf
  go_wp2_with fail
  exact bodyPost_ret (v := .agg #[.int .i64 (n : Int), .int .i64 (m : Int), .slice a1 (pix (fun r c => if T r c = true then g else xs.getD (r * m + c) 0) m N).length c1]) (by simp [results, Try.results108, go_sem, hc4]) rfl (retRas_box HW.out HO.out HB1.out (by omega) (by omega) _ _ _)

end Go.Proofs.Ythnjfdhijpfekaa
