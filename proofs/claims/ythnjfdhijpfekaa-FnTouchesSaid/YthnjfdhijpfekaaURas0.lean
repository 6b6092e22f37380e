import Derived.Test.YthnjfdhijpfekaaURasFn
import Derived.Test.YthnjfdhijpfekaaURange
import Derived.Laws.EntriesVeiled
namespace Go.Proofs.Ythnjfdhijpfekaa
open Go.RowKit

set_option maxHeartbeats 400000 in
theorem pixel_val {a : Option Addr} {xs : List Int} {cp n m r c i : Nat} {z : Int} {w : World} (hi : r * m + c = i) (hz : xs[i]? = some z) (hx : IntsAt w a xs) (_hr : r ≤ 400) (_hc : c ≤ 400) (hl : xs.length ≤ 1099511627776) :
    Calls Try.prog 71 #[.agg #[.int .i64 (n : Int), .int .i64 (m : Int), .slice a xs.length cp], .int .i64 (r : Int), .int .i64 (c : Int)] w fun e w' => e = .returned (.int .i64 z) ∧ Below w.heap.size w w' := by
  have hlt : i < xs.length := (List.getElem?_eq_some_iff.1 hz).1
  obtain ⟨b, o, z', rfl, hz', hb, hcl⟩ := hx.at hlt
  obtain rfl : z = z' := Option.some.inj (hz.symm.trans hz')
  obtain ⟨q, hq⟩ : ∃ q, r * m = q := ⟨_, rfl⟩
  have hrm : (r : Int) * (m : Int) = (q : Int) := by rw [← hq]; simp
  have hqi : (q : Int) + (c : Int) = (i : Int) := by omega
  have hil : (i : Int) < (xs.length : Int) := by omega
  have w1 : wrap64 (q : Int) = q := IntWalk.wrap64_in _ (by omega)
  have w2 : wrap64 (i : Int) = i := IntWalk.wrap64_in _ (by omega)
  have hcw : (w.alloc (.cells #[.int .i64 (n : Int), .int .i64 (m : Int), .slice (some ⟨b, o, none⟩) xs.length cp] 28 (0, 0))).cell? ⟨b, o + i, none⟩ = some (.int .i64 z) := by
    rw [(ba1 w _).cell (p := ⟨b, o + i, none⟩) hb]; exact hcl
  clear hz hz' hx hcl hq hi
  go_enter Try.func71, Try.ntmps71
  go_wp2_with fail
  go_ret
  exact ⟨rfl, ba1 _ _⟩

theorem enter_of {K : FuncId} (h : ∀ (args : Array Value) (W : World), (callFunc K args).run Try.prog W = .ok (.enter K args) W) : ∀ (args : Array Value) (W : World), (callFunc K args).run Try.prog W = .ok (.enter K args) W := h
theorem pixel_enter : ∀ (args : Array Value) (W : World), (callFunc 71 args).run Try.prog W = .ok (.enter 71 args) W := fun args W => by kernel_rfl

theorem run_makeFunc'' (P : Program) (fn : Fn) (fst cap : Array Value) (w : World) : (Instr.makeFunc fn fst cap).run P w = .ok (.func fn fst cap) w := rfl
/-- the pixels as they are -/
theorem pix_id {xs : List Int} {n m : Nat} (hl : xs.length = n * m) : pix (fun r c => xs.getD (r * m + c) 0) m (n * m) = xs := by
  apply List.ext_getElem?
  intro i
  unfold pix
  rw [List.getElem?_map]
  by_cases hi : i < n * m
  · rw [List.getElem?_range hi]
    simp only [Option.map_some]
    have h : i / m * m + i % m = i := by rw [Nat.mul_comm]; exact Nat.div_add_mod i m
    rw [h, List.getD_eq_getElem?_getD, List.getElem?_eq_getElem (by omega)]
    rfl
  · rw [List.getElem?_eq_none (by simp; omega), List.getElem?_eq_none (by omega)]
    rfl
theorem pix_in {n m r c : Nat} (hr : r < n) (hc : c < m) : r * m + c < n * m := by
  have h1 : (r + 1) * m ≤ n * m := Nat.mul_le_mul_right m hr
  rw [Nat.add_mul, Nat.one_mul] at h1
  omega

set_option maxHeartbeats 1000000 in
theorem copy_any (a : Option Addr) (xs : List Int) (cp n m : Nat) (w : World) (hx : IntsAt w a xs) (hl : xs.length = n * m) (hN2 : n * m ≤ 40000) (hn : n ≤ 400) (hm : m ≤ 400) :
    Calls Try.prog 52 #[.agg #[.int .i64 (n : Int), .int .i64 (m : Int), .slice a xs.length cp]] w (RetRas w n m xs) := by
  have HX := Lib.hid hx
  have HL := Lib.hid hl
  have HE := Lib.hid pixel_enter
  have hlen : xs.length ≤ 40000 := by omega
  clear hx hl
  obtain ⟨N, hN⟩ : ∃ N, n * m = N := ⟨_, rfl⟩
  have HNN := Lib.hid hN
  rw [hN] at hN2
  clear hN
  have hmf := run_makeFunc'' Try.prog
  go_enter Try.func52, Try.ntmps52
  go_wp2_with fail
  refine (raster_any 71 #[.agg #[.int .i64 (n : Int), .int .i64 (m : Int), .slice a xs.length cp]] #[] n m N (fun r c => xs.getD (r * m + c) 0) _ HNN.out.symm hN2 hn hm HE.out ?_).mono ?_
  · intro W hb r c hr hc
    have hi := pix_in hr hc
    exact pixel_val rfl (by rw [List.getD_eq_getElem?_getD, List.getElem?_eq_getElem (by rw [HL.out]; exact hi)]; rfl) ((HX.out.below (ba2 w _ _)).below hb) (by omega) (by omega) (by omega)
  have hid := pix_id (n := n) (m := m) HL.out
  rw [HNN.out] at hid
  rw [hid]
  rintro e w1 ⟨a1, c1, rfl, ho, hb1⟩
  obtain ⟨hA, hB, hF⟩ := box2s hb1
  have HB1 := Lib.hid (bt2 hb1)
  have HO := Lib.hid (ho.weak (base' := w.heap.size + 1 + 1) (by simp))
  have hs1 : w.heap.size + 1 < w1.heap.size := by have := hb1.size; simp at this; omega
  clear hb1 ho hid hmf hA
  go_wp2_with fail
  refine bodyPost_ret (v := .agg #[.int .i64 (n : Int), .int .i64 (m : Int), .slice a1 xs.length c1]) (by simp [results, Try.results52, go_sem, hB]) rfl ⟨a1, c1, rfl, ?_, ?_⟩
  · refine OwnI.weak (base := w.heap.size + 1 + 1) ?_ (by omega)
    iterate 3 (refine OwnI.setOld ?_ (by dsimp only; omega) _)
    exact HO.out
  · iterate 3 (refine Below.setCell ?_ (by dsimp only; omega) _)
    exact HB1.out

end Go.Proofs.Ythnjfdhijpfekaa
