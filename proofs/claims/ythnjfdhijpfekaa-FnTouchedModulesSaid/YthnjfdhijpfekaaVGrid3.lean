import Derived.Test.YthnjfdhijpfekaaVGrid2
import Derived.Test.YthnjfdhijpfekaaVSpAp
import Derived.Test.YthnjfdhijpfekaaVApF
namespace Go.Proofs.Ythnjfdhijpfekaa
open Go.RowKit

set_option maxRecDepth 100000 in
set_option maxHeartbeats 1000000 in
theorem isGrid_ok {n m : Nat} {xs : List Int} {a : Option Addr} {cp : Nat} {W : World} (hn : 1 ≤ n) (hm : 1 ≤ m) (hN : n * m ≤ 40000) (hl : xs.length = n * m) (hc : ∀ x ∈ xs, -1 ≤ x ∧ x ≤ 1) (hx : IntsAt W a xs) :
    Calls Try.prog 64 #[.agg #[.int .i64 (n : Int), .int .i64 (m : Int), .slice a xs.length cp]] W fun e W' => e = .returned (.bool true) ∧ Below W.heap.size W W' := by
  have hn2 : n ≤ 40000 := Nat.le_trans (Nat.le_mul_of_pos_right n hm) hN
  have hm2 : m ≤ 40000 := Nat.le_trans (Nat.le_mul_of_pos_left m hn) hN
  have hnm : (n : Int) * (m : Int) = (xs.length : Int) := by rw [hl]; simp
  have hw : IntKind.i64.wrap (xs.length : Int) = xs.length := IntWalk.i64_in _ (by omega)
  have hw6 : wrap64 (xs.length : Int) = xs.length := IntWalk.wrap64_in _ (by omega)
  have hgt : ¬ (40000 : Int) < (xs.length : Int) := by omega
  have hne : ((xs.length : Int) != (xs.length : Int)) = false := by simp
  have H1 := Lib.hid (inB_iff.2 (show (1 : Int) ≤ (n : Int) ∧ (n : Int) ≤ 40000 by omega))
  have H2 := Lib.hid (inB_iff.2 (show (1 : Int) ≤ (m : Int) ∧ (m : Int) ≤ 40000 by omega))
  have HX := Lib.hid (hx.below (ba1 W (.cells #[.int .i64 (n : Int), .int .i64 (m : Int), .slice a xs.length cp] 68 (0, 0))))
  have HC := Lib.hid hc
  have hlx : xs.length ≤ 40000 := by omega
  clear hx hc hl
  go_enter Try.func64, Try.ntmps64
  go_wp2_with fail
  refine (inRange_val H1.out).mono ?_
  rintro e w1 ⟨rfl, rfl⟩
  go_wp2_with fail
  refine (inRange_val H2.out).mono ?_
  rintro e w1 ⟨rfl, rfl⟩
  go_wp2_with fail
  have HBW := Lib.hid (ba1 W (.cells #[.int .i64 (n : Int), .int .i64 (m : Int), .slice a xs.length cp] 68 (0, 0)))
  generalize W.alloc (.cells #[.int .i64 (n : Int), .int .i64 (m : Int), .slice a xs.length cp] 68 (0, 0)) = w1 at *
  go_loop [37] (fun i => ∃ k : Nat, k ≤ xs.length ∧ i = .int .i64 k) (fun i => xs.length - (intOf i).toNat)
  case atStart => exact ⟨0, Nat.zero_le _, rfl⟩
  case round =>
    obtain ⟨k, hk, rfl⟩ := hrel
    by_cases hlt : k < xs.length
    · obtain ⟨b1, o1, z, rfl, hz, hb1, hc1⟩ := HX.out.at hlt
      have HZ := Lib.hid (inB_iff.2 (HC.out z (List.mem_of_getElem? hz)))
      clear hz
      go_wp2_with fail
      refine (inRange_val HZ.out).mono ?_
      rintro e w2 ⟨rfl, rfl⟩
      go_wp2_with fail
      go_round
      case rel => exact ⟨k + 1, by omega, by go_num⟩
      case measure => simp [intOf]; omega
    · go_wp2_with fail
      go_ret
      exact ⟨rfl, HBW.out⟩

set_option maxRecDepth 100000 in
set_option maxHeartbeats 1000000 in
theorem known_ok {n m : Int} {xs : List Int} {a : Option Addr} {cp : Nat} {W : World} (hlx : xs.length ≤ 1099511627776) (hc : ∀ x ∈ xs, 0 ≤ x) (hx : IntsAt W a xs) :
    Calls Try.prog 66 #[.agg #[.int .i64 n, .int .i64 m, .slice a xs.length cp]] W fun e W' => e = .returned (.bool true) ∧ Below W.heap.size W W' := by
  have HX := Lib.hid (hx.below (ba1 W (.cells #[.int .i64 n, .int .i64 m, .slice a xs.length cp] 68 (0, 0))))
  have HC := Lib.hid hc
  have HBW := Lib.hid (ba1 W (.cells #[.int .i64 n, .int .i64 m, .slice a xs.length cp] 68 (0, 0)))
  clear hx hc
  go_enter Try.func66, Try.ntmps66
  go_wp2_with fail
  generalize W.alloc (.cells #[.int .i64 n, .int .i64 m, .slice a xs.length cp] 68 (0, 0)) = w1 at *
  go_loop [8] (fun i => ∃ k : Nat, k ≤ xs.length ∧ i = .int .i64 k) (fun i => xs.length - (intOf i).toNat)
  case atStart => exact ⟨0, Nat.zero_le _, rfl⟩
  case round =>
    obtain ⟨k, hk, rfl⟩ := hrel
    by_cases hlt : k < xs.length
    · obtain ⟨b1, o1, z, rfl, hz, hb1, hc1⟩ := HX.out.at hlt
      have hz0 := HC.out z (List.mem_of_getElem? hz)
      clear hz
      go_wp2_with fail
      go_round
      case rel => exact ⟨k + 1, by omega, by go_num⟩
      case measure => simp [intOf]; omega
    · go_wp2_with fail
      go_ret
      exact ⟨rfl, HBW.out⟩

/-- while a blank grid is laid -/
def StBl (W wr : World) (n m N BG : Nat) : Prop := W.heap.size + 1 < BG ∧ OwnI wr (W.heap.size + 1) (.slice (some ⟨W.heap.size + 1, 0, none⟩) N N) (List.replicate N 0) ∧ wr.heap[BG]? = some (.cells #[.int .i64 (n : Int), .int .i64 (m : Int), .slice (some ⟨W.heap.size + 1, 0, none⟩) N N] 68 (0, 0)) ∧ wr.heap[W.heap.size]? = some (.cells #[.int .i64 0, .int .i64 0, .slice none 0 0] 68 (0, 0)) ∧ Below W.heap.size W wr
set_option maxRecDepth 100000 in
set_option maxHeartbeats 1000000 in
theorem blank0_any (n m N : Nat) (W : World) (hNN : N = n * m) (hN : N ≤ 40000) (_hn : n ≤ 40000) (_hm : m ≤ 40000) :
    Calls Try.prog 70 #[.int .i64 (n : Int), .int .i64 (m : Int), .int .i64 0] W (RetRasL W n m (List.replicate N 0)) := by
  have hnm : (n : Int) * (m : Int) = (N : Int) := by rw [hNN]; simp
  have hw : IntKind.i64.wrap (N : Int) = N := IntWalk.i64_in _ (by omega)
  have hw6 : wrap64 (N : Int) = N := IntWalk.wrap64_in _ (by omega)
  obtain ⟨i0, hi, hz0, hz1, hz2⟩ := info_parts infoI
  clear hNN
  go_enter Try.func70, Try.ntmps70
  go_wp2_with (at_make; refine wpList_make_full _ rfl _ _ 22 rfl (W.heap.size + 1) 2 i0 (.int .i64 0) 1 Try.underlying22 hi hz0 hz1 _ _ _ _ N rfl rfl rfl rfl ?c1 ?c2 ?c3 ?_)
  case c1 => rw [hz2]; omega
  case c2 => unfold maxLen; omega
  case c3 => simp
  intro w1 hown hg
  have ho := OwnI.of_made hown
  have hbW := (ba1 W (.cells #[.int .i64 0, .int .i64 0, .slice none 0 0] 68 (0, 0))).trans (below_of_grownBy hg (B := W.heap.size) (by simp) (fun k h => by cases h))
  have hR1 : w1.heap[W.heap.size]? = some (.cells #[.int .i64 0, .int .i64 0, .slice none 0 0] 68 (0, 0)) := (hg.block _ (by simp) (by simp)).trans (push_at _ _)
  have hWw : W.heap.size + 1 < w1.heap.size := by
    rcases ho.2 with ⟨h, _⟩ | ⟨g, cap, cur, h, hb, hgg, _⟩
    · cases h
    · simp only [Value.slice.injEq, Option.some.injEq, Addr.mk.injEq, and_true] at h
      obtain ⟨rfl, _⟩ := h
      exact blkLt hgg
  obtain ⟨BG, hBG⟩ : ∃ BG, w1.heap.size = BG := ⟨_, rfl⟩
  have H0 : Hid (StBl W (w1.alloc (.cells #[.int .i64 (n : Int), .int .i64 (m : Int), .slice (some ⟨W.heap.size + 1, 0, none⟩) N N] 68 (0, 0))) n m N BG) := Lib.hid ⟨by omega, ho.grown (ba1 _ _), by rw [← hBG]; exact push_at _ _, push_old hR1, bt0 hbW (ba1 _ _) (by simp)⟩
  clear hown hg ho hbW hR1 hi hz0 hz1 hz2
  go_wp2_with fail
  go_loopw [19] (fun i wr => ∃ k : Nat, k ≤ N ∧ i = .int .i64 k ∧ StBl W wr n m N BG) (fun i _ => N - (intOf i).toNat)
  case atStart => exact ⟨0, Nat.zero_le _, rfl, H0.out⟩
  case round =>
    clear H0
    obtain ⟨k, hk, rfl, hBB, ho, hg, hr, hb⟩ := hrel
    have hc := (heap_cellR hg).1
    have hwg := blkLt hg
    by_cases hlt : k < N
    · obtain ⟨z, hz, hcz, hfz⟩ := ho.cellAt (by simp) (k := k) (by simp; exact hlt)
      have hkN : (k : Int) < (N : Int) := by omega
      have HS := Lib.hid (ho.stored (by simp) k 0)
      have HG := Lib.hid hg
      have HR := Lib.hid hr
      have HB := Lib.hid hb
      clear ho hg hr hb hz
      go_wp2_with fail
      obtain ⟨h1, h2⟩ := HS.out
      rw [List.set_replicate_self] at h1
      exact ⟨⟨k + 1, by omega, by go_num, hBB, h1, (h2.block _ hwg (fun e => by have := Option.some.inj e; omega)).trans HG.out, (h2.block _ (blkLt HR.out) (fun e => by have := Option.some.inj e; omega)).trans HR.out, HB.out.trans (below_of_grownBy h2 HB.out.size (fun k e => by have := Option.some.inj e; omega))⟩, by simp [intOf]; omega⟩
    · obtain ⟨hcr, hfr⟩ := heap_cellR hr
      have hwr := blkLt hr
      have HO := Lib.hid ho
      have HB := Lib.hid hb
      clear ho hg hr hb
      go_wp2_with fail
      refine bodyPost_ret (v := .agg #[.int .i64 (n : Int), .int .i64 (m : Int), .slice (some ⟨W.heap.size + 1, 0, none⟩) N N]) (by simp [results, Try.results70, go_sem, hcr]) rfl ⟨some ⟨W.heap.size + 1, 0, none⟩, N, by rw [List.length_replicate], ?_, ?_⟩
      · rw [List.length_replicate]
        refine OwnI.weak (base := W.heap.size + 1) ?_ (by omega)
        iterate 3 (refine OwnI.setOld ?_ (by dsimp only; omega) _)
        exact HO.out
      · iterate 3 (refine Below.setCell ?_ (by dsimp only; omega) _)
        exact HB.out

end Go.Proofs.Ythnjfdhijpfekaa
