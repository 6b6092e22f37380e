import Derived.Test.YthnjfdhijpfekaaUBase
import Derived.IntWalk
namespace Go.Proofs.Ythnjfdhijpfekaa
open Go.RowKit

/-- n bytes at a, in blocks below base -/
def BytesAt (w : World) (base : Nat) (a : Option Addr) (n : Nat) : Prop :=
  ∀ i, i < n → ∃ b o z, a = some ⟨b, o, none⟩ ∧ b < base ∧ w.cell? ⟨b, o + i, none⟩ = some (.int .u8 z) ∧ 0 ≤ z ∧ z ≤ 255

theorem BytesAt.kept {w w' : World} {base : Nat} {a : Option Addr} {n : Nat} (h : BytesAt w base a n) (hb : ∀ k, k < base → w'.heap[k]? = w.heap[k]?) : BytesAt w' base a n := by
  intro i hi
  obtain ⟨b, o, z, ha, hlt, hc, hz⟩ := h i hi
  exact ⟨b, o, z, ha, hlt, by rw [World.cell?_of_block (w := w) (a := ⟨b, o + i, none⟩) (hb b hlt)]; exact hc, hz⟩

/-- block b is a source of drawn numbers -/
def SrcAt (w : World) (b : Nat) (a : Option Addr) (n c : Nat) (at_ seed : Int) (base : Nat) : Prop :=
  base ≤ b ∧ BytesAt w base a n ∧ w.heap[b]? = some (.cells #[.slice a n c, .int .i64 at_, .int .i64 seed] 118 (0, 0)) ∧ n ≤ 4096 ∧ 0 ≤ at_ ∧ at_ ≤ n ∧ 0 ≤ seed ∧ seed < 2147483647
def Src (w : World) (b : Nat) : Prop := ∃ a n c at_ seed base, SrcAt w b a n c at_ seed base

theorem Src.lt {w : World} {b : Nat} (h : Src w b) : b < w.heap.size := by
  obtain ⟨a, n, c, at_, seed, base, _, _, hb, _⟩ := h
  exact (Array.getElem?_eq_some_iff.1 hb).1

/-- a source stays one while other blocks are written or made -/
theorem Src.kept {w w' : World} {b : Nat} {row : Option Nat} (h : Src w b) (hg : w.grownBy w' row) (hne : ∀ k, row = some k → b < k) : Src w' b := by
  have hlt := h.lt
  obtain ⟨a, n, c, at_, seed, base, h1, h2, h3, h4⟩ := h
  refine ⟨a, n, c, at_, seed, base, h1, h2.kept (fun k hk => hg.block k (by omega) (fun e => by have := hne k e.symm; omega)), ?_, h4⟩
  rw [hg.block b hlt (fun e => by have := hne b e.symm; omega)]
  exact h3
theorem Src.below {w w' : World} {b : Nat} (h : Src w b) (hb : Below w.heap.size w w') : Src w' b :=
  h.kept (row := none) ⟨hb.os, hb.tape, hb.output, hb.size, fun k hk _ => hb.block k hk⟩ (fun k e => by cases e)

/-- a number is drawn -/
def RetNum (w : World) (b : Nat) (n : Int) (e : Ending) (w' : World) : Prop :=
  ∃ r : Int, e = .returned (.int .i64 r) ∧ 0 ≤ r ∧ (r < n ∨ r = 0) ∧ Src w' b ∧ w.grownBy w' (some b)

theorem RetNum.mk {w w' : World} {b : Nat} {n : Int} {a : Option Addr} {m c : Nat} {at_ seed at2 seed2 r : Int} {base : Nat} (h : SrcAt w b a m c at_ seed base)
    (h' : w'.heap[b]? = some (.cells #[.slice a m c, .int .i64 at2, .int .i64 seed2] 118 (0, 0))) (hg : w.grownBy w' (some b)) (h1 : 0 ≤ at2) (h2 : at2 ≤ m) (h3 : 0 ≤ seed2) (h4 : seed2 < 2147483647) (h5 : 0 ≤ r) (h6 : r < n ∨ r = 0) :
    RetNum w b n (.returned (.int .i64 r)) w' := by
  obtain ⟨q1, q2, q3, q4, _⟩ := h
  have hlt : b < w.heap.size := (Array.getElem?_eq_some_iff.1 q3).1
  exact ⟨r, rfl, h5, h6, ⟨a, m, c, at2, seed2, base, q1, q2.kept (fun k hk => hg.block k (by omega) (fun e => by have := Option.some.inj e; omega)), h', q4, h1, h2, h3, h4⟩, hg⟩

theorem src_set {w : World} {b : Nat} {C : Array Value} {t : TypeId} {fr : Nat × Nat} (h : w.heap[b]? = some (.cells C t fr)) (i : Nat) (v : Value) : (w.setCell ⟨b, i, none⟩ v).heap[b]? = some (.cells (C.setIfInBounds i v) t fr) := by
  rw [setCell_eq_setRow w b i C t fr v h]
  exact setRow_heap w b _ _ t _ h
theorem grownBy_set (w : World) (b i : Nat) (v : Value) : w.grownBy (w.setCell ⟨b, i, none⟩ v) (some b) :=
  ⟨rfl, rfl, rfl, by simp, fun k _ hk => heap_setCell_other w ⟨b, i, none⟩ k v (fun e => hk (by simp [e]))⟩

theorem grownBy_drewN (w : World) (k : Nat) (row : Option Nat) : w.grownBy (w.drewN k) row := ⟨rfl, rfl, rfl, Nat.le_refl _, fun _ _ _ => rfl⟩
theorem src_one {w : World} {b : Nat} {x0 x1 x2 v2 : Value} {t : TypeId} {fr : Nat × Nat} (h : w.heap[b]? = some (.cells #[x0, x1, x2] t fr)) (k : Nat) :
    ((w.setCell ⟨b, 2, none⟩ v2).drewN k).heap[b]? = some (.cells #[x0, x1, v2] t fr) ∧ w.grownBy ((w.setCell ⟨b, 2, none⟩ v2).drewN k) (some b) :=
  ⟨src_set h 2 v2, grownBy_trans (grownBy_set _ _ _ _) (grownBy_drewN _ _ _)⟩
theorem src_two {w : World} {b : Nat} {x0 x1 x2 v1 v2 : Value} {t : TypeId} {fr : Nat × Nat} (h : w.heap[b]? = some (.cells #[x0, x1, x2] t fr)) (k : Nat) :
    (((w.setCell ⟨b, 2, none⟩ v2).drewN k).setCell ⟨b, 1, none⟩ v1).heap[b]? = some (.cells #[x0, v1, v2] t fr) ∧ w.grownBy (((w.setCell ⟨b, 2, none⟩ v2).drewN k).setCell ⟨b, 1, none⟩ v1) (some b) :=
  ⟨src_set (src_one h k).1 1 v1, grownBy_trans (src_one h k).2 (grownBy_set _ _ _ _)⟩

set_option maxHeartbeats 1000000 in
theorem l01Next_any (b : Nat) (n : Int) (w : World) (hs : Src w b) (hn1 : -1152921504606846976 ≤ n) (hn2 : n ≤ 1152921504606846976) :
    Calls Try.prog 58 #[.pointer (some ⟨b, 0, none⟩), .int .i64 n] w (RetNum w b n) := by
  obtain ⟨a, m, c, at_, seed, base, HS⟩ := hs
  have HS' := HS
  obtain ⟨q1, q2, q3, q4, q5, q6, q7, q8⟩ := HS'
  have hc0 : w.cell? ⟨b, 0, none⟩ = some (.slice a m c) := by simp [World.cell?, q3]
  have hc1 : w.cell? ⟨b, 1, none⟩ = some (.int .i64 at_) := by simp [World.cell?, q3]
  have hc2 : w.cell? ⟨b, 2, none⟩ = some (.int .i64 seed) := by simp [World.cell?, q3]
  have hf1 : w.frozen? ⟨b, 1, none⟩ = false := by simp [World.frozen?, q3]
  have hf2 : w.frozen? ⟨b, 2, none⟩ = false := by simp [World.frozen?, q3]
  have HH := Lib.hid HS
  have HB := Lib.hid q3
  have HC := Lib.hid q2
  clear HS q3 q2
  by_cases h1 : n ≤ 1
  · go_enter Try.func58, Try.ntmps58
    go_wp2_with fail
    go_ret
    exact RetNum.mk HH.out HB.out (World.grownBy.refl _ _) q5 q6 q7 q8 (Int.le_refl _) (Or.inr rfl)
  · obtain ⟨t, rfl⟩ := Int.eq_ofNat_of_zero_le q5
    have g0 : 0 ≤ (seed * 48271 + 11) % 2147483647 := by omega
    have g1 : (seed * 48271 + 11) % 2147483647 < 2147483647 := by omega
    by_cases h2 : t < m
    · obtain ⟨b1, o1, z, rfl, hb1, hz, z0, z1⟩ := HC.out t h2
      have h2' : (t : Int) < (m : Int) := by omega
      have hne : ¬ b1 = b := by have := HH.out.1; omega
      rcases (show (¬ n ≤ 256) ∨ (n ≤ 256 ∧ (((t : Int) + 1) % 2 == 0) = false) ∨ (n ≤ 256 ∧ (((t : Int) + 1) % 2 == 0) = true) by
        by_cases h : n ≤ 256
        · rcases Bool.eq_false_or_eq_true ((((t : Int) + 1) % 2 == 0)) with h4 | h4
          · exact Or.inr (Or.inr ⟨h, h4⟩)
          · exact Or.inr (Or.inl ⟨h, h4⟩)
        · exact Or.inl h) with h3 | ⟨h3, h4⟩ | ⟨h3, h4⟩
      all_goals
        go_enter Try.func58, Try.ntmps58
        go_wp2_with fail
        generalize (seed * 48271 + 11) % 2147483647 = s2 at *
        obtain ⟨x, hx⟩ : ∃ x, s2 / 17 = x := ⟨_, rfl⟩
        have x0 : 0 ≤ x := by omega
        have x1 : x < 2147483647 := by omega
        rw [hx]
        clear hx
        go_quiet (fail)
        go_wp2_with fail
        go_quiet (fail)
        go_wp2_with fail
      · go_ret
        exact RetNum.mk HH.out (src_two HB.out _).1 (src_two HB.out _).2 (by omega) (by omega) g0 g1 (Int.emod_nonneg _ (by omega)) (Or.inl (Int.emod_lt_of_pos _ (by omega)))
      · go_ret
        exact RetNum.mk HH.out (src_two HB.out _).1 (src_two HB.out _).2 (by omega) (by omega) g0 g1 (Int.emod_nonneg _ (by omega)) (Or.inl (Int.emod_lt_of_pos _ (by omega)))
      · go_quiet (fail)
        go_wp2_with fail
        go_ret
        exact RetNum.mk HH.out (src_two HB.out _).1 (grownBy_trans (src_two HB.out _).2 (grownBy_drewN _ _ _)) (by omega) (by omega) g0 g1 (Int.emod_nonneg _ (by omega)) (Or.inl (Int.emod_lt_of_pos _ (by omega)))
    · go_enter Try.func58, Try.ntmps58
      go_wp2_with fail
      generalize (seed * 48271 + 11) % 2147483647 = s2 at *
      obtain ⟨x, hx⟩ : ∃ x, s2 / 17 = x := ⟨_, rfl⟩
      have x0 : 0 ≤ x := by omega
      have x1 : x < 2147483647 := by omega
      rw [hx]
      clear hx
      go_quiet (fail)
      go_wp2_with fail
      go_ret
      exact RetNum.mk HH.out (src_one HB.out _).1 (src_one HB.out _).2 (by omega) (by omega) g0 g1 (Int.emod_nonneg _ (by omega)) (Or.inl (Int.emod_lt_of_pos _ (by omega)))

end Go.Proofs.Ythnjfdhijpfekaa
