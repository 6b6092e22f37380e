import Derived.Test.YtpilkgcghlfdmaaGreatDoorM0
import Derived.Test.YtpilkgcghlfdmaaGreatDoorM1
import Derived.Laws.BitsLemmas
namespace Go.Proofs.YtpilkgcghlfdmaaGreatDoor
open Go.RowKit

/-- block b is a law's dice -/
def Dice (w : World) (b : Nat) : Prop :=
  ∃ (a : Option Addr) (n c : Nat) (at_ seed : Int) (base : Nat), base ≤ b ∧ BytesAt w base a n ∧ w.heap[b]? = some (.cells #[.slice a n c, .int .i64 at_, .int .u64 seed] 99 (0, 0)) ∧ n ≤ 4096 ∧ 0 ≤ at_ ∧ at_ ≤ n ∧ 0 ≤ seed ∧ seed < 18446744073709551616
theorem Dice.lt {w : World} {b : Nat} (h : Dice w b) : b < w.heap.size := by
  obtain ⟨a, n, c, at_, seed, base, _, _, hb, _⟩ := h
  exact (Array.getElem?_eq_some_iff.1 hb).1
theorem Dice.kept {w w' : World} {b : Nat} {row : Option Nat} (h : Dice w b) (hg : w.grownBy w' row) (hne : ∀ k, row = some k → b < k) : Dice w' b := by
  have hlt := h.lt
  obtain ⟨a, n, c, at_, seed, base, h1, h2, h3, h4⟩ := h
  refine ⟨a, n, c, at_, seed, base, h1, h2.kept (fun k hk => hg.block k (by omega) (fun e => by have := hne k e.symm; omega)), ?_, h4⟩
  rw [hg.block b hlt (fun e => by have := hne b e.symm; omega)]
  exact h3
theorem Dice.below {w w' : World} {b : Nat} (h : Dice w b) (hb : Below w.heap.size w w') : Dice w' b :=
  h.kept (row := none) ⟨hb.os, hb.tape, hb.output, hb.size, fun k hk _ => hb.block k hk⟩ (fun k e => by cases e)

theorem u64_bd (x : Int) : 0 ≤ IntKind.u64.wrap x ∧ IntKind.u64.wrap x < 18446744073709551616 := by
  rw [IntKind.wrap_u64]; omega
def RetDice (w : World) (e : Ending) (w' : World) : Prop :=
  ∃ b, e = .returned (.pointer (some ⟨b, 0, none⟩)) ∧ w.heap.size ≤ b ∧ Dice w' b ∧ Below w.heap.size w w'
def Rolling (w wr : World) (a : Option Addr) (n c : Nat) : Prop :=
  ∃ s : Int, 0 ≤ s ∧ s < 18446744073709551616 ∧ wr.heap[w.heap.size]? = some (.cells #[.slice a n c, .int .i64 0, .int .u64 s] 99 (0, 0)) ∧ Below w.heap.size w wr

set_option maxRecDepth 100000 in
set_option maxHeartbeats 1000000 in
theorem roll_any (a : Option Addr) (n c : Nat) (w : World) (hx : BytesAt w w.heap.size a n) (hn : n ≤ 4096) :
    Calls Tryz.prog 15 #[.slice a n c, .int .u64 3101] w (RetDice w) := by
  have HX := Lib.hid hx
  clear hx
  go_enter Tryz.func15, Tryz.ntmps15
  have wn : IntKind.u64.wrap (n : Int) = n := IntWalk.u64_in _ (by omega)
  have wn2 : IntKind.u64.wrap (24556819 + (n : Int)) = 24556819 + n := IntWalk.u64_in _ (by omega)
  go_wp2_with fail
  go_loopw [6] (fun i wr => ∃ k : Nat, k ≤ n ∧ i = .int .i64 k ∧ Rolling w wr a n c) (fun i _ => n - (intOf i).toNat)
  case atStart => exact ⟨0, Nat.zero_le _, rfl, 24556819 + n, by omega, by omega, heap_alloc_new w _, ba1 _ _⟩
  case round =>
    obtain ⟨k, hk, rfl, hsd⟩ := hrel
    obtain ⟨s, s0, s1, hb, hbl⟩ := hsd
    have hc2 : wr.cell? ⟨w.heap.size, 2, none⟩ = some (.int .u64 s) := by simp [World.cell?, hb]
    have hf2 : wr.frozen? ⟨w.heap.size, 2, none⟩ = false := by simp [World.frozen?, hb]
    have HB := Lib.hid hb
    have HL := Lib.hid hbl
    clear hb hbl
    by_cases hlt : k < n
    · obtain ⟨b1, o1, z, rfl, hb1, hz, z0, z1⟩ := HX.out k hlt
      have hzr : wr.cell? ⟨b1, o1 + k, none⟩ = some (.int .u8 z) := (HL.out.cell (p := ⟨b1, o1 + k, none⟩) hb1).trans hz
      have hne : ¬ b1 = w.heap.size := by omega
      have hkn : (k : Int) < (n : Int) := by omega
      have w2 : IntKind.u64.wrap z = z := IntWalk.u64_in _ (by omega)
      clear hz
      go_wp2_with fail
      go_region
      all_goals
        go_wp2_with fail
        exact ⟨⟨k + 1, by omega, by go_num, _, (u64_bd _).1, (u64_bd _).2, src_set HB.out 2 _, (HL.out.setCell (Nat.le_refl _) _).drew⟩, by simp [intOf]; omega⟩
    · go_wp2_with fail
      go_ret
      exact ⟨w.heap.size, rfl, Nat.le_refl _, ⟨a, n, c, 0, s, w.heap.size, Nat.le_refl _, HX.out.kept (fun k hk => HL.out.block k hk), HB.out, hn, Int.le_refl _, by omega, s0, s1⟩, HL.out⟩

theorem and24 (x : Int) (h0 : 0 ≤ x) (h1 : x < 4294967296) : wrap64 (bits BinOp.and IntKind.u64 x 16777215) = x % 16777216 := by
  have h := bits_mask .u64 63 (by decide) (fun n h₀ h₁ => by rw [IntKind.wrap_u64]; omega) 24 (by decide) x h0 (by omega)
  have e : ((2 : Int) ^ 24 - 1) = 16777215 := by decide
  have e2 : ((2 : Int) ^ 24) = 16777216 := by decide
  rw [e, e2] at h
  rw [h]
  exact IntWalk.wrap64_in _ (by omega)

/-- the dice are cast -/
def RetCast (w : World) (b : Nat) (m : Int) (e : Ending) (w' : World) : Prop :=
  ∃ r : Int, e = .returned (.int .i64 r) ∧ 0 ≤ r ∧ r < m ∧ Dice w' b ∧ w.grownBy w' (some b)

set_option maxRecDepth 100000 in
set_option maxHeartbeats 1000000 in
theorem below_any (b : Nat) (m : Int) (w : World) (hd : Dice w b) (m1 : 1 ≤ m) (m2 : m ≤ 1000) :
    Calls Tryz.prog 16 #[.pointer (some ⟨b, 0, none⟩), .int .i64 m] w (RetCast w b m) := by
  obtain ⟨a, n, c, at_, seed, base, q1, q2, q3, q4, q5, q6, q7, q8⟩ := hd
  have hc0 : w.cell? ⟨b, 0, none⟩ = some (.slice a n c) := by simp [World.cell?, q3]
  have hc1 : w.cell? ⟨b, 1, none⟩ = some (.int .i64 at_) := by simp [World.cell?, q3]
  have hc2 : w.cell? ⟨b, 2, none⟩ = some (.int .u64 seed) := by simp [World.cell?, q3]
  have hf1 : w.frozen? ⟨b, 1, none⟩ = false := by simp [World.frozen?, q3]
  have hf2 : w.frozen? ⟨b, 2, none⟩ = false := by simp [World.frozen?, q3]
  have HB := Lib.hid q3
  have HC := Lib.hid q2
  clear q3 q2
  obtain ⟨t, rfl⟩ := Int.eq_ofNat_of_zero_le q5
  by_cases h2 : t < n
  · obtain ⟨b1, o1, z, rfl, hb1, hz, z0, z1⟩ := HC.out t h2
    have h2' : (t : Int) < (n : Int) := by omega
    have hne : ¬ b1 = b := by omega
    go_enter Tryz.func16, Tryz.ntmps16
    go_wp2_with fail
    have g := u64_bd (IntKind.u64.wrap (seed * 6364136223846793005) + 1442695040888963407)
    generalize IntKind.u64.wrap (IntKind.u64.wrap (seed * 6364136223846793005) + 1442695040888963407) = s2 at *
    rw [and24 (s2 / 8589934592) (by omega) (by omega)]
    obtain ⟨x, hx⟩ : ∃ x, s2 / 8589934592 % 16777216 = x := ⟨_, rfl⟩
    have x0 : 0 ≤ x := by omega
    have x1 : x < 16777216 := by omega
    obtain ⟨g0, g1⟩ := g
    rw [hx]
    clear hx
    go_quiet (fail)
    go_wp2_with fail
    go_quiet (fail)
    go_wp2_with fail
    go_ret
    exact ⟨_, rfl, Int.emod_nonneg _ (by omega), Int.emod_lt_of_pos _ (by omega), ⟨some ⟨b1, o1, none⟩, n, c, _, s2, base, q1, HC.out.kept (fun k hk => (src_two HB.out 2).2.block k (by have := (Array.getElem?_eq_some_iff.1 HB.out).1; omega) (fun e => by have := Option.some.inj e; omega)), (src_two HB.out _).1, q4, by omega, by omega, g0, g1⟩, (src_two HB.out _).2⟩
  · have hne : ¬ (t : Int) < (n : Int) := by omega
    go_enter Tryz.func16, Tryz.ntmps16
    go_wp2_with fail
    have g := u64_bd (IntKind.u64.wrap (seed * 6364136223846793005) + 1442695040888963407)
    generalize IntKind.u64.wrap (IntKind.u64.wrap (seed * 6364136223846793005) + 1442695040888963407) = s2 at *
    rw [and24 (s2 / 8589934592) (by omega) (by omega)]
    obtain ⟨x, hx⟩ : ∃ x, s2 / 8589934592 % 16777216 = x := ⟨_, rfl⟩
    have x0 : 0 ≤ x := by omega
    have x1 : x < 16777216 := by omega
    obtain ⟨g0, g1⟩ := g
    rw [hx]
    clear hx
    go_quiet (fail)
    go_wp2_with fail
    go_ret
    exact ⟨_, rfl, Int.emod_nonneg _ (by omega), Int.emod_lt_of_pos _ (by omega), ⟨a, n, c, _, s2, base, q1, HC.out.kept (fun k hk => (src_one HB.out 1).2.block k (by have := (Array.getElem?_eq_some_iff.1 HB.out).1; omega) (fun e => by have := Option.some.inj e; omega)), (src_one HB.out _).1, q4, by omega, by omega, g0, g1⟩, (src_one HB.out _).2⟩

end Go.Proofs.YtpilkgcghlfdmaaGreatDoor
