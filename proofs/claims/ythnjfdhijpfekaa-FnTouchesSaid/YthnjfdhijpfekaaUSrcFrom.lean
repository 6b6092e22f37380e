import Derived.Test.YthnjfdhijpfekaaUSrc
namespace Go.Proofs.Ythnjfdhijpfekaa
open Go.RowKit

/-- a source is made -/
def RetSrc (w : World) (e : Ending) (w' : World) : Prop :=
  ∃ b, e = .returned (.pointer (some ⟨b, 0, none⟩)) ∧ w.heap.size ≤ b ∧ Src w' b ∧ Below w.heap.size w w'

/-- the state of the loop that makes the seed -/
def Seeding (w wr : World) (a : Option Addr) (n c : Nat) : Prop :=
  ∃ s : Int, 0 ≤ s ∧ s < 2147483647 ∧ wr.heap[w.heap.size]? = some (.cells #[.slice a n c, .int .i64 0, .int .i64 s] 118 (0, 0)) ∧ Below w.heap.size w wr

set_option maxHeartbeats 1000000 in
theorem l01From_any (a : Option Addr) (n c : Nat) (w : World) (hx : BytesAt w w.heap.size a n) (hn : n ≤ 4096) :
    Calls Try.prog 43 #[.slice a n c] w (RetSrc w) := by
  have HX := Lib.hid hx
  clear hx
  go_enter Try.func43, Try.ntmps43
  go_wp2_with fail
  go_loopw [4] (fun i wr => ∃ k : Nat, k ≤ n ∧ i = .int .i64 k ∧ Seeding w wr a n c) (fun i _ => n - (intOf i).toNat)
  case atStart => exact ⟨0, Nat.zero_le _, rfl, 60617, by omega, by omega, heap_alloc_new w _, ba1 _ _⟩
  case round =>
    obtain ⟨k, hk, rfl, hsd⟩ := hrel
    obtain ⟨s, s0, s1, hb, hbl⟩ := hsd
    have hc2 : wr.cell? ⟨w.heap.size, 2, none⟩ = some (.int .i64 s) := by simp [World.cell?, hb]
    have hf2 : wr.frozen? ⟨w.heap.size, 2, none⟩ = false := by simp [World.frozen?, hb]
    have HB := Lib.hid hb
    have HL := Lib.hid hbl
    clear hb hbl
    by_cases hlt : k < n
    · by_cases h64 : k < 64
      · obtain ⟨b1, o1, z, rfl, hb1, hz, z0, z1⟩ := HX.out k hlt
        have hzr : wr.cell? ⟨b1, o1 + k, none⟩ = some (.int .u8 z) := (HL.out.cell (p := ⟨b1, o1 + k, none⟩) hb1).trans hz
        have hne : ¬ b1 = w.heap.size := by omega
        have hkn : (k : Int) < (n : Int) := by omega
        have w1 : IntKind.i64.wrap (s * 43) = s * 43 := IntWalk.i64_in _ (by omega)
        have w2 : IntKind.i64.wrap z = z := IntWalk.i64_in _ (by omega)
        have w3 : IntKind.i64.wrap (s * 43 + z) = s * 43 + z := IntWalk.i64_in _ (by omega)
        have w4 : (s * 43 + z).tmod 2147483647 = (s * 43 + z) % 2147483647 := Int.tmod_eq_emod_of_nonneg (by omega)
        clear hz
        go_wp2_with fail
        go_region
        all_goals
          go_wp2_with fail
          exact ⟨⟨k + 1, by omega, by go_num, (s * 43 + z) % 2147483647, by omega, by omega, src_set HB.out 2 _, (HL.out.setCell (Nat.le_refl _) _).drew⟩, by simp [intOf]; omega⟩
      · go_wp2_with fail
        go_ret
        exact ⟨w.heap.size, rfl, Nat.le_refl _, ⟨a, n, c, 0, s, w.heap.size, Nat.le_refl _, HX.out.kept (fun k hk => HL.out.block k hk), HB.out, hn, Int.le_refl _, by omega, s0, s1⟩, HL.out⟩
    · go_wp2_with fail
      go_ret
      exact ⟨w.heap.size, rfl, Nat.le_refl _, ⟨a, n, c, 0, s, w.heap.size, Nat.le_refl _, HX.out.kept (fun k hk => HL.out.block k hk), HB.out, hn, Int.le_refl _, by omega, s0, s1⟩, HL.out⟩

end Go.Proofs.Ythnjfdhijpfekaa
