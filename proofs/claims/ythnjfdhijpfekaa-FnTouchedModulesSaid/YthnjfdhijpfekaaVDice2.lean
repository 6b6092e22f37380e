import Derived.Test.YthnjfdhijpfekaaVDice
namespace Go.Proofs.Ythnjfdhijpfekaa
open Go.RowKit

set_option maxRecDepth 100000 in
set_option maxHeartbeats 1000000 in
theorem roll2701_any (a : Option Addr) (n c : Nat) (w : World) (hx : BytesAt w w.heap.size a n) (hn : n ≤ 4096) :
    Calls Try.prog 31 #[.slice a n c, .int .u64 2701] w (RetDice w) := by
  have HX := Lib.hid hx
  clear hx
  go_enter Try.func31, Try.ntmps31
  have wn : IntKind.u64.wrap (n : Int) = n := IntWalk.u64_in _ (by omega)
  have wn2 : IntKind.u64.wrap (21389219 + (n : Int)) = 21389219 + n := IntWalk.u64_in _ (by omega)
  go_wp2_with fail
  go_loopw [6] (fun i wr => ∃ k : Nat, k ≤ n ∧ i = .int .i64 k ∧ Rolling w wr a n c) (fun i _ => n - (intOf i).toNat)
  case atStart => exact ⟨0, Nat.zero_le _, rfl, 21389219 + n, by omega, by omega, heap_alloc_new w _, ba1 _ _⟩
  case round =>
    obtain ⟨k, hk, rfl, hsd⟩ := hrel
    obtain ⟨s, s0, s1, hb, hbl⟩ := hsd
    have hc2 : wr.cell? ⟨w.heap.size, 2, none⟩ = some (.int .u64 s) := by simp [World.cell?, hb]
    have hf2 : wr.frozen? ⟨w.heap.size, 2, none⟩ = false := by simp [World.frozen?, hb]
    have HB := Lib.hid hb
    have HL := Lib.hid hbl
    clear hb hbl
    by_cases hlt : k < n
    · obtain ⟨b1, o1, z, rfl, hb1, hz, z0, z1⟩ := HX.out k hlt
      have hzr : wr.cell? ⟨b1, o1 + k, none⟩ = some (.int .u8 z) := (HL.out.cell (p := ⟨b1, o1 + k, none⟩) hb1).trans hz
      have hne : ¬ b1 = w.heap.size := by omega
      have hkn : (k : Int) < (n : Int) := by omega
      have w2 : IntKind.u64.wrap z = z := IntWalk.u64_in _ (by omega)
      clear hz
      go_wp2_with fail
      go_region
      all_goals
        go_wp2_with fail
        exact ⟨⟨k + 1, by omega, by go_num, _, (u64_bd _).1, (u64_bd _).2, src_set HB.out 2 _, (HL.out.setCell (Nat.le_refl _) _).drew⟩, by simp [intOf]; omega⟩
    · go_wp2_with fail
      go_ret
      exact ⟨w.heap.size, rfl, Nat.le_refl _, ⟨a, n, c, 0, s, w.heap.size, Nat.le_refl _, HX.out.kept (fun k hk => HL.out.block k hk), HB.out, hn, Int.le_refl _, by omega, s0, s1⟩, HL.out⟩

end Go.Proofs.Ythnjfdhijpfekaa
