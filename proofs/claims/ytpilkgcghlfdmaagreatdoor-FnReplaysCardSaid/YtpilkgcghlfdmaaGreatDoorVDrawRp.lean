import Derived.Test.YtpilkgcghlfdmaaGreatDoorVDrawJ
import Derived.Test.YtpilkgcghlfdmaaGreatDoorM0
import Derived.Test.YtpilkgcghlfdmaaGreatDoorVDice
import Derived.Test.YtpilkgcghlfdmaaGreatDoorM1
namespace Go.Proofs.YtpilkgcghlfdmaaGreatDoor
open Go.RowKit

set_option maxRecDepth 100000 in
set_option maxHeartbeats 1000000 in
theorem roll3301_any (a : Option Addr) (n c : Nat) (w : World) (hx : BytesAt w w.heap.size a n) (hn : n ≤ 4096) :
    Calls Tryz.prog 15 #[.slice a n c, .int .u64 3301] w (RetDice w) := by
  have HX := Lib.hid hx
  clear hx
  go_enter Tryz.func15, Tryz.ntmps15
  have wn : IntKind.u64.wrap (n : Int) = n := IntWalk.u64_in _ (by omega)
  have wn2 : IntKind.u64.wrap (26140619 + (n : Int)) = 26140619 + n := IntWalk.u64_in _ (by omega)
  go_wp2_with fail
  go_loopw [6] (fun i wr => ∃ k : Nat, k ≤ n ∧ i = .int .i64 k ∧ Rolling w wr a n c) (fun i _ => n - (intOf i).toNat)
  case atStart => exact ⟨0, Nat.zero_le _, rfl, 26140619 + n, by omega, by omega, heap_alloc_new w _, ba1 _ _⟩
  case round =>
    obtain ⟨k, hk, rfl, hsd⟩ := hrel
    obtain ⟨s, s0, s1, hb, hbl⟩ := hsd
    have hc2 : wr.cell? ⟨w.heap.size, 2, none⟩ = some (.int .u64 s) := by simp [World.cell?, hb]
    have hf2 : wr.frozen? ⟨w.heap.size, 2, none⟩ = false := by simp [World.frozen?, hb]
    have HB := Lib.hid hb
    have HL := Lib.hid hbl
    clear hb hbl
    by_cases hlt : k < n
    · obtain ⟨b1, o1, z, rfl, hb1, hz, z0, z1⟩ := HX.out k hlt
      have hzr : wr.cell? ⟨b1, o1 + k, none⟩ = some (.int .u8 z) := (HL.out.cell (p := ⟨b1, o1 + k, none⟩) hb1).trans hz
      have hne : ¬ b1 = w.heap.size := by omega
      have hkn : (k : Int) < (n : Int) := by omega
      have w2 : IntKind.u64.wrap z = z := IntWalk.u64_in _ (by omega)
      clear hz
      go_wp2_with fail
      go_region
      all_goals
        go_wp2_with fail
        exact ⟨⟨k + 1, by omega, by go_num, _, (u64_bd _).1, (u64_bd _).2, src_set HB.out 2 _, (HL.out.setCell (Nat.le_refl _) _).drew⟩, by simp [intOf]; omega⟩
    · go_wp2_with fail
      go_ret
      exact ⟨w.heap.size, rfl, Nat.le_refl _, ⟨a, n, c, 0, s, w.heap.size, Nat.le_refl _, HX.out.kept (fun k hk => HL.out.block k hk), HB.out, hn, Int.le_refl _, by omega, s0, s1⟩, HL.out⟩

/-- a drawn batch and a drawn text -/
def RetDB (w : World) (e : Ending) (w' : World) : Prop :=
  ∃ (p : ByteArray) (x1 x2 x3 x4 : Int) (s : ByteArray), e = .returned (.tuple #[.agg #[.string p, .int .i64 x1, .int .i64 x2, .int .i64 x3, .int .i64 x4], .string s]) ∧ p.size ≤ 13 ∧ s.size ≤ 20001 ∧ Below w.heap.size w w'
set_option maxRecDepth 100000 in
set_option maxHeartbeats 1000000 in
theorem drawReplayJournal_any (a : Option Addr) (n c : Nat) (w : World) (hx : BytesAt w w.heap.size a n) (hn : n ≤ 4096) :
    Calls Tryz.prog 10 #[.slice a n c] w (RetDB w) := by
  have HB0 := Lib.hid (ba1 w (.cells #[.string ⟨#[]⟩, .int .i64 0, .int .i64 0, .int .i64 0, .int .i64 0] 32 (0, 0)))
  have HX0 := Lib.hid (push_at w (.cells #[.string ⟨#[]⟩, .int .i64 0, .int .i64 0, .int .i64 0, .int .i64 0] 32 (0, 0)))
  have HX : Hid (BytesAt (w.alloc (.cells #[.string ⟨#[]⟩, .int .i64 0, .int .i64 0, .int .i64 0, .int .i64 0] 32 (0, 0))) (w.alloc (.cells #[.string ⟨#[]⟩, .int .i64 0, .int .i64 0, .int .i64 0, .int .i64 0] 32 (0, 0))).heap.size a n) := Lib.hid (by
    have h := hx.kept (w' := w.alloc (.cells #[.string ⟨#[]⟩, .int .i64 0, .int .i64 0, .int .i64 0, .int .i64 0] 32 (0, 0))) (fun k hk => HB0.out.block k hk)
    intro i hi
    obtain ⟨b, o, z, h1, h2, h3⟩ := h i hi
    exact ⟨b, o, z, h1, by simp; omega, h3⟩)
  clear hx
  go_enter Tryz.func10, Tryz.ntmps10
  go_wp2_with fail
  refine (l01From_any a n c _ HX.out hn).mono ?_
  rintro e w1 ⟨b, rfl, hb, hs1, hb1⟩
  have HS1 := Lib.hid hs1
  have HB1 := Lib.hid (bt0 HB0.out hb1 (Nat.le_refl _))
  have HX1 := Lib.hid (blkK hb1 HX0.out)
  have hwb : w.heap.size < b := by simp at hb; omega
  clear hs1 hb1 hb
  go_wp2_with fail
  refine (l31Draw_any b w1 HS1.out).mono ?_
  rintro e w2 ⟨p, x1, x2, x3, x4, rfl, hp, -, -, -, -, hs2, hg2⟩
  have HX2 := Lib.hid (push_old (A := .cells #[.string p, .int .i64 x1, .int .i64 x2, .int .i64 x3, .int .i64 x4] 32 (0, 0)) ((hg2.block w.heap.size (blkLt HX1.out) (fun e => by have := Option.some.inj e; omega)).trans HX1.out))
  have HBB := Lib.hid (push_at w2 (.cells #[.string p, .int .i64 x1, .int .i64 x2, .int .i64 x3, .int .i64 x4] 32 (0, 0)))
  have hb2 := HB1.out.trans (below_of_grownBy hg2 HB1.out.size (fun k e => by have := Option.some.inj e; omega))
  have HB2 := Lib.hid (bt0 hb2 (ba1 w2 (.cells #[.string p, .int .i64 x1, .int .i64 x2, .int .i64 x3, .int .i64 x4] 32 (0, 0))) (Nat.le_refl _))
  have HS2 := Lib.hid (hs2.kept (World.grownBy_alloc w2 (.cells #[.string p, .int .i64 x1, .int .i64 x2, .int .i64 x3, .int .i64 x4] 32 (0, 0)) none) (by simp))
  have hbw2 : b < w2.heap.size := hs2.lt
  clear hs2 hg2 hb2
  go_wp2_with fail
  generalize w2.alloc (.cells #[.string p, .int .i64 x1, .int .i64 x2, .int .i64 x3, .int .i64 x4] 32 (0, 0)) = w3 at *
  obtain ⟨g, hge⟩ : ∃ g, w2.heap.size = g := ⟨_, rfl⟩
  rw [hge] at HBB hbw2 ⊢
  clear hge
  refine wp_region_rt (Keep := KeepB b) [10, 11, 12] (fun us => _)
    [spEq b (.agg #[.string p, .int .i64 x1, .int .i64 x2, .int .i64 x3, .int .i64 x4]), spEq b (.pointer (some ⟨b, 0, none⟩)), spV b (StrB 20001)]
    (StB b w3) (by kernel_rfl) (by kernel_rfl) (Nat.le_of_ble_eq_true rfl) (fun us => by simp [over, List.mapIdx_cons]; exact rfl) ?_ (fun w => World.grownBy.refl _ _) ?_ ?_
  · exact ⟨HS2.out.kept (row := none) (w' := World.drew w3) (grownBy_drewN w3 1 none) (by simp), grownBy_drewN w3 1 _⟩
  · refine ⟨?_, ?_, ?_, trivial⟩
    all_goals (intro us wr hst hd; rw [if_pos (by kernel_rfl)]; dsimp only)
    · clear hd
      have hc := heap_cell ((hst.2.block g (blkLt HBB.out) (fun e => by have := Option.some.inj e; omega)).trans HBB.out)
      go_simp
      exact rs_same hst rfl
    · clear hd
      go_simp
      exact rs_same hst rfl
    · have d11 : us 11 = .pointer (some ⟨b, 0, none⟩) := hd ⟨1, .data⟩ (by simp) rfl
      clear hd
      go_simp
      exact (l32DrawText_any b wr hst.1).mono fun e w' ⟨s, he, hz, hs, hg⟩ => ⟨_, he, stB_trans hst hs hg, hg, s, rfl, hz⟩
  · intro us wr hst hd
    have d10 : us 10 = .agg #[.string p, .int .i64 x1, .int .i64 x2, .int .i64 x3, .int .i64 x4] := hd 0 (by simp)
    have d12 : StrB 20001 (us 12) := hd 2 (by simp)
    clear hd
    obtain ⟨s, es, hz⟩ := d12
    obtain ⟨hcX, hfX⟩ := heap_cellR ((hst.2.block w.heap.size (blkLt HX2.out) (fun e => by have := Option.some.inj e; omega)).trans HX2.out)
    have HBX := Lib.hid (HB2.out.trans (below_of_grownBy hst.2 HB2.out.size (fun k e => by have := Option.some.inj e; omega)))
    simp only [List.drop, List.length]
    rw [d10, es]
    clear hst d10 es
    go_wp2_with fail
    refine bodyPost_ret (v := .tuple #[.agg #[.string p, .int .i64 x1, .int .i64 x2, .int .i64 x3, .int .i64 x4], .string s]) (by simp [results, Tryz.results10, go_sem, hcX]) rfl ⟨p, x1, x2, x3, x4, s, rfl, hp, hz, ?_⟩
    iterate 5 (refine Below.setCell ?_ (by dsimp only; omega) _)
    exact HBX.out

end Go.Proofs.YtpilkgcghlfdmaaGreatDoor
