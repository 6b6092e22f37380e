import Derived.Test.YtpilkgcghlfdmaaGreatDoorVSessC
namespace Go.Proofs.YtpilkgcghlfdmaaGreatDoor
open Go.RowKit

set_option maxHeartbeats 1000000 in
theorem newSess_any (p : ByteArray) (x1 x2 x4 : Int) (n : Nat) (w : World) (hn : n ≤ 1099511627776) :
    Calls Tryz.prog 38 #[.agg #[.string p, .int .i64 x1, .int .i64 x2, .int .i64 (n : Int), .int .i64 x4]] w (RetSess w p x1 x2 n x4 (List.replicate n 0)) := by
  have hmk := make_ints n hn
  go_enter Tryz.func38, Tryz.ntmps38
  go_wp2_with fail
  go_region
  go_wp2_with fail
  refine bodyPost_ret (v := .agg #[.string p, .int .i64 x1, .int .i64 x2, .int .i64 n, .int .i64 x4, .slice (some ⟨w.heap.size + 1 + 1, 0, none⟩) n n]) (by simp [results, Tryz.results38, go_sem]) rfl ?_
  refine ⟨some ⟨w.heap.size + 1 + 1, 0, none⟩, n, by rw [List.length_replicate], ?_, (ba3 _ _ _ _).drew⟩
  rw [List.length_replicate]
  have h1 := ownI_made ((w.alloc (.cells #[.string p, .int .i64 x1, .int .i64 x2, .int .i64 n, .int .i64 x4] 32)).alloc (.cells #[.string p, .int .i64 x1, .int .i64 x2, .int .i64 n, .int .i64 x4, .slice (some ⟨w.heap.size + 1 + 1, 0, none⟩) n n] 37)) n hn
  simp only [World.size_alloc] at h1
  exact OwnI.drew (h1.weak (by omega))

def nsVal (p : ByteArray) (x1 x2 x3 x4 : Int) : List Int := if isBatchB p x1 x2 x3 x4 then List.replicate x3.toNat 0 else []

/-- a new session, or none -/
def RetNew (w : World) (p : ByteArray) (x1 x2 x3 x4 : Int) (e : Ending) (w' : World) : Prop :=
  if isBatchB p x1 x2 x3 x4 then RetSessC w p x1 x2 x3 x4 (List.replicate x3.toNat 0) 0 e w' else RetSessC w ⟨#[]⟩ 0 0 0 0 [] 1 e w'

set_option maxHeartbeats 1000000 in
theorem specNewSession_any (p : ByteArray) (x1 x2 x3 x4 : Int) (w : World) (hp : p.size ≤ maxLen) :
    Calls Tryz.prog 40 #[.agg #[.string p, .int .i64 x1, .int .i64 x2, .int .i64 x3, .int .i64 x4]] w (RetNew w p x1 x2 x3 x4) := by
  rcases Bool.eq_false_or_eq_true (isBatchB p x1 x2 x3 x4) with h1 | h1
  · obtain ⟨hn1, hn2⟩ := batch_count h1
    obtain ⟨n, rfl⟩ := Int.eq_ofNat_of_zero_le (show 0 ≤ x3 by omega)
    have hR : RetNew w p x1 x2 n x4 = RetSessC w p x1 x2 n x4 (List.replicate n 0) 0 := by funext e w'; rw [RetNew, if_pos h1, Int.toNat_natCast]
    rw [hR]
    have H1 := Lib.hid h1
    clear h1 hR
    go_enter Tryz.func40, Tryz.ntmps40
    go_wp2_with fail
    refine (specIsBatch_val H1.out hp).mono ?_
    rintro e w1 ⟨rfl, hb1⟩
    obtain ⟨hc, hf⟩ := bcell hb1
    have HB1 := Lib.hid (bt2 hb1)
    have hz1 : w.heap.size + 1 < w1.heap.size := by have := hb1.size; simp at this; omega
    clear hb1
    go_wp2_with fail
    have hmk := make_ints n (by omega)
    have hz0 : w.heap.size < w1.heap.size := by omega
    go_region
    go_wp2_with fail
    refine bodyPost_ret (v := .tuple #[.agg #[.string p, .int .i64 x1, .int .i64 x2, .int .i64 n, .int .i64 x4, .slice (some ⟨w1.heap.size, 0, none⟩) n n], .int .i64 0]) (by simp [results, Tryz.results40, go_sem, hz1, hc]) rfl ⟨some ⟨w1.heap.size, 0, none⟩, n, by rw [List.length_replicate], ?_, ?_⟩
    · rw [List.length_replicate]
      obtain ⟨W, hW⟩ : ∃ W, (((((w1.setCell ⟨w.heap.size + 1, 0, none⟩ (.string p)).setCell ⟨w.heap.size + 1, 1, none⟩ (.int .i64 x1)).setCell ⟨w.heap.size + 1, 2, none⟩ (.int .i64 x2)).setCell ⟨w.heap.size + 1, 3, none⟩ (.int .i64 n)).setCell ⟨w.heap.size + 1, 4, none⟩ (.int .i64 x4)).setCell ⟨w.heap.size + 1, 5, none⟩ (.slice (some ⟨w1.heap.size, 0, none⟩) n n) = W := ⟨_, rfl⟩
      have hs : w1.heap.size = W.heap.size := by rw [← hW]; simp
      rw [hW, hs]
      exact OwnI.drew ((ownI_made W n (by omega)).weak (by omega))
    · refine Below.drew (Below.alloc ?_ (by simp; omega) _)
      iterate 6 (refine Below.setCell ?_ (by dsimp only; omega) _)
      exact HB1.out
  · have hR : RetNew w p x1 x2 x3 x4 = RetSessC w ⟨#[]⟩ 0 0 0 0 [] 1 := by funext e w'; rw [RetNew, h1]; rfl
    rw [hR]
    have H1 := Lib.hid h1
    clear h1 hR
    go_enter Tryz.func40, Tryz.ntmps40
    go_wp2_with fail
    refine (specIsBatch_val H1.out hp).mono ?_
    rintro e w1 ⟨rfl, hb1⟩
    obtain ⟨hc, hf⟩ := bcell hb1
    have HB1 := Lib.hid (bt2 hb1)
    have hz1 : w.heap.size + 1 < w1.heap.size := by have := hb1.size; simp at this; omega
    clear hb1
    go_wp2_with fail
    refine bodyPost_ret (v := .tuple #[.agg #[.string ⟨#[]⟩, .int .i64 0, .int .i64 0, .int .i64 0, .int .i64 0, .slice none 0 0], .int .i64 1]) (by simp [results, Tryz.results40, go_sem, hc]) rfl ⟨Option.none, 0, rfl, World.ownsRow_nil _ _ _ _, ?_⟩
    iterate 6 (refine Below.setCell ?_ (by dsimp only; omega) _)
    exact HB1.out

end Go.Proofs.YtpilkgcghlfdmaaGreatDoor
