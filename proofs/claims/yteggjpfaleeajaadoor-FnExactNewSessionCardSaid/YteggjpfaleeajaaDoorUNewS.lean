import Derived.Test.YteggjpfaleeajaaDoorUIsSess
import Derived.Test.YteggjpfaleeajaaDoorUSess0
namespace Go.Proofs.YteggjpfaleeajaaDoor
open Go.RowKit

/-- a session of the call's own and a code are handed back -/
def RetSessC (w : World) (p : ByteArray) (x1 x2 x3 x4 : Int) (xs : List Int) (code : Int) (e : Ending) (w' : World) : Prop :=
  ∃ a c, e = .returned (.tuple #[.agg #[.string p, .int .i64 x1, .int .i64 x2, .int .i64 x3, .int .i64 x4, .slice a xs.length c], .int .i64 code]) ∧ OwnI w' w.heap.size (.slice a xs.length c) xs ∧ Below w.heap.size w w'

theorem make_ints (n : Nat) (hn : n ≤ 1099511627776) (w : World) :
    (Instr.makeSlice 26 (.int .i64 (n : Int)) (.int .i64 (n : Int))).run Tryd.prog w = .ok (.slice (some ⟨w.heap.size, 0, none⟩) n n) (w.alloc (.cells (madeCells #[.int .i64 0] n) 2)) := by
  obtain ⟨i0, hi, hz0, hz1, hz2⟩ := info_parts infoI
  have := run_make (P := Tryd.prog) w 26 2 i0 (.int .i64 0) Tryd.underlying26 hi hz0 .i64 .i64 n n (by omega) (Int.le_refl _) (by rw [hz2]; omega) (by omega)
  rw [hz1] at this
  simpa [Value.cells] using this

theorem ownI_made (w : World) (n : Nat) (hn : n ≤ 1099511627776) : OwnI (w.alloc (.cells (madeCells #[.int .i64 0] n) 2)) w.heap.size (.slice (some ⟨w.heap.size, 0, none⟩) n n) (List.replicate n 0) :=
  OwnI.of_made (World.ownsRow_lit (base := w.heap.size) (size := 1) w (madeCells #[.int .i64 0] n) n (Nat.le_refl _) (by unfold maxLen; omega) (by rw [size_madeCells]; omega))

set_option maxHeartbeats 1000000 in
theorem newSess_any (p : ByteArray) (x1 x2 x4 : Int) (n : Nat) (w : World) (hn : n ≤ 1099511627776) :
    Calls Tryd.prog 34 #[.agg #[.string p, .int .i64 x1, .int .i64 x2, .int .i64 (n : Int), .int .i64 x4]] w (RetSess w p x1 x2 n x4 (List.replicate n 0)) := by
  have hmk := make_ints n hn
  go_enter Tryd.func34, Tryd.ntmps34
  go_wp2_with fail
  go_region
  go_wp2_with fail
  refine bodyPost_ret (v := .agg #[.string p, .int .i64 x1, .int .i64 x2, .int .i64 n, .int .i64 x4, .slice (some ⟨w.heap.size + 1 + 1, 0, none⟩) n n]) (by simp [results, Tryd.results34, go_sem]) rfl ?_
  refine ⟨some ⟨w.heap.size + 1 + 1, 0, none⟩, n, by rw [List.length_replicate], ?_, (ba3 _ _ _ _).drew⟩
  rw [List.length_replicate]
  have h1 := ownI_made ((w.alloc (.cells #[.string p, .int .i64 x1, .int .i64 x2, .int .i64 n, .int .i64 x4] 25)).alloc (.cells #[.string p, .int .i64 x1, .int .i64 x2, .int .i64 n, .int .i64 x4, .slice (some ⟨w.heap.size + 1 + 1, 0, none⟩) n n] 28)) n hn
  simp only [World.size_alloc] at h1
  exact OwnI.drew (h1.weak (by omega))

def nsVal (p : ByteArray) (x1 x2 x3 x4 : Int) : List Int := if isBatchB p x1 x2 x3 x4 then List.replicate x3.toNat 0 else []

/-- a new session, or none -/
def RetNew (w : World) (p : ByteArray) (x1 x2 x3 x4 : Int) (e : Ending) (w' : World) : Prop :=
  if isBatchB p x1 x2 x3 x4 then RetSessC w p x1 x2 x3 x4 (List.replicate x3.toNat 0) 0 e w' else RetSessC w ⟨#[]⟩ 0 0 0 0 [] 1 e w'

theorem batch_count {p : ByteArray} {x1 x2 x3 x4 : Int} (h : isBatchB p x1 x2 x3 x4 = true) : 1 ≤ x3 ∧ x3 ≤ 200 := by
  simp only [isBatchB, Bool.and_eq_true] at h
  exact inB_iff.1 h.1.1.1.1.2

set_option maxHeartbeats 1000000 in
theorem newSession_any (p : ByteArray) (x1 x2 x3 x4 : Int) (w : World) (hp : p.size ≤ maxLen) (ht : Tab w) :
    Calls Tryd.prog 12 #[.agg #[.string p, .int .i64 x1, .int .i64 x2, .int .i64 x3, .int .i64 x4]] w (RetNew w p x1 x2 x3 x4) := by
  have HT := Lib.hid ht
  clear ht
  rcases Bool.eq_false_or_eq_true (isBatchB p x1 x2 x3 x4) with h1 | h1
  · obtain ⟨hn1, hn2⟩ := batch_count h1
    obtain ⟨n, rfl⟩ := Int.eq_ofNat_of_zero_le (show 0 ≤ x3 by omega)
    have hR : RetNew w p x1 x2 n x4 = RetSessC w p x1 x2 n x4 (List.replicate n 0) 0 := by funext e w'; rw [RetNew, if_pos h1, Int.toNat_natCast]
    rw [hR]
    have H1 := Lib.hid h1
    clear h1 hR
    go_enter Tryd.func12, Tryd.ntmps12
    go_wp2_with fail
    refine (isBatch_val H1.out hp ((HT.out.alloc _).alloc _)).mono ?_
    rintro e w1 ⟨rfl, hb1⟩
    obtain ⟨hc, hf⟩ := bcell hb1
    have HB1 := Lib.hid (bt2 hb1)
    have hz1 : w.heap.size + 1 < w1.heap.size := by have := hb1.size; simp at this; omega
    clear hb1
    go_wp2_with fail
    refine (newSess_any _ _ _ _ n _ (by omega)).mono ?_
    rintro e w2 ⟨a2, c2, rfl, ho2, hb2⟩
    obtain ⟨hc2, hf2⟩ := bcell hb2
    have HB2 := Lib.hid (bt0 HB1.out hb2 (Nat.le_refl _))
    have HO2 := Lib.hid ho2
    have hz2 : w.heap.size + 1 < w2.heap.size := by have := hb2.size; omega
    clear hb2 ho2
    go_wp2_with fail
    refine bodyPost_ret (v := .tuple #[.agg #[.string p, .int .i64 x1, .int .i64 x2, .int .i64 n, .int .i64 x4, .slice a2 n c2], .int .i64 0]) (by simp [results, Tryd.results12, go_sem, hc2, hz1, hc]) rfl ⟨a2, c2, by rw [List.length_replicate], ?_, ?_⟩
    · refine OwnI.weak (base := w1.heap.size) ?_ (by omega)
      iterate 6 (refine OwnI.setOld ?_ (by dsimp only; omega) _)
      exact HO2.out
    · iterate 6 (refine Below.setCell ?_ (by dsimp only; omega) _)
      exact HB2.out
  · have hR : RetNew w p x1 x2 x3 x4 = RetSessC w ⟨#[]⟩ 0 0 0 0 [] 1 := by funext e w'; rw [RetNew, h1]; rfl
    rw [hR]
    have H1 := Lib.hid h1
    clear h1 hR
    go_enter Tryd.func12, Tryd.ntmps12
    go_wp2_with fail
    refine (isBatch_val H1.out hp ((HT.out.alloc _).alloc _)).mono ?_
    rintro e w1 ⟨rfl, hb1⟩
    obtain ⟨hc, hf⟩ := bcell hb1
    have HB1 := Lib.hid (bt2 hb1)
    have hz1 : w.heap.size + 1 < w1.heap.size := by have := hb1.size; simp at this; omega
    clear hb1
    go_wp2_with fail
    refine bodyPost_ret (v := .tuple #[.agg #[.string ⟨#[]⟩, .int .i64 0, .int .i64 0, .int .i64 0, .int .i64 0, .slice none 0 0], .int .i64 1]) (by simp [results, Tryd.results12, go_sem, hc]) rfl ⟨Option.none, 0, rfl, World.ownsRow_nil _ _ _ _, ?_⟩
    iterate 6 (refine Below.setCell ?_ (by dsimp only; omega) _)
    exact HB1.out

set_option maxHeartbeats 1000000 in
theorem specNewSession_any (p : ByteArray) (x1 x2 x3 x4 : Int) (w : World) (hp : p.size ≤ maxLen) :
    Calls Tryd.prog 10 #[.agg #[.string p, .int .i64 x1, .int .i64 x2, .int .i64 x3, .int .i64 x4]] w (RetNew w p x1 x2 x3 x4) := by
  rcases Bool.eq_false_or_eq_true (isBatchB p x1 x2 x3 x4) with h1 | h1
  · obtain ⟨hn1, hn2⟩ := batch_count h1
    obtain ⟨n, rfl⟩ := Int.eq_ofNat_of_zero_le (show 0 ≤ x3 by omega)
    have hR : RetNew w p x1 x2 n x4 = RetSessC w p x1 x2 n x4 (List.replicate n 0) 0 := by funext e w'; rw [RetNew, if_pos h1, Int.toNat_natCast]
    rw [hR]
    have H1 := Lib.hid h1
    clear h1 hR
    go_enter Tryd.func10, Tryd.ntmps10
    go_wp2_with fail
    refine (specIsBatch_val H1.out hp).mono ?_
    rintro e w1 ⟨rfl, hb1⟩
    obtain ⟨hc, hf⟩ := bcell hb1
    have HB1 := Lib.hid (bt2 hb1)
    have hz1 : w.heap.size + 1 < w1.heap.size := by have := hb1.size; simp at this; omega
    clear hb1
    go_wp2_with fail
    have hmk := make_ints n (by omega)
    have hz0 : w.heap.size < w1.heap.size := by omega
    go_region
    go_wp2_with fail
    refine bodyPost_ret (v := .tuple #[.agg #[.string p, .int .i64 x1, .int .i64 x2, .int .i64 n, .int .i64 x4, .slice (some ⟨w1.heap.size, 0, none⟩) n n], .int .i64 0]) (by simp [results, Tryd.results10, go_sem, hz1, hc]) rfl ⟨some ⟨w1.heap.size, 0, none⟩, n, by rw [List.length_replicate], ?_, ?_⟩
    · rw [List.length_replicate]
      obtain ⟨W, hW⟩ : ∃ W, (((((w1.setCell ⟨w.heap.size + 1, 0, none⟩ (.string p)).setCell ⟨w.heap.size + 1, 1, none⟩ (.int .i64 x1)).setCell ⟨w.heap.size + 1, 2, none⟩ (.int .i64 x2)).setCell ⟨w.heap.size + 1, 3, none⟩ (.int .i64 n)).setCell ⟨w.heap.size + 1, 4, none⟩ (.int .i64 x4)).setCell ⟨w.heap.size + 1, 5, none⟩ (.slice (some ⟨w1.heap.size, 0, none⟩) n n) = W := ⟨_, rfl⟩
      have hs : w1.heap.size = W.heap.size := by rw [← hW]; simp
      rw [hW, hs]
      exact OwnI.drew ((ownI_made W n (by omega)).weak (by omega))
    · refine Below.drew (Below.alloc ?_ (by simp; omega) _)
      iterate 6 (refine Below.setCell ?_ (by dsimp only; omega) _)
      exact HB1.out
  · have hR : RetNew w p x1 x2 x3 x4 = RetSessC w ⟨#[]⟩ 0 0 0 0 [] 1 := by funext e w'; rw [RetNew, h1]; rfl
    rw [hR]
    have H1 := Lib.hid h1
    clear h1 hR
    go_enter Tryd.func10, Tryd.ntmps10
    go_wp2_with fail
    refine (specIsBatch_val H1.out hp).mono ?_
    rintro e w1 ⟨rfl, hb1⟩
    obtain ⟨hc, hf⟩ := bcell hb1
    have HB1 := Lib.hid (bt2 hb1)
    have hz1 : w.heap.size + 1 < w1.heap.size := by have := hb1.size; simp at this; omega
    clear hb1
    go_wp2_with fail
    refine bodyPost_ret (v := .tuple #[.agg #[.string ⟨#[]⟩, .int .i64 0, .int .i64 0, .int .i64 0, .int .i64 0, .slice none 0 0], .int .i64 1]) (by simp [results, Tryd.results10, go_sem, hc]) rfl ⟨Option.none, 0, rfl, World.ownsRow_nil _ _ _ _, ?_⟩
    iterate 6 (refine Below.setCell ?_ (by dsimp only; omega) _)
    exact HB1.out

end Go.Proofs.YteggjpfaleeajaaDoor
