import Derived.Test.YtlcglclojlffgaaGreatDoorVLblI
import Derived.Test.YtlcglclojlffgaaGreatDoorVLbT
import Derived.Test.YtlcglclojlffgaaGreatDoorVDecI
import Derived.Test.YtlcglclojlffgaaGreatDoorM3
import Derived.Test.YtlcglclojlffgaaGreatDoorM0
namespace Go.Proofs.YtlcglclojlffgaaGreatDoor
open Go.RowKit

/-- a slice of numbers -/
def IsV (zs : List Int) (v : Value) (W : World) : Prop := ∃ a c, v = .slice a zs.length c ∧ IntsAt W a zs
def spIs (zs : List Int) : Sp KB := ⟨IsV zs, fun _ _ _ hk ⟨a, c, e, h⟩ => ⟨a, c, e, h.below hk⟩⟩
theorem ba_eq {a : ByteArray} {l : List UInt8} (h : a.data.toList = l) : a = ⟨l.toArray⟩ := by subst h; simp
abbrev i64B (n : Int) : Prop := -9223372036854775808 ≤ n ∧ n ≤ 9223372036854775807
set_option maxRecDepth 100000 in
set_option maxHeartbeats 8000000 in
theorem textLine_any (row col sc tall wide lev : Int) (nm tx : ByteArray) (w : World) (hr : i64B row) (hc : i64B col) (hs : i64B sc) (_hl : i64B lev) (_hnm : nm.size ≤ 1048576) (htx : tx.size ≤ 1048576) (ht : Tab w) :
    Calls Tryz.prog 165 #[itV ⟨1, row, col, sc, tall, wide, nm, lev, tx⟩] w fun e w' => e = .returned (.string ⟨(lineI ⟨1, row, col, sc, tall, wide, nm, lev, tx⟩).toArray⟩) ∧ Below w.heap.size w w' := by
  have HDC := Lib.hid (fun a c w' (h : IntsAt w' a [row, col, sc]) (ht : Tab w') => decimals_any a [row, col, sc] c w' h (by intro x hx; simp only [List.mem_cons, List.not_mem_nil, or_false] at hx; rcases hx with rfl | rfl | rfl <;> assumption) (by simp) ht)
  obtain ⟨D, hD⟩ : ∃ D, D = (⟨(decX [row, col, sc]).toArray⟩ : ByteArray) := ⟨_, rfl⟩
  rw [← hD] at HDC
  have HDe := Lib.hid hD
  have hDs : D.size ≤ 66 := by
    rw [hD]
    exact decX_len [row, col, sc] (by intro x hx; simp only [List.mem_cons, List.not_mem_nil, or_false] at hx; rcases hx with rfl | rfl | rfl <;> assumption)
  have hcat0 : ¬ 9223372036854775807 < 5 + D.size := by omega
  have hcat1 : ¬ 9223372036854775807 < 5 + D.size + 1 := by omega
  have hcat2 : ¬ 9223372036854775807 < 5 + D.size + 1 + tx.size := by omega
  have hK := push_at w (.cells #[.int .i64 1, .int .i64 row, .int .i64 col, .int .i64 sc, .int .i64 tall, .int .i64 wide, .string nm, .int .i64 lev, .string tx] 111 (0, 0))
  have hB := ba1 w (.cells #[.int .i64 1, .int .i64 row, .int .i64 col, .int .i64 sc, .int .i64 tall, .int .i64 wide, .string nm, .int .i64 lev, .string tx] 111 (0, 0))
  have hT := ht.next hB
  obtain ⟨W, hW⟩ : ∃ W, W = w.alloc (.cells #[.int .i64 1, .int .i64 row, .int .i64 col, .int .i64 sc, .int .i64 tall, .int .i64 wide, .string nm, .int .i64 lev, .string tx] 111 (0, 0)) := ⟨_, rfl⟩
  have HW := Lib.hid hW
  rw [← hW] at hK hB hT
  have K := Lib.hid hK
  have HB := Lib.hid hB
  have HT := Lib.hid hT
  clear hK hB hT hW hD ht
  go_enter Tryz.func165, Tryz.ntmps165
  go_wp2_with fail
  rw [← HW.out]
  refine wp_region_rt (Keep := KB) [3, 4, 5, 6, 7, 8, 9, 10, 11, 12, 13, 14, 15, 16, 17, 18, 19] (fun us => _)
    [spE (.pointer (some ⟨w.heap.size, 0, none⟩)),
     spE (.pointer (some ⟨w.heap.size, 1, none⟩)),
     spE (.int .i64 row),
     spE (.pointer (some ⟨w.heap.size, 0, none⟩)),
     spE (.pointer (some ⟨w.heap.size, 2, none⟩)),
     spE (.int .i64 col),
     spE (.pointer (some ⟨w.heap.size, 0, none⟩)),
     spE (.pointer (some ⟨w.heap.size, 3, none⟩)),
     spE (.int .i64 sc),
     spIs [row, col, sc],
     spE (.string D),
     spE (.string ((⟨#[116, 101, 120, 116, 32]⟩ : ByteArray) ++ D)),
     spE (.string ((⟨#[116, 101, 120, 116, 32]⟩ : ByteArray) ++ D ++ (⟨#[32]⟩ : ByteArray))),
     spE (.pointer (some ⟨w.heap.size, 0, none⟩)),
     spE (.pointer (some ⟨w.heap.size, 8, none⟩)),
     spE (.string tx),
     spE (.string ((⟨#[116, 101, 120, 116, 32]⟩ : ByteArray) ++ D ++ (⟨#[32]⟩ : ByteArray) ++ tx))]
    (StX W) (by kernel_rfl) (by kernel_rfl) (Nat.le_of_ble_eq_true rfl) (fun us => by simp [over, List.mapIdx_cons]; exact rfl) (stX0 _) kbr ?_ ?_
  · refine ⟨?_, ?_, ?_, ?_, ?_, ?_, ?_, ?_, ?_, ?_, ?_, ?_, ?_, ?_, ?_, ?_, ?_, trivial⟩
    all_goals (intro us wx hst hd; rw [if_pos (by kernel_rfl)]; dsimp only)
    · clear hd
      go_simp
      exact kb_same hst rfl
    · have d3 : us 3 = (.pointer (some ⟨w.heap.size, 0, none⟩)) := hd ⟨0, .data⟩ (by simp) rfl
      clear hd
      go_simp
      exact kb_same hst rfl
    · have d4 : us 4 = (.pointer (some ⟨w.heap.size, 1, none⟩)) := hd ⟨1, .data⟩ (by simp) rfl
      clear hd
      obtain ⟨hcX, hfX⟩ := heap_cellR (blkK hst K.out)
      have hlX := blkLt (blkK hst K.out)
      go_simp
      exact kb_same hst rfl
    · clear hd
      go_simp
      exact kb_same hst rfl
    · have d6 : us 6 = (.pointer (some ⟨w.heap.size, 0, none⟩)) := hd ⟨3, .data⟩ (by simp) rfl
      clear hd
      go_simp
      exact kb_same hst rfl
    · have d7 : us 7 = (.pointer (some ⟨w.heap.size, 2, none⟩)) := hd ⟨4, .data⟩ (by simp) rfl
      clear hd
      obtain ⟨hcX, hfX⟩ := heap_cellR (blkK hst K.out)
      have hlX := blkLt (blkK hst K.out)
      go_simp
      exact kb_same hst rfl
    · clear hd
      go_simp
      exact kb_same hst rfl
    · have d9 : us 9 = (.pointer (some ⟨w.heap.size, 0, none⟩)) := hd ⟨6, .data⟩ (by simp) rfl
      clear hd
      go_simp
      exact kb_same hst rfl
    · have d10 : us 10 = (.pointer (some ⟨w.heap.size, 3, none⟩)) := hd ⟨7, .data⟩ (by simp) rfl
      clear hd
      obtain ⟨hcX, hfX⟩ := heap_cellR (blkK hst K.out)
      have hlX := blkLt (blkK hst K.out)
      go_simp
      exact kb_same hst rfl
    · have d5 : us 5 = (.int .i64 row) := hd ⟨2, .data⟩ (by simp) rfl
      have d8 : us 8 = (.int .i64 col) := hd ⟨5, .data⟩ (by simp) rfl
      have d11 : us 11 = (.int .i64 sc) := hd ⟨8, .data⟩ (by simp) rfl
      clear hd
      go_simp
      exact kb_below hst (ba1 _ _) ⟨_, _, rfl, ints_lit2 (push_at _ _) rfl⟩
    · have d12 := hd ⟨9, .data⟩ (by simp) rfl
      clear hd
      obtain ⟨a12, c12, e12, h12⟩ : IsV [row, col, sc] (us 12) wx := d12
      have h9 := HDC.out a12 c12 wx h12 (HT.out.next hst)
      go_simp
      exact h9.mono fun e w' ⟨he, hb⟩ => ⟨_, he, kb_below hst hb rfl⟩
    · have d13 : us 13 = (.string D) := hd ⟨10, .data⟩ (by simp) rfl
      clear hd
      go_simp
      exact kb_same hst rfl
    · have d14 : us 14 = (.string ((⟨#[116, 101, 120, 116, 32]⟩ : ByteArray) ++ D)) := hd ⟨11, .data⟩ (by simp) rfl
      clear hd
      go_simp
      exact kb_same hst rfl
    · clear hd
      go_simp
      exact kb_same hst rfl
    · have d16 : us 16 = (.pointer (some ⟨w.heap.size, 0, none⟩)) := hd ⟨13, .data⟩ (by simp) rfl
      clear hd
      go_simp
      exact kb_same hst rfl
    · have d17 : us 17 = (.pointer (some ⟨w.heap.size, 8, none⟩)) := hd ⟨14, .data⟩ (by simp) rfl
      clear hd
      obtain ⟨hcX, hfX⟩ := heap_cellR (blkK hst K.out)
      have hlX := blkLt (blkK hst K.out)
      go_simp
      exact kb_same hst rfl
    · have d15 : us 15 = (.string ((⟨#[116, 101, 120, 116, 32]⟩ : ByteArray) ++ D ++ (⟨#[32]⟩ : ByteArray))) := hd ⟨12, .data⟩ (by simp) rfl
      have d18 : us 18 = (.string tx) := hd ⟨15, .data⟩ (by simp) rfl
      clear hd
      go_simp
      exact kb_same hst rfl
  · intro us wx hst hd
    have d19 : us 19 = (.string ((⟨#[116, 101, 120, 116, 32]⟩ : ByteArray) ++ D ++ (⟨#[32]⟩ : ByteArray) ++ tx)) := hd 16 (by simp)
    clear hd
    simp only [List.drop, List.length]
    rw [d19]
    have HST := Lib.hid hst
    clear hst
    go_wp2_with fail
    go_ret
    refine ⟨ret_str (ba_eq ?_), bt0 HB.out HST.out (Nat.le_refl _)⟩
    rw [lineI, if_pos rfl, wordsX_dec, HDe.out]
    simp
set_option maxRecDepth 100000 in
set_option maxHeartbeats 8000000 in
theorem symbolLine_any (row col sc tall wide lev : Int) (nm tx : ByteArray) (w : World) (hr : i64B row) (hc : i64B col) (hs : i64B sc) (hl : i64B lev) (hnm : nm.size ≤ 1048576) (htx : tx.size ≤ 1048576) (ht : Tab w) :
    Calls Tryz.prog 172 #[itV ⟨3, row, col, sc, tall, wide, nm, lev, tx⟩] w fun e w' => e = .returned (.string ⟨(lineI ⟨3, row, col, sc, tall, wide, nm, lev, tx⟩).toArray⟩) ∧ Below w.heap.size w w' := by
  have HDC := Lib.hid (fun a c w' (h : IntsAt w' a [row, col, sc]) (ht : Tab w') => decimals_any a [row, col, sc] c w' h (by intro x hx; simp only [List.mem_cons, List.not_mem_nil, or_false] at hx; rcases hx with rfl | rfl | rfl <;> assumption) (by simp) ht)
  obtain ⟨D, hD⟩ : ∃ D, D = (⟨(decX [row, col, sc]).toArray⟩ : ByteArray) := ⟨_, rfl⟩
  rw [← hD] at HDC
  have HDe := Lib.hid hD
  have hDs : D.size ≤ 66 := by
    rw [hD]
    exact decX_len [row, col, sc] (by intro x hx; simp only [List.mem_cons, List.not_mem_nil, or_false] at hx; rcases hx with rfl | rfl | rfl <;> assumption)
  have HFI := Lib.hid (fun w' (ht : Tab w') => formatInt_any lev w' hl.1 hl.2 ht)
  obtain ⟨E, hE⟩ : ∃ E, E = decB lev := ⟨_, rfl⟩
  rw [← hE] at HFI
  have HEe := Lib.hid hE
  have hEs : E.size ≤ 22 := by
    rw [hE, decB_size]
    have := Lib.itoa_length_le lev hl.1 hl.2
    omega
  clear hE
  have hcat0 : ¬ 9223372036854775807 < 7 + D.size := by omega
  have hcat1 : ¬ 9223372036854775807 < 7 + D.size + 1 := by omega
  have hcat2 : ¬ 9223372036854775807 < 7 + D.size + 1 + nm.size := by omega
  have hcat3 : ¬ 9223372036854775807 < 7 + D.size + 1 + nm.size + 1 := by omega
  have hcat4 : ¬ 9223372036854775807 < 7 + D.size + 1 + nm.size + 1 + E.size := by omega
  have hcat5 : ¬ 9223372036854775807 < 7 + D.size + 1 + nm.size + 1 + E.size + 1 := by omega
  have hcat6 : ¬ 9223372036854775807 < 7 + D.size + 1 + nm.size + 1 + E.size + 1 + tx.size := by omega
  have hK := push_at w (.cells #[.int .i64 3, .int .i64 row, .int .i64 col, .int .i64 sc, .int .i64 tall, .int .i64 wide, .string nm, .int .i64 lev, .string tx] 113 (0, 0))
  have hB := ba1 w (.cells #[.int .i64 3, .int .i64 row, .int .i64 col, .int .i64 sc, .int .i64 tall, .int .i64 wide, .string nm, .int .i64 lev, .string tx] 113 (0, 0))
  have hT := ht.next hB
  obtain ⟨W, hW⟩ : ∃ W, W = w.alloc (.cells #[.int .i64 3, .int .i64 row, .int .i64 col, .int .i64 sc, .int .i64 tall, .int .i64 wide, .string nm, .int .i64 lev, .string tx] 113 (0, 0)) := ⟨_, rfl⟩
  have HW := Lib.hid hW
  rw [← hW] at hK hB hT
  have K := Lib.hid hK
  have HB := Lib.hid hB
  have HT := Lib.hid hT
  clear hK hB hT hW hD ht
  go_enter Tryz.func172, Tryz.ntmps172
  go_wp2_with fail
  rw [← HW.out]
  refine wp_region_rt (Keep := KB) [3, 4, 5, 6, 7, 8, 9, 10, 11, 12, 13, 14, 15, 16, 17, 18, 19, 20, 21, 22, 23, 24, 25, 26, 27, 28, 29, 30] (fun us => _)
    [spE (.pointer (some ⟨w.heap.size, 0, none⟩)),
     spE (.pointer (some ⟨w.heap.size, 1, none⟩)),
     spE (.int .i64 row),
     spE (.pointer (some ⟨w.heap.size, 0, none⟩)),
     spE (.pointer (some ⟨w.heap.size, 2, none⟩)),
     spE (.int .i64 col),
     spE (.pointer (some ⟨w.heap.size, 0, none⟩)),
     spE (.pointer (some ⟨w.heap.size, 3, none⟩)),
     spE (.int .i64 sc),
     spIs [row, col, sc],
     spE (.string D),
     spE (.string ((⟨#[115, 121, 109, 98, 111, 108, 32]⟩ : ByteArray) ++ D)),
     spE (.string ((⟨#[115, 121, 109, 98, 111, 108, 32]⟩ : ByteArray) ++ D ++ (⟨#[32]⟩ : ByteArray))),
     spE (.pointer (some ⟨w.heap.size, 0, none⟩)),
     spE (.pointer (some ⟨w.heap.size, 6, none⟩)),
     spE (.string nm),
     spE (.string ((⟨#[115, 121, 109, 98, 111, 108, 32]⟩ : ByteArray) ++ D ++ (⟨#[32]⟩ : ByteArray) ++ nm)),
     spE (.string ((⟨#[115, 121, 109, 98, 111, 108, 32]⟩ : ByteArray) ++ D ++ (⟨#[32]⟩ : ByteArray) ++ nm ++ (⟨#[32]⟩ : ByteArray))),
     spE (.pointer (some ⟨w.heap.size, 0, none⟩)),
     spE (.pointer (some ⟨w.heap.size, 7, none⟩)),
     spE (.int .i64 lev),
     spE (.string E),
     spE (.string ((⟨#[115, 121, 109, 98, 111, 108, 32]⟩ : ByteArray) ++ D ++ (⟨#[32]⟩ : ByteArray) ++ nm ++ (⟨#[32]⟩ : ByteArray) ++ E)),
     spE (.string ((⟨#[115, 121, 109, 98, 111, 108, 32]⟩ : ByteArray) ++ D ++ (⟨#[32]⟩ : ByteArray) ++ nm ++ (⟨#[32]⟩ : ByteArray) ++ E ++ (⟨#[32]⟩ : ByteArray))),
     spE (.pointer (some ⟨w.heap.size, 0, none⟩)),
     spE (.pointer (some ⟨w.heap.size, 8, none⟩)),
     spE (.string tx),
     spE (.string ((⟨#[115, 121, 109, 98, 111, 108, 32]⟩ : ByteArray) ++ D ++ (⟨#[32]⟩ : ByteArray) ++ nm ++ (⟨#[32]⟩ : ByteArray) ++ E ++ (⟨#[32]⟩ : ByteArray) ++ tx))]
    (StX W) (by kernel_rfl) (by kernel_rfl) (Nat.le_of_ble_eq_true rfl) (fun us => by simp [over, List.mapIdx_cons]; exact rfl) (stX0 _) kbr ?_ ?_
  · refine ⟨?_, ?_, ?_, ?_, ?_, ?_, ?_, ?_, ?_, ?_, ?_, ?_, ?_, ?_, ?_, ?_, ?_, ?_, ?_, ?_, ?_, ?_, ?_, ?_, ?_, ?_, ?_, ?_, trivial⟩
    all_goals (intro us wx hst hd; rw [if_pos (by kernel_rfl)]; dsimp only)
    · clear hd
      go_simp
      exact kb_same hst rfl
    · have d3 : us 3 = (.pointer (some ⟨w.heap.size, 0, none⟩)) := hd ⟨0, .data⟩ (by simp) rfl
      clear hd
      go_simp
      exact kb_same hst rfl
    · have d4 : us 4 = (.pointer (some ⟨w.heap.size, 1, none⟩)) := hd ⟨1, .data⟩ (by simp) rfl
      clear hd
      obtain ⟨hcX, hfX⟩ := heap_cellR (blkK hst K.out)
      have hlX := blkLt (blkK hst K.out)
      go_simp
      exact kb_same hst rfl
    · clear hd
      go_simp
      exact kb_same hst rfl
    · have d6 : us 6 = (.pointer (some ⟨w.heap.size, 0, none⟩)) := hd ⟨3, .data⟩ (by simp) rfl
      clear hd
      go_simp
      exact kb_same hst rfl
    · have d7 : us 7 = (.pointer (some ⟨w.heap.size, 2, none⟩)) := hd ⟨4, .data⟩ (by simp) rfl
      clear hd
      obtain ⟨hcX, hfX⟩ := heap_cellR (blkK hst K.out)
      have hlX := blkLt (blkK hst K.out)
      go_simp
      exact kb_same hst rfl
    · clear hd
      go_simp
      exact kb_same hst rfl
    · have d9 : us 9 = (.pointer (some ⟨w.heap.size, 0, none⟩)) := hd ⟨6, .data⟩ (by simp) rfl
      clear hd
      go_simp
      exact kb_same hst rfl
    · have d10 : us 10 = (.pointer (some ⟨w.heap.size, 3, none⟩)) := hd ⟨7, .data⟩ (by simp) rfl
      clear hd
      obtain ⟨hcX, hfX⟩ := heap_cellR (blkK hst K.out)
      have hlX := blkLt (blkK hst K.out)
      go_simp
      exact kb_same hst rfl
    · have d5 : us 5 = (.int .i64 row) := hd ⟨2, .data⟩ (by simp) rfl
      have d8 : us 8 = (.int .i64 col) := hd ⟨5, .data⟩ (by simp) rfl
      have d11 : us 11 = (.int .i64 sc) := hd ⟨8, .data⟩ (by simp) rfl
      clear hd
      go_simp
      exact kb_below hst (ba1 _ _) ⟨_, _, rfl, ints_lit2 (push_at _ _) rfl⟩
    · have d12 := hd ⟨9, .data⟩ (by simp) rfl
      clear hd
      obtain ⟨a12, c12, e12, h12⟩ : IsV [row, col, sc] (us 12) wx := d12
      have h9 := HDC.out a12 c12 wx h12 (HT.out.next hst)
      go_simp
      exact h9.mono fun e w' ⟨he, hb⟩ => ⟨_, he, kb_below hst hb rfl⟩
    · have d13 : us 13 = (.string D) := hd ⟨10, .data⟩ (by simp) rfl
      clear hd
      go_simp
      exact kb_same hst rfl
    · have d14 : us 14 = (.string ((⟨#[115, 121, 109, 98, 111, 108, 32]⟩ : ByteArray) ++ D)) := hd ⟨11, .data⟩ (by simp) rfl
      clear hd
      go_simp
      exact kb_same hst rfl
    · clear hd
      go_simp
      exact kb_same hst rfl
    · have d16 : us 16 = (.pointer (some ⟨w.heap.size, 0, none⟩)) := hd ⟨13, .data⟩ (by simp) rfl
      clear hd
      go_simp
      exact kb_same hst rfl
    · have d17 : us 17 = (.pointer (some ⟨w.heap.size, 6, none⟩)) := hd ⟨14, .data⟩ (by simp) rfl
      clear hd
      obtain ⟨hcX, hfX⟩ := heap_cellR (blkK hst K.out)
      have hlX := blkLt (blkK hst K.out)
      go_simp
      exact kb_same hst rfl
    · have d15 : us 15 = (.string ((⟨#[115, 121, 109, 98, 111, 108, 32]⟩ : ByteArray) ++ D ++ (⟨#[32]⟩ : ByteArray))) := hd ⟨12, .data⟩ (by simp) rfl
      have d18 : us 18 = (.string nm) := hd ⟨15, .data⟩ (by simp) rfl
      clear hd
      go_simp
      exact kb_same hst rfl
    · have d19 : us 19 = (.string ((⟨#[115, 121, 109, 98, 111, 108, 32]⟩ : ByteArray) ++ D ++ (⟨#[32]⟩ : ByteArray) ++ nm)) := hd ⟨16, .data⟩ (by simp) rfl
      clear hd
      go_simp
      exact kb_same hst rfl
    · clear hd
      go_simp
      exact kb_same hst rfl
    · have d21 : us 21 = (.pointer (some ⟨w.heap.size, 0, none⟩)) := hd ⟨18, .data⟩ (by simp) rfl
      clear hd
      go_simp
      exact kb_same hst rfl
    · have d22 : us 22 = (.pointer (some ⟨w.heap.size, 7, none⟩)) := hd ⟨19, .data⟩ (by simp) rfl
      clear hd
      obtain ⟨hcX, hfX⟩ := heap_cellR (blkK hst K.out)
      have hlX := blkLt (blkK hst K.out)
      go_simp
      exact kb_same hst rfl
    · have d23 : us 23 = (.int .i64 lev) := hd ⟨20, .data⟩ (by simp) rfl
      clear hd
      have h9 := HFI.out wx (HT.out.next hst)
      go_simp
      exact h9.mono fun e w' ⟨he, hb⟩ => ⟨_, he, kb_below hst hb rfl⟩
    · have d20 : us 20 = (.string ((⟨#[115, 121, 109, 98, 111, 108, 32]⟩ : ByteArray) ++ D ++ (⟨#[32]⟩ : ByteArray) ++ nm ++ (⟨#[32]⟩ : ByteArray))) := hd ⟨17, .data⟩ (by simp) rfl
      have d24 : us 24 = (.string E) := hd ⟨21, .data⟩ (by simp) rfl
      clear hd
      go_simp
      exact kb_same hst rfl
    · have d25 : us 25 = (.string ((⟨#[115, 121, 109, 98, 111, 108, 32]⟩ : ByteArray) ++ D ++ (⟨#[32]⟩ : ByteArray) ++ nm ++ (⟨#[32]⟩ : ByteArray) ++ E)) := hd ⟨22, .data⟩ (by simp) rfl
      clear hd
      go_simp
      exact kb_same hst rfl
    · clear hd
      go_simp
      exact kb_same hst rfl
    · have d27 : us 27 = (.pointer (some ⟨w.heap.size, 0, none⟩)) := hd ⟨24, .data⟩ (by simp) rfl
      clear hd
      go_simp
      exact kb_same hst rfl
    · have d28 : us 28 = (.pointer (some ⟨w.heap.size, 8, none⟩)) := hd ⟨25, .data⟩ (by simp) rfl
      clear hd
      obtain ⟨hcX, hfX⟩ := heap_cellR (blkK hst K.out)
      have hlX := blkLt (blkK hst K.out)
      go_simp
      exact kb_same hst rfl
    · have d26 : us 26 = (.string ((⟨#[115, 121, 109, 98, 111, 108, 32]⟩ : ByteArray) ++ D ++ (⟨#[32]⟩ : ByteArray) ++ nm ++ (⟨#[32]⟩ : ByteArray) ++ E ++ (⟨#[32]⟩ : ByteArray))) := hd ⟨23, .data⟩ (by simp) rfl
      have d29 : us 29 = (.string tx) := hd ⟨26, .data⟩ (by simp) rfl
      clear hd
      go_simp
      exact kb_same hst rfl
  · intro us wx hst hd
    have d30 : us 30 = (.string ((⟨#[115, 121, 109, 98, 111, 108, 32]⟩ : ByteArray) ++ D ++ (⟨#[32]⟩ : ByteArray) ++ nm ++ (⟨#[32]⟩ : ByteArray) ++ E ++ (⟨#[32]⟩ : ByteArray) ++ tx)) := hd 27 (by simp)
    clear hd
    simp only [List.drop, List.length]
    rw [d30]
    have HST := Lib.hid hst
    clear hst
    go_wp2_with fail
    go_ret
    refine ⟨ret_str (ba_eq ?_), bt0 HB.out HST.out (Nat.le_refl _)⟩
    rw [lineI, if_neg (show ¬ (3 : Int) = 1 by decide), if_neg (show ¬ (3 : Int) = 2 by decide), wordsX_dec, HDe.out, HEe.out]
    simp [decB, wordsX]
set_option maxRecDepth 100000 in
set_option maxHeartbeats 8000000 in
theorem lineLine_any (row col sc tall wide lev : Int) (nm tx : ByteArray) (w : World) (hr : i64B row) (hc : i64B col) (hs : i64B tall) (hl : i64B wide) (ht : Tab w) :
    Calls Tryz.prog 169 #[itV ⟨2, row, col, sc, tall, wide, nm, lev, tx⟩] w fun e w' => e = .returned (.string ⟨(lineI ⟨2, row, col, sc, tall, wide, nm, lev, tx⟩).toArray⟩) ∧ Below w.heap.size w w' := by
  have HDC := Lib.hid (fun a c w' (h : IntsAt w' a [row, col, tall, wide]) (ht : Tab w') => decimals_any a [row, col, tall, wide] c w' h (by intro x hx; simp only [List.mem_cons, List.not_mem_nil, or_false] at hx; rcases hx with rfl | rfl | rfl | rfl <;> assumption) (by simp) ht)
  obtain ⟨D, hD⟩ : ∃ D, D = (⟨(decX [row, col, tall, wide]).toArray⟩ : ByteArray) := ⟨_, rfl⟩
  rw [← hD] at HDC
  have HDe := Lib.hid hD
  have hDs : D.size ≤ 88 := by
    rw [hD]
    exact decX_len [row, col, tall, wide] (by intro x hx; simp only [List.mem_cons, List.not_mem_nil, or_false] at hx; rcases hx with rfl | rfl | rfl | rfl <;> assumption)
  have hcat : ¬ 9223372036854775807 < 5 + D.size := by omega
  have HT := Lib.hid ht
  clear hD ht
  go_enter Tryz.func169, Tryz.ntmps169
  go_wp2_with fail
  refine (HDC.out _ _ _ (ints_lit2 (heap2 _ _ _).2 rfl) (HT.out.next (ba2 _ _ _))).mono ?_
  rintro e w1 ⟨rfl, hb1⟩
  have HB1 := Lib.hid (bt2 hb1)
  clear hb1
  go_wp2_with fail
  go_ret
  refine ⟨ret_str (ba_eq ?_), HB1.out⟩
  rw [lineI, if_neg (show ¬ (2 : Int) = 1 by decide), if_pos rfl, wordsX_dec, HDe.out]
  simp

end Go.Proofs.YtlcglclojlffgaaGreatDoor
