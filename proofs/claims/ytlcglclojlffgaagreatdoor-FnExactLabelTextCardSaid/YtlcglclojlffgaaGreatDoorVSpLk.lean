import Derived.Test.YtlcglclojlffgaaGreatDoorVSpLj
import Derived.Test.YtlcglclojlffgaaGreatDoorVLbU
import Derived.Test.YtlcglclojlffgaaGreatDoorVDecS
import Derived.Test.YtlcglclojlffgaaGreatDoorVLinI
namespace Go.Proofs.YtlcglclojlffgaaGreatDoor
open Go.RowKit

theorem wordsX_bd (xs : List Int) (h : ∀ x ∈ xs, 0 ≤ x ∧ x ≤ 1000000) : (wordsX xs).length ≤ 22 * xs.length :=
  wordsX_len xs fun x hx => by
    have h1 := h x hx
    have h2 := Lib.itoa_length_le x (by omega) (by omega)
    omega
set_option maxRecDepth 100000 in
set_option maxHeartbeats 2000000 in
theorem spWords_any (a : Option Addr) (xs : List Int) (c : Nat) (w : World) (hx : IntsAt w a xs) (h : ∀ x ∈ xs, 0 ≤ x ∧ x ≤ 1000000) (hl : xs.length ≤ 1000) :
    Calls Tryz.prog 22 #[.slice a xs.length c] w fun e w' => e = .returned (.string ⟨(wordsX xs).toArray⟩) ∧ Below w.heap.size w w' := by
  have HX := Lib.hid hx
  have HH := Lib.hid h
  clear hx h
  go_enter Tryz.func22, Tryz.ntmps22
  go_wp2_with fail
  go_loopw [3, 4] (fun v i wr => ∃ (k : Nat) (V : ByteArray), k ≤ xs.length ∧ i = .int .i64 (k : Int) ∧ v = .string V ∧ V.data.toList = wordsX (xs.take k) ∧ Below w.heap.size w wr) (fun _ i _ => xs.length - (intOf i).toNat)
  case atStart => exact ⟨0, _, Nat.zero_le _, rfl, rfl, rfl, Below.refl _ _⟩
  case round =>
    obtain ⟨k, V, hk, rfl, rfl, hV, hbr⟩ := hrel
    have HV := Lib.hid hV
    have HBR := Lib.hid hbr
    have hVs : V.size ≤ 22000 := by
      have h1 := wordsX_bd (xs.take k) (fun x hx => HH.out x (List.mem_of_mem_take hx))
      have h2 : V.size = (wordsX (xs.take k)).length := by rw [← hV]; rfl
      rw [List.length_take] at h1
      omega
    clear hV hbr
    by_cases hlt : k < xs.length
    · have hki : (k : Int) < (xs.length : Int) := by omega
      obtain ⟨b1, o1, x, rfl, hxk, hb1, hcx⟩ := (HX.out.below HBR.out).at hlt
      have hxb := HH.out x (List.mem_of_getElem? hxk)
      have HXK := Lib.hid hxk
      clear hxk
      have hk1 : ¬ 9223372036854775807 < V.size + 1 := by omega
      obtain ⟨E, hE⟩ : ∃ E, E = decB x := ⟨_, rfl⟩
      have hEs : E.size ≤ 22 := by
        rw [hE, decB_size]
        have := Lib.itoa_length_le x (by omega) (by omega)
        omega
      have hk2 : ¬ 9223372036854775807 < V.size + 1 + E.size := by omega
      have HNX := Lib.hid (show (V ++ ⟨#[32]⟩ ++ E : ByteArray).data.toList = wordsX (xs.take (k + 1)) by rw [take_snoc' HXK.out, wordsX_snoc, ← HV.out, hE]; simp [decB])
      have HEe := Lib.hid hE
      clear hE
      go_wp2_with fail
      refine (l01Dec_any x.toNat x _ (by omega) hxb.1 (by omega)).mono ?_
      rw [← HEe.out]
      rintro e w2 ⟨rfl, hb2⟩
      have HB2 := Lib.hid (bt0 HBR.out hb2 (Nat.le_refl _))
      clear hb2
      go_wp2_with fail
      exact ⟨⟨k + 1, _, by omega, by go_num, rfl, HNX.out, HB2.out⟩, by simp [intOf]; omega⟩
    · have hki : ¬ (k : Int) < (xs.length : Int) := by omega
      have hke := Lib.hid (show V.data.toList = wordsX xs by have h := HV.out; rwa [List.take_of_length_le (by omega)] at h)
      go_wp2_with fail
      go_ret
      exact ⟨ret_str (ba_eq hke.out), HBR.out⟩
set_option maxRecDepth 100000 in
set_option maxHeartbeats 8000000 in
theorem spLine1_any (kd row col sc tall wide lev : Int) (nm tx : ByteArray) (w : World) (hk : kd = 1) (hrow : 0 ≤ row ∧ row ≤ 400) (hcol : 0 ≤ col ∧ col ≤ 400) (hsc : 0 ≤ sc ∧ sc ≤ 8) (_htall : 0 ≤ tall ∧ tall ≤ 400) (_hwide : 0 ≤ wide ∧ wide ≤ 400) (_hlev : 0 ≤ lev ∧ lev ≤ 4) (_hnm : nm.size ≤ 8) (htx : tx.size ≤ 400) :
    Calls Tryz.prog 23 #[itV ⟨kd, row, col, sc, tall, wide, nm, lev, tx⟩] w fun e w' => e = .returned (.string ⟨(lineI ⟨kd, row, col, sc, tall, wide, nm, lev, tx⟩).toArray⟩) ∧ Below w.heap.size w w' := by
  subst hk
  have HDC := Lib.hid (fun a c w' (h : IntsAt w' a [row, col, sc]) => spWords_any a [row, col, sc] c w' h (by intro x hx; simp only [List.mem_cons, List.not_mem_nil, or_false] at hx; rcases hx with rfl | rfl | rfl <;> omega) (by simp))
  obtain ⟨D, hD⟩ : ∃ D, D = (⟨(wordsX [row, col, sc]).toArray⟩ : ByteArray) := ⟨_, rfl⟩
  rw [← hD] at HDC
  have HDe := Lib.hid hD
  have hDs : D.size ≤ 88 := by
    rw [hD]
    exact Nat.le_trans (wordsX_bd [row, col, sc] (by intro x hx; simp only [List.mem_cons, List.not_mem_nil, or_false] at hx; rcases hx with rfl | rfl | rfl <;> omega)) (by simp)
  have hcat0 : ¬ 9223372036854775807 < 4 + D.size := by omega
  have hcat1 : ¬ 9223372036854775807 < 4 + D.size + 1 := by omega
  have hcat2 : ¬ 9223372036854775807 < 4 + D.size + 1 + tx.size := by omega
  have hK := push_at w (.cells #[.int .i64 1, .int .i64 row, .int .i64 col, .int .i64 sc, .int .i64 tall, .int .i64 wide, .string nm, .int .i64 lev, .string tx] 49 (0, 0))
  have hB := ba1 w (.cells #[.int .i64 1, .int .i64 row, .int .i64 col, .int .i64 sc, .int .i64 tall, .int .i64 wide, .string nm, .int .i64 lev, .string tx] 49 (0, 0))
  obtain ⟨W, hW⟩ : ∃ W, W = w.alloc (.cells #[.int .i64 1, .int .i64 row, .int .i64 col, .int .i64 sc, .int .i64 tall, .int .i64 wide, .string nm, .int .i64 lev, .string tx] 49 (0, 0)) := ⟨_, rfl⟩
  have HW := Lib.hid hW
  rw [← hW] at hK hB
  have K := Lib.hid hK
  have HB := Lib.hid hB
  clear hK hB hW hD
  go_enter Tryz.func23, Tryz.ntmps23
  go_wp2_with fail
  rw [← HW.out]
  refine wp_region_rt (Keep := KB) [7, 8, 9, 10, 11, 12, 13, 14, 15, 16, 17, 18, 19] (fun us => _)
    [spE (.pointer (some ⟨w.heap.size, 1, none⟩)),
     spE (.int .i64 row),
     spE (.pointer (some ⟨w.heap.size, 2, none⟩)),
     spE (.int .i64 col),
     spE (.pointer (some ⟨w.heap.size, 3, none⟩)),
     spE (.int .i64 sc),
     spIs [row, col, sc],
     spE (.string D),
     spE (.string ((⟨#[116, 101, 120, 116]⟩ : ByteArray) ++ D)),
     spE (.string ((⟨#[116, 101, 120, 116]⟩ : ByteArray) ++ D ++ (⟨#[32]⟩ : ByteArray))),
     spE (.pointer (some ⟨w.heap.size, 8, none⟩)),
     spE (.string tx),
     spE (.string ((⟨#[116, 101, 120, 116]⟩ : ByteArray) ++ D ++ (⟨#[32]⟩ : ByteArray) ++ tx))]
    (StX W) (by kernel_rfl) (by kernel_rfl) (Nat.le_of_ble_eq_true rfl) (fun us => by simp [over, List.mapIdx_cons]; exact rfl) (stX0 _) kbr ?_ ?_
  · refine ⟨?_, ?_, ?_, ?_, ?_, ?_, ?_, ?_, ?_, ?_, ?_, ?_, ?_, trivial⟩
    all_goals (intro us wx hst hd; rw [if_pos (by kernel_rfl)]; dsimp only)
    · clear hd
      go_simp
      exact kb_same hst rfl
    · have d7 : us 7 = (.pointer (some ⟨w.heap.size, 1, none⟩)) := hd ⟨0, .data⟩ (by simp) rfl
      clear hd
      obtain ⟨hcX, hfX⟩ := heap_cellR (blkK hst K.out)
      have hlX := blkLt (blkK hst K.out)
      go_simp
      exact kb_same hst rfl
    · clear hd
      go_simp
      exact kb_same hst rfl
    · have d9 : us 9 = (.pointer (some ⟨w.heap.size, 2, none⟩)) := hd ⟨2, .data⟩ (by simp) rfl
      clear hd
      obtain ⟨hcX, hfX⟩ := heap_cellR (blkK hst K.out)
      have hlX := blkLt (blkK hst K.out)
      go_simp
      exact kb_same hst rfl
    · clear hd
      go_simp
      exact kb_same hst rfl
    · have d11 : us 11 = (.pointer (some ⟨w.heap.size, 3, none⟩)) := hd ⟨4, .data⟩ (by simp) rfl
      clear hd
      obtain ⟨hcX, hfX⟩ := heap_cellR (blkK hst K.out)
      have hlX := blkLt (blkK hst K.out)
      go_simp
      exact kb_same hst rfl
    · have d8 : us 8 = (.int .i64 row) := hd ⟨1, .data⟩ (by simp) rfl
      have d10 : us 10 = (.int .i64 col) := hd ⟨3, .data⟩ (by simp) rfl
      have d12 : us 12 = (.int .i64 sc) := hd ⟨5, .data⟩ (by simp) rfl
      clear hd
      go_simp
      exact kb_below hst (ba1 _ _) ⟨_, _, rfl, ints_lit2 (push_at _ _) rfl⟩
    · have d13 := hd ⟨6, .data⟩ (by simp) rfl
      clear hd
      obtain ⟨a12, c12, e12, h12⟩ : IsV [row, col, sc] (us 13) wx := d13
      have h9 := HDC.out a12 c12 wx h12
      go_simp
      exact h9.mono fun e w' ⟨he, hb⟩ => ⟨_, he, kb_below hst hb rfl⟩
    · have d14 : us 14 = (.string D) := hd ⟨7, .data⟩ (by simp) rfl
      clear hd
      go_simp
      exact kb_same hst rfl
    · have d15 : us 15 = (.string ((⟨#[116, 101, 120, 116]⟩ : ByteArray) ++ D)) := hd ⟨8, .data⟩ (by simp) rfl
      clear hd
      go_simp
      exact kb_same hst rfl
    · clear hd
      go_simp
      exact kb_same hst rfl
    · have d17 : us 17 = (.pointer (some ⟨w.heap.size, 8, none⟩)) := hd ⟨10, .data⟩ (by simp) rfl
      clear hd
      obtain ⟨hcX, hfX⟩ := heap_cellR (blkK hst K.out)
      have hlX := blkLt (blkK hst K.out)
      go_simp
      exact kb_same hst rfl
    · have d16 : us 16 = (.string ((⟨#[116, 101, 120, 116]⟩ : ByteArray) ++ D ++ (⟨#[32]⟩ : ByteArray))) := hd ⟨9, .data⟩ (by simp) rfl
      have d18 : us 18 = (.string tx) := hd ⟨11, .data⟩ (by simp) rfl
      clear hd
      go_simp
      exact kb_same hst rfl
  · intro us wx hst hd
    have d19 : us 19 = (.string ((⟨#[116, 101, 120, 116]⟩ : ByteArray) ++ D ++ (⟨#[32]⟩ : ByteArray) ++ tx)) := hd 12 (by simp)
    clear hd
    simp only [List.drop, List.length]
    rw [d19]
    have HST := Lib.hid hst
    clear hst
    go_wp2_with fail
    go_ret
    refine ⟨ret_str (ba_eq ?_), bt0 HB.out HST.out (Nat.le_refl _)⟩
    rw [lineI, if_pos rfl, HDe.out]
    simp
set_option maxRecDepth 100000 in
set_option maxHeartbeats 8000000 in
theorem spLine3_any (kd row col sc tall wide lev : Int) (nm tx : ByteArray) (w : World) (hk : kd = 3) (hrow : 0 ≤ row ∧ row ≤ 400) (hcol : 0 ≤ col ∧ col ≤ 400) (hsc : 0 ≤ sc ∧ sc ≤ 8) (_htall : 0 ≤ tall ∧ tall ≤ 400) (_hwide : 0 ≤ wide ∧ wide ≤ 400) (hlev : 0 ≤ lev ∧ lev ≤ 4) (hnm : nm.size ≤ 8) (htx : tx.size ≤ 400) :
    Calls Tryz.prog 23 #[itV ⟨kd, row, col, sc, tall, wide, nm, lev, tx⟩] w fun e w' => e = .returned (.string ⟨(lineI ⟨kd, row, col, sc, tall, wide, nm, lev, tx⟩).toArray⟩) ∧ Below w.heap.size w w' := by
  subst hk
  have HDC := Lib.hid (fun a c w' (h : IntsAt w' a [row, col, sc]) => spWords_any a [row, col, sc] c w' h (by intro x hx; simp only [List.mem_cons, List.not_mem_nil, or_false] at hx; rcases hx with rfl | rfl | rfl <;> omega) (by simp))
  obtain ⟨D, hD⟩ : ∃ D, D = (⟨(wordsX [row, col, sc]).toArray⟩ : ByteArray) := ⟨_, rfl⟩
  rw [← hD] at HDC
  have HDe := Lib.hid hD
  have hDs : D.size ≤ 88 := by
    rw [hD]
    exact Nat.le_trans (wordsX_bd [row, col, sc] (by intro x hx; simp only [List.mem_cons, List.not_mem_nil, or_false] at hx; rcases hx with rfl | rfl | rfl <;> omega)) (by simp)
  have HDE := Lib.hid (fun a c w' (h : IntsAt w' a [lev]) => spWords_any a [lev] c w' h (by intro x hx; simp only [List.mem_cons, List.not_mem_nil, or_false] at hx; rcases hx with rfl <;> omega) (by simp))
  obtain ⟨E, hE⟩ : ∃ E, E = (⟨(wordsX [lev]).toArray⟩ : ByteArray) := ⟨_, rfl⟩
  rw [← hE] at HDE
  have HEe := Lib.hid hE
  have hEs : E.size ≤ 22 := by
    rw [hE]
    exact Nat.le_trans (wordsX_bd [lev] (by intro x hx; simp only [List.mem_cons, List.not_mem_nil, or_false] at hx; rcases hx with rfl <;> omega)) (by simp)
  clear hE
  have hcat0 : ¬ 9223372036854775807 < 6 + D.size := by omega
  have hcat1 : ¬ 9223372036854775807 < 6 + D.size + 1 := by omega
  have hcat2 : ¬ 9223372036854775807 < 6 + D.size + 1 + nm.size := by omega
  have hcat3 : ¬ 9223372036854775807 < 6 + D.size + 1 + nm.size + E.size := by omega
  have hcat4 : ¬ 9223372036854775807 < 6 + D.size + 1 + nm.size + E.size + 1 := by omega
  have hcat5 : ¬ 9223372036854775807 < 6 + D.size + 1 + nm.size + E.size + 1 + tx.size := by omega
  have hK := push_at w (.cells #[.int .i64 3, .int .i64 row, .int .i64 col, .int .i64 sc, .int .i64 tall, .int .i64 wide, .string nm, .int .i64 lev, .string tx] 49 (0, 0))
  have hB := ba1 w (.cells #[.int .i64 3, .int .i64 row, .int .i64 col, .int .i64 sc, .int .i64 tall, .int .i64 wide, .string nm, .int .i64 lev, .string tx] 49 (0, 0))
  obtain ⟨W, hW⟩ : ∃ W, W = w.alloc (.cells #[.int .i64 3, .int .i64 row, .int .i64 col, .int .i64 sc, .int .i64 tall, .int .i64 wide, .string nm, .int .i64 lev, .string tx] 49 (0, 0)) := ⟨_, rfl⟩
  have HW := Lib.hid hW
  rw [← hW] at hK hB
  have K := Lib.hid hK
  have HB := Lib.hid hB
  clear hK hB hW hD
  go_enter Tryz.func23, Tryz.ntmps23
  go_wp2_with fail
  rw [← HW.out]
  refine wp_region_rt (Keep := KB) [33, 34, 35, 36, 37, 38, 39, 40, 41, 42, 43, 44, 45, 46, 47, 48, 49, 50, 51, 52, 53, 54] (fun us => _)
    [spE (.pointer (some ⟨w.heap.size, 1, none⟩)),
     spE (.int .i64 row),
     spE (.pointer (some ⟨w.heap.size, 2, none⟩)),
     spE (.int .i64 col),
     spE (.pointer (some ⟨w.heap.size, 3, none⟩)),
     spE (.int .i64 sc),
     spIs [row, col, sc],
     spE (.string D),
     spE (.string ((⟨#[115, 121, 109, 98, 111, 108]⟩ : ByteArray) ++ D)),
     spE (.string ((⟨#[115, 121, 109, 98, 111, 108]⟩ : ByteArray) ++ D ++ (⟨#[32]⟩ : ByteArray))),
     spE (.pointer (some ⟨w.heap.size, 6, none⟩)),
     spE (.string nm),
     spE (.string ((⟨#[115, 121, 109, 98, 111, 108]⟩ : ByteArray) ++ D ++ (⟨#[32]⟩ : ByteArray) ++ nm)),
     spE (.pointer (some ⟨w.heap.size, 7, none⟩)),
     spE (.int .i64 lev),
     spIs [lev],
     spE (.string E),
     spE (.string ((⟨#[115, 121, 109, 98, 111, 108]⟩ : ByteArray) ++ D ++ (⟨#[32]⟩ : ByteArray) ++ nm ++ E)),
     spE (.string ((⟨#[115, 121, 109, 98, 111, 108]⟩ : ByteArray) ++ D ++ (⟨#[32]⟩ : ByteArray) ++ nm ++ E ++ (⟨#[32]⟩ : ByteArray))),
     spE (.pointer (some ⟨w.heap.size, 8, none⟩)),
     spE (.string tx),
     spE (.string ((⟨#[115, 121, 109, 98, 111, 108]⟩ : ByteArray) ++ D ++ (⟨#[32]⟩ : ByteArray) ++ nm ++ E ++ (⟨#[32]⟩ : ByteArray) ++ tx))]
    (StX W) (by kernel_rfl) (by kernel_rfl) (Nat.le_of_ble_eq_true rfl) (fun us => by simp [over, List.mapIdx_cons]; exact rfl) (stX0 _) kbr ?_ ?_
  · refine ⟨?_, ?_, ?_, ?_, ?_, ?_, ?_, ?_, ?_, ?_, ?_, ?_, ?_, ?_, ?_, ?_, ?_, ?_, ?_, ?_, ?_, ?_, trivial⟩
    all_goals (intro us wx hst hd; rw [if_pos (by kernel_rfl)]; dsimp only)
    · clear hd
      go_simp
      exact kb_same hst rfl
    · have d33 : us 33 = (.pointer (some ⟨w.heap.size, 1, none⟩)) := hd ⟨0, .data⟩ (by simp) rfl
      clear hd
      obtain ⟨hcX, hfX⟩ := heap_cellR (blkK hst K.out)
      have hlX := blkLt (blkK hst K.out)
      go_simp
      exact kb_same hst rfl
    · clear hd
      go_simp
      exact kb_same hst rfl
    · have d35 : us 35 = (.pointer (some ⟨w.heap.size, 2, none⟩)) := hd ⟨2, .data⟩ (by simp) rfl
      clear hd
      obtain ⟨hcX, hfX⟩ := heap_cellR (blkK hst K.out)
      have hlX := blkLt (blkK hst K.out)
      go_simp
      exact kb_same hst rfl
    · clear hd
      go_simp
      exact kb_same hst rfl
    · have d37 : us 37 = (.pointer (some ⟨w.heap.size, 3, none⟩)) := hd ⟨4, .data⟩ (by simp) rfl
      clear hd
      obtain ⟨hcX, hfX⟩ := heap_cellR (blkK hst K.out)
      have hlX := blkLt (blkK hst K.out)
      go_simp
      exact kb_same hst rfl
    · have d34 : us 34 = (.int .i64 row) := hd ⟨1, .data⟩ (by simp) rfl
      have d36 : us 36 = (.int .i64 col) := hd ⟨3, .data⟩ (by simp) rfl
      have d38 : us 38 = (.int .i64 sc) := hd ⟨5, .data⟩ (by simp) rfl
      clear hd
      go_simp
      exact kb_below hst (ba1 _ _) ⟨_, _, rfl, ints_lit2 (push_at _ _) rfl⟩
    · have d39 := hd ⟨6, .data⟩ (by simp) rfl
      clear hd
      obtain ⟨a12, c12, e12, h12⟩ : IsV [row, col, sc] (us 39) wx := d39
      have h9 := HDC.out a12 c12 wx h12
      go_simp
      exact h9.mono fun e w' ⟨he, hb⟩ => ⟨_, he, kb_below hst hb rfl⟩
    · have d40 : us 40 = (.string D) := hd ⟨7, .data⟩ (by simp) rfl
      clear hd
      go_simp
      exact kb_same hst rfl
    · have d41 : us 41 = (.string ((⟨#[115, 121, 109, 98, 111, 108]⟩ : ByteArray) ++ D)) := hd ⟨8, .data⟩ (by simp) rfl
      clear hd
      go_simp
      exact kb_same hst rfl
    · clear hd
      go_simp
      exact kb_same hst rfl
    · have d43 : us 43 = (.pointer (some ⟨w.heap.size, 6, none⟩)) := hd ⟨10, .data⟩ (by simp) rfl
      clear hd
      obtain ⟨hcX, hfX⟩ := heap_cellR (blkK hst K.out)
      have hlX := blkLt (blkK hst K.out)
      go_simp
      exact kb_same hst rfl
    · have d42 : us 42 = (.string ((⟨#[115, 121, 109, 98, 111, 108]⟩ : ByteArray) ++ D ++ (⟨#[32]⟩ : ByteArray))) := hd ⟨9, .data⟩ (by simp) rfl
      have d44 : us 44 = (.string nm) := hd ⟨11, .data⟩ (by simp) rfl
      clear hd
      go_simp
      exact kb_same hst rfl
    · clear hd
      go_simp
      exact kb_same hst rfl
    · have d46 : us 46 = (.pointer (some ⟨w.heap.size, 7, none⟩)) := hd ⟨13, .data⟩ (by simp) rfl
      clear hd
      obtain ⟨hcX, hfX⟩ := heap_cellR (blkK hst K.out)
      have hlX := blkLt (blkK hst K.out)
      go_simp
      exact kb_same hst rfl
    · have d47 : us 47 = (.int .i64 lev) := hd ⟨14, .data⟩ (by simp) rfl
      clear hd
      go_simp
      exact kb_below hst (ba1 _ _) ⟨_, _, rfl, ints_lit2 (push_at _ _) rfl⟩
    · have d48 := hd ⟨15, .data⟩ (by simp) rfl
      clear hd
      obtain ⟨a12, c12, e12, h12⟩ : IsV [lev] (us 48) wx := d48
      have h9 := HDE.out a12 c12 wx h12
      go_simp
      exact h9.mono fun e w' ⟨he, hb⟩ => ⟨_, he, kb_below hst hb rfl⟩
    · have d45 : us 45 = (.string ((⟨#[115, 121, 109, 98, 111, 108]⟩ : ByteArray) ++ D ++ (⟨#[32]⟩ : ByteArray) ++ nm)) := hd ⟨12, .data⟩ (by simp) rfl
      have d49 : us 49 = (.string E) := hd ⟨16, .data⟩ (by simp) rfl
      clear hd
      go_simp
      exact kb_same hst rfl
    · have d50 : us 50 = (.string ((⟨#[115, 121, 109, 98, 111, 108]⟩ : ByteArray) ++ D ++ (⟨#[32]⟩ : ByteArray) ++ nm ++ E)) := hd ⟨17, .data⟩ (by simp) rfl
      clear hd
      go_simp
      exact kb_same hst rfl
    · clear hd
      go_simp
      exact kb_same hst rfl
    · have d52 : us 52 = (.pointer (some ⟨w.heap.size, 8, none⟩)) := hd ⟨19, .data⟩ (by simp) rfl
      clear hd
      obtain ⟨hcX, hfX⟩ := heap_cellR (blkK hst K.out)
      have hlX := blkLt (blkK hst K.out)
      go_simp
      exact kb_same hst rfl
    · have d51 : us 51 = (.string ((⟨#[115, 121, 109, 98, 111, 108]⟩ : ByteArray) ++ D ++ (⟨#[32]⟩ : ByteArray) ++ nm ++ E ++ (⟨#[32]⟩ : ByteArray))) := hd ⟨18, .data⟩ (by simp) rfl
      have d53 : us 53 = (.string tx) := hd ⟨20, .data⟩ (by simp) rfl
      clear hd
      go_simp
      exact kb_same hst rfl
  · intro us wx hst hd
    have d54 : us 54 = (.string ((⟨#[115, 121, 109, 98, 111, 108]⟩ : ByteArray) ++ D ++ (⟨#[32]⟩ : ByteArray) ++ nm ++ E ++ (⟨#[32]⟩ : ByteArray) ++ tx)) := hd 21 (by simp)
    clear hd
    simp only [List.drop, List.length]
    rw [d54]
    have HST := Lib.hid hst
    clear hst
    go_wp2_with fail
    go_ret
    refine ⟨ret_str (ba_eq ?_), bt0 HB.out HST.out (Nat.le_refl _)⟩
    rw [lineI, if_neg (show ¬ (3 : Int) = 1 by decide), if_neg (show ¬ (3 : Int) = 2 by decide), HDe.out, HEe.out]
    simp
set_option maxRecDepth 100000 in
set_option maxHeartbeats 8000000 in
theorem spLine2_any (kd row col sc tall wide lev : Int) (nm tx : ByteArray) (w : World) (hk : kd = 2) (hrow : 0 ≤ row ∧ row ≤ 400) (hcol : 0 ≤ col ∧ col ≤ 400) (_hsc : 0 ≤ sc ∧ sc ≤ 8) (htall : 0 ≤ tall ∧ tall ≤ 400) (hwide : 0 ≤ wide ∧ wide ≤ 400) (_hlev : 0 ≤ lev ∧ lev ≤ 4) (_hnm : nm.size ≤ 8) (_htx : tx.size ≤ 400) :
    Calls Tryz.prog 23 #[itV ⟨kd, row, col, sc, tall, wide, nm, lev, tx⟩] w fun e w' => e = .returned (.string ⟨(lineI ⟨kd, row, col, sc, tall, wide, nm, lev, tx⟩).toArray⟩) ∧ Below w.heap.size w w' := by
  subst hk
  have HDC := Lib.hid (fun a c w' (h : IntsAt w' a [row, col, tall, wide]) => spWords_any a [row, col, tall, wide] c w' h (by intro x hx; simp only [List.mem_cons, List.not_mem_nil, or_false] at hx; rcases hx with rfl | rfl | rfl | rfl <;> omega) (by simp))
  obtain ⟨D, hD⟩ : ∃ D, D = (⟨(wordsX [row, col, tall, wide]).toArray⟩ : ByteArray) := ⟨_, rfl⟩
  rw [← hD] at HDC
  have HDe := Lib.hid hD
  have hDs : D.size ≤ 88 := by
    rw [hD]
    exact Nat.le_trans (wordsX_bd [row, col, tall, wide] (by intro x hx; simp only [List.mem_cons, List.not_mem_nil, or_false] at hx; rcases hx with rfl | rfl | rfl | rfl <;> omega)) (by simp)
  have hcat : ¬ 9223372036854775807 < 4 + D.size := by omega
  clear hD
  go_enter Tryz.func23, Tryz.ntmps23
  go_wp2_with fail
  refine (HDC.out _ _ _ (ints_lit2 (heap2 _ _ _).2 rfl)).mono ?_
  rintro e w1 ⟨rfl, hb1⟩
  have HB1 := Lib.hid (bt2 hb1)
  clear hb1
  go_wp2_with fail
  go_ret
  refine ⟨ret_str (ba_eq ?_), HB1.out⟩
  rw [lineI, if_neg (show ¬ (2 : Int) = 1 by decide), if_pos rfl, HDe.out]
  simp
theorem spLine_any (x : It) (h : ItB x) (w : World) :
    Calls Tryz.prog 23 #[itV x] w fun e w' => e = .returned (.string ⟨(lineI x).toArray⟩) ∧ Below w.heap.size w w' := by
  obtain ⟨kd, row, col, sc, tall, wide, nm, lev, tx⟩ := x
  obtain ⟨hkd, hrow, hcol, hsc, htall, hwide, hlev, hnm, htx⟩ := h
  rcases hkd with hk | hk | hk
  · exact spLine1_any kd row col sc tall wide lev nm tx w hk hrow hcol hsc htall hwide hlev hnm htx
  · exact spLine2_any kd row col sc tall wide lev nm tx w hk hrow hcol hsc htall hwide hlev hnm htx
  · exact spLine3_any kd row col sc tall wide lev nm tx w hk hrow hcol hsc htall hwide hlev hnm htx

end Go.Proofs.YtlcglclojlffgaaGreatDoor
