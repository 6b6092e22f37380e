import Derived.Test.YtlcglclojlffgaaGreatDoorVSpLg
import Derived.Test.YtlcglclojlffgaaGreatDoorM5
import Derived.Test.YtlcglclojlffgaaGreatDoorVSpLe
namespace Go.Proofs.YtlcglclojlffgaaGreatDoor
open Go.RowKit

/-- a text has glyphs -/
def glyT (t : ByteArray) : Bool := (t.data.toList.all fun b => glyB b.toNat) && inB (t.size : Int) 1 40
set_option maxRecDepth 100000 in
set_option maxHeartbeats 2000000 in
theorem spText_any (tx : ByteArray) (w : World) (hs : tx.size ≤ 1048576) :
    Calls Tryz.prog 58 #[.string tx] w fun e w' => e = .returned (.bool (glyT tx)) ∧ Below w.heap.size w w' := by
  obtain ⟨G, hG⟩ : ∃ G, G = glyT tx := ⟨_, rfl⟩
  have HG := Lib.hid (show G = ((tx.data.toList.all fun b => glyB b.toNat) && inB (tx.size : Int) 1 40) by rw [hG]; rfl)
  rw [← hG]
  clear hG
  have hsz : tx.data.toList.length = tx.size := rfl
  have HSZ := Lib.hid hsz
  clear hsz
  go_enter Tryz.func58, Tryz.ntmps58
  go_wp2_with fail
  go_loopw [3] (fun i wr => ∃ j : Nat, j ≤ tx.size ∧ i = .int .i64 (j : Int) ∧ ((tx.data.toList.take j).all fun b => glyB b.toNat) = true ∧ Below w.heap.size w wr) (fun i _ => tx.size - (intOf i).toNat)
  case atStart => exact ⟨0, Nat.zero_le _, rfl, rfl, Below.refl _ _⟩
  case round =>
    obtain ⟨j, hj, rfl, hall, hbr⟩ := hrel
    have HA := Lib.hid hall
    have HBR := Lib.hid hbr
    clear hall hbr
    by_cases hlt : j < tx.size
    · have hji : (j : Int) < (tx.size : Int) := by omega
      have HXK := Lib.hid (show tx.data.toList[j]? = some tx[j] by rw [List.getElem?_eq_getElem (by rw [HSZ.out]; exact hlt)]; rfl)
      obtain ⟨x, hx⟩ : ∃ x, x = tx[j] := ⟨_, rfl⟩
      rw [← hx] at HXK
      go_wp2_with fail
      rw [← hx]
      have hwx : wrap64 ((x.toNat : Nat) : Int) = (x.toNat : Int) := by have := x.toNat_lt; unfold wrap64; omega
      try rw [hwx]
      refine (spGlyph_any _ _).mono ?_
      rintro e w2 ⟨⟨a2, n2, c2, cd, rfl, hcd, hc4⟩, hb2⟩
      have HB2 := Lib.hid (bt0 HBR.out hb2 (Nat.le_refl _))
      clear hb2 hx hwx
      by_cases h0 : cd = 0
      · have HGt := Lib.hid (hcd.1 h0)
        subst h0
        clear hcd
        go_wp2_with fail
        refine ⟨⟨j + 1, by omega, by go_num, ?_, HB2.out⟩, by simp [intOf]; omega⟩
        rw [take_snoc' HXK.out, List.all_append, HA.out]
        simp [HGt.out]
      · have hg : glyB x.toNat = false := by rw [Bool.eq_false_iff]; exact fun e => h0 (hcd.2 e)
        have HR := Lib.hid (show G = false by rw [HG.out, all_gly_no HXK.out hg]; rfl)
        have h0b : (cd != 0) = true := by simpa using h0
        clear hcd hg
        go_wp2_with fail
        go_ret
        exact ⟨ret_bool HR.out.symm, HB2.out⟩
    · have hji : ¬ (j : Int) < (tx.size : Int) := by omega
      have HR := Lib.hid (show G = inB (tx.size : Int) 1 40 by
        have h := HA.out
        rw [List.take_of_length_le (by rw [HSZ.out]; omega)] at h
        rw [HG.out, h]; rfl)
      go_wp2_with fail
      refine (spIn_any _ _ _ _).mono ?_
      rintro e w' ⟨rfl, rfl⟩
      go_wp2_with fail
      go_ret
      exact ⟨ret_bool HR.out.symm, HBR.out⟩

theorem spCols_any (f : Fam) (hf : f.ok = true) (b1 b2 : Nat) (n : Int) (w : World) :
    Calls Tryz.prog 75 #[fmA f b1 b2, .int .i64 n] w fun e w' => e = .returned (.int .i64 (colsF f n)) ∧ Below w.heap.size w w' := by
  obtain ⟨nm, kd, p, k, g, szs, cl, lvs⟩ := f
  obtain ⟨-, -, -, -, h5⟩ := fam_ok hf
  rcases h5 with ⟨rfl, -, -⟩ | ⟨rfl, -, -, -, h6, -⟩
  · have HC := Lib.hid (show colsF ⟨nm, 1, p, k, g, szs, cl, lvs⟩ n = n by rw [colsF]; exact if_pos rfl)
    go_enter Tryz.func75, Tryz.ntmps75
    go_wp2_with fail
    go_ret
    exact ⟨ret_int HC.out.symm, ba1 _ _⟩
  · have HC := Lib.hid (show colsF ⟨nm, 2, p, k, g, szs, cl, lvs⟩ n = 15 + 11 * (cl + 2) by rw [colsF]; exact if_neg (show ¬ (2 : Int) = 1 by decide))
    go_enter Tryz.func75, Tryz.ntmps75
    go_wp2_with fail
    go_ret
    exact ⟨ret_int HC.out.symm, ba1 _ _⟩
theorem cut_count (c : UInt8) : ∀ l : List UInt8, (cut c l).length = l.count c + 1
  | [] => rfl
  | x :: r => by
    have ih := cut_count c r
    unfold cut
    by_cases h : x = c
    · subst h
      rw [if_pos rfl, List.length_cons, ih, List.count_cons_self]
    · rw [if_neg h, List.count_cons_of_ne (by simpa using h)]
      cases hc : cut c r with
      | nil => exact absurd hc (cut_ne c r)
      | cons p t => rw [hc] at ih; simpa using ih
theorem cut_one {c : UInt8} {l : List UInt8} : 1 < (cut c l).length ↔ l.contains c = true := by
  rw [cut_count, List.contains_iff_mem]
  have := List.count_pos_iff (a := c) (l := l)
  constructor
  · intro h; exact this.1 (by omega)
  · intro h; have := this.2 h; omega
/-- what a symbol's item shows -/
def symI (x : It) : Option (Int × Int) := if (x.text.data.toList.contains 10) = false then (match famN x.name with | some f => (smS f x.level x.text.data.toList).map fun n => (n, colsF f n) | none => none) else none

set_option maxRecDepth 100000 in
set_option maxHeartbeats 8000000 in
theorem spSymbol_any (x : It) (w : World) (hs : x.text.size ≤ 1048576) :
    Calls Tryz.prog 59 #[itV x] w (RetBx w (symI x)) := by
  have HE := Lib.hid (show symI x = if (x.text.data.toList.contains 10) = false then (match famN x.name with | some f => (smS f x.level x.text.data.toList).map fun n => (n, colsF f n) | none => none) else none from rfl)
  obtain ⟨O, hO⟩ : ∃ O, O = symI x := ⟨_, rfl⟩
  rw [← hO] at HE ⊢
  obtain ⟨kd, row, col, sc, tall, wide, nm, lev, tx⟩ := x
  dsimp only at hs HE ⊢
  clear hO
  have HSP := Lib.hid (fun w => l01Split_any tx 10 w hs)
  obtain ⟨S, hS⟩ : ∃ S, S = tx.data.toList := ⟨_, rfl⟩
  have HS := Lib.hid hS
  rw [← hS] at HE HSP
  clear hS
  have HK := Lib.hid (push_at w (.cells #[.int .i64 kd, .int .i64 row, .int .i64 col, .int .i64 sc, .int .i64 tall, .int .i64 wide, .string nm, .int .i64 lev, .string tx] 49 (0, 0)))
  have HB := Lib.hid (ba1 w (.cells #[.int .i64 kd, .int .i64 row, .int .i64 col, .int .i64 sc, .int .i64 tall, .int .i64 wide, .string nm, .int .i64 lev, .string tx] 49 (0, 0)))
  go_enter Tryz.func59, Tryz.ntmps59
  go_wp2_with fail
  refine (spFamilyNamed_any nm _).mono ?_
  rintro e w1 ⟨hb1, hr⟩
  have K1 := Lib.hid (blkK hb1 HK.out)
  have HB1 := Lib.hid (bt0 HB.out hb1 (Nat.le_refl _))
  clear hb1
  rcases hr with ⟨f, b1, b2, hf, rfl, hi1, hi2⟩ | ⟨hf, rfl⟩
  rotate_left
  · have HR := Lib.hid (show O = none by rw [HE.out, hf]; split <;> rfl)
    go_wp2_with fail
    exact bodyPost_ret (v := .tuple #[.int .i64 0, .int .i64 0, .bool false]) (by simp [results, Tryz.results59, go_sem]) rfl ⟨bt0 HB1.out (ba1 _ _) (Nat.le_refl _), .inr ⟨HR.out, rfl⟩⟩
  have HFK := Lib.hid (famN_ok hf)
  have HE2 := Lib.hid (show O = if (S.contains 10) = false then (smS f lev S).map fun n => (n, colsF f n) else none by rw [HE.out, hf])
  have HI1 := Lib.hid hi1
  have HI2 := Lib.hid hi2
  have HSM := Lib.hid (fun w' (h1 : IntsAt w' (some ⟨b1, 0, none⟩) f.sizes) (h2 : IntsAt w' (some ⟨b2, 0, none⟩) f.levels) => spSmallestSize_any f.name f.kind f.fp f.fk f.fg b1 f.sizes f.sizes.length f.cols b2 f.levels f.levels.length lev tx w' HFK.out h1 h2 (famN_nm hf) hs)
  rw [← HS.out] at HSM
  have HCO := Lib.hid (fun n w => spCols_any f HFK.out b1 b2 n w)
  clear hf hi1 hi2
  obtain ⟨hcA, hfA⟩ := heap_cellR K1.out
  have z1 := blkLt K1.out
  go_wp2_with fail
  have KF := Lib.hid (push_at w1 (.cells #[.string f.name, .int .i64 f.kind, .int .i64 f.fp, .int .i64 f.fk, .int .i64 f.fg, .slice (some ⟨b1, 0, none⟩) f.sizes.length f.sizes.length, .int .i64 f.cols, .slice (some ⟨b2, 0, none⟩) f.levels.length f.levels.length] 123 (0, 0)))
  have HBF := Lib.hid (bt0 HB1.out (ba1 w1 (.cells #[.string f.name, .int .i64 f.kind, .int .i64 f.fp, .int .i64 f.fk, .int .i64 f.fg, .slice (some ⟨b1, 0, none⟩) f.sizes.length f.sizes.length, .int .i64 f.cols, .slice (some ⟨b2, 0, none⟩) f.levels.length f.levels.length] 123 (0, 0))) (Nat.le_refl _))
  refine (HSP.out _).mono ?_
  rintro e w2 ⟨ss, a2, c2, hss, rfl, -, hb2⟩
  have hsl : ss.length = (cut 10 S).length := by rw [← hss]; simp [bytesL]
  have KF2 := Lib.hid (blkK hb2 KF.out)
  have K2 := Lib.hid (blkK hb2 (blkK (ba1 _ _) K1.out))
  have HB2 := Lib.hid (bt0 HBF.out hb2 (Nat.le_refl _))
  have HJ1 := Lib.hid ((HI1.out.below (ba1 _ _)).below hb2)
  have HJ2 := Lib.hid ((HI2.out.below (ba1 _ _)).below hb2)
  clear hb2 hcA hfA hss
  obtain ⟨hcA, hfA⟩ := heap_cellR K2.out
  obtain ⟨hcF, hfF⟩ := heap_cellR KF2.out
  have z2 := blkLt K2.out
  have z3 := blkLt KF2.out
  by_cases h1 : 1 < ss.length
  · have h1i : (1 : Int) < (ss.length : Int) := by omega
    have HR := Lib.hid (show O = none by rw [HE2.out, if_neg]; rw [cut_one.1 (by omega)]; decide)
    clear hsl
    go_wp2_with fail
    exact bodyPost_ret (v := .tuple #[.int .i64 0, .int .i64 0, .bool false]) (by simp [results, Tryz.results59, go_sem]) rfl ⟨HB2.out, .inr ⟨HR.out, rfl⟩⟩
  have h1i : ¬ (1 : Int) < (ss.length : Int) := by omega
  have HO := Lib.hid (show O = (smS f lev S).map fun n => (n, colsF f n) by
    rw [HE2.out, if_pos]
    rw [Bool.eq_false_iff]
    intro e
    have := cut_one.2 e
    omega)
  clear hsl h1
  go_wp2_with fail
  refine (HSM.out _ HJ1.out.at HJ2.out.at).mono ?_
  obtain ⟨SM, hSM⟩ : ∃ SM, SM = smS f lev S := ⟨_, rfl⟩
  rw [← hSM] at HO ⊢
  clear hSM
  rintro e w3 ⟨hb3, hr⟩
  have KF3 := Lib.hid (blkK hb3 KF2.out)
  have HB3 := Lib.hid (bt0 HB2.out hb3 (Nat.le_refl _))
  clear hb3 hcA hfA hcF hfF
  obtain ⟨hcF, hfF⟩ := heap_cellR KF3.out
  have z4 := blkLt KF3.out
  rcases hr with ⟨n, hn, rfl⟩ | ⟨hn, cd, hcd, rfl⟩
  rotate_left
  · have HR := Lib.hid (show O = none by rw [HO.out, hn]; rfl)
    have hcb : (cd != 0) = true := by simpa using hcd
    clear hcd
    go_wp2_with fail
    exact bodyPost_ret (v := .tuple #[.int .i64 0, .int .i64 0, .bool false]) (by simp [results, Tryz.results59, go_sem]) rfl ⟨HB3.out, .inr ⟨HR.out, rfl⟩⟩
  have HR := Lib.hid (show O = some (n, colsF f n) by rw [HO.out, hn]; rfl)
  clear hn
  go_wp2_with fail
  refine (HCO.out n _).mono ?_
  rintro e w4 ⟨rfl, hb4⟩
  have HB4 := Lib.hid (bt0 HB3.out hb4 (Nat.le_refl _))
  clear hb4
  go_wp2_with fail
  exact bodyPost_ret (v := .tuple #[.int .i64 n, .int .i64 (colsF f n), .bool true]) (by simp [results, Tryz.results59, go_sem]) rfl ⟨HB4.out, .inl ⟨_, _, HR.out, rfl⟩⟩

end Go.Proofs.YtlcglclojlffgaaGreatDoor
