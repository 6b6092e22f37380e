import Derived.Test.YtlcglclojlffgaaGreatDoorK6
import Derived.Test.YtlcglclojlffgaaGreatDoorK4
import Derived.Test.YtlcglclojlffgaaGreatDoorK0
import Derived.Test.YtlcglclojlffgaaGreatDoorK5
import Derived.Test.YtlcglclojlffgaaGreatDoorK7
import Derived.Laws.IdiomStrings
namespace Go.Proofs.YtlcglclojlffgaaGreatDoor
open Go.RowKit

/-- rows and a code are handed back -/
def RetGr (b : Int) (w : World) (e : Ending) (w' : World) : Prop := (∃ a n c cd, e = .returned (.tuple #[.slice a n c, .int .i64 cd]) ∧ (cd = 0 ↔ glyB b = true) ∧ (0 ≤ cd ∧ cd ≤ 4)) ∧ Below w.heap.size w w'
set_option maxRecDepth 100000 in
theorem spGlyphs_any (w : World) : Calls Tryz.prog 87 #[] w fun e w' => (∃ S : ByteArray, S.size = 180 ∧ e = .returned (.string S)) ∧ w = w' := by
  go_enter Tryz.func87, Tryz.ntmps87
  go_wp2_with fail
  go_ret
  exact ⟨⟨_, rfl, rfl⟩, rfl⟩
set_option maxRecDepth 100000 in
set_option maxHeartbeats 4000000 in
theorem spGlyph_any (b : Int) (w : World) :
    Calls Tryz.prog 72 #[.int .i64 b] w (RetGr b w) := by
  have HG := Lib.hid (glyB_eq b)
  obtain ⟨R, hR⟩ : ∃ R, R = glyB b := ⟨_, rfl⟩
  unfold RetGr
  rw [← hR] at HG ⊢
  clear hR
  by_cases h32 : b = 32
  · subst h32
    obtain rfl : R = true := by rw [HG.out]; rfl
    go_enter Tryz.func72, Tryz.ntmps72
    go_wp2_with fail
    go_ret2
    exact ⟨⟨_, _, _, _, rfl, by simp, by omega, by omega⟩, ba1 _ _⟩
  · have h32b : (b == 32) = false := by rw [beq_eq_false_iff_ne]; exact h32
    rcases Bool.eq_false_or_eq_true (inB b 48 57 || inB b 65 90) with hd | hd
    · obtain rfl : R = true := by rw [HG.out, Bool.or_assoc, hd, Bool.or_true]
      go_enter Tryz.func72, Tryz.ntmps72
      rcases Bool.eq_false_or_eq_true (inB b 48 57) with h1 | h1
      rotate_left
      rcases Bool.eq_false_or_eq_true (inB b 65 90) with h2 | h2
      rotate_left
      · rw [h1, h2] at hd; cases hd
      all_goals
        have hbd : (48 ≤ b ∧ b ≤ 57) ∨ (65 ≤ b ∧ b ≤ 90) := by
          first
            | exact .inl (inB_iff.1 h1)
            | exact .inr (inB_iff.1 h2)
        clear hd
        go_wp2_with (go_at_call 44; refine (spIn_any _ _ _ _).mono ?_; (first | rw [h1] | rw [h2]); rintro e w' ⟨rfl, rfl⟩)
        first
          | (obtain ⟨A, hA, hA1⟩ : ∃ A : Nat, b - 48 = (A : Int) ∧ A ≤ 35 := ⟨(b - 48).toNat, by have := inB_iff.1 h1; omega, by have := inB_iff.1 h1; omega⟩
             rw [hA])
          | (obtain ⟨A, hA, hA1⟩ : ∃ A : Nat, b - 65 + 10 = (A : Int) ∧ A ≤ 35 := ⟨(b - 65 + 10).toNat, by have := inB_iff.1 h2; omega, by have := inB_iff.1 h2; omega⟩
             rw [hA])
        go_loopw [5, 6] (fun v i wr => ∃ (j : Nat) (a' : Option Addr) (c' : Nat) (l : List Int), j ≤ 5 ∧ i = .int .i64 (j : Int) ∧ v = .slice a' l.length c' ∧ l.length ≤ 100 * j ∧ OwnI wr w.heap.size v l ∧ Below w.heap.size w wr) (fun _ i _ => 5 - (intOf i).toNat)
        case atStart => exact ⟨0, _, _, [], by omega, rfl, rfl, by simp, World.ownsRow_lit (base := w.heap.size) (size := 1) w #[] 0 (Nat.le_refl _) (by unfold maxLen; omega) rfl, ba1 _ _⟩
        case round =>
          obtain ⟨j, a', c', l, hj, rfl, rfl, hll, ho, hbr⟩ := hrel
          have HO := Lib.hid ho
          have HBR := Lib.hid hbr
          have hwz := hbr.size
          clear ho hbr
          by_cases hlt : j < 5
          · have hji : (j : Int) < 5 := by omega
            obtain ⟨m, hm⟩ : ∃ m : Nat, m = 5 * A + j := ⟨_, rfl⟩
            have hmi : 5 * (A : Int) + (j : Int) = (m : Int) := by omega
            have hm180 : m < 180 := by omega
            clear hm
            go_wp2_with fail
            refine (spGlyphs_any _).mono ?_
            rintro e w' ⟨⟨S, hS, rfl⟩, rfl⟩
            have hms : m < S.size := by omega
            clear hS
            go_wp2_with (at_builtin; refine wpList_append_i1 (o := _) rfl (.tmp 27) (.tmp 36) 67 Tryz.underlying67 rfl w.heap.size (.slice a' l.length c') l _ rfl (HO.out.grown (ba1 _ _)) wr.heap.size rfl (push_at wr _) (by omega) (by simp; omega) ?h9)
            case h9 =>
            intro a4 c4 l4 w4 he4 ho4 hg4 hb4
            have HO4 := Lib.hid ho4
            have HB4 := Lib.hid ((HBR.out.alloc hwz _).trans hb4)
            have hl4 : l4.length ≤ 100 * (j + 1) := by rw [he4]; simp; omega
            clear he4 ho4 hg4 hb4
            go_wp2_with fail
            exact ⟨⟨j + 1, a4, c4, l4, by omega, by go_num, rfl, hl4, HO4.out, HB4.out⟩, by simp [intOf]; omega⟩
          · have hji : ¬ (j : Int) < 5 := by omega
            go_wp2_with fail
            go_ret2
            exact ⟨⟨_, _, _, _, rfl, by simp, by omega, by omega⟩, HBR.out⟩
    · obtain rfl : R = false := by rw [HG.out, Bool.or_assoc, hd, decide_eq_false h32]; rfl
      have h1 : inB b 48 57 = false := by revert hd; cases inB b 48 57 <;> simp
      have h2 : inB b 65 90 = false := by revert hd; cases inB b 65 90 <;> simp
      clear hd
      go_enter Tryz.func72, Tryz.ntmps72
      go_wp2_with fail
      refine (spIn_below h1).mono ?_
      rintro e w1 ⟨rfl, hb1⟩
      have HB1 := Lib.hid hb1
      clear hb1
      go_wp2_with fail
      refine (spIn_below h2).mono ?_
      rintro e w2 ⟨rfl, hb2⟩
      have HB2 := Lib.hid (bt0 HB1.out hb2 (Nat.le_refl _))
      clear hb2
      go_wp2_with fail
      go_ret2
      exact ⟨⟨_, _, _, _, rfl, by simp, by omega, by omega⟩, HB2.out⟩

end Go.Proofs.YtlcglclojlffgaaGreatDoor
namespace Go.Proofs.YtlcglclojlffgaaGreatDoor
open Go.RowKit

/-- a text has glyphs -/
def glyT (t : ByteArray) : Bool := (t.data.toList.all fun b => glyB b.toNat) && inB (t.size : Int) 1 40
set_option maxRecDepth 100000 in
set_option maxHeartbeats 2000000 in
theorem spText_any (tx : ByteArray) (w : World) (hs : tx.size ≤ 1048576) :
    Calls Tryz.prog 58 #[.string tx] w fun e w' => e = .returned (.bool (glyT tx)) ∧ Below w.heap.size w w' := by
  obtain ⟨G, hG⟩ : ∃ G, G = glyT tx := ⟨_, rfl⟩
  have HG := Lib.hid (show G = ((tx.data.toList.all fun b => glyB b.toNat) && inB (tx.size : Int) 1 40) by rw [hG]; rfl)
  rw [← hG]
  clear hG
  have hsz : tx.data.toList.length = tx.size := rfl
  have HSZ := Lib.hid hsz
  clear hsz
  go_enter Tryz.func58, Tryz.ntmps58
  go_wp2_with fail
  go_loopw [3] (fun i wr => ∃ j : Nat, j ≤ tx.size ∧ i = .int .i64 (j : Int) ∧ ((tx.data.toList.take j).all fun b => glyB b.toNat) = true ∧ Below w.heap.size w wr) (fun i _ => tx.size - (intOf i).toNat)
  case atStart => exact ⟨0, Nat.zero_le _, rfl, rfl, Below.refl _ _⟩
  case round =>
    obtain ⟨j, hj, rfl, hall, hbr⟩ := hrel
    have HA := Lib.hid hall
    have HBR := Lib.hid hbr
    clear hall hbr
    by_cases hlt : j < tx.size
    · have hji : (j : Int) < (tx.size : Int) := by omega
      have HXK := Lib.hid (show tx.data.toList[j]? = some tx[j] by rw [List.getElem?_eq_getElem (by rw [HSZ.out]; exact hlt)]; rfl)
      obtain ⟨x, hx⟩ : ∃ x, x = tx[j] := ⟨_, rfl⟩
      rw [← hx] at HXK
      go_wp2_with fail
      rw [← hx]
      have hwx : wrap64 ((x.toNat : Nat) : Int) = (x.toNat : Int) := by have := x.toNat_lt; unfold wrap64; omega
      try rw [hwx]
      refine (spGlyph_any _ _).mono ?_
      rintro e w2 ⟨⟨a2, n2, c2, cd, rfl, hcd, hc4⟩, hb2⟩
      have HB2 := Lib.hid (bt0 HBR.out hb2 (Nat.le_refl _))
      clear hb2 hx hwx
      by_cases h0 : cd = 0
      · have HGt := Lib.hid (hcd.1 h0)
        subst h0
        clear hcd
        go_wp2_with fail
        refine ⟨⟨j + 1, by omega, by go_num, ?_, HB2.out⟩, by simp [intOf]; omega⟩
        rw [take_snoc' HXK.out, List.all_append, HA.out]
        simp [HGt.out]
      · have hg : glyB x.toNat = false := by rw [Bool.eq_false_iff]; exact fun e => h0 (hcd.2 e)
        have HR := Lib.hid (show G = false by rw [HG.out, all_gly_no HXK.out hg]; rfl)
        have h0b : (cd != 0) = true := by simpa using h0
        clear hcd hg
        go_wp2_with fail
        go_ret
        exact ⟨ret_bool HR.out.symm, HB2.out⟩
    · have hji : ¬ (j : Int) < (tx.size : Int) := by omega
      have HR := Lib.hid (show G = inB (tx.size : Int) 1 40 by
        have h := HA.out
        rw [List.take_of_length_le (by rw [HSZ.out]; omega)] at h
        rw [HG.out, h]; rfl)
      go_wp2_with fail
      refine (spIn_any _ _ _ _).mono ?_
      rintro e w' ⟨rfl, rfl⟩
      go_wp2_with fail
      go_ret
      exact ⟨ret_bool HR.out.symm, HBR.out⟩

theorem spCols_any (f : Fam) (hf : f.ok = true) (b1 b2 : Nat) (n : Int) (w : World) :
    Calls Tryz.prog 75 #[fmA f b1 b2, .int .i64 n] w fun e w' => e = .returned (.int .i64 (colsF f n)) ∧ Below w.heap.size w w' := by
  obtain ⟨nm, kd, p, k, g, szs, cl, lvs⟩ := f
  obtain ⟨-, -, -, -, h5⟩ := fam_ok hf
  rcases h5 with ⟨rfl, -, -⟩ | ⟨rfl, -, -, -, h6, -⟩
  · have HC := Lib.hid (show colsF ⟨nm, 1, p, k, g, szs, cl, lvs⟩ n = n by rw [colsF]; exact if_pos rfl)
    go_enter Tryz.func75, Tryz.ntmps75
    go_wp2_with fail
    go_ret
    exact ⟨ret_int HC.out.symm, ba1 _ _⟩
  · have HC := Lib.hid (show colsF ⟨nm, 2, p, k, g, szs, cl, lvs⟩ n = 15 + 11 * (cl + 2) by rw [colsF]; exact if_neg (show ¬ (2 : Int) = 1 by decide))
    go_enter Tryz.func75, Tryz.ntmps75
    go_wp2_with fail
    go_ret
    exact ⟨ret_int HC.out.symm, ba1 _ _⟩
theorem cut_count (c : UInt8) : ∀ l : List UInt8, (cut c l).length = l.count c + 1
  | [] => rfl
  | x :: r => by
    have ih := cut_count c r
    unfold cut
    by_cases h : x = c
    · subst h
      rw [if_pos rfl, List.length_cons, ih, List.count_cons_self]
    · rw [if_neg h, List.count_cons_of_ne (by simpa using h)]
      cases hc : cut c r with
      | nil => exact absurd hc (cut_ne c r)
      | cons p t => rw [hc] at ih; simpa using ih
theorem cut_one {c : UInt8} {l : List UInt8} : 1 < (cut c l).length ↔ l.contains c = true := by
  rw [cut_count, List.contains_iff_mem]
  have := List.count_pos_iff (a := c) (l := l)
  constructor
  · intro h; exact this.1 (by omega)
  · intro h; have := this.2 h; omega
/-- what a symbol's item shows -/
def symI (x : It) : Option (Int × Int) := if (x.text.data.toList.contains 10) = false then (match famN x.name with | some f => (smS f x.level x.text.data.toList).map fun n => (n, colsF f n) | none => none) else none

set_option maxRecDepth 100000 in
set_option maxHeartbeats 8000000 in
theorem spSymbol_any (x : It) (w : World) (hs : x.text.size ≤ 1048576) :
    Calls Tryz.prog 59 #[itV x] w (RetBx w (symI x)) := by
  have HE := Lib.hid (show symI x = if (x.text.data.toList.contains 10) = false then (match famN x.name with | some f => (smS f x.level x.text.data.toList).map fun n => (n, colsF f n) | none => none) else none from rfl)
  obtain ⟨O, hO⟩ : ∃ O, O = symI x := ⟨_, rfl⟩
  rw [← hO] at HE ⊢
  obtain ⟨kd, row, col, sc, tall, wide, nm, lev, tx⟩ := x
  dsimp only at hs HE ⊢
  clear hO
  have HSP := Lib.hid (fun w => l01Split_any tx 10 w hs)
  obtain ⟨S, hS⟩ : ∃ S, S = tx.data.toList := ⟨_, rfl⟩
  have HS := Lib.hid hS
  rw [← hS] at HE HSP
  clear hS
  have HK := Lib.hid (push_at w (.cells #[.int .i64 kd, .int .i64 row, .int .i64 col, .int .i64 sc, .int .i64 tall, .int .i64 wide, .string nm, .int .i64 lev, .string tx] 49 (0, 0)))
  have HB := Lib.hid (ba1 w (.cells #[.int .i64 kd, .int .i64 row, .int .i64 col, .int .i64 sc, .int .i64 tall, .int .i64 wide, .string nm, .int .i64 lev, .string tx] 49 (0, 0)))
  go_enter Tryz.func59, Tryz.ntmps59
  go_wp2_with fail
  refine (spFamilyNamed_any nm _).mono ?_
  rintro e w1 ⟨hb1, hr⟩
  have K1 := Lib.hid (blkK hb1 HK.out)
  have HB1 := Lib.hid (bt0 HB.out hb1 (Nat.le_refl _))
  clear hb1
  rcases hr with ⟨f, b1, b2, hf, rfl, hi1, hi2⟩ | ⟨hf, rfl⟩
  rotate_left
  · have HR := Lib.hid (show O = none by rw [HE.out, hf]; split <;> rfl)
    go_wp2_with fail
    exact bodyPost_ret (v := .tuple #[.int .i64 0, .int .i64 0, .bool false]) (by simp [results, Tryz.results59, go_sem]) rfl ⟨bt0 HB1.out (ba1 _ _) (Nat.le_refl _), .inr ⟨HR.out, rfl⟩⟩
  have HFK := Lib.hid (famN_ok hf)
  have HE2 := Lib.hid (show O = if (S.contains 10) = false then (smS f lev S).map fun n => (n, colsF f n) else none by rw [HE.out, hf])
  have HI1 := Lib.hid hi1
  have HI2 := Lib.hid hi2
  have HSM := Lib.hid (fun w' (h1 : IntsAt w' (some ⟨b1, 0, none⟩) f.sizes) (h2 : IntsAt w' (some ⟨b2, 0, none⟩) f.levels) => spSmallestSize_any f.name f.kind f.fp f.fk f.fg b1 f.sizes f.sizes.length f.cols b2 f.levels f.levels.length lev tx w' HFK.out h1 h2 (famN_nm hf) hs)
  rw [← HS.out] at HSM
  have HCO := Lib.hid (fun n w => spCols_any f HFK.out b1 b2 n w)
  clear hf hi1 hi2
  obtain ⟨hcA, hfA⟩ := heap_cellR K1.out
  have z1 := blkLt K1.out
  go_wp2_with fail
  have KF := Lib.hid (push_at w1 (.cells #[.string f.name, .int .i64 f.kind, .int .i64 f.fp, .int .i64 f.fk, .int .i64 f.fg, .slice (some ⟨b1, 0, none⟩) f.sizes.length f.sizes.length, .int .i64 f.cols, .slice (some ⟨b2, 0, none⟩) f.levels.length f.levels.length] 123 (0, 0)))
  have HBF := Lib.hid (bt0 HB1.out (ba1 w1 (.cells #[.string f.name, .int .i64 f.kind, .int .i64 f.fp, .int .i64 f.fk, .int .i64 f.fg, .slice (some ⟨b1, 0, none⟩) f.sizes.length f.sizes.length, .int .i64 f.cols, .slice (some ⟨b2, 0, none⟩) f.levels.length f.levels.length] 123 (0, 0))) (Nat.le_refl _))
  refine (HSP.out _).mono ?_
  rintro e w2 ⟨ss, a2, c2, hss, rfl, -, hb2⟩
  have hsl : ss.length = (cut 10 S).length := by rw [← hss]; simp [bytesL]
  have KF2 := Lib.hid (blkK hb2 KF.out)
  have K2 := Lib.hid (blkK hb2 (blkK (ba1 _ _) K1.out))
  have HB2 := Lib.hid (bt0 HBF.out hb2 (Nat.le_refl _))
  have HJ1 := Lib.hid ((HI1.out.below (ba1 _ _)).below hb2)
  have HJ2 := Lib.hid ((HI2.out.below (ba1 _ _)).below hb2)
  clear hb2 hcA hfA hss
  obtain ⟨hcA, hfA⟩ := heap_cellR K2.out
  obtain ⟨hcF, hfF⟩ := heap_cellR KF2.out
  have z2 := blkLt K2.out
  have z3 := blkLt KF2.out
  by_cases h1 : 1 < ss.length
  · have h1i : (1 : Int) < (ss.length : Int) := by omega
    have HR := Lib.hid (show O = none by rw [HE2.out, if_neg]; rw [cut_one.1 (by omega)]; decide)
    clear hsl
    go_wp2_with fail
    exact bodyPost_ret (v := .tuple #[.int .i64 0, .int .i64 0, .bool false]) (by simp [results, Tryz.results59, go_sem]) rfl ⟨HB2.out, .inr ⟨HR.out, rfl⟩⟩
  have h1i : ¬ (1 : Int) < (ss.length : Int) := by omega
  have HO := Lib.hid (show O = (smS f lev S).map fun n => (n, colsF f n) by
    rw [HE2.out, if_pos]
    rw [Bool.eq_false_iff]
    intro e
    have := cut_one.2 e
    omega)
  clear hsl h1
  go_wp2_with fail
  refine (HSM.out _ HJ1.out.at HJ2.out.at).mono ?_
  obtain ⟨SM, hSM⟩ : ∃ SM, SM = smS f lev S := ⟨_, rfl⟩
  rw [← hSM] at HO ⊢
  clear hSM
  rintro e w3 ⟨hb3, hr⟩
  have KF3 := Lib.hid (blkK hb3 KF2.out)
  have HB3 := Lib.hid (bt0 HB2.out hb3 (Nat.le_refl _))
  clear hb3 hcA hfA hcF hfF
  obtain ⟨hcF, hfF⟩ := heap_cellR KF3.out
  have z4 := blkLt KF3.out
  rcases hr with ⟨n, hn, rfl⟩ | ⟨hn, cd, hcd, rfl⟩
  rotate_left
  · have HR := Lib.hid (show O = none by rw [HO.out, hn]; rfl)
    have hcb : (cd != 0) = true := by simpa using hcd
    clear hcd
    go_wp2_with fail
    exact bodyPost_ret (v := .tuple #[.int .i64 0, .int .i64 0, .bool false]) (by simp [results, Tryz.results59, go_sem]) rfl ⟨HB3.out, .inr ⟨HR.out, rfl⟩⟩
  have HR := Lib.hid (show O = some (n, colsF f n) by rw [HO.out, hn]; rfl)
  clear hn
  go_wp2_with fail
  refine (HCO.out n _).mono ?_
  rintro e w4 ⟨rfl, hb4⟩
  have HB4 := Lib.hid (bt0 HB3.out hb4 (Nat.le_refl _))
  clear hb4
  go_wp2_with fail
  exact bodyPost_ret (v := .tuple #[.int .i64 n, .int .i64 (colsF f n), .bool true]) (by simp [results, Tryz.results59, go_sem]) rfl ⟨HB4.out, .inl ⟨_, _, HR.out, rfl⟩⟩

end Go.Proofs.YtlcglclojlffgaaGreatDoor
namespace Go.Proofs.YtlcglclojlffgaaGreatDoor
open Go.RowKit

/-- the rows and columns of a box and a code are handed back -/
def RetBc (w : World) (o : Option (Int × Int)) (e : Ending) (w' : World) : Prop :=
  Below w.heap.size w w' ∧ ((∃ r c, o = some (r, c) ∧ e = .returned (.tuple #[.int .i64 r, .int .i64 c, .int .i64 0])) ∨ (o = none ∧ e = .returned (.tuple #[.int .i64 0, .int .i64 0, .int .i64 1])))
theorem boxI_t1 {x : It} (hk : x.kind = 1) : boxI x = if plainI x = true ∧ scaledI x = true ∧ glyT x.text = true then some (5 * x.scale, (4 * x.text.size - 1) * x.scale) else none := by
  rw [boxI_text hk]
  have e : (plainI x = true ∧ scaledI x = true ∧ 1 ≤ x.text.size ∧ x.text.size ≤ 40 ∧ (x.text.data.toList.all fun b => glyB b.toNat) = true) ↔ (plainI x = true ∧ scaledI x = true ∧ glyT x.text = true) := by
    rw [glyT, Bool.and_eq_true, inB_iff]
    constructor
    · rintro ⟨h1, h2, h3, h4, h5⟩; exact ⟨h1, h2, h5, by omega, by omega⟩
    · rintro ⟨h1, h2, h5, h3, h4⟩; exact ⟨h1, h2, by omega, by omega, h5⟩
  by_cases h : plainI x = true ∧ scaledI x = true ∧ glyT x.text = true
  · rw [if_pos h, if_pos (e.2 h)]
  · rw [if_neg h, if_neg (fun hh => h (e.1 hh))]
theorem boxI_t3 {x : It} (hk : x.kind = 3) : boxI x = if scaledI x = true then (symI x).map fun p => (p.1 * x.scale, p.2 * x.scale) else none := by
  rw [boxI_sym hk, symI]
  by_cases h : scaledI x = true
  · rw [if_pos h]
    by_cases h2 : (x.text.data.toList.contains 10) = false
    · rw [if_pos ⟨h, h2⟩, if_pos h2]
      cases famN x.name with
      | none => rfl
      | some f => simp [Option.map_map, Function.comp_def]
    · rw [if_neg (fun hh => h2 hh.2), if_neg h2]; rfl
  · rw [if_neg h, if_neg (fun hh => h hh.1)]
theorem scaledI_in (x : It) : scaledI x = (inB x.scale 1 8 && decide (x.tall = 0) && decide (x.wide = 0)) := by
  rw [Bool.eq_iff_iff]; simp [scaledI, inB]
theorem symI_bd {x : It} {r c : Int} (h : symI x = some (r, c)) : (1 ≤ r ∧ r ≤ 41) ∧ (1 ≤ c ∧ c ≤ 125) := by
  unfold symI at h
  split at h
  · split at h
    · next f hf =>
      rw [Option.map_eq_some_iff] at h
      obtain ⟨n, hn, h⟩ := h
      simp only [Prod.mk.injEq] at h
      obtain ⟨rfl, rfl⟩ := h
      have hm := smS_mem hn
      have ho := famN_ok hf
      have b1 := fam_sz (nm := f.name) (kd := f.kind) (p := f.fp) (k := f.fk) (g := f.fg) (szs := f.sizes) (cl := f.cols) (lvs := f.levels) ho hm
      exact ⟨by omega, colsF_bd ho hm⟩
    · cases h
  · cases h
set_option maxRecDepth 100000 in
set_option maxHeartbeats 8000000 in
theorem spItemBox_any (x : It) (w : World) (hs : x.text.size ≤ 1048576) :
    Calls Tryz.prog 35 #[itV x] w (RetBc w (boxI x)) := by
  have HSY := Lib.hid (fun w => spSymbol_any x w hs)
  have HTX := Lib.hid (fun w => spText_any x.text w hs)
  have HSB := Lib.hid (fun r c h => symI_bd (x := x) (r := r) (c := c) h)
  have H0 := Lib.hid (fun h1 h2 h3 => boxI_bad (x := x) h1 h2 h3)
  have H1 := Lib.hid (fun h => boxI_t1 (x := x) h)
  have H2 := Lib.hid (fun h => boxI_line (x := x) h)
  have H3 := Lib.hid (fun h => boxI_t3 (x := x) h)
  have HPL := Lib.hid (show plainI x = (decide (x.name = ⟨#[]⟩) && decide (x.level = 0)) from rfl)
  have HSC := Lib.hid (scaledI_in x)
  obtain ⟨O, hO⟩ : ∃ O, O = boxI x := ⟨_, rfl⟩
  obtain ⟨PL, hPL⟩ : ∃ PL, PL = plainI x := ⟨_, rfl⟩
  obtain ⟨SC, hSC⟩ : ∃ SC, SC = scaledI x := ⟨_, rfl⟩
  obtain ⟨SY, hSY⟩ : ∃ SY, SY = symI x := ⟨_, rfl⟩
  rw [← hO] at H0 H1 H2 H3 ⊢
  rw [← hPL] at H1 H2 HPL
  rw [← hSC] at H1 H3 HSC
  rw [← hSY] at H3 HSY HSB
  clear hO hPL hSC hSY
  obtain ⟨kd, row, col, sc, tall, wide, nm, lev, tx⟩ := x
  dsimp only at hs HSY HTX HSB H0 H1 H2 H3 HPL HSC ⊢
  obtain ⟨G, hG⟩ : ∃ G, G = glyT tx := ⟨_, rfl⟩
  rw [← hG] at H1 HTX
  have HGT := Lib.hid (show G = true → 1 ≤ (tx.size : Int) ∧ (tx.size : Int) ≤ 40 from fun h => by rw [hG, glyT, Bool.and_eq_true, inB_iff] at h; exact h.2)
  clear hG
  have hK := push_at w (.cells #[.int .i64 kd, .int .i64 row, .int .i64 col, .int .i64 sc, .int .i64 tall, .int .i64 wide, .string nm, .int .i64 lev, .string tx] 49 (0, 0))
  have hB := ba1 w (.cells #[.int .i64 kd, .int .i64 row, .int .i64 col, .int .i64 sc, .int .i64 tall, .int .i64 wide, .string nm, .int .i64 lev, .string tx] 49 (0, 0))
  obtain ⟨W, hW⟩ : ∃ W, W = w.alloc (.cells #[.int .i64 kd, .int .i64 row, .int .i64 col, .int .i64 sc, .int .i64 tall, .int .i64 wide, .string nm, .int .i64 lev, .string tx] 49 (0, 0)) := ⟨_, rfl⟩
  have HW := Lib.hid hW
  rw [← hW] at hK hB
  have K := Lib.hid hK
  have HB := Lib.hid hB
  clear hK hB hW
  obtain ⟨hcA, hfA⟩ := heap_cellR K.out
  have hlA := blkLt K.out
  go_enter Tryz.func35, Tryz.ntmps35
  go_upto_region 1 with fail
  go_cut [5] (fun p wx => p = .bool PL ∧ W = wx)
  case first =>
    rw [← HW.out]
    by_cases h1 : nm = ⟨#[]⟩
    · subst h1
      by_cases h2 : lev = 0
      · subst h2
        have HR := Lib.hid (show PL = true by rw [HPL.out]; rfl)
        go_wp2_with fail
        go_meet
        exact ⟨by rw [HR.out], rfl⟩
      · have h2b : (lev == 0) = false := by rw [beq_eq_false_iff_ne]; exact h2
        have HR := Lib.hid (show PL = false by rw [HPL.out, decide_eq_false h2, Bool.and_false])
        go_wp2_with fail
        go_meet
        exact ⟨by rw [HR.out], rfl⟩
    · have h1b := bytes_ne h1
      have HR := Lib.hid (show PL = false by rw [HPL.out, decide_eq_false h1, Bool.false_and])
      clear h1
      go_wp2_with fail
      go_meet
      exact ⟨by rw [HR.out], rfl⟩
  case rest =>
  obtain ⟨rfl, rfl⟩ := hcut
  go_upto_region 2 with fail
  go_cut [6] (fun p wx => p = .bool SC ∧ W = wx)
  case first =>
    rcases Bool.eq_false_or_eq_true (inB sc 1 8) with h1 | h1
    · by_cases h2 : tall = 0
      · subst h2
        by_cases h3 : wide = 0
        · subst h3
          have HR := Lib.hid (show SC = true by rw [HSC.out, h1]; rfl)
          go_wp2_with (go_at_call 44; refine (spIn_any _ _ _ _).mono ?_; rw [h1]; rintro e w' ⟨rfl, rfl⟩)
          go_meet
          exact ⟨by rw [HR.out], rfl⟩
        · have h3b : (wide == 0) = false := by rw [beq_eq_false_iff_ne]; exact h3
          have HR := Lib.hid (show SC = false by rw [HSC.out, decide_eq_false h3, Bool.and_false])
          go_wp2_with (go_at_call 44; refine (spIn_any _ _ _ _).mono ?_; rw [h1]; rintro e w' ⟨rfl, rfl⟩)
          go_meet
          exact ⟨by rw [HR.out], rfl⟩
      · have h2b : (tall == 0) = false := by rw [beq_eq_false_iff_ne]; exact h2
        have HR := Lib.hid (show SC = false by rw [HSC.out, decide_eq_false h2, Bool.and_false, Bool.false_and])
        go_wp2_with (go_at_call 44; refine (spIn_any _ _ _ _).mono ?_; rw [h1]; rintro e w' ⟨rfl, rfl⟩)
        go_meet
        exact ⟨by rw [HR.out], rfl⟩
    · have HR := Lib.hid (show SC = false by rw [HSC.out, h1]; rfl)
      go_wp2_with (go_at_call 44; refine (spIn_any _ _ _ _).mono ?_; rw [h1]; rintro e w' ⟨rfl, rfl⟩)
      go_meet
      exact ⟨by rw [HR.out], rfl⟩
  case rest =>
  obtain ⟨rfl, rfl⟩ := hcut
  by_cases k1 : kd = 1
  · subst k1
    have H1' := Lib.hid (H1.out (by first | rfl | trivial))
    clear H0 H2 H3
    rcases Bool.eq_false_or_eq_true PL with rfl | rfl
    · rcases Bool.eq_false_or_eq_true SC with rfl | rfl
      · have hsb : 1 ≤ sc ∧ sc ≤ 8 := by
          have h := HSC.out.symm
          rw [Bool.and_eq_true, Bool.and_eq_true, inB_iff] at h
          exact h.1.1
        go_wp2_with fail
        refine (HTX.out _).mono ?_
        rintro e w2 ⟨rfl, hb2⟩
        have K2 := Lib.hid (blkK hb2 K.out)
        have HB2 := Lib.hid (bt0 HB.out hb2 (Nat.le_refl _))
        clear hb2 hcA hfA
        obtain ⟨hcA, hfA⟩ := heap_cellR K2.out
        have hlB := blkLt K2.out
        rcases Bool.eq_false_or_eq_true G with rfl | rfl
        · have HR := Lib.hid (show O = some (5 * sc, (4 * (tx.size : Int) - 1) * sc) by rw [H1'.out]; exact if_pos (by simp))
          have htx : (1 ≤ (tx.size : Int) ∧ (tx.size : Int) ≤ 40) := HGT.out (by first | rfl | trivial)
          have hb := mul_bd (a := 4 * (tx.size : Int) - 1) (b := sc) (m := 159) (n := 8) (by omega) hsb
          obtain ⟨Z, hZ⟩ : ∃ Z, (4 * (tx.size : Int) - 1) * sc = Z := ⟨_, rfl⟩
          rw [hZ] at hb HR
          have hwz : wrap64 ((4 * (tx.size : Int) - 1) * sc) = Z := by rw [hZ]; unfold wrap64; omega
          clear hZ
          go_wp2_with fail
          go_quiet (fail)
          go_wp2_with fail
          exact bodyPost_ret (v := .tuple #[.int .i64 (5 * sc), .int .i64 Z, .int .i64 0]) (by simp [results, Tryz.results35, go_sem, hwz]) rfl ⟨below_dn HB2.out, .inl ⟨_, _, HR.out, rfl⟩⟩
        · have HR := Lib.hid (show O = none by rw [H1'.out]; simp)
          go_wp2_with fail
          exact bodyPost_ret (v := .tuple #[.int .i64 0, .int .i64 0, .int .i64 1]) (by simp [results, Tryz.results35, go_sem]) rfl ⟨HB2.out, .inr ⟨HR.out, rfl⟩⟩
      · have HR := Lib.hid (show O = none by rw [H1'.out]; simp)
        go_wp2_with fail
        exact bodyPost_ret (v := .tuple #[.int .i64 0, .int .i64 0, .int .i64 1]) (by simp [results, Tryz.results35, go_sem]) rfl ⟨HB.out, .inr ⟨HR.out, rfl⟩⟩
    · have HR := Lib.hid (show O = none by rw [H1'.out]; simp)
      go_wp2_with fail
      exact bodyPost_ret (v := .tuple #[.int .i64 0, .int .i64 0, .int .i64 1]) (by simp [results, Tryz.results35, go_sem]) rfl ⟨HB.out, .inr ⟨HR.out, rfl⟩⟩
  by_cases k2 : kd = 2
  · subst k2
    have H2' := Lib.hid (H2.out (by first | rfl | trivial))
    clear H0 H1 H3
    rcases Bool.eq_false_or_eq_true PL with rfl | rfl
    rotate_left
    · have HR := Lib.hid (show O = none by rw [H2'.out]; simp)
      go_wp2_with fail
      exact bodyPost_ret (v := .tuple #[.int .i64 0, .int .i64 0, .int .i64 1]) (by simp [results, Tryz.results35, go_sem]) rfl ⟨HB.out, .inr ⟨HR.out, rfl⟩⟩
    by_cases h3 : sc = 0
    rotate_left
    · have h3b : (sc == 0) = false := by rw [beq_eq_false_iff_ne]; exact h3
      have HR := Lib.hid (show O = none by rw [H2'.out]; exact if_neg (fun h => h3 h.2.1))
      go_wp2_with fail
      exact bodyPost_ret (v := .tuple #[.int .i64 0, .int .i64 0, .int .i64 1]) (by simp [results, Tryz.results35, go_sem]) rfl ⟨HB.out, .inr ⟨HR.out, rfl⟩⟩
    subst h3
    by_cases h4 : tx = ⟨#[]⟩
    rotate_left
    · have h4b := bytes_ne h4
      have HR := Lib.hid (show O = none by rw [H2'.out]; exact if_neg (fun h => h4 h.2.2.1))
      clear h4
      go_wp2_with fail
      exact bodyPost_ret (v := .tuple #[.int .i64 0, .int .i64 0, .int .i64 1]) (by simp [results, Tryz.results35, go_sem]) rfl ⟨HB.out, .inr ⟨HR.out, rfl⟩⟩
    subst h4
    rcases Bool.eq_false_or_eq_true (inB tall 1 400) with h5 | h5
    rotate_left
    · have HR := Lib.hid (show O = none by rw [H2'.out]; exact if_neg (fun h => by rw [inB_iff.2 h.2.2.2.1] at h5; cases h5))
      go_wp2_with (go_at_call 44; refine (spIn_any _ _ _ _).mono ?_; (first | rw [h5] | rw [h6]); rintro e w' ⟨rfl, rfl⟩)
      exact bodyPost_ret (v := .tuple #[.int .i64 0, .int .i64 0, .int .i64 1]) (by simp [results, Tryz.results35, go_sem]) rfl ⟨HB.out, .inr ⟨HR.out, rfl⟩⟩
    rcases Bool.eq_false_or_eq_true (inB wide 1 400) with h6 | h6
    rotate_left
    · have HR := Lib.hid (show O = none by rw [H2'.out]; exact if_neg (fun h => by rw [inB_iff.2 h.2.2.2.2] at h6; cases h6))
      go_wp2_with (go_at_call 44; refine (spIn_any _ _ _ _).mono ?_; (first | rw [h5] | rw [h6]); rintro e w' ⟨rfl, rfl⟩)
      exact bodyPost_ret (v := .tuple #[.int .i64 0, .int .i64 0, .int .i64 1]) (by simp [results, Tryz.results35, go_sem]) rfl ⟨HB.out, .inr ⟨HR.out, rfl⟩⟩
    have HR := Lib.hid (show O = some (tall, wide) by rw [H2'.out]; exact if_pos ⟨by first | rfl | trivial, by first | rfl | trivial, by first | rfl | trivial, inB_iff.1 h5, inB_iff.1 h6⟩)
    go_wp2_with (go_at_call 44; refine (spIn_any _ _ _ _).mono ?_; (first | rw [h5] | rw [h6]); rintro e w' ⟨rfl, rfl⟩)
    go_quiet (fail)
    go_wp2_with fail
    exact bodyPost_ret (v := .tuple #[.int .i64 (tall), .int .i64 (wide), .int .i64 0]) (by simp [results, Tryz.results35, go_sem]) rfl ⟨below_dn HB.out, .inl ⟨_, _, HR.out, rfl⟩⟩
  by_cases k3 : kd = 3
  · subst k3
    have H3' := Lib.hid (H3.out (by first | rfl | trivial))
    clear H0 H1 H2
    go_wp2_with fail
    refine (HSY.out _).mono ?_
    rintro e w2 ⟨hb2, hr⟩
    have K2 := Lib.hid (blkK hb2 K.out)
    have HB2 := Lib.hid (bt0 HB.out hb2 (Nat.le_refl _))
    clear hb2 hcA hfA
    obtain ⟨hcA, hfA⟩ := heap_cellR K2.out
    have hlB := blkLt K2.out
    rcases hr with ⟨r, c, hr, rfl⟩ | ⟨hr, rfl⟩
    rotate_left
    · have HR := Lib.hid (show O = none by rw [H3'.out, hr]; split <;> rfl)
      clear hr
      rcases Bool.eq_false_or_eq_true SC with rfl | rfl
      · go_wp2_with fail
        exact bodyPost_ret (v := .tuple #[.int .i64 0, .int .i64 0, .int .i64 1]) (by simp [results, Tryz.results35, go_sem]) rfl ⟨HB2.out, .inr ⟨HR.out, rfl⟩⟩
      · go_wp2_with fail
        exact bodyPost_ret (v := .tuple #[.int .i64 0, .int .i64 0, .int .i64 1]) (by simp [results, Tryz.results35, go_sem]) rfl ⟨HB2.out, .inr ⟨HR.out, rfl⟩⟩
    rcases Bool.eq_false_or_eq_true SC with rfl | rfl
    rotate_left
    · have HR := Lib.hid (show O = none by rw [H3'.out]; simp)
      clear hr
      go_wp2_with fail
      exact bodyPost_ret (v := .tuple #[.int .i64 0, .int .i64 0, .int .i64 1]) (by simp [results, Tryz.results35, go_sem]) rfl ⟨HB2.out, .inr ⟨HR.out, rfl⟩⟩
    have hsb : 1 ≤ sc ∧ sc ≤ 8 := by
      have h := HSC.out.symm
      rw [Bool.and_eq_true, Bool.and_eq_true, inB_iff] at h
      exact h.1.1
    have hbd := HSB.out r c hr
    have e1 := mul_bd (a := sc) (b := r) (m := 8) (n := 41) hsb hbd.1
    have e2 := mul_bd (a := sc) (b := c) (m := 8) (n := 125) hsb hbd.2
    have hO : O = some (sc * r, sc * c) := by rw [H3'.out, hr, Int.mul_comm sc r, Int.mul_comm sc c]; simp
    obtain ⟨Z1, hZ1⟩ : ∃ Z, sc * r = Z := ⟨_, rfl⟩
    obtain ⟨Z2, hZ2⟩ : ∃ Z, sc * c = Z := ⟨_, rfl⟩
    rw [hZ1, hZ2] at hO
    rw [hZ1] at e1
    rw [hZ2] at e2
    have HR := Lib.hid hO
    have hw1 : wrap64 (sc * r) = Z1 := by rw [hZ1]; unfold wrap64; omega
    have hw2 : wrap64 (sc * c) = Z2 := by rw [hZ2]; unfold wrap64; omega
    clear hO hZ1 hZ2 hr
    go_wp2_with fail
    go_quiet (fail)
    go_wp2_with fail
    exact bodyPost_ret (v := .tuple #[.int .i64 (Z1), .int .i64 (Z2), .int .i64 0]) (by simp [results, Tryz.results35, go_sem, hw1, hw2]) rfl ⟨below_dn HB2.out, .inl ⟨_, _, HR.out, rfl⟩⟩
  · have HR := Lib.hid (H0.out k1 k2 k3)
    have k1b : (kd == 1) = false := by rw [beq_eq_false_iff_ne]; exact k1
    have k2b : (kd == 2) = false := by rw [beq_eq_false_iff_ne]; exact k2
    have k3b : (kd == 3) = false := by rw [beq_eq_false_iff_ne]; exact k3
    clear H1 H2 H3
    go_wp2_with fail
    exact bodyPost_ret (v := .tuple #[.int .i64 0, .int .i64 0, .int .i64 1]) (by simp [results, Tryz.results35, go_sem]) rfl ⟨HB.out, .inr ⟨HR.out, rfl⟩⟩

end Go.Proofs.YtlcglclojlffgaaGreatDoor
namespace Go.Proofs.YtlcglclojlffgaaGreatDoor
open Go.RowKit

theorem onL_in {l : Lb} {x : It} {r c : Int} (h : boxI x = some (r, c)) : onL l x = (decide (r ≤ l.rows) && decide (c ≤ l.cols) && inB x.row 0 (l.rows - r) && inB x.col 0 (l.cols - c)) := by
  unfold onL
  rw [h, Bool.eq_iff_iff]
  simp only [inB, Bool.and_eq_true, decide_eq_true_eq, and_assoc]
set_option maxRecDepth 100000 in
set_option maxHeartbeats 8000000 in
theorem spIsLabel_any (l : Lb) (a : Option Addr) (c : Nat) (w : World) (hx : itE.At w a l.items) (ht : ∀ x ∈ l.items, x.text.size ≤ 1048576) (hn : l.items.length ≤ 1048576) :
    Calls Tryz.prog 21 #[lbV l a c] w fun e w' => e = .returned (.bool l.ok) ∧ Below w.heap.size w w' := by
  have HOK := Lib.hid (lbok_parts l)
  have HX := Lib.hid hx
  have HT := Lib.hid ht
  obtain ⟨ok, hok⟩ : ∃ ok, ok = l.ok := ⟨_, rfl⟩
  rw [← hok] at HOK ⊢
  clear hx ht hok
  have HSZ := Lib.hid (fun w => l20Size_any l.rows l.cols w)
  have HLl := Lib.hid (show ∀ x r c, boxI x = some (r, c) → onL l x = (decide (r ≤ l.rows) && decide (c ≤ l.cols) && inB x.row 0 (l.rows - r) && inB x.col 0 (l.cols - c)) from fun x r c h => onL_in h)
  have HLn := Lib.hid (show ∀ x, boxI x = none → onL l x = false from fun x h => onL_none h)
  obtain ⟨ON, hON⟩ : ∃ ON, ON = onL l := ⟨_, rfl⟩
  rw [← hON] at HOK HLl HLn
  clear hON
  obtain ⟨rows, cols, items⟩ := l
  dsimp only at hn HOK HX HT HSZ HLl HLn ⊢
  have HB0 := Lib.hid (ba1 w (.cells #[.int .i64 rows, .int .i64 cols, .slice a items.length c] 29 (0, 0)))
  have K0 := Lib.hid (push_at w (.cells #[.int .i64 rows, .int .i64 cols, .slice a items.length c] 29 (0, 0)))
  go_enter Tryz.func21, Tryz.ntmps21
  go_wp2_with fail
  refine (HSZ.out _).mono ?_
  rintro e w' ⟨rfl, rfl⟩
  rcases Bool.eq_false_or_eq_true (sizeB rows cols) with h1 | h1
  rotate_left
  · have HR := Lib.hid (show ok = false by rw [HOK.out, h1]; rfl)
    rw [h1]
    clear h1
    go_wp2_with fail
    go_ret
    exact ⟨ret_bool HR.out.symm, HB0.out⟩
  rw [h1]
  by_cases h12 : items.length ≤ 12
  rotate_left
  · have HR := Lib.hid (show ok = false by rw [HOK.out, decide_eq_false h12, Bool.and_false]; rfl)
    have h12i : (12 : Int) < (items.length : Int) := by omega
    clear h1
    go_wp2_with fail
    go_ret
    exact ⟨ret_bool HR.out.symm, HB0.out⟩
  have h12i : ¬ (12 : Int) < (items.length : Int) := by omega
  have HAll := Lib.hid (show ok = items.all ON by rw [HOK.out, h1, decide_eq_true h12]; rfl)
  have hsb : (1 ≤ rows ∧ rows ≤ 400) ∧ (1 ≤ cols ∧ cols ≤ 400) := by
    rw [sizeB, Bool.and_eq_true, Bool.and_eq_true] at h1
    exact ⟨inB_iff.1 h1.1.1, inB_iff.1 h1.1.2⟩
  clear h1
  go_wp2_with fail
  go_loopw [3] (fun i wr => ∃ k : Nat, k ≤ items.length ∧ i = .int .i64 (k : Int) ∧ (items.take k).all ON = true ∧ Below w.heap.size w wr ∧ wr.heap[w.heap.size]? = some (.cells #[.int .i64 rows, .int .i64 cols, .slice a items.length c] 29 (0, 0))) (fun i _ => items.length - (intOf i).toNat)
  case atStart => exact ⟨0, Nat.zero_le _, rfl, rfl, HB0.out, K0.out⟩
  case round =>
    obtain ⟨k, hk, rfl, hall, hbr, hkr⟩ := hrel
    have HAL := Lib.hid hall
    have HBR := Lib.hid hbr
    have KR := Lib.hid hkr
    have HXr := Lib.hid (HX.out.below hbr)
    obtain ⟨hc1, hf1⟩ := heap_cellR hkr
    have hl1 := blkLt hkr
    clear hall hbr hkr
    by_cases hlt : k < items.length
    · have hki : (k : Int) < (items.length : Int) := by omega
      obtain ⟨x, hx⟩ : ∃ x, items[k]? = some x := by rw [List.getElem?_eq_getElem hlt]; exact ⟨_, rfl⟩
      have HXK := Lib.hid hx
      have htx := HT.out x (List.mem_of_getElem? hx)
      obtain ⟨b, o, rfl, hbl, y0, y1, y2, y3, y4, y5, y6, y7, y8⟩ := it_at HXr.out hx
      have HIB := Lib.hid (fun w => spItemBox_any x w htx)
      have HLl2 := Lib.hid (HLl.out x)
      have HLn2 := Lib.hid (HLn.out x)
      have HBD := Lib.hid (fun r c h => boxI_bd (x := x) (r := r) (c := c) h)
      obtain ⟨BI, hBI⟩ : ∃ BI, BI = boxI x := ⟨_, rfl⟩
      rw [← hBI] at HIB HLl2 HLn2 HBD
      clear hx htx hBI
      obtain ⟨kd, row, col, sc, tall, wide, nm, lev, tx⟩ := x
      dsimp only at y0 y1 y2 y3 y4 y5 y6 y7 y8 HIB HLl2 HLn2
      unfold itV at HIB
      go_wp2_with fail
      have KI := Lib.hid (push_at wr (.cells #[.int .i64 kd, .int .i64 row, .int .i64 col, .int .i64 sc, .int .i64 tall, .int .i64 wide, .string nm, .int .i64 lev, .string tx] 49 (0, 0)))
      have KL := Lib.hid (blkK (ba1 wr (.cells #[.int .i64 kd, .int .i64 row, .int .i64 col, .int .i64 sc, .int .i64 tall, .int .i64 wide, .string nm, .int .i64 lev, .string tx] 49 (0, 0))) KR.out)
      have HBI := Lib.hid (bt0 HBR.out (ba1 wr (.cells #[.int .i64 kd, .int .i64 row, .int .i64 col, .int .i64 sc, .int .i64 tall, .int .i64 wide, .string nm, .int .i64 lev, .string tx] 49 (0, 0))) (Nat.le_refl _))
      refine (HIB.out _).mono ?_
      rintro e w2 ⟨hb2, hr⟩
      have KI2 := Lib.hid (blkK hb2 KI.out)
      have KL2 := Lib.hid (blkK hb2 KL.out)
      have HBJ := Lib.hid (bt0 HBI.out hb2 (Nat.le_refl _))
      clear hb2 hc1 hf1 y0 y1 y2 y3 y4 y5 y6 y7 y8
      obtain ⟨hcI, hfI⟩ := heap_cellR KI2.out
      have hlI := blkLt KI2.out
      obtain ⟨hc2, hf2⟩ := heap_cellR KL2.out
      have hl3 := blkLt KL2.out
      rcases hr with ⟨r, cc, hr, rfl⟩ | ⟨hr, rfl⟩
      rotate_left
      · have HR := Lib.hid (show ok = false by rw [HAll.out]; exact all_noL HXK.out (HLn2.out hr))
        clear hr
        go_wp2_with fail
        go_ret
        exact ⟨ret_bool HR.out.symm, HBJ.out⟩
      have HONe := Lib.hid (HLl2.out r cc hr)
      have hbd := HBD.out r cc hr
      clear hr
      by_cases g1 : r ≤ rows
      rotate_left
      · have HR := Lib.hid (show ok = false by rw [HAll.out]; exact all_noL HXK.out (by rw [HONe.out, decide_eq_false g1]; rfl))
        have g1i : rows < r := by omega
        go_wp2_with fail
        go_ret
        exact ⟨ret_bool HR.out.symm, HBJ.out⟩
      have g1i : ¬ rows < r := by omega
      by_cases g2 : cc ≤ cols
      rotate_left
      · have HR := Lib.hid (show ok = false by rw [HAll.out]; exact all_noL HXK.out (by rw [HONe.out, decide_eq_false g2, Bool.and_false]; rfl))
        have g2i : cols < cc := by omega
        go_wp2_with fail
        go_ret
        exact ⟨ret_bool HR.out.symm, HBJ.out⟩
      have g2i : ¬ cols < cc := by omega
      have hw1 : wrap64 (rows - r) = rows - r := by unfold wrap64; omega
      have hw2 : wrap64 (cols - cc) = cols - cc := by unfold wrap64; omega
      rcases Bool.eq_false_or_eq_true (inB row 0 (rows - r)) with g3 | g3
      rotate_left
      · have HR := Lib.hid (show ok = false by rw [HAll.out]; exact all_noL HXK.out (by rw [HONe.out, g3, Bool.and_false]; rfl))
        go_wp2_with (go_at_call 44; refine (spIn_any _ _ _ _).mono ?_; rw [g3]; rintro e w' ⟨rfl, rfl⟩)
        go_ret
        exact ⟨ret_bool HR.out.symm, HBJ.out⟩
      rcases Bool.eq_false_or_eq_true (inB col 0 (cols - cc)) with g4 | g4
      rotate_left
      · have HR := Lib.hid (show ok = false by rw [HAll.out]; exact all_noL HXK.out (by rw [HONe.out, g4, Bool.and_false]))
        go_wp2_with (go_at_call 44; refine (spIn_any _ _ _ _).mono ?_; (first | rw [g3] | rw [g4]); rintro e w' ⟨rfl, rfl⟩)
        go_ret
        exact ⟨ret_bool HR.out.symm, HBJ.out⟩
      have HR := Lib.hid (all_snocL HXK.out HAL.out (show ON ⟨kd, row, col, sc, tall, wide, nm, lev, tx⟩ = true by rw [HONe.out, decide_eq_true g1, decide_eq_true g2, g3, g4]; rfl))
      go_wp2_with (go_at_call 44; refine (spIn_any _ _ _ _).mono ?_; (first | rw [g3] | rw [g4]); rintro e w' ⟨rfl, rfl⟩)
      exact ⟨⟨k + 1, by omega, by go_num, HR.out, HBJ.out, KL2.out⟩, by simp [intOf]; omega⟩
    · have hki : ¬ (k : Int) < (items.length : Int) := by omega
      have HR := Lib.hid (show ok = true by rw [HAll.out]; have h := HAL.out; rwa [List.take_of_length_le (by omega)] at h)
      go_wp2_with fail
      go_ret
      exact ⟨ret_bool HR.out.symm, HBR.out⟩

end Go.Proofs.YtlcglclojlffgaaGreatDoor
namespace Go.Proofs.YtlcglclojlffgaaGreatDoor
open Go.RowKit

theorem wordsX_bd (xs : List Int) (h : ∀ x ∈ xs, 0 ≤ x ∧ x ≤ 1000000) : (wordsX xs).length ≤ 22 * xs.length :=
  wordsX_len xs fun x hx => by
    have h1 := h x hx
    have h2 := Lib.itoa_length_le x (by omega) (by omega)
    omega
set_option maxRecDepth 100000 in
set_option maxHeartbeats 2000000 in
theorem spWords_any (a : Option Addr) (xs : List Int) (c : Nat) (w : World) (hx : IntsAt w a xs) (h : ∀ x ∈ xs, 0 ≤ x ∧ x ≤ 1000000) (hl : xs.length ≤ 1000) :
    Calls Tryz.prog 22 #[.slice a xs.length c] w fun e w' => e = .returned (.string ⟨(wordsX xs).toArray⟩) ∧ Below w.heap.size w w' := by
  have HX := Lib.hid hx
  have HH := Lib.hid h
  clear hx h
  go_enter Tryz.func22, Tryz.ntmps22
  go_wp2_with fail
  go_loopw [3, 4] (fun v i wr => ∃ (k : Nat) (V : ByteArray), k ≤ xs.length ∧ i = .int .i64 (k : Int) ∧ v = .string V ∧ V.data.toList = wordsX (xs.take k) ∧ Below w.heap.size w wr) (fun _ i _ => xs.length - (intOf i).toNat)
  case atStart => exact ⟨0, _, Nat.zero_le _, rfl, rfl, rfl, Below.refl _ _⟩
  case round =>
    obtain ⟨k, V, hk, rfl, rfl, hV, hbr⟩ := hrel
    have HV := Lib.hid hV
    have HBR := Lib.hid hbr
    have hVs : V.size ≤ 22000 := by
      have h1 := wordsX_bd (xs.take k) (fun x hx => HH.out x (List.mem_of_mem_take hx))
      have h2 : V.size = (wordsX (xs.take k)).length := by rw [← hV]; rfl
      rw [List.length_take] at h1
      omega
    clear hV hbr
    by_cases hlt : k < xs.length
    · have hki : (k : Int) < (xs.length : Int) := by omega
      obtain ⟨b1, o1, x, rfl, hxk, hb1, hcx⟩ := (HX.out.below HBR.out).at hlt
      have hxb := HH.out x (List.mem_of_getElem? hxk)
      have HXK := Lib.hid hxk
      clear hxk
      have hk1 : ¬ 9223372036854775807 < V.size + 1 := by omega
      obtain ⟨E, hE⟩ : ∃ E, E = decB x := ⟨_, rfl⟩
      have hEs : E.size ≤ 22 := by
        rw [hE, decB_size]
        have := Lib.itoa_length_le x (by omega) (by omega)
        omega
      have hk2 : ¬ 9223372036854775807 < V.size + 1 + E.size := by omega
      have HNX := Lib.hid (show (V ++ ⟨#[32]⟩ ++ E : ByteArray).data.toList = wordsX (xs.take (k + 1)) by rw [take_snoc' HXK.out, wordsX_snoc, ← HV.out, hE]; simp [decB])
      have HEe := Lib.hid hE
      clear hE
      go_wp2_with fail
      refine (l01Dec_any x.toNat x _ (by omega) hxb.1 (by omega)).mono ?_
      rw [← HEe.out]
      rintro e w2 ⟨rfl, hb2⟩
      have HB2 := Lib.hid (bt0 HBR.out hb2 (Nat.le_refl _))
      clear hb2
      go_wp2_with fail
      exact ⟨⟨k + 1, _, by omega, by go_num, rfl, HNX.out, HB2.out⟩, by simp [intOf]; omega⟩
    · have hki : ¬ (k : Int) < (xs.length : Int) := by omega
      have hke := Lib.hid (show V.data.toList = wordsX xs by have h := HV.out; rwa [List.take_of_length_le (by omega)] at h)
      go_wp2_with fail
      go_ret
      exact ⟨ret_str (ba_eq hke.out), HBR.out⟩
set_option maxRecDepth 100000 in
set_option maxHeartbeats 8000000 in
theorem spLine1_any (kd row col sc tall wide lev : Int) (nm tx : ByteArray) (w : World) (hk : kd = 1) (hrow : 0 ≤ row ∧ row ≤ 400) (hcol : 0 ≤ col ∧ col ≤ 400) (hsc : 0 ≤ sc ∧ sc ≤ 8) (_htall : 0 ≤ tall ∧ tall ≤ 400) (_hwide : 0 ≤ wide ∧ wide ≤ 400) (_hlev : 0 ≤ lev ∧ lev ≤ 4) (_hnm : nm.size ≤ 8) (htx : tx.size ≤ 400) :
    Calls Tryz.prog 23 #[itV ⟨kd, row, col, sc, tall, wide, nm, lev, tx⟩] w fun e w' => e = .returned (.string ⟨(lineI ⟨kd, row, col, sc, tall, wide, nm, lev, tx⟩).toArray⟩) ∧ Below w.heap.size w w' := by
  subst hk
  have HDC := Lib.hid (fun a c w' (h : IntsAt w' a [row, col, sc]) => spWords_any a [row, col, sc] c w' h (by intro x hx; simp only [List.mem_cons, List.not_mem_nil, or_false] at hx; rcases hx with rfl | rfl | rfl <;> omega) (by simp))
  obtain ⟨D, hD⟩ : ∃ D, D = (⟨(wordsX [row, col, sc]).toArray⟩ : ByteArray) := ⟨_, rfl⟩
  rw [← hD] at HDC
  have HDe := Lib.hid hD
  have hDs : D.size ≤ 88 := by
    rw [hD]
    exact Nat.le_trans (wordsX_bd [row, col, sc] (by intro x hx; simp only [List.mem_cons, List.not_mem_nil, or_false] at hx; rcases hx with rfl | rfl | rfl <;> omega)) (by simp)
  have hcat0 : ¬ 9223372036854775807 < 4 + D.size := by omega
  have hcat1 : ¬ 9223372036854775807 < 4 + D.size + 1 := by omega
  have hcat2 : ¬ 9223372036854775807 < 4 + D.size + 1 + tx.size := by omega
  have hK := push_at w (.cells #[.int .i64 1, .int .i64 row, .int .i64 col, .int .i64 sc, .int .i64 tall, .int .i64 wide, .string nm, .int .i64 lev, .string tx] 49 (0, 0))
  have hB := ba1 w (.cells #[.int .i64 1, .int .i64 row, .int .i64 col, .int .i64 sc, .int .i64 tall, .int .i64 wide, .string nm, .int .i64 lev, .string tx] 49 (0, 0))
  obtain ⟨W, hW⟩ : ∃ W, W = w.alloc (.cells #[.int .i64 1, .int .i64 row, .int .i64 col, .int .i64 sc, .int .i64 tall, .int .i64 wide, .string nm, .int .i64 lev, .string tx] 49 (0, 0)) := ⟨_, rfl⟩
  have HW := Lib.hid hW
  rw [← hW] at hK hB
  have K := Lib.hid hK
  have HB := Lib.hid hB
  clear hK hB hW hD
  go_enter Tryz.func23, Tryz.ntmps23
  go_wp2_with fail
  rw [← HW.out]
  refine wp_region_rt (Keep := KB) [7, 8, 9, 10, 11, 12, 13, 14, 15, 16, 17, 18, 19] (fun us => _)
    [spE (.pointer (some ⟨w.heap.size, 1, none⟩)),
     spE (.int .i64 row),
     spE (.pointer (some ⟨w.heap.size, 2, none⟩)),
     spE (.int .i64 col),
     spE (.pointer (some ⟨w.heap.size, 3, none⟩)),
     spE (.int .i64 sc),
     spIs [row, col, sc],
     spE (.string D),
     spE (.string ((⟨#[116, 101, 120, 116]⟩ : ByteArray) ++ D)),
     spE (.string ((⟨#[116, 101, 120, 116]⟩ : ByteArray) ++ D ++ (⟨#[32]⟩ : ByteArray))),
     spE (.pointer (some ⟨w.heap.size, 8, none⟩)),
     spE (.string tx),
     spE (.string ((⟨#[116, 101, 120, 116]⟩ : ByteArray) ++ D ++ (⟨#[32]⟩ : ByteArray) ++ tx))]
    (StX W) (by kernel_rfl) (by kernel_rfl) (Nat.le_of_ble_eq_true rfl) (fun us => by simp [over, List.mapIdx_cons]; exact rfl) (stX0 _) kbr ?_ ?_
  · refine ⟨?_, ?_, ?_, ?_, ?_, ?_, ?_, ?_, ?_, ?_, ?_, ?_, ?_, trivial⟩
    all_goals (intro us wx hst hd; rw [if_pos (by kernel_rfl)]; dsimp only)
    · clear hd
      go_simp
      exact kb_same hst rfl
    · have d7 : us 7 = (.pointer (some ⟨w.heap.size, 1, none⟩)) := hd ⟨0, .data⟩ (by simp) rfl
      clear hd
      obtain ⟨hcX, hfX⟩ := heap_cellR (blkK hst K.out)
      have hlX := blkLt (blkK hst K.out)
      go_simp
      exact kb_same hst rfl
    · clear hd
      go_simp
      exact kb_same hst rfl
    · have d9 : us 9 = (.pointer (some ⟨w.heap.size, 2, none⟩)) := hd ⟨2, .data⟩ (by simp) rfl
      clear hd
      obtain ⟨hcX, hfX⟩ := heap_cellR (blkK hst K.out)
      have hlX := blkLt (blkK hst K.out)
      go_simp
      exact kb_same hst rfl
    · clear hd
      go_simp
      exact kb_same hst rfl
    · have d11 : us 11 = (.pointer (some ⟨w.heap.size, 3, none⟩)) := hd ⟨4, .data⟩ (by simp) rfl
      clear hd
      obtain ⟨hcX, hfX⟩ := heap_cellR (blkK hst K.out)
      have hlX := blkLt (blkK hst K.out)
      go_simp
      exact kb_same hst rfl
    · have d8 : us 8 = (.int .i64 row) := hd ⟨1, .data⟩ (by simp) rfl
      have d10 : us 10 = (.int .i64 col) := hd ⟨3, .data⟩ (by simp) rfl
      have d12 : us 12 = (.int .i64 sc) := hd ⟨5, .data⟩ (by simp) rfl
      clear hd
      go_simp
      exact kb_below hst (ba1 _ _) ⟨_, _, rfl, ints_lit2 (push_at _ _) rfl⟩
    · have d13 := hd ⟨6, .data⟩ (by simp) rfl
      clear hd
      obtain ⟨a12, c12, e12, h12⟩ : IsV [row, col, sc] (us 13) wx := d13
      have h9 := HDC.out a12 c12 wx h12
      go_simp
      exact h9.mono fun e w' ⟨he, hb⟩ => ⟨_, he, kb_below hst hb rfl⟩
    · have d14 : us 14 = (.string D) := hd ⟨7, .data⟩ (by simp) rfl
      clear hd
      go_simp
      exact kb_same hst rfl
    · have d15 : us 15 = (.string ((⟨#[116, 101, 120, 116]⟩ : ByteArray) ++ D)) := hd ⟨8, .data⟩ (by simp) rfl
      clear hd
      go_simp
      exact kb_same hst rfl
    · clear hd
      go_simp
      exact kb_same hst rfl
    · have d17 : us 17 = (.pointer (some ⟨w.heap.size, 8, none⟩)) := hd ⟨10, .data⟩ (by simp) rfl
      clear hd
      obtain ⟨hcX, hfX⟩ := heap_cellR (blkK hst K.out)
      have hlX := blkLt (blkK hst K.out)
      go_simp
      exact kb_same hst rfl
    · have d16 : us 16 = (.string ((⟨#[116, 101, 120, 116]⟩ : ByteArray) ++ D ++ (⟨#[32]⟩ : ByteArray))) := hd ⟨9, .data⟩ (by simp) rfl
      have d18 : us 18 = (.string tx) := hd ⟨11, .data⟩ (by simp) rfl
      clear hd
      go_simp
      exact kb_same hst rfl
  · intro us wx hst hd
    have d19 : us 19 = (.string ((⟨#[116, 101, 120, 116]⟩ : ByteArray) ++ D ++ (⟨#[32]⟩ : ByteArray) ++ tx)) := hd 12 (by simp)
    clear hd
    simp only [List.drop, List.length]
    rw [d19]
    have HST := Lib.hid hst
    clear hst
    go_wp2_with fail
    go_ret
    refine ⟨ret_str (ba_eq ?_), bt0 HB.out HST.out (Nat.le_refl _)⟩
    rw [lineI, if_pos rfl, HDe.out]
    simp
set_option maxRecDepth 100000 in
set_option maxHeartbeats 8000000 in
theorem spLine3_any (kd row col sc tall wide lev : Int) (nm tx : ByteArray) (w : World) (hk : kd = 3) (hrow : 0 ≤ row ∧ row ≤ 400) (hcol : 0 ≤ col ∧ col ≤ 400) (hsc : 0 ≤ sc ∧ sc ≤ 8) (_htall : 0 ≤ tall ∧ tall ≤ 400) (_hwide : 0 ≤ wide ∧ wide ≤ 400) (hlev : 0 ≤ lev ∧ lev ≤ 4) (hnm : nm.size ≤ 8) (htx : tx.size ≤ 400) :
    Calls Tryz.prog 23 #[itV ⟨kd, row, col, sc, tall, wide, nm, lev, tx⟩] w fun e w' => e = .returned (.string ⟨(lineI ⟨kd, row, col, sc, tall, wide, nm, lev, tx⟩).toArray⟩) ∧ Below w.heap.size w w' := by
  subst hk
  have HDC := Lib.hid (fun a c w' (h : IntsAt w' a [row, col, sc]) => spWords_any a [row, col, sc] c w' h (by intro x hx; simp only [List.mem_cons, List.not_mem_nil, or_false] at hx; rcases hx with rfl | rfl | rfl <;> omega) (by simp))
  obtain ⟨D, hD⟩ : ∃ D, D = (⟨(wordsX [row, col, sc]).toArray⟩ : ByteArray) := ⟨_, rfl⟩
  rw [← hD] at HDC
  have HDe := Lib.hid hD
  have hDs : D.size ≤ 88 := by
    rw [hD]
    exact Nat.le_trans (wordsX_bd [row, col, sc] (by intro x hx; simp only [List.mem_cons, List.not_mem_nil, or_false] at hx; rcases hx with rfl | rfl | rfl <;> omega)) (by simp)
  have HDE := Lib.hid (fun a c w' (h : IntsAt w' a [lev]) => spWords_any a [lev] c w' h (by intro x hx; simp only [List.mem_cons, List.not_mem_nil, or_false] at hx; rcases hx with rfl <;> omega) (by simp))
  obtain ⟨E, hE⟩ : ∃ E, E = (⟨(wordsX [lev]).toArray⟩ : ByteArray) := ⟨_, rfl⟩
  rw [← hE] at HDE
  have HEe := Lib.hid hE
  have hEs : E.size ≤ 22 := by
    rw [hE]
    exact Nat.le_trans (wordsX_bd [lev] (by intro x hx; simp only [List.mem_cons, List.not_mem_nil, or_false] at hx; rcases hx with rfl <;> omega)) (by simp)
  clear hE
  have hcat0 : ¬ 9223372036854775807 < 6 + D.size := by omega
  have hcat1 : ¬ 9223372036854775807 < 6 + D.size + 1 := by omega
  have hcat2 : ¬ 9223372036854775807 < 6 + D.size + 1 + nm.size := by omega
  have hcat3 : ¬ 9223372036854775807 < 6 + D.size + 1 + nm.size + E.size := by omega
  have hcat4 : ¬ 9223372036854775807 < 6 + D.size + 1 + nm.size + E.size + 1 := by omega
  have hcat5 : ¬ 9223372036854775807 < 6 + D.size + 1 + nm.size + E.size + 1 + tx.size := by omega
  have hK := push_at w (.cells #[.int .i64 3, .int .i64 row, .int .i64 col, .int .i64 sc, .int .i64 tall, .int .i64 wide, .string nm, .int .i64 lev, .string tx] 49 (0, 0))
  have hB := ba1 w (.cells #[.int .i64 3, .int .i64 row, .int .i64 col, .int .i64 sc, .int .i64 tall, .int .i64 wide, .string nm, .int .i64 lev, .string tx] 49 (0, 0))
  obtain ⟨W, hW⟩ : ∃ W, W = w.alloc (.cells #[.int .i64 3, .int .i64 row, .int .i64 col, .int .i64 sc, .int .i64 tall, .int .i64 wide, .string nm, .int .i64 lev, .string tx] 49 (0, 0)) := ⟨_, rfl⟩
  have HW := Lib.hid hW
  rw [← hW] at hK hB
  have K := Lib.hid hK
  have HB := Lib.hid hB
  clear hK hB hW hD
  go_enter Tryz.func23, Tryz.ntmps23
  go_wp2_with fail
  rw [← HW.out]
  refine wp_region_rt (Keep := KB) [33, 34, 35, 36, 37, 38, 39, 40, 41, 42, 43, 44, 45, 46, 47, 48, 49, 50, 51, 52, 53, 54] (fun us => _)
    [spE (.pointer (some ⟨w.heap.size, 1, none⟩)),
     spE (.int .i64 row),
     spE (.pointer (some ⟨w.heap.size, 2, none⟩)),
     spE (.int .i64 col),
     spE (.pointer (some ⟨w.heap.size, 3, none⟩)),
     spE (.int .i64 sc),
     spIs [row, col, sc],
     spE (.string D),
     spE (.string ((⟨#[115, 121, 109, 98, 111, 108]⟩ : ByteArray) ++ D)),
     spE (.string ((⟨#[115, 121, 109, 98, 111, 108]⟩ : ByteArray) ++ D ++ (⟨#[32]⟩ : ByteArray))),
     spE (.pointer (some ⟨w.heap.size, 6, none⟩)),
     spE (.string nm),
     spE (.string ((⟨#[115, 121, 109, 98, 111, 108]⟩ : ByteArray) ++ D ++ (⟨#[32]⟩ : ByteArray) ++ nm)),
     spE (.pointer (some ⟨w.heap.size, 7, none⟩)),
     spE (.int .i64 lev),
     spIs [lev],
     spE (.string E),
     spE (.string ((⟨#[115, 121, 109, 98, 111, 108]⟩ : ByteArray) ++ D ++ (⟨#[32]⟩ : ByteArray) ++ nm ++ E)),
     spE (.string ((⟨#[115, 121, 109, 98, 111, 108]⟩ : ByteArray) ++ D ++ (⟨#[32]⟩ : ByteArray) ++ nm ++ E ++ (⟨#[32]⟩ : ByteArray))),
     spE (.pointer (some ⟨w.heap.size, 8, none⟩)),
     spE (.string tx),
     spE (.string ((⟨#[115, 121, 109, 98, 111, 108]⟩ : ByteArray) ++ D ++ (⟨#[32]⟩ : ByteArray) ++ nm ++ E ++ (⟨#[32]⟩ : ByteArray) ++ tx))]
    (StX W) (by kernel_rfl) (by kernel_rfl) (Nat.le_of_ble_eq_true rfl) (fun us => by simp [over, List.mapIdx_cons]; exact rfl) (stX0 _) kbr ?_ ?_
  · refine ⟨?_, ?_, ?_, ?_, ?_, ?_, ?_, ?_, ?_, ?_, ?_, ?_, ?_, ?_, ?_, ?_, ?_, ?_, ?_, ?_, ?_, ?_, trivial⟩
    all_goals (intro us wx hst hd; rw [if_pos (by kernel_rfl)]; dsimp only)
    · clear hd
      go_simp
      exact kb_same hst rfl
    · have d33 : us 33 = (.pointer (some ⟨w.heap.size, 1, none⟩)) := hd ⟨0, .data⟩ (by simp) rfl
      clear hd
      obtain ⟨hcX, hfX⟩ := heap_cellR (blkK hst K.out)
      have hlX := blkLt (blkK hst K.out)
      go_simp
      exact kb_same hst rfl
    · clear hd
      go_simp
      exact kb_same hst rfl
    · have d35 : us 35 = (.pointer (some ⟨w.heap.size, 2, none⟩)) := hd ⟨2, .data⟩ (by simp) rfl
      clear hd
      obtain ⟨hcX, hfX⟩ := heap_cellR (blkK hst K.out)
      have hlX := blkLt (blkK hst K.out)
      go_simp
      exact kb_same hst rfl
    · clear hd
      go_simp
      exact kb_same hst rfl
    · have d37 : us 37 = (.pointer (some ⟨w.heap.size, 3, none⟩)) := hd ⟨4, .data⟩ (by simp) rfl
      clear hd
      obtain ⟨hcX, hfX⟩ := heap_cellR (blkK hst K.out)
      have hlX := blkLt (blkK hst K.out)
      go_simp
      exact kb_same hst rfl
    · have d34 : us 34 = (.int .i64 row) := hd ⟨1, .data⟩ (by simp) rfl
      have d36 : us 36 = (.int .i64 col) := hd ⟨3, .data⟩ (by simp) rfl
      have d38 : us 38 = (.int .i64 sc) := hd ⟨5, .data⟩ (by simp) rfl
      clear hd
      go_simp
      exact kb_below hst (ba1 _ _) ⟨_, _, rfl, ints_lit2 (push_at _ _) rfl⟩
    · have d39 := hd ⟨6, .data⟩ (by simp) rfl
      clear hd
      obtain ⟨a12, c12, e12, h12⟩ : IsV [row, col, sc] (us 39) wx := d39
      have h9 := HDC.out a12 c12 wx h12
      go_simp
      exact h9.mono fun e w' ⟨he, hb⟩ => ⟨_, he, kb_below hst hb rfl⟩
    · have d40 : us 40 = (.string D) := hd ⟨7, .data⟩ (by simp) rfl
      clear hd
      go_simp
      exact kb_same hst rfl
    · have d41 : us 41 = (.string ((⟨#[115, 121, 109, 98, 111, 108]⟩ : ByteArray) ++ D)) := hd ⟨8, .data⟩ (by simp) rfl
      clear hd
      go_simp
      exact kb_same hst rfl
    · clear hd
      go_simp
      exact kb_same hst rfl
    · have d43 : us 43 = (.pointer (some ⟨w.heap.size, 6, none⟩)) := hd ⟨10, .data⟩ (by simp) rfl
      clear hd
      obtain ⟨hcX, hfX⟩ := heap_cellR (blkK hst K.out)
      have hlX := blkLt (blkK hst K.out)
      go_simp
      exact kb_same hst rfl
    · have d42 : us 42 = (.string ((⟨#[115, 121, 109, 98, 111, 108]⟩ : ByteArray) ++ D ++ (⟨#[32]⟩ : ByteArray))) := hd ⟨9, .data⟩ (by simp) rfl
      have d44 : us 44 = (.string nm) := hd ⟨11, .data⟩ (by simp) rfl
      clear hd
      go_simp
      exact kb_same hst rfl
    · clear hd
      go_simp
      exact kb_same hst rfl
    · have d46 : us 46 = (.pointer (some ⟨w.heap.size, 7, none⟩)) := hd ⟨13, .data⟩ (by simp) rfl
      clear hd
      obtain ⟨hcX, hfX⟩ := heap_cellR (blkK hst K.out)
      have hlX := blkLt (blkK hst K.out)
      go_simp
      exact kb_same hst rfl
    · have d47 : us 47 = (.int .i64 lev) := hd ⟨14, .data⟩ (by simp) rfl
      clear hd
      go_simp
      exact kb_below hst (ba1 _ _) ⟨_, _, rfl, ints_lit2 (push_at _ _) rfl⟩
    · have d48 := hd ⟨15, .data⟩ (by simp) rfl
      clear hd
      obtain ⟨a12, c12, e12, h12⟩ : IsV [lev] (us 48) wx := d48
      have h9 := HDE.out a12 c12 wx h12
      go_simp
      exact h9.mono fun e w' ⟨he, hb⟩ => ⟨_, he, kb_below hst hb rfl⟩
    · have d45 : us 45 = (.string ((⟨#[115, 121, 109, 98, 111, 108]⟩ : ByteArray) ++ D ++ (⟨#[32]⟩ : ByteArray) ++ nm)) := hd ⟨12, .data⟩ (by simp) rfl
      have d49 : us 49 = (.string E) := hd ⟨16, .data⟩ (by simp) rfl
      clear hd
      go_simp
      exact kb_same hst rfl
    · have d50 : us 50 = (.string ((⟨#[115, 121, 109, 98, 111, 108]⟩ : ByteArray) ++ D ++ (⟨#[32]⟩ : ByteArray) ++ nm ++ E)) := hd ⟨17, .data⟩ (by simp) rfl
      clear hd
      go_simp
      exact kb_same hst rfl
    · clear hd
      go_simp
      exact kb_same hst rfl
    · have d52 : us 52 = (.pointer (some ⟨w.heap.size, 8, none⟩)) := hd ⟨19, .data⟩ (by simp) rfl
      clear hd
      obtain ⟨hcX, hfX⟩ := heap_cellR (blkK hst K.out)
      have hlX := blkLt (blkK hst K.out)
      go_simp
      exact kb_same hst rfl
    · have d51 : us 51 = (.string ((⟨#[115, 121, 109, 98, 111, 108]⟩ : ByteArray) ++ D ++ (⟨#[32]⟩ : ByteArray) ++ nm ++ E ++ (⟨#[32]⟩ : ByteArray))) := hd ⟨18, .data⟩ (by simp) rfl
      have d53 : us 53 = (.string tx) := hd ⟨20, .data⟩ (by simp) rfl
      clear hd
      go_simp
      exact kb_same hst rfl
  · intro us wx hst hd
    have d54 : us 54 = (.string ((⟨#[115, 121, 109, 98, 111, 108]⟩ : ByteArray) ++ D ++ (⟨#[32]⟩ : ByteArray) ++ nm ++ E ++ (⟨#[32]⟩ : ByteArray) ++ tx)) := hd 21 (by simp)
    clear hd
    simp only [List.drop, List.length]
    rw [d54]
    have HST := Lib.hid hst
    clear hst
    go_wp2_with fail
    go_ret
    refine ⟨ret_str (ba_eq ?_), bt0 HB.out HST.out (Nat.le_refl _)⟩
    rw [lineI, if_neg (show ¬ (3 : Int) = 1 by decide), if_neg (show ¬ (3 : Int) = 2 by decide), HDe.out, HEe.out]
    simp
set_option maxRecDepth 100000 in
set_option maxHeartbeats 8000000 in
theorem spLine2_any (kd row col sc tall wide lev : Int) (nm tx : ByteArray) (w : World) (hk : kd = 2) (hrow : 0 ≤ row ∧ row ≤ 400) (hcol : 0 ≤ col ∧ col ≤ 400) (_hsc : 0 ≤ sc ∧ sc ≤ 8) (htall : 0 ≤ tall ∧ tall ≤ 400) (hwide : 0 ≤ wide ∧ wide ≤ 400) (_hlev : 0 ≤ lev ∧ lev ≤ 4) (_hnm : nm.size ≤ 8) (_htx : tx.size ≤ 400) :
    Calls Tryz.prog 23 #[itV ⟨kd, row, col, sc, tall, wide, nm, lev, tx⟩] w fun e w' => e = .returned (.string ⟨(lineI ⟨kd, row, col, sc, tall, wide, nm, lev, tx⟩).toArray⟩) ∧ Below w.heap.size w w' := by
  subst hk
  have HDC := Lib.hid (fun a c w' (h : IntsAt w' a [row, col, tall, wide]) => spWords_any a [row, col, tall, wide] c w' h (by intro x hx; simp only [List.mem_cons, List.not_mem_nil, or_false] at hx; rcases hx with rfl | rfl | rfl | rfl <;> omega) (by simp))
  obtain ⟨D, hD⟩ : ∃ D, D = (⟨(wordsX [row, col, tall, wide]).toArray⟩ : ByteArray) := ⟨_, rfl⟩
  rw [← hD] at HDC
  have HDe := Lib.hid hD
  have hDs : D.size ≤ 88 := by
    rw [hD]
    exact Nat.le_trans (wordsX_bd [row, col, tall, wide] (by intro x hx; simp only [List.mem_cons, List.not_mem_nil, or_false] at hx; rcases hx with rfl | rfl | rfl | rfl <;> omega)) (by simp)
  have hcat : ¬ 9223372036854775807 < 4 + D.size := by omega
  clear hD
  go_enter Tryz.func23, Tryz.ntmps23
  go_wp2_with fail
  refine (HDC.out _ _ _ (ints_lit2 (heap2 _ _ _).2 rfl)).mono ?_
  rintro e w1 ⟨rfl, hb1⟩
  have HB1 := Lib.hid (bt2 hb1)
  clear hb1
  go_wp2_with fail
  go_ret
  refine ⟨ret_str (ba_eq ?_), HB1.out⟩
  rw [lineI, if_neg (show ¬ (2 : Int) = 1 by decide), if_pos rfl, HDe.out]
  simp
theorem spLine_any (x : It) (h : ItB x) (w : World) :
    Calls Tryz.prog 23 #[itV x] w fun e w' => e = .returned (.string ⟨(lineI x).toArray⟩) ∧ Below w.heap.size w w' := by
  obtain ⟨kd, row, col, sc, tall, wide, nm, lev, tx⟩ := x
  obtain ⟨hkd, hrow, hcol, hsc, htall, hwide, hlev, hnm, htx⟩ := h
  rcases hkd with hk | hk | hk
  · exact spLine1_any kd row col sc tall wide lev nm tx w hk hrow hcol hsc htall hwide hlev hnm htx
  · exact spLine2_any kd row col sc tall wide lev nm tx w hk hrow hcol hsc htall hwide hlev hnm htx
  · exact spLine3_any kd row col sc tall wide lev nm tx w hk hrow hcol hsc htall hwide hlev hnm htx

end Go.Proofs.YtlcglclojlffgaaGreatDoor
namespace Go.Proofs.YtlcglclojlffgaaGreatDoor
open Go.RowKit

set_option maxRecDepth 100000 in
set_option maxHeartbeats 8000000 in
theorem spLabelText_any (l : Lb) (a : Option Addr) (c : Nat) (w : World) (hx : itE.At w a l.items) (ht : ∀ x ∈ l.items, x.text.size ≤ 1048576) (hn : l.items.length ≤ 1048576) :
    Calls Tryz.prog 7 #[lbV l a c] w fun e w' => e = .returned (.string ⟨(labT l).toArray⟩) ∧ Below w.heap.size w w' := by
  have HC := Lib.hid (fun w (hx : itE.At w a l.items) => spIsLabel_any l a c w hx ht hn)
  have HX := Lib.hid hx
  have HBD := Lib.hid (fun h => lb_bd (l := l) h)
  have HTL := Lib.hid (fun h => have hb := lb_bd (l := l) h; textP_len hb.1 (by omega) (by omega))
  have HTS := Lib.hid (fun k x h => textP_step (l := l) (k := k) (x := x) h)
  have HTF := Lib.hid (textP_full l)
  have HT0 := Lib.hid (show textP l 0 = [108, 97, 98, 101, 108] ++ wordsX [l.rows, l.cols] ++ [10] by rw [textP, List.take_zero, List.flatMap_nil])
  obtain ⟨ok, hok⟩ : ∃ ok, ok = l.ok := ⟨_, rfl⟩
  have HY := Lib.hid (show labT l = if ok = true then textL l else [] by rw [labT, hok])
  rw [← hok] at HC HBD HTL
  obtain ⟨TP, hTP⟩ : ∃ TP, TP = textP l := ⟨_, rfl⟩
  obtain ⟨TX, hTX⟩ : ∃ TX, TX = textL l := ⟨_, rfl⟩
  obtain ⟨LT, hLT⟩ : ∃ LT, LT = labT l := ⟨_, rfl⟩
  rw [← hTP] at HTL HTS HTF HT0
  rw [← hTX] at HTF HY
  rw [← hLT] at HY ⊢
  clear hx ht hok hn hTP hTX hLT
  obtain ⟨rows, cols, items⟩ := l
  dsimp only at HX HC HBD HTL HTS HTF HT0 ⊢
  have HB0 := Lib.hid (ba1 w (.cells #[.int .i64 rows, .int .i64 cols, .slice a items.length c] 29 (0, 0)))
  have K0 := Lib.hid (push_at w (.cells #[.int .i64 rows, .int .i64 cols, .slice a items.length c] 29 (0, 0)))
  go_enter Tryz.func7, Tryz.ntmps7
  go_wp2_with fail
  refine (HC.out _ (HX.out.below HB0.out)).mono ?_
  rintro e w1 ⟨rfl, hb1⟩
  have HB1 := Lib.hid (bt0 HB0.out hb1 (Nat.le_refl _))
  have K1 := Lib.hid (blkK hb1 K0.out)
  obtain ⟨hc1, hf1⟩ := heap_cellR K1.out
  have hl1 := blkLt K1.out
  clear hb1
  rcases Bool.eq_false_or_eq_true ok with rfl | rfl
  rotate_left
  · go_wp2_with fail
    go_ret
    exact ⟨ret_str (by rw [HY.out]; simp), HB1.out⟩
  obtain ⟨hib, hrc, h12⟩ := HBD.out rfl
  have HIT := Lib.hid hib
  have HTL2 := Lib.hid (HTL.out rfl)
  have HYe := Lib.hid (show LT = TX by rw [HY.out]; simp)
  clear HBD HTL HY HC hib
  have HDC := Lib.hid (fun a c w' (h : IntsAt w' a [rows, cols]) => spWords_any a [rows, cols] c w' h (by intro x hx; simp only [List.mem_cons, List.not_mem_nil, or_false] at hx; rcases hx with rfl | rfl <;> omega) (by simp))
  obtain ⟨D, hD⟩ : ∃ D, D = (⟨(wordsX [rows, cols]).toArray⟩ : ByteArray) := ⟨_, rfl⟩
  rw [← hD] at HDC
  have hDs : D.size ≤ 44 := by
    rw [hD]
    exact wordsX_bd [rows, cols] (by intro x hx; simp only [List.mem_cons, List.not_mem_nil, or_false] at hx; rcases hx with rfl | rfl <;> omega)
  have hcat0 : ¬ 9223372036854775807 < 5 + D.size := by omega
  have hcat1 : ¬ 9223372036854775807 < 5 + D.size + 1 := by omega
  have HS0 := Lib.hid (show (⟨#[108, 97, 98, 101, 108]⟩ ++ D ++ ⟨#[10]⟩ : ByteArray).data.toList = TP 0 by rw [HT0.out, hD]; simp)
  clear hD
  go_wp2_with fail
  refine (HDC.out _ _ _ (ints_lit2 (push_at _ _) rfl)).mono ?_
  rintro e w2 ⟨rfl, hb2⟩
  have HB2 := Lib.hid (bt0 (bt0 HB1.out (ba1 _ _) (Nat.le_refl _)) hb2 (Nat.le_refl _))
  have K2 := Lib.hid (blkK hb2 (blkK (ba1 _ _) K1.out))
  clear hb2 hc1 hf1
  go_wp2_with fail
  go_loopw [3, 4] (fun v i wr => ∃ (k : Nat) (V : ByteArray), k ≤ items.length ∧ i = .int .i64 (k : Int) ∧ v = .string V ∧ V.data.toList = TP k ∧ Below w.heap.size w wr ∧ wr.heap[w.heap.size]? = some (.cells #[.int .i64 rows, .int .i64 cols, .slice a items.length c] 29 (0, 0))) (fun _ i _ => items.length - (intOf i).toNat)
  case atStart => exact ⟨0, _, Nat.zero_le _, rfl, rfl, HS0.out, HB2.out, K2.out⟩
  case round =>
    obtain ⟨k, V, hk, rfl, rfl, hV, hbr, hkr⟩ := hrel
    have HV := Lib.hid hV
    have HBR := Lib.hid hbr
    have KR := Lib.hid hkr
    have hVs : V.size ≤ 60 + 701 * k := by have := HTL2.out k; rw [← hV] at this; exact this
    have HXr := Lib.hid (HX.out.below hbr)
    obtain ⟨hc1, hf1⟩ := heap_cellR hkr
    have hl2 := blkLt hkr
    clear hV hbr hkr
    by_cases hlt : k < items.length
    · have hki : (k : Int) < (items.length : Int) := by omega
      obtain ⟨x, hx⟩ : ∃ x, items[k]? = some x := by rw [List.getElem?_eq_getElem hlt]; exact ⟨_, rfl⟩
      have hib := HIT.out x (List.mem_of_getElem? hx)
      have HLE := Lib.hid (lineI_len hib)
      have HST := Lib.hid (HTS.out k x hx)
      have HLC := Lib.hid (fun w => spLine_any x hib w)
      obtain ⟨b, o, rfl, hbl, y0, y1, y2, y3, y4, y5, y6, y7, y8⟩ := it_at HXr.out hx
      obtain ⟨LN, hLN⟩ : ∃ LN, LN = (⟨(lineI x).toArray⟩ : ByteArray) := ⟨_, rfl⟩
      rw [← hLN] at HLC
      have hLs : LN.size ≤ 700 := by rw [hLN]; exact HLE.out
      have hk1 : ¬ 9223372036854775807 < V.size + LN.size := by omega
      have hk2 : ¬ 9223372036854775807 < V.size + LN.size + 1 := by omega
      have HNX := Lib.hid (show (V ++ LN ++ ⟨#[10]⟩ : ByteArray).data.toList = TP (k + 1) by rw [HST.out, ← HV.out, hLN]; simp)
      clear hx hLN hLs hib
      obtain ⟨kd, row, col, sc, tall, wide, nm, lev, tx⟩ := x
      dsimp only at y0 y1 y2 y3 y4 y5 y6 y7 y8
      unfold itV at HLC
      dsimp only at HLC
      go_wp2_with fail
      refine (HLC.out _).mono ?_
      rintro e w3 ⟨rfl, hb3⟩
      have HB3 := Lib.hid (bt0 HBR.out hb3 (Nat.le_refl _))
      have K3 := Lib.hid (blkK hb3 KR.out)
      clear hb3 hc1 hf1 y0 y1 y2 y3 y4 y5 y6 y7 y8
      go_wp2_with fail
      exact ⟨⟨k + 1, _, by omega, by go_num, rfl, HNX.out, HB3.out, K3.out⟩, by simp [intOf]; omega⟩
    · have hki : ¬ (k : Int) < (items.length : Int) := by omega
      have hke := Lib.hid (show V.data.toList = LT by have h := HV.out; rw [show k = items.length by omega, HTF.out] at h; rw [h, HYe.out])
      go_wp2_with fail
      go_ret
      exact ⟨ret_str (ba_eq hke.out), HBR.out⟩

end Go.Proofs.YtlcglclojlffgaaGreatDoor
namespace Go.Proofs.YtlcglclojlffgaaGreatDoor
open Go.RowKit

/-- what the reference reads of a text of lines -/
def labN (h : List UInt8) (mid : List (List UInt8)) : Option Lb :=
  match allO valS ((cut 32 h).drop 1) with
  | some [x, y] => match allO itemS mid with | some xs => some ⟨x, y, xs⟩ | none => none
  | _ => none
theorem labS_parts {s h l : List UInt8} {mid : List (List UInt8)} (he : h :: (mid ++ [l]) = cut 10 s) (hm : mid.length ≤ 12) : labS s = labN h mid := by
  have e1 : (h :: (mid ++ [l])).length = mid.length + 2 := by simp
  have e3 : ((h :: (mid ++ [l])).drop 1).dropLast = mid := by simp
  rw [labS, ← he, labN, e1, e3, itemsS_all, valsS_all, if_pos ⟨by omega, by omega⟩]
  rfl
theorem labS_len {s : List UInt8} (h : ¬ (2 ≤ (cut 10 s).length ∧ (cut 10 s).length ≤ 14)) : labS s = none := by rw [labS, if_neg h]
theorem labN_head {h : List UInt8} {mid : List (List UInt8)} (hv : ∀ ns, allO valS ((cut 32 h).drop 1) = some ns → ns.length ≠ 2) : labN h mid = none := by
  rw [labN]
  split
  · next he => exact absurd rfl (hv _ he)
  · rfl
theorem labN_items {h : List UInt8} {mid : List (List UInt8)} (hv : allO itemS mid = none) : labN h mid = none := by
  rw [labN]
  split
  · rw [hv]
  · rfl
theorem labN_some {h : List UInt8} {mid : List (List UInt8)} {x y : Int} {xs : List It} (hv : allO valS ((cut 32 h).drop 1) = some [x, y]) (hx : allO itemS mid = some xs) : labN h mid = some ⟨x, y, xs⟩ := by
  rw [labN, hv]
  simp only [hx]
theorem rdLabS_none {s : List UInt8} (h : labS s = none) : rdLabS s = none := by rw [rdLabS, h]; rfl
theorem rdLabS_some {s : List UInt8} {l : Lb} (h : labS s = some l) (h0 : s ≠ []) : rdLabS s = if labT l = s then some l else none := by
  rw [rdLabS, h, Option.filter, labT]
  by_cases h1 : l.ok = true
  · rw [if_pos h1]
    by_cases h2 : textL l = s
    · rw [if_pos h2, if_pos (by simp [h1, h2])]
    · rw [if_neg h2, if_neg (by simp [h1, h2])]
  · rw [if_neg h1, if_neg (by simp [h1]), if_neg (fun e => h0 e.symm)]
theorem strs_drop1 {w : World} {b : Nat} {z : ByteArray} {zs : List ByteArray} (h : StrsAt w (some ⟨b, 0, none⟩) (z :: zs)) : StrsAt w (some ⟨b, 1, none⟩) zs := by
  intro i hi
  obtain ⟨b', o, e, hc⟩ := h (i + 1) (by simp; omega)
  simp only [Option.some.injEq, Addr.mk.injEq, and_true] at e
  obtain ⟨rfl, rfl⟩ := e
  refine ⟨b, 1, rfl, ?_⟩
  rw [show 1 + i = 0 + (i + 1) by omega, hc, List.getElem_cons_succ]

set_option maxRecDepth 100000 in
set_option maxHeartbeats 4000000 in
theorem spReadLabel_any (s : ByteArray) (w : World) (hs : s.size ≤ 1048576) :
    Calls Tryz.prog 17 #[.string s] w (RetLR w (rdLabS s.data.toList)) := by
  obtain ⟨O, hO⟩ : ∃ O, O = rdLabS s.data.toList := ⟨_, rfl⟩
  have HO := Lib.hid hO
  rw [← hO]
  clear hO
  have K0 := Lib.hid (push_at w (.cells #[.int .i64 0, .int .i64 0, .slice none 0 0] 29 (0, 0)))
  have HB0 := Lib.hid (ba1 w (.cells #[.int .i64 0, .int .i64 0, .slice none 0 0] 29 (0, 0)))
  go_enter Tryz.func17, Tryz.ntmps17
  go_wp2_with fail
  refine (l01Split_any s 10 _ hs).mono ?_
  rintro e w1 ⟨ss, a1, c1, hss, rfl, ho1, hb1⟩
  have HSS := Lib.hid hss
  have HB1 := Lib.hid (bt0 HB0.out hb1 (Nat.le_refl _))
  have K1 := Lib.hid (blkK hb1 K0.out)
  have HLZ := Lib.hid (show ∀ z ∈ ss, z.size ≤ 1048576 from fun z hz => Nat.le_trans ((cut_len 10 s.data.toList).2 _ (by rw [← hss]; exact List.mem_map.2 ⟨z, hz, rfl⟩)) hs)
  have hlen := congrArg List.length hss
  rw [bytesL, List.length_map] at hlen
  have HLN := Lib.hid hlen
  have hl1 : ss.length ≤ 1048577 := by
    have h2 := (cut_len 10 s.data.toList).1
    have h3 : s.data.toList.length = s.size := rfl
    omega
  clear hss hb1 hlen
  obtain ⟨hc1, hf1⟩ := heap_cellR K1.out
  have hlt1 := blkLt K1.out
  by_cases h2 : ss.length < 2
  · have h2i : (ss.length : Int) < 2 := by omega
    have HN := Lib.hid (HO.out.trans (rdLabS_none (labS_len (by rw [← HLN.out]; omega))))
    clear ho1
    go_wp2_with fail
    refine bodyPost_ret (v := .tuple #[.agg #[.int .i64 0, .int .i64 0, .slice none 0 0], .bool false]) (by simp [results, Tryz.results17, go_sem, hc1]) rfl ⟨?_, .inl ⟨HN.out, rfl⟩⟩
    iterate 3 (refine Below.setCell ?_ (by dsimp only; omega) _)
    exact HB1.out
  have h2i : ¬ (ss.length : Int) < 2 := by omega
  by_cases h14 : 14 < ss.length
  · have h14i : (14 : Int) < (ss.length : Int) := by omega
    have HN := Lib.hid (HO.out.trans (rdLabS_none (labS_len (by rw [← HLN.out]; omega))))
    clear ho1
    go_wp2_with fail
    refine bodyPost_ret (v := .tuple #[.agg #[.int .i64 0, .int .i64 0, .slice none 0 0], .bool false]) (by simp [results, Tryz.results17, go_sem, hc1]) rfl ⟨?_, .inl ⟨HN.out, rfl⟩⟩
    iterate 3 (refine Below.setCell ?_ (by dsimp only; omega) _)
    exact HB1.out
  obtain ⟨h0, mid, L, rfl⟩ : ∃ h0 mid L, ss = h0 :: (mid ++ [L]) := by
    cases ss with
    | nil => simp at h2
    | cons h0 r =>
      have hr : r ≠ [] := fun e => by subst e; simp at h2
      exact ⟨h0, r.dropLast, r.getLast hr, by rw [List.dropLast_concat_getLast]⟩
  obtain ⟨m, hm⟩ : ∃ m, mid.length = m := ⟨_, rfl⟩
  have hml : (h0 :: (mid ++ [L])).length = m + 2 := by simp [hm]
  have HMM := Lib.hid hm
  have hm12 : m ≤ 12 := by omega
  have HM := Lib.hid (labS_parts (h := h0.data.toList) (mid := bytesL mid) (l := L.data.toList) (by rw [← HSS.out]; simp [bytesL]) (by rw [bytesL, List.length_map, hm]; exact hm12))
  have HS0 := Lib.hid (show s.data.toList ≠ [] from fun e => by
    have h := HLN.out
    rw [e] at h
    have : (cut 10 ([] : List UInt8)).length = 1 := rfl
    omega)
  obtain ⟨B, rfl, -, -, hlB⟩ := ho1.block (by simp)
  have HST := Lib.hid ho1.strs
  have hcp := ho1.capc
  have hch : w1.cell? ⟨B, 0, none⟩ = some (.string h0) := by
    obtain ⟨b0, o0, e0, hc⟩ := HST.out 0 (by omega)
    simp only [Option.some.injEq, Addr.mk.injEq, and_true] at e0
    obtain ⟨rfl, rfl⟩ := e0
    exact hc
  have hcp2 : m + 2 ≤ c1 := by omega
  rw [hml]
  have h2i : ¬ (m : Int) + 2 < 2 := by omega
  have h14i : ¬ (14 : Int) < (m : Int) + 2 := by omega
  have hh0 : h0.size ≤ 1048576 := HLZ.out h0 (by simp)
  clear h2 h14 hm hml hcp ho1 hl1 hc1 hf1
  go_wp2_with fail
  refine (l01Split_any h0 32 _ hh0).mono ?_
  rintro e w2 ⟨qs, a2, c2, hqs, rfl, ho2, hb2⟩
  obtain ⟨q0, qr, rfl⟩ : ∃ q0 qr, qs = q0 :: qr := by
    cases qs with
    | nil => exact absurd hqs.symm (cut_ne 32 _)
    | cons q0 qr => exact ⟨q0, qr, rfl⟩
  have HQ := Lib.hid (show bytesL qr = (cut 32 h0.data.toList).drop 1 by rw [← hqs]; rfl)
  have HQZ := Lib.hid (show ∀ z ∈ qr, z.size ≤ 1048576 from fun z hz => Nat.le_trans ((cut_len 32 h0.data.toList).2 _ (by rw [← hqs]; exact List.mem_map.2 ⟨z, by simp [hz], rfl⟩)) hh0)
  have hql : qr.length ≤ 1048576 := by
    have h := congrArg List.length hqs
    rw [bytesL, List.length_map, List.length_cons] at h
    have h2 := (cut_len 32 h0.data.toList).1
    have h3 : h0.data.toList.length = h0.size := rfl
    omega
  have HB2 := Lib.hid (bt0 HB1.out hb2 (Nat.le_refl _))
  have K2 := Lib.hid (blkK hb2 K1.out)
  have HST2 := Lib.hid (HST.out.below hb2)
  obtain ⟨G, rfl, -, -, hlG⟩ := ho2.block (by simp)
  have HQS := Lib.hid ho2.strs
  have hcq := ho2.capc
  have hB2 : B < w2.heap.size := Nat.lt_of_lt_of_le hlB hb2.size
  rw [show (q0 :: qr).length = qr.length + 1 from rfl] at hcq ⊢
  clear hqs hb2 ho2 hch
  have hcqi : (1 : Int) ≤ (c2 : Int) := by omega
  have HV0 := Lib.hid (fun ns (h : allO valS (bytesL qr) = some ns) (h2 : ns.length ≠ 2) => HO.out.trans (rdLabS_none (HM.out.trans (labN_head (fun ns' h' => by rw [← HQ.out, h] at h'; obtain rfl := Option.some.inj h'; exact h2)))))
  have HV1 := Lib.hid (fun (h : allO valS (bytesL qr) = none) => HO.out.trans (rdLabS_none (HM.out.trans (labN_head (fun ns' h' => by rw [← HQ.out, h] at h'; cases h')))))
  by_cases hc21 : c2 = 1
  · subst hc21
    obtain rfl : qr = [] := List.eq_nil_of_length_eq_zero (by omega)
    have HQn := Lib.hid (l29Numbers_any (some ⟨G, 0, none⟩) [] 0 w2 StrsAt.nil (by simp) (by simp))
    go_wp2_with fail
    refine HQn.out.mono ?_
    rintro e w3 ⟨hb3, hr⟩
    have HB3 := Lib.hid (bt0 HB2.out hb3 (Nat.le_refl _))
    have K3 := Lib.hid (blkK hb3 K2.out)
    clear hb3
    obtain ⟨hc3, hf3⟩ := heap_cellR K3.out
    have hlt3 := blkLt K3.out
    rcases hr with ⟨ns, a3, c3, hns, rfl, -⟩ | ⟨hno, rfl⟩
    · have h0 : ns.length = 0 := (allO_len hns).trans rfl
      have HN := Lib.hid (HV0.out ns hns (by omega))
      have h0i : ((ns.length : Int) == 2) = false := by rw [h0]; rfl
      clear hns h0
      go_wp2_with fail
      refine bodyPost_ret (v := .tuple #[.agg #[.int .i64 0, .int .i64 0, .slice none 0 0], .bool false]) (by simp [results, Tryz.results17, go_sem, hc3]) rfl ⟨?_, .inl ⟨HN.out, rfl⟩⟩
      iterate 3 (refine Below.setCell ?_ (by dsimp only; omega) _)
      exact HB3.out
    · have HN := Lib.hid (HV1.out hno)
      clear hno
      go_wp2_with fail
      refine bodyPost_ret (v := .tuple #[.agg #[.int .i64 0, .int .i64 0, .slice none 0 0], .bool false]) (by simp [results, Tryz.results17, go_sem, hc3]) rfl ⟨?_, .inl ⟨HN.out, rfl⟩⟩
      iterate 3 (refine Below.setCell ?_ (by dsimp only; omega) _)
      exact HB3.out
  have HQ1 := Lib.hid (l29Numbers_any (some ⟨G, 1, none⟩) qr (c2 - 1) w2 (strs_drop1 HQS.out) HQZ.out (by omega))
  go_wp2_with fail
  refine HQ1.out.mono ?_
  rintro e w3 ⟨hb3, hr⟩
  have HB3 := Lib.hid (bt0 HB2.out hb3 (Nat.le_refl _))
  have K3 := Lib.hid (blkK hb3 K2.out)
  have HST3 := Lib.hid (HST2.out.below hb3)
  have hB3 : B < w3.heap.size := Nat.lt_of_lt_of_le hB2 hb3.size
  clear hb3 HQ1
  obtain ⟨hc3, hf3⟩ := heap_cellR K3.out
  have hlt3 := blkLt K3.out
  rcases hr with ⟨ns, a3, c3, hns, rfl, ho3⟩ | ⟨hno, rfl⟩
  rotate_left
  · have HN := Lib.hid (HV1.out hno)
    clear hno
    go_wp2_with fail
    refine bodyPost_ret (v := .tuple #[.agg #[.int .i64 0, .int .i64 0, .slice none 0 0], .bool false]) (by simp [results, Tryz.results17, go_sem, hc3]) rfl ⟨?_, .inl ⟨HN.out, rfl⟩⟩
    iterate 3 (refine Below.setCell ?_ (by dsimp only; omega) _)
    exact HB3.out
  by_cases h2 : ns.length = 2
  rotate_left
  · have HN := Lib.hid (HV0.out ns hns h2)
    have h2i : ((ns.length : Int) == 2) = false := by simp; omega
    clear hns h2 ho3
    go_wp2_with fail
    refine bodyPost_ret (v := .tuple #[.agg #[.int .i64 0, .int .i64 0, .slice none 0 0], .bool false]) (by simp [results, Tryz.results17, go_sem, hc3]) rfl ⟨?_, .inl ⟨HN.out, rfl⟩⟩
    iterate 3 (refine Below.setCell ?_ (by dsimp only; omega) _)
    exact HB3.out
  obtain ⟨v1, v2, rfl⟩ : ∃ v1 v2, ns = [v1, v2] := by
    match ns, h2 with
    | [v1, v2], _ => exact ⟨v1, v2, rfl⟩
  have HVS := Lib.hid (show allO valS ((cut 32 h0.data.toList).drop 1) = some [v1, v2] by rw [← HQ.out]; exact hns)
  obtain ⟨g, rfl, hgb, -, hgl⟩ := ho3.block (by simp)
  have HOI := Lib.hid ho3
  rw [h2]
  clear hns ho3 h2 HV0 HV1 hc3 hf3
  go_wp2_with fail
  go_loopw [7, 8, 9, 10] (fun v i _ _ wr => ∃ (k : Nat) (xs : List It), k ≤ m ∧ i = .int .i64 ((k : Int) + 1) ∧ allO itemS ((bytesL mid).take k) = some xs ∧ itE.Own wr w3.heap.size v xs ∧ Below w3.heap.size w3 wr) (fun _ i _ _ _ => m + 1 - (intOf i).toNat)
  case atStart => exact ⟨0, [], Nat.zero_le _, rfl, rfl, Enc.Own.new itE w3, ba1 _ _⟩
  case round =>
    obtain ⟨k, xs, hk, rfl, hall, ho, hbr⟩ := hrel
    obtain ⟨a, c, rfl⟩ := ho.read
    have HALL := Lib.hid hall
    have HOW := Lib.hid ho
    have HBR := Lib.hid hbr
    have HXL := Lib.hid (show xs.length ≤ 12 by
      have h := allO_len hall
      rw [List.length_take] at h
      omega)
    have KR := Lib.hid (blkK hbr K3.out)
    have HBW := Lib.hid (bt0 HB3.out hbr (Nat.le_refl _))
    have HZR := Lib.hid hbr.size
    have HOR := Lib.hid (HOI.out.grown hbr)
    clear hall ho hbr
    obtain ⟨hcr, hfr⟩ := heap_cellR KR.out
    have hltr := blkLt KR.out
    by_cases hlt : k < m
    · have hki : (k : Int) + 1 + 1 < (m : Int) + 2 := by omega
      obtain ⟨z, hz⟩ : ∃ z, mid[k]? = some z := by rw [List.getElem?_eq_getElem (by rw [HMM.out]; exact hlt)]; exact ⟨_, rfl⟩
      have hzs := HLZ.out z (by simp [List.mem_of_getElem? hz])
      have HPK := Lib.hid (show (bytesL mid)[k]? = some z.data.toList by rw [bytesL, List.getElem?_map, hz]; rfl)
      have hcz : wr.cell? ⟨B, k + 1, none⟩ = some (.string z) := by
        obtain ⟨b0, o0, z', e0, hz', -, hc⟩ := (HST3.out.below HBR.out).at (k := k + 1) (by simp [HMM.out]; omega)
        simp only [Option.some.injEq, Addr.mk.injEq, and_true] at e0
        obtain ⟨rfl, rfl⟩ := e0
        rw [List.getElem?_cons_succ, List.getElem?_append_left (by rw [HMM.out]; exact hlt), hz] at hz'
        rw [Nat.zero_add] at hc
        rw [hc, Option.some.inj hz']
      clear hz
      go_wp2_with fail
      refine (l29Item_any z _ hzs).mono ?_
      rintro e w5 ⟨x, rfl, hx, hb5⟩
      have HIX := Lib.hid hx
      have HB5 := Lib.hid (bt0 HBR.out hb5 (Nat.le_refl _))
      have HBW5 := Lib.hid (bt0 HBW.out hb5 (Nat.le_refl _))
      have HO5 := Lib.hid (HOW.out.grown hb5)
      have K5 := Lib.hid (blkK hb5 KR.out)
      have HZ5 := Lib.hid hb5.size
      clear hx hb5 hcz hcr hfr
      obtain ⟨hcr, hfr⟩ := heap_cellR K5.out
      have hltr5 := blkLt K5.out
      cases hd : itemS z.data.toList with
      | none =>
        have HN := Lib.hid (HO.out.trans (rdLabS_none (HM.out.trans (labN_items (allO_bad (List.mem_of_getElem? HPK.out) hd)))))
        have e9 : (none : Option It).isSome = false := rfl
        rw [e9]
        clear hd e9
        obtain ⟨kd, row, col, sc, tall, wide, nm, lev, tx⟩ := x
        go_wp2_with fail
        refine bodyPost_ret (v := .tuple #[.agg #[.int .i64 0, .int .i64 0, .slice none 0 0], .bool false]) (by simp [results, Tryz.results17, go_sem, hcr, hltr5]) rfl ⟨?_, .inl ⟨HN.out, rfl⟩⟩
        refine bt0 ?_ (ba1 _ _) (Nat.le_refl _)
        iterate 3 (refine Below.setCell ?_ (by dsimp only; omega) _)
        exact HBW5.out
      | some y =>
        obtain rfl := HIX.out y hd
        have HD := Lib.hid (allO_take HPK.out HALL.out hd)
        have e9 : (some x : Option It).isSome = true := rfl
        rw [e9]
        have hxl := HXL.out
        clear hd e9
        obtain ⟨kd, row, col, sc, tall, wide, nm, lev, tx⟩ := x
        have hz5 := HZ5.out
        have hzr := HZR.out
        go_wp2_with (at_builtin; refine wpList_append_it (o := _) rfl (.tmp 59) (.tmp 61) rfl w3.heap.size (.slice a xs.length c) xs ⟨kd, row, col, sc, tall, wide, nm, lev, tx⟩ rfl ((HO5.out.grown (ba1 _ _)).grown (ba1 _ _)) (w5.heap.size + 1) rfl (heap2 w5 _ _).2 ?c3 ?c4 ?h8)
        case c3 => omega
        case c4 => simp; omega
        case h8 =>
        intro a8 c8 l8 w8 he8 ho8 _ hb8
        have HE8 := Lib.hid he8
        have HB8 := Lib.hid ((bt0 HB5.out (ba2 _ _ _) (Nat.le_refl _)).trans hb8)
        have HO8 := Lib.hid ho8
        clear he8 ho8 hb8
        go_wp2_with fail
        go_roundw
        case rel => exact ⟨k + 1, l8, by omega, by go_num, by rw [HE8.out]; exact HD.out, HO8.out, HB8.out⟩
        case measure => simp [intOf]; omega
    · obtain rfl : k = m := by omega
      have hki : ¬ (k : Int) + 1 + 1 < (k : Int) + 2 := by omega
      have HXS := Lib.hid (show allO itemS (bytesL mid) = some xs by have h := HALL.out; rwa [List.take_of_length_le (by rw [bytesL, List.length_map, HMM.out]; exact Nat.le_refl _)] at h)
      have HL := Lib.hid (HO.out.trans (rdLabS_some (l := ⟨v1, v2, xs⟩) (HM.out.trans (labN_some HVS.out HXS.out)) HS0.out))
      have hx0 : wr.cell? ⟨g, 0, none⟩ = some (.int .i64 v1) := World.ownsRow.cellAt HOR.out 0 (by simp)
      have hx1 : wr.cell? ⟨g, 1, none⟩ = some (.int .i64 v2) := World.ownsRow.cellAt HOR.out 1 (by simp)
      have hglr : g < wr.heap.size := lt_of_cell hx0
      have hsi : s.toList.isEmpty = false := by
        rw [ByteArray.toList_eq, Bool.eq_false_iff, ne_eq, List.isEmpty_iff]; exact HS0.out
      have HLTf := Lib.hid (fun w' (h : itE.At w' a xs) => spLabelText_any ⟨v1, v2, xs⟩ a c w' h (fun x hx => by
        obtain ⟨lz, hlz, he⟩ := allO_mem HXS.out hx
        obtain ⟨z, hz, rfl⟩ := List.mem_map.1 hlz
        exact Nat.le_trans (itemS_sz he).1 (HLZ.out z (by simp [hz]))) (by have := HXL.out; show xs.length ≤ _; omega))
      obtain ⟨TX, hTX⟩ : ∃ TX, TX = labT ⟨v1, v2, xs⟩ := ⟨_, rfl⟩
      rw [← hTX] at HLTf HL
      obtain ⟨TB, hTB⟩ : ∃ TB : ByteArray, TB = ⟨TX.toArray⟩ := ⟨_, rfl⟩
      rw [← hTB] at HLTf
      have HTB := Lib.hid (show TB.data.toList = TX by rw [hTB])
      unfold lbV at HLTf
      dsimp only at HLTf
      clear hTX hTB hcr hfr
      go_wp2_with fail
      go_region
      obtain ⟨W9, hW9⟩ : ∃ W9, W9 = (wr.alloc (.cells #[.int .i64 v1, .int .i64 v2, .slice a xs.length c] 29 (0, 0))).drew := ⟨_, rfl⟩
      rw [← hW9]
      have HB9' := Lib.hid (show Below wr.heap.size wr W9 by rw [hW9]; exact (ba1 _ _).trans (below_drewN _ 1))
      have KX := Lib.hid (show W9.heap[wr.heap.size]? = some (.cells #[.int .i64 v1, .int .i64 v2, .slice a xs.length c] 29 (0, 0)) by rw [hW9]; exact push_at _ _)
      have K9 := Lib.hid (blkK HB9'.out KR.out)
      have HB9 := Lib.hid (bt0 HBW.out HB9'.out (Nat.le_refl _))
      have HO9 := Lib.hid (HOW.out.grown HB9'.out)
      have hw1 : ¬ wr.heap.size = w.heap.size := by omega
      have hw2 : ¬ w.heap.size = wr.heap.size := by omega
      have hlX := blkLt KX.out
      have hl9 := blkLt K9.out
      clear hx0 hx1 hW9
      obtain ⟨hcX, hfX⟩ := heap_cellR KX.out
      have HLT9 := Lib.hid (HLTf.out W9 HO9.out.at)
      go_wp2_with fail
      refine HLT9.out.mono ?_
      rintro e w6 ⟨rfl, hb6⟩
      have HBW6 := Lib.hid (bt0 HB9.out hb6 (Nat.le_refl _))
      have HO6 := Lib.hid (HO9.out.grown hb6)
      have KX6 := Lib.hid (blkK hb6 KX.out)
      have K6 := Lib.hid (blkK hb6 K9.out)
      clear hb6 hcX hfX
      obtain ⟨hcX, hfX⟩ := heap_cellR KX6.out
      obtain ⟨hcr, hfr⟩ := heap_cellR K6.out
      have hlX6 := blkLt KX6.out
      have hltr6 := blkLt K6.out
      by_cases hts : TX = s.data.toList
      · have HY := Lib.hid (show O = some ⟨v1, v2, xs⟩ by rw [HL.out, if_pos hts])
        have hti : (TB.toList == s.toList) = true := word_yes (by rw [HTB.out]; exact hts)
        clear hts
        go_wp2_with fail
        refine bodyPost_ret (v := .tuple #[.agg #[.int .i64 v1, .int .i64 v2, .slice a xs.length c], .bool true]) (by simp [results, Tryz.results17, go_sem, hcr]) rfl ⟨?_, .inr ⟨⟨v1, v2, xs⟩, _, HY.out, rfl, ?_⟩⟩
        · iterate 3 (refine Below.setCell ?_ (by dsimp only; omega) _)
          exact HBW6.out
        · refine Enc.Own.weak (base := w3.heap.size) ?_ (by omega)
          exact ((HO6.out.src (by omega) (grownBy_set _ _ _ _)).src (by omega) (grownBy_set _ _ _ _)).src (by omega) (grownBy_set _ _ _ _)
      · have HN := Lib.hid (show O = none by rw [HL.out, if_neg hts])
        have hti : (TB.toList == s.toList) = false := word_no (by rw [HTB.out]; exact hts)
        clear hts
        go_wp2_with fail
        refine bodyPost_ret (v := .tuple #[.agg #[.int .i64 0, .int .i64 0, .slice none 0 0], .bool false]) (by simp [results, Tryz.results17, go_sem, hcr]) rfl ⟨?_, .inl ⟨HN.out, rfl⟩⟩
        iterate 3 (refine Below.setCell ?_ (by dsimp only; omega) _)
        exact HBW6.out

end Go.Proofs.YtlcglclojlffgaaGreatDoor
namespace Go.Proofs.YtlcglclojlffgaaGreatDoor
open Go.RowKit

theorem pow10_stepM {n : Int} {t : Nat} (h : n < 10 ^ (t + 1)) : n / 10 < 10 ^ t := by
  rw [Int.pow_succ] at h
  omega

/-- the mark of a number, as a text -/
def mkT (k : Int) : ByteArray := ⟨(109 :: Lib.itoa k).toArray⟩
/-- what is still to be written -/
def leftD (n : Int) : List UInt8 := if n = 0 then [] else Lib.itoa n
theorem leftD_step {n : Int} (h : 0 < n) : leftD n = leftD (n / 10) ++ [UInt8.ofNat (48 + n % 10).toNat] := by
  rw [leftD, if_neg (by omega), leftD]
  by_cases h9 : n < 10
  · have e : n / 10 = 0 := by omega
    have e2 : n % 10 = n := by omega
    rw [if_pos e, itoa_small (by omega) h9, e2]; rfl
  · rw [if_neg (by omega), itoa_big (by omega)]

set_option maxHeartbeats 1000000 in
theorem markText_val (k : Int) (w : World) (k0 : 1 ≤ k) (k1 : k < 10 ^ 13) :
    Calls Tryz.prog 62 #[.int .i64 k] w fun e w' => e = .returned (.string (mkT k)) ∧ Below w.heap.size w w' := by
  have K1 := Lib.hid k1
  have k9 : k < 10000000000000 := k1
  have kn : ¬ k ≤ 0 := by omega
  clear k1
  go_enter Tryz.func62, Tryz.ntmps62
  go_wp2_with fail
  go_loopw [0, 3] (fun v o wr => ∃ (n : Int) (s : ByteArray) (t : Nat), v = .int .i64 n ∧ o = .string s ∧ 0 ≤ n ∧ n < 10 ^ t ∧ n < 10000000000000 ∧ s.size + t = 13 ∧ leftD k = leftD n ++ s.data.toList ∧ Below w.heap.size w wr) (fun v _ _ => (intOf v).toNat)
  case atStart => exact ⟨k, ⟨#[]⟩, 13, rfl, rfl, by omega, K1.out, k9, rfl, by simp, Below.refl _ _⟩
  case round =>
    obtain ⟨n, s, t, rfl, rfl, n0, n1, n2, hst, hlf, hb⟩ := hrel
    have HB := Lib.hid hb
    have HN := Lib.hid n1
    have HT := Lib.hid hst
    have HLF := Lib.hid hlf
    have hs13 : s.size ≤ 13 := by omega
    clear hb n1 hst hlf
    by_cases hn : 0 < n
    · obtain ⟨c, hce⟩ : ∃ c : UInt8, UInt8.ofNat (48 + n % 10).toNat = c := ⟨_, rfl⟩
      have hc : (c.toNat : Int) = 48 + n % 10 := by rw [← hce, UInt8.toNat_ofNat', Nat.mod_eq_of_lt (by omega)]; omega
      have HST := Lib.hid (leftD_step hn)
      rw [hce] at HST
      have hw1 : IntKind.u8.wrap (48 + n % 10) = (c.toNat : Int) := by rw [hc]; exact IntWalk.u8_in _ (by omega)
      have hcv : (convert 33 9 (.slice (some ⟨wr.heap.size, 0, none⟩) 1 1)).run Tryz.prog (wr.alloc (.cells #[.int .u8 (c.toNat : Int)] 5 (0, 0))) = .ok (.string ⟨#[c]⟩) (wr.alloc (.cells #[.int .u8 (c.toNat : Int)] 5 (0, 0))) :=
        run_convert_bytes_back (P := Tryz.prog) _ 33 9 5 ⟨wr.heap.size, 0, none⟩ 1 [c] Tryz.underlying33 Tryz.underlying5 Tryz.underlying9 (fun j hj => by
          have hj0 : j = 0 := by simpa using hj
          subst hj0
          exact cell_one_new _ _ _ 0 _ rfl)
      have hs1 : (⟨#[c]⟩ : ByteArray).size + s.size ≤ 9223372036854775807 := by
        have : (⟨#[c]⟩ : ByteArray).size = 1 := rfl
        omega
      have HC := Lib.hid hc
      clear hc hce
      go_wp2_with fail
      obtain ⟨t', rfl⟩ : ∃ t', t = t' + 1 := by
        cases t with
        | zero => have := HN.out; simp at this; omega
        | succ t' => exact ⟨t', rfl⟩
      exact ⟨⟨n / 10, ⟨#[c]⟩ ++ s, t', rfl, rfl, by omega, pow10_stepM HN.out, by omega, by
        have := HT.out
        rw [ByteArray.size_append]
        have : (⟨#[c]⟩ : ByteArray).size = 1 := rfl
        omega, by rw [HLF.out, HST.out]; simp, HB.out.alloc HB.out.size _⟩, by simp [intOf]; omega⟩
    · have hs1 : (⟨#[109]⟩ : ByteArray).size + s.size ≤ 9223372036854775807 := by
        have : (⟨#[109]⟩ : ByteArray).size = 1 := rfl
        omega
      have HE := Lib.hid (show (⟨#[109]⟩ ++ s : ByteArray) = mkT k by
        have h := HLF.out
        rw [show n = 0 by omega, leftD, if_neg (by omega), leftD, if_pos rfl, List.nil_append] at h
        apply ByteArray.ext
        apply Array.toList_inj.1
        rw [mkT, h]; simp)
      go_wp2_with fail
      go_ret
      exact ⟨ret_str HE.out, HB.out⟩

end Go.Proofs.YtlcglclojlffgaaGreatDoor
namespace Go.Proofs.YtlcglclojlffgaaGreatDoor
open Go.RowKit

/-- the mark of a cell -/
def mkV (z : Int) (j : Nat) : Value := if j = 6 ∨ j = 8 then .string (mkT z) else .int .i64 z
/-- the first k items bear the marks from m on -/
def MkI (cs : Array Value) (m : Int) (k : Nat) : Prop := ∀ i j, i < k → j < 9 → cs[i * 9 + j]? = some (mkV (m + 9 * (i : Nat) + (j : Nat)) j)
/-- nine cells set -/
def set9f (cs : Array Value) (o : Nat) (f : Nat → Value) : Array Value := ((((((((cs.setIfInBounds o (f 0)).setIfInBounds (o + 1) (f 1)).setIfInBounds (o + 2) (f 2)).setIfInBounds (o + 3) (f 3)).setIfInBounds (o + 4) (f 4)).setIfInBounds (o + 5) (f 5)).setIfInBounds (o + 6) (f 6)).setIfInBounds (o + 7) (f 7)).setIfInBounds (o + 8) (f 8)
theorem set9f_size (cs : Array Value) (o : Nat) (f : Nat → Value) : (set9f cs o f).size = cs.size := by simp [set9f]
theorem mkI_step {cs : Array Value} {n k : Nat} {m : Int} (hs : n * 9 ≤ cs.size) (hk : k < n) (h : MkI cs m k) (f : Nat → Value) (hf : ∀ j, j < 9 → f j = mkV (m + 9 * (k : Nat) + (j : Nat)) j) : MkI (set9f cs (k * 9) f) m (k + 1) := by
  intro i j hi hj
  have hk9 : k * 9 + 8 < cs.size := by omega
  unfold set9f
  simp only [Array.getElem?_setIfInBounds, Array.size_setIfInBounds]
  by_cases hik : i = k
  · subst hik
    have hj2 : j = 0 ∨ j = 1 ∨ j = 2 ∨ j = 3 ∨ j = 4 ∨ j = 5 ∨ j = 6 ∨ j = 7 ∨ j = 8 := by omega
    rcases hj2 with rfl | rfl | rfl | rfl | rfl | rfl | rfl | rfl | rfl
    all_goals (repeat (first | rw [if_pos trivial] | rw [if_neg (by omega)] | rw [if_pos (by omega)]))
    all_goals (rw [← hf _ (by omega)])
  · repeat (rw [if_neg (by omega)])
    exact h i j (by omega) hj
theorem at9' {cs : Array Value} {n k : Nat} (hs : n * 9 ≤ cs.size) (hk : k < n) (j : Nat) (hj : j < 9) : ∃ v, cs[k * 9 + j]? = some v := ⟨cs[k * 9 + j]'(by omega), Array.getElem?_eq_getElem _⟩
/-- while items are marked -/
def MkSI (w wr : World) (g n k : Nat) (m : Int) : Prop := ∃ cs, wr.heap[g]? = some (.cells cs 49 (0, 0)) ∧ n * 9 ≤ cs.size ∧ MkI cs m k ∧ w.grownBy wr (some g)
theorem grown_below {w w1 w2 : World} {g : Nat} (h : w.grownBy w1 (some g)) (hb : Below w1.heap.size w1 w2) : w.grownBy w2 (some g) :=
  grownBy_trans h (⟨hb.os, hb.tape, hb.output, hb.size, fun i hi _ => hb.block i hi⟩ : w1.grownBy w2 _)

set_option maxRecDepth 100000 in
set_option maxHeartbeats 2000000 in
theorem markItemS_box (g n c : Nat) (m : Int) (w : World) (h0 : MkSI w w g n 0 m) (ln : n ≤ 1048576) (hm0 : 1 ≤ m) (hm : m ≤ 1099511627776) :
    Calls Tryz.prog 40 #[.slice (some ⟨g, 0, none⟩) n c, .int .i64 m] w fun e w' => e = .returned (.int .i64 (m + 9 * n)) ∧ MkSI w w' g n n m := by
  have H0 := Lib.hid h0
  clear h0
  go_enter Tryz.func40, Tryz.ntmps40
  go_wp2
  go_loopw [1, 5] (fun q i wr => ∃ k : Nat, k ≤ n ∧ i = .int .i64 k ∧ q = .int .i64 (m + 9 * k) ∧ MkSI w wr g n k m) (fun _ i _ => n - (intOf i).toNat)
  case atStart => exact ⟨0, Nat.zero_le _, rfl, by simp, H0.out⟩
  case round =>
    obtain ⟨k, hk, rfl, rfl, ht⟩ := hrel
    have HT := Lib.hid ht
    by_cases hlt : k < n
    · obtain ⟨cs, hg, hs, hmk, hgr⟩ := ht
      have HG := Lib.hid hg
      have HMK := Lib.hid hmk
      have HGR := Lib.hid hgr
      have hls := blkLt hg
      obtain ⟨hcc, hff⟩ := heap_cellR hg
      obtain ⟨u0, g0⟩ := at9' hs hlt 0 (by omega)
      obtain ⟨u1, g1⟩ := at9' hs hlt 1 (by omega)
      obtain ⟨u2, g2⟩ := at9' hs hlt 2 (by omega)
      obtain ⟨u3, g3⟩ := at9' hs hlt 3 (by omega)
      obtain ⟨u4, g4⟩ := at9' hs hlt 4 (by omega)
      obtain ⟨u5, g5⟩ := at9' hs hlt 5 (by omega)
      rw [← hcc] at g0 g1 g2 g3 g4 g5
      rw [Nat.add_zero] at g0
      have HS := Lib.hid hs
      have KG6 := Lib.hid (src_set (src_set (src_set (src_set (src_set (src_set hg (k * 9) (.int .i64 (m + 9 * (k : Nat)))) (k * 9 + 1) (.int .i64 (m + 9 * (k : Nat) + 1))) (k * 9 + 2) (.int .i64 (m + 9 * (k : Nat) + 1 + 1))) (k * 9 + 3) (.int .i64 (m + 9 * (k : Nat) + 1 + 1 + 1))) (k * 9 + 4) (.int .i64 (m + 9 * (k : Nat) + 1 + 1 + 1 + 1))) (k * 9 + 5) (.int .i64 (m + 9 * (k : Nat) + 1 + 1 + 1 + 1 + 1)))
      clear hg hcc hmk hgr hs
      go_wp2_with fail
      refine (markText_val _ _ (by omega) (by omega)).mono ?_
      rintro e w2 ⟨rfl, hb2⟩
      have KG2 := Lib.hid (blkK hb2 KG6.out)
      have GR2 := Lib.hid (show w.grownBy w2 (some g) from grown_below (by
        iterate 6 (refine grownBy_trans ?_ (grownBy_set _ _ _ _))
        exact HGR.out) hb2)
      have hs6 := HS.out
      obtain ⟨hc2, hf2⟩ := heap_cellR KG2.out
      have hk9 : k * 9 + 8 < cs.size := by omega
      obtain ⟨u6, g6⟩ : ∃ u, w2.cell? ⟨g, k * 9 + 6, none⟩ = some u := ⟨_, (hc2 _).trans (Array.getElem?_eq_getElem (by simp only [Array.size_setIfInBounds]; omega))⟩
      obtain ⟨u7, g7⟩ : ∃ u, w2.cell? ⟨g, k * 9 + 7, none⟩ = some u := ⟨_, (hc2 _).trans (Array.getElem?_eq_getElem (by simp only [Array.size_setIfInBounds]; omega))⟩
      have hl2 := blkLt KG2.out
      have KG8 := Lib.hid (src_set (src_set KG2.out (k * 9 + 6) (.string (mkT (m + 9 * (k : Nat) + 1 + 1 + 1 + 1 + 1 + 1)))) (k * 9 + 7) (.int .i64 (m + 9 * (k : Nat) + 1 + 1 + 1 + 1 + 1 + 1 + 1)))
      clear hb2 g0 g1 g2 g3 g4 g5 hc2 hff
      go_wp2_with fail
      refine (markText_val _ _ (by omega) (by omega)).mono ?_
      rintro e w3 ⟨rfl, hb3⟩
      have KG3 := Lib.hid (blkK hb3 KG8.out)
      have GR3 := Lib.hid (show w.grownBy w3 (some g) from grown_below (by
        iterate 2 (refine grownBy_trans ?_ (grownBy_set _ _ _ _))
        exact GR2.out) hb3)
      obtain ⟨hc3, hf3⟩ := heap_cellR KG3.out
      obtain ⟨u8, g8⟩ : ∃ u, w3.cell? ⟨g, k * 9 + 8, none⟩ = some u := ⟨_, (hc3 _).trans (Array.getElem?_eq_getElem (by simp only [Array.size_setIfInBounds]; omega))⟩
      have hl3 := blkLt KG3.out
      have KG9 := Lib.hid (src_set KG3.out (k * 9 + 8) (.string (mkT (m + 9 * (k : Nat) + 1 + 1 + 1 + 1 + 1 + 1 + 1 + 1))))
      clear hb3 g6 g7 hc3 hf2
      go_wp2_with fail
      refine ⟨⟨k + 1, by omega, by go_num, by go_num, ?_⟩, by simp [intOf]; omega⟩
      obtain ⟨f, hf⟩ : ∃ f : Nat → Value, f = fun j => mkV (m + 9 * (k : Nat) + (j : Nat)) j := ⟨_, rfl⟩
      have f0 : f 0 = .int .i64 (m + 9 * (k : Nat)) := by rw [hf]; simp [mkV]
      have f1 : f 1 = .int .i64 (m + 9 * (k : Nat) + 1) := by rw [hf]; simp [mkV]
      have f2 : f 2 = .int .i64 (m + 9 * (k : Nat) + 1 + 1) := by rw [hf]; simp [mkV]; omega
      have f3 : f 3 = .int .i64 (m + 9 * (k : Nat) + 1 + 1 + 1) := by rw [hf]; simp [mkV]; omega
      have f4 : f 4 = .int .i64 (m + 9 * (k : Nat) + 1 + 1 + 1 + 1) := by rw [hf]; simp [mkV]; omega
      have f5 : f 5 = .int .i64 (m + 9 * (k : Nat) + 1 + 1 + 1 + 1 + 1) := by rw [hf]; simp [mkV]; omega
      have f6 : f 6 = .string (mkT (m + 9 * (k : Nat) + 1 + 1 + 1 + 1 + 1 + 1)) := by rw [hf]; simp only [mkV, true_or, if_true]; rw [show m + 9 * (k : Int) + ((6 : Nat) : Int) = m + 9 * (k : Nat) + 1 + 1 + 1 + 1 + 1 + 1 by omega]
      have f7 : f 7 = .int .i64 (m + 9 * (k : Nat) + 1 + 1 + 1 + 1 + 1 + 1 + 1) := by rw [hf]; simp [mkV]; omega
      have f8 : f 8 = .string (mkT (m + 9 * (k : Nat) + 1 + 1 + 1 + 1 + 1 + 1 + 1 + 1)) := by rw [hf]; simp only [mkV, or_true, if_true]; rw [show m + 9 * (k : Int) + ((8 : Nat) : Int) = m + 9 * (k : Nat) + 1 + 1 + 1 + 1 + 1 + 1 + 1 + 1 by omega]
      refine ⟨set9f cs (k * 9) f, ?_, by rw [set9f_size]; exact hs6, mkI_step hs6 hlt HMK.out f (fun j _ => by rw [hf]), grownBy_trans GR3.out (grownBy_set _ _ _ _)⟩
      unfold set9f
      rw [f0, f1, f2, f3, f4, f5, f6, f7, f8]
      exact KG9.out
    · obtain rfl : k = n := by omega
      clear ht
      go_wp2
      go_ret
      exact ⟨rfl, HT.out⟩

set_option maxHeartbeats 1000000 in
theorem markItemS_nil (a : Option Addr) (c : Nat) (m : Int) (w : World) (_hm0 : 0 ≤ m) (_hm : m ≤ 1099511627776) :
    Calls Tryz.prog 40 #[.slice a 0 c, .int .i64 m] w fun e w' => e = .returned (.int .i64 m) ∧ w = w' := by
  go_enter Tryz.func40, Tryz.ntmps40
  go_wp2
  go_loop [1, 5] (fun q i => i = .int .i64 0 ∧ q = .int .i64 m) (fun _ _ => 0)
  case atStart => exact ⟨rfl, rfl⟩
  case round =>
    obtain ⟨rfl, rfl⟩ := hrel
    go_wp2
    go_ret
    exact ⟨rfl, rfl⟩

set_option maxRecDepth 100000 in
set_option maxHeartbeats 2000000 in
theorem heldItemS_box (g n c : Nat) (m : Int) (w : World) (cs : Array Value) (hg : w.heap[g]? = some (.cells cs 49 (0, 0))) (hm' : MkI cs m n) (ln : n ≤ 1048576) (hm0 : 1 ≤ m) (hm : m ≤ 1099511627776) :
    Calls Tryz.prog 41 #[.slice (some ⟨g, 0, none⟩) n c, .int .i64 m] w fun e w' => e = .returned (.int .i64 (m + 9 * n)) ∧ Below w.heap.size w w' := by
  have HG := Lib.hid hg
  have HM := Lib.hid hm'
  clear hg hm'
  go_enter Tryz.func41, Tryz.ntmps41
  go_wp2
  go_loopw [1, 5] (fun q i wr => ∃ k : Nat, k ≤ n ∧ i = .int .i64 k ∧ q = .int .i64 (m + 9 * k) ∧ Below w.heap.size w wr) (fun _ i _ => n - (intOf i).toNat)
  case atStart => exact ⟨0, Nat.zero_le _, rfl, by simp, Below.refl _ _⟩
  case round =>
    obtain ⟨k, hk, rfl, rfl, hbr⟩ := hrel
    have HBR := Lib.hid hbr
    have KG := Lib.hid (blkK hbr HG.out)
    clear hbr
    by_cases hlt : k < n
    · obtain ⟨hcc, hff⟩ := heap_cellR KG.out
      have hls := blkLt KG.out
      have h0 : wr.cell? ⟨g, k * 9, none⟩ = some (.int .i64 (m + 9 * (k : Nat))) := by
        have h := HM.out k 0 hlt (by omega)
        rw [Nat.add_zero] at h
        rw [hcc, h]; simp [mkV]
      have h1 : wr.cell? ⟨g, k * 9 + 1, none⟩ = some (.int .i64 (m + 9 * (k : Nat) + 1)) := by
        rw [hcc, HM.out k 1 hlt (by omega)]; simp [mkV]
      have h2 : wr.cell? ⟨g, k * 9 + 2, none⟩ = some (.int .i64 (m + 9 * (k : Nat) + 1 + 1)) := by
        rw [hcc, HM.out k 2 hlt (by omega)]; simp [mkV]; omega
      have h3 : wr.cell? ⟨g, k * 9 + 3, none⟩ = some (.int .i64 (m + 9 * (k : Nat) + 1 + 1 + 1)) := by
        rw [hcc, HM.out k 3 hlt (by omega)]; simp [mkV]; omega
      have h4 : wr.cell? ⟨g, k * 9 + 4, none⟩ = some (.int .i64 (m + 9 * (k : Nat) + 1 + 1 + 1 + 1)) := by
        rw [hcc, HM.out k 4 hlt (by omega)]; simp [mkV]; omega
      have h5 : wr.cell? ⟨g, k * 9 + 5, none⟩ = some (.int .i64 (m + 9 * (k : Nat) + 1 + 1 + 1 + 1 + 1)) := by
        rw [hcc, HM.out k 5 hlt (by omega)]; simp [mkV]; omega
      have h6 : wr.cell? ⟨g, k * 9 + 6, none⟩ = some (.string (mkT (m + 9 * (k : Nat) + 1 + 1 + 1 + 1 + 1 + 1))) := by
        rw [hcc, HM.out k 6 hlt (by omega)]; simp only [mkV, true_or, if_true]
        rw [show m + 9 * (k : Int) + ((6 : Nat) : Int) = m + 9 * (k : Nat) + 1 + 1 + 1 + 1 + 1 + 1 by omega]
      have e0 : ∀ z : Int, (z != z) = false := fun z => by simp
      have e6 : ((mkT (m + 9 * (k : Nat) + 1 + 1 + 1 + 1 + 1 + 1)).toList == (mkT (m + 9 * (k : Nat) + 1 + 1 + 1 + 1 + 1 + 1)).toList) = true := by simp
      clear hcc
      go_wp2_with fail
      refine wp_region_ext (by kernel_rfl) (by kernel_rfl) ?_
      repeat (go_big_quiet_step ((go_at_call 62; go_must (exact calls_ext _ (markText_val _ _ (by omega) (by omega))))))
      refine wpQuiet_nil ?_
      rintro _ ⟨s, rfl⟩
      have HB2 := Lib.hid (bt0 HBR.out s.below (Nat.le_refl _))
      have KG2 := Lib.hid (blkK HB2.out HG.out)
      clear h0 h1 h2 h3 h4 h5 h6 hff hls
      generalize s.w = w2 at HB2 KG2 ⊢
      clear s
      obtain ⟨hcc, hff⟩ := heap_cellR KG2.out
      have hls := blkLt KG2.out
      have h7 : w2.cell? ⟨g, k * 9 + 7, none⟩ = some (.int .i64 (m + 9 * (k : Nat) + 1 + 1 + 1 + 1 + 1 + 1 + 1)) := by
        rw [hcc, HM.out k 7 hlt (by omega)]; simp [mkV]; omega
      have h8 : w2.cell? ⟨g, k * 9 + 8, none⟩ = some (.string (mkT (m + 9 * (k : Nat) + 1 + 1 + 1 + 1 + 1 + 1 + 1 + 1))) := by
        rw [hcc, HM.out k 8 hlt (by omega)]; simp only [mkV, or_true, if_true]
        rw [show m + 9 * (k : Int) + ((8 : Nat) : Int) = m + 9 * (k : Nat) + 1 + 1 + 1 + 1 + 1 + 1 + 1 + 1 by omega]
      have e8 : ((mkT (m + 9 * (k : Nat) + 1 + 1 + 1 + 1 + 1 + 1 + 1 + 1)).toList == (mkT (m + 9 * (k : Nat) + 1 + 1 + 1 + 1 + 1 + 1 + 1 + 1)).toList) = true := by simp
      clear hcc
      go_wp2_with fail
      refine wp_region_ext (by kernel_rfl) (by kernel_rfl) ?_
      repeat (go_big_quiet_step ((go_at_call 62; go_must (exact calls_ext _ (markText_val _ _ (by omega) (by omega))))))
      refine wpQuiet_nil ?_
      rintro _ ⟨s, rfl⟩
      have HB3 := Lib.hid (bt0 HB2.out s.below (Nat.le_refl _))
      clear h7 h8 hff hls
      go_wp2_with fail
      exact ⟨⟨k + 1, by omega, by go_num, by go_num, HB3.out⟩, by simp [intOf]; omega⟩
    · obtain rfl : k = n := by omega
      go_wp2
      go_ret
      exact ⟨rfl, HBR.out⟩

set_option maxHeartbeats 1000000 in
theorem heldItemS_nil (a : Option Addr) (c : Nat) (m : Int) (w : World) (_hm0 : 0 ≤ m) (_hm : m ≤ 1099511627776) :
    Calls Tryz.prog 41 #[.slice a 0 c, .int .i64 m] w fun e w' => e = .returned (.int .i64 m) ∧ w = w' := by
  go_enter Tryz.func41, Tryz.ntmps41
  go_wp2
  go_loop [1, 5] (fun q i => i = .int .i64 0 ∧ q = .int .i64 m) (fun _ _ => 0)
  case atStart => exact ⟨rfl, rfl⟩
  case round =>
    obtain ⟨rfl, rfl⟩ := hrel
    go_wp2
    go_ret
    exact ⟨rfl, rfl⟩
set_option maxHeartbeats 1000000 in
theorem markLabel_of (rows cols : Int) (v : Value) (m r : Int) (w : World) (Q : World → Prop) (hq : ∀ w1, w1 = w.alloc (.cells #[.int .i64 rows, .int .i64 cols, v] 29 (0, 0)) → Calls Tryz.prog 40 #[v, .int .i64 m] w1 fun e w' => e = .returned (.int .i64 r) ∧ Q w') (hv : ∃ a n c, v = .slice a n c) :
    Calls Tryz.prog 18 #[.agg #[.int .i64 rows, .int .i64 cols, v], .int .i64 m] w fun e w' => e = .returned (.int .i64 r) ∧ Q w' := by
  obtain ⟨a, n, c, rfl⟩ := hv
  have HQ := Lib.hid hq
  clear hq
  go_enter Tryz.func18, Tryz.ntmps18
  go_wp2_with fail
  refine (HQ.out _ rfl).mono ?_
  rintro e w2 ⟨rfl, hq2⟩
  have HQ2 := Lib.hid hq2
  clear hq2
  go_wp2_with fail
  go_ret
  exact ⟨rfl, HQ2.out⟩
set_option maxHeartbeats 1000000 in
theorem heldLabel_of (rows cols : Int) (v : Value) (m r : Int) (hr : 0 ≤ r) (w : World) (Q : World → Prop) (hq : ∀ w1, w1 = w.alloc (.cells #[.int .i64 rows, .int .i64 cols, v] 29 (0, 0)) → Calls Tryz.prog 41 #[v, .int .i64 m] w1 fun e w' => e = .returned (.int .i64 r) ∧ Q w') (hv : ∃ a n c, v = .slice a n c) :
    Calls Tryz.prog 19 #[.agg #[.int .i64 rows, .int .i64 cols, v], .int .i64 m] w fun e w' => e = .returned (.int .i64 r) ∧ Q w' := by
  obtain ⟨a, n, c, rfl⟩ := hv
  have HQ := Lib.hid hq
  have hr0 : ¬ r < 0 := by omega
  clear hq
  go_enter Tryz.func19, Tryz.ntmps19
  go_wp2_with fail
  refine (HQ.out _ rfl).mono ?_
  rintro e w2 ⟨rfl, hq2⟩
  have HQ2 := Lib.hid hq2
  clear hq2
  go_wp2_with fail
  go_ret
  exact ⟨rfl, HQ2.out⟩

end Go.Proofs.YtlcglclojlffgaaGreatDoor
namespace Go.Proofs.YtlcglclojlffgaaGreatDoor
open Go.RowKit

/-- what ReadLabel answers, in one form -/
theorem retLR_view {w w' : World} {o : Option Lb} {e : Ending} (h : RetLR w o e w') :
    ∃ a c, e = .returned (.tuple #[.agg #[.int .i64 (o.getD ⟨0, 0, []⟩).rows, .int .i64 (o.getD ⟨0, 0, []⟩).cols, .slice a (o.getD ⟨0, 0, []⟩).items.length c], .bool o.isSome]) ∧ itE.Own w' w.heap.size (.slice a (o.getD ⟨0, 0, []⟩).items.length c) (o.getD ⟨0, 0, []⟩).items ∧ Below w.heap.size w w' := by
  obtain ⟨hb, ⟨rfl, rfl⟩ | ⟨l, v, rfl, rfl, ho⟩⟩ := h
  · exact ⟨none, 0, rfl, Enc.Own.nil itE _ _, hb⟩
  · obtain ⟨a, c, rfl⟩ := ho.read
    exact ⟨a, c, rfl, ho, hb⟩
theorem rdLab_bd (s : List UInt8) : ((rdLab s).getD ⟨0, 0, []⟩).items.length ≤ 12 := by
  cases h : rdLab s with
  | none => simp
  | some l => exact (lb_bd (rdLab_iff.1 h).1).2.2

set_option maxRecDepth 100000 in
set_option maxHeartbeats 2000000 in
theorem exReadLabel_any (s : ByteArray) (w : World) (hE : Env w) :
    Calls Tryz.prog 5 #[.string s] w fun e w' => e = .returned (.bool true) ∧ Below w.heap.size w w' := by
  have HE := Lib.hid hE
  clear hE
  by_cases hbig : 1048576 < s.size
  · have hi : (1048576 : Int) < ((s.size : Nat) : Int) := by omega
    go_enter Tryz.func5, Tryz.ntmps5
    go_wp2_with fail
    go_ret
    exact ⟨rfl, Below.refl _ _⟩
  have hi : ¬ (1048576 : Int) < ((s.size : Nat) : Int) := by omega
  have hs : s.size ≤ 1048576 := by omega
  have HSP := Lib.hid (fun w => spReadLabel_any s w hs)
  rw [rdLabS_eq] at HSP
  have HIM := Lib.hid (fun w (h : Env w) => readLabel_any s w hs h)
  have HL := Lib.hid (rdLab_bd s.data.toList)
  obtain ⟨O, hO⟩ : ∃ O, O = rdLab s.data.toList := ⟨_, rfl⟩
  rw [← hO] at HSP HIM HL
  obtain ⟨L, hL⟩ : ∃ L, O.getD ⟨0, 0, []⟩ = L := ⟨_, rfl⟩
  obtain ⟨ok, hok⟩ : ∃ ok, O.isSome = ok := ⟨_, rfl⟩
  have HV := Lib.hid (show ∀ (w w' : World) (e : Ending), RetLR w O e w' → ∃ a c, e = .returned (.tuple #[.agg #[.int .i64 L.rows, .int .i64 L.cols, .slice a L.items.length c], .bool ok]) ∧ itE.Own w' w.heap.size (.slice a L.items.length c) L.items ∧ Below w.heap.size w w' from fun w w' e h => by
    obtain ⟨a, c, he, ho, hb⟩ := retLR_view h
    rw [hL] at he ho
    rw [hok] at he
    exact ⟨a, c, he, ho, hb⟩)
  rw [hL] at HL
  have HEQ := Lib.hid (fun a b c d w hx hy => eqLabel_same L a b c d w hx hy (by have := HL.out; omega))
  clear hO hL hok
  obtain ⟨rows, cols, items⟩ := L
  dsimp only at HV HL HEQ
  unfold lbV at HEQ
  dsimp only at HEQ
  have hok2 : (ok != ok) = false := by simp
  go_enter Tryz.func5, Tryz.ntmps5
  go_wp2_with fail
  refine (HSP.out _).mono ?_
  intro e w1 h1
  obtain ⟨a1, c1, rfl, ho1, hb1⟩ := HV.out _ _ _ h1
  have HO1 := Lib.hid ho1
  have HB1 := Lib.hid hb1
  clear h1 ho1 hb1
  go_wp2_with fail
  have KW := Lib.hid (push_at w1 (.cells #[.int .i64 rows, .int .i64 cols, .slice a1 items.length c1] 29 (0, 0)))
  have HB1a := Lib.hid (bt0 HB1.out (ba1 w1 (.cells #[.int .i64 rows, .int .i64 cols, .slice a1 items.length c1] 29 (0, 0))) (Nat.le_refl _))
  have HO1a := Lib.hid (HO1.out.grown (ba1 w1 (.cells #[.int .i64 rows, .int .i64 cols, .slice a1 items.length c1] 29 (0, 0))))
  refine (HIM.out _ (HE.out.next HB1a.out)).mono ?_
  intro e w2 h2
  obtain ⟨a2, c2, rfl, ho2, hb2⟩ := HV.out _ _ _ h2
  have HO2 := Lib.hid (ho2.grown (ba1 w2 (.cells #[.int .i64 rows, .int .i64 cols, .slice a2 items.length c2] 29 (0, 0))))
  have HB2 := Lib.hid (bt0 (bt0 HB1a.out hb2 (Nat.le_refl _)) (ba1 w2 (.cells #[.int .i64 rows, .int .i64 cols, .slice a2 items.length c2] 29 (0, 0))) (Nat.le_refl _))
  have HO1b := Lib.hid ((HO1a.out.grown hb2).grown (ba1 w2 (.cells #[.int .i64 rows, .int .i64 cols, .slice a2 items.length c2] 29 (0, 0))))
  have KW2 := Lib.hid (push_old (A := .cells #[.int .i64 rows, .int .i64 cols, .slice a2 items.length c2] 29 (0, 0)) (blkK hb2 KW.out))
  have KG2 := Lib.hid (push_at w2 (.cells #[.int .i64 rows, .int .i64 cols, .slice a2 items.length c2] 29 (0, 0)))
  have HZ2 := Lib.hid hb2.size
  have KWw := Lib.hid (blkK hb2 KW.out)
  clear h2 ho2 hb2
  obtain ⟨hcW, hfW⟩ := heap_cellR KWw.out
  have hltW := blkLt KWw.out
  go_wp2_with fail
  refine (HEQ.out a2 a1 c2 c1 _ HO2.out.at HO1b.out.at).mono ?_
  rintro e w3 ⟨rfl, hb3⟩
  have HO2c := Lib.hid (HO2.out.grown hb3)
  have HO1c := Lib.hid (HO1b.out.grown hb3)
  have HB3 := Lib.hid (bt0 HB2.out hb3 (Nat.le_refl _))
  have KW3 := Lib.hid (blkK hb3 KW2.out)
  have KG3 := Lib.hid (blkK hb3 KG2.out)
  have hz13 : w1.heap.size < w2.heap.size := hltW
  have hz23 : w2.heap.size < w3.heap.size := blkLt KG3.out
  have hw1 : w.heap.size ≤ w1.heap.size := HB1.out.size
  have HK1 := Lib.hid (fun k (hk : (Value.slice a1 items.length c1).ownBlock = some k) => HO1.out.hi k hk)
  have HZ2b := Lib.hid HO2c.out.lo
  clear hb3 hcW hfW hltW KW KW2 KWw KG2 HO1 HO1a HO1b HO2 HB1a HB2 HZ2
  cases items with
  | nil =>
    obtain ⟨hcG, hfG⟩ := heap_cellR KG3.out
    obtain ⟨hcW, hfW⟩ := heap_cellR KW3.out
    have hlW := blkLt KW3.out
    go_wp2_with fail
    refine (markLabel_of rows cols (.slice a2 0 c2) 1 1 _ (fun w' => Below w3.heap.size w3 w') (fun w1 hw => (markItemS_nil a2 c2 1 w1 (by omega) (by omega)).mono fun e w' ⟨he, hw'⟩ => ⟨he, by rw [← hw', hw]; exact ba1 _ _⟩) ⟨_, _, _, rfl⟩).mono ?_
    rintro e w4 ⟨rfl, hb4⟩
    have HO1d := Lib.hid (HO1c.out.grown hb4)
    have HB4 := Lib.hid (bt0 HB3.out hb4 (Nat.le_refl _))
    have KW4 := Lib.hid (blkK hb4 KW3.out)
    have KG4 := Lib.hid (blkK hb4 KG3.out)
    clear hb4 hcG hfG hcW hfW hlW
    obtain ⟨hcG, hfG⟩ := heap_cellR KG4.out
    have hlG := blkLt KG4.out
    go_wp2_with fail
    refine (heldLabel_of rows cols (.slice a2 0 c2) 1 1 (by omega) _ (fun w' => Below w4.heap.size w4 w') (fun w1 hw => (heldItemS_nil a2 c2 1 w1 (by omega) (by omega)).mono fun e w' ⟨he, hw'⟩ => ⟨he, by rw [← hw', hw]; exact ba1 _ _⟩) ⟨_, _, _, rfl⟩).mono ?_
    rintro e w5 ⟨rfl, hb5⟩
    have HO1e := Lib.hid (HO1d.out.grown hb5)
    have HB5 := Lib.hid (bt0 HB4.out hb5 (Nat.le_refl _))
    have KW5 := Lib.hid (blkK hb5 KW4.out)
    have KG5 := Lib.hid (blkK hb5 KG4.out)
    clear hb5 hcG hfG hlG
    go_wp2_with fail
    refine (HIM.out _ (HE.out.next HB5.out)).mono ?_
    intro e w6 h6
    obtain ⟨a6, c6, rfl, ho6, hb6⟩ := HV.out _ _ _ h6
    have HO6 := Lib.hid (ho6.grown (ba1 w6 (.cells #[.int .i64 rows, .int .i64 cols, .slice a6 0 c6] 29 (0, 0))))
    have HO1f := Lib.hid ((HO1e.out.grown hb6).grown (ba1 w6 (.cells #[.int .i64 rows, .int .i64 cols, .slice a6 0 c6] 29 (0, 0))))
    have HB6 := Lib.hid (bt0 (bt0 HB5.out hb6 (Nat.le_refl _)) (ba1 w6 (.cells #[.int .i64 rows, .int .i64 cols, .slice a6 0 c6] 29 (0, 0))) (Nat.le_refl _))
    have KW6 := Lib.hid (blkK hb6 KW5.out)
    have KG6 := Lib.hid (push_old (A := .cells #[.int .i64 rows, .int .i64 cols, .slice a6 0 c6] 29 (0, 0)) (blkK hb6 KG5.out))
    clear h6 ho6 hb6
    obtain ⟨hcW, hfW⟩ := heap_cellR KW6.out
    have hlW := blkLt KW6.out
    go_wp2_with fail
    refine (HEQ.out a6 a1 c6 c1 _ HO6.out.at HO1f.out.at).mono ?_
    rintro e w7 ⟨rfl, hb7⟩
    have HB7 := Lib.hid (bt0 HB6.out hb7 (Nat.le_refl _))
    have KG7 := Lib.hid (blkK hb7 KG6.out)
    clear hb7 hcW hfW hlW
    obtain ⟨hcG, hfG⟩ := heap_cellR KG7.out
    have hlG := blkLt KG7.out
    go_wp2_with fail
    refine (heldLabel_of rows cols (.slice a2 0 c2) 1 1 (by omega) _ (fun w' => Below w7.heap.size w7 w') (fun w1 hw => (heldItemS_nil a2 c2 1 w1 (by omega) (by omega)).mono fun e w' ⟨he, hw'⟩ => ⟨he, by rw [← hw', hw]; exact ba1 _ _⟩) ⟨_, _, _, rfl⟩).mono ?_
    rintro e w8 ⟨rfl, hb8⟩
    have HB8 := Lib.hid (bt0 HB7.out hb8 (Nat.le_refl _))
    clear hb8 hcG hfG hlG
    go_wp2_with fail
    go_ret
    exact ⟨rfl, HB8.out⟩
  | cons d0 dt =>
    obtain ⟨g, hga, hgb, cs, hgc, hgs⟩ : ∃ g, a2 = some ⟨g, 0, none⟩ ∧ w1.heap.size ≤ g ∧ ∃ cs, w3.heap[g]? = some (.cells cs 49 (0, 0)) ∧ (d0 :: dt).length * 9 ≤ cs.size := by
      rcases HO2c.out.2 with ⟨_, h0⟩ | ⟨g, cap, cur, h1, hb, hg, hn, hm, hsz, ht⟩
      · simp at h0
      · simp only [Value.slice.injEq] at h1
        obtain ⟨rfl, _, rfl⟩ := h1
        exact ⟨g, rfl, by simp at hb; omega, cur, hg, by rw [hsz]; exact Nat.mul_le_mul_right 9 hn⟩
    subst hga
    have hgne : g ≠ w2.heap.size := by
      rintro rfl
      have h := KG3.out
      rw [hgc] at h
      injection h with h
      injection h with h1 h2
      exact absurd h2 (by decide)
    have hgne1 : g ≠ w1.heap.size := by
      rintro rfl
      have h := KW3.out
      rw [hgc] at h
      injection h with h
      injection h with h1 h2
      exact absurd h2 (by decide)
    have hgw : w.heap.size ≤ g := Nat.le_trans hw1 hgb
    have hg3 : g < w3.heap.size := blkLt hgc
    have HMK := Lib.hid (show ∀ W : World, Below w3.heap.size w3 W → MkSI W W g (d0 :: dt).length 0 1 from fun W hW => ⟨cs, blkK hW hgc, hgs, fun i j hi => absurd hi (by omega), World.grownBy.refl _ _⟩)
    have HLN := Lib.hid (show (d0 :: dt).length ≤ 1048576 by have := HL.out; omega)
    have HLV := HL.out
    have HNE := Lib.hid (show ∀ k, (Value.slice a1 (d0 :: dt).length c1).ownBlock = some k → some g ≠ some k from fun k hk e => by
      have h1 := HK1.out k hk
      have h2 := Option.some.inj e
      omega)
    obtain ⟨n, hn⟩ : ∃ n, (d0 :: dt).length = n := ⟨_, rfl⟩
    have HN := Lib.hid hn
    rw [hn] at HMK HLV HLN KG3 KW3 HV HEQ HNE ⊢
    have HO1n : Hid (itE.Own w3 w.heap.size (.slice a1 n c1) (d0 :: dt)) := Lib.hid (by rw [← hn]; exact HO1c.out)
    obtain ⟨xs, hxs⟩ : ∃ xs, xs = d0 :: dt := ⟨_, rfl⟩
    rw [← hxs] at HO1n HV HEQ
    clear hgc hgs hn HK1 HZ2b HO1c HO2c HN HL hxs
    have hnl := HLN.out
    obtain ⟨hcG, hfG⟩ := heap_cellR KG3.out
    have hr9 : (0 : Int) ≤ 1 + 9 * (n : Int) := by omega
    go_wp2_with fail
    refine (markLabel_of rows cols (.slice (some ⟨g, 0, none⟩) n c2) 1 (1 + 9 * (n : Int)) _ (fun w' => ∃ cs, w'.heap[g]? = some (.cells cs 49 (0, 0)) ∧ MkI cs 1 n ∧ w3.grownBy w' (some g)) (fun w1 hw => (markItemS_box g n c2 1 w1 (by rw [hw]; exact HMK.out _ (ba1 _ _)) hnl (by omega) (by omega)).mono fun e w' ⟨he, cs4, h1, _, h3, h4⟩ => ⟨he, cs4, h1, h3, by
      rw [hw] at h4
      have hb := ba1 w3 (.cells #[.int .i64 rows, .int .i64 cols, .slice (some ⟨g, 0, none⟩) n c2] 29 (0, 0))
      exact grownBy_trans (⟨hb.os, hb.tape, hb.output, hb.size, fun k hk _ => hb.block k hk⟩ : w3.grownBy _ _) h4⟩) ⟨_, _, _, rfl⟩).mono ?_
    rintro e w4 ⟨rfl, cs4, hg4, hm4, hgb4⟩
    have HG4 := Lib.hid hg4
    have HM4 := Lib.hid hm4
    have HB4 := Lib.hid (HB3.out.trans (below_of_grownBy hgb4 HB3.out.size (fun k e => by cases e; exact hgw)))
    have HO1d := Lib.hid (Enc.Own.other HO1n.out hgb4 HNE.out)
    have KW4 := Lib.hid (show w4.heap[w1.heap.size]? = some (.cells #[.int .i64 rows, .int .i64 cols, .slice a1 n c1] 29 (0, 0)) from (hgb4.block _ (blkLt KW3.out) (fun e => hgne1 (Option.some.inj e).symm)).trans KW3.out)
    have KG4 := Lib.hid (show w4.heap[w2.heap.size]? = some (.cells #[.int .i64 rows, .int .i64 cols, .slice (some ⟨g, 0, none⟩) n c2] 29 (0, 0)) from (hgb4.block _ (blkLt KG3.out) (fun e => hgne (Option.some.inj e).symm)).trans KG3.out)
    clear hg4 hm4 hgb4 hcG hfG
    obtain ⟨hcG, hfG⟩ := heap_cellR KG4.out
    have hlG := blkLt KG4.out
    go_wp2_with fail
    refine (heldLabel_of rows cols (.slice (some ⟨g, 0, none⟩) n c2) 1 (1 + 9 * (n : Int)) hr9 _ (fun w' => Below w4.heap.size w4 w') (fun w1 hw => (heldItemS_box g n c2 1 w1 cs4 (by rw [hw]; exact push_old HG4.out) HM4.out hnl (by omega) (by omega)).mono fun e w' ⟨he, hb⟩ => ⟨he, by rw [hw] at hb; exact bt0 (ba1 _ _) hb (Nat.le_refl _)⟩) ⟨_, _, _, rfl⟩).mono ?_
    rintro e w5 ⟨rfl, hb5⟩
    have HG5 := Lib.hid (blkK hb5 HG4.out)
    have HO1e := Lib.hid (HO1d.out.grown hb5)
    have HB5 := Lib.hid (bt0 HB4.out hb5 (Nat.le_refl _))
    have KW5 := Lib.hid (blkK hb5 KW4.out)
    have KG5 := Lib.hid (blkK hb5 KG4.out)
    have hne9 : ((1 + 9 * (n : Int)) != (1 + 9 * (n : Int))) = false := by simp
    have hlt9 : ¬ (1 + 9 * (n : Int)) < 0 := by omega
    clear hb5 hcG hfG hlG
    go_wp2_with fail
    refine (HIM.out _ (HE.out.next HB5.out)).mono ?_
    intro e w6 h6
    obtain ⟨a6, c6, rfl, ho6, hb6⟩ := HV.out _ _ _ h6
    have HO6 := Lib.hid (ho6.grown (ba1 w6 (.cells #[.int .i64 rows, .int .i64 cols, .slice a6 n c6] 29 (0, 0))))
    have HO1f := Lib.hid ((HO1e.out.grown hb6).grown (ba1 w6 (.cells #[.int .i64 rows, .int .i64 cols, .slice a6 n c6] 29 (0, 0))))
    have HB6 := Lib.hid (bt0 (bt0 HB5.out hb6 (Nat.le_refl _)) (ba1 w6 (.cells #[.int .i64 rows, .int .i64 cols, .slice a6 n c6] 29 (0, 0))) (Nat.le_refl _))
    have KW6 := Lib.hid (blkK hb6 KW5.out)
    have KG6 := Lib.hid (push_old (A := .cells #[.int .i64 rows, .int .i64 cols, .slice a6 n c6] 29 (0, 0)) (blkK hb6 KG5.out))
    have HG6 := Lib.hid (push_old (A := .cells #[.int .i64 rows, .int .i64 cols, .slice a6 n c6] 29 (0, 0)) (blkK hb6 HG5.out))
    clear h6 ho6 hb6
    obtain ⟨hcW, hfW⟩ := heap_cellR KW6.out
    have hlW := blkLt KW6.out
    go_wp2_with fail
    refine (HEQ.out a6 a1 c6 c1 _ HO6.out.at HO1f.out.at).mono ?_
    rintro e w7 ⟨rfl, hb7⟩
    have HB7 := Lib.hid (bt0 HB6.out hb7 (Nat.le_refl _))
    have KG7 := Lib.hid (blkK hb7 KG6.out)
    have HG7 := Lib.hid (blkK hb7 HG6.out)
    clear hb7 hcW hfW hlW
    obtain ⟨hcG, hfG⟩ := heap_cellR KG7.out
    have hlG := blkLt KG7.out
    go_wp2_with fail
    refine (heldLabel_of rows cols (.slice (some ⟨g, 0, none⟩) n c2) 1 (1 + 9 * (n : Int)) hr9 _ (fun w' => Below w7.heap.size w7 w') (fun w1 hw => (heldItemS_box g n c2 1 w1 cs4 (by rw [hw]; exact push_old HG7.out) HM4.out hnl (by omega) (by omega)).mono fun e w' ⟨he, hb⟩ => ⟨he, by rw [hw] at hb; exact bt0 (ba1 _ _) hb (Nat.le_refl _)⟩) ⟨_, _, _, rfl⟩).mono ?_
    rintro e w8 ⟨rfl, hb8⟩
    have HB8 := Lib.hid (bt0 HB7.out hb8 (Nat.le_refl _))
    clear hb8 hcG hfG hlG
    go_wp2_with fail
    go_ret
    exact ⟨rfl, HB8.out⟩

end Go.Proofs.YtlcglclojlffgaaGreatDoor
