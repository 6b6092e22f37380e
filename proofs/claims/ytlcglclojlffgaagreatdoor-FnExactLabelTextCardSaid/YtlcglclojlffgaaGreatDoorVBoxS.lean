import Derived.Test.YtlcglclojlffgaaGreatDoorM0
import Derived.Test.YtlcglclojlffgaaGreatDoorM4
import Derived.Test.YtlcglclojlffgaaGreatDoorM2
import Derived.Test.YtlcglclojlffgaaGreatDoorVDec
import Derived.Test.YtlcglclojlffgaaGreatDoorM1
namespace Go.Proofs.YtlcglclojlffgaaGreatDoor
open Go.RowKit

theorem indexByte_iff (c : UInt8) : ∀ l : List UInt8, decide (0 ≤ Lib.indexByte l c) = l.contains c ∧ -1 ≤ Lib.indexByte l c
  | [] => by simp [Lib.indexByte]
  | b :: l => by
    obtain ⟨h1, h2⟩ := indexByte_iff c l
    unfold Lib.indexByte
    by_cases hb : b = c
    · subst hb; simp
    · rw [if_neg (by simpa using hb), List.contains_cons, show (c == b) = false from by rw [beq_eq_false_iff_ne]; exact fun e => hb e.symm, Bool.false_or, ← h1]
      by_cases hm : Lib.indexByte l c = -1
      · rw [if_pos (by simpa using hm), hm]; decide
      · rw [if_neg (by simpa using hm)]
        refine ⟨?_, by omega⟩
        rw [decide_eq_decide]
        omega
theorem libF_ok : ∀ f ∈ libF, f.ok = true := by decide +kernel
theorem libF_nm : ∀ f ∈ libF, f.name.size ≤ 1048576 := by decide
theorem famN_nm {nm : ByteArray} {f : Fam} (h : famN nm = some f) : f.name.size ≤ 1048576 := libF_nm f (List.mem_of_find?_eq_some h)
theorem famN_ok {nm : ByteArray} {f : Fam} (h : famN nm = some f) : f.ok = true := libF_ok f (List.mem_of_find?_eq_some h)
theorem boxI_sym {x : It} (hk : x.kind = 3) : boxI x = if scaledI x = true ∧ (x.text.data.toList.contains 10) = false then (match famN x.name with | some f => (smS f x.level x.text.data.toList).map fun n => (n * x.scale, colsF f n * x.scale) | none => none) else none := by
  rw [boxI, if_neg (by rw [hk]; decide), if_neg (by rw [hk]; decide), if_pos hk]; rfl

theorem kind_st (nm : ByteArray) (p k g cl : Int) (s1 s2 : Value) (w : World) :
    Calls Tryz.prog 176 #[.agg #[.string nm, .int .i64 2, .int .i64 p, .int .i64 k, .int .i64 g, s1, .int .i64 cl, s2]] w fun e w' => e = .returned (.iface 232 (.agg #[.string nm, .int .i64 2, .int .i64 p, .int .i64 k, .int .i64 g, s1, .int .i64 cl, s2])) ∧ Below w.heap.size w w' := by
  go_enter Tryz.func176, Tryz.ntmps176
  go_wp2_with fail
  go_ret
  exact ⟨rfl, ba1 _ _⟩
theorem kind_mx (nm : ByteArray) (kd p k g cl : Int) (s1 s2 : Value) (hk : (kd == 2) = false) (w : World) :
    Calls Tryz.prog 176 #[.agg #[.string nm, .int .i64 kd, .int .i64 p, .int .i64 k, .int .i64 g, s1, .int .i64 cl, s2]] w fun e w' => e = .returned (.iface 233 (.agg #[.string nm, .int .i64 kd, .int .i64 p, .int .i64 k, .int .i64 g, s1, .int .i64 cl, s2])) ∧ Below w.heap.size w w' := by
  go_enter Tryz.func176, Tryz.ntmps176
  go_wp2_with fail
  go_ret
  exact ⟨rfl, ba1 _ _⟩
theorem rowWidth_any (v : Int) (hv : 0 ≤ v ∧ v ≤ 1000) (w : World) :
    Calls Tryz.prog 266 #[.int .i64 v] w fun e w' => e = .returned (.int .i64 (15 + 11 * v)) ∧ w = w' := by
  have h1 : wrap64 (11 * v) = 11 * v := by unfold wrap64; omega
  have h2 : wrap64 (7 + 11 * v) = 7 + 11 * v := by unfold wrap64; omega
  have h3 : wrap64 (7 + 11 * v + 8) = 15 + 11 * v := by unfold wrap64; omega
  go_enter Tryz.func266, Tryz.ntmps266
  go_wp2_with fail
  go_ret
  exact ⟨ret_int (by omega), rfl⟩
theorem cols_st (nm : ByteArray) (kd p k g cl : Int) (s1 s2 : Value) (n : Int) (hc : 1 ≤ cl ∧ cl ≤ 8) (w : World) :
    Calls Tryz.prog 265 #[.agg #[.string nm, .int .i64 kd, .int .i64 p, .int .i64 k, .int .i64 g, s1, .int .i64 cl, s2], .int .i64 n] w fun e w' => e = .returned (.int .i64 (15 + 11 * (cl + 2))) ∧ Below w.heap.size w w' := by
  go_enter Tryz.func265, Tryz.ntmps265
  go_wp2_with fail
  refine (rowWidth_any _ (by omega) _).mono ?_
  rintro e w' ⟨rfl, rfl⟩
  go_wp2_with fail
  go_ret
  exact ⟨rfl, ba1 _ _⟩
theorem cols_mx (nm : ByteArray) (kd p k g cl : Int) (s1 s2 : Value) (n : Int) (w : World) :
    Calls Tryz.prog 267 #[.agg #[.string nm, .int .i64 kd, .int .i64 p, .int .i64 k, .int .i64 g, s1, .int .i64 cl, s2], .int .i64 n] w fun e w' => e = .returned (.int .i64 n) ∧ Below w.heap.size w w' := by
  go_enter Tryz.func267, Tryz.ntmps267
  go_wp2_with fail
  go_ret
  exact ⟨rfl, ba1 _ _⟩
theorem meth_st (nm : ByteArray) (kd p k g cl : Int) (s1 s2 : Value) : Meth 232 (.agg #[.string nm, .int .i64 kd, .int .i64 p, .int .i64 k, .int .i64 g, s1, .int .i64 cl, s2]) "loop.example/g00879/impl.cols" 265 :=
  ⟨fun n W => by kernel_rfl, fun args W => by kernel_rfl, fun n W => by kernel_rfl⟩
theorem meth_mx (nm : ByteArray) (kd p k g cl : Int) (s1 s2 : Value) : Meth 233 (.agg #[.string nm, .int .i64 kd, .int .i64 p, .int .i64 k, .int .i64 g, s1, .int .i64 cl, s2]) "loop.example/g00879/impl.cols" 267 :=
  ⟨fun n W => by kernel_rfl, fun args W => by kernel_rfl, fun n W => by kernel_rfl⟩
/-- the kind of a valid family, and its columns -/
theorem kind_any (f : Fam) (hf : f.ok = true) (b1 b2 : Nat) (_w : World) (n : Int) : ∃ T fn, Meth T (fmA f b1 b2) "loop.example/g00879/impl.cols" fn ∧
    (∀ w, Calls Tryz.prog 176 #[fmA f b1 b2] w fun e w' => e = .returned (.iface T (fmA f b1 b2)) ∧ Below w.heap.size w w') ∧
    (∀ w, Calls Tryz.prog fn #[fmA f b1 b2, .int .i64 n] w fun e w' => e = .returned (.int .i64 (colsF f n)) ∧ Below w.heap.size w w') := by
  obtain ⟨nm, kd, p, k, g, szs, cl, lvs⟩ := f
  obtain ⟨-, -, -, -, h5⟩ := fam_ok hf
  rcases h5 with ⟨rfl, -, -⟩ | ⟨rfl, -, -, -, h6, -⟩
  · exact ⟨_, _, meth_mx _ _ _ _ _ _ _ _, fun w => kind_mx _ _ _ _ _ _ _ _ (show ((1 : Int) == 2) = false by decide) w, fun w => cols_mx _ _ _ _ _ _ _ _ _ w⟩
  · exact ⟨_, _, meth_st _ _ _ _ _ _ _ _, fun w => kind_st _ _ _ _ _ _ _ w, fun w => cols_st _ _ _ _ _ _ _ _ _ h6 w⟩

theorem mul_bd {a b m n : Int} (ha : 1 ≤ a ∧ a ≤ m) (hb : 1 ≤ b ∧ b ≤ n) : 1 ≤ a * b ∧ a * b ≤ m * n := by
  have h1 : 1 * 1 ≤ a * b := Int.mul_le_mul ha.1 hb.1 (by omega) (by omega)
  have h2 : a * b ≤ m * n := Int.mul_le_mul ha.2 hb.2 (by omega) (by omega)
  omega
theorem smS_mem {f : Fam} {lev : Int} {S : List UInt8} {n : Int} (h : smS f lev S = some n) : n ∈ f.sizes := by
  unfold smS at h
  split at h
  · split at h
    · exact List.mem_of_find?_eq_some h
    · cases h
  · cases h
theorem colsF_bd {f : Fam} (hf : f.ok = true) {n : Int} (hn : n ∈ f.sizes) : 1 ≤ colsF f n ∧ colsF f n ≤ 125 := by
  obtain ⟨nm, kd, p, k, g, szs, cl, lvs⟩ := f
  have h1 := fam_sz hf hn
  obtain ⟨-, -, -, -, h5⟩ := fam_ok hf
  unfold colsF
  dsimp only
  rcases h5 with ⟨rfl, -, -⟩ | ⟨rfl, -, -, -, h6, -⟩
  · rw [if_pos rfl]; omega
  · rw [if_neg (by decide)]; omega
set_option maxRecDepth 100000 in
set_option maxHeartbeats 8000000 in
theorem symbolBox_any (x : It) (w : World) (hk : x.kind = 3) (hs : x.text.size ≤ 1048576) :
    Calls Tryz.prog 170 #[itV x] w (RetBx w (boxI x)) := by
  have HN := Lib.hid (fun (h : ¬ ((((1 ≤ x.scale ∧ x.scale ≤ 8) ∧ x.tall = 0) ∧ x.wide = 0) ∧ (x.text.data.toList.contains 10) = false)) => (boxI_sym hk).trans (if_neg (fun hh => h ⟨scaledI_iff.1 hh.1, hh.2⟩)))
  have HY := Lib.hid (fun (h : (((1 ≤ x.scale ∧ x.scale ≤ 8) ∧ x.tall = 0) ∧ x.wide = 0) ∧ (x.text.data.toList.contains 10) = false) => (boxI_sym hk).trans (if_pos ⟨scaledI_iff.2 h.1, h.2⟩))
  obtain ⟨O, hO⟩ : ∃ O, O = boxI x := ⟨_, rfl⟩
  rw [← hO] at HN HY ⊢
  obtain ⟨kd, row, col, sc, tall, wide, nm, lev, tx⟩ := x
  dsimp only at hk hs HN HY ⊢
  subst hk
  clear hO
  have HIX := Lib.hid (indexByte_iff 10 tx.data.toList)
  have HBY := Lib.hid (fun w => Tryz.strings_IndexByte tx 10 w)
  have hte : (10 : Int).toNat.toUInt8 = (10 : UInt8) := rfl
  rw [hte] at HBY
  obtain ⟨ix, hix⟩ : ∃ ix, ix = Lib.indexByte tx.data.toList 10 := ⟨_, rfl⟩
  rw [← hix] at HIX HBY
  obtain ⟨S, hS⟩ : ∃ S, S = tx.data.toList := ⟨_, rfl⟩
  have HS := Lib.hid hS
  rw [← hS] at HN HY HIX
  clear hix hS hte
  have HK := Lib.hid (push_at w (.cells #[.int .i64 3, .int .i64 row, .int .i64 col, .int .i64 sc, .int .i64 tall, .int .i64 wide, .string nm, .int .i64 lev, .string tx] 113 (0, 0)))
  have HB := Lib.hid (ba1 w (.cells #[.int .i64 3, .int .i64 row, .int .i64 col, .int .i64 sc, .int .i64 tall, .int .i64 wide, .string nm, .int .i64 lev, .string tx] 113 (0, 0)))
  go_enter Tryz.func170, Tryz.ntmps170
  rcases Bool.eq_false_or_eq_true (inB sc 1 8) with h2 | h2
  rotate_left
  · have HR := Lib.hid (HN.out (fun h => by rw [inB_iff.2 (by omega)] at h2; cases h2))
    go_wp2_with (go_at_call 71; refine (inRange_any _ _ _ _).mono ?_; rw [h2]; rintro e w' ⟨rfl, rfl⟩)
    exact bodyPost_ret (v := .tuple #[.int .i64 0, .int .i64 0, .bool false]) (by simp [results, Tryz.results170, go_sem]) rfl ⟨HB.out, .inr ⟨HR.out, rfl⟩⟩
  by_cases h3 : tall = 0
  rotate_left
  · have HR := Lib.hid (HN.out (fun h => h3 h.1.1.2))
    have h3b : (tall == 0) = false := by rw [beq_eq_false_iff_ne]; exact h3
    go_wp2_with (go_at_call 71; refine (inRange_any _ _ _ _).mono ?_; rw [h2]; rintro e w' ⟨rfl, rfl⟩)
    exact bodyPost_ret (v := .tuple #[.int .i64 0, .int .i64 0, .bool false]) (by simp [results, Tryz.results170, go_sem]) rfl ⟨HB.out, .inr ⟨HR.out, rfl⟩⟩
  subst h3
  by_cases h4 : wide = 0
  rotate_left
  · have HR := Lib.hid (HN.out (fun h => h4 h.1.2))
    have h4b : (wide == 0) = false := by rw [beq_eq_false_iff_ne]; exact h4
    go_wp2_with (go_at_call 71; refine (inRange_any _ _ _ _).mono ?_; rw [h2]; rintro e w' ⟨rfl, rfl⟩)
    exact bodyPost_ret (v := .tuple #[.int .i64 0, .int .i64 0, .bool false]) (by simp [results, Tryz.results170, go_sem]) rfl ⟨HB.out, .inr ⟨HR.out, rfl⟩⟩
  subst h4
  by_cases h5 : 0 ≤ ix
  · have HR := Lib.hid (HN.out (fun h => by have h1 := HIX.out.1; rw [h.2, decide_eq_true h5] at h1; cases h1))
    go_wp2_with (first
      | (go_at_call 71; refine (inRange_any _ _ _ _).mono ?_; rw [h2]; rintro e w' ⟨rfl, rfl⟩)
      | (go_at_call 173; refine (HBY.out _).mono ?_; rintro e w' ⟨rfl, rfl⟩))
    exact bodyPost_ret (v := .tuple #[.int .i64 0, .int .i64 0, .bool false]) (by simp [results, Tryz.results170, go_sem]) rfl ⟨HB.out, .inr ⟨HR.out, rfl⟩⟩
  have HSC := Lib.hid (inB_iff.1 h2)
  have HC := Lib.hid (show (S.contains 10) = false by rw [← HIX.out.1]; exact decide_eq_false h5)
  have HY2 := Lib.hid (HY.out ⟨by simp only [and_true]; exact HSC.out, HC.out⟩)
  clear HN HY
  go_wp2_with (first
    | (go_at_call 71; refine (inRange_any _ _ _ _).mono ?_; rw [h2]; rintro e w' ⟨rfl, rfl⟩)
    | (go_at_call 173; refine (HBY.out _).mono ?_; rintro e w' ⟨rfl, rfl⟩))
  refine (familyNamed_any nm _).mono ?_
  rintro e w1 ⟨hb1, hr⟩
  have K1 := Lib.hid (blkK hb1 HK.out)
  have HB1 := Lib.hid (bt0 HB.out hb1 (Nat.le_refl _))
  clear hb1 h2 h5
  rcases hr with ⟨f, b1, b2, hf, rfl, hi1, hi2⟩ | ⟨hf, rfl⟩
  rotate_left
  · have HR := Lib.hid (show O = none by rw [HY2.out, hf])
    go_wp2_with fail
    exact bodyPost_ret (v := .tuple #[.int .i64 0, .int .i64 0, .bool false]) (by simp [results, Tryz.results170, go_sem]) rfl ⟨bt0 HB1.out (ba1 _ _) (Nat.le_refl _), .inr ⟨HR.out, rfl⟩⟩
  have HFK := Lib.hid (famN_ok hf)
  have HO := Lib.hid (show O = (smS f lev S).map fun n => (n * sc, colsF f n * sc) by rw [HY2.out, hf])
  have HI1 := Lib.hid hi1
  have HI2 := Lib.hid hi2
  have HSM := Lib.hid (fun w' (h1 : IntsAt w' (some ⟨b1, 0, none⟩) f.sizes) (h2 : IntsAt w' (some ⟨b2, 0, none⟩) f.levels) => smallestSize_any f.name f.kind f.fp f.fk f.fg (some ⟨b1, 0, none⟩) f.sizes f.sizes.length f.cols (some ⟨b2, 0, none⟩) f.levels f.levels.length lev tx w' HFK.out h1 h2 (famN_nm hf) hs)
  rw [← HS.out] at HSM
  clear hf hi1 hi2 HY2
  obtain ⟨hcA, hfA⟩ := heap_cellR K1.out
  have z1 := blkLt K1.out
  go_wp2_with fail
  have KF := Lib.hid (push_at w1 (.cells #[.string f.name, .int .i64 f.kind, .int .i64 f.fp, .int .i64 f.fk, .int .i64 f.fg, .slice (some ⟨b1, 0, none⟩) f.sizes.length f.sizes.length, .int .i64 f.cols, .slice (some ⟨b2, 0, none⟩) f.levels.length f.levels.length] 123 (0, 0)))
  have HBF := Lib.hid (bt0 HB1.out (ba1 w1 (.cells #[.string f.name, .int .i64 f.kind, .int .i64 f.fp, .int .i64 f.fk, .int .i64 f.fg, .slice (some ⟨b1, 0, none⟩) f.sizes.length f.sizes.length, .int .i64 f.cols, .slice (some ⟨b2, 0, none⟩) f.levels.length f.levels.length] 123 (0, 0))) (Nat.le_refl _))
  refine (HSM.out _ (HI1.out.below (ba1 _ _)).at (HI2.out.below (ba1 _ _)).at).mono ?_
  obtain ⟨SM, hSM⟩ : ∃ SM, SM = smS f lev S := ⟨_, rfl⟩
  have HSMe := Lib.hid hSM
  rw [← hSM] at HO ⊢
  clear hSM
  rintro e w2 ⟨hb2, hr⟩
  have KF2 := Lib.hid (blkK hb2 KF.out)
  have K2 := Lib.hid (blkK hb2 (blkK (ba1 _ _) K1.out))
  have HB2 := Lib.hid (bt0 HBF.out hb2 (Nat.le_refl _))
  clear hb2 hcA hfA
  obtain ⟨hcA, hfA⟩ := heap_cellR K2.out
  obtain ⟨hcF, hfF⟩ := heap_cellR KF2.out
  have z2 := blkLt K2.out
  have z3 := blkLt KF2.out
  rcases hr with ⟨n, hn, rfl⟩ | ⟨hn, cd, hcd, rfl⟩
  rotate_left
  · have HR := Lib.hid (show O = none by rw [HO.out, hn]; rfl)
    have hcb : (cd != 0) = true := by simpa using hcd
    clear hcd
    go_wp2_with fail
    exact bodyPost_ret (v := .tuple #[.int .i64 0, .int .i64 0, .bool false]) (by simp [results, Tryz.results170, go_sem]) rfl ⟨HB2.out, .inr ⟨HR.out, rfl⟩⟩
  have HR := Lib.hid (show O = some (n * sc, colsF f n * sc) by rw [HO.out, hn]; rfl)
  have hm := smS_mem (HSMe.out.symm.trans hn)
  have b1n := fam_sz (nm := f.name) (kd := f.kind) (p := f.fp) (k := f.fk) (g := f.fg) (szs := f.sizes) (cl := f.cols) (lvs := f.levels) HFK.out hm
  have b2n := colsF_bd HFK.out hm
  have hsc := HSC.out
  have e1 := mul_bd (a := n) (b := sc) (m := 41) (n := 8) (by omega) hsc
  have e2 := mul_bd (a := colsF f n) (b := sc) (m := 125) (n := 8) b2n hsc
  obtain ⟨T, fn, hMT, hKD, hCO⟩ := kind_any f HFK.out b1 b2 w n
  have HMT := Lib.hid hMT
  have HKD := Lib.hid hKD
  have HCO := Lib.hid hCO
  obtain ⟨CF, hCF⟩ : ∃ CF, CF = colsF f n := ⟨_, rfl⟩
  rw [← hCF] at HCO HR e2
  obtain ⟨R1, hR1⟩ : ∃ R, n * sc = R := ⟨_, rfl⟩
  obtain ⟨R2, hR2⟩ : ∃ R, CF * sc = R := ⟨_, rfl⟩
  rw [hR1, hR2] at HR
  rw [hR1] at e1
  rw [hR2] at e2
  have hw1 : wrap64 (n * sc) = R1 := by rw [hR1]; unfold wrap64; omega
  have hw2 : wrap64 (CF * sc) = R2 := by rw [hR2]; unfold wrap64; omega
  clear hn hm b2n hMT hKD hCO hCF hR1 hR2 hsc
  go_wp2_with fail
  refine wp_region_ext (by kernel_rfl) (by kernel_rfl) ?_
  repeat (first
    | (go_big_quiet_step ((go_at_call 176; go_must (exact calls_ext _ (HKD.out _)))))
    | (refine quiet_invoke1 rfl 60 61 "loop.example/g00879/impl.cols" _ rfl T (fmA f b1 b2) _ fn (.int .i64 CF) rfl rfl HMT.out (fun _ ⟨s, hs⟩ => by subst hs; exact calls_ext s (HCO.out _)) ?_; simp only [Act.put, List.setIfInBounds_toArray, List.set_cons_zero, List.set_cons_succ]))
  refine wpQuiet_nil ?_
  rintro _ ⟨s, rfl⟩
  have HS2 := Lib.hid s.below
  go_wp2_with fail
  exact bodyPost_ret (v := .tuple #[.int .i64 R1, .int .i64 R2, .bool true]) (by simp [results, Tryz.results170, go_sem, hw1, hw2]) rfl ⟨bt0 HB2.out HS2.out (Nat.le_refl _), .inl ⟨_, _, HR.out, rfl⟩⟩

end Go.Proofs.YtlcglclojlffgaaGreatDoor
