import Derived.Test.YtlcglclojlffgaaGreatDoorVSpLh
namespace Go.Proofs.YtlcglclojlffgaaGreatDoor
open Go.RowKit

/-- the rows and columns of a box and a code are handed back -/
def RetBc (w : World) (o : Option (Int × Int)) (e : Ending) (w' : World) : Prop :=
  Below w.heap.size w w' ∧ ((∃ r c, o = some (r, c) ∧ e = .returned (.tuple #[.int .i64 r, .int .i64 c, .int .i64 0])) ∨ (o = none ∧ e = .returned (.tuple #[.int .i64 0, .int .i64 0, .int .i64 1])))
theorem boxI_t1 {x : It} (hk : x.kind = 1) : boxI x = if plainI x = true ∧ scaledI x = true ∧ glyT x.text = true then some (5 * x.scale, (4 * x.text.size - 1) * x.scale) else none := by
  rw [boxI_text hk]
  have e : (plainI x = true ∧ scaledI x = true ∧ 1 ≤ x.text.size ∧ x.text.size ≤ 40 ∧ (x.text.data.toList.all fun b => glyB b.toNat) = true) ↔ (plainI x = true ∧ scaledI x = true ∧ glyT x.text = true) := by
    rw [glyT, Bool.and_eq_true, inB_iff]
    constructor
    · rintro ⟨h1, h2, h3, h4, h5⟩; exact ⟨h1, h2, h5, by omega, by omega⟩
    · rintro ⟨h1, h2, h5, h3, h4⟩; exact ⟨h1, h2, by omega, by omega, h5⟩
  by_cases h : plainI x = true ∧ scaledI x = true ∧ glyT x.text = true
  · rw [if_pos h, if_pos (e.2 h)]
  · rw [if_neg h, if_neg (fun hh => h (e.1 hh))]
theorem boxI_t3 {x : It} (hk : x.kind = 3) : boxI x = if scaledI x = true then (symI x).map fun p => (p.1 * x.scale, p.2 * x.scale) else none := by
  rw [boxI_sym hk, symI]
  by_cases h : scaledI x = true
  · rw [if_pos h]
    by_cases h2 : (x.text.data.toList.contains 10) = false
    · rw [if_pos ⟨h, h2⟩, if_pos h2]
      cases famN x.name with
      | none => rfl
      | some f => simp [Option.map_map, Function.comp_def]
    · rw [if_neg (fun hh => h2 hh.2), if_neg h2]; rfl
  · rw [if_neg h, if_neg (fun hh => h hh.1)]
theorem scaledI_in (x : It) : scaledI x = (inB x.scale 1 8 && decide (x.tall = 0) && decide (x.wide = 0)) := by
  rw [Bool.eq_iff_iff]; simp [scaledI, inB]
theorem symI_bd {x : It} {r c : Int} (h : symI x = some (r, c)) : (1 ≤ r ∧ r ≤ 41) ∧ (1 ≤ c ∧ c ≤ 125) := by
  unfold symI at h
  split at h
  · split at h
    · next f hf =>
      rw [Option.map_eq_some_iff] at h
      obtain ⟨n, hn, h⟩ := h
      simp only [Prod.mk.injEq] at h
      obtain ⟨rfl, rfl⟩ := h
      have hm := smS_mem hn
      have ho := famN_ok hf
      have b1 := fam_sz (nm := f.name) (kd := f.kind) (p := f.fp) (k := f.fk) (g := f.fg) (szs := f.sizes) (cl := f.cols) (lvs := f.levels) ho hm
      exact ⟨by omega, colsF_bd ho hm⟩
    · cases h
  · cases h
set_option maxRecDepth 100000 in
set_option maxHeartbeats 8000000 in
theorem spItemBox_any (x : It) (w : World) (hs : x.text.size ≤ 1048576) :
    Calls Tryz.prog 35 #[itV x] w (RetBc w (boxI x)) := by
  have HSY := Lib.hid (fun w => spSymbol_any x w hs)
  have HTX := Lib.hid (fun w => spText_any x.text w hs)
  have HSB := Lib.hid (fun r c h => symI_bd (x := x) (r := r) (c := c) h)
  have H0 := Lib.hid (fun h1 h2 h3 => boxI_bad (x := x) h1 h2 h3)
  have H1 := Lib.hid (fun h => boxI_t1 (x := x) h)
  have H2 := Lib.hid (fun h => boxI_line (x := x) h)
  have H3 := Lib.hid (fun h => boxI_t3 (x := x) h)
  have HPL := Lib.hid (show plainI x = (decide (x.name = ⟨#[]⟩) && decide (x.level = 0)) from rfl)
  have HSC := Lib.hid (scaledI_in x)
  obtain ⟨O, hO⟩ : ∃ O, O = boxI x := ⟨_, rfl⟩
  obtain ⟨PL, hPL⟩ : ∃ PL, PL = plainI x := ⟨_, rfl⟩
  obtain ⟨SC, hSC⟩ : ∃ SC, SC = scaledI x := ⟨_, rfl⟩
  obtain ⟨SY, hSY⟩ : ∃ SY, SY = symI x := ⟨_, rfl⟩
  rw [← hO] at H0 H1 H2 H3 ⊢
  rw [← hPL] at H1 H2 HPL
  rw [← hSC] at H1 H3 HSC
  rw [← hSY] at H3 HSY HSB
  clear hO hPL hSC hSY
  obtain ⟨kd, row, col, sc, tall, wide, nm, lev, tx⟩ := x
  dsimp only at hs HSY HTX HSB H0 H1 H2 H3 HPL HSC ⊢
  obtain ⟨G, hG⟩ : ∃ G, G = glyT tx := ⟨_, rfl⟩
  rw [← hG] at H1 HTX
  have HGT := Lib.hid (show G = true → 1 ≤ (tx.size : Int) ∧ (tx.size : Int) ≤ 40 from fun h => by rw [hG, glyT, Bool.and_eq_true, inB_iff] at h; exact h.2)
  clear hG
  have hK := push_at w (.cells #[.int .i64 kd, .int .i64 row, .int .i64 col, .int .i64 sc, .int .i64 tall, .int .i64 wide, .string nm, .int .i64 lev, .string tx] 49 (0, 0))
  have hB := ba1 w (.cells #[.int .i64 kd, .int .i64 row, .int .i64 col, .int .i64 sc, .int .i64 tall, .int .i64 wide, .string nm, .int .i64 lev, .string tx] 49 (0, 0))
  obtain ⟨W, hW⟩ : ∃ W, W = w.alloc (.cells #[.int .i64 kd, .int .i64 row, .int .i64 col, .int .i64 sc, .int .i64 tall, .int .i64 wide, .string nm, .int .i64 lev, .string tx] 49 (0, 0)) := ⟨_, rfl⟩
  have HW := Lib.hid hW
  rw [← hW] at hK hB
  have K := Lib.hid hK
  have HB := Lib.hid hB
  clear hK hB hW
  obtain ⟨hcA, hfA⟩ := heap_cellR K.out
  have hlA := blkLt K.out
  go_enter Tryz.func35, Tryz.ntmps35
  go_upto_region 1 with fail
  go_cut [5] (fun p wx => p = .bool PL ∧ W = wx)
  case first =>
    rw [← HW.out]
    by_cases h1 : nm = ⟨#[]⟩
    · subst h1
      by_cases h2 : lev = 0
      · subst h2
        have HR := Lib.hid (show PL = true by rw [HPL.out]; rfl)
        go_wp2_with fail
        go_meet
        exact ⟨by rw [HR.out], rfl⟩
      · have h2b : (lev == 0) = false := by rw [beq_eq_false_iff_ne]; exact h2
        have HR := Lib.hid (show PL = false by rw [HPL.out, decide_eq_false h2, Bool.and_false])
        go_wp2_with fail
        go_meet
        exact ⟨by rw [HR.out], rfl⟩
    · have h1b := bytes_ne h1
      have HR := Lib.hid (show PL = false by rw [HPL.out, decide_eq_false h1, Bool.false_and])
      clear h1
      go_wp2_with fail
      go_meet
      exact ⟨by rw [HR.out], rfl⟩
  case rest =>
  obtain ⟨rfl, rfl⟩ := hcut
  go_upto_region 2 with fail
  go_cut [6] (fun p wx => p = .bool SC ∧ W = wx)
  case first =>
    rcases Bool.eq_false_or_eq_true (inB sc 1 8) with h1 | h1
    · by_cases h2 : tall = 0
      · subst h2
        by_cases h3 : wide = 0
        · subst h3
          have HR := Lib.hid (show SC = true by rw [HSC.out, h1]; rfl)
          go_wp2_with (go_at_call 44; refine (spIn_any _ _ _ _).mono ?_; rw [h1]; rintro e w' ⟨rfl, rfl⟩)
          go_meet
          exact ⟨by rw [HR.out], rfl⟩
        · have h3b : (wide == 0) = false := by rw [beq_eq_false_iff_ne]; exact h3
          have HR := Lib.hid (show SC = false by rw [HSC.out, decide_eq_false h3, Bool.and_false])
          go_wp2_with (go_at_call 44; refine (spIn_any _ _ _ _).mono ?_; rw [h1]; rintro e w' ⟨rfl, rfl⟩)
          go_meet
          exact ⟨by rw [HR.out], rfl⟩
      · have h2b : (tall == 0) = false := by rw [beq_eq_false_iff_ne]; exact h2
        have HR := Lib.hid (show SC = false by rw [HSC.out, decide_eq_false h2, Bool.and_false, Bool.false_and])
        go_wp2_with (go_at_call 44; refine (spIn_any _ _ _ _).mono ?_; rw [h1]; rintro e w' ⟨rfl, rfl⟩)
        go_meet
        exact ⟨by rw [HR.out], rfl⟩
    · have HR := Lib.hid (show SC = false by rw [HSC.out, h1]; rfl)
      go_wp2_with (go_at_call 44; refine (spIn_any _ _ _ _).mono ?_; rw [h1]; rintro e w' ⟨rfl, rfl⟩)
      go_meet
      exact ⟨by rw [HR.out], rfl⟩
  case rest =>
  obtain ⟨rfl, rfl⟩ := hcut
  by_cases k1 : kd = 1
  · subst k1
    have H1' := Lib.hid (H1.out (by first | rfl | trivial))
    clear H0 H2 H3
    rcases Bool.eq_false_or_eq_true PL with rfl | rfl
    · rcases Bool.eq_false_or_eq_true SC with rfl | rfl
      · have hsb : 1 ≤ sc ∧ sc ≤ 8 := by
          have h := HSC.out.symm
          rw [Bool.and_eq_true, Bool.and_eq_true, inB_iff] at h
          exact h.1.1
        go_wp2_with fail
        refine (HTX.out _).mono ?_
        rintro e w2 ⟨rfl, hb2⟩
        have K2 := Lib.hid (blkK hb2 K.out)
        have HB2 := Lib.hid (bt0 HB.out hb2 (Nat.le_refl _))
        clear hb2 hcA hfA
        obtain ⟨hcA, hfA⟩ := heap_cellR K2.out
        have hlB := blkLt K2.out
        rcases Bool.eq_false_or_eq_true G with rfl | rfl
        · have HR := Lib.hid (show O = some (5 * sc, (4 * (tx.size : Int) - 1) * sc) by rw [H1'.out]; exact if_pos (by simp))
          have htx : (1 ≤ (tx.size : Int) ∧ (tx.size : Int) ≤ 40) := HGT.out (by first | rfl | trivial)
          have hb := mul_bd (a := 4 * (tx.size : Int) - 1) (b := sc) (m := 159) (n := 8) (by omega) hsb
          obtain ⟨Z, hZ⟩ : ∃ Z, (4 * (tx.size : Int) - 1) * sc = Z := ⟨_, rfl⟩
          rw [hZ] at hb HR
          have hwz : wrap64 ((4 * (tx.size : Int) - 1) * sc) = Z := by rw [hZ]; unfold wrap64; omega
          clear hZ
          go_wp2_with fail
          go_quiet (fail)
          go_wp2_with fail
          exact bodyPost_ret (v := .tuple #[.int .i64 (5 * sc), .int .i64 Z, .int .i64 0]) (by simp [results, Tryz.results35, go_sem, hwz]) rfl ⟨below_dn HB2.out, .inl ⟨_, _, HR.out, rfl⟩⟩
        · have HR := Lib.hid (show O = none by rw [H1'.out]; simp)
          go_wp2_with fail
          exact bodyPost_ret (v := .tuple #[.int .i64 0, .int .i64 0, .int .i64 1]) (by simp [results, Tryz.results35, go_sem]) rfl ⟨HB2.out, .inr ⟨HR.out, rfl⟩⟩
      · have HR := Lib.hid (show O = none by rw [H1'.out]; simp)
        go_wp2_with fail
        exact bodyPost_ret (v := .tuple #[.int .i64 0, .int .i64 0, .int .i64 1]) (by simp [results, Tryz.results35, go_sem]) rfl ⟨HB.out, .inr ⟨HR.out, rfl⟩⟩
    · have HR := Lib.hid (show O = none by rw [H1'.out]; simp)
      go_wp2_with fail
      exact bodyPost_ret (v := .tuple #[.int .i64 0, .int .i64 0, .int .i64 1]) (by simp [results, Tryz.results35, go_sem]) rfl ⟨HB.out, .inr ⟨HR.out, rfl⟩⟩
  by_cases k2 : kd = 2
  · subst k2
    have H2' := Lib.hid (H2.out (by first | rfl | trivial))
    clear H0 H1 H3
    rcases Bool.eq_false_or_eq_true PL with rfl | rfl
    rotate_left
    · have HR := Lib.hid (show O = none by rw [H2'.out]; simp)
      go_wp2_with fail
      exact bodyPost_ret (v := .tuple #[.int .i64 0, .int .i64 0, .int .i64 1]) (by simp [results, Tryz.results35, go_sem]) rfl ⟨HB.out, .inr ⟨HR.out, rfl⟩⟩
    by_cases h3 : sc = 0
    rotate_left
    · have h3b : (sc == 0) = false := by rw [beq_eq_false_iff_ne]; exact h3
      have HR := Lib.hid (show O = none by rw [H2'.out]; exact if_neg (fun h => h3 h.2.1))
      go_wp2_with fail
      exact bodyPost_ret (v := .tuple #[.int .i64 0, .int .i64 0, .int .i64 1]) (by simp [results, Tryz.results35, go_sem]) rfl ⟨HB.out, .inr ⟨HR.out, rfl⟩⟩
    subst h3
    by_cases h4 : tx = ⟨#[]⟩
    rotate_left
    · have h4b := bytes_ne h4
      have HR := Lib.hid (show O = none by rw [H2'.out]; exact if_neg (fun h => h4 h.2.2.1))
      clear h4
      go_wp2_with fail
      exact bodyPost_ret (v := .tuple #[.int .i64 0, .int .i64 0, .int .i64 1]) (by simp [results, Tryz.results35, go_sem]) rfl ⟨HB.out, .inr ⟨HR.out, rfl⟩⟩
    subst h4
    rcases Bool.eq_false_or_eq_true (inB tall 1 400) with h5 | h5
    rotate_left
    · have HR := Lib.hid (show O = none by rw [H2'.out]; exact if_neg (fun h => by rw [inB_iff.2 h.2.2.2.1] at h5; cases h5))
      go_wp2_with (go_at_call 44; refine (spIn_any _ _ _ _).mono ?_; (first | rw [h5] | rw [h6]); rintro e w' ⟨rfl, rfl⟩)
      exact bodyPost_ret (v := .tuple #[.int .i64 0, .int .i64 0, .int .i64 1]) (by simp [results, Tryz.results35, go_sem]) rfl ⟨HB.out, .inr ⟨HR.out, rfl⟩⟩
    rcases Bool.eq_false_or_eq_true (inB wide 1 400) with h6 | h6
    rotate_left
    · have HR := Lib.hid (show O = none by rw [H2'.out]; exact if_neg (fun h => by rw [inB_iff.2 h.2.2.2.2] at h6; cases h6))
      go_wp2_with (go_at_call 44; refine (spIn_any _ _ _ _).mono ?_; (first | rw [h5] | rw [h6]); rintro e w' ⟨rfl, rfl⟩)
      exact bodyPost_ret (v := .tuple #[.int .i64 0, .int .i64 0, .int .i64 1]) (by simp [results, Tryz.results35, go_sem]) rfl ⟨HB.out, .inr ⟨HR.out, rfl⟩⟩
    have HR := Lib.hid (show O = some (tall, wide) by rw [H2'.out]; exact if_pos ⟨by first | rfl | trivial, by first | rfl | trivial, by first | rfl | trivial, inB_iff.1 h5, inB_iff.1 h6⟩)
    go_wp2_with (go_at_call 44; refine (spIn_any _ _ _ _).mono ?_; (first | rw [h5] | rw [h6]); rintro e w' ⟨rfl, rfl⟩)
    go_quiet (fail)
    go_wp2_with fail
    exact bodyPost_ret (v := .tuple #[.int .i64 (tall), .int .i64 (wide), .int .i64 0]) (by simp [results, Tryz.results35, go_sem]) rfl ⟨below_dn HB.out, .inl ⟨_, _, HR.out, rfl⟩⟩
  by_cases k3 : kd = 3
  · subst k3
    have H3' := Lib.hid (H3.out (by first | rfl | trivial))
    clear H0 H1 H2
    go_wp2_with fail
    refine (HSY.out _).mono ?_
    rintro e w2 ⟨hb2, hr⟩
    have K2 := Lib.hid (blkK hb2 K.out)
    have HB2 := Lib.hid (bt0 HB.out hb2 (Nat.le_refl _))
    clear hb2 hcA hfA
    obtain ⟨hcA, hfA⟩ := heap_cellR K2.out
    have hlB := blkLt K2.out
    rcases hr with ⟨r, c, hr, rfl⟩ | ⟨hr, rfl⟩
    rotate_left
    · have HR := Lib.hid (show O = none by rw [H3'.out, hr]; split <;> rfl)
      clear hr
      rcases Bool.eq_false_or_eq_true SC with rfl | rfl
      · go_wp2_with fail
        exact bodyPost_ret (v := .tuple #[.int .i64 0, .int .i64 0, .int .i64 1]) (by simp [results, Tryz.results35, go_sem]) rfl ⟨HB2.out, .inr ⟨HR.out, rfl⟩⟩
      · go_wp2_with fail
        exact bodyPost_ret (v := .tuple #[.int .i64 0, .int .i64 0, .int .i64 1]) (by simp [results, Tryz.results35, go_sem]) rfl ⟨HB2.out, .inr ⟨HR.out, rfl⟩⟩
    rcases Bool.eq_false_or_eq_true SC with rfl | rfl
    rotate_left
    · have HR := Lib.hid (show O = none by rw [H3'.out]; simp)
      clear hr
      go_wp2_with fail
      exact bodyPost_ret (v := .tuple #[.int .i64 0, .int .i64 0, .int .i64 1]) (by simp [results, Tryz.results35, go_sem]) rfl ⟨HB2.out, .inr ⟨HR.out, rfl⟩⟩
    have hsb : 1 ≤ sc ∧ sc ≤ 8 := by
      have h := HSC.out.symm
      rw [Bool.and_eq_true, Bool.and_eq_true, inB_iff] at h
      exact h.1.1
    have hbd := HSB.out r c hr
    have e1 := mul_bd (a := sc) (b := r) (m := 8) (n := 41) hsb hbd.1
    have e2 := mul_bd (a := sc) (b := c) (m := 8) (n := 125) hsb hbd.2
    have hO : O = some (sc * r, sc * c) := by rw [H3'.out, hr, Int.mul_comm sc r, Int.mul_comm sc c]; simp
    obtain ⟨Z1, hZ1⟩ : ∃ Z, sc * r = Z := ⟨_, rfl⟩
    obtain ⟨Z2, hZ2⟩ : ∃ Z, sc * c = Z := ⟨_, rfl⟩
    rw [hZ1, hZ2] at hO
    rw [hZ1] at e1
    rw [hZ2] at e2
    have HR := Lib.hid hO
    have hw1 : wrap64 (sc * r) = Z1 := by rw [hZ1]; unfold wrap64; omega
    have hw2 : wrap64 (sc * c) = Z2 := by rw [hZ2]; unfold wrap64; omega
    clear hO hZ1 hZ2 hr
    go_wp2_with fail
    go_quiet (fail)
    go_wp2_with fail
    exact bodyPost_ret (v := .tuple #[.int .i64 (Z1), .int .i64 (Z2), .int .i64 0]) (by simp [results, Tryz.results35, go_sem, hw1, hw2]) rfl ⟨below_dn HB2.out, .inl ⟨_, _, HR.out, rfl⟩⟩
  · have HR := Lib.hid (H0.out k1 k2 k3)
    have k1b : (kd == 1) = false := by rw [beq_eq_false_iff_ne]; exact k1
    have k2b : (kd == 2) = false := by rw [beq_eq_false_iff_ne]; exact k2
    have k3b : (kd == 3) = false := by rw [beq_eq_false_iff_ne]; exact k3
    clear H1 H2 H3
    go_wp2_with fail
    exact bodyPost_ret (v := .tuple #[.int .i64 0, .int .i64 0, .int .i64 1]) (by simp [results, Tryz.results35, go_sem]) rfl ⟨HB.out, .inr ⟨HR.out, rfl⟩⟩

end Go.Proofs.YtlcglclojlffgaaGreatDoor
