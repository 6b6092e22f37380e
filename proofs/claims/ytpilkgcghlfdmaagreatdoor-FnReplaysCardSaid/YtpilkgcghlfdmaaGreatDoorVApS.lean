import Derived.Test.YtpilkgcghlfdmaaGreatDoorVApI
namespace Go.Proofs.YtpilkgcghlfdmaaGreatDoor
open Go.RowKit


theorem l33Next_to {k s : Int} {t u : Int} {w : World} (h : nextS k s = t) (hu : (if t = 0 then -1 else t) = u) (k1 : 1 ≤ k) (k4 : k ≤ 4) (s0 : 0 ≤ s) (s4 : s ≤ 4) :
    Calls Tryz.prog 91 #[.int .i64 s, .int .i64 k] w fun e w' => e = .returned (.int .i64 u) ∧ w = w' := hu ▸ l33Next_val h k1 k4 s0 s4

set_option maxHeartbeats 1000000 in
theorem l33Apply_no (p : ByteArray) (x1 x2 x3 x4 : Int) (a : Option Addr) (xs : List Int) (c : Nat) (k i : Int) (w : World) (hno : (isRecB k i && decide (i < x3)) = false) :
    Calls Tryz.prog 70 #[.agg #[.string p, .int .i64 x1, .int .i64 x2, .int .i64 x3, .int .i64 x4, .slice a xs.length c], .agg #[.int .i64 k, .int .i64 i]] w (RetSessC w ⟨#[]⟩ 0 0 0 0 [] 2) := by
  rcases (show isRecB k i = false ∨ (isRecB k i = true ∧ decide (x3 ≤ i) = true) by
    cases hh : isRecB k i
    · exact Or.inl rfl
    · rw [hh] at hno; simp at hno; exact Or.inr ⟨rfl, by simp; omega⟩) with h1 | ⟨h1, h2⟩
  all_goals
    clear hno
    have H1 := Lib.hid h1
    clear h1
    go_enter Tryz.func70, Tryz.ntmps70
    go_wp2_with fail
    refine (specIsRecord_val H1.out).mono ?_
    rintro e w1 ⟨rfl, hb1⟩
    obtain ⟨hA, hR, hZ, hF, hz1⟩ := box3s hb1
    have HB1 := Lib.hid (bt3 hb1)
    clear hb1
    go_wp2_with fail
    refine bodyPost_ret (v := .tuple #[.agg #[.string ⟨#[]⟩, .int .i64 0, .int .i64 0, .int .i64 0, .int .i64 0, .slice none 0 0], .int .i64 2]) (by simp [results, Tryz.results70, go_sem, hZ]) rfl ⟨Option.none, 0, rfl, World.ownsRow_nil _ _ _ _, ?_⟩
    iterate 6 (refine Below.setCell ?_ (by dsimp only; omega) _)
    exact HB1.out

set_option maxHeartbeats 1000000 in
theorem l33Apply_st (p : ByteArray) (x1 x2 x3 x4 : Int) (a : Option Addr) (xs : List Int) (c : Nat) (k i : Int) (w : World) (hx : IntsAt w a xs) (h1 : isRecB k i = true) (h2 : i < x3) (hl : (xs.length : Int) = x3) (hs : ∀ x ∈ xs, 0 ≤ x ∧ x ≤ 4) (ht : nextS k (xs.getD i.toNat 0) = 0) :
    Calls Tryz.prog 70 #[.agg #[.string p, .int .i64 x1, .int .i64 x2, .int .i64 x3, .int .i64 x4, .slice a xs.length c], .agg #[.int .i64 k, .int .i64 i]] w (RetSessC w ⟨#[]⟩ 0 0 0 0 [] 5) := by
  obtain ⟨k0, i0⟩ : (1 ≤ k ∧ k ≤ 4) ∧ (0 ≤ i ∧ i ≤ 199) := by
    have h := h1; unfold isRecB at h; rw [Bool.and_eq_true, inB_iff, inB_iff] at h; exact h
  obtain ⟨k1, k4⟩ := k0
  obtain ⟨i1, i2⟩ := i0
  obtain ⟨j, rfl⟩ := Int.eq_ofNat_of_zero_le i1
  have hj : j < xs.length := by omega
  obtain ⟨b1, o1, x, rfl, hxj, hbl, hcx⟩ := hx.at hj
  have hxd : xs.getD j 0 = x := by rw [List.getD_eq_getElem?_getD, hxj]; rfl
  obtain ⟨x0, x4'⟩ := hs x (List.mem_of_getElem? hxj)
  rw [Int.toNat_natCast, hxd] at ht
  have h2' : decide (x3 ≤ (j : Int)) = false := by simp; omega
  have HXJ := Lib.hid hxj
  have HT := Lib.hid ht
  have HCX := Lib.hid hcx
  have H1 := Lib.hid h1
  have hj1 : (j : Int) < (xs.length : Int) := by omega
  clear hx hxj hxd ht i1 hl h2 hcx h1 hs
  go_enter Tryz.func70, Tryz.ntmps70
  go_wp2_with fail
  refine (specIsRecord_val H1.out).mono ?_
  rintro e w1 ⟨rfl, hb1⟩
  obtain ⟨hA, hR, hZ, hF, hz1⟩ := box3s hb1
  have HB1 := Lib.hid (bt3 hb1)
  have hcx := (HB1.out.cell (p := ⟨b1, o1 + j, none⟩) hbl).trans HCX.out
  have hbl1 : b1 < w1.heap.size := by omega
  have hs0 : w.heap.size < w1.heap.size := by omega
  have hs1 : w.heap.size + 1 < w1.heap.size := by omega
  clear hb1
  go_wp2_with fail
  refine wp_region_ext (by kernel_rfl) (by kernel_rfl) ?_
  repeat (go_big_quiet_step ((go_at_call 91; go_must (apply calls_ext_same; refine l33Next_val HT.out ?_ ?_ ?_ ?_ <;> omega))))
  refine wpQuiet_nil ?_
  rintro _ ⟨s, rfl⟩
  simp only [if_pos]
  have hs2 : w.heap.size + 1 + 1 < s.w.heap.size := by have := s.below.size; omega
  go_wp2_with fail
  refine bodyPost_ret (v := .tuple #[.agg #[.string ⟨#[]⟩, .int .i64 0, .int .i64 0, .int .i64 0, .int .i64 0, .slice none 0 0], .int .i64 5]) (by simp [results, Tryz.results70, go_sem, hZ, hz1]) rfl ⟨Option.none, 0, rfl, World.ownsRow_nil _ _ _ _, ?_⟩
  iterate 6 (refine Below.setCell ?_ (by dsimp only; omega) _)
  exact bt0 HB1.out s.below (Nat.le_refl _)

set_option maxHeartbeats 1000000 in
theorem l33Apply_ok (p : ByteArray) (x1 x2 x3 x4 : Int) (a : Option Addr) (xs : List Int) (c : Nat) (k i : Int) (w : World) (hx : IntsAt w a xs) (h1 : isRecB k i = true) (h2 : i < x3) (hl : (xs.length : Int) = x3) (hs : ∀ x ∈ xs, 0 ≤ x ∧ x ≤ 4) (lx : xs.length ≤ 1099511627776) (hsl : Slc a xs) (t : Int) (ht : nextS k (xs.getD i.toNat 0) = t) (t0 : t ≠ 0) :
    Calls Tryz.prog 70 #[.agg #[.string p, .int .i64 x1, .int .i64 x2, .int .i64 x3, .int .i64 x4, .slice a xs.length c], .agg #[.int .i64 k, .int .i64 i]] w (RetSessC w p x1 x2 x3 x4 (xs.set i.toNat t) 0) := by
  obtain ⟨k0, i0⟩ : (1 ≤ k ∧ k ≤ 4) ∧ (0 ≤ i ∧ i ≤ 199) := by
    have h := h1; unfold isRecB at h; rw [Bool.and_eq_true, inB_iff, inB_iff] at h; exact h
  obtain ⟨k1, k4⟩ := k0
  obtain ⟨i1, i2⟩ := i0
  obtain ⟨j, rfl⟩ := Int.eq_ofNat_of_zero_le i1
  have hj : j < xs.length := by omega
  obtain ⟨b1, o1, x, rfl, hxj, hbl, hcx⟩ := hx.at hj
  have hxd : xs.getD j 0 = x := by rw [List.getD_eq_getElem?_getD, hxj]; rfl
  obtain ⟨x0, x4'⟩ := hs x (List.mem_of_getElem? hxj)
  rw [Int.toNat_natCast, hxd] at ht
  have h2' : decide (x3 ≤ (j : Int)) = false := by simp; omega
  have HXJ := Lib.hid hxj
  have HT := Lib.hid ht
  have HCX := Lib.hid hcx
  have H1 := Lib.hid h1
  have hj1 : (j : Int) < (xs.length : Int) := by omega
  have HX := Lib.hid hx
  have HSL := Lib.hid hsl
  have t1 : 0 ≤ t := by rw [← ht]; exact (nextS_bd _ _).1
  have t2 : 1 ≤ t := by omega
  have HIF : Hid ((if t = 0 then -1 else t) = t) := Lib.hid (if_neg t0)
  rw [Int.toNat_natCast]
  clear hx hxj hxd ht i1 hl h2 hcx h1 hs hsl t0
  go_enter Tryz.func70, Tryz.ntmps70
  go_wp2_with fail
  refine (specIsRecord_val H1.out).mono ?_
  rintro e w1 ⟨rfl, hb1⟩
  obtain ⟨hA, hR, hZ, hF, hz1⟩ := box3s hb1
  have HB1 := Lib.hid (bt3 hb1)
  have hcx := (HB1.out.cell (p := ⟨b1, o1 + j, none⟩) hbl).trans HCX.out
  have hbl1 : b1 < w1.heap.size := by omega
  have hs0 : w.heap.size < w1.heap.size := by omega
  have hs1 : w.heap.size + 1 < w1.heap.size := by omega
  clear hb1
  go_wp2_with fail
  refine wp_region_ext (by kernel_rfl) (by kernel_rfl) ?_
  repeat (go_big_quiet_step ((go_at_call 91; go_must (apply calls_ext_same; refine l33Next_to HT.out HIF.out ?_ ?_ ?_ ?_ <;> omega))))
  refine wpQuiet_nil ?_
  rintro _ ⟨s, rfl⟩
  have hs2 : w.heap.size + 1 + 1 < s.w.heap.size := by have := s.below.size; omega
  go_wp2_with fail
  refine (l01Own_any _ xs c _ ((HX.out.below HB1.out).below s.below) lx HSL.out).mono ?_
  rintro e w3 ⟨a3, c3, rfl, ho3, hb3⟩
  obtain ⟨g, rfl, hbg, _, hgl⟩ := ho3.block (by omega)
  obtain ⟨x', _, hcg, hfg⟩ := ho3.cellAt rfl hj
  have hA3 := boxK hb3 (boxK s.below hA (by simp)) (by simp)
  have hR3 := boxK hb3 (boxK s.below hR (by simp)) (by simp)
  have hZ3 := boxK hb3 (boxK s.below hZ (by simp)) (by simp)
  have hF3 := freeK hb3 (freeK s.below hF (by omega)) (by omega)
  have HB3 := Lib.hid (bt0 (bt0 HB1.out s.below (Nat.le_refl _)) hb3 (Nat.le_refl _))
  have HO3 := Lib.hid ho3
  have hg0 : w.heap.size + 1 + 1 < g := by omega
  have hz3 : w.heap.size + 1 + 1 < w3.heap.size := by omega
  have hn0 : ¬ g = w.heap.size := by omega
  have hn1 : ¬ g = w.heap.size + 1 := by omega
  have hn2 : ¬ g = w.heap.size + 1 + 1 := by omega
  have hj0 : (0 : Int) ≤ (j : Int) := by omega
  clear hA hR hZ hF ho3 hb3 hcx
  go_wp2_with fail
  refine bodyPost_ret (v := .tuple #[.agg #[.string p, .int .i64 x1, .int .i64 x2, .int .i64 x3, .int .i64 x4, .slice (some ⟨g, 0, none⟩) xs.length c3], .int .i64 0]) (by simp [results, Tryz.results70, go_sem, hZ3]) rfl ⟨some ⟨g, 0, none⟩, c3, by rw [List.length_set], ?_, ?_⟩
  · rw [List.length_set]
    refine OwnI.weak (base := s.w.heap.size) ?_ (by omega)
    iterate 6 (refine OwnI.setOld ?_ (by dsimp only; omega) _)
    exact (HO3.out.stored rfl j t).1
  · iterate 6 (refine Below.setCell ?_ (by dsimp only; omega) _)
    exact HB3.out.setCell (by dsimp only; omega) _

theorem l33Apply_any (p : ByteArray) (x1 x2 x3 x4 : Int) (a : Option Addr) (xs : List Int) (c : Nat) (k i : Int) (w : World) (hx : IntsAt w a xs) (hl : (xs.length : Int) = x3) (hs : ∀ x ∈ xs, 0 ≤ x ∧ x ≤ 4) (lx : xs.length ≤ 1099511627776) (hsl : Slc a xs) :
    Calls Tryz.prog 70 #[.agg #[.string p, .int .i64 x1, .int .i64 x2, .int .i64 x3, .int .i64 x4, .slice a xs.length c], .agg #[.int .i64 k, .int .i64 i]] w (RetAr w p x1 x2 x3 x4 (apXs k i x3 xs) (apC k i x3 xs)) := by
  unfold RetAr
  cases h : (isRecB k i && decide (i < x3)) with
  | false =>
    have e2 : apC k i x3 xs = 2 := by unfold apC; rw [h]; rfl
    rw [e2, if_neg (by decide)]
    exact l33Apply_no p x1 x2 x3 x4 a xs c k i w h
  | true =>
    have h' := h
    rw [Bool.and_eq_true] at h'
    obtain ⟨h1, h2⟩ := h'
    have h2 : i < x3 := by simpa using h2
    by_cases ht : nextS k (xs.getD i.toNat 0) = 0
    · have e2 : apC k i x3 xs = 5 := by unfold apC; rw [h, ht]; rfl
      rw [e2, if_neg (by decide)]
      exact l33Apply_st p x1 x2 x3 x4 a xs c k i w hx h1 h2 hl hs ht
    · have h3 : (nextS k (xs.getD i.toNat 0) != 0) = true := by simpa using ht
      have e1 : apXs k i x3 xs = xs.set i.toNat (nextS k (xs.getD i.toNat 0)) := by unfold apXs apOk; rw [h, h3]; rfl
      have e2 : apC k i x3 xs = 0 := by unfold apC; rw [h, h3]; rfl
      rw [e1, e2, if_pos rfl]
      exact l33Apply_ok p x1 x2 x3 x4 a xs c k i w hx h1 h2 hl hs lx hsl _ rfl ht

end Go.Proofs.YtpilkgcghlfdmaaGreatDoor
