import Derived.Test.YtkmfgchbfchdbaaGreatDoorVSpDmg
namespace Go.Proofs.YtkmfgchbfchdbaaGreatDoor
open Go.RowKit

theorem row_at {n : Nat} {f : Nat → Value} {u : Value} {W : World} (h : RowF n f u W) : ∃ b, u = .slice (some ⟨b, 0, none⟩) n n ∧ ∀ i, i < n → W.cell? ⟨b, i, none⟩ = some (f i) := h

set_option maxRecDepth 100000 in
set_option maxHeartbeats 2000000 in
theorem specIsDamage_yes (k r c t w g : Int) (W : World) (hk1 : 1 ≤ k) (hk2 : k ≤ 5) (hg : inB g 0 255 = true) : Calls Tryz.prog 58 #[.agg #[.int .i64 k, .int .i64 r, .int .i64 c, .int .i64 t, .int .i64 w, .int .i64 g]] W fun e W' => e = .returned (.bool (dmOk k r c t w g)) ∧ Below W.heap.size W W' := by
  have h1 : inB k 1 5 = true := inB_iff.2 ⟨hk1, hk2⟩
  have H1 := Lib.hid h1
  have HG := Lib.hid hg
  clear h1 hg
  go_enter Tryz.func58, Tryz.ntmps58
  go_wp2_with fail
  refine (l01In_val H1.out).mono ?_
  rintro e w1 ⟨rfl, rfl⟩
  go_wp2_with fail
  refine (l20Grey_val HG.out).mono ?_
  rintro e w1 ⟨rfl, rfl⟩
  go_wp2_with fail
  have hA := box1 (w := W) (cs := #[.int .i64 k, .int .i64 r, .int .i64 c, .int .i64 t, .int .i64 w, .int .i64 g]) (t := 30) (Below.refl _ _)
  have hlt : W.heap.size < (W.alloc (.cells #[.int .i64 k, .int .i64 r, .int .i64 c, .int .i64 t, .int .i64 w, .int .i64 g] 30 (0, 0))).heap.size := by simp
  have HB1 := Lib.hid (ba1 W (.cells #[.int .i64 k, .int .i64 r, .int .i64 c, .int .i64 t, .int .i64 w, .int .i64 g] 30 (0, 0)))
  generalize (W.alloc (.cells #[.int .i64 k, .int .i64 r, .int .i64 c, .int .i64 t, .int .i64 w, .int .i64 g] 30 (0, 0))) = w1 at *
  refine wp_region_rs (Keep := KB) [16, 17, 18, 19, 20, 3, 4] (fun us => _)
    [spE (.pointer (some ⟨W.heap.size, 0, none⟩)), spE (.int .i64 k), spRow 5 (fun i => .bool (flB k i)), spE (.agg #[.int .i64 k, .int .i64 r, .int .i64 c, .int .i64 t, .int .i64 w, .int .i64 g]), spRow 5 (fun i => .int .i64 (lsI r c t w g i)), spRow 5 (fun i => .bool (flB k i)), spRow 5 (fun i => .int .i64 (lsI r c t w g i))]
    (StX w1) (by kernel_rfl) (by kernel_rfl) (Nat.le_of_ble_eq_true rfl) (fun us => by simp [over, List.mapIdx_cons]; exact rfl) (stX0 _) kbr ?_ ?_
  · refine ⟨?_, ?_, ?_, ?_, ?_, ?_, ?_, trivial⟩
    all_goals (intro us wr hst hd; rw [if_pos (by kernel_rfl)]; dsimp only)
    · clear hd
      go_simp
      exact kb_same hst rfl
    · have d16 : us 16 = .pointer (some ⟨W.heap.size, 0, none⟩) := hd ⟨0, .data⟩ (by simp) rfl
      clear hd
      have hB := boxB hst hA hlt
      go_simp
      exact kb_same hst rfl
    · have d17 : us 17 = .int .i64 k := hd ⟨1, .data⟩ (by simp) rfl
      clear hd
      go_simp
      exact (l27Fields_any k wr).mono fun e w' ⟨v, he, hr, hb⟩ => ⟨v, he, kb_below hst hb hr⟩
    · clear hd
      have hB := boxB hst hA hlt
      go_simp
      exact kb_same hst rfl
    · have d19 : us 19 = .agg #[.int .i64 k, .int .i64 r, .int .i64 c, .int .i64 t, .int .i64 w, .int .i64 g] := hd ⟨3, .data⟩ (by simp) rfl
      clear hd
      go_simp
      exact (l27List_any k r c t w g wr).mono fun e w' ⟨v, he, hr, hb⟩ => ⟨v, he, kb_below hst hb hr⟩
    · have d18 : RowF 5 (fun i => .bool (flB k i)) (us 18) wr := hd ⟨2, .data⟩ (by simp) rfl
      clear hd
      go_simp
      exact kb_same hst d18
    · have d20 : RowF 5 (fun i => .int .i64 (lsI r c t w g i)) (us 20) wr := hd ⟨4, .data⟩ (by simp) rfl
      clear hd
      go_simp
      exact kb_same hst d20
  · intro us wr hst hd
    have d18 : RowF 5 (fun i => .bool (flB k i)) (us 3) wr := hd 5 (by simp)
    have d20 : RowF 5 (fun i => .int .i64 (lsI r c t w g i)) (us 4) wr := hd 6 (by simp)
    clear hd
    obtain ⟨b1, e1, hc1⟩ := row_at d18
    obtain ⟨b2, e2, hc2⟩ := row_at d20
    have HC1 := Lib.hid hc1
    have HC2 := Lib.hid hc2
    have hB := boxB hst hA hlt
    have HB := Lib.hid (bt0 HB1.out hst (Nat.le_refl _))
    clear d18 d20 hc1 hc2 hA hst
    simp only [List.drop, List.length]
    rw [e1, e2]
    clear e1 e2
    go_wp2_with fail
    go_loop [5] (fun i => ∃ q : Nat, q ≤ 4 ∧ i = .int .i64 q ∧ ∀ j, j < q → okAt k j (lsI r c t w g j) = true) (fun i => 4 - (intOf i).toNat)
    case atStart => exact ⟨0, by omega, rfl, fun j hj => absurd hj (by omega)⟩
    case round =>
      obtain ⟨q, hq, rfl, hok⟩ := hrel
      have HO := Lib.hid hok
      clear hok
      by_cases hlt4 : q < 4
      · have g1 := HC1.out q (by omega)
        have g2 := HC2.out q (by omega)
        obtain ⟨f, hf⟩ : ∃ f, flB k q = f := ⟨_, rfl⟩
        obtain ⟨z, hz⟩ : ∃ z, lsI r c t w g q = z := ⟨_, rfl⟩
        rw [hf] at g1
        rw [hz] at g2
        have HF := Lib.hid hf
        have HZ := Lib.hid hz
        clear hf hz
        have HZ' : Hid (∀ b, okAt k q z = b → okAt k q (lsI r c t w g q) = b) := Lib.hid (fun b h => by rw [HZ.out]; exact h)
        rcases Bool.eq_false_or_eq_true f with rfl | rfl
        · rcases Bool.eq_false_or_eq_true (inB z (-400) 400) with h2 | h2
          · have H2 := Lib.hid h2
            clear h2
            by_cases hneg : z < 0
            · by_cases hq3 : 3 ≤ q
              · obtain rfl : q = 3 := by omega
                rcases Bool.eq_false_or_eq_true (k == 3) with h3 | h3
                · have hok : okAt k 3 z = true := by rw [okAt, if_pos HF.out, H2.out, h3]; simp
                  have h3' : (k != 3) = false := by simp [bne, h3]
                  have HOK := Lib.hid hok
                  clear hok
                  go_wp2_with fail
                  refine (l01In_val H2.out).mono ?_
                  rintro e w1 ⟨rfl, rfl⟩
                  go_wp2_with fail
                  exact ⟨⟨4, by omega, by go_num, fun j hj => by
                    rcases Nat.lt_or_ge j 3 with h | h
                    · exact HO.out j h
                    · obtain rfl : j = 3 := by omega
                      exact HZ'.out _ HOK.out⟩, by simp [intOf]⟩
                · have hok : okAt k 3 z = false := by rw [okAt, if_pos HF.out, H2.out, h3]; simp; omega
                  have h3' : (k != 3) = true := by simp [bne, h3]
                  have HOK := Lib.hid hok
                  clear hok
                  go_wp2_with fail
                  refine (l01In_val H2.out).mono ?_
                  rintro e w1 ⟨rfl, rfl⟩
                  go_wp2_with fail
                  go_ret
                  exact ⟨ret_bool (dm_spec_no ⟨hk1, hk2⟩ hlt4 (HZ'.out _ HOK.out)).symm, HB.out⟩
              · have hok : okAt k q z = false := by rw [okAt, if_pos HF.out, H2.out]; simp; omega
                have hq3' : ((q : Int) != 3) = true := by simp; omega
                have HOK := Lib.hid hok
                clear hok
                go_wp2_with fail
                refine (l01In_val H2.out).mono ?_
                rintro e w1 ⟨rfl, rfl⟩
                go_wp2_with fail
                go_ret
                exact ⟨ret_bool (dm_spec_no ⟨hk1, hk2⟩ hlt4 (HZ'.out _ HOK.out)).symm, HB.out⟩
            · have hok : okAt k q z = true := by rw [okAt, if_pos HF.out, H2.out]; simp; omega
              have HOK := Lib.hid hok
              clear hok
              go_wp2_with fail
              refine (l01In_val H2.out).mono ?_
              rintro e w1 ⟨rfl, rfl⟩
              go_wp2_with fail
              exact ⟨⟨q + 1, by omega, by go_num, fun j hj => by
                rcases Nat.lt_or_ge j q with h | h
                · exact HO.out j h
                · obtain rfl : j = q := by omega
                  exact HZ'.out _ HOK.out⟩, by simp [intOf]; omega⟩
          · have hok : okAt k q z = false := by rw [okAt, if_pos HF.out, h2]; rfl
            have HOK := Lib.hid hok
            have H2 := Lib.hid h2
            clear hok h2
            go_wp2_with fail
            refine (l01In_val H2.out).mono ?_
            rintro e w1 ⟨rfl, rfl⟩
            go_wp2_with fail
            go_ret
            exact ⟨ret_bool (dm_spec_no ⟨hk1, hk2⟩ hlt4 (HZ'.out _ HOK.out)).symm, HB.out⟩
        · have HF0 : Hid (¬ flB k q = true) := Lib.hid (by rw [HF.out]; decide)
          rcases Bool.eq_false_or_eq_true (z == 0) with h2 | h2
          · have hok : okAt k q z = true := by rw [okAt, if_neg HF0.out, h2]
            have HOK := Lib.hid hok
            obtain rfl : z = 0 := by simpa using h2
            clear hok h2
            go_wp2_with fail
            refine (l01In_val (b := true) rfl).mono ?_
            rintro e w1 ⟨rfl, rfl⟩
            go_wp2_with fail
            exact ⟨⟨q + 1, by omega, by go_num, fun j hj => by
              rcases Nat.lt_or_ge j q with h | h
              · exact HO.out j h
              · obtain rfl : j = q := by omega
                exact HZ'.out _ HOK.out⟩, by simp [intOf]; omega⟩
          · have hok : okAt k q z = false := by rw [okAt, if_neg HF0.out, h2]
            have HOK := Lib.hid hok
            have h2' : (z != 0) = true := by simp [bne, h2]
            clear hok
            go_wp2_with fail
            go_ret
            exact ⟨ret_bool (dm_spec_no ⟨hk1, hk2⟩ hlt4 (HZ'.out _ HOK.out)).symm, HB.out⟩
      · have hend : dmOk k r c t w g = lastB k t w := dm_spec ⟨hk1, hk2⟩ HG.out (fun i hi => HO.out i (by omega))
        have HE := Lib.hid hend
        clear HO hend
        rcases five_or k with rfl | rfl | rfl | rfl | rfl | h
        · go_wp2_with fail
          go_ret
          exact ⟨ret_bool (by rw [HE.out]; rfl), HB.out⟩
        · by_cases ht1 : 1 ≤ t
          all_goals
            go_wp2_with fail
            all_goals go_ret
            all_goals exact ⟨ret_bool (by rw [HE.out]; simp [lastB]; try omega), HB.out⟩
        · go_wp2_with fail
          go_ret
          exact ⟨ret_bool (by rw [HE.out]; rfl), HB.out⟩
        · go_wp2_with fail
          go_ret
          exact ⟨ret_bool (by rw [HE.out]; rfl), HB.out⟩
        · go_wp2_with fail
          go_ret
          exact ⟨ret_bool (by rw [HE.out]; rfl), HB.out⟩
        · omega

set_option maxRecDepth 100000 in
set_option maxHeartbeats 1000000 in
theorem specIsDamage_any (k r c t w g : Int) (W : World) : Calls Tryz.prog 58 #[.agg #[.int .i64 k, .int .i64 r, .int .i64 c, .int .i64 t, .int .i64 w, .int .i64 g]] W fun e W' => e = .returned (.bool (dmOk k r c t w g)) ∧ Below W.heap.size W W' := by
  rcases Bool.eq_false_or_eq_true (inB k 1 5) with h1 | h1
  · rcases Bool.eq_false_or_eq_true (inB g 0 255) with h2 | h2
    · rw [inB_iff] at h1
      exact specIsDamage_yes k r c t w g W h1.1 h1.2 h2
    · have e : dmOk k r c t w g = false := by rw [dmOk, h2, Bool.and_false]
      rw [e]
      clear e
      have H1 := Lib.hid h1
      have H2 := Lib.hid h2
      clear h1 h2
      go_enter Tryz.func58, Tryz.ntmps58
      go_wp2_with fail
      refine (l01In_val H1.out).mono ?_
      rintro e w1 ⟨rfl, rfl⟩
      go_wp2_with fail
      refine (l20Grey_val H2.out).mono ?_
      rintro e w1 ⟨rfl, rfl⟩
      go_wp2_with fail
      go_ret
      exact ⟨rfl, ba1 _ _⟩
  · have e : dmOk k r c t w g = false := by rw [dmOk, fine0 (inB_not.1 h1), Bool.false_and]
    rw [e]
    clear e
    have H1 := Lib.hid h1
    clear h1
    go_enter Tryz.func58, Tryz.ntmps58
    go_wp2_with fail
    refine (l01In_val H1.out).mono ?_
    rintro e w1 ⟨rfl, rfl⟩
    go_wp2_with fail
    go_ret
    exact ⟨rfl, ba1 _ _⟩
theorem specIsDamage_val {k r c t w g : Int} {b : Bool} {W : World} (h : dmOk k r c t w g = b) : Calls Tryz.prog 58 #[.agg #[.int .i64 k, .int .i64 r, .int .i64 c, .int .i64 t, .int .i64 w, .int .i64 g]] W fun e W' => e = .returned (.bool b) ∧ Below W.heap.size W W' := h ▸ specIsDamage_any k r c t w g W

end Go.Proofs.YtkmfgchbfchdbaaGreatDoor
