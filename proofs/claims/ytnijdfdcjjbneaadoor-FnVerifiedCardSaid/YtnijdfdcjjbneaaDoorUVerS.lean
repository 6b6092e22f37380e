import Derived.Test.YtnijdfdcjjbneaaDoorUVerI
namespace Go.Proofs.YtnijdfdcjjbneaaDoor
open Go.RowKit

/-- the reference's counts -/
def Cnt (w0 w : World) (g n : Nat) (zs : List Int) : Prop := zs.length = n ∧ OwnI w w0.heap.size (.slice (some ⟨g, 0, none⟩) n n) zs ∧ Below w0.heap.size w0 w
theorem Cnt.cell {w0 w : World} {g n : Nat} {zs : List Int} (h : Cnt w0 w g n zs) {k : Nat} {z : Int} (hz : zs[k]? = some z) : w.cell? ⟨g, k, none⟩ = some (.int .i64 z) ∧ w.frozen? ⟨g, k, none⟩ = false := by
  obtain ⟨rfl, ho, _⟩ := h
  have hk : k < zs.length := (List.getElem?_eq_some_iff.1 hz).1
  obtain ⟨z', h1, h2, h3⟩ := ho.cellAt rfl hk
  rw [hz] at h1
  obtain rfl := Option.some.inj h1
  exact ⟨h2, h3⟩
theorem Cnt.below {w0 w w' : World} {g n : Nat} {zs : List Int} (h : Cnt w0 w g n zs) (hb : Below w.heap.size w w') : Cnt w0 w' g n zs := ⟨h.1, h.2.1.grown hb, bt0 h.2.2 hb (Nat.le_refl _)⟩
theorem Cnt.set {w0 w : World} {g n : Nat} {zs : List Int} (h : Cnt w0 w g n zs) (hg : w0.heap.size ≤ g) (k : Nat) (z : Int) : Cnt w0 (w.setCell ⟨g, k, none⟩ (.int .i64 z)) g n (zs.set k z) :=
  ⟨by rw [List.length_set]; exact h.1, (h.2.1.stored h.1.symm k z).1, h.2.2.setCell hg _⟩

/-- a cell that is there stays, where other blocks are made -/
theorem boxC {w w' : World} {g k : Nat} {v : Value} (hb : Below w.heap.size w w') (h : w.cell? ⟨g, k, none⟩ = some v) : w'.cell? ⟨g, k, none⟩ = some v := by
  rw [hb.cell (p := ⟨g, k, none⟩) (lt_of_cell h)]; exact h

set_option maxRecDepth 100000 in
set_option maxHeartbeats 1000000 in
theorem specVerifyBatch_any (p : ByteArray) (x1 x2 x3 x4 : Int) (a : Option Addr) (ms : List ByteArray) (c : Nat) (w : World) (hx : StrsAt w a ms) (hp : p.size ≤ maxLen) (lx : ms.length ≤ 1099511627776) :
    Calls Tryd.prog 18 #[.agg #[.string p, .int .i64 x1, .int .i64 x2, .int .i64 x3, .int .i64 x4], .slice a ms.length c] w (RetTwo w (vbM p x1 x2 x3 x4 ms) (vbT p x1 x2 x3 x4 ms) (vbF p x1 x2 x3 x4 ms) (vbC p x1 x2 x3 x4 ms)) := by
  have HX := Lib.hid hx
  have HP := Lib.hid hp
  clear hx hp
  rcases Bool.eq_false_or_eq_true (isBatchB p x1 x2 x3 x4) with h1 | h1
  · have H1 := Lib.hid h1
    clear h1
    by_cases hl : (400 : Int) < ms.length
    · obtain ⟨e1, e2, e3, e4⟩ := vb_many H1.out hl
      rw [e1, e2, e3, e4]
      clear e1 e2 e3 e4
      go_enter Tryd.func18, Tryd.ntmps18
      go_wp2_with fail
      refine (specIsBatch_val H1.out HP.out).mono ?_
      rintro e w1 ⟨rfl, hb1⟩
      have HB1 := Lib.hid (bt1 hb1)
      clear hb1
      go_wp2_with fail
      exact bodyPost_ret (v := .tuple #[.slice none 0 0, .slice none 0 0, .int .i64 0, .int .i64 3]) (by simp [results, Tryd.results18, go_sem]) rfl (RetTwo.none HB1.out)
    · obtain ⟨e1, e2, e3, e4⟩ := vb_ok H1.out hl
      rw [e1, e2, e3, e4]
      clear e1 e2 e3 e4
      obtain ⟨_, _, _, b4, b5, _, _, _, _, _, _⟩ := batch_parts H1.out
      obtain ⟨n, rfl⟩ := Int.eq_ofNat_of_zero_le (show 0 ≤ x3 by omega)
      have hn2 : n ≤ 200 := by omega
      have hobd : ∀ i : Nat, 0 ≤ occ ms (serB p x1 x2 x4 i) ∧ occ ms (serB p x1 x2 x4 i) ≤ 400 := fun i => by
        have := occ_bd ms (serB p x1 x2 x4 i)
        omega
      have hcf : ∀ i : Nat, i < n → (cntL p x1 x2 n x4 ms)[i]? = some ((fun i : Nat => occ ms (serB p x1 x2 x4 i)) i) := fun i hi => cntL_at (by simpa using hi)
      have hfi : ∀ i : Nat, (fun i : Nat => occ ms (serB p x1 x2 x4 i)) i = occ ms (serB p x1 x2 x4 i) := fun i => rfl
      generalize (fun i : Nat => occ ms (serB p x1 x2 x4 i)) = f at *
      have HFI := Lib.hid hfi
      have HOB : Hid (∀ i, 0 ≤ f i ∧ f i ≤ 400) := Lib.hid (fun i => by rw [HFI.out i]; exact hobd i)
      have HCF := Lib.hid hcf
      obtain ⟨F, hF⟩ : ∃ F, frn p x1 x2 n x4 ms = F := ⟨_, rfl⟩
      have HF := Lib.hid hF
      rw [hF, Int.toNat_natCast]
      clear hfi hobd hcf hF
      obtain ⟨i0, hi, y0, y1, y2⟩ := info_parts infoI
      go_enter Tryd.func18, Tryd.ntmps18
      go_wp2_with fail
      refine (specIsBatch_val H1.out HP.out).mono ?_
      rintro e w1 ⟨rfl, hb1⟩
      have hA1 := box1 hb1
      have HB1 := Lib.hid (bt1 hb1)
      have q1 : w.heap.size < w1.heap.size := boxLt hA1 (by simp)
      clear hb1
      go_wp2_with (at_make; refine wpList_make_full _ rfl _ _ 42 rfl w1.heap.size 2 i0 (.int .i64 0) 1 Tryd.underlying42 hi y0 y1 _ _ _ _ n rfl rfl rfl rfl ?c1 ?c2 ?c3 ?_)
      case c1 => rw [y2]; omega
      case c2 => unfold maxLen; omega
      case c3 => omega
      intro w2 hown hg
      have hb2 : Below w1.heap.size w1 w2 := below_of_grownBy hg (Nat.le_refl _) (fun k h => by cases h)
      have H0 : Hid (Cnt w1 w2 w1.heap.size n (cntL p x1 x2 n x4 [])) := Lib.hid ⟨by rw [cntL_len]; rfl, by rw [cntL_nil]; exact OwnI.of_made hown, hb2⟩
      have HA1 := Lib.hid hA1
      clear hown hg hb2 hA1
      go_wp2_with fail
      go_loopw [9, 10, 11] (fun fr i _ wr => ∃ k : Nat, k ≤ ms.length ∧ i = .int .i64 k ∧ fr = .int .i64 (frn p x1 x2 n x4 (ms.take k)) ∧ Cnt w1 wr w1.heap.size n (cntL p x1 x2 n x4 (ms.take k))) (fun _ i _ _ => ms.length - (intOf i).toNat)
      case atStart => exact ⟨0, Nat.zero_le _, rfl, rfl, H0.out⟩
      case round =>
        obtain ⟨k, hk, rfl, rfl, hcn⟩ := hrel
        have HC := Lib.hid hcn
        have hA2 := boxB hcn.2.2 HA1.out q1
        have hw1r := hcn.2.2.size
        clear hcn
        obtain ⟨r0, r1⟩ := frn_bd p x1 x2 n x4 (ms.take k)
        have r2 := List.length_take_le k ms
        obtain ⟨fr, hfr⟩ : ∃ fr, frn p x1 x2 n x4 (ms.take k) = fr := ⟨_, rfl⟩
        rw [hfr] at r0 r1 ⊢
        have r3 : fr ≤ 400 := by omega
        have HFR := Lib.hid hfr
        clear hfr r1 r2
        by_cases hlt : k < ms.length
        · obtain ⟨b1, o1, s, rfl, hsk, hb1, hc1⟩ := ((HX.out.below HB1.out)).at hlt
          have hc2 := (HC.out.2.2.cell (p := ⟨b1, o1 + k, none⟩) hb1).trans hc1
          have hb1r : b1 < wr.heap.size := by omega
          have hkn : (k : Int) < (ms.length : Int) := by omega
          have hwr0 : w.heap.size < wr.heap.size := by omega
          have HS := Lib.hid hsk
          clear hsk hc1
          obtain ⟨ix, hix⟩ : ∃ ix, ixR p x1 x2 n x4 s = ix := ⟨_, rfl⟩
          have HL := Lib.hid (show ∀ w : World, Calls Tryd.prog 44 #[.agg #[.string p, .int .i64 x1, .int .i64 x2, .int .i64 (n : Int), .int .i64 x4], .string s] w fun e w' => e = .returned (.int .i64 (ixM ix)) ∧ Below w.heap.size w w' from fun w => hix ▸ l31Index_any p x1 x2 n x4 s w H1.out)
          have HIX := Lib.hid hix
          clear hix
          go_wp2_with fail
          refine wp_region_ext (by kernel_rfl) (by kernel_rfl) ?_
          repeat (go_big_quiet_step ((go_at_call 44; go_must (apply calls_ext; exact HL.out _))))
          refine wpQuiet_nil ?_
          rintro _ ⟨sx, rfl⟩
          have HC3 := Lib.hid (HC.out.below sx.below)
          clear hA2 hc2
          cases ix with
          | none =>
            simp only [ixM]
            go_wp2_with fail
            exact ⟨⟨k + 1, by omega, by go_num, congrArg (Value.int .i64) (by rw [take_snoc' HS.out, frn_snoc, if_pos HIX.out, HFR.out]), by rw [take_snoc' HS.out, cntL_none H1.out HIX.out]; exact HC3.out⟩, by simp [intOf]; omega⟩
          | some j =>
            simp only [ixM]
            obtain ⟨hj, hjs⟩ := ixR_mem HIX.out
            rw [Int.toNat_natCast] at hj
            obtain ⟨z, hz⟩ : ∃ z, occ (ms.take k) (serB p x1 x2 x4 j) = z := ⟨_, rfl⟩
            obtain ⟨z0, z1⟩ := occ_bd (ms.take k) (serB p x1 x2 x4 j)
            rw [hz] at z0 z1
            have z2 : z ≤ 400 := by have := List.length_take_le k ms; omega
            have hcz : (cntL p x1 x2 n x4 (ms.take k))[j]? = some z := hz ▸ cntL_at (by simpa using hj)
            obtain ⟨hcc, hcfz⟩ := HC3.out.cell hcz
            have hj2 : (j : Int) < n := by omega
            have hj3 : ¬ (j : Int) < 0 := by omega
            have HZ := Lib.hid hz
            clear hcz hz hjs z1
            go_wp2_with fail
            exact ⟨⟨k + 1, by omega, by go_num, congrArg (Value.int .i64) (by rw [take_snoc' HS.out, frn_snoc, if_neg (by rw [HIX.out]; simp), HFR.out]; simp), by rw [take_snoc' HS.out, cntL_some H1.out HIX.out, HZ.out]; exact HC3.out.set (Nat.le_refl _) j _⟩, by simp [intOf]; omega⟩
        · obtain rfl : k = ms.length := by omega
          have hC := HC.out
          have hFR := HFR.out
          rw [List.take_length] at hC hFR
          have HC2 := Lib.hid hC
          have HF2 : Hid (fr = F) := Lib.hid (hFR.symm.trans HF.out)
          have HA2 := Lib.hid hA2
          clear hC hFR HC hA2
          have HB2 := Lib.hid (HB1.out.trans (HC2.out.2.2.mono HB1.out.size))
          obtain ⟨wo, rfl⟩ : ∃ wo : World, wo = wr := ⟨_, rfl⟩
          have hq2 : w.heap.size < wo.heap.size := by omega
          have hq3 : w1.heap.size < wo.heap.size ∨ n = 0 := by
            rcases Nat.eq_zero_or_pos n with h0 | h0
            · exact Or.inr h0
            · exact Or.inl (by
                have hc := (HC2.out.cell (HCF.out 0 h0)).1
                exact lt_of_cell hc)
          go_wp2_with fail
          go_loopw [12, 13, 14] (fun vm vt i wx => ∃ k : Nat, (k : Int) ≤ n ∧ i = .int .i64 k ∧ Two wo wx vm vt (zerosL f k) (manyL f k)) (fun _ _ i _ => ((n : Int) - intOf i).toNat)
          case atStart => exact ⟨0, by omega, rfl, Two.start wo⟩
          case round =>
            obtain ⟨k, hk3, rfl, htw⟩ := hrel
            have HTW := Lib.hid htw
            have hA3 := boxB htw.2.2.2 HA2.out hq2
            have hwx := htw.2.2.2.size
            have hzl := zerosL_len f k
            have hml := manyL_len f k
            clear htw
            by_cases hlt : (k : Int) < n
            · obtain ⟨z, hz⟩ : ∃ z, f k = z := ⟨_, rfl⟩
              obtain ⟨z0, z4⟩ := HOB.out k
              have hcz := hz ▸ HCF.out k (by omega)
              rw [hz] at z0 z4
              have hcc := boxC HTW.out.2.2.2 (HC2.out.cell hcz).1
              have HZ := Lib.hid hz
              clear hz hcz
              have hcase : z = 0 ∨ z = 1 ∨ 1 < z := by omega
              rcases hcase with rfl | rfl | hz1
              · have HZL : Hid (zerosL f (k + 1) = zerosL f k ++ [(k : Int)]) := Lib.hid (zerosL_yes HZ.out)
                have HML : Hid (manyL f (k + 1) = manyL f k) := Lib.hid (manyL_no (by rw [HZ.out]; decide))
                go_wp2_with (at_builtin; refine wpList_append_own_at _ rfl _ _ 42 rfl wo.heap.size 2 i0 (.int .i64 0) 1 8 Tryd.underlying42 hi y0 y1 y2 rfl (by decide) _ _ _ rfl (World.ownsRow.alloc HTW.out.1 _) ⟨wr.heap.size, 0, none⟩ 1 1 [.int .i64 k] rfl rfl (cell_one_new _ _ _) (ints_oneCell .i64 [(k : Int)]) (by unfold maxLen; omega) (by omega) (by simp; omega) ?_; intro v' w4 hown4 hgrow4 _ hat4; have HTW4 := Lib.hid (HTW.out.more1 hown4 hgrow4 hat4); have hA4 := boxB HTW4.out.2.2.2 HA2.out hq2; have hcc4 := boxC HTW4.out.2.2.2 (HC2.out.cell (HZ.out ▸ HCF.out k (by omega))).1; clear hown4 hgrow4 hat4 hcc hA3)
                exact ⟨⟨k + 1, by omega, by go_num, by rw [HZL.out, HML.out]; exact HTW4.out⟩, by simp [intOf]; omega⟩
              · have HZL : Hid (zerosL f (k + 1) = zerosL f k) := Lib.hid (zerosL_no (by rw [HZ.out]; decide))
                have HML : Hid (manyL f (k + 1) = manyL f k) := Lib.hid (manyL_no (by rw [HZ.out]; decide))
                go_wp2_with fail
                exact ⟨⟨k + 1, by omega, by go_num, by rw [HZL.out, HML.out]; exact HTW.out⟩, by simp [intOf]; omega⟩
              · have HZL : Hid (zerosL f (k + 1) = zerosL f k) := Lib.hid (zerosL_no (by rw [HZ.out]; omega))
                have HML : Hid (manyL f (k + 1) = manyL f k ++ [(k : Int)]) := Lib.hid (manyL_yes (by rw [HZ.out]; exact hz1))
                have hz2 : (z == 0) = false := by simp; omega
                go_wp2_with (at_builtin; refine wpList_append_own_at _ rfl _ _ 42 rfl wo.heap.size 2 i0 (.int .i64 0) 1 8 Tryd.underlying42 hi y0 y1 y2 rfl (by decide) _ _ _ rfl (World.ownsRow.alloc HTW.out.2.1 _) ⟨wr.heap.size, 0, none⟩ 1 1 [.int .i64 k] rfl rfl (cell_one_new _ _ _) (ints_oneCell .i64 [(k : Int)]) (by unfold maxLen; omega) (by omega) (by simp; omega) ?_; intro v' w4 hown4 hgrow4 _ hat4)
                exact ⟨⟨k + 1, by omega, by go_num, by rw [HZL.out, HML.out]; exact HTW.out.more2 hown4 hgrow4 hat4⟩, by simp [intOf]; omega⟩
            · obtain rfl : k = n := by omega
              have HR := Lib.hid (RetTwo.of (F := F) (cd := 0) (HTW.out.weak HB2.out))
              rw [HF2.out]
              go_wp2_with fail
              exact bodyPost_ret (v := .tuple #[u12, u13, .int .i64 F, .int .i64 0]) (by simp [results, Tryd.results18, go_sem]) rfl HR.out
  · obtain ⟨e1, e2, e3, e4⟩ := vb_not (ms := ms) h1
    rw [e1, e2, e3, e4]
    clear e1 e2 e3 e4
    have H1 := Lib.hid h1
    clear h1
    go_enter Tryd.func18, Tryd.ntmps18
    go_wp2_with fail
    refine (specIsBatch_val H1.out HP.out).mono ?_
    rintro e w1 ⟨rfl, hb1⟩
    have HB1 := Lib.hid (bt1 hb1)
    clear hb1
    go_wp2_with fail
    exact bodyPost_ret (v := .tuple #[.slice none 0 0, .slice none 0 0, .int .i64 0, .int .i64 1]) (by simp [results, Tryd.results18, go_sem]) rfl (RetTwo.none HB1.out)

end Go.Proofs.YtnijdfdcjjbneaaDoor
