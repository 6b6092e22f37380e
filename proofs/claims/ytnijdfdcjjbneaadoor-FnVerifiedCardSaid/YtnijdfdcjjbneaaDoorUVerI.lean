import Derived.Test.YtnijdfdcjjbneaaDoorUVerP
import Derived.Test.YtnijdfdcjjbneaaDoorUTwoL
import Derived.Test.YtnijdfdcjjbneaaDoorUStrS
import Derived.Maps.OwnOps
import Derived.Maps.Views
import Derived.StringKeys
import Derived.Test.YtnijdfdcjjbneaaDoorUBase3
import Derived.Test.YtnijdfdcjjbneaaDoorUIsSess
namespace Go.Proofs.YtnijdfdcjjbneaaDoor
open Go.RowKit Go.Maps

theorem vb_not {p : ByteArray} {x1 x2 x3 x4 : Int} {ms : List ByteArray} (h : isBatchB p x1 x2 x3 x4 = false) : vbC p x1 x2 x3 x4 ms = 1 ∧ vbM p x1 x2 x3 x4 ms = [] ∧ vbT p x1 x2 x3 x4 ms = [] ∧ vbF p x1 x2 x3 x4 ms = 0 := by
  have e : vbC p x1 x2 x3 x4 ms = 1 := by unfold vbC; rw [h]; rfl
  exact ⟨e, if_neg (by rw [e]; decide), if_neg (by rw [e]; decide), if_neg (by rw [e]; decide)⟩
theorem vb_many {p : ByteArray} {x1 x2 x3 x4 : Int} {ms : List ByteArray} (h : isBatchB p x1 x2 x3 x4 = true) (hl : (400 : Int) < ms.length) : vbC p x1 x2 x3 x4 ms = 3 ∧ vbM p x1 x2 x3 x4 ms = [] ∧ vbT p x1 x2 x3 x4 ms = [] ∧ vbF p x1 x2 x3 x4 ms = 0 := by
  have e : vbC p x1 x2 x3 x4 ms = 3 := by unfold vbC; rw [h, if_pos rfl, if_pos hl]
  exact ⟨e, if_neg (by rw [e]; decide), if_neg (by rw [e]; decide), if_neg (by rw [e]; decide)⟩
theorem vb_ok {p : ByteArray} {x1 x2 x3 x4 : Int} {ms : List ByteArray} (h : isBatchB p x1 x2 x3 x4 = true) (hl : ¬ (400 : Int) < ms.length) : vbC p x1 x2 x3 x4 ms = 0 ∧ vbM p x1 x2 x3 x4 ms = zerosL (fun i => occ ms (serB p x1 x2 x4 i)) x3.toNat ∧ vbT p x1 x2 x3 x4 ms = manyL (fun i => occ ms (serB p x1 x2 x4 i)) x3.toNat ∧ vbF p x1 x2 x3 x4 ms = frn p x1 x2 x3 x4 ms := by
  have e : vbC p x1 x2 x3 x4 ms = 0 := by unfold vbC; rw [h, if_pos rfl, if_neg hl]
  exact ⟨e, if_pos e, if_pos e, if_pos e⟩

theorem ownsMap_below {w w' : World} {B b n : Nat} {D : DataW Unit} (h : w.ownsMap Tryd.prog 9 (plainElem Tryd.prog 2) b n D) (hb : Below B w w') (hlt : b < B) : w'.ownsMap Tryd.prog 9 (plainElem Tryd.prog 2) b n D := by
  obtain ⟨es, clock, h1, h2, h3, h4⟩ := h
  exact ⟨es, clock, (hb.block b hlt).trans h1, h2, h3, h4⟩
theorem ser_len {p : ByteArray} {x1 x2 x3 x4 k : Int} (hb : isBatchB p x1 x2 x3 x4 = true) (k0 : 0 ≤ k) (k1 : k < x3) : (serB p x1 x2 x4 k).size ≤ 400 := by
  obtain ⟨p1, p2, p3, p4, p5, p6, p7, p8, p9, p10, p11⟩ := batch_parts hb
  have h1 := bodyB_size (p := p) (ser_width p8 p2 p3 p5 p10 p11 k0 k1)
  have h2 := congrArg List.length (serB_list p x1 x2 x4 k)
  simp only [List.length_append, List.length_singleton, Array.length_toList] at h2
  have e1 : (serB p x1 x2 x4 k).data.size = (serB p x1 x2 x4 k).size := rfl
  have e2 : (bodyB p x1 x2 x4 k).data.size = (bodyB p x1 x2 x4 k).size := rfl
  omega
/-- the map of counts behind some texts -/
def Tally (w : World) (b n : Nat) (ms : List ByteArray) : Prop :=
  ∃ D : DataW Unit, w.ownsMap Tryd.prog 9 (plainElem Tryd.prog 2) b n D ∧ IsMap D ∧ ∀ s : ByteArray, D.atKey (.string s.data.toList) (.lit (.int .i64 0)) = .lit (.int .i64 (occ ms s))
theorem lawStr : Keyed Tryd.prog 9 := string_keyed Tryd.underlying9
theorem zeroI (w : World) : (zeroValue 2).run Tryd.prog w = .ok (.int .i64 0) w := by kernel_rfl
theorem str_key_ne {s t : ByteArray} (h : s ≠ t) : (Lit.string s.data.toList) ≠ .string t.data.toList := fun e => h (ByteArray.ext (Array.toList_inj.1 (Lit.string.inj e)))
theorem tally_put {D : DataW Unit} {ms : List ByteArray} {m : ByteArray} {z : Int} (hm : IsMap D) (hD : ∀ s : ByteArray, D.atKey (.string s.data.toList) (.lit (.int .i64 0)) = .lit (.int .i64 (occ ms s))) (hz : occ ms m = z) :
    ∀ s : ByteArray, (D.put (.string m.data.toList) (.lit (.int .i64 (z + 1)))).atKey (.string s.data.toList) (.lit (.int .i64 0)) = .lit (.int .i64 (occ (ms ++ [m]) s)) := by
  intro s
  rw [occ_snoc]
  by_cases h : m = s
  · subst h
    rw [atKey_put_same hm (by first | trivial | exact (show WideAt.IsKeyLit (.string _) from trivial) | simp [WideAt.IsKeyLit]), if_pos rfl, hz]
  · rw [atKey_put_other (str_key_ne (fun e => h e.symm)), hD, if_neg h]
    simp

set_option maxRecDepth 100000 in
set_option maxHeartbeats 1000000 in
theorem verifyBatch_any (p : ByteArray) (x1 x2 x3 x4 : Int) (a : Option Addr) (ms : List ByteArray) (c : Nat) (w : World) (hx : StrsAt w a ms) (hp : p.size ≤ maxLen) (lx : ms.length ≤ 1099511627776) (hsz : ∀ s ∈ ms, s.size ≤ maxLen) (ht : Tab w) :
    Calls Tryd.prog 21 #[.agg #[.string p, .int .i64 x1, .int .i64 x2, .int .i64 x3, .int .i64 x4], .slice a ms.length c] w (RetTwo w (vbM p x1 x2 x3 x4 ms) (vbT p x1 x2 x3 x4 ms) (vbF p x1 x2 x3 x4 ms) (vbC p x1 x2 x3 x4 ms)) := by
  have HX := Lib.hid hx
  have HT := Lib.hid ht
  have HP := Lib.hid hp
  have HM := Lib.hid hsz
  clear hx ht hp hsz
  rcases Bool.eq_false_or_eq_true (isBatchB p x1 x2 x3 x4) with h1 | h1
  · have H1 := Lib.hid h1
    clear h1
    by_cases hl : (400 : Int) < ms.length
    · obtain ⟨e1, e2, e3, e4⟩ := vb_many H1.out hl
      rw [e1, e2, e3, e4]
      clear e1 e2 e3 e4
      go_enter Tryd.func21, Tryd.ntmps21
      go_wp2_with fail
      refine (isBatch_val H1.out HP.out (HT.out.alloc _)).mono ?_
      rintro e w1 ⟨rfl, hb1⟩
      have HB1 := Lib.hid (bt1 hb1)
      clear hb1
      go_wp2_with fail
      exact bodyPost_ret (v := .tuple #[.slice none 0 0, .slice none 0 0, .int .i64 0, .int .i64 3]) (by simp [results, Tryd.results21, go_sem]) rfl (RetTwo.none HB1.out)
    · obtain ⟨e1, e2, e3, e4⟩ := vb_ok H1.out hl
      have hsum := sum_occ H1.out ms
      have hobd : ∀ i : Nat, 0 ≤ occ ms (serB p x1 x2 x4 i) ∧ occ ms (serB p x1 x2 x4 i) ≤ 400 := fun i => by
        have := occ_bd ms (serB p x1 x2 x4 i)
        omega
      rw [e1, e2, e3, e4]
      clear e1 e2 e3 e4
      have hfi : ∀ i : Nat, (fun i : Nat => occ ms (serB p x1 x2 x4 i)) i = occ ms (serB p x1 x2 x4 i) := fun i => rfl
      generalize (fun i : Nat => occ ms (serB p x1 x2 x4 i)) = f at *
      have HFI := Lib.hid hfi
      have HOB : Hid (∀ i, 0 ≤ f i ∧ f i ≤ 400) := Lib.hid (fun i => by rw [HFI.out i]; exact hobd i)
      have HSUM := Lib.hid hsum
      obtain ⟨_, _, _, b4, b5, _, _, _, _, _, _⟩ := batch_parts H1.out
      clear hfi hobd hsum
      have hmm := @run_makeMap Tryd.prog
      go_enter Tryd.func21, Tryd.ntmps21
      go_wp2_with fail
      refine (isBatch_val H1.out HP.out (HT.out.alloc _)).mono ?_
      rintro e w1 ⟨rfl, hb1⟩
      have hA1 := box1 hb1
      have HB1 := Lib.hid (bt1 hb1)
      have q1 : w.heap.size < w1.heap.size := boxLt hA1 (by simp)
      have HA1 := Lib.hid hA1
      clear hb1 hA1
      go_wp2_with fail
      clear hmm
      go_loopw [10, 25] (fun _ i wr => ∃ k : Nat, k ≤ ms.length ∧ i = .int .i64 k ∧ Tally wr w1.heap.size k (ms.take k) ∧ Below w1.heap.size w1 wr) (fun _ i _ => ms.length - (intOf i).toNat)
      case atStart => exact ⟨0, Nat.zero_le _, rfl, ⟨.map [], World.ownsMap_made _ _ _ _, isMap_empty, fun s => rfl⟩, ba1 _ _⟩
      case round =>
        obtain ⟨k, hk, rfl, ⟨D, hown, hm, hD⟩, hbl⟩ := hrel
        have HD := Lib.hid hD
        have HMP := Lib.hid hm
        have HL := Lib.hid hbl
        have HO := Lib.hid hown
        clear hD hm hbl hown
        by_cases hlt : k < ms.length
        · obtain ⟨b1, o1, s, rfl, hsk, hb1, hc1⟩ := ((HX.out.below HB1.out)).at hlt
          have hc2 := (HL.out.cell (p := ⟨b1, o1 + k, none⟩) hb1).trans hc1
          obtain ⟨z, hz⟩ : ∃ z, occ (ms.take k) s = z := ⟨_, rfl⟩
          obtain ⟨z0, z1⟩ := occ_bd (ms.take k) s
          rw [hz] at z0 z1
          have z2 : z ≤ 400 := by have := List.length_take_le k ms; omega
          have hat0 : D.atKey (.string s.data.toList) (.lit (.int .i64 0)) = .lit (.int .i64 z) := hz ▸ HD.out s
          have HAT := Lib.hid hat0
          have HZ := Lib.hid hz
          have HS := Lib.hid hsk
          have hkey : keyOf Tryd.prog 9 (.string s) = some (.string s.data.toList) := WideMaps.keyOf_string_mk Tryd.underlying9 (HM.out s (List.mem_of_getElem? hsk))
          have HK := Lib.hid hkey
          have hwf : (Lit.int .i64 (z + 1)).wf = true := by
            have e := wrap64_wf (z + 1)
            rwa [IntWalk.wrap64_in _ (by omega)] at e
          have HW := Lib.hid hwf
          clear hat0 hz hsk hkey hwf hc1 z1
          go_wp2_with (first
            | (at_lookup; refine wpList_lookup_own_int _ rfl _ _ 71 rfl 9 2 .i64 lawStr Tryd.underlying71 Tryd.underlying2 (zeroI _) w1.heap.size k _ rfl HO.out _ _ rfl HK.out ?_; intro c' hat' _; obtain rfl : z = c' := (by have e := HAT.out.symm.trans hat'; injection e with e; injection e with _ e); clear hat')
            | (at_mapUpdate; refine wpList_mapUpdate_own _ rfl _ _ _ 71 rfl 9 2 lawStr Tryd.underlying71 _ w1.heap.size k _ rfl HO.out (by unfold maxLen; omega) _ _ _ rfl rfl HK.out _ [] (plainElem_int Tryd.underlying2 HW.out) ?_; intro w3 hown3 hg3))
          exact ⟨⟨k + 1, by omega, by go_num, ⟨_, hown3, HMP.out.put _ _, by rw [take_snoc' HS.out]; exact tally_put HMP.out HD.out HZ.out⟩, HL.out.trans (below_of_grownBy hg3 HL.out.size (fun j hj => by cases hj; exact Nat.le_refl _))⟩, by simp [intOf]; omega⟩
        · obtain rfl : k = ms.length := by omega
          have hA2 := boxB HL.out HA1.out q1
          clear HA1
          have hD2 := HD.out
          rw [List.take_length] at hD2
          have HD2 := Lib.hid hD2
          clear hD2 HD
          obtain ⟨wo, rfl⟩ : ∃ wo : World, wo = wr := ⟨_, rfl⟩
          have hbm : w1.heap.size < wo.heap.size := HO.out.lt
          have HB2 := Lib.hid (HB1.out.trans (HL.out.mono HB1.out.size))
          clear HL
          obtain ⟨i0, hi, y0, y1, y2⟩ := info_parts infoI
          go_wp2_with fail
          go_loopw [11, 12, 13, 14, 15] (fun vm vt st i _ wx => ∃ k : Nat, (k : Int) ≤ x3 ∧ i = .int .i64 k ∧ st = .int .i64 (ms.length - sumI f k) ∧ Two wo wx vm vt (zerosL f k) (manyL f k)) (fun _ _ _ i _ _ => (x3 - intOf i).toNat)
          case atStart => exact ⟨0, by omega, rfl, by simp [sumI], Two.start wo⟩
          case round =>
            obtain ⟨k, hk3, rfl, rfl, htw⟩ := hrel
            have HTW := Lib.hid htw
            have hA3 := boxB htw.2.2.2 hA2 (by omega)
            have hwx := htw.2.2.2.size
            have hzl := zerosL_len f k
            have hml := manyL_len f k
            clear htw
            obtain ⟨sk, hsk⟩ : ∃ sk, sumI f k = sk := ⟨_, rfl⟩
            obtain ⟨s0, s1⟩ := sumI_bd (f := f) (B := 400) (fun i => (HOB.out i).1) (fun i => (HOB.out i).2) k
            have s2 : sk ≤ 100000 := by omega
            rw [hsk] at s0
            have HSK := Lib.hid hsk
            rw [hsk]
            clear hsk s1
            by_cases hlt : (k : Int) < x3
            · obtain ⟨r, hr⟩ : ∃ r, serB p x1 x2 x4 k = r := ⟨_, rfl⟩
              have hrl : r.size ≤ 400 := hr ▸ ser_len H1.out (by omega) hlt
              have HR := Lib.hid hr
              clear hr
              obtain ⟨z, hz⟩ : ∃ z, f k = z := ⟨_, rfl⟩
              obtain ⟨z0, z4⟩ := HOB.out k
              rw [hz] at z0 z4
              have hat0 : D.atKey (.string r.data.toList) (.lit (.int .i64 0)) = .lit (.int .i64 z) := by rw [HD2.out r, ← HR.out, ← HFI.out k, hz]
              have HAT := Lib.hid hat0
              have HZ := Lib.hid hz
              have hkey : keyOf Tryd.prog 9 (.string r) = some (.string r.data.toList) := WideMaps.keyOf_string_mk Tryd.underlying9 (by unfold maxLen; omega)
              have HK := Lib.hid hkey
              have HSS : Hid (sumI f (k + 1) = sk + z) := Lib.hid (by rw [sumI_succ, HSK.out, HZ.out])
              clear hat0 hz hkey
              have hcase : z = 0 ∨ z = 1 ∨ 1 < z := by omega
              rcases hcase with rfl | rfl | hz1
              · have HZL : Hid (zerosL f (k + 1) = zerosL f k ++ [(k : Int)]) := Lib.hid (zerosL_yes HZ.out)
                have HML : Hid (manyL f (k + 1) = manyL f k) := Lib.hid (manyL_no (by rw [HZ.out]; decide))
                go_wp2_with fail
                refine (serial_val HR.out H1.out (by omega) hlt (HT.out.next (HB2.out.trans (HTW.out.2.2.2.mono (by omega))))).mono ?_
                rintro e w3 ⟨rfl, hb3⟩
                have HTW3 := Lib.hid (HTW.out.below hb3)
                have HO3 := Lib.hid (ownsMap_below HO.out HTW3.out.2.2.2 hbm)
                have hw3 := HTW3.out.2.2.2.size
                clear hb3 hA3
                go_wp2_with (first
                  | (at_lookup; refine wpList_lookup_own_int _ rfl _ _ 71 rfl 9 2 .i64 lawStr Tryd.underlying71 Tryd.underlying2 (zeroI _) w1.heap.size ms.length _ rfl HO3.out _ _ rfl HK.out ?_; intro c' hat' _; obtain rfl : 0 = c' := (by have e := HAT.out.symm.trans hat'; injection e with e; injection e with _ e); clear hat')
                  | (at_builtin; refine wpList_append_own_at _ rfl _ _ 42 rfl wo.heap.size 2 i0 (.int .i64 0) 1 8 Tryd.underlying42 hi y0 y1 y2 rfl (by decide) _ _ _ rfl (World.ownsRow.alloc HTW3.out.1 _) ⟨w3.heap.size, 0, none⟩ 1 1 [.int .i64 k] rfl rfl (cell_one_new _ _ _) (ints_oneCell .i64 [(k : Int)]) (by unfold maxLen; omega) (by omega) (by simp; omega) ?_; intro v' w4 hown4 hgrow4 _ hat4))
                exact ⟨⟨k + 1, by omega, by go_num, congrArg (Value.int .i64) (by rw [HSS.out]; omega), by rw [HZL.out, HML.out]; exact HTW3.out.more1 hown4 hgrow4 hat4⟩, by simp [intOf]; omega⟩
              · have HZL : Hid (zerosL f (k + 1) = zerosL f k) := Lib.hid (zerosL_no (by rw [HZ.out]; decide))
                have HML : Hid (manyL f (k + 1) = manyL f k) := Lib.hid (manyL_no (by rw [HZ.out]; decide))
                go_wp2_with fail
                refine (serial_val HR.out H1.out (by omega) hlt (HT.out.next (HB2.out.trans (HTW.out.2.2.2.mono (by omega))))).mono ?_
                rintro e w3 ⟨rfl, hb3⟩
                have HTW3 := Lib.hid (HTW.out.below hb3)
                have HO3 := Lib.hid (ownsMap_below HO.out HTW3.out.2.2.2 hbm)
                have hw3 := HTW3.out.2.2.2.size
                clear hb3 hA3
                go_wp2_with (at_lookup; refine wpList_lookup_own_int _ rfl _ _ 71 rfl 9 2 .i64 lawStr Tryd.underlying71 Tryd.underlying2 (zeroI _) w1.heap.size ms.length _ rfl HO3.out _ _ rfl HK.out ?_; intro c' hat' _; obtain rfl : 1 = c' := (by have e := HAT.out.symm.trans hat'; injection e with e; injection e with _ e); clear hat')
                exact ⟨⟨k + 1, by omega, by go_num, congrArg (Value.int .i64) (by rw [HSS.out]; omega), by rw [HZL.out, HML.out]; exact HTW3.out⟩, by simp [intOf]; omega⟩
              · have HZL : Hid (zerosL f (k + 1) = zerosL f k) := Lib.hid (zerosL_no (by rw [HZ.out]; omega))
                have HML : Hid (manyL f (k + 1) = manyL f k ++ [(k : Int)]) := Lib.hid (manyL_yes (by rw [HZ.out]; exact hz1))
                have hz2 : (z == 0) = false := by simp; omega
                go_wp2_with fail
                refine (serial_val HR.out H1.out (by omega) hlt (HT.out.next (HB2.out.trans (HTW.out.2.2.2.mono (by omega))))).mono ?_
                rintro e w3 ⟨rfl, hb3⟩
                have HTW3 := Lib.hid (HTW.out.below hb3)
                have HO3 := Lib.hid (ownsMap_below HO.out HTW3.out.2.2.2 hbm)
                have hw3 := HTW3.out.2.2.2.size
                clear hb3 hA3
                go_wp2_with (first
                  | (at_lookup; refine wpList_lookup_own_int _ rfl _ _ 71 rfl 9 2 .i64 lawStr Tryd.underlying71 Tryd.underlying2 (zeroI _) w1.heap.size ms.length _ rfl HO3.out _ _ rfl HK.out ?_; intro c' hat' _; obtain rfl : z = c' := (by have e := HAT.out.symm.trans hat'; injection e with e; injection e with _ e); clear hat')
                  | (at_builtin; refine wpList_append_own_at _ rfl _ _ 42 rfl wo.heap.size 2 i0 (.int .i64 0) 1 8 Tryd.underlying42 hi y0 y1 y2 rfl (by decide) _ _ _ rfl (World.ownsRow.alloc HTW3.out.2.1 _) ⟨w3.heap.size, 0, none⟩ 1 1 [.int .i64 k] rfl rfl (cell_one_new _ _ _) (ints_oneCell .i64 [(k : Int)]) (by unfold maxLen; omega) (by omega) (by simp; omega) ?_; intro v' w4 hown4 hgrow4 _ hat4))
                exact ⟨⟨k + 1, by omega, by go_num, congrArg (Value.int .i64) (by rw [HSS.out]; omega), by rw [HZL.out, HML.out]; exact HTW3.out.more2 hown4 hgrow4 hat4⟩, by simp [intOf]; omega⟩
            · have hkx : k = x3.toNat := by omega
              have HKX := Lib.hid hkx
              clear hkx
              have hfin := (HTW.out.weak HB2.out)
              rw [HKX.out] at hfin
              have HF := Lib.hid (RetTwo.of (F := ms.length - sk) (cd := 0) hfin)
              have HE : Hid ((ms.length : Int) - sk = frn p x1 x2 x3 x4 ms) := Lib.hid (by have a := HSUM.out; have b := HSK.out; rw [HKX.out] at b; omega)
              clear hfin
              go_wp2_with fail
              refine bodyPost_ret (v := .tuple #[u11, u12, .int .i64 (ms.length - sk), .int .i64 0]) (by simp [results, Tryd.results21, go_sem]) rfl ?_
              rw [← HE.out]
              exact HF.out
  · obtain ⟨e1, e2, e3, e4⟩ := vb_not (ms := ms) h1
    rw [e1, e2, e3, e4]
    clear e1 e2 e3 e4
    have H1 := Lib.hid h1
    clear h1
    go_enter Tryd.func21, Tryd.ntmps21
    go_wp2_with fail
    refine (isBatch_val H1.out HP.out (HT.out.alloc _)).mono ?_
    rintro e w1 ⟨rfl, hb1⟩
    have HB1 := Lib.hid (bt1 hb1)
    clear hb1
    go_wp2_with fail
    exact bodyPost_ret (v := .tuple #[.slice none 0 0, .slice none 0 0, .int .i64 0, .int .i64 1]) (by simp [results, Tryd.results21, go_sem]) rfl (RetTwo.none HB1.out)

end Go.Proofs.YtnijdfdcjjbneaaDoor
