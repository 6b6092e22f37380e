import Derived.Test.YtpilkgcghlfdmaaGreatDoorVSpT
namespace Go.Proofs.YtpilkgcghlfdmaaGreatDoor
open Go.RowKit

/-- the text of damages, as a string; empty if they are not valid -/
def dtB (ds : List Dm) : ByteArray := ⟨(dtext ds).toArray⟩
theorem bsize_of {b : ByteArray} {l : List UInt8} (h : b.data.toList = l) : b.size = l.length := by rw [← h]; rfl
theorem codeL_ok {ds : List Dm} (h : codeL ds = 0) : ds.length ≤ 20 ∧ ∀ d ∈ ds, d.ok = true := by
  unfold codeL at h
  split at h
  · cases h
  · split at h
    · rename_i h1 h2
      exact ⟨by omega, fun d hd => List.all_eq_true.1 h2 d hd⟩
    · cases h
theorem dtext_no {ds : List Dm} (h : codeL ds ≠ 0) : dtext ds = [] := by
  rw [dtext, if_neg]
  rintro ⟨h1, h2⟩
  exact h (by rw [codeL, if_neg (by omega), if_pos (List.all_eq_true.2 h2)])
theorem dtext_yes {ds : List Dm} (h : codeL ds = 0) : dtext ds = textD ds := by rw [dtext, if_pos (codeL_ok h)]
/-- what precedes a damage's text -/
def preD (ds : List Dm) : List UInt8 := if ds = [] then [] else textD ds ++ [59]
theorem preD_line (ds : List Dm) (d : Dm) : preD ds ++ lineD d = textD (ds ++ [d]) := by
  rw [textD_snoc, preD]
  split <;> simp
theorem preD_len {ds : List Dm} (h : ∀ d ∈ ds, d.ok = true) (hl : ds.length ≤ 20) : (preD ds).length ≤ 2361 := by
  have := textD_len ds h
  unfold preD
  split
  · simp
  · simp; omega

set_option maxRecDepth 100000 in
set_option maxHeartbeats 4000000 in
theorem spDamagesText_any (a : Option Addr) (ds : List Dm) (c : Nat) (w : World) (hx : DmsAt w a ds) (lx : ds.length ≤ 1099511627776) :
    Calls Tryz.prog 8 #[.slice a ds.length c] w fun e w' => e = .returned (.string (dtB ds)) ∧ Below w.heap.size w w' := by
  have HX := Lib.hid hx
  clear hx
  by_cases h0 : codeL ds = 0
  · obtain ⟨hl, hok⟩ := codeL_ok h0
    have HOK := Lib.hid hok
    have HD := Lib.hid (dtext_yes h0)
    have H0 := Lib.hid h0
    clear hok h0
    go_enter Tryz.func8, Tryz.ntmps8
    go_wp2_with fail
    refine (l27Code_val H0.out HX.out lx).mono ?_
    rintro e w1 ⟨rfl, hb1⟩
    have HB1 := Lib.hid hb1
    clear hb1
    go_wp2_with fail
    go_loopw [3, 4, 5, 6, 7] (fun v i _ _ _ wr => ∃ (k : Nat) (b : ByteArray), k ≤ ds.length ∧ i = .int .i64 k ∧ v = .string b ∧ b.data.toList = textD (ds.take k) ∧ Below w.heap.size w wr) (fun _ i _ _ _ _ => ds.length - (intOf i).toNat)
    case atStart => exact ⟨0, ⟨#[]⟩, Nat.zero_le _, rfl, rfl, rfl, HB1.out⟩
    case round =>
      obtain ⟨k, b, hk, rfl, rfl, hbt, hb⟩ := hrel
      have HBT := Lib.hid hbt
      have HB := Lib.hid hb
      have hbs : b.size ≤ 2360 := by
        rw [bsize_of hbt]
        have := textD_len (ds.take k) (fun d hd => HOK.out d (List.mem_of_mem_take hd))
        rw [List.length_take] at this
        omega
      clear hbt hb
      by_cases hlt : k < ds.length
      · obtain ⟨b1, o1, ⟨dk, dr, dc, dt, dw, dg⟩, rfl, hdk, hb1, hc0, hc1, hc2, hc3, hc4, hc5⟩ := (HX.out.below HB.out).at hlt
        have hdok : (⟨dk, dr, dc, dt, dw, dg⟩ : Dm).ok = true := HOK.out _ (List.mem_of_getElem? hdk)
        have HDO := Lib.hid hdok
        have hbd := dm_bounds hdok
        dsimp only at hc0 hc1 hc2 hc3 hc4 hc5 hbd
        have HDK := Lib.hid hdk
        obtain ⟨q, rfl⟩ : ∃ q : Nat, dk = (q : Int) + 1 := ⟨(dk - 1).toNat, by omega⟩
        have hq5 : q < 5 := by omega
        clear hdk hdok
        go_upto_if 18 with fail
        go_cut [3] from 11 to 58 (fun v wx => ∃ b2 : ByteArray, v = .string b2 ∧ b2.data.toList = preD (ds.take k) ∧ wx = wr)
        case first =>
          by_cases hk0 : k = 0
          · subst hk0
            go_wp2_with fail
            go_meet
            exact ⟨b, rfl, by rw [HBT.out]; rfl, rfl⟩
          · have hki : (0 : Int) < (k : Int) := by omega
            have hs2 : b.size + (⟨#[59]⟩ : ByteArray).size ≤ 9223372036854775807 := by
              have : (⟨#[59]⟩ : ByteArray).size = 1 := rfl
              omega
            go_wp2_with fail
            go_meet
            refine ⟨_, rfl, ?_, rfl⟩
            have hne : ds.take k ≠ [] := by
              intro e
              have := congrArg List.length e
              rw [List.length_take, List.length_nil] at this
              omega
            rw [preD, if_neg hne, ← HBT.out]
            simp
        case rest =>
          obtain ⟨b2, rfl, hb2, rfl⟩ := hcut
          have hb2s : b2.size ≤ 2361 := by
            rw [bsize_of hb2]
            exact preD_len (fun d hd => HOK.out d (List.mem_of_mem_take hd)) (by rw [List.length_take]; omega)
          have HB2 := Lib.hid hb2
          clear hb2
          have hwq : (wordB q).size ≤ 7 := by
            have h1 : (wordB q).size = (wordL q).length := bsize_of (by simp [wordB])
            rw [h1]; exact wordL_len q
          have hs2 : (b2 ++ wordB q).size ≤ 2368 := by rw [ByteArray.size_append]; omega
          have HB3 : Hid ((b2 ++ wordB q).data.toList = preD (ds.take k) ++ wordL q) := Lib.hid (by rw [ByteArray.data_append, Array.toList_append, HB2.out]; simp [wordB])
          go_wp2_with fail
          refine wp_region_rs (Keep := KB) [21, 22, 23, 24, 25, 26, 27, 28, 29, 30, 31] (fun us => _)
            [spE (.string b2), spRow 5 (fun i => .string (wordB i)), spE (.slice (some ⟨b1, o1, none⟩) ds.length c), spE (.int .i64 (k : Int)), spE (.pointer (some ⟨b1, o1 + k * 6, none⟩)), spE (.pointer (some ⟨b1, o1 + k * 6, none⟩)), spE (.int .i64 ((q : Int) + 1)), spE (.int .i64 (q : Nat)), spPtr (.string (wordB q)), spE (.string (wordB q)), spE (.string (b2 ++ wordB q))]
            (StX wc) (by kernel_rfl) (by kernel_rfl) (Nat.le_of_ble_eq_true rfl) (fun us => by simp [over, List.mapIdx_cons]; exact rfl) (stX0 _) kbr ?_ ?_
          · refine ⟨?_, ?_, ?_, ?_, ?_, ?_, ?_, ?_, ?_, ?_, ?_, trivial⟩
            all_goals (intro us wx hst hd; rw [if_pos (by kernel_rfl)]; dsimp only)
            · clear hd
              go_simp
              exact kb_same hst rfl
            · clear hd
              go_simp
              exact (l27Words_any wx).mono fun e w' ⟨v, he, hr, hb⟩ => ⟨v, he, kb_below hst hb hr⟩
            · clear hd
              go_simp
              exact kb_same hst rfl
            · clear hd
              go_simp
              exact kb_same hst rfl
            · have d0 : us 23 = .slice (some ⟨b1, o1, none⟩) ds.length c := hd ⟨2, .data⟩ (by simp) rfl
              have d1 : us 24 = .int .i64 (k : Int) := hd ⟨3, .data⟩ (by simp) rfl
              clear hd
              go_simp
              exact kb_same hst rfl
            · have d0 : us 25 = .pointer (some ⟨b1, o1 + k * 6, none⟩) := hd ⟨4, .data⟩ (by simp) rfl
              clear hd
              go_simp
              exact kb_same hst rfl
            · have d0 : us 26 = .pointer (some ⟨b1, o1 + k * 6, none⟩) := hd ⟨5, .data⟩ (by simp) rfl
              clear hd
              have hB := (hst.cell (p := ⟨b1, o1 + k * 6, none⟩) hb1).trans hc0
              go_simp
              exact kb_same hst rfl
            · have d0 : us 27 = .int .i64 ((q : Int) + 1) := hd ⟨6, .data⟩ (by simp) rfl
              clear hd
              have e1 : IntKind.i64.wrap (q : Int) = (q : Int) := IntWalk.i64_in _ (by omega)
              go_simp
              exact kb_same hst rfl
            · have d0 : RowF 5 (fun i => .string (wordB i)) (us 22) wx := hd ⟨1, .data⟩ (by simp) rfl
              have d1 : us 28 = .int .i64 (q : Nat) := hd ⟨7, .data⟩ (by simp) rfl
              clear hd
              obtain ⟨br, er, hcr⟩ := row_at d0
              have hck := hcr q hq5
              have hqi : (q : Int) < 5 := by omega
              clear hcr d0
              go_simp
              exact kb_same hst ⟨br, q, rfl, hck⟩
            · obtain ⟨bq, oq, dq, hcq⟩ : ∃ b o, us 29 = .pointer (some ⟨b, o, none⟩) ∧ wx.cell? ⟨b, o, none⟩ = some (.string (wordB q)) := hd ⟨8, .data⟩ (by simp) rfl
              clear hd
              go_simp
              exact kb_same hst rfl
            · have d0 : us 21 = .string b2 := hd ⟨0, .data⟩ (by simp) rfl
              have d1 : us 30 = .string (wordB q) := hd ⟨9, .data⟩ (by simp) rfl
              clear hd
              have hs3 : ¬ 9223372036854775807 < b2.size + (wordB q).size := by omega
              go_simp
              exact kb_same hst rfl
          · intro us wd hst hd
            have d3 : us 31 = .string (b2 ++ wordB q) := hd 10 (by simp)
            have HBD := Lib.hid (bt0 HB.out hst (Nat.le_refl _))
            replace hc0 := (hst.cell (p := ⟨b1, o1 + k * 6, none⟩) hb1).trans hc0
            replace hc1 := (hst.cell (p := ⟨b1, o1 + k * 6 + 1, none⟩) hb1).trans hc1
            replace hc2 := (hst.cell (p := ⟨b1, o1 + k * 6 + 2, none⟩) hb1).trans hc2
            replace hc3 := (hst.cell (p := ⟨b1, o1 + k * 6 + 3, none⟩) hb1).trans hc3
            replace hc4 := (hst.cell (p := ⟨b1, o1 + k * 6 + 4, none⟩) hb1).trans hc4
            replace hc5 := (hst.cell (p := ⟨b1, o1 + k * 6 + 5, none⟩) hb1).trans hc5
            replace hb1 := lt_of_cell hc0
            clear hd hst
            simp only [List.drop, List.length]
            rw [d3]
            clear d3
            generalize b2 ++ wordB q = b3 at *
            go_wp2_with fail
            refine wp_region_rs (Keep := KB) [32, 33, 34, 35, 36, 37, 38, 39, 40, 41, 42, 5, 6] (fun us => _)
              [spE (.slice (some ⟨b1, o1, none⟩) ds.length c), spE (.int .i64 (k : Int)), spE (.pointer (some ⟨b1, o1 + k * 6, none⟩)), spE (.pointer (some ⟨b1, o1 + k * 6, none⟩)), spE (.int .i64 ((q : Int) + 1)), spRow 5 (fun i => .bool (flB ((q : Int) + 1) i)), spE (.slice (some ⟨b1, o1, none⟩) ds.length c), spE (.int .i64 (k : Int)), spE (.pointer (some ⟨b1, o1 + k * 6, none⟩)), spE (.agg #[.int .i64 ((q : Int) + 1), .int .i64 dr, .int .i64 dc, .int .i64 dt, .int .i64 dw, .int .i64 dg]), spRow 5 (fun i => .int .i64 (lsI dr dc dt dw dg i)), spRow 5 (fun i => .bool (flB ((q : Int) + 1) i)), spRow 5 (fun i => .int .i64 (lsI dr dc dt dw dg i))]
              (StX wd) (by kernel_rfl) (by kernel_rfl) (Nat.le_of_ble_eq_true rfl) (fun us => by simp [over, List.mapIdx_cons]; exact rfl) (stX0 _) kbr ?_ ?_
            · refine ⟨?_, ?_, ?_, ?_, ?_, ?_, ?_, ?_, ?_, ?_, ?_, ?_, ?_, trivial⟩
              all_goals (intro us wx hst hd; rw [if_pos (by kernel_rfl)]; dsimp only)
              · clear hd
                go_simp
                exact kb_same hst rfl
              · clear hd
                go_simp
                exact kb_same hst rfl
              · have d0 : us 32 = .slice (some ⟨b1, o1, none⟩) ds.length c := hd ⟨0, .data⟩ (by simp) rfl
                have d1 : us 33 = .int .i64 (k : Int) := hd ⟨1, .data⟩ (by simp) rfl
                clear hd
                go_simp
                exact kb_same hst rfl
              · have d0 : us 34 = .pointer (some ⟨b1, o1 + k * 6, none⟩) := hd ⟨2, .data⟩ (by simp) rfl
                clear hd
                go_simp
                exact kb_same hst rfl
              · have d0 : us 35 = .pointer (some ⟨b1, o1 + k * 6, none⟩) := hd ⟨3, .data⟩ (by simp) rfl
                clear hd
                have hB := (hst.cell (p := ⟨b1, o1 + k * 6, none⟩) hb1).trans hc0
                go_simp
                exact kb_same hst rfl
              · have d0 : us 36 = .int .i64 ((q : Int) + 1) := hd ⟨4, .data⟩ (by simp) rfl
                clear hd
                go_simp
                exact (l27Fields_any _ wx).mono fun e w' ⟨v, he, hr, hb⟩ => ⟨v, he, kb_below hst hb hr⟩
              · clear hd
                go_simp
                exact kb_same hst rfl
              · clear hd
                go_simp
                exact kb_same hst rfl
              · have d0 : us 38 = .slice (some ⟨b1, o1, none⟩) ds.length c := hd ⟨6, .data⟩ (by simp) rfl
                have d1 : us 39 = .int .i64 (k : Int) := hd ⟨7, .data⟩ (by simp) rfl
                clear hd
                go_simp
                exact kb_same hst rfl
              · have d0 : us 40 = .pointer (some ⟨b1, o1 + k * 6, none⟩) := hd ⟨8, .data⟩ (by simp) rfl
                clear hd
                have hB0 := (hst.cell (p := ⟨b1, o1 + k * 6, none⟩) hb1).trans hc0
                have hB1 := (hst.cell (p := ⟨b1, o1 + k * 6 + 1, none⟩) hb1).trans hc1
                have hB2 := (hst.cell (p := ⟨b1, o1 + k * 6 + 2, none⟩) hb1).trans hc2
                have hB3 := (hst.cell (p := ⟨b1, o1 + k * 6 + 3, none⟩) hb1).trans hc3
                have hB4 := (hst.cell (p := ⟨b1, o1 + k * 6 + 4, none⟩) hb1).trans hc4
                have hB5 := (hst.cell (p := ⟨b1, o1 + k * 6 + 5, none⟩) hb1).trans hc5
                go_simp
                exact kb_same hst rfl
              · have d0 : us 41 = .agg #[.int .i64 ((q : Int) + 1), .int .i64 dr, .int .i64 dc, .int .i64 dt, .int .i64 dw, .int .i64 dg] := hd ⟨9, .data⟩ (by simp) rfl
                clear hd
                go_simp
                exact (l27List_any _ _ _ _ _ _ wx).mono fun e w' ⟨v, he, hr, hb⟩ => ⟨v, he, kb_below hst hb hr⟩
              · have d0 : RowF 5 (fun i => .bool (flB ((q : Int) + 1) i)) (us 37) wx := hd ⟨5, .data⟩ (by simp) rfl
                clear hd
                go_simp
                exact kb_same hst d0
              · have d0 : RowF 5 (fun i => .int .i64 (lsI dr dc dt dw dg i)) (us 42) wx := hd ⟨10, .data⟩ (by simp) rfl
                clear hd
                go_simp
                exact kb_same hst d0
            · intro us we hst hd
              have d5 : RowF 5 (fun i => .bool (flB ((q : Int) + 1) i)) (us 5) we := hd 11 (by simp)
              have d6 : RowF 5 (fun i => .int .i64 (lsI dr dc dt dw dg i)) (us 6) we := hd 12 (by simp)
              obtain ⟨bf, ef, hcf⟩ := row_at d5
              obtain ⟨bl, el, hcl⟩ := row_at d6
              have HBE := Lib.hid (bt0 HBD.out hst (Nat.le_refl _))
              have HCF := Lib.hid hcf
              have HCL := Lib.hid hcl
              clear hd hst d5 d6 hcf hcl hc0 hc1 hc2 hc3 hc4 hc5 hb1
              simp only [List.drop, List.length]
              rw [ef, el]
              clear ef el
              go_wp2_with fail
              go_loopw [3, 7] (fun v i wr => ∃ (j : Nat) (b4 : ByteArray), j ≤ 5 ∧ i = .int .i64 j ∧ v = .string b4 ∧ b4.data.toList = b3.data.toList ++ ftx ⟨(q : Int) + 1, dr, dc, dt, dw, dg⟩ j ∧ b4.size ≤ 2368 + 22 * j ∧ Below we.heap.size we wr) (fun _ i _ => 5 - (intOf i).toNat)
              case atStart => exact ⟨0, b3, by omega, rfl, rfl, by simp [ftx], by omega, Below.refl _ _⟩
              case round =>
                obtain ⟨j, b4, hj, rfl, rfl, hb4, hs4, hb5⟩ := hrel
                have HB4 := Lib.hid hb4
                have HB5 := Lib.hid hb5
                clear hb4 hb5
                by_cases hj5 : j < 5
                · have hji : (j : Int) < 5 := by omega
                  have hf0 := (HB5.out.cell (p := ⟨bf, j, none⟩) (lt_of_cell (HCF.out j hj5))).trans (HCF.out j hj5)
                  have hl0 := (HB5.out.cell (p := ⟨bl, j, none⟩) (lt_of_cell (HCL.out j hj5))).trans (HCL.out j hj5)
                  obtain ⟨z, hz⟩ : ∃ z, lsI dr dc dt dw dg j = z := ⟨_, rfl⟩
                  obtain ⟨f, hf⟩ : ∃ f, flB ((q : Int) + 1) j = f := ⟨_, rfl⟩
                  have hzb := lsI_bd HDO.out j
                  dsimp only at hzb
                  rw [hz] at hl0 hzb
                  rw [hf] at hf0
                  have HZ := Lib.hid hz
                  have HF := Lib.hid hf
                  clear hz hf
                  cases f with
                  | false =>
                    go_wp2_with fail
                    refine ⟨⟨j + 1, b4, by omega, by go_num, rfl, ?_, by omega, HB5.out⟩, by simp [intOf]; omega⟩
                    rw [HB4.out, ftx, if_neg (by rw [HF.out]; decide)]
                  | true =>
                    have h32 : (⟨#[32]⟩ : ByteArray).size = 1 := rfl
                    have hs5 : b4.size + (⟨#[32]⟩ : ByteArray).size ≤ 9223372036854775807 := by omega
                    go_wp2_with fail
                    refine (l25Signed_any z _ hzb.1 hzb.2).mono ?_
                    rintro e w9 ⟨rfl, hb9⟩
                    have HB9 := Lib.hid (bt0 HB5.out hb9 (Nat.le_refl _))
                    have hdz : (decB z).size ≤ 21 := by rw [decB_size]; exact itoa_len21 hzb.1 hzb.2
                    have hs6 : (b4 ++ (⟨#[32]⟩ : ByteArray)).size + (decB z).size ≤ 9223372036854775807 := by rw [ByteArray.size_append]; omega
                    have hs7 : (b4 ++ (⟨#[32]⟩ : ByteArray) ++ decB z).size ≤ 2368 + 22 * (j + 1) := by rw [ByteArray.size_append, ByteArray.size_append]; omega
                    have HS7 := Lib.hid hs7
                    clear hb9 hf0 hl0 hs7
                    go_wp2_with fail
                    refine ⟨⟨j + 1, _, by omega, by go_num, rfl, ?_, HS7.out, HB9.out⟩, by simp [intOf]; omega⟩
                    rw [ftx, if_pos HF.out, ByteArray.data_append, ByteArray.data_append, Array.toList_append, Array.toList_append, HB4.out]
                    dsimp only
                    rw [HZ.out]
                    simp [decB]
                · obtain rfl : j = 5 := by omega
                  have hji : ¬ ((5 : Nat) : Int) < 5 := by omega
                  have HX1 := Lib.hid (bt0 HBE.out HB5.out (Nat.le_refl _))
                  go_wp2_with fail
                  refine ⟨⟨k + 1, b4, by omega, by go_num, rfl, ?_, HX1.out⟩, by simp [intOf]; omega⟩
                  have hl := ftx_line HDO.out
                  have e9 : (((q : Int) + 1) - 1).toNat = q := by omega
                  dsimp only at hl
                  rw [e9] at hl
                  rw [HB4.out, HB3.out, List.append_assoc, hl, preD_line, take_snoc' HDK.out]
      · go_wp2_with fail
        go_ret
        refine ⟨ret_str ?_, HB.out⟩
        apply ByteArray.ext
        apply Array.toList_inj.1
        rw [HBT.out, List.take_of_length_le (by omega), dtB, HD.out]
  · have HD := Lib.hid (dtext_no h0)
    have hne : (codeL ds == 0) = false := by simp [h0]
    have H0 := Lib.hid (show codeL ds = codeL ds from rfl)
    obtain ⟨z, hz⟩ : ∃ z, codeL ds = z := ⟨_, rfl⟩
    have HZ := Lib.hid hz
    rw [hz] at hne
    clear hz h0
    have hne2 : (z != 0) = true := by rw [bne, hne]; rfl
    go_enter Tryz.func8, Tryz.ntmps8
    go_wp2_with fail
    refine (l27Code_val HZ.out HX.out lx).mono ?_
    rintro e w1 ⟨rfl, hb1⟩
    have HB1 := Lib.hid hb1
    clear hb1
    go_wp2_with fail
    go_ret
    exact ⟨ret_str (by rw [dtB, HD.out]), HB1.out⟩

end Go.Proofs.YtpilkgcghlfdmaaGreatDoor
