import Derived.Test.YtlcglclojlffgaaGreatVEstI
import Derived.Test.YtlcglclojlffgaaGreatVPayI
import Derived.Test.YtlcglclojlffgaaGreatVRG8
import Derived.Test.YtlcglclojlffgaaGreatVNumI
import Derived.Test.YtlcglclojlffgaaGreatVSgsI
namespace Go.Proofs.YtlcglclojlffgaaGreat
open Go.RowKit Go.Shelf
attribute [local go_sem] Oper.semAt_some

def spWd (g : Nat) (wd : List Nat) : Sp KB := ⟨WdV g wd, fun _ _ _ hk h => h.below hk⟩
set_option maxRecDepth 100000 in
set_option maxHeartbeats 4000000 in
theorem encodeStream_any {p k g : Int} {F : Fd} (h : FV p k g F) (d c n : Nat) (xs : List Nat) (a : Option Addr) (cp : Nat) (w : World) (hok : Lay.ok ⟨d, c, n⟩ F.q = true) (hx : IntsAt w a (natI xs)) (hl : xs.length = d) (hcp : d ≤ cp) (hall : AllE F xs) :
    Calls Tryz.prog 20 #[.agg #[.int .i64 p, .int .i64 k, .int .i64 g, .int .i64 (d : Int), .int .i64 (c : Int), .int .i64 (n : Int)], .slice a d cp] w (RetLC w (natI (strC F d n c xs)) 0) := by
  have H := Lib.hid h
  have HX := Lib.hid hx
  have HA := Lib.hid hall
  have HL := Lib.hid hl
  have HOK := Lib.hid hok
  obtain ⟨hn, hn2, hnd, hd2, hc, hc2, htot, hsh⟩ := lay_facts hok
  have HSH := Lib.hid hsh
  clear h hx hall hl hsh hok
  refine callsIn_wide.1 (callsIn_of_wp_marks (n := 5) Tryz.func20 rfl trivial ?_)
  rw [wpIn_wide]
  simp only [Tryz.ntmps20, List.size_toArray, List.length_cons, List.length_nil, Nat.reduceAdd, Nat.reduceSub, Array.replicate_succ, Array.replicate_zero, List.push_toArray, List.append_toArray, List.nil_append, List.cons_append]
  go_wp2_with fail
  have hb0 : LayAt (w.alloc (.cells #[.int .i64 p, .int .i64 k, .int .i64 g, .int .i64 (d : Int), .int .i64 (c : Int), .int .i64 (n : Int)] 40 (0, 0))) w.heap.size p k g d c n := order_at
  have HB0 := Lib.hid (ba1 w (.cells #[.int .i64 p, .int .i64 k, .int .i64 g, .int .i64 (d : Int), .int .i64 (c : Int), .int .i64 (n : Int)] 40 (0, 0)))
  obtain ⟨w1, hw1⟩ : ∃ w1, w1 = w.alloc (.cells #[.int .i64 p, .int .i64 k, .int .i64 g, .int .i64 (d : Int), .int .i64 (c : Int), .int .i64 (n : Int)] 40 (0, 0)) := ⟨_, rfl⟩
  rw [← hw1] at hb0 HB0 ⊢
  have HLA1 := Lib.hid hb0
  clear hw1 hb0
  refine (isLayout_any H.out _ _ _ w1).mono ?_
  rw [HOK.out]
  rintro e w2 ⟨rfl, hb2⟩
  have HB2 := Lib.hid (bt0 HB0.out hb2 (Nat.le_refl _))
  have HLA2 := Lib.hid (show LayAt w2 w.heap.size p k g d c n from blkK hb2 HLA1.out)
  obtain ⟨hcA, hfA⟩ := heap_cellR HLA2.out
  have hltA := blkLt HLA2.out
  clear hb2 HLA1 HB0
  go_wp2_with fail
  refine (calc_fv H.out w2).mono ?_
  rintro e w3 ⟨hb3, a3, rfl, hcalc⟩
  obtain ⟨bc, rfl, hbc, hC⟩ := hcalc rfl
  have HC3 := Lib.hid hC
  have HB3 := Lib.hid (bt0 HB2.out hb3 (Nat.le_refl _))
  have HLA3 := Lib.hid (show LayAt w3 w.heap.size p k g d c n from blkK hb3 HLA2.out)
  have hbc2 : ¬ (bc : Nat) < w.heap.size := by have := HB2.out.size; omega
  clear hb3 hcA hfA hltA hC hcalc hbc
  obtain ⟨hcA, hfA⟩ := heap_cellR HLA3.out
  have hltA := blkLt HLA3.out
  go_wp2_with fail
  have hh := hasAll_any F H.out.fd bc a (natI xs) cp w3 HC3.out (HX.out.below HB3.out) (by rw [natI_len, HL.out]; omega)
  rw [natI_len, HL.out, elsB_of HA.out] at hh
  refine hh.mono ?_
  rintro e w4 ⟨rfl, rfl⟩
  clear hh
  have hmk := make_ws n (by omega) w3
  go_wp2_with fail
  obtain ⟨gb, hgb⟩ : ∃ gb, gb = w3.heap.size := ⟨_, rfl⟩
  have hB5 := HB3.out.trans ((ba2 w3 (.cells (madeCells #[.slice none 0 0] n) 24 (0, 0)) (.cells #[.slice (some ⟨w3.heap.size, 0, none⟩) n n] 68 (0, 0))).mono HB3.out.size)
  have hB5' := (ba2 w3 (.cells (madeCells #[.slice none 0 0] n) 24 (0, 0)) (.cells #[.slice (some ⟨w3.heap.size, 0, none⟩) n n] 68 (0, 0)))
  have hWS := (WsAt.new w3 n (wordC F d n c xs)).below (ba1 (w3.alloc (.cells (madeCells #[.slice none 0 0] n) 24 (0, 0))) (.cells #[.slice (some ⟨w3.heap.size, 0, none⟩) n n] 68 (0, 0)))
  have hBX := (heap2 w3 (.cells (madeCells #[.slice none 0 0] n) 24 (0, 0)) (.cells #[.slice (some ⟨w3.heap.size, 0, none⟩) n n] 68 (0, 0))).2
  have hLA5 : LayAt _ w.heap.size p k g d c n := blkK hB5' HLA3.out
  obtain ⟨w5, hw5⟩ : ∃ w5, w5 = ((w3.alloc (.cells (madeCells #[.slice none 0 0] n) 24 (0, 0))).alloc (.cells #[.slice (some ⟨w3.heap.size, 0, none⟩) n n] 68 (0, 0))) := ⟨_, rfl⟩
  rw [← hw5] at hB5 hWS hBX hLA5 ⊢
  have hgw : w.heap.size < gb := by rw [hgb]; exact hltA
  rw [← hgb] at hWS hBX ⊢
  have HB5 := Lib.hid hB5
  have HWS5 := Lib.hid hWS
  have HBX5 := Lib.hid hBX
  have HLA5 := Lib.hid hLA5
  obtain ⟨wd, hwd⟩ : ∃ wd, wd = wordC F d n c xs := ⟨_, rfl⟩
  rw [← hwd] at HWS5
  have HWD := Lib.hid hwd
  clear hwd hB5 hWS hBX hLA5 hB5' hw5 hgb hmk hcA hfA hltA HLA3 HLA2 HB2 HB3 HC3 hbc2
  go_loopw [9, 10, 11, 12, 13, 42] (fun f _ _ _ _ i wr => ∃ b : Nat, b ≤ n ∧ i = .int .i64 b ∧ f = .int .i64 (frN d n b : Nat) ∧ LayAt wr w.heap.size p k g d c n ∧ WsAt wr gb n b wd ∧ wr.heap[gb + 1]? = some (.cells #[.slice (some ⟨gb, 0, none⟩) n n] 68 (0, 0)) ∧ Below w.heap.size w wr) (fun _ _ _ _ _ i _ => n - (intOf i).toNat)
  case atStart => exact ⟨0, Nat.zero_le _, rfl, by rw [frN_zero]; rfl, HLA5.out, HWS5.out, HBX5.out, HB5.out⟩
  case round =>
    obtain ⟨b, hb, rfl, rfl, hla, hws, hbx, hbb⟩ := hrel
    have HLA := Lib.hid hla
    have HWS := Lib.hid hws
    have HBX := Lib.hid hbx
    have HBB := Lib.hid hbb
    obtain ⟨hcA, hfA⟩ := heap_cellR HLA.out
    have hltA := blkLt HLA.out
    obtain ⟨hcB, hfB⟩ := heap_cellR HBX.out
    have hltB := blkLt HBX.out
    clear hla hws hbx hbb
    by_cases hbn : b < n
    · have hbi : (b : Int) < (n : Int) := by omega
      obtain ⟨hs1, hs2, hs3, hs4⟩ := HSH.out b hbn
      have hcode : codB F.q (((shN d n b : Nat) : Int) + c) c = true := by simp [codB]; omega
      obtain ⟨s, hs⟩ : ∃ s, s = shN d n b := ⟨_, rfl⟩
      have HS := Lib.hid hs
      rw [← hs] at hs1 hs2 hs3 hs4 hcode
      have HCD := Lib.hid hcode
      clear hs hcode
      go_wp2_with fail
      have hsc := share_any p k g d c n b wr (by omega) (by omega) (by omega) (by omega)
      rw [share_nat d c n b hn, ← HS.out] at hsc
      refine hsc.mono ?_
      rintro e w6 ⟨rfl, hb6⟩
      clear hsc
      have HLA6 := Lib.hid (show LayAt w6 w.heap.size p k g d c n from blkK hb6 HLA.out)
      have HWS6 := Lib.hid (HWS.out.below hb6)
      have HBX6 := Lib.hid (blkK hb6 HBX.out)
      have HBB6 := Lib.hid (bt0 HBB.out hb6 (Nat.le_refl _))
      clear hb6 hcA hfA hltA hcB hfB hltB HLA HWS HBX HBB
      obtain ⟨hcA, hfA⟩ := heap_cellR HLA6.out
      have hltA := blkLt HLA6.out
      go_wp2_with fail
      have hlc := layCode_any p k g d c n b w6 (by omega) (by omega) (by omega) (by omega) (by omega) (by omega)
      rw [share_nat d c n b hn, ← HS.out] at hlc
      refine hlc.mono ?_
      rintro e w7 ⟨rfl, hb7⟩
      clear hlc
      have HB7 := Lib.hid hb7
      clear hb7 hcA hfA hltA
      go_wp2_with fail
      have hcd := coder_any H.out (((s : Nat) : Int) + c) c w7
      rw [HCD.out] at hcd
      refine hcd.mono ?_
      rintro e w8 ⟨hb8, a8, rfl, hco⟩
      obtain ⟨dd, db, rfl, hCO⟩ := hco rfl
      clear hco hcd
      have HCO := Lib.hid (show CoderAt w8 dd db F ((s + c : Nat) : Int) c by push_cast; exact hCO)
      have HLA8 := Lib.hid (show LayAt w8 w.heap.size p k g d c n from blkK hb8 (blkK HB7.out HLA6.out))
      have HWS8 := Lib.hid ((HWS6.out.below HB7.out).below hb8)
      have HBX8 := Lib.hid (blkK hb8 (blkK HB7.out HBX6.out))
      have HBB8 := Lib.hid (bt0 (bt0 HBB6.out HB7.out (Nat.le_refl _)) hb8 (Nat.le_refl _))
      clear hb8 hCO HLA6 HWS6 HBX6 HBB6 HB7
      go_wp2_with fail
      obtain ⟨b1, o1, rfl, hlt1, -⟩ := co_at (HX.out.below HBB8.out) (k := 0) (by rw [HL.out]; omega)
      obtain ⟨fr, hfr⟩ : ∃ fr, fr = frN d n b := ⟨_, rfl⟩
      have HFR := Lib.hid hfr
      rw [← hfr] at hs4 ⊢
      clear hfr
      have HWB := Lib.hid (show wd b = encW F (s + c) c ((xs.drop fr).take s) by rw [HWD.out, wordC, HS.out, HFR.out])
      have hx8 : w8.cell? ⟨gb + 1, 0, none⟩ = some (.slice (some ⟨gb, 0, none⟩) n n) := (heap_cellR HBX8.out).1 0
      have HXD := Lib.hid (show IntsAt w8 (some ⟨b1, o1 + fr, none⟩) (natI ((xs.drop fr).take s)) by
        have h1 := ((HX.out.below HBB8.out).dropN fr).take s
        rwa [← natI_take] at h1)
      have hg8 : gb < w8.heap.size := HWS8.out.lt
      have hsn : s ≤ d := by omega
      have HW := Lib.hid (show IntKind.i64.wrap ((fr : Int) + (s : Int)) = (fr : Int) + (s : Int) by rw [IntKind.wrap_i64]; omega)
      have HQ := Lib.hid (show (0 ≤ (fr : Int) + (s : Int) ∧ (fr : Int) + (s : Int) ≤ (cp : Int)) ∧ fr ≤ ((fr : Int) + (s : Int)).toNat ∧ ¬ cp = fr ∧ ((fr : Int) + (s : Int)).toNat - fr = s by omega)
      refine wp_region_rt (Keep := KB) [55, 56, 57, 58, 59, 60, 61, 62, 63, 64, 65] (fun us => _)
        [spE (.slice (some ⟨gb, 0, none⟩) n n),
         spE (.int .i64 (b : Int)),
         spE (.pointer (some ⟨dd, 0, none⟩)),
         spE (.slice (some ⟨b1, o1, none⟩) d cp),
         spE (.int .i64 (fr : Int)),
         spE (.int .i64 (fr : Int)),
         spE (.int .i64 (s : Int)),
         spE (.int .i64 ((fr : Int) + (s : Int))),
         spE (.slice (some ⟨b1, o1 + fr, none⟩) s (cp - fr)),
         spWd gb (wd b),
         spE (.pointer (some ⟨gb, b, none⟩))]
        (StX w8) (by kernel_rfl) (by kernel_rfl) (Nat.le_of_ble_eq_true rfl) (fun us => by simp [over, List.mapIdx_cons]; exact rfl) (stX0 _) kbr ?_ ?_
      · refine ⟨?_, ?_, ?_, ?_, ?_, ?_, ?_, ?_, ?_, ?_, ?_, trivial⟩
        all_goals (intro us wx hst hd; rw [if_pos (by kernel_rfl)]; dsimp only)
        · clear hd
          have hW := below_cell hst hx8
          go_simp
          exact kb_same hst rfl
        · clear hd
          go_simp
          exact kb_same hst rfl
        · clear hd
          go_simp
          exact kb_same hst rfl
        · clear hd
          go_simp
          exact kb_same hst rfl
        · clear hd
          go_simp
          exact kb_same hst rfl
        · clear hd
          go_simp
          exact kb_same hst rfl
        · clear hd
          go_simp
          exact kb_same hst rfl
        · have d60 : us 60 = (.int .i64 (fr : Int)) := hd ⟨5, .data⟩ (by simp) rfl
          have d61 : us 61 = (.int .i64 (s : Int)) := hd ⟨6, .data⟩ (by simp) rfl
          clear hd
          skip
          go_simp
          rw [HW.out]
          exact kb_same hst rfl
        · have d58 : us 58 = (.slice (some ⟨b1, o1, none⟩) d cp) := hd ⟨3, .data⟩ (by simp) rfl
          have d59 : us 59 = (.int .i64 (fr : Int)) := hd ⟨4, .data⟩ (by simp) rfl
          have d62 : us 62 = (.int .i64 ((fr : Int) + (s : Int))) := hd ⟨7, .data⟩ (by simp) rfl
          clear hd
          skip
          go_simp
          simp only [if_pos HQ.out.1, if_pos HQ.out.2.1, if_neg HQ.out.2.2.1, HQ.out.2.2.2]
          exact kb_same hst rfl
        · have d57 : us 57 = (.pointer (some ⟨dd, 0, none⟩)) := hd ⟨2, .data⟩ (by simp) rfl
          have d63 : us 63 = (.slice (some ⟨b1, o1 + fr, none⟩) s (cp - fr)) := hd ⟨8, .data⟩ (by simp) rfl
          clear hd
          rw [HWB.out]
          go_simp
          exact (encode_any F H.out.fd dd db (s + c) c (some ⟨b1, o1 + fr, none⟩) ((xs.drop fr).take s) s (cp - fr) wx (by rw [List.length_take, List.length_drop, HL.out]; omega) (by rw [List.length_take, List.length_drop, HL.out]; omega) hc hc2 hs1 (by rw [List.length_take, List.length_drop, HL.out]; omega) (fun x hx => HA.out x (List.mem_of_mem_drop (List.mem_of_mem_take hx))) (HXD.out.below hst) (HCO.out.below hst)).mono fun e w' ⟨a', c', he, ho, hb⟩ => ⟨_, he, kb_below hst hb ⟨a', c', rfl, ho.ints, ho.notAt (by have := hst.size; omega)⟩⟩
        · have d55 : us 55 = (.slice (some ⟨gb, 0, none⟩) n n) := hd ⟨0, .data⟩ (by simp) rfl
          have d56 : us 56 = (.int .i64 (b : Int)) := hd ⟨1, .data⟩ (by simp) rfl
          clear hd
          go_simp
          exact kb_same hst rfl
      · intro us wx hst hd
        have d65 : us 65 = (.pointer (some ⟨gb, b, none⟩)) := hd 10 (by simp)
        have d64 := hd 9 (by simp)
        clear hd
        simp only [List.drop, List.length]
        rw [d65]

        obtain ⟨a9, c9, e64, hi9, hne9⟩ : WdV gb (wd b) (us 64) wx := d64
        obtain ⟨v9, hc9, hf9⟩ := (HWS8.out.below hst).place hbn
        have hWS := (HWS8.out.below hst).store hbn ⟨a9, c9, e64, hi9, hne9⟩
        have HFS := Lib.hid (show ((fr + s : Nat) : Int) = (fr : Int) + (s : Int) by push_cast; rfl)
        rw [e64] at hWS ⊢
        have HLAx := Lib.hid (show LayAt (wx.setCell ⟨gb, b, none⟩ (.slice a9 (wd b).length c9)) w.heap.size p k g d c n from (Below.heap_setCell _ _ _ _ (by dsimp only; omega)).trans (blkK hst HLA8.out))
        have HWSx := Lib.hid hWS
        have HBXx := Lib.hid (show (wx.setCell ⟨gb, b, none⟩ (.slice a9 (wd b).length c9)).heap[gb + 1]? = _ from (Below.heap_setCell _ _ _ _ (by dsimp only; omega)).trans (blkK hst HBX8.out))
        have HBBx := Lib.hid ((bt0 HBB8.out hst (Nat.le_refl _)).setCell (p := ⟨gb, b, none⟩) (by dsimp only; omega) (.slice a9 (wd b).length c9))
        clear hWS hst hi9 hne9 e64 d65
        go_wp2_with fail
        case' roundEnd =>
          refine ⟨⟨b + 1, by omega, by push_cast; rfl, ?_, HLAx.out, HWSx.out, HBXx.out, HBBx.out⟩, ?_⟩
          · rw [← HFS.out, frN_step, ← HS.out, ← HFR.out]
          · show n - (((b : Int) + 1)).toNat < n - ((b : Int)).toNat
            omega
    · have hbi : ¬ (b : Int) < (n : Int) := by omega
      obtain rfl : n = b := by omega
      go_wp2_with fail
      have htt := total_any p k g d c n wr (by omega) (by omega) (by omega) (by omega) (by omega) (by omega)
      obtain ⟨tt, htte⟩ : ∃ tt : Nat, tt = d + n * c := ⟨_, rfl⟩
      have HTT := Lib.hid htte
      rw [show Lay.total ⟨d, c, n⟩ = (tt : Int) by rw [htte]; push_cast; rfl] at htt
      rw [← htte] at htot
      clear htte
      refine htt.mono ?_
      rintro e w6 ⟨rfl, hb6⟩
      clear htt
      have HLA6 := Lib.hid (show LayAt w6 w.heap.size p k g d c n from blkK hb6 HLA.out)
      have HWS6 := Lib.hid (HWS.out.below hb6)
      have HBX6 := Lib.hid (blkK hb6 HBX.out)
      have HBB6 := Lib.hid (bt0 HBB.out hb6 (Nat.le_refl _))
      clear hb6 hcA hfA hltA hcB hfB hltB HLA HWS HBX HBB
      have hmk2 := make_cap tt (by omega) w6
      have HOW := Lib.hid (ownI_cap w6 tt (by omega))
      obtain ⟨hcA, hfA⟩ := heap_cellR HLA6.out
      have hltA := blkLt HLA6.out
      go_wp2_with fail
      refine (order_any p k g d c n _).mono ?_
      rintro e w7' ⟨rfl, rfl⟩
      obtain ⟨C1, hC1⟩ : ∃ C, C = Obj.cells (madeCells #[.int .i64 0] tt) 2 (0, 0) := ⟨_, rfl⟩
      obtain ⟨C2, hC2⟩ : ∃ C, C = Obj.cells #[.slice (some ⟨w6.heap.size, 0, none⟩) 0 tt] 24 (0, 0) := ⟨_, rfl⟩
      obtain ⟨C3, hC3⟩ : ∃ C, C = Obj.cells #[.int .i64 p, .int .i64 k, .int .i64 g, .int .i64 (d : Int), .int .i64 (c : Int), .int .i64 (n : Int)] 40 (0, 0) := ⟨_, rfl⟩
      rw [← hC1] at HOW
      rw [← hC1, ← hC2, ← hC3]
      obtain ⟨rb, hrb⟩ : ∃ rb, rb = w6.heap.size := ⟨_, rfl⟩
      have hB7 : Below w6.heap.size w6 (((w6.alloc C1).alloc C2).alloc C3) := (ba2 w6 C1 C2).alloc (by simp; omega) C3
      have hO7 := HOW.out.grown (ba2 (w6.alloc C1) C2 C3)
      have hX7 : (((w6.alloc C1).alloc C2).alloc C3).heap[rb + 1]? = some (.cells #[.slice (some ⟨rb, 0, none⟩) 0 tt] 24 (0, 0)) := by
        have h1 : ((w6.alloc C1).alloc C2).heap[rb + 1]? = some C2 := by rw [hrb]; exact (heap2 w6 C1 C2).2
        rw [hC2, ← hrb] at h1
        rw [hC2, ← hrb]
        exact push_old h1
      have hL7 : LayAt (((w6.alloc C1).alloc C2).alloc C3) (rb + 2) p k g d c n := by
        rw [hC3]
        have h1 := order_at (p := p) (k := k) (g := g) (d := d) (c := c) (n := n) (w := (w6.alloc C1).alloc C2)
        rwa [show ((w6.alloc C1).alloc C2).heap.size = rb + 2 by simp [hrb]] at h1
      have hs7 : (((w6.alloc C1).alloc C2).alloc C3).heap.size = rb + 3 := by simp [hrb]
      have hs67 : ((w6.alloc C1).alloc C2).heap.size = rb + 2 := by simp [hrb]
      rw [← hrb] at hO7 hB7
      obtain ⟨W7, hW7⟩ : ∃ W, W = ((w6.alloc C1).alloc C2).alloc C3 := ⟨_, rfl⟩
      rw [← hW7] at hB7 hO7 hX7 hL7 hs7 ⊢
      rw [hs67, ← hrb]
      have HB7 := Lib.hid hB7
      have HO7 := Lib.hid hO7
      have HX7 := Lib.hid hX7
      have HL7 := Lib.hid hL7
      have HRB := Lib.hid hrb
      clear hrb hC1 hC2 hC3 hW7 hs67 hB7 hO7 hX7 hL7 hmk2 HOW hcA hfA hltA
      go_wp2_with fail
      rw [← wpIn_wide (n := 5)]
      try rw [← HRB.out]
      have hN : (ordC (shN d n) n c).length ≤ 1000000 := by
        rw [ordC, List.length_append, ordE_len]
        have h1 := ordD_len (shN d n) n (shN d n (n - 1))
        have h2 : shN d n (n - 1) * n ≤ 1500 * 16 := Nat.mul_le_mul (by have := shN_le d n (n - 1) hn (by omega); omega) hn2
        have h3 : c * n ≤ 64 * 16 := Nat.mul_le_mul hc2 hn2
        omega
      refine' wpIn_rangeFunc_ownF (F := Fence.wide) (n := 5) rfl (by decide) (gf := 84) (lb := #[.pointer (some ⟨rb + 2, 0, none⟩)]) (by simp [Act.eval]) trivial (enters_of Tryz.func84 (by kernel_rfl) rfl)
        (order_mem 4 (rb + 2) p k g d c n hd2 hc2 hn hn2 W7 HL7.out).sub (fun h1 h2 => Eq.trans h2 h1) (fun W l o o' hl ho _ _ => World.putObj_heap_other (by omega)) (Below.refl _ _) (fun _ => rfl)
        (fun pre W => (∃ a' c' l', l' = natI (pre.map fun x => co (wd x.1.1) x.1.2) ∧ W.heap[rb + 1]? = some (.cells #[.slice a' l'.length c'] 24 (0, 0)) ∧ OwnI W rb (.slice a' l'.length c') l' ∧ (Value.slice a' l'.length c').ownBlock ≠ some (rb + 1) ∧ (Value.slice a' l'.length c').ownBlock ≠ some (rb + 2)) ∧ Below rb w6 W ∧ rb + 2 < W.heap.size)
        (fun _ _ _ => False) ?hI (fun _ _ _ _ _ hs _ _ => hs) ?h0 _ ?assign ?body ?done ?stop
      case assign =>
        intro l x W K hK
        gi_wp2
        exact hK
      case hI =>
        refine OwnFrom.and (Own.from (fun s A B row hs hg hr => ?_) _) (OwnFrom.and (ownFrom_below (by rw [HRB.out]; exact Nat.le_refl _) (by omega)) (Own.from (fun s A B row hs hg hr => by have := hg.size; omega) _))
        obtain ⟨a', c', l', e, hbx, hown, h1, h2⟩ := hs
        exact ⟨a', c', l', e, blk_grownBy hbx hg hr, hown.grownBy hg hr, h1, h2⟩
      case h0 =>
        exact ⟨⟨_, _, [], rfl, HX7.out, HO7.out, (fun e => by cases e), (fun e => by cases e)⟩, HB7.out, by omega⟩
      case body =>
        rintro l pre ⟨⟨xb, xe⟩, hxo⟩ W ⟨⟨a', c', l', hl', hbx, hown, hne1, hne2⟩, hbel, hsz⟩ hlen
        have hbel' : Below w6.heap.size w6 W := by rw [← HRB.out]; exact hbel
        obtain ⟨hxb, hxe0⟩ := ordC_in hxo
        dsimp only at hxb hxe0
        have hWSW := HWS6.out.below hbel'
        have hwl : xe < (wd xb).length := by
          rw [HWD.out, wordC, encW, List.length_append, chkTo_len, List.length_take, List.length_drop, HL.out]
          have := (HSH.out xb hxb).2.2.2
          omega
        obtain ⟨aw, c2, hxw, hiw⟩ := hWSW.word hxb
        obtain ⟨b2, o2, rfl, hlt2, hxe⟩ := co_at hiw hwl
        obtain ⟨wl, hwle⟩ : ∃ wl, wl = (wd xb).length := ⟨_, rfl⟩
        rw [← hwle] at hwl hxw
        clear hwle
        have hx14 : W.cell? ⟨rb + 1, 0, none⟩ = some (.slice a' l'.length c') := (heap_cellR hbx).1 0
        have hx8 : W.cell? ⟨gb + 1, 0, none⟩ = some (.slice (some ⟨gb, 0, none⟩) n n) := (heap_cellR (blkK hbel' HBX6.out)).1 0
        have hll : l'.length ≤ 1000000 := by rw [hl', natI_len, List.length_map]; omega
        have HLQ := Lib.hid hl'
        have HBQ := Lib.hid hbx
        have HOQ := Lib.hid hown
        have HBEL := Lib.hid hbel
        have HN1 := Lib.hid hne1
        have HN2 := Lib.hid hne2
        clear hl' hbx hown hbel hbel' hWSW hiw hne1 hne2 hlen hN
        gi_wp2
        refine wpIn_region_rt (F := Fence.wide.inRound l) rfl (Keep := KB) [77, 78, 79, 80, 81, 82, 83, 84, 85] (fun us => _)
          [spE (.slice a' l'.length c'),
           spE (.slice (some ⟨gb, 0, none⟩) n n),
           spE (.int .i64 (xb : Int)),
           spE (.pointer (some ⟨gb, xb, none⟩)),
           spE (.slice (some ⟨b2, o2, none⟩) wl c2),
           spE (.int .i64 (xe : Int)),
           spE (.pointer (some ⟨b2, o2 + xe, none⟩)),
           spE (.int .i64 ((co (wd xb) xe : Nat) : Int)),
           spSlc rb #[.int .i64 ((co (wd xb) xe : Nat) : Int)] 2]
          (StX W) (by kernel_rfl) (by kernel_rfl) (by rintro ⟨_, _, hq⟩; exact hq) (by kernel_rfl) (Nat.le_of_ble_eq_true rfl) (fun us => by simp [over, List.mapIdx_cons]; exact rfl) (stX0 _) kbr ?_ ?_
        · refine ⟨?_, ?_, ?_, ?_, ?_, ?_, ?_, ?_, ?_, trivial⟩
          all_goals (intro us wx hst hd; rw [if_pos (by kernel_rfl)]; dsimp only)
          · clear hd
            have hW := below_cell hst hx14
            go_simp
            exact kb_same hst rfl
          · clear hd
            have hW := below_cell hst hx8
            go_simp
            exact kb_same hst rfl
          · clear hd
            go_simp
            exact kb_same hst rfl
          · have d78 : us 78 = (.slice (some ⟨gb, 0, none⟩) n n) := hd ⟨1, .data⟩ (by simp) rfl
            have d79 : us 79 = (.int .i64 (xb : Int)) := hd ⟨2, .data⟩ (by simp) rfl
            clear hd
            go_simp
            exact kb_same hst rfl
          · have d80 : us 80 = (.pointer (some ⟨gb, xb, none⟩)) := hd ⟨3, .data⟩ (by simp) rfl
            clear hd
            have hW := below_cell hst hxw
            go_simp
            exact kb_same hst rfl
          · clear hd
            go_simp
            exact kb_same hst rfl
          · have d81 : us 81 = (.slice (some ⟨b2, o2, none⟩) wl c2) := hd ⟨4, .data⟩ (by simp) rfl
            have d82 : us 82 = (.int .i64 (xe : Int)) := hd ⟨5, .data⟩ (by simp) rfl
            clear hd
            go_simp
            exact kb_same hst rfl
          · have d83 : us 83 = (.pointer (some ⟨b2, o2 + xe, none⟩)) := hd ⟨6, .data⟩ (by simp) rfl
            clear hd
            have hW := below_cell hst hxe
            go_simp
            exact kb_same hst rfl
          · have d84 : us 84 = (.int .i64 ((co (wd xb) xe : Nat) : Int)) := hd ⟨7, .data⟩ (by simp) rfl
            clear hd
            skip
            go_simp
            exact slc_new hst (by omega)
        · intro us wx hst hd
          have d77 : us 77 = (.slice a' l'.length c') := hd 0 (by simp)
          have d85 := hd 8 (by simp)
          clear hd
          simp only [List.drop, List.length]
          rw [d77]

          obtain ⟨g9, hg9, hg91, hg92⟩ : SlcK rb #[.int .i64 ((co (wd xb) xe : Nat) : Int)] 2 (us 85) wx := d85
          rw [hg9]
          have hsx := hst.size
          refine wpList_append_i1a rfl (.tmp 77) (.tmp 85) 24 Tryz.underlying24 rfl rb (.slice a' l'.length c') l' ((co (wd xb) xe : Nat) : Int) rfl (HOQ.out.grown hst) g9 rfl hg92 (by omega) (by omega) ?_
          intro a9 c9 l9 w9 he9 hm9
          have hbx9 : w9.heap[rb + 1]? = some (.cells #[.slice a' l'.length c'] 24 (0, 0)) := (hm9.kept _ (by omega) HN1.out).trans ((hst.block _ (by omega)).trans HBQ.out)
          obtain ⟨hcX, hfX⟩ := heap_cellR hbx9
          have hltX := blkLt hbx9
          have HM9 := Lib.hid hm9
          have HE9 := Lib.hid he9
          have HX9 := Lib.hid hbx9
          have HST := Lib.hid hst
          clear hm9 he9 hbx9 hst hg92 hg9 d77
          go_wp2_with fail
          have hV := HM9.out.ob
          have hn1 : (Value.slice a9 l9.length c9).ownBlock ≠ some (rb + 1) := fun e => by
            rcases hV _ e with h | h
            · exact HN1.out h
            · omega
          have hn2 : (Value.slice a9 l9.length c9).ownBlock ≠ some (rb + 2) := fun e => by
            rcases hV _ e with h | h
            · exact HN2.out h
            · omega
          have hsz9 : wx.heap.size ≤ w9.heap.size := by
            have h1 := HM9.out.below.size
            exact h1
          have hkp : ∀ q, q < W.heap.size → (Value.slice a' l'.length c').ownBlock ≠ some q → q ≠ rb + 1 → (w9.setCell ⟨rb + 1, 0, none⟩ (.slice a9 l9.length c9)).heap[q]? = W.heap[q]? := fun q hq h1 h2 =>
            (Below.heap_setCell _ _ _ _ (by dsimp only; exact h2)).trans ((HM9.out.kept q (by omega) h1).trans (HST.out.block q hq))
          refine ⟨⟨?_, fun q o ho hoc => ?_⟩, hkp _ (by omega) HN2.out (by omega), ⟨a9, c9, l9, ?_, ?_, ?_, hn1, hn2⟩, ?_, ?_⟩
          · rw [World.size_setCell]; omega
          · refine (hkp q (Array.getElem?_eq_some_iff.1 ho).1 (fun e => ?_) (fun e => ?_)).trans ho
            · rcases HOQ.out.2 with ⟨h1, _⟩ | ⟨g, cap, cur, h1, _, h2, _⟩
              · rw [h1] at e; cases e
              · rw [h1] at e; cases e
                rw [h2] at ho; cases ho; cases hoc
            · subst e
              rw [HBQ.out] at ho; cases ho; cases hoc
          · rw [HE9.out, HLQ.out, List.map_append, natI_app]; rfl
          · exact setCell_blk HX9.out _ _
          · exact HM9.out.own.other (grownBy_set _ _ _ _) (fun q hq e => hn1 (by rw [hq, ← Option.some.inj e]))
          · exact (HBEL.out.trans ((HST.out.mono (by omega)).trans HM9.out.below)).setCell (by dsimp only; omega) _
          · rw [World.size_setCell]; omega
      case stop =>
        intro D c2 pre W _ _ hF _
        exact hF.elim
      case done =>
        rintro D ys W hD hys ⟨⟨a', c', l', hl', hbx, hown, hne1, hne2⟩, hbel, hsz⟩ hK
        obtain ⟨hcX, hfX⟩ := heap_cellR hbx
        have hltX := blkLt hbx
        have HLQ := Lib.hid hl'
        have HOQ := Lib.hid hown
        have HYS := Lib.hid hys
        clear hl' hown hys hbx hne1 hne2
        gi_wp2
        go_wp2_with fail
        refine ⟨by simp, .inl ⟨_, _, rfl, run_takeDeferred hK, ?_⟩⟩
        refine ⟨.tuple #[.slice a' l'.length c', .int .i64 0], by simp [results, Tryz.results20, go_sem], a', c', l', ?_, rfl, ?_, ?_⟩
        · have h1 : ys.map (fun x => co (wd x.1.1) x.1.2) = (ys.map (·.1)).map (fun q => co (wd q.1) q.2) := by rw [List.map_map]; rfl
          rw [HLQ.out, strC, h1, HYS.out, HWD.out]
        · exact (HOQ.out.weak (by rw [HRB.out]; exact HBB6.out.size)).grownBy (grownBy_putObj' W D _) (fun r e => by cases e; exact ⟨_, hK, rfl⟩)
        · exact (bt0 HBB6.out (by rw [← HRB.out]; exact hbel) (Nat.le_refl _)).trans (belowK_b (w := W7) (by have := HBB6.out.size; have := HRB.out; omega) W D _ _ hD hK rfl rfl)

end Go.Proofs.YtlcglclojlffgaaGreat
