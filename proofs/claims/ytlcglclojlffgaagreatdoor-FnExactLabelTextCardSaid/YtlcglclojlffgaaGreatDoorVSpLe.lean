import Derived.Test.YtlcglclojlffgaaGreatDoorM4
import Derived.Test.YtlcglclojlffgaaGreatDoorM5
import Derived.Test.YtlcglclojlffgaaGreatDoorVSpLb
import Derived.Test.YtlcglclojlffgaaGreatDoorM3
namespace Go.Proofs.YtlcglclojlffgaaGreatDoor
open Go.RowKit

theorem layA_shape (f : Fam) (x lev : Int) : ∃ q0 q1 q2 d c n : Int, layA f x lev = .agg #[.int .i64 q0, .int .i64 q1, .int .i64 q2, .int .i64 d, .int .i64 c, .int .i64 n] ∧ (layC f x lev = 0 → d = (f.lay x lev).data) := by
  unfold layA
  by_cases h : layC f x lev = 0
  · rw [if_pos h]; exact ⟨_, _, _, _, _, _, rfl, fun _ => rfl⟩
  · rw [if_neg h]; exact ⟨_, _, _, _, _, _, rfl, fun h' => absurd h' h⟩
theorem layC_room {f : Fam} {x lev : Int} (hf : f.ok = true) (hx : hasI f.sizes x = true) (hl : inB lev 0 ((f.levels.length : Int) - 1) = true) : layC f x lev = if (f.lay x lev).ok ((2 ^ f.fk.toNat : Nat) : Int) = true then 0 else 3 := by
  rw [layC, if_pos hf, if_pos ⟨hx, hl⟩]
set_option maxRecDepth 100000 in
set_option maxHeartbeats 8000000 in
theorem spSmallestSize_any (nm : ByteArray) (kd p k g : Int) (b1 : Nat) (szs : List Int) (c1 : Nat) (cl : Int) (b2 : Nat) (lvs : List Int) (c2 : Nat) (lev : Int) (s : ByteArray) (w : World) (h : Fam.ok ⟨nm, kd, p, k, g, szs, cl, lvs⟩ = true) (h1 : IntsAt w (some ⟨b1, 0, none⟩) szs) (h2 : IntsAt w (some ⟨b2, 0, none⟩) lvs) (ln : nm.size ≤ 1048576) (hs : s.size ≤ 1048576) :
    Calls Tryz.prog 74 #[(.agg #[.string nm, .int .i64 kd, .int .i64 p, .int .i64 k, .int .i64 g, .slice (some ⟨b1, 0, none⟩) szs.length c1, .int .i64 cl, .slice (some ⟨b2, 0, none⟩) lvs.length c2]), .int .i64 lev, .string s] w (RetSm w (smS ⟨nm, kd, p, k, g, szs, cl, lvs⟩ lev s.data.toList)) := by
  obtain ⟨hfb, hl4, -, hs8, -⟩ := fam_ok h
  obtain ⟨fam, hfam⟩ : ∃ f, f = Fam.mk nm kd p k g szs cl lvs := ⟨_, rfl⟩
  have HFM := Lib.hid hfam
  have HF := Lib.hid (fv_of hfb)
  have HFv := Lib.hid (HF.out.v)
  have HIF := Lib.hid (fun w (h1 : IntsAt w (some ⟨b1, 0, none⟩) szs) (h2 : IntsAt w (some ⟨b2, 0, none⟩) lvs) => spFamily_any nm kd p k g (some ⟨b1, 0, none⟩) szs c1 cl (some ⟨b2, 0, none⟩) lvs c2 w h1 h2 (by omega) (by omega) ln)
  have HPS := Lib.hid (fun w => spPayloadSize_any HF.out s w hs)
  rw [← HFv.out] at HPS
  have HLY := Lib.hid (fun n w (h1 : IntsAt w (some ⟨b1, 0, none⟩) szs) (h2 : IntsAt w (some ⟨b2, 0, none⟩) lvs) => spLayoutOf_any nm kd p k g (some ⟨b1, 0, none⟩) szs c1 cl (some ⟨b2, 0, none⟩) lvs c2 n lev w h1 h2 (by omega) (by omega) ln)
  rw [← hfam] at HIF HLY h ⊢
  have hk : (bF k.toNat g.toNat).k = fam.fk.toNat := by rw [hfam]; rfl
  rw [hk] at HPS
  have H1 := Lib.hid h1
  have H2 := Lib.hid h2
  have HOK := Lib.hid h
  have hsz : fam.sizes = szs := by rw [hfam]
  have hlv : fam.levels = lvs := by rw [hfam]
  have HS := Lib.hid hsz
  have HLVe := Lib.hid hlv
  obtain ⟨S, hS⟩ : ∃ S, S = s.data.toList := ⟨_, rfl⟩
  have hSl : S.length = s.size := by rw [hS]; rfl
  rw [← hS] at HPS ⊢
  obtain ⟨O, hO⟩ : ∃ O, O = smS fam lev S := ⟨_, rfl⟩
  have HO := Lib.hid hO
  rw [← hO]
  have HN1 := Lib.hid (fun hh => hO.trans (smS_no1 (f := fam) (lev := lev) (S := S) hh))
  have HN2 := Lib.hid (fun hh => hO.trans (smS_no2 (f := fam) (lev := lev) (S := S) hh))
  have HGO := Lib.hid (fun h1 need hh => hO.trans (smS_go (f := fam) (lev := lev) (S := S) h1 (need := need) hh))
  rw [hlv] at HN1 HGO
  rw [hsz] at HGO
  have HP4 := Lib.hid (show ¬ S.length ≤ 400 → payS fam.fk.toNat S = none from fun hh => by rw [payS, if_neg (by omega)])
  have HB0 := Lib.hid (ba1 w (.cells #[.string nm, .int .i64 kd, .int .i64 p, .int .i64 k, .int .i64 g, .slice (some ⟨b1, 0, none⟩) szs.length c1, .int .i64 cl, .slice (some ⟨b2, 0, none⟩) lvs.length c2] 123 (0, 0)))
  have K0 := Lib.hid (push_at w (.cells #[.string nm, .int .i64 kd, .int .i64 p, .int .i64 k, .int .i64 g, .slice (some ⟨b1, 0, none⟩) szs.length c1, .int .i64 cl, .slice (some ⟨b2, 0, none⟩) lvs.length c2] 123 (0, 0)))
  have HIN := Lib.hid (fun w => spIn_below (n := lev) (lo := 0) (hi := (lvs.length : Int) - 1) (w := w) rfl)
  clear h h1 h2 hfb hS hO hfam hk hsz hlv HFv
  go_enter Tryz.func74, Tryz.ntmps74
  go_wp2_with fail
  refine (HIF.out _ (H1.out.below HB0.out) (H2.out.below HB0.out)).mono ?_
  rw [HOK.out]
  rintro e w1 ⟨rfl, hb1⟩
  have K1 := Lib.hid (blkK hb1 K0.out)
  have HB1 := Lib.hid (bt0 HB0.out hb1 (Nat.le_refl _))
  clear hb1
  obtain ⟨hcA, hfA⟩ := heap_cellR K1.out
  have z1 := blkLt K1.out
  go_wp2_with fail
  refine (HIN.out _).mono ?_
  rintro e w2 ⟨rfl, hb2⟩
  have K2 := Lib.hid (blkK hb2 K1.out)
  have HB2 := Lib.hid (bt0 HB1.out hb2 (Nat.le_refl _))
  clear hb2 hcA hfA
  obtain ⟨hcA, hfA⟩ := heap_cellR K2.out
  have z2 := blkLt K2.out
  rcases Bool.eq_false_or_eq_true (inB lev 0 ((lvs.length : Int) - 1)) with hv | hv
  rotate_left
  · have HD := Lib.hid (HN1.out hv)
    go_wp2_with fail
    go_ret2
    exact ⟨HB2.out, .inr ⟨HD.out, 2, by decide, rfl⟩⟩
  have HV := Lib.hid hv
  by_cases h400 : s.size ≤ 400
  rotate_left
  · have HD := Lib.hid (HN2.out (HP4.out (by omega)))
    have hd : (400 : Int) < (s.size : Int) := by omega
    go_wp2_with fail
    go_ret2
    exact ⟨HB2.out, .inr ⟨HD.out, 3, by decide, rfl⟩⟩
  have hd : ¬ (400 : Int) < (s.size : Int) := by omega
  go_wp2_with fail
  refine (HPS.out _).mono ?_
  rintro e w3 ⟨rfl, hb3⟩
  have K3 := Lib.hid (blkK hb3 K2.out)
  have HB3 := Lib.hid (bt0 HB2.out hb3 (Nat.le_refl _))
  clear hb3 hcA hfA hv
  obtain ⟨hcA, hfA⟩ := heap_cellR K3.out
  have z3 := blkLt K3.out
  obtain ⟨P, hP⟩ : ∃ P, P = payS fam.fk.toNat S := ⟨_, rfl⟩
  rcases P with _ | need
  · have HD := Lib.hid (HN2.out hP.symm)
    obtain ⟨e1, e2⟩ := payNo hP.symm
    rw [e1, e2]
    clear hP e1 e2
    go_wp2_with fail
    go_loopw [10] (fun i wr => i = .int .i64 0 ∧ wr = w3) (fun _ _ => 0)
    case atStart => exact ⟨rfl, rfl⟩
    case round =>
      obtain ⟨rfl, rfl⟩ := hrel
      have hlt : (0 : Int) < (szs.length : Int) := by omega
      go_wp2_with fail
      go_ret2
      exact ⟨HB3.out, .inr ⟨HD.out, 4, by decide, rfl⟩⟩
  obtain ⟨e1, e2⟩ := payYes hP.symm
  rw [e1, e2]
  have HD := Lib.hid (HGO.out HV.out need hP.symm)
  clear hP e1 e2
  go_wp2_with fail
  go_loopw [10] (fun i wr => ∃ j : Nat, j ≤ szs.length ∧ i = .int .i64 j ∧ (szs.take j).find? (roomB fam lev need) = none ∧ Below w3.heap.size w3 wr) (fun i _ => szs.length - (intOf i).toNat)
  case atStart => exact ⟨0, Nat.zero_le _, rfl, rfl, Below.refl _ _⟩
  case round =>
    obtain ⟨j, hj, rfl, hnone, hbr⟩ := hrel
    obtain ⟨ws, rfl⟩ : ∃ ws : World, ws = wr := ⟨_, rfl⟩
    have HNO := Lib.hid hnone
    have HBR := Lib.hid hbr
    have KR := Lib.hid (blkK hbr K3.out)
    clear hnone hbr hcA hfA
    obtain ⟨hcA, hfA⟩ := heap_cellR KR.out
    have hltR := blkLt KR.out
    by_cases hlt : j < szs.length
    · have hji : (j : Int) < (szs.length : Int) := by omega
      have HX1 := Lib.hid (H1.out.below (HB3.out.trans (HBR.out.mono HB3.out.size)))
      have HX2 := Lib.hid (H2.out.below (HB3.out.trans (HBR.out.mono HB3.out.size)))
      obtain ⟨b1', o1', x, hb1', hxk, hb1, hcx⟩ := HX1.out.at hlt
      cases hb1'
      have HXK := Lib.hid hxk
      have HHI := Lib.hid (hasI_yes hxk)
      have HCX := Lib.hid hcx
      obtain ⟨q0, q1, q2, d, cc, nn, hla, hld⟩ := layA_shape fam x lev
      have HLA := Lib.hid hla
      have HLD := Lib.hid hld
      have HLC := Lib.hid (layC_room (f := fam) (x := x) (lev := lev) HOK.out (by rw [HS.out]; exact HHI.out) (by rw [HLVe.out]; exact HV.out))
      obtain ⟨LC, hLC⟩ : ∃ LC, LC = layC fam x lev := ⟨_, rfl⟩
      have HLYx := Lib.hid (HLY.out x)
      rw [hla, ← hLC] at HLYx
      rw [← hLC] at HLD HLC
      clear hxk hcx hla hld hLC
      go_wp2_with fail
      refine wp_region_rsF (Keep := KB) 10 [45, 46, 47, 48, 49, 50, 51, 52, 44, 53, 54, 11] (fun us => _)
        [spE (.agg #[.string nm, .int .i64 kd, .int .i64 p, .int .i64 k, .int .i64 g, .slice (some ⟨b1, 0, none⟩) szs.length c1, .int .i64 cl, .slice (some ⟨b2, 0, none⟩) lvs.length c2]), spE (.pointer (some ⟨w.heap.size, 5, none⟩)), spE (.slice (some ⟨b1, 0, none⟩) szs.length c1), spE (.int .i64 (j : Int)), spE (.pointer (some ⟨b1, j, none⟩)), spE (.int .i64 x), spE (.int .i64 lev),
         spE (.tuple #[.agg #[.int .i64 q0, .int .i64 q1, .int .i64 q2, .int .i64 d, .int .i64 cc, .int .i64 nn], .int .i64 LC]), spE (.tuple #[.agg #[.int .i64 q0, .int .i64 q1, .int .i64 q2, .int .i64 d, .int .i64 cc, .int .i64 nn], .int .i64 LC]), spE (.agg #[.int .i64 q0, .int .i64 q1, .int .i64 q2, .int .i64 d, .int .i64 cc, .int .i64 nn]), spE (.int .i64 LC),
         spBox ws.heap.size #[.int .i64 0, .int .i64 0, .int .i64 0, .int .i64 0, .int .i64 0, .int .i64 0] 146]
        (StX ws) _ _ 146 _ _ 54 (by kernel_rfl) (by kernel_rfl) (fun us => by simp [over, List.mapIdx_cons]; exact rfl) (stX0 _) kbr rfl rfl rfl rfl rfl rfl rfl (by kernel_rfl) (by kernel_rfl) (fun us v => by exact ⟨rfl, rfl⟩) ?_ ?_ ?_ ?_
      · refine ⟨?_, ?_, ?_, ?_, ?_, ?_, ?_, ?_, ?_, ?_, ?_, ?_, trivial⟩
        all_goals (intro us wx hst hd; rw [if_pos (by kernel_rfl)]; dsimp only)
        · clear hd
          obtain ⟨hcX, hfX⟩ := heap_cellR (blkK hst KR.out)
          have hlX := blkLt (blkK hst KR.out)
          go_simp
          exact kb_same hst rfl
        · clear hd
          go_simp
          exact kb_same hst rfl
        · have d46 : us 46 = .pointer (some ⟨w.heap.size, 5, none⟩) := hd ⟨1, .data⟩ (by simp) rfl
          clear hd
          obtain ⟨hcX, hfX⟩ := heap_cellR (blkK hst KR.out)
          have hlX := blkLt (blkK hst KR.out)
          go_simp
          exact kb_same hst rfl
        · clear hd
          go_simp
          exact kb_same hst rfl
        · have d47 : us 47 = .slice (some ⟨b1, 0, none⟩) szs.length c1 := hd ⟨2, .data⟩ (by simp) rfl
          have d48 : us 48 = .int .i64 (j : Int) := hd ⟨3, .data⟩ (by simp) rfl
          clear hd
          go_simp
          exact kb_same hst rfl
        · have d49 : us 49 = .pointer (some ⟨b1, j, none⟩) := hd ⟨4, .data⟩ (by simp) rfl
          clear hd
          have h0 := (hst.cell (p := ⟨b1, 0 + j, none⟩) hb1).trans HCX.out
          rw [Nat.zero_add] at h0
          go_simp
          exact kb_same hst rfl
        · clear hd
          go_simp
          exact kb_same hst rfl
        · have d45 : us 45 = .agg #[.string nm, .int .i64 kd, .int .i64 p, .int .i64 k, .int .i64 g, .slice (some ⟨b1, 0, none⟩) szs.length c1, .int .i64 cl, .slice (some ⟨b2, 0, none⟩) lvs.length c2] := hd ⟨0, .data⟩ (by simp) rfl
          have d50 : us 50 = .int .i64 x := hd ⟨5, .data⟩ (by simp) rfl
          have d51 : us 51 = .int .i64 lev := hd ⟨6, .data⟩ (by simp) rfl
          clear hd
          have h9 := HLYx.out wx (HX1.out.below hst) (HX2.out.below hst)
          go_simp
          exact h9.mono fun e w' ⟨he, hb⟩ => ⟨_, he, kb_below hst hb rfl⟩
        · have d52 : us 52 = .tuple #[.agg #[.int .i64 q0, .int .i64 q1, .int .i64 q2, .int .i64 d, .int .i64 cc, .int .i64 nn], .int .i64 LC] := hd ⟨7, .data⟩ (by simp) rfl
          clear hd
          go_simp
          exact kb_same hst rfl
        · have d44 : us 44 = .tuple #[.agg #[.int .i64 q0, .int .i64 q1, .int .i64 q2, .int .i64 d, .int .i64 cc, .int .i64 nn], .int .i64 LC] := hd ⟨8, .data⟩ (by simp) rfl
          clear hd
          go_simp
          exact kb_same hst rfl
        · have d44 : us 44 = .tuple #[.agg #[.int .i64 q0, .int .i64 q1, .int .i64 q2, .int .i64 d, .int .i64 cc, .int .i64 nn], .int .i64 LC] := hd ⟨8, .data⟩ (by simp) rfl
          clear hd
          go_simp
          exact kb_same hst rfl
        · clear hd
          go_simp
          exact kb_new hst (Nat.le_refl _)
      · intro us wx hst hd
        have dv : us 53 = .agg #[.int .i64 q0, .int .i64 q1, .int .i64 q2, .int .i64 d, .int .i64 cc, .int .i64 nn] := hd 9 (by simp) (by decide)
        have db : BoxK ws.heap.size #[.int .i64 0, .int .i64 0, .int .i64 0, .int .i64 0, .int .i64 0, .int .i64 0] 146 (us 11) wx := hd 11 (by simp) (by decide)
        obtain ⟨bS, eb, hbB, hgS⟩ := db
        exact ⟨bS, _, _, _, eb, dv, hgS, by kernel_rfl, rfl, by kernel_rfl⟩
      · intro us wx hst hd
        have d44 : us 44 = .tuple #[.agg #[.int .i64 q0, .int .i64 q1, .int .i64 q2, .int .i64 d, .int .i64 cc, .int .i64 nn], .int .i64 LC] := hd 8 (by simp) (by decide)
        clear hd
        refine ⟨.int .i64 LC, fun w' => ?_, (show upd us (some 54) (.int .i64 LC) 54 = .int .i64 LC from rfl)⟩
        go_simp
        try rfl
      · intro us wx hst hd
        have dv : us 53 = .agg #[.int .i64 q0, .int .i64 q1, .int .i64 q2, .int .i64 d, .int .i64 cc, .int .i64 nn] := hd 9 (by simp)
        have dc : us 54 = .int .i64 LC := hd 10 (by simp)
        have db : BoxK ws.heap.size #[.int .i64 0, .int .i64 0, .int .i64 0, .int .i64 0, .int .i64 0, .int .i64 0] 146 (us 11) wx := hd 11 (by simp)
        clear hd
        obtain ⟨bS, eSb, hbSB, hgS⟩ := db
        simp only [List.drop, List.length]
        rw [dv, dc, eSb]
        obtain ⟨hcS, hfS⟩ := heap_cellR hgS
        have hbS := blkLt hgS
        have HSTX := Lib.hid hst
        have HBX := Lib.hid (bt0 (bt0 HB3.out HBR.out (Nat.le_refl _)) hst (Nat.le_refl _))
        have KX := Lib.hid (blkK hst KR.out)
        obtain ⟨hcX, hfX⟩ := heap_cellR KX.out
        have hlX := blkLt KX.out
        have hne1 : bS ≠ w.heap.size := by omega
        have hne2 : w.heap.size ≠ bS := by omega
        have hcx := (hst.cell (p := ⟨b1, 0 + j, none⟩) hb1).trans HCX.out
        rw [Nat.zero_add] at hcx
        clear dv dc eSb hgS hst hcA hfA
        rcases Bool.eq_false_or_eq_true ((fam.lay x lev).ok ((2 ^ fam.fk.toNat : Nat) : Int)) with ho | ho
        · obtain rfl : LC = 0 := by rw [HLC.out, if_pos ho]
          have hd := HLD.out rfl
          by_cases hle : need ≤ d
          · have HR := Lib.hid (HD.out.trans (find_hit HXK.out HNO.out (show roomB fam lev need x = true by rw [roomB, ho, ← hd, decide_eq_true hle]; rfl)))
            have hcx2 : b1 ≠ bS := by omega
            clear ho hd
            go_wp2_with fail
            go_ret2
            refine ⟨?_, .inl ⟨x, HR.out, rfl⟩⟩
            have hz := HBX.out.size
            iterate 6 (refine Below.setCell ?_ (by dsimp only; omega) _)
            exact HBX.out
          · have HR := Lib.hid (find_miss HXK.out HNO.out (show roomB fam lev need x = false by rw [roomB, ho, ← hd, decide_eq_false hle]; rfl))
            clear ho hd
            go_wp2_with fail
            refine ⟨⟨j + 1, by omega, by go_num, HR.out, ?_⟩, by simp [intOf]; omega⟩
            have hz := HBR.out.size
            iterate 6 (refine Below.setCell ?_ (by dsimp only; omega) _)
            exact bt0 HBR.out HSTX.out (Nat.le_refl _)
        · obtain rfl : LC = 3 := by rw [HLC.out, if_neg (by rw [ho]; decide)]
          have HR := Lib.hid (find_miss HXK.out HNO.out (show roomB fam lev need x = false by rw [roomB, ho, Bool.false_and]))
          clear ho
          go_wp2_with fail
          refine ⟨⟨j + 1, by omega, by go_num, HR.out, ?_⟩, by simp [intOf]; omega⟩
          have hz := HBR.out.size
          iterate 6 (refine Below.setCell ?_ (by dsimp only; omega) _)
          exact bt0 HBR.out HSTX.out (Nat.le_refl _)
    · have hji : ¬ (j : Int) < (szs.length : Int) := by omega
      have HR := Lib.hid (show O = none by have h := HNO.out; rw [List.take_of_length_le (by omega)] at h; rw [HD.out, h])
      go_wp2_with fail
      go_ret2
      exact ⟨bt0 HB3.out HBR.out (Nat.le_refl _), .inr ⟨HR.out, 4, by decide, rfl⟩⟩

end Go.Proofs.YtlcglclojlffgaaGreatDoor
