import Derived.Test.YtlcglclojlffgaaGreatVSpSj
import Derived.Test.YtlcglclojlffgaaGreatVSymI
namespace Go.Proofs.YtlcglclojlffgaaGreat
open Go.RowKit

/-- the stream of a payload -/
def strE (F : Fd) (d c n : Nat) (S : List UInt8) : List Int := if payC F.k d S = 0 then natI (strC F d n c ((payE F.k d S).map Int.toNat)) else []
set_option maxRecDepth 100000 in
set_option maxHeartbeats 2000000 in
theorem spStream_any {p k g : Int} {F : Fd} (h : FV p k g F) (d c n : Nat) (s : ByteArray) (w : World) (hok : Lay.ok ⟨d, c, n⟩ F.q = true) (hs : s.size ≤ 1048576) :
    Calls Tryz.prog 15 #[.agg #[.int .i64 2, .int .i64 (F.k : Int), .int .i64 (F.g : Int), .int .i64 (d : Int), .int .i64 (c : Int), .int .i64 (n : Int)], .string s] w (RetLC w (strE F d c n s.data.toList) (payC F.k d s.data.toList)) := by
  obtain ⟨hn, hn2, hnd, hd2, hc, hc2, htot, hsh⟩ := lay_facts hok
  have H := Lib.hid h
  have HOK := Lib.hid hok
  have HPAY := Lib.hid (fun w => spPay_any h s d w hs (by omega) hd2)
  have HPO := Lib.hid (fun e => symP_ok (k := F.k) (cap := d) (S := s.data.toList) (by have := h.ok.k3; omega) e)
  have HSE := Lib.hid (show strE F d c n s.data.toList = if payC F.k d s.data.toList = 0 then natI (strC F d n c ((payE F.k d s.data.toList).map Int.toNat)) else [] from rfl)
  have HP3 := Lib.hid (show payC F.k d s.data.toList = 0 ∨ payC F.k d s.data.toList = 3 by unfold payC; split <;> simp)
  have HQ := Lib.hid (show F.q = 2 ^ F.k from h.r.q)
  obtain ⟨S, hS⟩ : ∃ S, S = s.data.toList := ⟨_, rfl⟩
  rw [← hS] at HPAY HPO HSE HP3 ⊢
  obtain ⟨R, hR⟩ : ∃ R, R = strE F d c n S := ⟨_, rfl⟩
  rw [← hR] at HSE ⊢
  obtain ⟨cd, hcd⟩ : ∃ cd, cd = payC F.k d S := ⟨_, rfl⟩
  have HCD := Lib.hid hcd
  rw [← hcd] at HPAY HSE HP3 ⊢
  clear h hok hsh hS hR
  have HX := Lib.hid (push_at w (.cells #[.int .i64 2, .int .i64 (F.k : Int), .int .i64 (F.g : Int), .int .i64 (d : Int), .int .i64 (c : Int), .int .i64 (n : Int)] 40 (0, 0)))
  have HB0 := Lib.hid (ba1 w (.cells #[.int .i64 2, .int .i64 (F.k : Int), .int .i64 (F.g : Int), .int .i64 (d : Int), .int .i64 (c : Int), .int .i64 (n : Int)] 40 (0, 0)))
  obtain ⟨w1, hw1⟩ : ∃ w1, w1 = w.alloc (.cells #[.int .i64 2, .int .i64 (F.k : Int), .int .i64 (F.g : Int), .int .i64 (d : Int), .int .i64 (c : Int), .int .i64 (n : Int)] 40 (0, 0)) := ⟨_, rfl⟩
  have HW1 := Lib.hid hw1
  rw [← hw1] at HX HB0
  clear hw1 hcd
  go_enter Tryz.func15, Tryz.ntmps15
  go_wp2_with fail
  rw [← HW1.out]
  refine (HPAY.out w1).mono ?_
  rintro e w2 ⟨a2, c2, l2, hl2, rfl, ho2, hb2⟩
  have HL2 := Lib.hid hl2
  have HO2 := Lib.hid ho2
  have HB2 := Lib.hid (bt0 HB0.out hb2 (Nat.le_refl _))
  have K2 := Lib.hid (blkK hb2 HX.out)
  obtain ⟨hcA, hfA⟩ := heap_cellR K2.out
  have hltA := blkLt K2.out
  clear hl2 ho2 hb2
  by_cases h0 : cd = 0
  · subst h0
    obtain ⟨p1, p2, p3⟩ := HPO.out HCD.out.symm
    have HR := Lib.hid (HSE.out.trans (if_pos rfl))
    obtain ⟨P, hP⟩ : ∃ P, P = (payE F.k d S).map Int.toNat := ⟨_, rfl⟩
    rw [← hP] at p1 p2 p3 HR
    have hll : l2.length = d := by rw [HL2.out, ← p2, natI_len, p1]
    have HI := Lib.hid (show IntsAt w2 a2 (natI P) by rw [p2, ← HL2.out]; exact HO2.out.ints)
    have HCP := Lib.hid (show d ≤ c2 by rw [← hll]; exact own_cap HO2.out)
    have HPA := Lib.hid (show AllE F P by rw [AllE, HQ.out]; exact p3)
    have HST := Lib.hid (spStr_any F H.out.r d c n P a2 c2 w2 HOK.out HI.out p1 HCP.out HPA.out)
    rw [hll]
    clear hP p1 p2 p3 hll
    go_wp2_with fail
    refine HST.out.mono ?_
    rintro e w3 ⟨a3, c3, rfl, ho3, hb3⟩
    rw [← HR.out] at ho3 ⊢
    have HO3 := Lib.hid ho3
    have HB3 := Lib.hid (bt0 HB2.out hb3 (Nat.le_refl _))
    have hsz := HB2.out.size
    clear ho3 hb3 HST
    go_wp2_with fail
    go_ret2
    exact ⟨a3, c3, R, rfl, rfl, HO3.out.weak hsz, HB3.out⟩
  · have HR := Lib.hid (HSE.out.trans (if_neg h0))
    have HC3 := Lib.hid (HP3.out.resolve_left h0)
    have h0' : (cd != 0) = true := by rw [bne_iff_ne]; exact h0
    clear h0
    go_wp2_with fail
    go_ret2
    exact ⟨none, 0, [], HR.out.symm, by rw [HC3.out]; rfl, OwnI.none _ _, HB2.out⟩

set_option maxRecDepth 100000 in
set_option maxHeartbeats 4000000 in
theorem spSymbolStream_any (nm : ByteArray) (kd p k g : Int) (a1 : Option Addr) (szs : List Int) (c1 : Nat) (cl : Int) (a2 : Option Addr) (lvs : List Int) (c2 : Nat) (n lev : Int) (s : ByteArray) (w : World) (h1 : IntsAt w a1 szs) (h2 : IntsAt w a2 lvs) (l1 : szs.length ≤ 1048576) (l2 : lvs.length ≤ 1048576) (ln : nm.size ≤ 1048576) (hs : s.size ≤ 1048576) :
    Calls Tryz.prog 5 #[(.agg #[.string nm, .int .i64 kd, .int .i64 p, .int .i64 k, .int .i64 g, .slice a1 szs.length c1, .int .i64 cl, .slice a2 lvs.length c2]), .int .i64 n, .int .i64 lev, .string s] w (RetLC w (symE ⟨nm, kd, p, k, g, szs, cl, lvs⟩ n lev s.data.toList) (symC ⟨nm, kd, p, k, g, szs, cl, lvs⟩ n lev s.data.toList)) := by
  obtain ⟨fam, hfam⟩ : ∃ f, f = Fam.mk nm kd p k g szs cl lvs := ⟨_, rfl⟩
  have HFM := Lib.hid hfam
  have HFI := Lib.hid (fun w (h1 : IntsAt w a1 szs) (h2 : IntsAt w a2 lvs) => spLayoutOf_any nm kd p k g a1 szs c1 cl a2 lvs c2 n lev w h1 h2 l1 l2 ln)
  have H1 := Lib.hid h1
  have H2 := Lib.hid h2
  rw [← hfam] at HFI ⊢
  clear h1 h2 l1 l2 ln hfam
  by_cases hl : layC fam n lev = 0
  · obtain ⟨ho, hlo⟩ := lay_zero hl
    have hfo : Fam.ok ⟨nm, kd, p, k, g, szs, cl, lvs⟩ = true := by rw [← HFM.out]; exact ho
    obtain ⟨hfb, -⟩ := fam_ok hfo
    have hfv := fv_of hfb
    have HF := Lib.hid hfv
    have hln := lay_nat hlo
    obtain ⟨d, hd⟩ : ∃ d, d = (fam.lay n lev).data.toNat := ⟨_, rfl⟩
    obtain ⟨c, hc⟩ : ∃ c, c = (fam.lay n lev).checks.toNat := ⟨_, rfl⟩
    obtain ⟨m, hm⟩ : ∃ m, m = (fam.lay n lev).count.toNat := ⟨_, rfl⟩
    rw [← hd, ← hc, ← hm] at hln
    rw [hln] at hlo
    have hlo' : Lay.ok ⟨d, c, m⟩ (bF k.toNat g.toNat).q = true := by
      have e : ((2 ^ fam.fk.toNat : Nat) : Int) = ((bF k.toNat g.toNat).q : Int) := by rw [HFM.out]; rfl
      rwa [e] at hlo
    have HST := Lib.hid (fun w => spStream_any hfv d c m s w hlo' hs)
    have hp := hfv.ok.p
    have hk := hfv.ok.k
    have hg := hfv.ok.g
    have hV : layA fam n lev = .agg #[.int .i64 2, .int .i64 ((bF k.toNat g.toNat).k : Int), .int .i64 ((bF k.toNat g.toNat).g : Int), .int .i64 (d : Int), .int .i64 (c : Int), .int .i64 (m : Int)] := by
      rw [layA, if_pos hl, hln, HFM.out]
      dsimp only
      rw [hp, ← hk, ← hg]
    have HSC := Lib.hid (show symC fam n lev s.data.toList = payC (bF k.toNat g.toNat).k d s.data.toList by rw [symC, if_pos hl, ← hd, HFM.out]; rfl)
    have HSE := Lib.hid (show symE fam n lev s.data.toList = strE (bF k.toNat g.toNat) d c m s.data.toList by
      rw [symE, HSC.out, symP, ← hd, ← hc, ← hm, HFM.out]; rfl)
    have hcall := HFI.out
    rw [hl, hV] at hcall
    have HCL := Lib.hid hcall
    obtain ⟨R, hR⟩ : ∃ R, R = symE fam n lev s.data.toList := ⟨_, rfl⟩
    obtain ⟨cd, hcd⟩ : ∃ cd, cd = symC fam n lev s.data.toList := ⟨_, rfl⟩
    rw [← HSE.out, ← HSC.out, ← hR, ← hcd] at HST
    rw [← hR, ← hcd]
    obtain ⟨kk, hkk⟩ : ∃ kk, kk = (bF k.toNat g.toNat).k := ⟨_, rfl⟩
    obtain ⟨gg, hgg⟩ : ∃ gg, gg = (bF k.toNat g.toNat).g := ⟨_, rfl⟩
    rw [← hkk, ← hgg] at HST HCL
    clear hd hc hm hln hlo hlo' hV hl ho hfo hfb hfv hcall hp hk hg HFI hR hcd HSE HSC hkk hgg
    go_enter Tryz.func5, Tryz.ntmps5
    go_wp2_with fail
    refine (HCL.out _ (H1.out.below (ba1 _ _)) (H2.out.below (ba1 _ _))).mono ?_
    rintro e w1 ⟨rfl, hb1⟩
    have HB1 := Lib.hid (bt1 hb1)
    clear hb1
    go_wp2_with fail
    have hB3 := bt0 HB1.out (ba1 w1 (.cells #[.int .i64 2, .int .i64 (kk : Int), .int .i64 (gg : Int), .int .i64 (d : Int), .int .i64 (c : Int), .int .i64 (m : Int)] 40 (0, 0))) (Nat.le_refl _)
    generalize w1.alloc (.cells #[.int .i64 2, .int .i64 (kk : Int), .int .i64 (gg : Int), .int .i64 (d : Int), .int .i64 (c : Int), .int .i64 (m : Int)] 40 (0, 0)) = w2 at hB3 ⊢
    have HB3 := Lib.hid hB3
    clear hB3
    refine (HST.out w2).mono ?_
    rintro e w3 ⟨a3, c3, l3, hl3, rfl, ho3, hb3⟩
    have HL3 := Lib.hid hl3
    have HO3 := Lib.hid (ho3.weak HB3.out.size)
    have HB4 := Lib.hid (bt0 HB3.out hb3 (Nat.le_refl _))
    clear hl3 ho3 hb3
    go_wp2_with fail
    go_ret2
    exact ⟨a3, c3, l3, HL3.out, rfl, HO3.out, HB4.out⟩
  · have HR := Lib.hid (show symE fam n lev s.data.toList = [] by rw [symE, if_neg]; rw [symC, if_neg hl]; exact hl)
    have HC := Lib.hid (show symC fam n lev s.data.toList = layC fam n lev by rw [symC, if_neg hl])
    have hV : layA fam n lev = .agg #[.int .i64 0, .int .i64 0, .int .i64 0, .int .i64 0, .int .i64 0, .int .i64 0] := by rw [layA, if_neg hl]
    have hcall := HFI.out
    rw [hV] at hcall
    rw [HR.out, HC.out]
    obtain ⟨cd, hcd⟩ : ∃ cd, cd = layC fam n lev := ⟨_, rfl⟩
    rw [← hcd] at hcall hl ⊢
    have HCL := Lib.hid hcall
    have hl' : (cd != 0) = true := by rw [bne_iff_ne]; exact hl
    clear hV hcall HFI HR HC hcd hl
    go_enter Tryz.func5, Tryz.ntmps5
    go_wp2_with fail
    refine (HCL.out _ (H1.out.below (ba1 _ _)) (H2.out.below (ba1 _ _))).mono ?_
    rintro e w1 ⟨rfl, hb1⟩
    have HB1 := Lib.hid (bt1 hb1)
    clear hb1
    go_wp2_with fail
    go_ret2
    exact ⟨none, 0, [], rfl, rfl, OwnI.none _ _, bt0 HB1.out (ba1 _ _) (Nat.le_refl _)⟩

end Go.Proofs.YtlcglclojlffgaaGreat
