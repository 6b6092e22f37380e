import Derived.Test.YtlcglclojlffgaaGreatVStrI
import Derived.Test.YtlcglclojlffgaaGreatM3
namespace Go.Proofs.YtlcglclojlffgaaGreat
open Go.RowKit

/-- the payload of a symbol in elements; the stream of a symbol: its code, its elements -/
def symP (f : Fam) (n lev : Int) (S : List UInt8) : List Nat := (payE f.fk.toNat (f.lay n lev).data.toNat S).map Int.toNat
def symC (f : Fam) (n lev : Int) (S : List UInt8) : Int := if layC f n lev = 0 then payC f.fk.toNat (f.lay n lev).data.toNat S else layC f n lev
def symE (f : Fam) (n lev : Int) (S : List UInt8) : List Int :=
  if symC f n lev S = 0 then natI (strC (bF f.fk.toNat f.fg.toNat) (f.lay n lev).data.toNat (f.lay n lev).count.toNat (f.lay n lev).checks.toNat (symP f n lev S)) else []
theorem lay_zero {f : Fam} {n lev : Int} (h : layC f n lev = 0) : f.ok = true ∧ (f.lay n lev).ok ((2 ^ f.fk.toNat : Nat) : Int) = true := by
  unfold layC at h
  split at h
  · rename_i h1
    split at h
    · split at h
      · rename_i h3
        exact ⟨h1, h3⟩
      · cases h
    · cases h
  · cases h
theorem lay_nat {L : Lay} {q : Int} (h : L.ok q = true) : L = ⟨(L.data.toNat : Nat), (L.checks.toNat : Nat), (L.count.toNat : Nat)⟩ := by
  obtain ⟨d, c, n⟩ := L
  simp only [Lay.ok, Bool.and_eq_true, decide_eq_true_eq] at h
  obtain ⟨⟨⟨⟨⟨⟨⟨⟨h1, h2⟩, h3⟩, h4⟩, h5⟩, h6⟩, h7⟩, h8⟩, h9⟩ := h
  dsimp only at *
  congr 1 <;> omega
theorem payE_ok {k cap : Nat} {S : List UInt8} (hk : 1 ≤ k) (h : payC k cap S = 0) : (payE k cap S).length = cap ∧ ∀ x ∈ payE k cap S, 0 ≤ x ∧ x < 2 ^ k := by
  have h1 : (msgB S).length ≤ cap * k := by
    have h2 := msgB_len S.length S (Nat.le_refl _)
    unfold payC at h
    split at h
    · rename_i h3
      have := h3.2.2
      omega
    · cases h
  unfold payE
  rw [if_pos h]
  refine ⟨?_, elemsC_bd (fillC_bits (msgB_bits S) _)⟩
  rw [elemsC_len, fillC_len _ _ h1, Nat.mul_div_cancel _ hk]
theorem symP_ok {k cap : Nat} {S : List UInt8} (hk : 1 ≤ k) (h : payC k cap S = 0) : ((payE k cap S).map Int.toNat).length = cap ∧ natI ((payE k cap S).map Int.toNat) = payE k cap S ∧ ∀ x ∈ (payE k cap S).map Int.toNat, x < 2 ^ k := by
  obtain ⟨h1, h2⟩ := payE_ok hk h
  refine ⟨by rw [List.length_map, h1], ?_, fun x hx => ?_⟩
  · rw [natI, List.map_map]
    refine (List.map_congr_left fun x hx => ?_).trans (List.map_id _)
    exact Int.toNat_of_nonneg (h2 x hx).1
  · obtain ⟨y, hy, rfl⟩ := List.mem_map.1 hx
    have := h2 y hy
    have h3 : ((2 ^ k : Nat) : Int) = 2 ^ k := by push_cast; rfl
    omega

set_option maxRecDepth 100000 in
set_option maxHeartbeats 4000000 in
theorem symbolStream_any (nm : ByteArray) (kd p k g : Int) (a1 : Option Addr) (szs : List Int) (c1 : Nat) (cl : Int) (a2 : Option Addr) (lvs : List Int) (c2 : Nat) (n lev : Int) (s : ByteArray) (w : World) (h1 : IntsAt w a1 szs) (h2 : IntsAt w a2 lvs) (l1 : szs.length ≤ 1048576) (l2 : lvs.length ≤ 1048576) (ln : nm.size ≤ 1048576) (hw : ∀ x ∈ szs, -9223372036854775808 ≤ x ∧ x ≤ 9223372036854775807) (hs : s.size ≤ 1048576) :
    Calls Tryz.prog 7 #[(.agg #[.string nm, .int .i64 kd, .int .i64 p, .int .i64 k, .int .i64 g, .slice a1 szs.length c1, .int .i64 cl, .slice a2 lvs.length c2]), .int .i64 n, .int .i64 lev, .string s] w (RetLC w (symE ⟨nm, kd, p, k, g, szs, cl, lvs⟩ n lev s.data.toList) (symC ⟨nm, kd, p, k, g, szs, cl, lvs⟩ n lev s.data.toList)) := by
  obtain ⟨fam, hfam⟩ : ∃ f, f = Fam.mk nm kd p k g szs cl lvs := ⟨_, rfl⟩
  have HFM := Lib.hid hfam
  have HFI := Lib.hid (fun w (h1 : IntsAt w a1 szs) (h2 : IntsAt w a2 lvs) => layoutOf_any nm kd p k g a1 szs c1 cl a2 lvs c2 n lev w h1 h2 l1 l2 ln hw)
  have H1 := Lib.hid h1
  have H2 := Lib.hid h2
  rw [← hfam] at HFI ⊢
  clear h1 h2 hw l1 l2 ln hfam
  by_cases hl : layC fam n lev = 0
  · obtain ⟨ho, hlo⟩ := lay_zero hl
    have hfo : Fam.ok ⟨nm, kd, p, k, g, szs, cl, lvs⟩ = true := by rw [← HFM.out]; exact ho
    obtain ⟨hfb, -⟩ := fam_ok hfo
    have HF := Lib.hid (fv_of hfb)
    have hln := lay_nat hlo
    obtain ⟨d, hd⟩ : ∃ d, d = (fam.lay n lev).data.toNat := ⟨_, rfl⟩
    obtain ⟨c, hc⟩ : ∃ c, c = (fam.lay n lev).checks.toNat := ⟨_, rfl⟩
    obtain ⟨m, hm⟩ : ∃ m, m = (fam.lay n lev).count.toNat := ⟨_, rfl⟩
    rw [← hd, ← hc, ← hm] at hln
    rw [hln] at hlo
    have hlo' : Lay.ok ⟨d, c, m⟩ (bF k.toNat g.toNat).q = true := by
      have e : ((2 ^ fam.fk.toNat : Nat) : Int) = ((bF k.toNat g.toNat).q : Int) := by rw [HFM.out]; rfl
      rwa [e] at hlo
    have HLO := Lib.hid hlo'
    have hV : layA fam n lev = .agg #[.int .i64 p, .int .i64 k, .int .i64 g, .int .i64 (d : Int), .int .i64 (c : Int), .int .i64 (m : Int)] := by rw [layA, if_pos hl, hln, HFM.out]
    obtain ⟨hm1, hm2, hmd, hd2, -, -, -, -⟩ := lay_facts hlo'
    have HSC := Lib.hid (show symC fam n lev s.data.toList = payC k.toNat d s.data.toList by rw [symC, if_pos hl, ← hd, HFM.out])
    have HSE := Lib.hid (show symE fam n lev s.data.toList = if payC k.toNat d s.data.toList = 0 then natI (strC (bF k.toNat g.toNat) d m c ((payE k.toNat d s.data.toList).map Int.toNat)) else [] by
      rw [symE, HSC.out, symP, ← hd, ← hc, ← hm, HFM.out])
    have hcall := HFI.out
    rw [hl, hV] at hcall
    have HCL := Lib.hid hcall
    clear hd hc hm hln hlo hlo' hV hl ho hfo hfb hcall
    obtain ⟨R, hR⟩ : ∃ R, R = symE fam n lev s.data.toList := ⟨_, rfl⟩
    obtain ⟨cd, hcd⟩ : ∃ cd, cd = symC fam n lev s.data.toList := ⟨_, rfl⟩
    rw [← hR, ← hcd]
    have HR := Lib.hid (hR.trans HSE.out)
    have HCD := Lib.hid (hcd.trans HSC.out)
    clear HFI hR hcd HSE HSC
    have hk1 : 1 ≤ k.toNat := by have := HF.out.ok.k3; exact Nat.le_trans (by decide) this
    have HPO := Lib.hid (fun h => symP_ok (k := k.toNat) (cap := d) (S := s.data.toList) hk1 h)
    go_enter Tryz.func7, Tryz.ntmps7
    go_wp2_with fail
    refine (HCL.out _ (H1.out.below (ba1 _ _)) (H2.out.below (ba1 _ _))).mono ?_
    rintro e w1 ⟨rfl, hb1⟩
    have K1 := Lib.hid (blkK hb1 (push_at w (.cells #[.string nm, .int .i64 kd, .int .i64 p, .int .i64 k, .int .i64 g, .slice a1 szs.length c1, .int .i64 cl, .slice a2 lvs.length c2] 32 (0, 0))))
    have HB1 := Lib.hid (bt1 hb1)
    clear hb1
    obtain ⟨hcA, hfA⟩ := heap_cellR K1.out
    have z1 := blkLt K1.out
    go_wp2_with fail
    have K3 := Lib.hid (push_at w1 (.cells #[.int .i64 p, .int .i64 k, .int .i64 g, .int .i64 (d : Int), .int .i64 (c : Int), .int .i64 (m : Int)] 40 (0, 0)))
    have HB3 := Lib.hid (bt0 HB1.out (ba1 w1 (.cells #[.int .i64 p, .int .i64 k, .int .i64 g, .int .i64 (d : Int), .int .i64 (c : Int), .int .i64 (m : Int)] 40 (0, 0))) (Nat.le_refl _))
    obtain ⟨w2, hw2⟩ : ∃ w2, w2 = w1.alloc (.cells #[.int .i64 p, .int .i64 k, .int .i64 g, .int .i64 (d : Int), .int .i64 (c : Int), .int .i64 (m : Int)] 40 (0, 0)) := ⟨_, rfl⟩
    rw [← hw2] at K3 HB3 ⊢
    clear hw2 hcA hfA K1
    refine (encodePayload_any HF.out s d w2 hs (by omega) hd2).mono ?_
    rintro e w3 ⟨a3, c3, l3, hl3, rfl, ho3, hb3⟩
    have HL3 := Lib.hid hl3
    have HO3 := Lib.hid ho3
    have K4 := Lib.hid (blkK hb3 K3.out)
    have HB4 := Lib.hid (bt0 HB3.out hb3 (Nat.le_refl _))
    have HSZ := Lib.hid (show w.heap.size ≤ w2.heap.size from HB3.out.size)
    obtain ⟨hcA, hfA⟩ := heap_cellR K4.out
    have z4 := blkLt K4.out
    rw [show (bF k.toNat g.toNat).k = k.toNat from rfl] at HL3 ⊢
    clear hl3 ho3 hb3 K3
    rw [← HCD.out]
    by_cases hp : cd = 0
    · obtain ⟨hp1, hp2, hp3⟩ := HPO.out (by rw [← HCD.out]; exact hp)
      have HR2 := Lib.hid (HR.out.trans (if_pos (by rw [← HCD.out]; exact hp)))
      obtain ⟨P, hP⟩ : ∃ P, P = (payE k.toNat d s.data.toList).map Int.toNat := ⟨_, rfl⟩
      rw [← hP] at hp1 hp2 hp3 HR2
      have hl3 : l3.length = d := by rw [HL3.out, ← hp2, natI_len, hp1]
      have HI3 := Lib.hid (show IntsAt w3 a3 (natI P) by rw [hp2, ← HL3.out]; exact HO3.out.ints)
      have HCP := Lib.hid (show d ≤ c3 by rw [← hl3]; exact own_cap HO3.out)
      have HPA := Lib.hid (show AllE (bF k.toNat g.toNat) P from hp3)
      have HPL := Lib.hid hp1
      clear hP hp1 hp2 hp3 HR
      subst hp
      rw [hl3]
      clear hl3
      go_wp2_with fail
      refine (encodeStream_any HF.out d c m P a3 c3 w3 HLO.out HI3.out HPL.out HCP.out HPA.out).mono ?_
      rintro e w4 ⟨a5, c5, l5, hl5, rfl, ho5, hb5⟩
      have HL5 := Lib.hid hl5
      have HO5 := Lib.hid ho5
      have HB5 := Lib.hid (bt0 HB4.out hb5 (Nat.le_refl _))
      have HS3 := Lib.hid (show w.heap.size ≤ w3.heap.size from HB4.out.size)
      clear hl5 ho5 hb5
      go_wp2_with fail
      go_ret2
      exact ⟨a5, c5, l5, HL5.out.trans HR2.out.symm, rfl, HO5.out.weak HS3.out, HB5.out⟩
    · have HR2 := Lib.hid (HR.out.trans (if_neg (by rw [← HCD.out]; exact hp)))
      have HCE := Lib.hid (show cd = 3 by
        have h1 := HCD.out
        unfold payC at h1
        split at h1
        · exact absurd h1 hp
        · exact h1)
      clear HR
      go_wp2_with fail
      go_ret2
      exact ⟨none, 0, [], HR2.out.symm, by rw [HCE.out]; rfl, OwnI.none _ _, HB4.out⟩
  · have HR := Lib.hid (show symE fam n lev s.data.toList = [] by rw [symE, if_neg]; rw [symC, if_neg hl]; exact hl)
    have HC := Lib.hid (show symC fam n lev s.data.toList = layC fam n lev by rw [symC, if_neg hl])
    have hV : layA fam n lev = .agg #[.int .i64 0, .int .i64 0, .int .i64 0, .int .i64 0, .int .i64 0, .int .i64 0] := by rw [layA, if_neg hl]
    have hcall := HFI.out
    rw [hV] at hcall
    rw [HR.out, HC.out]
    obtain ⟨cd, hcd⟩ : ∃ cd, cd = layC fam n lev := ⟨_, rfl⟩
    rw [← hcd] at hcall hl ⊢
    have HCL := Lib.hid hcall
    clear hV hcall HFI HR HC hcd
    go_enter Tryz.func7, Tryz.ntmps7
    go_wp2_with fail
    refine (HCL.out _ (H1.out.below (ba1 _ _)) (H2.out.below (ba1 _ _))).mono ?_
    rintro e w1 ⟨rfl, hb1⟩
    have HB1 := Lib.hid (bt1 hb1)
    clear hb1
    go_wp2_with fail
    go_ret2
    exact ⟨none, 0, [], rfl, rfl, OwnI.none _ _, bt0 HB1.out (ba1 _ _) (Nat.le_refl _)⟩

end Go.Proofs.YtlcglclojlffgaaGreat
