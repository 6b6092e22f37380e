import Derived.Test.YtlcglclojlffgaaGreatVElmI
import Derived.Test.YtlcglclojlffgaaGreatVAppM
import Derived.Test.YtlcglclojlffgaaGreatM3
namespace Go.Proofs.YtlcglclojlffgaaGreat
open Go.RowKit

/-- the code of a payload; its elements -/
def payC (k cap : Nat) (S : List UInt8) : Int := if S.length ≤ 400 ∧ cap * k ≤ 8192 ∧ (hdC S).l ≤ ((cap * k : Nat) : Int) then 0 else 3
def payE (k cap : Nat) (S : List UInt8) : List Int := if payC k cap S = 0 then elemsC k (fillC (msgB S) (cap * k)) else []
/-- a list of the call's own and a code are handed back -/
def RetLC (w : World) (l : List Int) (cd : Int) (e : Ending) (w' : World) : Prop := ∃ a c l', l' = l ∧ e = .returned (.tuple #[.slice a l'.length c, .int .i64 cd]) ∧ OwnI w' w.heap.size (.slice a l'.length c) l' ∧ Below w.heap.size w w'
theorem OwnI.none (w : World) (base : Nat) : OwnI w base (.slice none 0 0) [] := ⟨by simp, Or.inl ⟨rfl, rfl⟩⟩
set_option maxRecDepth 100000 in
theorem isMessage_any (s : ByteArray) (w : World) (hs : s.size ≤ 1048576) :
    Calls Tryz.prog 36 #[.string s] w fun e w' => e = .returned (.bool (decide (s.size ≤ 400))) ∧ w = w' := by
  have HD := Lib.hid (show decide ((s.size : Int) ≤ 400) = decide (s.size ≤ 400) by rw [decide_eq_decide]; omega)
  go_enter Tryz.func36, Tryz.ntmps36
  go_wp2_with fail
  go_ret
  exact ⟨ret_bool HD.out, rfl⟩
set_option maxRecDepth 100000 in
set_option maxHeartbeats 4000000 in
theorem encodePayload_any {p k g : Int} {F : Fd} (h : FV p k g F) (s : ByteArray) (cap : Nat) (w : World) (hs : s.size ≤ 1048576) (hc1 : 1 ≤ cap) (hc2 : cap ≤ 1500) :
    Calls Tryz.prog 19 #[.agg #[.int .i64 p, .int .i64 k, .int .i64 g], .string s, .int .i64 (cap : Int)] w (RetLC w (payE F.k cap s.data.toList) (payC F.k cap s.data.toList)) := by
  have H := Lib.hid h
  have hk3 := h.ok.k3
  have hk8 := h.ok.k8
  have hir : inB (cap : Int) 1 1500 = true := by simp [inB]; omega
  have hroom : cap * F.k ≤ 1500 * 8 := Nat.mul_le_mul hc2 hk8
  obtain ⟨R, hR⟩ : ∃ R, R = cap * F.k := ⟨_, rfl⟩
  have hw : wrap64 ((cap : Int) * (F.k : Int)) = (R : Int) := by
    have e : (cap : Int) * (F.k : Int) = (R : Int) := by rw [hR]; push_cast; rfl
    rw [← hR] at hroom
    rw [e]; unfold wrap64; omega
  obtain ⟨S, hS⟩ : ∃ S, S = s.data.toList := ⟨_, rfl⟩
  have hSl : S.length = s.size := by rw [hS]; rfl
  obtain ⟨cd, hcd⟩ : ∃ cd, cd = payC F.k cap S := ⟨_, rfl⟩
  obtain ⟨es, hes⟩ : ∃ es, es = payE F.k cap S := ⟨_, rfl⟩
  have HCD := Lib.hid (show cd = if S.length ≤ 400 ∧ R ≤ 8192 ∧ (hdC S).l ≤ (R : Int) then 0 else 3 by rw [hcd, payC, ← hR])
  have HES := Lib.hid (show es = if cd = 0 then elemsC F.k (fillC (msgB S) R) else [] by rw [hes, payE, ← hcd, hR])
  rw [← hR] at hroom
  rw [← hS, ← hcd, ← hes]
  have HS := Lib.hid hS
  clear h hR hcd hes hS
  by_cases h400 : s.size ≤ 400
  · by_cases hR8 : R ≤ 8192
    · have hbd := hdC_bd _ S (Nat.le_refl _)
      obtain ⟨L, hL⟩ : ∃ L, L = (hdC S).l := ⟨_, rfl⟩
      have hLb : 0 ≤ L ∧ L ≤ 7600 := by
        rw [hL]
        have h1 := hbd.1
        have h2 := hbd.2.1
        omega
      have HLe := Lib.hid hL
      have hml := msgB_len _ S (Nat.le_refl _)
      rw [← hL] at hml HCD
      have HML := Lib.hid hml
      clear hbd hL hml
      by_cases hLR : L ≤ (R : Int)
      · have HC0 := Lib.hid (show cd = 0 by rw [HCD.out, if_pos ⟨by omega, hR8, hLR⟩])
        rw [if_pos HC0.out] at HES
        have h1 : decide (s.size ≤ 400) = true := decide_eq_true h400
        have h2 : decide ((8192 : Int) < (R : Int)) = false := by simp; omega
        have h3 : decide ((R : Int) < L) = false := by simp; omega
        go_enter Tryz.func19, Tryz.ntmps19
        go_wp2_with fail
        refine (calc_fv H.out _).mono ?_
        rintro e w1 ⟨hb1, a1, rfl, ha⟩
        obtain ⟨b, rfl, -, hA⟩ := ha rfl
        have HA := Lib.hid hA
        have HB1 := Lib.hid (bt1 hb1)
        clear hb1 ha hA
        go_wp2_with fail
        refine (inRange_any _ _ _ _).mono ?_
        rw [hir]
        rintro e w' ⟨rfl, rfl⟩
        go_wp2_with fail
        refine (width_any F H.out.fd b _ HA.out).mono ?_
        rintro e w2 hq2
        obtain ⟨rfl, hb2⟩ := hq2.below
        have HB2 := Lib.hid (bt0 HB1.out hb2 (Nat.le_refl _))
        have HA2 := Lib.hid (HA.out.below hb2)
        clear hq2 hb2
        go_wp2_with fail
        refine (isMessage_any s _ hs).mono ?_
        rw [h1]
        rintro e w' ⟨rfl, rfl⟩
        go_wp2_with fail
        refine (bestLength_any s _ h400).mono ?_
        rw [← HS.out, ← HLe.out]
        rintro e w3 ⟨rfl, hb3⟩
        have HB3 := Lib.hid (bt0 HB2.out hb3 (Nat.le_refl _))
        have HA3 := Lib.hid (HA2.out.below hb3)
        clear hb3
        go_wp2_with fail
        refine (appendMessage_any w3.heap.size none 0 [] s w3 (OwnI.none _ _) (Nat.le_refl _) (by simp) h400).mono ?_
        rw [← HS.out, List.nil_append]
        rintro e w4 ⟨a4, c4, l4, hl4, rfl, hm4⟩
        have HL4 := Lib.hid hl4
        have HM4 := Lib.hid hm4
        have HB4 := Lib.hid (bt0 HB3.out hm4.below (Nat.le_refl _))
        have HA4 := Lib.hid (HA3.out.below hm4.below)
        have hl4R : l4.length ≤ R := by
          have h1 := HML.out
          rw [← hl4] at h1
          omega
        clear hl4 hm4
        go_wp2_with fail
        refine (pack_any a4 l4 c4 R w4 HM4.out.own.ints hR8 hl4R).mono ?_
        rintro e w5 ⟨rfl, hc5, hb5⟩
        have HC5 := Lib.hid hc5
        have HB5 := Lib.hid (bt0 HB4.out hb5 (Nat.le_refl _))
        have HA5 := Lib.hid (HA4.out.below hb5)
        clear hc5 hb5
        go_wp2_with fail
        refine (width_any F H.out.fd b _ HA5.out).mono ?_
        rintro e w6 hq6
        obtain ⟨rfl, hb6⟩ := hq6.below
        have HB6 := Lib.hid (bt0 HB5.out hb6 (Nat.le_refl _))
        have HC6 := Lib.hid (HC5.out.below hb6)
        clear hq6 hb6
        go_wp2_with fail
        refine (elementsOf_any w4.heap.size R F.k (fillC l4 R) w6 HC6.out (by rw [HL4.out]; exact fillC_bits (msgB_bits S) R) (by rw [fillC_len _ _ hl4R]; omega) (by omega) (by omega)).mono ?_
        rintro e w7 ⟨a7, c7, l7, hl7, rfl, ho7, hg7⟩
        have HB7 := Lib.hid (HB6.out.trans (below_of_grownBy hg7 HB6.out.size (fun j e => by have := Option.some.inj e; have := HB4.out.size; omega)))
        have HO7 := Lib.hid (ho7.weak HB6.out.size)
        have HL7 := Lib.hid hl7
        clear hl7 ho7 hg7
        go_wp2_with fail
        go_ret2
        exact ⟨a7, c7, l7, by rw [HES.out, HL7.out, HL4.out], by rw [HC0.out]; rfl, HO7.out, HB7.out⟩
      · have HC0 := Lib.hid (show cd = 3 by rw [HCD.out, if_neg (by omega)])
        rw [if_neg (by rw [HC0.out]; decide)] at HES
        have h1 : decide (s.size ≤ 400) = true := decide_eq_true h400
        have h2 : decide ((8192 : Int) < (R : Int)) = false := by simp; omega
        have h3 : decide ((R : Int) < L) = true := by simp; omega
        go_enter Tryz.func19, Tryz.ntmps19
        go_wp2_with fail
        refine (calc_fv H.out _).mono ?_
        rintro e w1 ⟨hb1, a1, rfl, ha⟩
        obtain ⟨b, rfl, -, hA⟩ := ha rfl
        have HA := Lib.hid hA
        have HB1 := Lib.hid (bt1 hb1)
        clear hb1 ha hA
        go_wp2_with fail
        refine (inRange_any _ _ _ _).mono ?_
        rw [hir]
        rintro e w' ⟨rfl, rfl⟩
        go_wp2_with fail
        refine (width_any F H.out.fd b _ HA.out).mono ?_
        rintro e w2 hq2
        obtain ⟨rfl, hb2⟩ := hq2.below
        have HB2 := Lib.hid (bt0 HB1.out hb2 (Nat.le_refl _))
        clear hq2 hb2
        go_wp2_with fail
        refine (isMessage_any s _ hs).mono ?_
        rw [h1]
        rintro e w' ⟨rfl, rfl⟩
        go_wp2_with fail
        refine (bestLength_any s _ h400).mono ?_
        rw [← HS.out, ← HLe.out]
        rintro e w3 ⟨rfl, hb3⟩
        have HB3 := Lib.hid (bt0 HB2.out hb3 (Nat.le_refl _))
        clear hb3
        go_wp2_with fail
        go_ret2
        exact ⟨none, 0, [], HES.out.symm, by rw [HC0.out]; rfl, OwnI.none _ _, HB3.out⟩
    · have HC0 := Lib.hid (show cd = 3 by rw [HCD.out, if_neg (by omega)])
      rw [if_neg (by rw [HC0.out]; decide)] at HES
      have h1 : decide (s.size ≤ 400) = true := decide_eq_true h400
      have h2 : decide ((8192 : Int) < (R : Int)) = true := by simp; omega
      go_enter Tryz.func19, Tryz.ntmps19
      go_wp2_with fail
      refine (calc_fv H.out _).mono ?_
      rintro e w1 ⟨hb1, a1, rfl, ha⟩
      obtain ⟨b, rfl, -, hA⟩ := ha rfl
      have HA := Lib.hid hA
      have HB1 := Lib.hid (bt1 hb1)
      clear hb1 ha hA
      go_wp2_with fail
      refine (inRange_any _ _ _ _).mono ?_
      rw [hir]
      rintro e w' ⟨rfl, rfl⟩
      go_wp2_with fail
      refine (width_any F H.out.fd b _ HA.out).mono ?_
      rintro e w2 hq2
      obtain ⟨rfl, hb2⟩ := hq2.below
      have HB2 := Lib.hid (bt0 HB1.out hb2 (Nat.le_refl _))
      clear hq2 hb2
      go_wp2_with fail
      refine (isMessage_any s _ hs).mono ?_
      rw [h1]
      rintro e w' ⟨rfl, rfl⟩
      go_wp2_with fail
      go_ret2
      exact ⟨none, 0, [], HES.out.symm, by rw [HC0.out]; rfl, OwnI.none _ _, HB2.out⟩
  · have HC0 := Lib.hid (show cd = 3 by rw [HCD.out, if_neg (by omega)])
    rw [if_neg (by rw [HC0.out]; decide)] at HES
    have h1 : decide (s.size ≤ 400) = false := decide_eq_false h400
    go_enter Tryz.func19, Tryz.ntmps19
    go_wp2_with fail
    refine (calc_fv H.out _).mono ?_
    rintro e w1 ⟨hb1, a1, rfl, ha⟩
    obtain ⟨b, rfl, -, hA⟩ := ha rfl
    have HA := Lib.hid hA
    have HB1 := Lib.hid (bt1 hb1)
    clear hb1 ha hA
    go_wp2_with fail
    refine (inRange_any _ _ _ _).mono ?_
    rw [hir]
    rintro e w' ⟨rfl, rfl⟩
    go_wp2_with fail
    refine (width_any F H.out.fd b _ HA.out).mono ?_
    rintro e w2 hq2
    obtain ⟨rfl, hb2⟩ := hq2.below
    have HB2 := Lib.hid (bt0 HB1.out hb2 (Nat.le_refl _))
    clear hq2 hb2
    go_wp2_with fail
    refine (isMessage_any s _ hs).mono ?_
    rw [h1]
    rintro e w' ⟨rfl, rfl⟩
    go_wp2_with fail
    go_ret2
    exact ⟨none, 0, [], HES.out.symm, by rw [HC0.out]; rfl, OwnI.none _ _, HB2.out⟩

end Go.Proofs.YtlcglclojlffgaaGreat
