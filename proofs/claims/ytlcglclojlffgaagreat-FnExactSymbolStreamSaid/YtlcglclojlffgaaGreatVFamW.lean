import Derived.Test.YtlcglclojlffgaaGreatM2
import Derived.Test.YtlcglclojlffgaaGreatM1
import Derived.Test.YtlcglclojlffgaaGreatM0
namespace Go.Proofs.YtlcglclojlffgaaGreat
open Go.RowKit

/-- what is left of a bound behind a family -/
def leftF (l : Int) (p n m : Nat) : Int := if leftOf l p < 0 then -1 else if leftOf (leftOf l p) n < 0 then -1 else leftOf (leftOf (leftOf l p) n) m
theorem leftF_ok {l : Int} {p n m : Nat} (h : ¬ leftF l p n m < 0) : (p : Int) + n + m ≤ l := by
  unfold leftF leftOf at h
  by_cases h1 : l - (p : Int) < 0
  · simp [h1] at h
  · by_cases h2 : l - (p : Int) - (n : Int) < 0
    · simp [h1, h2] at h
    · by_cases h3 : l - (p : Int) - (n : Int) - (m : Int) < 0
      · simp [h1, h2, h3] at h
      · omega
abbrev fmV (nm : ByteArray) (kd p k g : Int) (s1 : Value) (cl : Int) (s2 : Value) : Value := .agg #[.string nm, .int .i64 kd, .int .i64 p, .int .i64 k, .int .i64 g, s1, .int .i64 cl, s2]
set_option maxRecDepth 100000 in
set_option maxHeartbeats 1000000 in
theorem szFamily_any (nm : ByteArray) (kd p k g : Int) (a1 : Option Addr) (n c1 : Nat) (cl : Int) (a2 : Option Addr) (m c2 : Nat) (l : Int) (w : World) (hp : nm.size ≤ maxLen) (hn : n ≤ maxLen) (hm : m ≤ maxLen) (h0 : -1 ≤ l) (hl : l ≤ 1099511627776) :
    Calls Tryz.prog 4 #[fmV nm kd p k g (.slice a1 n c1) cl (.slice a2 m c2), .int .i64 l] w fun e w' => e = .returned (.int .i64 (leftF l nm.size n m)) ∧ Below w.heap.size w w' := by
  unfold maxLen at hp
  by_cases h1 : l - nm.size < 0
  · have E := Lib.hid (show leftF l nm.size n m = -1 by unfold leftF leftOf; simp [h1])
    go_enter Tryz.func4, Tryz.ntmps4
    go_wp2_with fail
    go_ret
    exact ⟨ret_int E.out.symm, ba1 _ _⟩
  · have e1 : leftOf l nm.size = l - nm.size := by rw [leftOf, if_neg h1]
    obtain ⟨l1, hl1⟩ : ∃ l1, l1 = l - (nm.size : Int) := ⟨_, rfl⟩
    have hl1' : l - (nm.size : Int) = l1 := hl1.symm
    rw [← hl1] at e1 h1
    have a3 : -1 ≤ leftOf l1 n ∧ leftOf l1 n ≤ 1099511627776 := by unfold leftOf; split <;> omega
    have HF := Lib.hid (show leftF l nm.size n m = if leftOf l1 n < 0 then -1 else leftOf (leftOf l1 n) m by unfold leftF; rw [e1, if_neg (by omega)])
    have HS1 := Lib.hid (fun w => szInt64S_any a1 n c1 l1 w hn (by omega) (by omega))
    have HN1 := Lib.hid (show leftOf l1 n < 0 → leftOf l1 n = -1 by omega)
    obtain ⟨l2, hl2⟩ : ∃ l2, l2 = leftOf l1 n := ⟨_, rfl⟩
    rw [← hl2] at a3 HF HS1 HN1
    have HS2 := Lib.hid (fun w => szInt64S_any a2 m c2 l2 w hm a3.1 a3.2)
    have a4 : -1 ≤ leftOf l2 m ∧ leftOf l2 m ≤ 1099511627776 := by unfold leftOf; split <;> omega
    have HN2 := Lib.hid (show leftOf l2 m < 0 → leftOf l2 m = -1 by omega)
    obtain ⟨l3, hl3⟩ : ∃ l3, l3 = leftOf l2 m := ⟨_, rfl⟩
    rw [← hl3] at a4 HF HS2 HN2
    clear hl1 e1 hl2 hl3
    have hw1 : l1 ≤ 1099511627776 := by omega
    go_enter Tryz.func4, Tryz.ntmps4
    go_wp2_with fail
    refine (HS1.out _).mono ?_
    rintro e w1 ⟨rfl, rfl⟩
    by_cases h2 : l2 < 0
    · have HE := Lib.hid (show leftF l nm.size n m = -1 by rw [HF.out, if_pos h2])
      go_wp2_with fail
      go_ret
      exact ⟨ret_int HE.out.symm, ba1 _ _⟩
    · have HE := Lib.hid (show leftF l nm.size n m = l3 by rw [HF.out, if_neg h2])
      go_wp2_with fail
      refine (HS2.out _).mono ?_
      rintro e w2 ⟨rfl, rfl⟩
      by_cases h3 : l3 < 0
      · have HE3 := Lib.hid (HN2.out h3)
        go_wp2_with fail
        go_ret
        exact ⟨ret_int (by rw [HE.out, HE3.out]), ba1 _ _⟩
      · go_wp2_with fail
        go_ret
        exact ⟨ret_int HE.out.symm, ba1 _ _⟩

theorem toField_any (p k g : Int) (w : World) :
    Calls Tryz.prog 16 #[.agg #[.int .i64 p, .int .i64 k, .int .i64 g]] w fun e w' => e = .returned (.agg #[.int .i64 p, .int .i64 k, .int .i64 g]) ∧ Below w.heap.size w w' := by
  go_enter Tryz.func16, Tryz.ntmps16
  go_wp2
  refine bodyPost_ret (v := .agg #[.int .i64 p, .int .i64 k, .int .i64 g]) (by simp [results, Tryz.results16, go_sem]) rfl ⟨rfl, ?_⟩
  first
    | exact ba3 _ _ _ _
    | (iterate 3 (refine Below.setCell ?_ (by dsimp only; omega) _)
       exact ba3 _ _ _ _)
/-- a family of the call's own is handed back -/
def RetFam (w : World) (nm : ByteArray) (kd p k g : Int) (szs : List Int) (cl : Int) (lvs : List Int) (e : Ending) (w' : World) : Prop :=
  ∃ b1 b2 : Nat, e = .returned (fmV nm kd p k g (.slice (some ⟨b1, 0, none⟩) szs.length szs.length) cl (.slice (some ⟨b2, 0, none⟩) lvs.length lvs.length)) ∧ b1 ≠ b2 ∧ OwnI w' w.heap.size (.slice (some ⟨b1, 0, none⟩) szs.length szs.length) szs ∧ OwnI w' w.heap.size (.slice (some ⟨b2, 0, none⟩) lvs.length lvs.length) lvs ∧ Below w.heap.size w w'
set_option maxRecDepth 100000 in
set_option maxHeartbeats 2000000 in
theorem toFamily_any (nm : ByteArray) (kd p k g : Int) (a1 : Option Addr) (szs : List Int) (c1 : Nat) (cl : Int) (a2 : Option Addr) (lvs : List Int) (c2 : Nat) (w : World) (h1 : IntsAt w a1 szs) (h2 : IntsAt w a2 lvs) (l1 : szs.length ≤ 1099511627776) (l2 : lvs.length ≤ 1099511627776) :
    Calls Tryz.prog 6 #[fmV nm kd p k g (.slice a1 szs.length c1) cl (.slice a2 lvs.length c2)] w (RetFam w nm kd p k g szs cl lvs) := by
  have H1 := Lib.hid h1
  have H2 := Lib.hid h2
  clear h1 h2
  go_enter Tryz.func6, Tryz.ntmps6
  go_wp2_with fail
  refine (toField_any p k g _).mono ?_
  rintro e w1 ⟨rfl, hb1⟩
  obtain ⟨hc, hf⟩ := bcell hb1
  have HB1 := Lib.hid (bt3 hb1)
  have hz1 : w.heap.size + 1 + 1 < w1.heap.size := by have := hb1.size; simp at this; omega
  have hz0 : w.heap.size + 1 < w1.heap.size := by omega
  have hzA : w.heap.size < w1.heap.size := by omega
  clear hb1
  go_wp2_with fail
  have HB2 : Hid (Below w.heap.size w (((w1.setCell ⟨w.heap.size + 1 + 1, 2, none⟩ (.int .i64 p)).setCell ⟨w.heap.size + 1 + 1, 3, none⟩ (.int .i64 k)).setCell ⟨w.heap.size + 1 + 1, 4, none⟩ (.int .i64 g))) := by
    show Below _ _ _
    iterate 3 (refine Below.setCell ?_ (by dsimp only; omega) _)
    exact HB1.out
  refine (toInt64S_any a1 szs c1 _ (H1.out.below HB2.out) l1).mono ?_
  rintro e w2 ⟨rfl, ho, hb2⟩
  obtain ⟨hc2, hf2⟩ := bcell hb2
  have HB3 := Lib.hid (bt0 HB2.out hb2 (Nat.le_refl _))
  have HO : Hid (OwnI w2 w1.heap.size (.slice (some ⟨w1.heap.size, 0, none⟩) szs.length szs.length) szs) := by
    show OwnI _ _ _ _
    simpa using ho
  clear ho
  have hz2 : w.heap.size + 1 + 1 < w2.heap.size := by have := hb2.size; simp at this; omega
  have hz3 : w1.heap.size < w2.heap.size := HO.out.hi _ rfl
  have hzB : w.heap.size < w2.heap.size := by omega
  have hzC : w.heap.size + 1 < w2.heap.size := by omega
  clear hb2
  go_wp2_with fail
  have HB4 : Hid (Below w.heap.size w ((w2.setCell ⟨w.heap.size + 1 + 1, 5, none⟩ (.slice (some ⟨w1.heap.size, 0, none⟩) szs.length szs.length)).setCell ⟨w.heap.size + 1 + 1, 6, none⟩ (.int .i64 cl))) := by
    show Below _ _ _
    iterate 2 (refine Below.setCell ?_ (by dsimp only; omega) _)
    exact HB3.out
  have HO2 : Hid (OwnI ((w2.setCell ⟨w.heap.size + 1 + 1, 5, none⟩ (.slice (some ⟨w1.heap.size, 0, none⟩) szs.length szs.length)).setCell ⟨w.heap.size + 1 + 1, 6, none⟩ (.int .i64 cl)) w1.heap.size (.slice (some ⟨w1.heap.size, 0, none⟩) szs.length szs.length) szs) := by
    show OwnI _ _ _ _
    iterate 2 (refine OwnI.setOld ?_ (by dsimp only; omega) _)
    exact HO.out
  refine (toInt64S_any a2 lvs c2 _ (H2.out.below HB4.out) l2).mono ?_
  rintro e w3 ⟨rfl, ho, hb3⟩
  obtain ⟨hc3, hf3⟩ := bcell hb3
  have HB5 := Lib.hid (bt0 HB4.out hb3 (Nat.le_refl _))
  have HO3 := Lib.hid (HO2.out.grown hb3)
  have HOL : Hid (OwnI w3 w2.heap.size (.slice (some ⟨w2.heap.size, 0, none⟩) lvs.length lvs.length) lvs) := by
    show OwnI _ _ _ _
    simpa using ho
  clear ho
  have hz4 : w.heap.size + 1 + 1 < w3.heap.size := by have := hb3.size; simp at this; omega
  have hz5 : w.heap.size + 1 < w3.heap.size := by omega
  clear hb3
  go_wp2_with fail
  refine bodyPost_ret (v := fmV nm kd p k g (.slice (some ⟨w1.heap.size, 0, none⟩) szs.length szs.length) cl (.slice (some ⟨w2.heap.size, 0, none⟩) lvs.length lvs.length)) (by simp [results, Tryz.results6, go_sem, hc2, hc3, hz0, hc, hzC]) rfl ⟨w1.heap.size, w2.heap.size, rfl, by omega, ?_, ?_, ?_⟩
  · refine OwnI.weak (base := w1.heap.size) ?_ (by omega)
    iterate 9 (refine OwnI.setOld ?_ (by dsimp only; omega) _)
    exact HO3.out
  · refine OwnI.weak (base := w2.heap.size) ?_ (by omega)
    iterate 9 (refine OwnI.setOld ?_ (by dsimp only; omega) _)
    exact HOL.out
  · iterate 9 (refine Below.setCell ?_ (by dsimp only; omega) _)
    exact HB5.out

theorem eqI_val {a b : Option Addr} {zs : List Int} {c d : Nat} {w : World} (hx : IntsAt w a zs) (hy : IntsAt w b zs) (lz : zs.length ≤ maxLen) :
    Calls Tryz.prog 8 #[.slice a zs.length c, .slice b zs.length d] w fun e w' => e = .returned (.bool true) ∧ Below w.heap.size w w' :=
  (eqInt64S_any a b zs zs c d w hx hy lz lz).mono fun _ _ ⟨he, n, hw⟩ => ⟨by rw [he]; simp, by rw [hw]; exact below_drewN (Below.refl _ _) n⟩
theorem eqField_same (p k g : Int) (w : World) :
    Calls Tryz.prog 21 #[.agg #[.int .i64 p, .int .i64 k, .int .i64 g], .agg #[.int .i64 p, .int .i64 k, .int .i64 g]] w fun e w' => e = .returned (.bool true) ∧ Below w.heap.size w w' := by
  have h1 : (p != p) = false := by simp
  have h2 : (k != k) = false := by simp
  have h3 : (g != g) = false := by simp
  go_enter Tryz.func21, Tryz.ntmps21
  go_wp2_with fail
  go_ret
  exact ⟨rfl, ba2 _ _ _⟩
set_option maxRecDepth 100000 in
set_option maxHeartbeats 1000000 in
theorem eqFamily_same {nm : ByteArray} {kd p k g : Int} {a1 b1 : Option Addr} {szs : List Int} {c1 d1 : Nat} {cl : Int} {a2 b2 : Option Addr} {lvs : List Int} {c2 d2 : Nat} {w : World} (h1 : IntsAt w a1 szs) (h2 : IntsAt w a2 lvs) (k1 : IntsAt w b1 szs) (k2 : IntsAt w b2 lvs) (l1 : szs.length ≤ maxLen) (l2 : lvs.length ≤ maxLen) :
    Calls Tryz.prog 9 #[fmV nm kd p k g (.slice a1 szs.length c1) cl (.slice a2 lvs.length c2), fmV nm kd p k g (.slice b1 szs.length d1) cl (.slice b2 lvs.length d2)] w fun e w' => e = .returned (.bool true) ∧ Below w.heap.size w w' := by
  have H1 := Lib.hid h1
  have H2 := Lib.hid h2
  have K1 := Lib.hid k1
  have K2 := Lib.hid k2
  clear h1 h2 k1 k2
  go_enter Tryz.func9, Tryz.ntmps9
  go_wp2_with fail
  have e2 := heap2 w (.cells #[.string nm, .int .i64 kd, .int .i64 p, .int .i64 k, .int .i64 g, .slice a1 szs.length c1, .int .i64 cl, .slice a2 lvs.length c2] 32 (0, 0)) (.cells #[.string nm, .int .i64 kd, .int .i64 p, .int .i64 k, .int .i64 g, .slice b1 szs.length d1, .int .i64 cl, .slice b2 lvs.length d2] 32 (0, 0))
  refine (eqField_same p k g _).mono ?_
  rintro e w1 ⟨rfl, hb1⟩
  have K3 := Lib.hid (blkK hb1 e2.1)
  have K4 := Lib.hid (blkK hb1 e2.2)
  have HB1 := Lib.hid (bt2 hb1)
  clear hb1 e2
  obtain ⟨hcA, hfA⟩ := heap_cellR K3.out
  obtain ⟨hcB, hfB⟩ := heap_cellR K4.out
  have z1 := blkLt K3.out
  have z2 := blkLt K4.out
  go_wp2_with fail
  refine (eqI_val (H1.out.below HB1.out) (K1.out.below HB1.out) l1).mono ?_
  rintro e w2 ⟨rfl, hb2⟩
  have K5 := Lib.hid (blkK hb2 K3.out)
  have K6 := Lib.hid (blkK hb2 K4.out)
  have HB2 := Lib.hid (bt0 HB1.out hb2 (Nat.le_refl _))
  clear hb2 hcA hfA hcB hfB z1 z2
  obtain ⟨hcA, hfA⟩ := heap_cellR K5.out
  obtain ⟨hcB, hfB⟩ := heap_cellR K6.out
  have z1 := blkLt K5.out
  have z2 := blkLt K6.out
  have hcl : (cl != cl) = false := by simp
  go_wp2_with fail
  refine (eqI_val (H2.out.below HB2.out) (K2.out.below HB2.out) l2).mono ?_
  rintro e w3 ⟨rfl, hb3⟩
  have HB3 := Lib.hid (bt0 HB2.out hb3 (Nat.le_refl _))
  clear hb3
  go_wp2_with fail
  go_ret
  exact ⟨rfl, HB3.out⟩
set_option maxHeartbeats 1000000 in
theorem markFamily_any (nm : ByteArray) (kd p k g : Int) (b1 : Nat) (szs : List Int) (cl : Int) (b2 : Nat) (lvs : List Int) (base : Nat) (m : Int) (w : World) (hne : b1 ≠ b2) (h1 : OwnI w base (.slice (some ⟨b1, 0, none⟩) szs.length szs.length) szs) (h2 : OwnI w base (.slice (some ⟨b2, 0, none⟩) lvs.length lvs.length) lvs)
    (l1 : szs.length ≤ 1048576) (l2 : lvs.length ≤ 1048576) (hm0 : 0 ≤ m) (hm : m ≤ 1099511) :
    Calls Tryz.prog 10 #[fmV nm kd p k g (.slice (some ⟨b1, 0, none⟩) szs.length szs.length) cl (.slice (some ⟨b2, 0, none⟩) lvs.length lvs.length), .int .i64 m] w fun e w' => e = .returned (.int .i64 (m + szs.length + lvs.length)) ∧
      ∃ w1, w.grownBy w1 (some b1) ∧ w1.grownBy w' (some b2) := by
  have HO1 := Lib.hid h1
  have HO2 := Lib.hid h2
  clear h1 h2
  go_enter Tryz.func10, Tryz.ntmps10
  go_wp2_with fail
  have e1 := push_at w (.cells #[.string nm, .int .i64 kd, .int .i64 p, .int .i64 k, .int .i64 g, .slice (some ⟨b1, 0, none⟩) szs.length szs.length, .int .i64 cl, .slice (some ⟨b2, 0, none⟩) lvs.length lvs.length] 32 (0, 0))
  have hb2 := HO2.out.hi b2 rfl
  have hb1 := HO1.out.hi b1 rfl
  refine (markInt64S_any _ szs _ base m _ (HO1.out.grown (ba1 _ _)) (by omega) hm0 (by omega)).mono ?_
  rintro e w1 ⟨rfl, ho1, hg1⟩
  have HG1 := Lib.hid (grownBy_trans (World.grownBy_alloc w _ _) hg1)
  have K := Lib.hid ((hg1.block w.heap.size (by simp) (fun e => by have : w.heap.size = b1 := Option.some.inj e; omega)).trans e1)
  have HO3 := Lib.hid ((HO2.out.grown (ba1 w (.cells #[.string nm, .int .i64 kd, .int .i64 p, .int .i64 k, .int .i64 g, .slice (some ⟨b1, 0, none⟩) szs.length szs.length, .int .i64 cl, .slice (some ⟨b2, 0, none⟩) lvs.length lvs.length] 32 (0, 0)))).other hg1 (fun k hk e => by cases hk; exact hne (Option.some.inj e)))
  obtain ⟨hcA, hfA⟩ := heap_cellR K.out
  have hltA := blkLt K.out
  clear ho1 hg1 e1
  go_wp2_with fail
  refine (markInt64S_any _ lvs _ base (m + szs.length) _ HO3.out (by omega) (by omega) (by omega)).mono ?_
  rintro e w2 ⟨rfl, ho2, hg2⟩
  have HG2 := Lib.hid hg2
  clear ho2 hg2
  go_wp2_with fail
  go_ret
  exact ⟨rfl, w1, HG1.out, HG2.out⟩

end Go.Proofs.YtlcglclojlffgaaGreat
