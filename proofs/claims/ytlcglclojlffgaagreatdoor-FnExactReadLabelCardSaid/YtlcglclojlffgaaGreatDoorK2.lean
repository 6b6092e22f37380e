import Derived.Test.YtlcglclojlffgaaGreatDoorK1
import Derived.Test.YtlcglclojlffgaaGreatDoorK0
import Derived.Conc.LoneCalls
import Derived.Maps.AppendAt
import Derived.Laws.RangeString
namespace Go.Proofs.YtlcglclojlffgaaGreatDoor
open Go.RowKit

set_option maxHeartbeats 400000 in
theorem isPrime_even (n : Int) (w : World) (h1 : 4 ≤ n) (h2 : n ≤ 100000) (h3 : n % 2 = 0) :
    Calls Tryz.prog 203 #[.int .i64 n] w fun e w' => e = .returned (.bool false) ∧ w = w' := by
  have hd : decide (n < 2) = false := by simp; omega
  have he : (n % 2 == 0) = true := by rw [beq_iff_eq]; exact h3
  clear h3
  go_enter Tryz.func203, Tryz.ntmps203
  go_wp2_with fail
  refine wp_loop_rounds 1 ?_
  rw [rounds_succ]
  go_wp2_with fail
  go_ret
  exact ⟨rfl, rfl⟩
set_option maxHeartbeats 400000 in
theorem isField_two (k g : Int) (w : World) :
    Calls Tryz.prog 190 #[.agg #[.int .i64 2, .int .i64 k, .int .i64 g]] w fun e w' => e = .returned (.bool (fldB 2 k g)) ∧ Below w.heap.size w w' := by
  go_enter Tryz.func190, Tryz.ntmps190
  go_wp2_with fail
  refine (calc_two k g _).mono ?_
  rintro e w1 ⟨hb1, a1, rfl, -⟩
  have HB := Lib.hid (bt1 hb1)
  clear hb1
  go_wp2_with fail
  go_ret
  exact ⟨rfl, HB.out⟩
/-- the field of a size: its power and its least polynomial -/
def Least (k g : Nat) : Prop := 4 ≤ k ∧ k ≤ 8 ∧ 2 ^ k ≤ g ∧ g < 2 * 2 ^ k ∧ fldB 2 k g = true ∧ ∀ p, 2 ^ k ≤ p → p < g → fldB 2 k p = false
set_option maxRecDepth 100000 in
set_option maxHeartbeats 1000000 in
theorem fieldOf_any (S k g : Nat) (hS : S = 2 ^ k) (h : Least k g) (w : World) :
    Calls Tryz.prog 191 #[.int .i64 S] w fun e w' => e = .returned (.tuple #[.agg #[.int .i64 2, .int .i64 k, .int .i64 g], .int .i64 0]) ∧ Below w.heap.size w w' := by
  obtain ⟨h4, h8, hg1, hg2, hgt, hgl⟩ := h
  have hs16 : 2 ^ 4 ≤ 2 ^ k := Nat.pow_le_pow_right (by omega) h4
  have hs256 : 2 ^ k ≤ 2 ^ 8 := Nat.pow_le_pow_right (by omega) h8
  have hev : (S : Int) % 2 = 0 := by
    obtain ⟨j, rfl⟩ : ∃ j, k = j + 1 := ⟨k - 1, by omega⟩
    rw [hS, Nat.pow_succ]; omega
  have HE := Lib.hid hev
  rw [← hS] at hs16 hs256 hg1 hg2 hgl
  have HS := Lib.hid hS
  have HT := Lib.hid hgt
  have HL := Lib.hid hgl
  have hin : inB (S : Int) 3 1021 = true := inB_iff.2 (by omega)
  clear hev hS hgt hgl
  go_enter Tryz.func191, Tryz.ntmps191
  go_wp2_with fail
  refine (inRange_any _ _ _ _).mono ?_
  rw [hin]
  rintro e w' ⟨rfl, rfl⟩
  go_wp2_with fail
  refine (isPrime_even _ _ (by omega) (by omega) HE.out).mono ?_
  rintro e w' ⟨rfl, rfl⟩
  go_wp2_with fail
  obtain ⟨W, hW⟩ : ∃ W, W = w.alloc (.cells #[.int .i64 0, .int .i64 0, .int .i64 0] 121 (0, 0)) := ⟨_, rfl⟩
  rw [← hW]
  have HB0 := Lib.hid (show Below w.heap.size w W by rw [hW]; exact ba1 _ _)
  have hr := heap_cellR (show W.heap[w.heap.size]? = some (.cells #[.int .i64 0, .int .i64 0, .int .i64 0] 121 (0, 0)) by rw [hW]; exact push_at _ _)
  have HR := Lib.hid (show W.heap[w.heap.size]? = some (.cells #[.int .i64 0, .int .i64 0, .int .i64 0] 121 (0, 0)) by rw [hW]; exact push_at _ _)
  have hlt0 : w.heap.size < W.heap.size := by rw [hW]; simp
  clear hW
  go_loopw [7, 8, 9] (fun p _ _ wr => ∃ k' : Nat, 3 ≤ k' ∧ k' ≤ k ∧ p = .int .i64 k' ∧ wr = W) (fun p _ _ _ => k - (intOf p).toNat)
  case atStart => exact ⟨3, by omega, by omega, rfl, rfl⟩
  case round =>
    obtain ⟨k', hk3, hk, rfl, hwr⟩ := hrel
    obtain rfl : W = wr := hwr.symm
    obtain ⟨P, hP⟩ : ∃ P : Nat, P = 2 ^ k' := ⟨_, rfl⟩
    have hPb : P ≤ S := by rw [hP, HS.out]; exact Nat.pow_le_pow_right (by omega) hk
    have hw : wrap64 ((2 : Int) ^ k') = (P : Int) := by
      have hc : ((2 : Int) ^ k') = ((2 ^ k' : Nat) : Int) := by push_cast; rfl
      rw [hc, ← hP]; unfold wrap64; omega
    have hk8 : (k' : Int) ≤ 8 := by omega
    by_cases hlt : k' < k
    · have hne : P < S := by rw [hP, HS.out]; exact Nat.pow_lt_pow_right (by omega) hlt
      have hb : (((S : Nat) : Int) != (P : Int)) = true := by rw [bne_iff_ne]; omega
      clear hP
      go_wp2_with fail
      exact ⟨⟨k' + 1, by omega, by omega, by go_num, trivial⟩, by simp [intOf]; omega⟩
    · obtain rfl : k' = k := by omega
      have hPS : P = S := by rw [hP, HS.out]
      subst hPS
      have hb : (((P : Nat) : Int) != (P : Int)) = false := by simp
      clear hP
      go_wp2_with fail
      go_loopw [8, 9] (fun p _ wr => ∃ p' : Nat, P ≤ p' ∧ p' ≤ g ∧ p = .int .i64 p' ∧ Below W.heap.size W wr) (fun p _ _ => g + 1 - (intOf p).toNat)
      case atStart => exact ⟨P, Nat.le_refl _, hg1, rfl, Below.refl _ _⟩
      case round =>
        obtain ⟨p', hp1, hp2, rfl, hb2⟩ := hrel
        have HB := Lib.hid hb2
        have hlt2 : decide ((p' : Int) < 2 * (P : Int)) = true := by simp; omega
        clear hb2
        by_cases hpg : p' < g
        · have HF := Lib.hid (show fldB 2 (k' : Int) (p' : Int) = false from HL.out p' hp1 hpg)
          go_wp2_with fail
          refine (isField_two _ _ _).mono ?_
          rw [HF.out]
          rintro e w2 ⟨rfl, hb3⟩
          have HB2 := Lib.hid (bt0 HB.out (bt1 hb3) (Nat.le_refl _))
          clear hb3
          go_wp2_with fail
          exact ⟨⟨p' + 1, by omega, by omega, by go_num, HB2.out⟩, by simp [intOf]; omega⟩
        · obtain rfl : p' = g := by omega
          go_wp2_with fail
          refine (isField_two _ _ _).mono ?_
          rw [HT.out]
          rintro e w2 ⟨rfl, hb3⟩
          obtain ⟨hx, hf⟩ := heap_cellR (blkK hb3 (push_at wr (.cells #[.int .i64 2, .int .i64 k', .int .i64 p'] 121 (0, 0))))
          have HB2 := Lib.hid (bt0 HB.out (bt1 hb3) (Nat.le_refl _))
          obtain ⟨hr0, hf0⟩ := heap_cellR (blk HB2.out HR.out hlt0)
          clear hb3 hr
          go_wp2_with fail
          refine bodyPost_ret (v := .tuple #[.agg #[.int .i64 2, .int .i64 k', .int .i64 p'], .int .i64 0]) (by simp [results, Tryz.results191, go_sem, hr0]) rfl ⟨rfl, ?_⟩
          iterate 3 (refine Below.setCell ?_ (by dsimp only; omega) _)
          exact HB0.out.trans (HB2.out.mono HB0.out.size)

set_option maxRecDepth 100000 in
theorem least5 : Least 5 37 := by
  refine ⟨by decide, by decide, by decide, by decide, by decide +kernel, fun p h1 h2 => ?_⟩
  have h3 : p = 32 ∨ p = 33 ∨ p = 34 ∨ p = 35 ∨ p = 36 := by omega
  rcases h3 with rfl | rfl | rfl | rfl | rfl <;> decide +kernel
theorem fieldOf_32 (w : World) :
    Calls Tryz.prog 191 #[.int .i64 32] w fun e w' => e = .returned (.tuple #[.agg #[.int .i64 2, .int .i64 5, .int .i64 37], .int .i64 0]) ∧ Below w.heap.size w w' := fieldOf_any 32 5 37 rfl least5 w

/-- a list holds a number -/
def hasI (xs : List Int) (n : Int) : Bool := xs.contains n
theorem hasI_no {xs : List Int} {n : Int} (h : ∀ i, i < xs.length → xs.getD i 0 ≠ n) : hasI xs n = false := by
  rw [hasI, Bool.eq_false_iff]
  intro hc
  rw [List.contains_iff_mem] at hc
  obtain ⟨i, hi, e⟩ := List.mem_iff_getElem.1 hc
  exact h i hi (by rw [getD_of (List.getElem?_eq_getElem hi), e])
theorem hasI_yes {xs : List Int} {n : Int} {k : Nat} (h : xs[k]? = some n) : hasI xs n = true := by
  rw [hasI, List.contains_iff_mem]
  exact List.mem_of_getElem? h
set_option maxHeartbeats 400000 in
theorem hasLevel_any (nm : ByteArray) (kd p k g : Int) (a1 : Option Addr) (szs : List Int) (c1 : Nat) (cl : Int) (a2 : Option Addr) (lvs : List Int) (c2 : Nat) (n : Int) (w : World) (lx : lvs.length ≤ 1099511627776) :
    Calls Tryz.prog 180 #[(.agg #[.string nm, .int .i64 kd, .int .i64 p, .int .i64 k, .int .i64 g, .slice a1 szs.length c1, .int .i64 cl, .slice a2 lvs.length c2]), .int .i64 n] w fun e w' => e = .returned (.bool (inB n 0 ((lvs.length : Int) - 1))) ∧ Below w.heap.size w w' := by
  go_enter Tryz.func180, Tryz.ntmps180
  go_wp2_with fail
  refine (inRange_any _ _ _ _).mono ?_
  rintro e w' ⟨rfl, rfl⟩
  go_wp2_with fail
  go_ret
  exact ⟨rfl, ba1 _ _⟩

end Go.Proofs.YtlcglclojlffgaaGreatDoor
namespace Go.Proofs.YtlcglclojlffgaaGreatDoor
open Go.RowKit

theorem all_msz_no {l : List Int} {k : Nat} {x : Int} (h : l[k]? = some x) (hx : msz x = false) : l.all msz = false := by
  rw [List.all_eq_false]; exact ⟨x, List.mem_of_getElem? h, by rw [hx]; decide⟩
theorem all_msz_snoc {l : List Int} {k : Nat} {x : Int} (h : l[k]? = some x) (h1 : (l.take k).all msz = true) (hx : msz x = true) : (l.take (k + 1)).all msz = true := by
  rw [take_snoc' h, List.all_append, h1]; simp [hx]
set_option maxRecDepth 100000 in
set_option maxHeartbeats 4000000 in
theorem isFamily_any (nm : ByteArray) (kd p k g : Int) (a1 : Option Addr) (szs : List Int) (c1 : Nat) (cl : Int) (a2 : Option Addr) (lvs : List Int) (c2 : Nat) (w : World) (h1 : IntsAt w a1 szs) (h2 : IntsAt w a2 lvs) (l1 : szs.length ≤ 1048576) (l2 : lvs.length ≤ 1048576) (ln : nm.size ≤ 1048576) (hw : ∀ x ∈ szs, -9223372036854775808 ≤ x ∧ x ≤ 9223372036854775807) :
    Calls Tryz.prog 179 #[(.agg #[.string nm, .int .i64 kd, .int .i64 p, .int .i64 k, .int .i64 g, .slice a1 szs.length c1, .int .i64 cl, .slice a2 lvs.length c2])] w fun e w' => e = .returned (.bool (Fam.ok ⟨nm, kd, p, k, g, szs, cl, lvs⟩)) ∧ Below w.heap.size w w' := by
  have H1 := Lib.hid h1
  have H2 := Lib.hid h2
  have HW := Lib.hid hw
  clear h1 h2 hw
  have hsl : inB (szs.length : Int) 1 8 = (decide (1 ≤ szs.length) && decide (szs.length ≤ 8)) := by rw [Bool.eq_iff_iff]; simp [inB]; omega
  have hll : inB (lvs.length : Int) 1 4 = (decide (1 ≤ lvs.length) && decide (lvs.length ≤ 4)) := by rw [Bool.eq_iff_iff]; simp [inB]; omega
  obtain ⟨ok, hok⟩ : ∃ ok, ok = Fam.ok ⟨nm, kd, p, k, g, szs, cl, lvs⟩ := ⟨_, rfl⟩
  rw [← hok]
  have HOK := Lib.hid (show ok = (nameB nm.data.toList && inB (lvs.length : Int) 1 4 && risB 1 80 lvs && inB (szs.length : Int) 1 8 && if kd = 1 then szs.all msz && fldB p k g && decide (cl = 0) && risB 17 41 szs else if kd = 2 then decide (p = 2) && decide (k = 5) && decide (g = 37) && decide (1 ≤ cl) && decide (cl ≤ 8) && risB 3 24 szs else false) by
    rw [hok, hsl, hll]; simp only [Fam.ok, Bool.and_assoc])
  clear hsl hll hok
  rcases Bool.eq_false_or_eq_true (nameB nm.data.toList) with n1 | n1
  · rcases Bool.eq_false_or_eq_true (inB (szs.length : Int) 1 8) with n2 | n2
    · rcases Bool.eq_false_or_eq_true (inB (lvs.length : Int) 1 4) with n3 | n3
      · rcases Bool.eq_false_or_eq_true (risB 1 80 lvs) with n4 | n4
        · by_cases k1 : kd = 1
          · subst k1
            have HOK2 := Lib.hid (show ok = (szs.all msz && fldB p k g && decide (cl = 0) && risB 17 41 szs) by rw [HOK.out, n1, n2, n3, n4, if_pos rfl]; rfl)
            go_enter Tryz.func179, Tryz.ntmps179
            go_wp2_with fail
            refine (isName_any nm _ ln).mono ?_
            rw [n1]
            rintro e w' ⟨rfl, rfl⟩
            go_wp2_with fail
            refine (inRange_any _ _ _ _).mono ?_
            rw [n2]
            rintro e w' ⟨rfl, rfl⟩
            go_wp2_with fail
            refine (inRange_any _ _ _ _).mono ?_
            rw [n3]
            rintro e w' ⟨rfl, rfl⟩
            go_wp2_with fail
            refine (rises_any 1 80 a2 lvs c2 _ (H2.out.below (ba1 _ _)) (by omega)).mono ?_
            rw [n4]
            rintro e w' ⟨rfl, rfl⟩
            go_wp2_with fail
            go_loop [4, 38] (fun _ i => ∃ j : Nat, j ≤ szs.length ∧ i = .int .i64 j ∧ (szs.take j).all msz = true) (fun _ i => szs.length - (intOf i).toNat)
            case atStart => exact ⟨0, Nat.zero_le _, rfl, rfl⟩
            case round =>
              obtain ⟨j, hj, rfl, hall⟩ := hrel
              have HA := Lib.hid hall
              clear hall
              by_cases hlt : j < szs.length
              · obtain ⟨b1, o1, x, rfl, hxk, hb1, hc1⟩ := (H1.out.below (ba1 w (.cells #[.string nm, .int .i64 1, .int .i64 p, .int .i64 k, .int .i64 g, .slice a1 szs.length c1, .int .i64 cl, .slice a2 lvs.length c2] 123 (0, 0)))).at hlt
                have hji : (j : Int) < (szs.length : Int) := by omega
                have HXK := Lib.hid hxk
                have hxr := HW.out x (List.mem_of_getElem? hxk)
                clear hxk
                rcases Bool.eq_false_or_eq_true (msz x) with hm | hm
                · go_wp2_with fail
                  refine (isMsz_any x _ hxr.1 hxr.2).mono ?_
                  rw [hm]
                  rintro e w' ⟨rfl, rfl⟩
                  go_wp2_with fail
                  exact ⟨⟨j + 1, by omega, by go_num, all_msz_snoc HXK.out HA.out hm⟩, by simp [intOf]; omega⟩
                · have HOK3 := Lib.hid (show ok = false by rw [HOK2.out, all_msz_no HXK.out hm]; simp)
                  go_wp2_with fail
                  refine (isMsz_any x _ hxr.1 hxr.2).mono ?_
                  rw [hm]
                  rintro e w' ⟨rfl, rfl⟩
                  go_wp2_with fail
                  go_ret
                  exact ⟨ret_bool HOK3.out.symm, ba1 _ _⟩
              · have hji : ¬ (j : Int) < (szs.length : Int) := by omega
                have HAll : Hid (szs.all msz = true) := Lib.hid (by have := HA.out; rwa [List.take_of_length_le (by omega)] at this)
                by_cases p2 : p = 2
                · subst p2
                  rcases Bool.eq_false_or_eq_true (fldB 2 k g) with f1 | f1
                  · by_cases c0 : cl = 0
                    · subst c0
                      have HOK3 := Lib.hid (show ok = risB 17 41 szs by rw [HOK2.out, HAll.out, f1]; simp)
                      go_wp2_with fail
                      refine (isField_two k g _).mono ?_
                      rw [f1]
                      rintro e w2 ⟨rfl, hb2⟩
                      have hbox := box1 hb2
                      have hz : w.heap.size < w2.heap.size := by have := hb2.size; simp at this; omega
                      have HB2 := Lib.hid (bt1 hb2)
                      clear hb2
                      go_wp2_with fail
                      refine (rises_any 17 41 a1 szs c1 _ (H1.out.below HB2.out) (by omega)).mono ?_
                      rintro e w' ⟨rfl, rfl⟩
                      go_wp2_with fail
                      go_ret
                      exact ⟨ret_bool HOK3.out.symm, HB2.out⟩
                    · have c0' : (cl == 0) = false := by rw [beq_eq_false_iff_ne]; exact c0
                      have HOK3 := Lib.hid (show ok = false by rw [HOK2.out, decide_eq_false c0]; simp)
                      clear c0
                      go_wp2_with fail
                      refine (isField_two k g _).mono ?_
                      rw [f1]
                      rintro e w2 ⟨rfl, hb2⟩
                      have hbox := box1 hb2
                      have hz : w.heap.size < w2.heap.size := by have := hb2.size; simp at this; omega
                      have HB2 := Lib.hid (bt1 hb2)
                      clear hb2
                      go_wp2_with fail
                      go_ret
                      exact ⟨ret_bool HOK3.out.symm, HB2.out⟩
                  · have HOK3 := Lib.hid (show ok = false by rw [HOK2.out, f1]; simp)
                    go_wp2_with fail
                    refine (isField_two k g _).mono ?_
                    rw [f1]
                    rintro e w2 ⟨rfl, hb2⟩
                    have hbox := box1 hb2
                    have hz : w.heap.size < w2.heap.size := by have := hb2.size; simp at this; omega
                    have HB2 := Lib.hid (bt1 hb2)
                    clear hb2
                    go_wp2_with fail
                    go_ret
                    exact ⟨ret_bool HOK3.out.symm, HB2.out⟩
                · have p2' : (p == 2) = false := by rw [beq_eq_false_iff_ne]; exact p2
                  have HOK3 := Lib.hid (show ok = false by rw [HOK2.out, fldB, decide_eq_false p2]; simp)
                  clear p2
                  go_wp2_with fail
                  go_ret
                  exact ⟨ret_bool HOK3.out.symm, ba1 _ _⟩
          · have k1' : (kd == 1) = false := by rw [beq_eq_false_iff_ne]; exact k1
            by_cases k2 : kd = 2
            · subst k2
              have HOK2 := Lib.hid (show ok = (decide (p = 2) && decide (k = 5) && decide (g = 37) && decide (1 ≤ cl) && decide (cl ≤ 8) && risB 3 24 szs) by rw [HOK.out, n1, n2, n3, n4, if_neg (by decide), if_pos rfl]; rfl)
              clear k1 HOK
              by_cases e1 : p = 2
              · subst e1
                by_cases e2 : k = 5
                · subst e2
                  by_cases e3 : g = 37
                  · subst e3
                    rcases Bool.eq_false_or_eq_true (inB cl 1 8) with e4 | e4
                    · have hcl := inB_iff.1 e4
                      have HOK3 := Lib.hid (show ok = risB 3 24 szs by rw [HOK2.out, decide_eq_true hcl.1, decide_eq_true hcl.2]; simp)
                      go_enter Tryz.func179, Tryz.ntmps179
                      go_wp2_with fail
                      refine (isName_any nm _ ln).mono ?_
                      rw [n1]
                      rintro e w' ⟨rfl, rfl⟩
                      go_wp2_with fail
                      refine (inRange_any _ _ _ _).mono ?_
                      rw [n2]
                      rintro e w' ⟨rfl, rfl⟩
                      go_wp2_with fail
                      refine (inRange_any _ _ _ _).mono ?_
                      rw [n3]
                      rintro e w' ⟨rfl, rfl⟩
                      go_wp2_with fail
                      refine (rises_any 1 80 a2 lvs c2 _ (H2.out.below (ba1 _ _)) (by omega)).mono ?_
                      rw [n4]
                      rintro e w' ⟨rfl, rfl⟩
                      go_wp2_with fail
                      refine (fieldOf_32 _).mono ?_
                      rintro e w2 ⟨rfl, hb2⟩
                      have hbox := box1 hb2
                      have hz : w.heap.size < w2.heap.size := by have := hb2.size; simp at this; omega
                      have HB2 := Lib.hid (bt1 hb2)
                      clear hb2
                      go_wp2_with fail
                      refine (inRange_any _ _ _ _).mono ?_
                      rw [e4]
                      rintro e w' ⟨rfl, rfl⟩
                      go_wp2_with fail
                      refine (rises_any 3 24 a1 szs c1 _ (H1.out.below (bt0 HB2.out (ba1 _ _) (Nat.le_refl _))) (by omega)).mono ?_
                      rintro e w' ⟨rfl, rfl⟩
                      go_wp2_with fail
                      go_ret
                      exact ⟨ret_bool HOK3.out.symm, bt0 HB2.out (ba1 _ _) (Nat.le_refl _)⟩
                    · have hcl := inB_not.1 e4
                      have HOK3 := Lib.hid (show ok = false by rw [HOK2.out]; rcases hcl with h | h <;> simp <;> omega)
                      go_enter Tryz.func179, Tryz.ntmps179
                      go_wp2_with fail
                      refine (isName_any nm _ ln).mono ?_
                      rw [n1]
                      rintro e w' ⟨rfl, rfl⟩
                      go_wp2_with fail
                      refine (inRange_any _ _ _ _).mono ?_
                      rw [n2]
                      rintro e w' ⟨rfl, rfl⟩
                      go_wp2_with fail
                      refine (inRange_any _ _ _ _).mono ?_
                      rw [n3]
                      rintro e w' ⟨rfl, rfl⟩
                      go_wp2_with fail
                      refine (rises_any 1 80 a2 lvs c2 _ (H2.out.below (ba1 _ _)) (by omega)).mono ?_
                      rw [n4]
                      rintro e w' ⟨rfl, rfl⟩
                      go_wp2_with fail
                      refine (fieldOf_32 _).mono ?_
                      rintro e w2 ⟨rfl, hb2⟩
                      have hbox := box1 hb2
                      have hz : w.heap.size < w2.heap.size := by have := hb2.size; simp at this; omega
                      have HB2 := Lib.hid (bt1 hb2)
                      clear hb2
                      go_wp2_with fail
                      refine (inRange_any _ _ _ _).mono ?_
                      rw [e4]
                      rintro e w' ⟨rfl, rfl⟩
                      go_wp2_with fail
                      go_ret
                      exact ⟨ret_bool HOK3.out.symm, bt0 HB2.out (ba1 _ _) (Nat.le_refl _)⟩
                  · have HOK3 := Lib.hid (show ok = false by rw [HOK2.out, decide_eq_false e3]; simp)
                    go_enter Tryz.func179, Tryz.ntmps179
                    go_wp2_with fail
                    refine (isName_any nm _ ln).mono ?_
                    rw [n1]
                    rintro e w' ⟨rfl, rfl⟩
                    go_wp2_with fail
                    refine (inRange_any _ _ _ _).mono ?_
                    rw [n2]
                    rintro e w' ⟨rfl, rfl⟩
                    go_wp2_with fail
                    refine (inRange_any _ _ _ _).mono ?_
                    rw [n3]
                    rintro e w' ⟨rfl, rfl⟩
                    go_wp2_with fail
                    refine (rises_any 1 80 a2 lvs c2 _ (H2.out.below (ba1 _ _)) (by omega)).mono ?_
                    rw [n4]
                    rintro e w' ⟨rfl, rfl⟩
                    go_wp2_with fail
                    refine (fieldOf_32 _).mono ?_
                    rintro e w2 ⟨rfl, hb2⟩
                    have hbox := box1 hb2
                    have hz : w.heap.size < w2.heap.size := by have := hb2.size; simp at this; omega
                    have HB2 := Lib.hid (bt1 hb2)
                    clear hb2
                    go_wp2_with fail
                    go_ret
                    exact ⟨ret_bool HOK3.out.symm, bt0 HB2.out (ba1 _ _) (Nat.le_refl _)⟩
                · have HOK3 := Lib.hid (show ok = false by rw [HOK2.out, decide_eq_false e2]; simp)
                  go_enter Tryz.func179, Tryz.ntmps179
                  go_wp2_with fail
                  refine (isName_any nm _ ln).mono ?_
                  rw [n1]
                  rintro e w' ⟨rfl, rfl⟩
                  go_wp2_with fail
                  refine (inRange_any _ _ _ _).mono ?_
                  rw [n2]
                  rintro e w' ⟨rfl, rfl⟩
                  go_wp2_with fail
                  refine (inRange_any _ _ _ _).mono ?_
                  rw [n3]
                  rintro e w' ⟨rfl, rfl⟩
                  go_wp2_with fail
                  refine (rises_any 1 80 a2 lvs c2 _ (H2.out.below (ba1 _ _)) (by omega)).mono ?_
                  rw [n4]
                  rintro e w' ⟨rfl, rfl⟩
                  go_wp2_with fail
                  refine (fieldOf_32 _).mono ?_
                  rintro e w2 ⟨rfl, hb2⟩
                  have hbox := box1 hb2
                  have hz : w.heap.size < w2.heap.size := by have := hb2.size; simp at this; omega
                  have HB2 := Lib.hid (bt1 hb2)
                  clear hb2
                  go_wp2_with fail
                  go_ret
                  exact ⟨ret_bool HOK3.out.symm, bt0 HB2.out (ba1 _ _) (Nat.le_refl _)⟩
              · have HOK3 := Lib.hid (show ok = false by rw [HOK2.out, decide_eq_false e1]; simp)
                go_enter Tryz.func179, Tryz.ntmps179
                go_wp2_with fail
                refine (isName_any nm _ ln).mono ?_
                rw [n1]
                rintro e w' ⟨rfl, rfl⟩
                go_wp2_with fail
                refine (inRange_any _ _ _ _).mono ?_
                rw [n2]
                rintro e w' ⟨rfl, rfl⟩
                go_wp2_with fail
                refine (inRange_any _ _ _ _).mono ?_
                rw [n3]
                rintro e w' ⟨rfl, rfl⟩
                go_wp2_with fail
                refine (rises_any 1 80 a2 lvs c2 _ (H2.out.below (ba1 _ _)) (by omega)).mono ?_
                rw [n4]
                rintro e w' ⟨rfl, rfl⟩
                go_wp2_with fail
                refine (fieldOf_32 _).mono ?_
                rintro e w2 ⟨rfl, hb2⟩
                have hbox := box1 hb2
                have hz : w.heap.size < w2.heap.size := by have := hb2.size; simp at this; omega
                have HB2 := Lib.hid (bt1 hb2)
                clear hb2
                go_wp2_with fail
                go_ret
                exact ⟨ret_bool HOK3.out.symm, bt0 HB2.out (ba1 _ _) (Nat.le_refl _)⟩
            · have k2' : (kd == 2) = false := by rw [beq_eq_false_iff_ne]; exact k2
              have HOK2 := Lib.hid (show ok = false by rw [HOK.out, n1, n2, n3, n4, if_neg k1, if_neg k2]; rfl)
              clear k1 k2
              go_enter Tryz.func179, Tryz.ntmps179
              go_wp2_with fail
              refine (isName_any nm _ ln).mono ?_
              rw [n1]
              rintro e w' ⟨rfl, rfl⟩
              go_wp2_with fail
              refine (inRange_any _ _ _ _).mono ?_
              rw [n2]
              rintro e w' ⟨rfl, rfl⟩
              go_wp2_with fail
              refine (inRange_any _ _ _ _).mono ?_
              rw [n3]
              rintro e w' ⟨rfl, rfl⟩
              go_wp2_with fail
              refine (rises_any 1 80 a2 lvs c2 _ (H2.out.below (ba1 _ _)) (by omega)).mono ?_
              rw [n4]
              rintro e w' ⟨rfl, rfl⟩
              go_wp2_with fail
              go_ret
              exact ⟨ret_bool HOK2.out.symm, ba1 _ _⟩
        · have HOK2 := Lib.hid (show ok = false by rw [HOK.out, n4]; simp)
          go_enter Tryz.func179, Tryz.ntmps179
          go_wp2_with fail
          refine (isName_any nm _ ln).mono ?_
          rw [n1]
          rintro e w' ⟨rfl, rfl⟩
          go_wp2_with fail
          refine (inRange_any _ _ _ _).mono ?_
          rw [n2]
          rintro e w' ⟨rfl, rfl⟩
          go_wp2_with fail
          refine (inRange_any _ _ _ _).mono ?_
          rw [n3]
          rintro e w' ⟨rfl, rfl⟩
          go_wp2_with fail
          refine (rises_any 1 80 a2 lvs c2 _ (H2.out.below (ba1 _ _)) (by omega)).mono ?_
          rw [n4]
          rintro e w' ⟨rfl, rfl⟩
          go_wp2_with fail
          go_ret
          exact ⟨ret_bool HOK2.out.symm, ba1 _ _⟩
      · have HOK2 := Lib.hid (show ok = false by rw [HOK.out, n3]; simp)
        go_enter Tryz.func179, Tryz.ntmps179
        go_wp2_with fail
        refine (isName_any nm _ ln).mono ?_
        rw [n1]
        rintro e w' ⟨rfl, rfl⟩
        go_wp2_with fail
        refine (inRange_any _ _ _ _).mono ?_
        rw [n2]
        rintro e w' ⟨rfl, rfl⟩
        go_wp2_with fail
        refine (inRange_any _ _ _ _).mono ?_
        rw [n3]
        rintro e w' ⟨rfl, rfl⟩
        go_wp2_with fail
        go_ret
        exact ⟨ret_bool HOK2.out.symm, ba1 _ _⟩
    · have HOK2 := Lib.hid (show ok = false by rw [HOK.out, n2]; simp)
      go_enter Tryz.func179, Tryz.ntmps179
      go_wp2_with fail
      refine (isName_any nm _ ln).mono ?_
      rw [n1]
      rintro e w' ⟨rfl, rfl⟩
      go_wp2_with fail
      refine (inRange_any _ _ _ _).mono ?_
      rw [n2]
      rintro e w' ⟨rfl, rfl⟩
      go_wp2_with fail
      go_ret
      exact ⟨ret_bool HOK2.out.symm, ba1 _ _⟩
  · have HOK2 := Lib.hid (show ok = false by rw [HOK.out, n1]; simp)
    go_enter Tryz.func179, Tryz.ntmps179
    go_wp2_with fail
    refine (isName_any nm _ ln).mono ?_
    rw [n1]
    rintro e w' ⟨rfl, rfl⟩
    go_wp2_with fail
    go_ret
    exact ⟨ret_bool HOK2.out.symm, ba1 _ _⟩

end Go.Proofs.YtlcglclojlffgaaGreatDoor
namespace Go.Proofs.YtlcglclojlffgaaGreatDoor
open Go.RowKit

set_option maxHeartbeats 400000 in
theorem fieldSize_any {p k g : Int} {F : Fd} (h : FV p k g F) (w : World) :
    Calls Tryz.prog 196 #[.agg #[.int .i64 p, .int .i64 k, .int .i64 g]] w fun e w' => e = .returned (.int .i64 F.q) ∧ Below w.heap.size w w' := by
  have H := Lib.hid h
  clear h
  go_enter Tryz.func196, Tryz.ntmps196
  go_wp2_with fail
  refine (calc_fv H.out _).mono ?_
  rintro e w1 ⟨hb1, a1, rfl, ha⟩
  obtain ⟨b, rfl, -, hA⟩ := ha rfl
  have hqc := hA.cell.2.1
  have HB := Lib.hid (bt1 hb1)
  clear hb1 ha hA
  go_wp2_with fail
  go_ret
  exact ⟨rfl, HB.out⟩
set_option maxHeartbeats 400000 in
theorem fieldWidth_any {p k g : Int} {F : Fd} (h : FV p k g F) (w : World) :
    Calls Tryz.prog 209 #[.agg #[.int .i64 p, .int .i64 k, .int .i64 g]] w fun e w' => e = .returned (.int .i64 F.k) ∧ Below w.heap.size w w' := by
  have H := Lib.hid h
  clear h
  go_enter Tryz.func209, Tryz.ntmps209
  go_wp2_with fail
  refine (calc_fv H.out _).mono ?_
  rintro e w1 ⟨hb1, a1, rfl, ha⟩
  obtain ⟨b, rfl, -, hA⟩ := ha rfl
  have HA := Lib.hid hA
  have HB := Lib.hid (bt1 hb1)
  clear hb1 ha hA
  go_wp2_with fail
  refine (width_any F H.out.fd b _ HA.out).mono ?_
  rintro e w2 h2
  obtain ⟨rfl, hb2⟩ := h2.below
  have HB2 := Lib.hid (bt0 HB.out hb2 (Nat.le_refl _))
  clear h2 hb2
  go_wp2_with fail
  go_ret
  exact ⟨rfl, HB2.out⟩

end Go.Proofs.YtlcglclojlffgaaGreatDoor
namespace Go.Proofs.YtlcglclojlffgaaGreatDoor
open Go.RowKit

/-- what a valid family says in numbers -/
theorem fam_ok {nm : ByteArray} {kd p k g : Int} {szs : List Int} {cl : Int} {lvs : List Int} (h : Fam.ok ⟨nm, kd, p, k, g, szs, cl, lvs⟩ = true) :
    fldB p k g = true ∧ (1 ≤ lvs.length ∧ lvs.length ≤ 4) ∧ risB 1 80 lvs = true ∧ (1 ≤ szs.length ∧ szs.length ≤ 8) ∧
      ((kd = 1 ∧ szs.all msz = true ∧ cl = 0) ∨ (kd = 2 ∧ p = 2 ∧ k = 5 ∧ g = 37 ∧ (1 ≤ cl ∧ cl ≤ 8) ∧ risB 3 24 szs = true)) := by
  simp only [Fam.ok, Bool.and_eq_true, decide_eq_true_eq] at h
  obtain ⟨⟨⟨⟨⟨⟨h1, h2⟩, h3⟩, h4⟩, h5⟩, h6⟩, h7⟩ := h
  by_cases k1 : kd = 1
  · rw [if_pos k1] at h7
    simp only [Bool.and_eq_true, decide_eq_true_eq] at h7
    obtain ⟨⟨⟨h8, h9⟩, h10⟩, h11⟩ := h7
    exact ⟨h9, ⟨h2, h3⟩, h4, ⟨h5, h6⟩, .inl ⟨k1, h8, h10⟩⟩
  · rw [if_neg k1] at h7
    by_cases k2 : kd = 2
    · rw [if_pos k2] at h7
      simp only [Bool.and_eq_true, decide_eq_true_eq] at h7
      obtain ⟨⟨⟨⟨⟨h8, h9⟩, h10⟩, h11⟩, h12⟩, h13⟩ := h7
      subst h8 h9 h10
      exact ⟨least5.2.2.2.2.1, ⟨h2, h3⟩, h4, ⟨h5, h6⟩, .inr ⟨k2, rfl, rfl, rfl, ⟨h11, h12⟩, h13⟩⟩
    · rw [if_neg k2] at h7
      cases h7
theorem ris_in {lo hi : Int} {l : List Int} (h : risB lo hi l = true) {x : Int} (hx : x ∈ l) : lo ≤ x ∧ x ≤ hi := by
  rw [risB, decide_eq_true_eq] at h
  obtain ⟨i, hi', rfl⟩ := List.mem_iff_getElem.1 hx
  have h1 := (h i hi').1
  rwa [List.getD_eq_getElem?_getD, List.getElem?_eq_getElem hi'] at h1
theorem hasI_mem {xs : List Int} {n : Int} (h : hasI xs n = true) : n ∈ xs := by simpa [hasI] using h
/-- the number of elements: bounds -/
theorem elems_bd {nm : ByteArray} {kd p k g : Int} {szs : List Int} {cl : Int} {lvs : List Int} {n : Int} (h : Fam.ok ⟨nm, kd, p, k, g, szs, cl, lvs⟩ = true) (hn : hasI szs n = true) :
    3 ≤ Fam.elems ⟨nm, kd, p, k, g, szs, cl, lvs⟩ n ∧ Fam.elems ⟨nm, kd, p, k, g, szs, cl, lvs⟩ n ≤ 1408 := by
  obtain ⟨h1, h2, h3, h4, h5⟩ := fam_ok h
  have hf := fldB_ok h1
  have hk := hf.k
  have hk3 := hf.k3
  have hk8 := hf.k8
  have hm := hasI_mem hn
  unfold Fam.elems
  dsimp only
  rcases h5 with ⟨rfl, h6, h7⟩ | ⟨rfl, -, -, -, h6, h7⟩
  · rw [if_neg (by decide)]
    have hd := dcnt_bd n
    rw [hk]
    obtain ⟨K, hK⟩ : ∃ K, K = (bF k.toNat g.toNat).k := ⟨_, rfl⟩
    rw [← hK] at hk3 hk8 ⊢
    have e : ((dcnt n : Int) / (K : Int)) = ((dcnt n / K : Nat) : Int) := by push_cast; rfl
    rw [e]
    have h8 : 8 * K ≤ dcnt n := by omega
    have h9 : 8 ≤ dcnt n / K := (Nat.le_div_iff_mul_le (by omega)).2 h8
    have h10 := Nat.div_le_self (dcnt n) K
    omega
  · rw [if_pos rfl]
    have h8 := ris_in h7 hm
    have h9 : 3 * 1 ≤ n * cl := Int.mul_le_mul h8.1 h6.1 (by omega) (by omega)
    have h10 : n * cl ≤ 24 * 8 := Int.mul_le_mul h8.2 h6.2 (by omega) (by omega)
    omega

set_option maxRecDepth 100000 in
set_option maxHeartbeats 2000000 in
theorem elements_any (nm : ByteArray) (kd p k g : Int) (a1 : Option Addr) (szs : List Int) (c1 : Nat) (cl : Int) (a2 : Option Addr) (lvs : List Int) (c2 : Nat) (n : Int) (w : World) (h : Fam.ok ⟨nm, kd, p, k, g, szs, cl, lvs⟩ = true) (hn : hasI szs n = true) :
    Calls Tryz.prog 195 #[(.agg #[.string nm, .int .i64 kd, .int .i64 p, .int .i64 k, .int .i64 g, .slice a1 szs.length c1, .int .i64 cl, .slice a2 lvs.length c2]), .int .i64 n] w fun e w' => e = .returned (.int .i64 (Fam.elems ⟨nm, kd, p, k, g, szs, cl, lvs⟩ n)) ∧ Below w.heap.size w w' := by
  have hbd := elems_bd h hn
  obtain ⟨E, hE⟩ : ∃ E, E = Fam.elems ⟨nm, kd, p, k, g, szs, cl, lvs⟩ n := ⟨_, rfl⟩
  rw [← hE] at hbd ⊢
  obtain ⟨h1, h2, h3, h4, h5⟩ := fam_ok h
  have hm := hasI_mem hn
  unfold Fam.elems at hE
  dsimp only at hE
  have HE := Lib.hid hE
  clear hE
  rcases h5 with ⟨rfl, h6, h7⟩ | ⟨rfl, -, -, -, h6, h7⟩
  · have HS := Lib.hid (List.all_eq_true.1 h6 n hm)
    have hb := msz_bd HS.out
    rw [if_neg (by decide)] at HE
    have HF := Lib.hid (fv_of h1)
    have hk := HF.out.ok.k
    have hk3 := HF.out.ok.k3
    have hk8 := HF.out.ok.k8
    obtain ⟨F, hFe⟩ : ∃ F, F = bF k.toNat g.toNat := ⟨_, rfl⟩
    rw [← hFe] at HF hk hk3 hk8
    have HK := Lib.hid hk
    have hd := dcnt_bd n
    obtain ⟨D, hD⟩ : ∃ D, D = dcnt n := ⟨_, rfl⟩
    rw [← hD] at hd HE
    have HD := Lib.hid (show (if msz n = true then (dcnt n : Int) else 0) = (D : Int) by rw [if_pos HS.out, hD])
    obtain ⟨K, hKe⟩ : ∃ K, K = F.k := ⟨_, rfl⟩
    rw [← hKe] at hk3 hk8 HK
    have HKe := Lib.hid hKe
    rw [HK.out] at HE
    have hq : (0 : Int) ≤ (D : Int) / (K : Int) ∧ (D : Int) / (K : Int) ≤ 1408 := by rw [← HE.out]; omega
    have hK0 : ((K : Int) == 0) = false := by rw [beq_eq_false_iff_ne]; omega
    clear h1 h2 h3 h4 h6 h7 hm hk hFe hD hKe
    go_enter Tryz.func195, Tryz.ntmps195
    go_wp2_with fail
    refine wp_region_ext (by kernel_rfl) (by kernel_rfl) ?_
    repeat (go_big_quiet_step ((first
      | ((go_at_call 208; go_must (refine calls_ext _ ((dataCount_any n _ (by omega) (by omega)).mono (R' := fun e w' => e = .returned (.int .i64 (D : Int)) ∧ _) (fun e w' h => ⟨by rw [h.1, HD.out], h.2⟩)))))
      | ((go_at_call 209; go_must (refine calls_ext _ ((fieldWidth_any HF.out _).mono (R' := fun e w' => e = .returned (.int .i64 (K : Int)) ∧ _) (fun e w' h => ⟨by rw [h.1, HKe.out], h.2⟩))))))))
    refine wpQuiet_nil ?_
    rintro _ ⟨s, rfl⟩
    go_wp2_with fail
    go_ret
    exact ⟨ret_int HE.out.symm, bt0 (ba1 _ _) s.below (Nat.le_refl _)⟩
  · rw [if_pos rfl] at HE
    have HW := Lib.hid (show wrap64 (n * cl) = E by rw [← HE.out]; unfold wrap64; omega)
    clear h1 h2 h3 h4 h6 h7 hm
    go_enter Tryz.func195, Tryz.ntmps195
    go_wp2_with fail
    go_ret
    exact ⟨ret_int HW.out, ba1 _ _⟩

end Go.Proofs.YtlcglclojlffgaaGreatDoor
namespace Go.Proofs.YtlcglclojlffgaaGreatDoor
open Go.RowKit

set_option maxRecDepth 100000 in
set_option maxHeartbeats 2000000 in
theorem layout_any (nm : ByteArray) (kd p k g : Int) (a1 : Option Addr) (szs : List Int) (c1 : Nat) (cl : Int) (a2 : Option Addr) (lvs : List Int) (c2 : Nat) (n lev : Int) (w : World) (h : Fam.ok ⟨nm, kd, p, k, g, szs, cl, lvs⟩ = true) (hn : hasI szs n = true) (hl : 0 ≤ lev ∧ lev < lvs.length) (hx : IntsAt w a2 lvs) (L : Lay) (hL : Fam.lay ⟨nm, kd, p, k, g, szs, cl, lvs⟩ n lev = L) :
    Calls Tryz.prog 183 #[(.agg #[.string nm, .int .i64 kd, .int .i64 p, .int .i64 k, .int .i64 g, .slice a1 szs.length c1, .int .i64 cl, .slice a2 lvs.length c2]), .int .i64 n, .int .i64 lev] w fun e w' => e = .returned (.agg #[.int .i64 p, .int .i64 k, .int .i64 g, .int .i64 L.data, .int .i64 L.checks, .int .i64 L.count]) ∧ Below w.heap.size w w' := by
  have hbd := elems_bd h hn
  obtain ⟨E, hE⟩ : ∃ E, E = Fam.elems ⟨nm, kd, p, k, g, szs, cl, lvs⟩ n := ⟨_, rfl⟩
  have HEe := Lib.hid hE
  rw [← hE] at hbd
  obtain ⟨h1, h2, h3, -, -⟩ := fam_ok h
  have HF := Lib.hid (fv_of h1)
  have hq := HF.out.fd.q_bd
  obtain ⟨Q, hQ⟩ : ∃ Q, Q = (bF k.toNat g.toNat).q := ⟨_, rfl⟩
  have HQ := Lib.hid hQ
  rw [← hQ] at hq
  obtain ⟨lv, rfl⟩ := Int.eq_ofNat_of_zero_le hl.1
  have hll : lv < lvs.length := by omega
  have hlvi : (lv : Int) < (lvs.length : Int) := hl.2
  obtain ⟨b1, o1, v, rfl, hv, hlb, hc1⟩ := hx.at hll
  have hvb := ris_in h3 (List.mem_of_getElem? hv)
  have HX := Lib.hid hx
  -- the numbers
  have hm : (if (255 : Int) < (Q : Int) - 1 then 255 else (Q : Int) - 1) = (Q : Int) - 1 := by rw [if_neg (by omega)]
  obtain ⟨C, hC⟩ : ∃ C, (E + ((Q : Int) - 1) - 1) / ((Q : Int) - 1) = C := ⟨_, rfl⟩
  have hCb : 1 ≤ C ∧ C ≤ 1700 := by
    rw [← hC]
    refine ⟨(Int.le_ediv_iff_mul_le (by omega)).2 (by omega), Int.le_trans (Int.ediv_le_self _ (by omega)) (by omega)⟩
  have hTb : 3 * 1 ≤ E * v ∧ E * v ≤ 1408 * 80 := ⟨Int.mul_le_mul hbd.1 hvb.1 (by omega) (by omega), Int.mul_le_mul hbd.2 hvb.2 (by omega) (by omega)⟩
  obtain ⟨T, hT⟩ : ∃ T, E * v = T := ⟨_, rfl⟩
  rw [hT] at hTb
  have hw1 : wrap64 (E * v) = T := by rw [hT]; unfold wrap64; omega
  obtain ⟨X, hX⟩ : ∃ X, T / 100 / C = X := ⟨_, rfl⟩
  have hXb : 0 ≤ X ∧ X ≤ 112640 := by
    rw [← hX]
    refine ⟨Int.ediv_nonneg (by omega) (by omega), Int.le_trans (Int.ediv_le_self _ (by omega)) (by omega)⟩
  obtain ⟨Y, hY⟩ : ∃ Y, (if X < 64 then X else 64) = Y := ⟨_, rfl⟩
  have hYb : 0 ≤ Y ∧ Y ≤ 64 := by rw [← hY]; split <;> omega
  obtain ⟨K, hK⟩ : ∃ K, (if 2 < Y then Y else 2) = K := ⟨_, rfl⟩
  have hKb : 2 ≤ K ∧ K ≤ 64 := by rw [← hK]; split <;> omega
  have hRb : 1 * 2 ≤ C * K ∧ C * K ≤ 1700 * 64 := ⟨Int.mul_le_mul hCb.1 hKb.1 (by omega) (by omega), Int.mul_le_mul hCb.2 hKb.2 (by omega) (by omega)⟩
  obtain ⟨R, hR⟩ : ∃ R, C * K = R := ⟨_, rfl⟩
  rw [hR] at hRb
  have hw2 : wrap64 (C * K) = R := by rw [hR]; unfold wrap64; omega
  have HL := Lib.hid (show L = ⟨E - R, K, C⟩ by
    have e0 : ((2 ^ k.toNat : Nat) : Int) = (Q : Int) := by rw [hQ]; rfl
    have e1 : lvs.getD (((lv : Nat) : Int)).toNat 0 = v := by rw [Int.toNat_natCast, List.getD_eq_getElem?_getD, hv]; rfl
    rw [← hL]
    unfold Fam.lay
    dsimp only
    rw [← hE, e0, e1, if_pos (by omega), hC, hT, hX]
    have e2 : (if X ≤ 64 then X else 64) = Y := by rw [← hY]; split <;> split <;> omega
    rw [e2]
    have e3 : (if 2 ≤ Y then Y else 2) = K := by rw [← hK]; split <;> split <;> omega
    rw [e3, hR])
  rw [HL.out]
  dsimp only
  have HH := Lib.hid h
  have HN := Lib.hid hn
  clear h hn h1 h2 h3 hx hv hQ hE hL hT hR
  go_enter Tryz.func183, Tryz.ntmps183
  go_wp2_with fail
  refine (elements_any nm kd p k g a1 szs c1 cl _ lvs c2 n _ HH.out HN.out).mono ?_
  rintro e w1 ⟨rfl, hb1⟩
  rw [← HEe.out]
  have e2 := heap2 w (.cells #[.string nm, .int .i64 kd, .int .i64 p, .int .i64 k, .int .i64 g, .slice a1 szs.length c1, .int .i64 cl, .slice (some ⟨b1, o1, none⟩) lvs.length c2] 123 (0, 0)) (.cells #[.int .i64 0, .int .i64 0, .int .i64 0, .int .i64 0, .int .i64 0, .int .i64 0] 146 (0, 0))
  have k1 := blkK hb1 e2.1
  have k2 := blkK hb1 e2.2
  have K1 := Lib.hid k1
  have K2 := Lib.hid k2
  obtain ⟨hcA, hfA⟩ := heap_cellR k1
  have HB1 := Lib.hid (bt2 hb1)
  have z1 := blkLt k1
  clear hb1 e2 k1 k2
  go_wp2_with fail
  refine ((fieldSize_any HF.out _).mono (R' := fun e w' => e = .returned (.int .i64 (Q : Int)) ∧ Below w1.heap.size w1 w') (fun e w' h => ⟨by rw [h.1, HQ.out], h.2⟩)).mono ?_
  rintro e w2 ⟨rfl, hb2⟩
  have k1 := blkK hb2 K1.out
  have k2 := blkK hb2 K2.out
  have HB2 := Lib.hid (bt0 HB1.out hb2 (Nat.le_refl _))
  have hc2 := (HB2.out.cell (p := ⟨b1, o1 + lv, none⟩) hlb).trans hc1
  clear hcA hfA hc1
  obtain ⟨hcA, hfA⟩ := heap_cellR k1
  obtain ⟨hcB, hfB⟩ := heap_cellR k2
  have y1 := blkLt k1
  have y2 := blkLt k2
  clear hb2 k1 k2
  go_wp2_with fail
  refine bodyPost_ret (v := .agg #[.int .i64 p, .int .i64 k, .int .i64 g, .int .i64 (E - R), .int .i64 K, .int .i64 C]) (by simp [results, Tryz.results183, go_sem, hcB]) rfl ⟨rfl, ?_⟩
  iterate 6 (refine Below.setCell ?_ (by dsimp only; omega) _)
  exact HB2.out

end Go.Proofs.YtlcglclojlffgaaGreatDoor
namespace Go.Proofs.YtlcglclojlffgaaGreatDoor
open Go.RowKit

/-- the code of a layout; the layout as a value -/
def layC (f : Fam) (n lev : Int) : Int := if f.ok = true then (if hasI f.sizes n = true ∧ inB lev 0 ((f.levels.length : Int) - 1) = true then (if (f.lay n lev).ok ((2 ^ f.fk.toNat : Nat) : Int) = true then 0 else 3) else 2) else 1
def layA (f : Fam) (n lev : Int) : Value := if layC f n lev = 0 then .agg #[.int .i64 f.fp, .int .i64 f.fk, .int .i64 f.fg, .int .i64 (f.lay n lev).data, .int .i64 (f.lay n lev).checks, .int .i64 (f.lay n lev).count] else .agg #[.int .i64 0, .int .i64 0, .int .i64 0, .int .i64 0, .int .i64 0, .int .i64 0]
end Go.Proofs.YtlcglclojlffgaaGreatDoor
namespace Go.Proofs.YtlcglclojlffgaaGreatDoor
open Go.RowKit Go.Conc

/-- a channel with room for n numbers holds l -/
def ChAt (w : World) (b n : Nat) (l : List Int) (cl : Bool) : Prop := ∃ s r, w.heap[b]? = some (.chan n (l.map (Value.int .i64)).toArray cl s r false)
theorem ChAt.lt {w : World} {b n : Nat} {l : List Int} {cl : Bool} (h : ChAt w b n l cl) : b < w.heap.size := by
  obtain ⟨s, r, h⟩ := h
  exact (Array.getElem?_eq_some_iff.1 h).1
theorem ChAt.below {w w' : World} {b n : Nat} {l : List Int} {cl : Bool} (h : ChAt w b n l cl) (hb : Below w.heap.size w w') : ChAt w' b n l cl := by
  have hl := h.lt
  obtain ⟨s, r, h⟩ := h
  exact ⟨s, r, (hb.block b hl).trans h⟩
end Go.Proofs.YtlcglclojlffgaaGreatDoor
namespace Go.Proofs.YtlcglclojlffgaaGreatDoor
open Go.RowKit

/-- a row of the call's own goes on: nothing else has turned -/
structure MoreI (base : Nat) (w : World) (v : Value) (w' : World) (v' : Value) (l' : List Int) : Prop where
  own : OwnI w' base v' l'
  below : Below base w w'
  ob : ∀ b, v'.ownBlock = some b → v.ownBlock = some b ∨ w.heap.size ≤ b
  kept : ∀ b, b < w.heap.size → v.ownBlock ≠ some b → w'.heap[b]? = w.heap[b]?
theorem MoreI.refl {base : Nat} {w : World} {v : Value} {l : List Int} (h : OwnI w base v l) : MoreI base w v w v l := ⟨h, Below.refl _ _, fun _ e => Or.inl e, fun _ _ _ => rfl⟩
theorem MoreI.trans {base : Nat} {w w1 w2 : World} {v v1 v2 : Value} {l1 l2 : List Int} (h : MoreI base w v w1 v1 l1) (k : MoreI base w1 v1 w2 v2 l2) : MoreI base w v w2 v2 l2 := by
  have hs := h.below.size
  refine ⟨k.own, h.below.trans k.below, fun b e => ?_, fun b hb hne => ?_⟩
  · rcases k.ob b e with h1 | h1
    · exact h.ob b h1
    · exact Or.inr (by omega)
  · have h1 : v1.ownBlock ≠ some b := fun e => by
      rcases h.ob b e with h2 | h2
      · exact hne h2
      · omega
    exact (k.kept b (by omega) h1).trans (h.kept b hb hne)
theorem MoreI.grown {base : Nat} {w w1 w2 : World} {v v1 : Value} {l1 : List Int} (h : MoreI base w v w1 v1 l1) (hb : Below w1.heap.size w1 w2) (hB : base ≤ w.heap.size) : MoreI base w v w2 v1 l1 :=
  ⟨h.own.grown hb, bt0 h.below hb hB, h.ob, fun b hlt hne => (hb.block b (Nat.lt_of_lt_of_le hlt h.below.size)).trans (h.kept b hlt hne)⟩
end Go.Proofs.YtlcglclojlffgaaGreatDoor
namespace Go.Proofs.YtlcglclojlffgaaGreatDoor
open Go.RowKit

/-- the characters of a mode, as a string; the bits of its groups -/
def charS (m : Nat) : ByteArray := ⟨(chars m).toArray⟩
def widsM (m : Nat) : List Int := (List.range (grpM m)).map fun i => ((widM m (i + 1) : Nat) : Int)
theorem charS_size (m : Nat) : (charS m).size = (chars m).length := by simp [charS, ByteArray.size]
theorem chars_low (m : Nat) : ∀ c ∈ chars m, c.toNat < 128 := by unfold chars; split <;> decide
theorem chars_le (m : Nat) : (chars m).length ≤ 45 := by unfold chars; split <;> decide
theorem idxC_at : ∀ (l : List UInt8) (x j : Int) (k : Nat), (∀ i c, i < k → l[i]? = some c → (c.toNat : Int) ≠ x) → (∃ c, l[k]? = some c ∧ (c.toNat : Int) = x) → idxC l x j = j + k
  | [], _, _, k, _, ⟨c, hc, _⟩ => by simp at hc
  | c :: l, x, j, 0, _, ⟨d, hd, he⟩ => by
    simp at hd
    subst hd
    rw [idxC, if_pos he]; simp
  | c :: l, x, j, k + 1, h, ⟨d, hd, he⟩ => by
    rw [idxC, if_neg (h 0 c (by omega) rfl), idxC_at l x (j + 1) k (fun i e hi hl => h (i + 1) e (by omega) (by simpa using hl)) ⟨d, by simpa using hd, he⟩]
    push_cast; omega
theorem idxC_none : ∀ (l : List UInt8) (x j : Int), (∀ c ∈ l, (c.toNat : Int) ≠ x) → idxC l x j = -1
  | [], _, _, _ => rfl
  | c :: l, x, j, h => by
    rw [idxC, if_neg (h c (by simp)), idxC_none l x (j + 1) (fun d hd => h d (by simp [hd]))]
/-- the next character -/
theorem next_char {P : Program} (w : World) (m k : Nat) (hk : k < (chars m).length) : ∃ (c : UInt8) (z : Nat), (chars m)[k]? = some c ∧ c.toNat = z ∧ z < 128 ∧ ∀ ty, (Instr.next (.pointer (some ⟨w.heap.size, 0, none⟩)) true ty).run P (w.iter (charS m) k) = .ok (.tuple #[.bool true, .int .i64 k, .int .i32 z]) (w.iter (charS m) (k + 1)) := by
  have hs : k < (charS m).size := by rw [charS_size]; exact hk
  have e : (charS m)[k]'hs = (chars m)[k] := rfl
  refine ⟨(chars m)[k], (chars m)[k].toNat, List.getElem?_eq_getElem hk, rfl, chars_low m _ (List.getElem_mem hk), fun ty => ?_⟩
  have h := run_next_ascii (P := P) w (charS m) k ty hs (by rw [e]; exact chars_low m _ (List.getElem_mem hk))
  rw [e] at h
  exact h
theorem iter_below (w : World) (s : ByteArray) (k : Nat) : Below w.heap.size w (w.iter s k) := ba1 w _

set_option maxRecDepth 100000 in
set_option maxHeartbeats 1000000 in
theorem value_listed (m : Nat) (h1 : 1 ≤ m) (h3 : m ≤ 3) (a : Option Addr) (n c : Nat) (x : Int) (w : World) :
    Calls Tryz.prog 271 #[.agg #[.string (charS m), .slice a n c], .int .i64 x] w fun e w' => e = .returned (.int .i64 (valC m x)) ∧ Below w.heap.size w w' := by
  have HV := Lib.hid (show valC m x = idxC (chars m) x 0 by unfold valC; rw [if_neg (by omega)])
  have hl := chars_le m
  go_enter Tryz.func271, Tryz.ntmps271
  go_wp2_with fail
  obtain ⟨w1, hw1⟩ : ∃ w1, w1 = w.alloc (.cells #[.string (charS m), .slice a n c] 308 (0, 0)) := ⟨_, rfl⟩
  have HB := Lib.hid (show Below w.heap.size w w1 by rw [hw1]; exact ba1 _ _)
  have hsz : w.heap.size + 1 = w1.heap.size := by rw [hw1]; simp
  try rw [← hw1]
  try rw [hsz]
  clear hw1
  go_loopw [5, 6] (fun _ _ wr => ∃ k : Nat, k ≤ (chars m).length ∧ wr = w1.iter (charS m) k ∧ ∀ i c, i < k → (chars m)[i]? = some c → (c.toNat : Int) ≠ x) (fun _ _ wr => (chars m).length - World.iterPos wr w1.heap.size)
  case atStart => exact ⟨0, Nat.zero_le _, rfl, fun i c h => by omega⟩
  case round =>
    obtain ⟨k, hk, rfl, hall⟩ := hrel
    have HA := Lib.hid hall
    clear hall
    by_cases hlt : k < (chars m).length
    · obtain ⟨ch, z, hc, hz, hz8, hnx⟩ := next_char (P := Tryz.prog) w1 m k hlt
      have HC := Lib.hid hc
      have HZ := Lib.hid hz
      clear hc hz
      by_cases hx : (z : Int) = x
      · have hx' : ((z : Int) == x) = true := by rw [beq_iff_eq]; exact hx
        have HX := Lib.hid hx
        clear hx
        go_wp2_with fail
        go_ret
        refine ⟨ret_int ?_, HB.out.trans ((iter_below w1 _ _).mono HB.out.size)⟩
        rw [HV.out, idxC_at _ x 0 k HA.out ⟨ch, HC.out, by rw [HZ.out, HX.out]⟩]; omega
      · have hx' : ((z : Int) == x) = false := by rw [beq_eq_false_iff_ne]; exact hx
        have HX := Lib.hid hx
        clear hx
        go_wp2_with fail
        refine ⟨⟨k + 1, by omega, rfl, fun i c hi he => ?_⟩, ?_⟩
        · by_cases hik : i = k
          · subst hik
            rw [HC.out] at he
            cases he
            rw [HZ.out]; exact HX.out
          · exact HA.out i c (by omega) he
        · simp [World.iterPos, World.iter_heap]; omega
    · have hnx := fun ty => run_next_end (P := Tryz.prog) w1 (charS m) k ty (by rw [charS_size]; omega)
      go_wp2_with fail
      go_ret
      refine ⟨ret_int ?_, HB.out.trans ((iter_below w1 _ _).mono HB.out.size)⟩
      rw [HV.out, idxC_none]
      intro c hc
      obtain ⟨i, hi, rfl⟩ := List.mem_iff_getElem.1 hc
      exact HA.out i _ (by omega) (List.getElem?_eq_getElem hi)

end Go.Proofs.YtlcglclojlffgaaGreatDoor
namespace Go.Proofs.YtlcglclojlffgaaGreatDoor
open Go.RowKit

theorem below_cell {w w' : World} (h : Below w.heap.size w w') {b o : Nat} {v : Value} (hc : w.cell? ⟨b, o, none⟩ = some v) : w'.cell? ⟨b, o, none⟩ = some v := (h.cell (p := ⟨b, o, none⟩) (lt_of_cell hc)).trans hc
theorem grpM_at (m : Nat) (_h1 : 1 ≤ m) (_h3 : m ≤ 3) (g : Nat) (g1 : 1 ≤ g) (g3 : g ≤ grpM m) : (widsM m)[g - 1]? = some ((widM m g : Nat) : Int) := by
  obtain ⟨j, rfl⟩ : ∃ j, g = j + 1 := ⟨g - 1, by omega⟩
  rw [Nat.add_sub_cancel]
  unfold widsM
  rw [List.getElem?_map, List.getElem?_range (by omega)]
  rfl
theorem widsM_len (m : Nat) : (widsM m).length = grpM m := by simp [widsM]
set_option maxRecDepth 100000 in
set_option maxHeartbeats 1000000 in
theorem width_listed (m : Nat) (h1 : 1 ≤ m) (h3 : m ≤ 3) (a : Option Addr) (c : Nat) (g : Nat) (g1 : 1 ≤ g) (g3 : g ≤ grpM m) (w : World) (hx : IntsAt w a (widsM m)) :
    Calls Tryz.prog 272 #[.agg #[.string (charS m), .slice a (grpM m) c], .int .i64 (g : Int)] w fun e w' => e = .returned (.int .i64 (widM m g : Nat)) ∧ Below w.heap.size w w' := by
  obtain ⟨b, o, z, rfl, hz, hb, hc⟩ := hx.at (k := g - 1) (by rw [widsM_len]; omega)
  rw [grpM_at m h1 h3 g g1 g3] at hz
  obtain rfl := Option.some.inj hz
  have hi : (g : Int) - 1 = ((g - 1 : Nat) : Int) := by omega
  have hi2 : ((g - 1 : Nat) : Int) < (grpM m : Int) := by omega
  have hgb := (grpM_bd m).2
  clear hx hz
  go_enter Tryz.func272, Tryz.ntmps272
  go_wp2_with fail
  go_ret
  exact ⟨rfl, ba1 _ _⟩
set_option maxRecDepth 100000 in
theorem group_listed (s : ByteArray) (a : Option Addr) (n c : Nat) (w : World) :
    Calls Tryz.prog 270 #[.agg #[.string s, .slice a n c]] w fun e w' => e = .returned (.int .i64 (n : Int)) ∧ Below w.heap.size w w' := by
  go_enter Tryz.func270, Tryz.ntmps270
  go_wp2_with fail
  go_ret
  exact ⟨rfl, ba1 _ _⟩
set_option maxRecDepth 100000 in
theorem value_plain (x : Int) (w : World) :
    Calls Tryz.prog 276 #[.agg #[], .int .i64 x] w fun e w' => e = .returned (.int .i64 x) ∧ Below w.heap.size w w' := by
  go_enter Tryz.func276, Tryz.ntmps276
  go_wp2_with fail
  go_ret
  exact ⟨rfl, ba1 _ _⟩
set_option maxRecDepth 100000 in
theorem width_plain (x : Int) (w : World) :
    Calls Tryz.prog 277 #[.agg #[], .int .i64 x] w fun e w' => e = .returned (.int .i64 8) ∧ Below w.heap.size w w' := by
  go_enter Tryz.func277, Tryz.ntmps277
  go_wp2_with fail
  go_ret
  exact ⟨rfl, ba1 _ _⟩
set_option maxRecDepth 100000 in
theorem group_plain (w : World) :
    Calls Tryz.prog 275 #[.agg #[]] w fun e w' => e = .returned (.int .i64 1) ∧ Below w.heap.size w w' := by
  go_enter Tryz.func275, Tryz.ntmps275
  go_wp2_with fail
  go_ret
  exact ⟨rfl, ba1 _ _⟩

/-- a method of a value in an interface -/
def Meth (T : TypeId) (r : Value) (name : String) (f : FuncId) : Prop := (∀ n W, (method (n + 1) T r name).run Tryz.prog W = .ok (f, r) W) ∧ (∀ args W, (callFunc f args).run Tryz.prog W = .ok (.enter f args) W) ∧ ∀ n W, (nilAhead (n + 1) T r name).run Tryz.prog W = .ok (some false) W
/-- a mode in an interface: its methods answer as the numbers say, while its block stands -/
structure ModeM (w : World) (m : Nat) (T : TypeId) (r : Value) (fv fg fb fw : FuncId) (bk : Option Nat) : Prop where
  mv : Meth T r "loop.example/g00879/impl.value" fv
  mg : Meth T r "loop.example/g00879/impl.group" fg
  mw : Meth T r "loop.example/g00879/impl.width" fw
  lt : ∀ b, bk = some b → b < w.heap.size
  cv : ∀ x w', Calls Tryz.prog fv #[r, .int .i64 x] w' fun e w'' => e = .returned (.int .i64 (valC m x)) ∧ Below w'.heap.size w' w''
  cg : ∀ w', Calls Tryz.prog fg #[r] w' fun e w'' => e = .returned (.int .i64 (grpM m : Nat)) ∧ Below w'.heap.size w' w''
  cw : ∀ (g : Nat) w', 1 ≤ g → g ≤ grpM m → (∀ b, bk = some b → w'.heap[b]? = w.heap[b]?) → Calls Tryz.prog fw #[r, .int .i64 (g : Int)] w' fun e w'' => e = .returned (.int .i64 (widM m g : Nat)) ∧ Below w'.heap.size w' w''
theorem ModeM.kept {w w1 : World} {m : Nat} {T : TypeId} {r : Value} {fv fg fb fw : FuncId} {bk : Option Nat} (h : ModeM w m T r fv fg fb fw bk) (hs : w.heap.size ≤ w1.heap.size) (hk : ∀ b, bk = some b → w1.heap[b]? = w.heap[b]?) : ModeM w1 m T r fv fg fb fw bk :=
  ⟨h.mv, h.mg, h.mw, fun b e => Nat.lt_of_lt_of_le (h.lt b e) hs, h.cv, h.cg, fun g w' g1 g2 k => h.cw g w' g1 g2 (fun b e => (k b e).trans (hk b e))⟩
theorem ModeM.below {w w1 : World} {m : Nat} {T : TypeId} {r : Value} {fv fg fb fw : FuncId} {bk : Option Nat} (h : ModeM w m T r fv fg fb fw bk) (hb : Below w.heap.size w w1) : ModeM w1 m T r fv fg fb fw bk :=
  h.kept hb.size (fun b e => hb.block b (h.lt b e))
theorem ints_same {w w' : World} {b o : Nat} {zs : List Int} (h : IntsAt w (some ⟨b, o, none⟩) zs) (hk : w'.heap[b]? = w.heap[b]?) : IntsAt w' (some ⟨b, o, none⟩) zs := by
  intro i hi
  obtain ⟨b1, o1, e, hc⟩ := h i hi
  cases e
  exact ⟨b, o, rfl, by rw [← hc]; simp [World.cell?, hk]⟩
theorem mode_listed (m : Nat) (h1 : 1 ≤ m) (h3 : m ≤ 3) (b o c : Nat) (w : World) (hb : b < w.heap.size) (hx : IntsAt w (some ⟨b, o, none⟩) (widsM m)) :
    ModeM w m 308 (.agg #[.string (charS m), .slice (some ⟨b, o, none⟩) (grpM m) c]) 271 270 268 272 (some b) where
  lt := fun b' e => by cases e; exact hb
  mv := ⟨fun n W => by kernel_rfl, fun args W => by kernel_rfl, fun n W => by kernel_rfl⟩
  mg := ⟨fun n W => by kernel_rfl, fun args W => by kernel_rfl, fun n W => by kernel_rfl⟩
  mw := ⟨fun n W => by kernel_rfl, fun args W => by kernel_rfl, fun n W => by kernel_rfl⟩
  cv := fun x w' => value_listed m h1 h3 _ _ c x w'
  cg := fun w' => group_listed _ _ _ c w'
  cw := fun g w' g1 g3 hk => width_listed m h1 h3 _ c g g1 g3 w' (ints_same hx (hk b rfl))
theorem mode_plain (w : World) :
    ModeM w 4 309 (.agg #[]) 276 275 273 277 none where
  lt := fun b' e => by cases e
  mv := ⟨fun n W => by kernel_rfl, fun args W => by kernel_rfl, fun n W => by kernel_rfl⟩
  mg := ⟨fun n W => by kernel_rfl, fun args W => by kernel_rfl, fun n W => by kernel_rfl⟩
  mw := ⟨fun n W => by kernel_rfl, fun args W => by kernel_rfl, fun n W => by kernel_rfl⟩
  cv := fun x w' => value_plain x w'
  cg := fun w' => group_plain w'
  cw := fun g w' _ _ _ => width_plain (g : Int) w'
/-- a mode is handed back -/
def RetMode (m : Nat) (w : World) (e : Ending) (w' : World) : Prop := Below w.heap.size w w' ∧ ∃ T r fv fg fb fw bk, e = .returned (.tuple #[.iface T r, .bool true]) ∧ ModeM w' m T r fv fg fb fw bk ∧ ∀ b, bk = some b → w.heap.size ≤ b
theorem ints_lit2 {w : World} {g : Nat} {cs : Array Value} {t : TypeId} {zs : List Int} (h : w.heap[g]? = some (.cells cs t (0, 0))) (hc : cs = (zs.map (Value.int .i64)).toArray) : IntsAt w (some ⟨g, 0, none⟩) zs := by
  intro i hi
  refine ⟨g, 0, rfl, ?_⟩
  rw [Nat.zero_add, (heap_cellR h).1, hc]
  simp [hi]
set_option maxRecDepth 100000 in
set_option maxHeartbeats 1000000 in
theorem modeOf_any (m : Nat) (h1 : 1 ≤ m) (h4 : m ≤ 4) (w : World) : Calls Tryz.prog 225 #[.int .i64 (m : Int)] w (RetMode m w) := by
  obtain rfl | rfl | rfl | rfl : m = 1 ∨ m = 2 ∨ m = 3 ∨ m = 4 := by omega
  · go_enter Tryz.func225, Tryz.ntmps225
    go_wp2_with fail
    go_ret2
    exact ⟨ba1 _ _, _, _, _, _, _, _, _, rfl, mode_listed 1 (by omega) (by omega) _ _ _ _ (by simp) (ints_lit2 (push_at _ _) rfl), fun b e => by cases e; exact Nat.le_refl _⟩
  · go_enter Tryz.func225, Tryz.ntmps225
    go_wp2_with fail
    go_ret2
    exact ⟨ba1 _ _, _, _, _, _, _, _, _, rfl, mode_listed 2 (by omega) (by omega) _ _ _ _ (by simp) (ints_lit2 (push_at _ _) rfl), fun b e => by cases e; exact Nat.le_refl _⟩
  · go_enter Tryz.func225, Tryz.ntmps225
    go_wp2_with fail
    go_ret2
    exact ⟨ba1 _ _, _, _, _, _, _, _, _, rfl, mode_listed 3 (by omega) (by omega) _ _ _ _ (by simp) (ints_lit2 (push_at _ _) rfl), fun b e => by cases e; exact Nat.le_refl _⟩
  · go_enter Tryz.func225, Tryz.ntmps225
    go_wp2_with fail
    go_ret2
    exact ⟨Below.refl _ _, _, _, _, _, _, _, _, rfl, mode_plain _, fun b e => by cases e⟩

end Go.Proofs.YtlcglclojlffgaaGreatDoor
namespace Go.Proofs.YtlcglclojlffgaaGreatDoor
open Go.RowKit

theorem Meth.at {T : TypeId} {r : Value} {name : String} {f : FuncId} (h : Meth T r name f) (n : Nat) (W : World) (hn : 0 < n) : Sem.run Tryz.prog (method n T r name) W = .ok (f, r) W := by
  obtain ⟨k, rfl⟩ : ∃ k, n = k + 1 := ⟨n - 1, by omega⟩
  exact h.1 k W
theorem invoke_run0 {a : Act} {o : Oper} (k : Nat) (name : String) (tys : Array TypeId) (ho : o.op = .call { callee := .invoke (.tmp k) name, args := #[], argTypes := tys }) (T : TypeId) (r : Value) (f : FuncId) (hx : a.eval (.tmp k) = .iface T r) (hm : Meth T r name f) (w : World) :
    (execOp a.eval o).run Tryz.prog w = .ok (.enter f #[r]) w := by
  simp only [Act.eval] at hx
  simp [go_sem, execOp, ho, hx, Act.eval, hm.at, hm.2.1]
theorem invoke_run1 {a : Act} {o : Oper} (k j : Nat) (name : String) (tys : Array TypeId) (ho : o.op = .call { callee := .invoke (.tmp k) name, args := #[.tmp j], argTypes := tys }) (T : TypeId) (r u : Value) (f : FuncId) (hx : a.eval (.tmp k) = .iface T r) (hu : a.eval (.tmp j) = u) (hm : Meth T r name f) (w : World) :
    (execOp a.eval o).run Tryz.prog w = .ok (.enter f #[r, u]) w := by
  simp only [Act.eval] at hx hu
  simp [go_sem, execOp, ho, hx, hu, Act.eval, hm.at, hm.2.1]
theorem Meth.nil {T : TypeId} {r : Value} {name : String} {f : FuncId} (h : Meth T r name f) (n : Nat) (W : World) (hn : 0 < n) : Sem.run Tryz.prog (nilAhead n T r name) W = .ok (some false) W := by
  obtain ⟨k, rfl⟩ : ∃ k, n = k + 1 := ⟨n - 1, by omega⟩
  exact h.2.2 k W
theorem nilCheck_run {a : Act} {o : Oper} (k : Nat) (name : String) (ho : o.op = .nilCheck (.tmp k)) (T : TypeId) (r : Value) (f : FuncId) (hx : a.eval (.tmp k) = .func (.method name) #[.iface T r] #[]) (hm : Meth T r name f) (w : World) :
    (execOp a.eval o).run Tryz.prog w = .ok (.value (.func (.method name) #[.iface T r] #[])) w := by
  simp only [Act.eval] at hx
  simp [go_sem, execOp, ho, hx, Act.eval, hm.nil]
/-- that a method's receiver is there, in a walk that keeps a class of worlds -/
theorem quiet_nil {ops : Array Oper} {C : World → Prop} {Q : Act → Prop} {a : Act} {o : Oper} {rest : List Oper} (hg : Region.wanted o (yielded ops a.tmps) = true) (k : Nat) (name : String)
    (ho : o.op = .nilCheck (.tmp k)) (T : TypeId) (r : Value) (f : FuncId) (hx : a.eval (.tmp k) = .func (.method name) #[.iface T r] #[]) (hm : Meth T r name f)
    (h : wpQuiet Tryz.prog ops C Q rest (a.put o.dst (.func (.method name) #[.iface T r] #[]))) : wpQuiet Tryz.prog ops C Q (o :: rest) a := by
  refine BigFrame.wpQuiet_want hg (fun K hK => ⟨_, fun w hw => ?_, hK _ h⟩)
  unfold Oper.quietAt
  rw [nilCheck_run k name ho T r f hx hm w]
  exact ⟨rfl, rfl⟩
/-- a call of a method by an interface, in a walk that keeps a class of worlds -/
theorem quiet_invoke0 {ops : Array Oper} {C : World → Prop} {Q : Act → Prop} {a : Act} {o : Oper} {rest : List Oper} (hg : Region.wanted o (yielded ops a.tmps) = true) (k : Nat) (name : String) (tys : Array TypeId)
    (ho : o.op = .call { callee := .invoke (.tmp k) name, args := #[], argTypes := tys }) (T : TypeId) (r : Value) (f : FuncId) (v : Value) (hx : a.eval (.tmp k) = .iface T r) (hm : Meth T r name f)
    (hc : ∀ w, C w → Calls Tryz.prog f #[r] w fun e w' => e = .returned v ∧ C w') (h : wpQuiet Tryz.prog ops C Q rest (a.put o.dst v)) : wpQuiet Tryz.prog ops C Q (o :: rest) a := by
  refine BigFrame.wpQuiet_want hg (fun K hK => ⟨v, fun w hw => ?_, hK _ h⟩)
  unfold Oper.quietAt
  rw [invoke_run0 k name tys ho T r f hx hm w]
  exact ⟨rfl, hc w hw⟩
theorem quiet_invoke1 {ops : Array Oper} {C : World → Prop} {Q : Act → Prop} {a : Act} {o : Oper} {rest : List Oper} (hg : Region.wanted o (yielded ops a.tmps) = true) (k j : Nat) (name : String) (tys : Array TypeId)
    (ho : o.op = .call { callee := .invoke (.tmp k) name, args := #[.tmp j], argTypes := tys }) (T : TypeId) (r u : Value) (f : FuncId) (v : Value) (hx : a.eval (.tmp k) = .iface T r) (hu : a.eval (.tmp j) = u) (hm : Meth T r name f)
    (hc : ∀ w, C w → Calls Tryz.prog f #[r, u] w fun e w' => e = .returned v ∧ C w') (h : wpQuiet Tryz.prog ops C Q rest (a.put o.dst v)) : wpQuiet Tryz.prog ops C Q (o :: rest) a := by
  refine BigFrame.wpQuiet_want hg (fun K hK => ⟨v, fun w hw => ?_, hK _ h⟩)
  unfold Oper.quietAt
  rw [invoke_run1 k j name tys ho T r u f hx hu hm w]
  exact ⟨rfl, hc w hw⟩

end Go.Proofs.YtlcglclojlffgaaGreatDoor
namespace Go.Proofs.YtlcglclojlffgaaGreatDoor
open Go.RowKit

set_option maxRecDepth 100000 in
set_option maxHeartbeats 2000000 in
theorem textWidth_any (m n : Nat) (T : TypeId) (r : Value) (fv fg fb fw : FuncId) (bk : Option Nat) (w : World) (hn : n ≤ 100000) (hM : ModeM w m T r fv fg fb fw bk) :
    Calls Tryz.prog 236 #[.iface T r, .int .i64 (n : Int)] w fun e w' => e = .returned (.int .i64 (txtW m n : Nat)) ∧ Below w.heap.size w w' := by
  obtain ⟨g1, g3⟩ := grpM_bd m
  have HT := Lib.hid (show txtW m n = n / grpM m * widM m (grpM m) + if n % grpM m > 0 then widM m (n % grpM m) else 0 from rfl)
  obtain ⟨G, hG⟩ : ∃ G, G = grpM m := ⟨_, rfl⟩
  have HG := Lib.hid hG
  rw [← hG] at g1 g3 HT
  obtain ⟨Q, hQ⟩ : ∃ Q, Q = n / G := ⟨_, rfl⟩
  obtain ⟨R, hR⟩ : ∃ R, R = n % G := ⟨_, rfl⟩
  have hQb : Q ≤ n := by rw [hQ]; exact Nat.div_le_self _ _
  have hRb : R < G := by rw [hR]; exact Nat.mod_lt _ (by omega)
  have hq : (n : Int) / (G : Int) = (Q : Int) := by rw [hQ]; push_cast; rfl
  have hr : (n : Int) % (G : Int) = (R : Int) := by rw [hR]; push_cast; rfl
  have hW := widM_bd m G g1 g3
  obtain ⟨W, hWe⟩ : ∃ W, W = widM m G := ⟨_, rfl⟩
  rw [← hQ, ← hR, ← hWe] at HT
  rw [← hWe] at hW
  have hP : Q * W ≤ 100000 * 24 := Nat.mul_le_mul (by omega) (by omega)
  obtain ⟨P, hPe⟩ : ∃ P, P = Q * W := ⟨_, rfl⟩
  rw [← hPe] at hP HT
  have hw : wrap64 ((Q : Int) * (W : Int)) = (P : Int) := by
    have : (Q : Int) * (W : Int) = (P : Int) := by rw [hPe]; push_cast; rfl
    rw [this]; unfold wrap64; omega
  have HM := Lib.hid hM
  have hmg := hM.mg.1
  have hmw := hM.mw.1
  have hcg := hM.mg.2.1
  have hcw := hM.mw.2.1
  have HWe := Lib.hid hWe
  clear hQ hR hWe hPe hG hM
  have HCg : Hid (∀ w', Below w.heap.size w w' → Calls Tryz.prog fg #[r] w' fun e w'' => e = .returned (.int .i64 (G : Int)) ∧ Below w'.heap.size w' w'') := Lib.hid (fun w' _ => by rw [HG.out]; exact HM.out.cg w')
  have HCw : Hid (∀ w', Below w.heap.size w w' → Calls Tryz.prog fw #[r, .int .i64 (G : Int)] w' fun e w'' => e = .returned (.int .i64 (W : Int)) ∧ Below w'.heap.size w' w'') := Lib.hid (fun w' hb => by rw [HWe.out]; exact HM.out.cw G w' g1 (by rw [HG.out]; exact Nat.le_refl _) (fun b e => hb.block b (HM.out.lt b e)))
  go_enter Tryz.func236, Tryz.ntmps236
  go_wp2_with fail
  refine wp_region_ext (by kernel_rfl) (by kernel_rfl) ?_
  repeat (first
    | (go_big_quiet_step (fail))
    | (refine quiet_nil rfl 14 "loop.example/g00879/impl.width" rfl T r fw rfl HM.out.mw ?_; simp only [Act.put, List.setIfInBounds_toArray, List.set_cons_zero, List.set_cons_succ])
    | (refine quiet_invoke0 rfl 8 "loop.example/g00879/impl.group" _ rfl T r fg (.int .i64 (G : Int)) rfl HM.out.mg (fun _ ⟨s, hs⟩ => by subst hs; exact calls_ext s (HCg.out _ s.below)) ?_; simp only [Act.put, List.setIfInBounds_toArray, List.set_cons_zero, List.set_cons_succ])
    | (refine quiet_invoke0 rfl 12 "loop.example/g00879/impl.group" _ rfl T r fg (.int .i64 (G : Int)) rfl HM.out.mg (fun _ ⟨s, hs⟩ => by subst hs; exact calls_ext s (HCg.out _ s.below)) ?_; simp only [Act.put, List.setIfInBounds_toArray, List.set_cons_zero, List.set_cons_succ])
    | (refine quiet_invoke1 rfl 16 13 "loop.example/g00879/impl.width" _ rfl T r _ fw (.int .i64 (W : Int)) rfl rfl HM.out.mw (fun _ ⟨s, hs⟩ => by subst hs; exact calls_ext s (HCw.out _ s.below)) ?_; simp only [Act.put, List.setIfInBounds_toArray, List.set_cons_zero, List.set_cons_succ]))
  refine wpQuiet_nil ?_
  rintro _ ⟨s, rfl⟩
  have HS := Lib.hid s.below
  go_wp2_with fail
  refine (HCg.out _ HS.out).mono ?_
  rintro e w2 ⟨rfl, hb2⟩
  have HB2 := Lib.hid (bt0 HS.out hb2 (Nat.le_refl _))
  clear hb2
  by_cases h0 : 0 < R
  · have hRi : (0 : Int) < (R : Int) := by omega
    have HCr := Lib.hid (HM.out.cw R w2 h0 (by rw [← HG.out]; omega) (fun b e => HB2.out.block b (HM.out.lt b e)))
    have hWr := widM_bd m R h0 (by omega)
    obtain ⟨V, hV⟩ : ∃ V, V = widM m R := ⟨_, rfl⟩
    rw [← hV] at HCr hWr HT
    rw [if_pos h0] at HT
    clear hV h0
    go_wp2_with fail
    refine HCr.out.mono ?_
    rintro e w3 ⟨rfl, hb3⟩
    have HB3 := Lib.hid (bt0 HB2.out hb3 (Nat.le_refl _))
    clear hb3
    go_wp2_with fail
    go_ret
    exact ⟨ret_int (by rw [HT.out]; push_cast; rfl), HB3.out⟩
  · obtain rfl : R = 0 := by omega
    rw [if_neg (by omega), Nat.add_zero] at HT
    go_wp2_with fail
    go_ret
    exact ⟨ret_int (by rw [HT.out]), HB2.out⟩
set_option maxRecDepth 100000 in
set_option maxHeartbeats 1000000 in
theorem segmentWidth_any (m n : Nat) (T : TypeId) (r : Value) (fv fg fb fw : FuncId) (bk : Option Nat) (w : World) (hn : n ≤ 100000) (hM : ModeM w m T r fv fg fb fw bk) :
    Calls Tryz.prog 226 #[.iface T r, .int .i64 (n : Int)] w fun e w' => e = .returned (.int .i64 (segW m n : Nat)) ∧ Below w.heap.size w w' := by
  have h1 := txtW_le m n
  have HS := Lib.hid (show segW m n = 11 + txtW m n from rfl)
  have HM := Lib.hid hM
  obtain ⟨V, hV⟩ : ∃ V, V = txtW m n := ⟨_, rfl⟩
  rw [← hV] at h1 HS
  have HV := Lib.hid hV
  clear hM hV
  go_enter Tryz.func226, Tryz.ntmps226
  go_wp2_with fail
  refine (textWidth_any m n T r fv fg fb fw bk _ hn HM.out).mono ?_
  rw [← HV.out]
  rintro e w2 ⟨rfl, hb2⟩
  have HB2 := Lib.hid hb2
  clear hb2
  go_wp2_with fail
  go_ret
  exact ⟨ret_int (by rw [HS.out]; push_cast; rfl), HB2.out⟩

end Go.Proofs.YtlcglclojlffgaaGreatDoor
namespace Go.Proofs.YtlcglclojlffgaaGreatDoor
open Go.RowKit

theorem grownBy_below {w w' : World} (hb : Below w.heap.size w w') (row : Option Nat) : w.grownBy w' row := ⟨hb.os, hb.tape, hb.output, hb.size, fun k hk _ => hb.block k hk⟩
theorem setCell_blk {w : World} {b : Nat} {C : Array Value} {t : TypeId} (h : w.heap[b]? = some (.cells C t (0, 0))) (i : Nat) (v : Value) : (w.setCell ⟨b, i, none⟩ v).heap[b]? = some (.cells (C.setIfInBounds i v) t (0, 0)) := by
  rw [setCell_eq_setRow w b _ C t (0, 0) _ h]
  exact setRow_heap w b _ _ t _ h
theorem wid_zero : Tryz.zeroCells290.size = 1280 := by kernel_rfl
/-- the widths of segments, filled up to mode m, length n -/
structure WidTo (m n : Nat) (C : Array Value) : Prop where
  size : C.size = 1280
  at' : ∀ i j, 1 ≤ i → i ≤ 4 → 1 ≤ j → j ≤ 255 → (i < m ∨ (i = m ∧ j < n)) → C[i * 256 + j]? = some (.int .i64 (segW i j : Nat))
theorem WidTo.step {m n : Nat} {C : Array Value} (h : WidTo m n C) (_hm : 1 ≤ m) (hm4 : m ≤ 4) (hn : n ≤ 255) : WidTo m (n + 1) (C.setIfInBounds (m * 256 + n) (.int .i64 (segW m n : Nat))) := by
  have hs := h.size
  refine ⟨by simp [hs], fun i j h1 h2 h3 h4 h5 => ?_⟩
  by_cases e : i = m ∧ j = n
  · obtain ⟨rfl, rfl⟩ := e
    rw [Array.getElem?_setIfInBounds_self_of_lt (by omega)]
  · rw [Array.getElem?_setIfInBounds_ne (by omega)]
    exact h.at' i j h1 h2 h3 h4 (by omega)
theorem WidTo.next {m : Nat} {C : Array Value} (h : WidTo m 256 C) : WidTo (m + 1) 1 C := ⟨h.size, fun i j h1 h2 h3 h4 h5 => h.at' i j h1 h2 h3 h4 (by omega)⟩
/-- the widths at a block -/
def WidAt (w : World) (b : Nat) : Prop := ∃ C t, w.heap[b]? = some (.cells C t (0, 0)) ∧ WidTo 5 1 C
theorem WidAt.below {w w' : World} {b : Nat} (h : WidAt w b) (hb : Below w.heap.size w w') : WidAt w' b := by
  obtain ⟨C, t, h1, h2⟩ := h
  exact ⟨C, t, blkK hb h1, h2⟩
theorem WidAt.cell {w : World} {b : Nat} (h : WidAt w b) {m n : Nat} (h1 : 1 ≤ m) (h2 : m ≤ 4) (h3 : 1 ≤ n) (h4 : n ≤ 255) : w.cell? ⟨b, m * 256 + n, none⟩ = some (.int .i64 (segW m n : Nat)) ∧ b < w.heap.size := by
  obtain ⟨C, t, k1, k2⟩ := h
  exact ⟨by rw [(heap_cellR k1).1]; exact k2.at' m n h1 h2 h3 h4 (by omega), blkLt k1⟩
set_option maxRecDepth 100000 in
set_option maxHeartbeats 2000000 in
theorem widths_any (w : World) :
    Calls Tryz.prog 217 #[] w fun e w' => e = .returned (.pointer (some ⟨w.heap.size, 0, none⟩)) ∧ WidAt w' w.heap.size ∧ Below w.heap.size w w' := by
  go_enter Tryz.func217, Tryz.ntmps217
  go_wp2_with fail
  go_loopw [2, 3, 4, 5] (fun i _ _ _ wr => ∃ (m : Nat) (C : Array Value), 1 ≤ m ∧ m ≤ 5 ∧ i = .int .i64 m ∧ wr.heap[w.heap.size]? = some (.cells C 290 (0, 0)) ∧ WidTo m 1 C ∧ Below w.heap.size w wr) (fun i _ _ _ _ => 5 - (intOf i).toNat)
  case atStart => exact ⟨1, _, by omega, by omega, rfl, push_at _ _, ⟨wid_zero, fun i j h1 h2 h3 h4 h5 => by omega⟩, ba1 _ _⟩
  case round =>
    obtain ⟨m, C, hm1, hm5, rfl, hC, hW, hb⟩ := hrel
    have HC := Lib.hid hC
    have HW := Lib.hid hW
    have HB := Lib.hid hb
    clear hC hW hb
    by_cases hlt : m ≤ 4
    · have hdec : decide ((m : Int) ≤ 4) = true := by simp; omega
      go_wp2_with fail
      refine (modeOf_any m hm1 hlt _).mono ?_
      rintro e w2 ⟨hb2, T, r, fv, fg, fb, fw, bk, rfl, hM, hbk⟩
      have HM := Lib.hid hM
      have HC2 := Lib.hid (blkK hb2 HC.out)
      have HB2 := Lib.hid (bt0 HB.out hb2 (Nat.le_refl _))
      have HBK := Lib.hid (fun b (e : bk = some b) => Nat.lt_of_lt_of_le (blkLt HC.out) (hbk b e))
      clear hb2 hM hbk
      go_wp2_with fail
      go_loopw [5] (fun j wr => ∃ (n : Nat) (C : Array Value), 1 ≤ n ∧ n ≤ 256 ∧ j = .int .i64 n ∧ wr.heap[w.heap.size]? = some (.cells C 290 (0, 0)) ∧ WidTo m n C ∧ Below w.heap.size w wr ∧ w2.grownBy wr (some w.heap.size)) (fun j _ => 256 - (intOf j).toNat)
      case atStart => exact ⟨1, _, by omega, by omega, rfl, HC2.out, HW.out, HB2.out, grownBy_refl _ _⟩
      case round =>
        obtain ⟨n, C', hn1, hn2, rfl, hC, hW, hb, hk⟩ := hrel
        have HC3 := Lib.hid hC
        have HW3 := Lib.hid hW
        have HB3 := Lib.hid hb
        have HK3 := Lib.hid hk
        have hlb := blkLt hC
        clear hC hW hb hk
        by_cases hln : n ≤ 255
        · have hdec : decide ((n : Int) ≤ 255) = true := by simp; omega
          have hsz : C'.size = 1280 := HW3.out.size
          obtain ⟨hcc, hff⟩ := heap_cellR HC3.out
          obtain ⟨v0, hv0⟩ : ∃ v, wr.cell? ⟨w.heap.size, m * 256 + n, none⟩ = some v := ⟨_, by rw [hcc]; exact Array.getElem?_eq_getElem (by omega)⟩
          have HM3 := Lib.hid (HM.out.kept HK3.out.size (fun b e => HK3.out.block b (HM.out.lt b e) (fun h => by cases h; exact absurd (HBK.out _ e) (Nat.lt_irrefl _))))
          go_wp2_with fail
          refine wp_region_ext_tail 9 (by kernel_rfl) (by kernel_rfl) ?_
          simp only [List.take_succ_cons, List.take_zero, List.drop_succ_cons, List.drop_zero]
          repeat (go_big_quiet_step ((go_at_call 226; go_must (exact calls_ext _ (segmentWidth_any m n T r fv fg fb fw bk _ (by omega) (HM3.out.below (Ext.below _)))))))
          refine wpQuiet_nil ?_
          rintro _ ⟨s, rfl⟩
          have hv1 := below_cell s.below hv0
          have hf1 := (s.below.frozen (p := ⟨w.heap.size, m * 256 + n, none⟩) hlb).trans (hff _)
          have HC4 := Lib.hid (blkK s.below HC3.out)
          clear hcc hff hv0
          go_wp2_with fail
          refine ⟨⟨n + 1, _, by omega, by omega, by go_num, ?_, HW3.out.step hm1 hlt hln, ?_, ?_⟩, by simp [intOf]; omega⟩
          · exact setCell_blk HC4.out _ _
          · exact (bt0 HB3.out s.below (Nat.le_refl _)).setCell (Nat.le_refl _) _
          · exact grownBy_trans (grownBy_trans HK3.out (grownBy_below s.below _)) (grownBy_set _ _ _ _)
        · have hdec : decide ((n : Int) ≤ 255) = false := by simp; omega
          obtain rfl : n = 256 := by omega
          go_wp2_with fail
          exact ⟨⟨m + 1, C', by omega, by omega, by go_num, HC3.out, HW3.out.next, HB3.out⟩, by simp [intOf]; omega⟩
    · have hdec : decide ((m : Int) ≤ 4) = false := by simp; omega
      obtain rfl : m = 5 := by omega
      go_wp2_with fail
      go_ret
      exact ⟨rfl, ⟨C, _, HC.out, HW.out⟩, HB.out⟩

end Go.Proofs.YtlcglclojlffgaaGreatDoor
namespace Go.Proofs.YtlcglclojlffgaaGreatDoor
open Go.RowKit Go.Conc

theorem ChAt.low {B : Nat} {w w' : World} {b n : Nat} {l : List Int} {cl : Bool} (h : ChAt w b n l cl) (hb : Below B w w') (hlt : b < B) : ChAt w' b n l cl := by
  obtain ⟨s, r, h⟩ := h
  exact ⟨s, r, (hb.block b hlt).trans h⟩
end Go.Proofs.YtlcglclojlffgaaGreatDoor
namespace Go.Proofs.YtlcglclojlffgaaGreatDoor
open Go.RowKit

/-- how many bytes in a row each mode has had, in an array -/
def RchAt (w : World) (b : Nat) (f : Nat → Nat) : Prop := ∃ C t, w.heap[b]? = some (.cells C t (0, 0)) ∧ C.size = 5 ∧ ∀ i, 1 ≤ i → i ≤ 4 → C[i]? = some (.int .i64 (f i : Nat))
theorem RchAt.kept {w w' : World} {b : Nat} {f : Nat → Nat} (h : RchAt w b f) (hk : w'.heap[b]? = w.heap[b]?) : RchAt w' b f := by
  obtain ⟨C, t, h1, h2, h3⟩ := h
  exact ⟨C, t, hk.trans h1, h2, h3⟩
theorem RchAt.lt {w : World} {b : Nat} {f : Nat → Nat} (h : RchAt w b f) : b < w.heap.size := by
  obtain ⟨C, t, h1, h2, h3⟩ := h
  exact blkLt h1
theorem RchAt.below {w w' : World} {b : Nat} {f : Nat → Nat} (h : RchAt w b f) (hb : Below w.heap.size w w') : RchAt w' b f := h.kept (hb.block b h.lt)
theorem RchAt.cell {w : World} {b : Nat} {f : Nat → Nat} (h : RchAt w b f) {i : Nat} (h1 : 1 ≤ i) (h4 : i ≤ 4) : w.cell? ⟨b, i, none⟩ = some (.int .i64 (f i : Nat)) ∧ w.frozen? ⟨b, i, none⟩ = false := by
  obtain ⟨C, t, k1, k2, k3⟩ := h
  exact ⟨by rw [(heap_cellR k1).1]; exact k3 i h1 h4, (heap_cellR k1).2 i⟩
theorem RchAt.set {w : World} {b : Nat} {f g : Nat → Nat} (h : RchAt w b f) {i : Nat} (h1 : 1 ≤ i) (h4 : i ≤ 4) (z : Int) (hz : z = (g i : Nat)) (hg : ∀ j, j ≠ i → g j = f j) : RchAt (w.setCell ⟨b, i, none⟩ (.int .i64 z)) b g := by
  subst hz
  obtain ⟨C, t, k1, k2, k3⟩ := h
  refine ⟨_, t, setCell_blk k1 _ _, by simp [k2], fun j j1 j4 => ?_⟩
  by_cases e : j = i
  · subst e
    rw [Array.getElem?_setIfInBounds_self_of_lt (by omega)]
  · rw [Array.getElem?_setIfInBounds_ne (by omega), k3 j j1 j4, hg j e]
theorem RchAt.like {w : World} {b : Nat} {f g : Nat → Nat} (h : RchAt w b f) (hg : ∀ i, 1 ≤ i → i ≤ 4 → g i = f i) : RchAt w b g := by
  obtain ⟨C, t, k1, k2, k3⟩ := h
  exact ⟨C, t, k1, k2, fun i h1 h4 => by rw [k3 i h1 h4, hg i h1 h4]⟩
/-- a byte more -/
def tkN (f : Nat → Nat) (c : UInt8) (i : Nat) : Nat := if inM i c then min (f i + 1) 255 else 0
def tkTo (f : Nat → Nat) (c : UInt8) (m i : Nat) : Nat := if i < m then tkN f c i else f i
theorem tkTo_ne (f : Nat → Nat) (c : UInt8) {m j : Nat} (h : j ≠ m) : tkTo f c (m + 1) j = tkTo f c m j := by
  unfold tkTo
  by_cases h1 : j < m
  · rw [if_pos h1, if_pos (by omega)]
  · rw [if_neg h1, if_neg (by omega)]
theorem tkTo_at (f : Nat → Nat) (c : UInt8) (m : Nat) : tkTo f c (m + 1) m = tkN f c m := by unfold tkTo; rw [if_pos (by omega)]
theorem tkTo_old (f : Nat → Nat) (c : UInt8) (m : Nat) : tkTo f c m m = f m := by unfold tkTo; rw [if_neg (by omega)]
set_option maxRecDepth 100000 in
set_option maxHeartbeats 2000000 in
theorem take_any (b : Nat) (f : Nat → Nat) (hf : ∀ i, f i ≤ 255) (c : UInt8) (z : Nat) (hz : z = c.toNat) (w : World) (hR : RchAt w b f) :
    Calls Tryz.prog 218 #[.pointer (some ⟨b, 0, none⟩), .int .u8 (z : Int)] w fun e w' => e = .returned (.tuple #[]) ∧ RchAt w' b (tkN f c) ∧ w.grownBy w' (some b) := by
  have HR := Lib.hid hR
  have HF := Lib.hid hf
  have HZ := Lib.hid hz
  have hz255 : z ≤ 255 := by rw [hz]; have := c.toNat_lt; omega
  clear hR hf hz
  go_enter Tryz.func218, Tryz.ntmps218
  go_wp2_with fail
  go_loopw [4, 5, 6] (fun i _ _ wr => ∃ m : Nat, 1 ≤ m ∧ m ≤ 5 ∧ i = .int .i64 m ∧ RchAt wr b (tkTo f c m) ∧ w.grownBy wr (some b)) (fun i _ _ _ => 5 - (intOf i).toNat)
  case atStart => exact ⟨1, by omega, by omega, rfl, HR.out.like (fun i h1 h4 => by unfold tkTo; rw [if_neg (by omega)]), grownBy_refl _ _⟩
  case round =>
    obtain ⟨m, hm1, hm5, rfl, hr, hg⟩ := hrel
    have HRr := Lib.hid hr
    have HG := Lib.hid hg
    clear hr hg
    by_cases hlt : m ≤ 4
    · have hdec : decide ((m : Int) ≤ 4) = true := by simp; omega
      go_wp2_with fail
      refine (modeOf_any m hm1 hlt _).mono ?_
      rintro e w2 ⟨hb2, T, r, fv, fg, fb, fw, bk, rfl, hM, -⟩
      have HM := Lib.hid hM
      have HR2 := Lib.hid (HRr.out.below hb2)
      have HG2 := Lib.hid (grownBy_trans HG.out (grownBy_below hb2 (some b)))
      have hmv := hM.mv.1
      have hcv := hM.mv.2.1
      clear hb2 hM
      go_wp2_with fail
      refine (HM.out.cv _ _).mono ?_
      rintro e w3 ⟨rfl, hb3⟩
      have HV := Lib.hid (show (decide (0 ≤ valC m (z : Int))) = inM m c by rw [HZ.out]; rfl)
      have hv1 := valC_ge m (z : Int) (by omega)
      have hv2 := valC_le m (z : Int) (by omega)
      have HR3 := Lib.hid (HR2.out.below hb3)
      have HG3 := Lib.hid (grownBy_trans HG2.out (grownBy_below hb3 (some b)))
      obtain ⟨V, hV⟩ : ∃ V, V = valC m (z : Int) := ⟨_, rfl⟩
      rw [← hV] at HV hv1 hv2 ⊢
      obtain ⟨hc1, hf1⟩ := HR3.out.cell hm1 hlt
      rw [tkTo_old] at hc1
      have hlb := HR3.out.lt
      have hfm := HF.out m
      clear hb3 hV hmv hcv
      by_cases h0 : V < 0
      · have HN := Lib.hid (show tkN f c m = 0 by unfold tkN; rw [← HV.out, if_neg (by simp; omega)])
        go_wp2_with fail
        exact ⟨⟨m + 1, by omega, by omega, by go_num, HR3.out.set hm1 hlt _ (by rw [tkTo_at, HN.out]; rfl) (fun j hj => tkTo_ne f c hj), grownBy_trans HG3.out (grownBy_set _ _ _ _)⟩, by simp [intOf]; omega⟩
      · have HN := Lib.hid (show tkN f c m = min (f m + 1) 255 by unfold tkN; rw [← HV.out, if_pos (by simp; omega)])
        go_wp2_with fail
        refine wp_region_ext_tail 11 (by kernel_rfl) (by kernel_rfl) ?_
        simp only [List.take_succ_cons, List.take_zero, List.drop_succ_cons, List.drop_zero]
        repeat (go_big_quiet_step (fail))
        refine wpQuiet_nil ?_
        rintro _ ⟨s, rfl⟩
        have hv1 := below_cell s.below hc1
        have hf1' := (s.below.frozen (p := ⟨b, m, none⟩) hlb).trans hf1
        have HR4 := Lib.hid (HR3.out.below s.below)
        have HG4 := Lib.hid (grownBy_trans HG3.out (grownBy_below s.below (some b)))
        clear hc1 hf1
        go_wp2_with fail
        refine ⟨⟨m + 1, by omega, by omega, by go_num, HR4.out.set hm1 hlt _ ?_ (fun j hj => tkTo_ne f c hj), grownBy_trans HG4.out (grownBy_set _ _ _ _)⟩, by simp [intOf]; omega⟩
        rw [tkTo_at, HN.out]
        split <;> omega
    · have hdec : decide ((m : Int) ≤ 4) = false := by simp; omega
      obtain rfl : m = 5 := by omega
      go_wp2_with fail
      refine bodyPost_end (results_none rfl _ _ _) rfl ?_
      exact ⟨rfl, HRr.out.like (fun i h1 h4 => by unfold tkTo; rw [if_pos (by omega)]), HG.out⟩

end Go.Proofs.YtlcglclojlffgaaGreatDoor
namespace Go.Proofs.YtlcglclojlffgaaGreatDoor
open Go.RowKit

/-- a choice as a value -/
def chV (x : Ch) : Value := .agg #[.int .i64 x.l, .int .i64 x.c, .int .i64 x.t, .int .i64 x.m]
theorem bq_ne {a b : Int} (h : a ≠ b) : (a != b) = true := by rw [bne_iff_ne]; exact h
theorem bq_eq (a : Int) : (a != a) = false := by simp
set_option maxRecDepth 100000 in
set_option maxHeartbeats 1000000 in
theorem better_any (x y : Ch) (w : World) : Calls Tryz.prog 219 #[chV x, chV y] w fun e w' => e = .returned (.bool (chB x y)) ∧ Below w.heap.size w w' := by
  obtain ⟨a1, a2, a3, a4⟩ := x
  obtain ⟨b1, b2, b3, b4⟩ := y
  unfold chV
  have HD := Lib.hid (show chB ⟨a1, a2, a3, a4⟩ ⟨b1, b2, b3, b4⟩ = if (a1 != b1) then decide (a1 < b1) else if (a2 != b2) then decide (a2 < b2) else if (a3 != b3) then decide (b3 < a3) else decide (a4 < b4) from rfl)
  obtain ⟨R, hR⟩ : ∃ R, R = chB ⟨a1, a2, a3, a4⟩ ⟨b1, b2, b3, b4⟩ := ⟨_, rfl⟩
  rw [← hR] at HD ⊢
  clear hR
  dsimp only
  by_cases e1 : a1 = b1
  · subst e1
    by_cases e2 : a2 = b2
    · subst e2
      by_cases e3 : a3 = b3
      · subst e3
        rw [bq_eq, bq_eq, bq_eq] at HD
        go_enter Tryz.func219, Tryz.ntmps219
        go_wp2_with fail
        go_ret
        exact ⟨ret_bool HD.out.symm, ba2 _ _ _⟩
      · have h3 := bq_ne e3
        rw [bq_eq, bq_eq, h3] at HD
        clear e3
        go_enter Tryz.func219, Tryz.ntmps219
        go_wp2_with fail
        go_ret
        exact ⟨ret_bool HD.out.symm, ba2 _ _ _⟩
    · have h2 := bq_ne e2
      rw [bq_eq, h2] at HD
      clear e2
      go_enter Tryz.func219, Tryz.ntmps219
      go_wp2_with fail
      go_ret
      exact ⟨ret_bool HD.out.symm, ba2 _ _ _⟩
  · have h1 := bq_ne e1
    rw [h1] at HD
    clear e1
    go_enter Tryz.func219, Tryz.ntmps219
    go_wp2_with fail
    go_ret
    exact ⟨ret_bool HD.out.symm, ba2 _ _ _⟩

end Go.Proofs.YtlcglclojlffgaaGreatDoor
namespace Go.Proofs.YtlcglclojlffgaaGreatDoor
open Go.RowKit

theorem infoC : (Tryz.prog.info? 265).map (fun i => (i.zero, i.size, i.bytes)) = some (some (.agg #[.int .i64 0, .int .i64 0, .int .i64 0, .int .i64 0]), 4, 32) := by kernel_rfl
theorem make_ch (n : Nat) (hn : n ≤ 100000) (w : World) :
    (Instr.makeSlice 266 (.int .i64 (n : Int)) (.int .i64 (n : Int))).run Tryz.prog w = .ok (.slice (some ⟨w.heap.size, 0, none⟩) n n) (w.alloc (.cells (madeCells #[.int .i64 0, .int .i64 0, .int .i64 0, .int .i64 0] (n * 4)) 265)) := by
  obtain ⟨i0, hi, hz0, hz1, hz2⟩ := info_parts infoC
  have := run_make (P := Tryz.prog) w 266 265 i0 _ Tryz.underlying266 hi hz0 .i64 .i64 n n (by omega) (Int.le_refl _) (by rw [hz2]; omega) (by omega)
  rw [hz1] at this
  simpa [Value.cells] using this
theorem made_four (z : Value) (N j : Nat) (hj : j < N) : (madeCells #[z, z, z, z] N)[j]? = some z := by
  unfold madeCells
  rw [Array.getElem?_map, Array.getElem?_range]
  have h4 : j % 4 = 0 ∨ j % 4 = 1 ∨ j % 4 = 2 ∨ j % 4 = 3 := by omega
  rw [if_pos hj]
  rcases h4 with h | h | h | h <;> simp [h]
/-- a row of choices -/
def TabAt (w : World) (g n : Nat) (f : Nat → Ch) : Prop := ∃ C t, w.heap[g]? = some (.cells C t (0, 0)) ∧ C.size = n * 4 ∧
  ∀ i, i < n → C[i * 4]? = some (.int .i64 (f i).l) ∧ C[i * 4 + 1]? = some (.int .i64 (f i).c) ∧ C[i * 4 + 2]? = some (.int .i64 (f i).t) ∧ C[i * 4 + 3]? = some (.int .i64 (f i).m)
theorem TabAt.kept {w w' : World} {g n : Nat} {f : Nat → Ch} (h : TabAt w g n f) (hk : w'.heap[g]? = w.heap[g]?) : TabAt w' g n f := by
  obtain ⟨C, t, h1, h2, h3⟩ := h
  exact ⟨C, t, hk.trans h1, h2, h3⟩
theorem TabAt.lt {w : World} {g n : Nat} {f : Nat → Ch} (h : TabAt w g n f) : g < w.heap.size := by
  obtain ⟨C, t, h1, h2, h3⟩ := h
  exact blkLt h1
theorem TabAt.below {w w' : World} {g n : Nat} {f : Nat → Ch} (h : TabAt w g n f) (hb : Below w.heap.size w w') : TabAt w' g n f := h.kept (hb.block g h.lt)
theorem TabAt.like {w : World} {g n : Nat} {f f' : Nat → Ch} (h : TabAt w g n f) (e : ∀ i, i < n → f' i = f i) : TabAt w g n f' := by
  obtain ⟨C, t, h1, h2, h3⟩ := h
  exact ⟨C, t, h1, h2, fun i hi => by rw [e i hi]; exact h3 i hi⟩
theorem TabAt.cell {w : World} {g n : Nat} {f : Nat → Ch} (h : TabAt w g n f) {i : Nat} (hi : i < n) :
    w.cell? ⟨g, i * 4, none⟩ = some (.int .i64 (f i).l) ∧ w.cell? ⟨g, i * 4 + 1, none⟩ = some (.int .i64 (f i).c) ∧ w.cell? ⟨g, i * 4 + 2, none⟩ = some (.int .i64 (f i).t) ∧ w.cell? ⟨g, i * 4 + 3, none⟩ = some (.int .i64 (f i).m) ∧ (∀ j, w.frozen? ⟨g, j, none⟩ = false) := by
  obtain ⟨C, t, h1, h2, h3⟩ := h
  obtain ⟨hc, hf⟩ := heap_cellR h1
  obtain ⟨k1, k2, k3, k4⟩ := h3 i hi
  exact ⟨by rw [hc]; exact k1, by rw [hc]; exact k2, by rw [hc]; exact k3, by rw [hc]; exact k4, hf⟩
theorem TabAt.new (w : World) (n : Nat) : TabAt (w.alloc (.cells (madeCells #[.int .i64 0, .int .i64 0, .int .i64 0, .int .i64 0] (n * 4)) 265)) w.heap.size n (fun _ => chZ) := by
  refine ⟨_, _, push_at _ _, size_madeCells _ _, fun i hi => ⟨?_, ?_, ?_, ?_⟩⟩
  all_goals exact made_four _ _ _ (by omega)
/-- a choice is laid into the row -/
theorem TabAt.set {w : World} {g n : Nat} {f : Nat → Ch} (h : TabAt w g n f) {i : Nat} (_hi : i < n) (x : Ch) :
    TabAt ((((w.setCell ⟨g, i * 4, none⟩ (.int .i64 x.l)).setCell ⟨g, i * 4 + 1, none⟩ (.int .i64 x.c)).setCell ⟨g, i * 4 + 2, none⟩ (.int .i64 x.t)).setCell ⟨g, i * 4 + 3, none⟩ (.int .i64 x.m)) g n (fun j => if j = i then x else f j) := by
  obtain ⟨C, t, h1, h2, h3⟩ := h
  refine ⟨_, t, setCell_blk (setCell_blk (setCell_blk (setCell_blk h1 _ _) _ _) _ _) _ _, by simp [h2], fun j hj => ?_⟩
  dsimp only
  by_cases e : j = i
  · subst e
    rw [if_pos rfl]
    refine ⟨?_, ?_, ?_, ?_⟩
    · rw [Array.getElem?_setIfInBounds_ne (by omega), Array.getElem?_setIfInBounds_ne (by omega), Array.getElem?_setIfInBounds_ne (by omega), Array.getElem?_setIfInBounds_self_of_lt (by omega)]
    · rw [Array.getElem?_setIfInBounds_ne (by omega), Array.getElem?_setIfInBounds_ne (by omega), Array.getElem?_setIfInBounds_self_of_lt (by simp; omega)]
    · rw [Array.getElem?_setIfInBounds_ne (by omega), Array.getElem?_setIfInBounds_self_of_lt (by simp; omega)]
    · rw [Array.getElem?_setIfInBounds_self_of_lt (by simp; omega)]
  · rw [if_neg e]
    obtain ⟨k1, k2, k3, k4⟩ := h3 j hj
    refine ⟨?_, ?_, ?_, ?_⟩
    all_goals
      rw [Array.getElem?_setIfInBounds_ne (by omega), Array.getElem?_setIfInBounds_ne (by omega), Array.getElem?_setIfInBounds_ne (by omega), Array.getElem?_setIfInBounds_ne (by omega)]
      assumption
theorem four_grown (w : World) (g a b c d : Nat) (x y z u : Value) : w.grownBy ((((w.setCell ⟨g, a, none⟩ x).setCell ⟨g, b, none⟩ y).setCell ⟨g, c, none⟩ z).setCell ⟨g, d, none⟩ u) (some g) :=
  grownBy_trans (grownBy_trans (grownBy_trans (grownBy_set _ _ _ _) (grownBy_set _ _ _ _)) (grownBy_set _ _ _ _)) (grownBy_set _ _ _ _)
/-- one choice in a box -/
def BxC (w : World) (g : Nat) (x : Ch) : Prop := TabAt w g 1 (fun _ => x)
theorem BxC.new (w : World) (x : Ch) (t : TypeId) : BxC (w.alloc (.cells #[.int .i64 x.l, .int .i64 x.c, .int .i64 x.t, .int .i64 x.m] t)) w.heap.size x :=
  ⟨_, _, push_at _ _, rfl, fun i hi => by obtain rfl : i = 0 := by omega
                                          exact ⟨rfl, rfl, rfl, rfl⟩⟩
theorem BxC.cells {w : World} {g : Nat} {x : Ch} (h : BxC w g x) : w.cell? ⟨g, 0, none⟩ = some (.int .i64 x.l) ∧ w.cell? ⟨g, 1, none⟩ = some (.int .i64 x.c) ∧ w.cell? ⟨g, 2, none⟩ = some (.int .i64 x.t) ∧ w.cell? ⟨g, 3, none⟩ = some (.int .i64 x.m) ∧ (∀ j, w.frozen? ⟨g, j, none⟩ = false) := by
  have := TabAt.cell h (i := 0) (by omega)
  simpa using this
theorem BxC.set {w : World} {g : Nat} {x : Ch} (h : BxC w g x) (y : Ch) : BxC ((((w.setCell ⟨g, 0, none⟩ (.int .i64 y.l)).setCell ⟨g, 1, none⟩ (.int .i64 y.c)).setCell ⟨g, 2, none⟩ (.int .i64 y.t)).setCell ⟨g, 3, none⟩ (.int .i64 y.m)) g y := by
  have := TabAt.set h (i := 0) (by omega) y
  simp only [Nat.zero_mul, Nat.zero_add] at this
  exact this.like (fun i hi => by obtain rfl : i = 0 := by omega
                                  rfl)

end Go.Proofs.YtlcglclojlffgaaGreatDoor
namespace Go.Proofs.YtlcglclojlffgaaGreatDoor
open Go.RowKit

/-! A region that draws its order and holds one operation (number c) that changes what is said of the world: it is met once. It may leave by a panic. -/
variable {P : Program} {ops : Array Oper} {Q : Exit → Act → World → Prop}

/-- operation i waits for operation j, perhaps by way of others -/
def waits (ops : Array Oper) : Nat → Nat → Nat → Bool
  | 0, _, _ => false
  | f + 1, i, j => match ops[i]? with
    | none => false
    | some o => o.after.any fun e => Region.binds .any e && (e.on == j || waits ops f e.on j)
def rgOkO (ops : Array Oper) (m : Nat) (ds : List Nat) (sup : Nat → List Nat) : Bool :=
  (List.range ops.size).all fun j => match ops[j]? with
    | none => true
    | some o =>
      (decide (m ≤ j) || ((match o.dst with | some d => ds.contains d | none => true) &&
        (sup j).all fun t => (List.range ops.size).all fun i => match ops[i]? with
          | none => true
          | some oi => oi.dst != some t || i == j || o.after.any fun e => Region.binds .any e && e.on == i)) &&
      (decide (j < m) || (List.range j).all (fun i => waits ops ops.size j i)) && o.after.all fun e => !Region.binds .any e || decide (e.on < j)
theorem waits_first {f i j : Nat} {o : Oper} (ho : ops[i]? = some o) (h : waits ops f i j = true) : ∃ e ∈ o.after, Region.binds .any e = true ∧ (e.on = j ∨ ∃ f', waits ops f' e.on j = true) := by
  cases f with
  | zero => simp [waits] at h
  | succ f =>
    rw [waits, ho] at h
    obtain ⟨e, he, hee⟩ := Array.any_eq_true'.1 h
    simp only [Bool.and_eq_true, Bool.or_eq_true, beq_iff_eq] at hee
    exact ⟨e, he, hee.1, hee.2.imp id (fun h => ⟨f, h⟩)⟩
theorem waits_lt {m : Nat} {ds : List Nat} {sup : Nat → List Nat} (hB : rgOkO ops m ds sup = true) : ∀ (f i j : Nat), waits ops f i j = true → j < i
  | 0, i, j, h => by simp [waits] at h
  | f + 1, i, j, h => by
    cases ho : ops[i]? with
    | none => rw [waits, ho] at h; cases h
    | some o =>
      rw [waits, ho] at h
      obtain ⟨e, he, hee⟩ := Array.any_eq_true'.1 h
      simp only [Bool.and_eq_true, Bool.or_eq_true, beq_iff_eq] at hee
      have hlt : i < ops.size := (Array.getElem?_eq_some_iff.1 ho).1
      have := List.all_eq_true.1 hB i (List.mem_range.2 hlt)
      simp only [ho, Bool.and_eq_true] at this
      have h2 := Array.all_eq_true'.1 this.2 e he
      simp only [hee.1, Bool.not_true, Bool.or_eq_true, Bool.false_eq_true, false_or, decide_eq_true_eq] at h2
      rcases hee.2 with h3 | h3
      · omega
      · have := waits_lt hB f e.on j h3
        omega
theorem waits_listed {L : Nat → Bool} (hc : ∀ j o, ops[j]? = some o → L j = true → ∀ e ∈ o.after, Region.binds .any e = true → L e.on = true) : ∀ (f i j : Nat), waits ops f i j = true → L i = true → L j = true
  | 0, i, j, h, _ => by simp [waits] at h
  | f + 1, i, j, h, hi => by
    cases ho : ops[i]? with
    | none => rw [waits, ho] at h; cases h
    | some o =>
      rw [waits, ho] at h
      obtain ⟨e, he, hee⟩ := Array.any_eq_true'.1 h
      simp only [Bool.and_eq_true, Bool.or_eq_true, beq_iff_eq] at hee
      have h1 := hc i o ho hi e he hee.1
      rcases hee.2 with h3 | h3
      · rw [← h3]; exact h1
      · exact waits_listed hc f e.on j h3 h1

/-- the tail, in its one order -/
theorem wpAny_tailO {m : Nat} {ds : List Nat} {sup : Nat → List Nat} (hB : rgOkO ops m ds sup = true) : ∀ (r k : Nat) (listed : Array Bool) (a : Act) (w : World), m ≤ k → k + r = ops.size →
    (∀ j, j < ops.size → listed.getD j true = decide (j < k)) → listed.size = ops.size → ∀ fuel, r ≤ fuel → wpOps P ops Q (List.range' k r) a w → wpAny P .any ops Q fuel listed a w
  | 0, k, listed, a, w, hm, hk, hl, hs, fuel, hf, h => by
    have hr : Region.ready .any ops listed = [] := by
      rw [List.eq_nil_iff_forall_not_mem]
      intro j hj
      obtain ⟨h1, o, ho, _⟩ := mem_ready.1 hj
      have hlt : j < ops.size := (Array.getElem?_eq_some_iff.1 ho).1
      rw [hl j hlt] at h1
      simp at h1; omega
    have hq : Q .normal a w := h
    cases fuel with
    | zero => exact ⟨hr, hq⟩
    | succ f => exact ⟨fun _ => hq, fun i hi => by rw [hr] at hi; cases hi⟩
  | r + 1, k, listed, a, w, hm, hk, hl, hs, fuel, hf, h => by
    have hkn : k < ops.size := by omega
    have hready : ∀ j ∈ Region.ready .any ops listed, j = k := by
      intro j hj
      obtain ⟨h1, o, ho, hdep⟩ := mem_ready.1 hj
      have hlt : j < ops.size := (Array.getElem?_eq_some_iff.1 ho).1
      rw [hl j hlt] at h1
      have hjk : k ≤ j := by simpa using h1
      rcases Nat.lt_or_ge k j with hlt' | hge
      · exfalso
        have hb := List.all_eq_true.1 hB j (List.mem_range.2 hlt)
        simp only [ho, Bool.and_eq_true, Bool.or_eq_true, decide_eq_true_eq] at hb
        rcases hb.1.2 with hb2 | hb2
        · omega
        · have := List.all_eq_true.1 hb2 k (List.mem_range.2 hlt')
          obtain ⟨e, he, hbind, hee⟩ := waits_first ho this
          have hd := hdep e he hbind
          have hek : e.on = k := by
            rcases hee with h | ⟨f', h⟩
            · exact h
            · exfalso
              have h4 := waits_lt hB f' e.on k h
              have h5 : e.on < ops.size := by
                have := List.all_eq_true.1 hB j (List.mem_range.2 hlt)
                simp only [ho, Bool.and_eq_true] at this
                have h2 := Array.all_eq_true'.1 this.2 e he
                simp only [hbind, Bool.not_true, Bool.or_eq_true, Bool.false_eq_true, false_or, decide_eq_true_eq] at h2
                omega
              have h6 := hl e.on h5
              rw [getD_toList] at h6 hd
              rw [List.getD_eq_getElem?_getD] at h6 hd
              cases hx : listed.toList[e.on]? with
              | none => rw [hx] at hd; simp at hd
              | some b => rw [hx] at h6 hd; simp at h6 hd; rw [hd] at h6; simp at h6; omega
          rw [hek] at hd
          have := hl k hkn
          rw [getD_toList] at this hd
          rw [List.getD_eq_getElem?_getD] at this hd
          cases hx : listed.toList[k]? with
          | none => rw [hx] at hd; simp at hd
          | some b => rw [hx] at this hd; simp at this hd; rw [this] at hd; cases hd
      · omega
    cases fuel with
    | zero => omega
    | succ f =>
      refine ⟨fun h0 => ?_, fun i hi => ?_⟩
      · exfalso
        obtain ⟨o, ho⟩ : ∃ o, ops[k]? = some o := ⟨ops[k], Array.getElem?_eq_getElem hkn⟩
        have : k ∈ Region.ready .any ops listed := by
          refine mem_ready.2 ⟨?_, o, ho, ?_⟩
          · rw [hl k hkn]; simp
          · intro e he hbind
            have hb := List.all_eq_true.1 hB k (List.mem_range.2 hkn)
            simp only [ho, Bool.and_eq_true, Bool.or_eq_true, decide_eq_true_eq] at hb
            · have h2 := Array.all_eq_true'.1 hb.2 e he
              simp only [hbind, Bool.not_true, Bool.or_eq_true, Bool.false_eq_true, false_or, decide_eq_true_eq] at h2
              have := hl e.on (by omega)
              rw [getD_toList, List.getD_eq_getElem?_getD] at this ⊢
              cases hx : listed.toList[e.on]? with
              | none =>
                have := List.getElem?_eq_none_iff.1 hx
                simp [hs] at this; omega
              | some b => rw [hx] at this; simp at this; simp [this]; exact h2
        rw [h0] at this; cases this
      · obtain rfl := hready i hi
        rw [List.range'_succ, wpOps_cons] at h
        refine wpOp_mono (fun a' w' h' => ?_) h
        refine wpAny_tailO hB r (i + 1) _ a' w' (by omega) (by omega) ?_ (by simpa using hs) f (by omega) h'
        intro j hj
        by_cases e : i = j
        · subst e
          rw [getD_toList, Array.toList_setIfInBounds, List.getD_eq_getElem?_getD, List.getElem?_set]
          simp [hs, hj]
        · rw [getD_toList, Array.toList_setIfInBounds, List.getD_eq_getElem?_getD, List.getElem?_set, if_neg e, ← List.getD_eq_getElem?_getD, ← getD_toList, hl j hj]
          simp; omega


/-- what stands while the head is under way -/
structure UnderO (ops : Array Oper) (m : Nat) (a0 : Act) (ds : List Nat) (G : Nat → (Nat → Value) → World → Prop) (St : (Nat → Bool) → World → Prop) (listed : Array Bool) (a : Act) (w : World) : Prop where
  size : listed.size = ops.size
  tail : ∀ j, m ≤ j → j < ops.size → listed.getD j true = false
  closed : ∀ j o, ops[j]? = some o → listed.getD j false = true → ∀ e ∈ o.after, Region.binds .any e = true → listed.getD e.on false = true
  st : St (fun j => listed.getD j false) w
  left : ∃ us, a = over a0 ds us ∧ ∀ j, j < m → listed.getD j false = true → G j us w

/-- what one operation of the head owes: IN EVERY FRAME AND WORLD in which what it waits for stands, it leaves what is said of it, and does away with nothing -/
def OwesO (P : Program) (ops : Array Oper) (Q : Exit → Act → World → Prop) (a0 : Act) (ds : List Nat) (G : Nat → (Nat → Value) → World → Prop) (St : (Nat → Bool) → World → Prop) (Keep : World → World → Prop) (i : Nat) (o : Oper) : Prop :=
  ∀ (us : Nat → Value) (w : World) (L : Nat → Bool), L i = false → St L w → (∀ e ∈ o.after, Region.binds .any e = true → L e.on = true ∧ G e.on us w) →
    if Region.wanted o (yielded ops (over a0 ds us).tmps) then o.wp P (over a0 ds us) w (fun a' w' => ∃ v, a' = (over a0 ds us).put o.dst v ∧ St (fun j => L j || i == j) w' ∧ Keep w w' ∧ G i (upd us o.dst v) w') Q
    else St (fun j => L j || i == j) w ∧ G i (upd us o.dst undef) w

theorem wpAny_headO {m : Nat} {a0 : Act} {ds : List Nat} {sup : Nat → List Nat} {G : Nat → (Nat → Value) → World → Prop} {St : (Nat → Bool) → World → Prop} {Keep : World → World → Prop} (hB : rgOkO ops m ds sup = true) (hm : m ≤ ops.size)
    (hkeep : ∀ j us w w', j < m → Keep w w' → G j us w → G j us w') (hrefl : ∀ w, Keep w w) (hsup : ∀ j us us' w, j < m → (∀ t ∈ sup j, us t = us' t) → G j us w → G j us' w)
    (howe : ∀ i o, i < m → ops[i]? = some o → OwesO P ops Q a0 ds G St Keep i o)
    (hend : ∀ us w L, (∀ j, j < m → L j = true) → St L w → (∀ j, j < m → G j us w) → wpOps P ops Q (List.range' m (ops.size - m)) (over a0 ds us) w) :
    ∀ (fuel : Nat) (listed : Array Bool) (a : Act) (w : World), unl listed.toList ≤ fuel → UnderO ops m a0 ds G St listed a w → wpAny P .any ops Q fuel listed a w := by
  have hdepOk : ∀ j o, j < m → ops[j]? = some o → (∀ d, o.dst = some d → ds.contains d = true) ∧ ∀ t ∈ sup j, ∀ i oi, ops[i]? = some oi → oi.dst = some t → i = j ∨ ∃ e ∈ o.after, Region.binds .any e = true ∧ e.on = i := by
    intro j o hj ho
    have hlt : j < ops.size := (Array.getElem?_eq_some_iff.1 ho).1
    have hb := List.all_eq_true.1 hB j (List.mem_range.2 hlt)
    simp only [ho, Bool.and_eq_true, Bool.or_eq_true, decide_eq_true_eq] at hb
    rcases hb.1.1 with h | h
    · omega
    · refine ⟨?_, ?_⟩
      · intro d hd
        have := h.1
        rw [hd] at this
        exact this
      · intro t ht i oi hi hd
        have h2 := List.all_eq_true.1 (List.all_eq_true.1 h.2 t ht) i (List.mem_range.2 (Array.getElem?_eq_some_iff.1 hi).1)
        simp only [hi, Bool.or_eq_true, bne_iff_ne, beq_iff_eq, hd] at h2
        rcases h2 with (h2 | h2) | h2
        · exact absurd rfl h2
        · exact Or.inl h2
        · obtain ⟨e, he, hee⟩ := Array.any_eq_true'.1 h2
          simp only [Bool.and_eq_true, beq_iff_eq] at hee
          exact Or.inr ⟨e, he, hee.1, hee.2⟩
  have step : ∀ (fuel : Nat) (listed : Array Bool) (a : Act) (w : World), unl listed.toList ≤ fuel → UnderO ops m a0 ds G St listed a w →
      (∀ j, j < m → listed.getD j true = true) → wpAny P .any ops Q fuel listed a w := by
    intro fuel listed a w hf U hall
    obtain ⟨us, rfl, hG⟩ := U.left
    have hx : ∀ j, j < m → listed.getD j false = true := by
      intro j hj
      have := hall j hj
      rw [getD_toList, List.getD_eq_getElem?_getD] at this ⊢
      cases hy : listed.toList[j]? with
      | none =>
        have h1 := List.getElem?_eq_none_iff.1 hy
        have := U.size
        simp at h1; omega
      | some b => rw [hy] at this; simpa using this
    have hr : ops.size - m ≤ fuel := by
      refine Nat.le_trans ?_ hf
      have : ∀ (n : Nat) (l : List Bool), (∀ j, n ≤ j → j < l.length → l.getD j true = false) → l.length - n ≤ unl l := by
        intro n l
        induction l generalizing n with
        | nil => intro _; simp
        | cons b r ih =>
          intro hb
          cases n with
          | zero =>
            have h0 := hb 0 (Nat.le_refl _) (by simp)
            have h1 := ih 0 (fun j _ hj => by have := hb (j + 1) (by omega) (by simpa using hj); simpa using this)
            simp at h0
            subst h0
            simp [unl] at h1 ⊢; omega
          | succ n =>
            have h1 := ih n (fun j hj hj' => by have := hb (j + 1) (by omega) (by simpa using hj'); simpa using this)
            simp only [unl, List.length_cons]; omega
      have h2 := this m listed.toList (fun j hj hj' => by rw [← getD_toList]; exact U.tail j hj (by have := U.size; simp at hj'; omega))
      have := U.size
      simp at h2; omega
    refine wpAny_tailO hB (ops.size - m) m listed _ w (Nat.le_refl _) (by omega) ?_ U.size fuel hr (hend us w _ hx U.st (fun j hj => hG j hj (hx j hj)))
    intro j hj
    rcases Nat.lt_or_ge j m with h | h
    · rw [hall j h]; simp [h]
    · rw [U.tail j h hj]; simp; omega
  intro fuel
  induction fuel with
  | zero =>
    intro listed a w hf U
    exact step 0 listed a w hf U (fun j _ => by rw [getD_toList]; exact unl_zero _ (by omega) j)
  | succ fuel ih =>
    intro listed a w hf U
    by_cases hall : ∀ j, j < m → listed.getD j true = true
    · exact step _ listed a w hf U hall
    · obtain ⟨us, rfl, hG⟩ := U.left
      have hnot : ∃ j, j < m ∧ listed.getD j true = false := by
        apply Classical.byContradiction
        intro hn
        apply hall
        intro j hj
        cases hx : listed.getD j true with
        | true => rfl
        | false => exact absurd ⟨j, hj, hx⟩ hn
      refine ⟨fun h0 => ?_, fun i hi => ?_⟩
      · -- the least that is not listed may come up
        have least : ∀ n j, j ≤ n → j < m → listed.getD j true = false → False := by
          intro n
          induction n with
          | zero =>
            intro j hj hjm hjl
            obtain rfl : j = 0 := by omega
            obtain ⟨oj, hoj⟩ : ∃ oj, ops[0]? = some oj := ⟨ops[0], Array.getElem?_eq_getElem (by omega)⟩
            have : 0 ∈ Region.ready .any ops listed := mem_ready.2 ⟨hjl, oj, hoj, fun e he hbind => by
              have hb := List.all_eq_true.1 hB 0 (List.mem_range.2 (by omega))
              simp only [hoj, Bool.and_eq_true] at hb
              have h2 := Array.all_eq_true'.1 hb.2 e he
              simp only [hbind, Bool.not_true, Bool.or_eq_true, Bool.false_eq_true, false_or, decide_eq_true_eq] at h2
              omega⟩
            rw [h0] at this; cases this
          | succ n ihn =>
            intro j hj hjm hjl
            obtain ⟨oj, hoj⟩ : ∃ oj, ops[j]? = some oj := ⟨ops[j], Array.getElem?_eq_getElem (by omega)⟩
            have : j ∈ Region.ready .any ops listed := mem_ready.2 ⟨hjl, oj, hoj, fun e he hbind => by
              have hb := List.all_eq_true.1 hB j (List.mem_range.2 (by omega))
              simp only [hoj, Bool.and_eq_true] at hb
              have h2 := Array.all_eq_true'.1 hb.2 e he
              simp only [hbind, Bool.not_true, Bool.or_eq_true, Bool.false_eq_true, false_or, decide_eq_true_eq] at h2
              cases hx : listed.getD e.on true with
              | false => exact (ihn e.on (by omega) (by omega) hx).elim
              | true =>
                rw [getD_toList, List.getD_eq_getElem?_getD] at hx ⊢
                cases hy : listed.toList[e.on]? with
                | none =>
                  have h4 := List.getElem?_eq_none_iff.1 hy
                  have := U.size
                  simp at h4; omega
                | some b => rw [hy] at hx; simpa using hx⟩
            rw [h0] at this; cases this
        obtain ⟨j, hj, hjl⟩ := hnot
        exact (least j j (Nat.le_refl _) hj hjl).elim
      · obtain ⟨h1, o, ho, hdep⟩ := mem_ready.1 hi
        have hlt : i < ops.size := (Array.getElem?_eq_some_iff.1 ho).1
        have him : i < m := by
          rcases Nat.lt_or_ge i m with h | h
          · exact h
          · exfalso
            obtain ⟨j, hj, hjl⟩ := hnot
            have hb := List.all_eq_true.1 hB i (List.mem_range.2 hlt)
            simp only [ho, Bool.and_eq_true, Bool.or_eq_true, decide_eq_true_eq] at hb
            rcases hb.1.2 with hb2 | hb2
            · omega
            · have := List.all_eq_true.1 hb2 j (List.mem_range.2 (by omega))
              obtain ⟨e, he, hbind, hee⟩ := waits_first ho this
              have hd0 := hdep e he hbind
              have hd : listed.getD j false = true := by
                rcases hee with h | ⟨f', h⟩
                · rw [← h]; exact hd0
                · exact waits_listed (L := fun j => listed.getD j false) U.closed f' e.on j h hd0
              rw [getD_toList, List.getD_eq_getElem?_getD] at hd hjl
              cases hx : listed.toList[j]? with
              | none => rw [hx] at hd; simp at hd
              | some b => rw [hx] at hd hjl; simp at hd hjl; rw [hd] at hjl; cases hjl
        obtain ⟨hds, hdp⟩ := hdepOk i o him ho
        have hil : listed.toList[i]? = some false := by
          rw [getD_toList, List.getD_eq_getElem?_getD] at h1
          cases hx : listed.toList[i]? with
          | none => rw [hx] at h1; simp at h1
          | some b => rw [hx] at h1; simp at h1; rw [h1]
        have hdm : ∀ e ∈ o.after, Region.binds .any e = true → e.on < m := by
          intro e he hbind
          have hd := hdep e he hbind
          rcases Nat.lt_or_ge e.on m with h | h
          · exact h
          · exfalso
            rcases Nat.lt_or_ge e.on ops.size with h2 | h2
            · have := U.tail e.on h h2
              rw [getD_toList, List.getD_eq_getElem?_getD] at this hd
              cases hx : listed.toList[e.on]? with
              | none => rw [hx] at hd; simp at hd
              | some b => rw [hx] at hd this; simp at hd this; rw [hd] at this; cases this
            · rw [getD_toList, List.getD_eq_getElem?_getD, List.getElem?_eq_none (by have := U.size; simp; omega)] at hd
              simp at hd
        have hcb : (fun j => (listed.setIfInBounds i true).getD j false) = (fun j => listed.getD j false || i == j) := by
          funext c
          by_cases ec : i = c
          · subst ec
            rw [getD_toList, Array.toList_setIfInBounds, List.getD_eq_getElem?_getD, List.getElem?_set, if_pos rfl]
            have := (List.getElem?_eq_some_iff.1 hil).1
            rw [if_pos this]; simp
          · rw [getD_set_other ec]; simp [ec]
        have next : ∀ v w', St (fun j => listed.getD j false || i == j) w' → Keep w w' → G i (upd us o.dst v) w' → wpAny P .any ops Q fuel (listed.setIfInBounds i true) ((over a0 ds us).put o.dst v) w' := by
          intro v w' hst hk hg
          refine ih _ _ _ ?_ ⟨by simpa using U.size, ?_, ?_, by rw [hcb]; exact hst, upd us o.dst v, over_put hds, ?_⟩
          · have := unl_set listed.toList i hil
            rw [Array.toList_setIfInBounds]; omega
          · intro j hj hj'
            rw [getD_set_other (by omega)]; exact U.tail j hj hj'
          · intro j oj hoj hlj e he hbind
            by_cases ej : i = j
            · subst ej
              rw [ho] at hoj
              cases hoj
              exact getD_set_true (hdep e he hbind)
            · rw [getD_set_other ej] at hlj
              exact getD_set_true (U.closed j oj hoj hlj e he hbind)
          · intro j hj hlj
            by_cases ej : i = j
            · subst ej; exact hg
            · rw [getD_set_other ej] at hlj
              refine hsup j us _ w' hj (fun t ht => ?_) (hkeep j us w w' hj hk (hG j hj hlj))
              symm
              refine upd_ne (fun hd => ?_)
              have hjs : j < ops.size := by omega
              obtain ⟨oj, hoj⟩ : ∃ oj, ops[j]? = some oj := ⟨ops[j], Array.getElem?_eq_getElem hjs⟩
              rcases (hdepOk j oj hj hoj).2 t ht i o ho hd with h | ⟨e, he, hbind, heq⟩
              · exact ej h
              · have := U.closed j oj hoj hlj e he hbind
                rw [heq, getD_toList, List.getD_eq_getElem?_getD, hil] at this
                simp at this
        have howes := howe i o him ho us w (fun j => listed.getD j false) (by rw [getD_toList, List.getD_eq_getElem?_getD, hil]; rfl) U.st (fun e he hbind => ⟨hdep e he hbind, hG e.on (hdm e he hbind) (hdep e he hbind)⟩)
        unfold wpOp
        rw [ho]
        simp only
        by_cases hw : Region.wanted o (yielded ops (over a0 ds us).tmps) = true
        · rw [if_pos hw] at howes ⊢
          refine Or.inl (Oper.wp_mono (fun a' w' h => ?_) howes)
          obtain ⟨v, rfl, hst, hk, hg⟩ := h
          exact next v w' hst hk hg
        · rw [if_neg hw] at howes ⊢
          exact next undef w howes.1 (hrefl w) howes.2


/-- the head's operations, one by one, each by its own walk -/
def rsAllO (P : Program) (l : List Oper) (Q : Exit → Act → World → Prop) (A : (Nat → Value) → Act) {Keep : World → World → Prop} (sp : List (Sp Keep)) (St : (Nat → Bool) → World → Prop) : Nat → List Oper → List (Sp Keep) → Prop
  | i, o :: r, s :: t => (∀ (us : Nat → Value) (w : World) (L : Nat → Bool), L i = false → St L w → (∀ e ∈ o.after, Region.binds .any e = true → L e.on = true ∧ depHolds l sp us w e.on) →
      Region.wanted o (yielded l.toArray (A us).tmps) = true ∧ o.wp P (A us) w (fun a' w' => ∃ v, a' = (A us).put o.dst v ∧ St (fun j => L j || i == j) w' ∧ Keep w w' ∧ s.holds v w') Q) ∧ rsAllO P l Q A sp St (i + 1) r t
  | _, _, _ => True

theorem rsAllO_at {P : Program} {l : List Oper} {Q : Exit → Act → World → Prop} {A : (Nat → Value) → Act} {Keep : World → World → Prop} {sp : List (Sp Keep)} {St : (Nat → Bool) → World → Prop} : ∀ (r : List Oper) (t : List (Sp Keep)) (k : Nat), rsAllO P l Q A sp St k r t → ∀ (i : Nat) (o : Oper) (s : Sp Keep), r[i]? = some o → t[i]? = some s →
    ∀ (us : Nat → Value) (w : World) (L : Nat → Bool), L (k + i) = false → St L w → (∀ e ∈ o.after, Region.binds .any e = true → L e.on = true ∧ depHolds l sp us w e.on) →
      Region.wanted o (yielded l.toArray (A us).tmps) = true ∧ o.wp P (A us) w (fun a' w' => ∃ v, a' = (A us).put o.dst v ∧ St (fun j => L j || (k + i) == j) w' ∧ Keep w w' ∧ s.holds v w') Q
  | [], _, _, _, i, o, s, h, _ => by simp at h
  | o' :: r, [], _, _, i, o, s, _, h => by simp at h
  | o' :: r, s' :: t, k, hall, 0, o, s, h, h2 => by
    simp at h h2; subst h; subst h2; exact hall.1
  | o' :: r, s' :: t, k, hall, i + 1, o, s, h, h2 => by
    have := rsAllO_at r t (k + 1) hall.2 i o s (by simpa using h) (by simpa using h2)
    rw [show k + 1 + i = k + (i + 1) by omega] at this
    exact this

/-- **A REGION THAT DRAWS ITS ORDER, one operation of which (number c) is met once and may panic.** -/
theorem wp_region_once {P : Program} {id : Nat} {l : List Oper} {Q : Exit → Act → World → Prop} {a0 : Act} {w0 : World} (ds : List Nat) (A : (Nat → Value) → Act) {Keep : World → World → Prop} (sp : List (Sp Keep)) (St : (Nat → Bool) → World → Prop)
    (hmix : P.follows .mixedOrders = true) (hB : rgOkO l.toArray sp.length ds (supOf l) = true) (hm : sp.length ≤ l.length) (hA : ∀ us, over a0 ds us = A us) (h0 : St (fun _ => false) w0.drew) (hrefl : ∀ w, Keep w w)
    (hall : rsAllO P l Q A sp St 0 (l.take sp.length) sp)
    (hend : ∀ us w L, (∀ j, j < sp.length → L j = true) → St L w → (∀ j, j < sp.length → depHolds l sp us w j) → wpList P l.toArray Q (l.drop sp.length) (A us) w) : (Code.region id l.toArray true).wp P Q a0 w0 := by
  refine wp_region_any hmix ?_
  refine wpAny_headO (a0 := a0) (ds := ds) (G := fun i us w => depHolds l sp us w i) (St := St) (Keep := Keep) hB (by simpa using hm) (fun j us w w' _ hk h => depHolds_kept hk h) hrefl (fun j us us' w _ he h => depHolds_sup he h) ?_ ?_ _ _ _ _ (by rw [Array.toList_replicate, unl_replicate]; exact Nat.le_refl _) ?_
  · intro i o hi ho us w L hb hst hd
    have ho1 : l[i]? = some o := by simpa using ho
    have ho' : (l.take sp.length)[i]? = some o := by rw [List.getElem?_take, if_pos hi]; exact ho1
    have hs : sp[i]? = some sp[i] := List.getElem?_eq_getElem hi
    have := rsAllO_at _ _ 0 hall i o sp[i] ho' hs us w L (by simpa using hb) hst hd
    rw [Nat.zero_add] at this
    rw [hA, if_pos this.1]
    refine Oper.wp_mono (fun a' w' h => ?_) this.2
    obtain ⟨v, ha, h1, h2, h3⟩ := h
    refine ⟨v, ha, h1, h2, ?_⟩
    unfold depHolds
    simp only [ho1, hs]
    cases hdst : o.dst with
    | none => trivial
    | some d => simpa [upd] using h3
  · intro us w L hL hst hg
    have := hend us w L hL hst hg
    rw [hA]
    have e := wpOps_eq_wpList (P := P) (ops := l.toArray) (Q := Q) (l.drop sp.length) sp.length (fun j => by simp [List.getElem?_drop])
    rw [List.length_drop] at e
    have e2 : l.toArray.size - sp.length = l.length - sp.length := by simp
    rw [e2, e]
    exact this
  · refine ⟨by simp, ?_, ?_, ?_, fun t => a0.tmps.getD t undef, ?_, ?_⟩
    · intro j _ hj
      rw [getD_toList, Array.toList_replicate, List.getD_eq_getElem?_getD, List.getElem?_replicate]
      simp at hj
      simp [hj]
    · intro j o _ hj
      rw [getD_toList, Array.toList_replicate, List.getD_eq_getElem?_getD, List.getElem?_replicate] at hj
      split at hj <;> simp at hj
    · have e : (fun j => (Array.replicate l.toArray.size false).getD j false) = (fun _ => false) := by
        funext c
        rw [getD_toList, Array.toList_replicate, List.getD_eq_getElem?_getD, List.getElem?_replicate]
        split <;> rfl
      rw [e]; exact h0
    · unfold over
      cases a0 with
      | mk tmps defers =>
        congr 1
        apply Array.ext_getElem?
        intro i
        rw [Array.getElem?_mapIdx]
        cases hx : tmps[i]? with
        | none => rfl
        | some v =>
          simp only [Option.map_some, Array.getD_eq_getD_getElem?, hx, Option.getD_some]
          split <;> rfl
    · intro j _ hj
      rw [getD_toList, Array.toList_replicate, List.getD_eq_getElem?_getD, List.getElem?_replicate] at hj
      split at hj <;> simp at hj

end Go.Proofs.YtlcglclojlffgaaGreatDoor
namespace Go.Proofs.YtlcglclojlffgaaGreatDoor
open Go.RowKit

/-- **A REGION THAT DRAWS ITS ORDER, as wp_region_rs; the tail may wait for the head by way of others.** -/
theorem wp_region_rt {P : Program} {id : Nat} {l : List Oper} {Q : Exit → Act → World → Prop} {a0 : Act} {w0 : World} (ds : List Nat) (A : (Nat → Value) → Act) {Keep : World → World → Prop} (sp : List (Sp Keep)) (St : World → Prop)
    (hmix : P.follows .mixedOrders = true) (hB : rgOkO l.toArray sp.length ds (supOf l) = true) (hm : sp.length ≤ l.length) (hA : ∀ us, over a0 ds us = A us) (h0 : St w0.drew) (hrefl : ∀ w, Keep w w)
    (hall : rsAll P l A sp St (l.take sp.length) sp)
    (hend : ∀ us w, St w → (∀ j, j < sp.length → depHolds l sp us w j) → wpList P l.toArray Q (l.drop sp.length) (A us) w) : (Code.region id l.toArray true).wp P Q a0 w0 := by
  have hrg := rg_of_rs (P := P) (l := l) (A := A) (sp := sp) (St := St) (l.take sp.length) sp 0 (by rw [List.length_take]; omega) (fun j hj => by
      have : j < (l.take sp.length).length := by
        apply Classical.byContradiction
        intro h
        rw [List.getElem?_eq_none (by omega)] at hj; cases hj
      rw [List.length_take] at this
      rw [Nat.zero_add, List.getElem?_take, if_pos (by omega)]) (fun j hj => by
      rw [List.length_take] at hj
      rw [Nat.zero_add, List.getElem?_take, if_pos (by omega)]) (fun j _ => by simp) hall
  refine wp_region_any hmix ?_
  refine wpAny_headO (a0 := a0) (ds := ds) (G := fun i us w => depHolds l sp us w i) (St := fun _ => St) (Keep := Keep) hB (by simpa using hm) (fun j us w w' _ hk h => depHolds_kept hk h) hrefl (fun j us us' w _ he h => depHolds_sup he h) ?_ ?_ _ _ _ _ (by rw [Array.toList_replicate, unl_replicate]; exact Nat.le_refl _) ?_
  · intro i o hi ho us w L hb hst hd
    have ho' : (l.take sp.length)[i]? = some o := by rw [List.getElem?_take, if_pos hi]; simpa using ho
    have := rgAll_at _ 0 hrg i o ho' us w hst (fun e he hb => (hd e he hb).2)
    rw [Nat.zero_add] at this
    rw [hA]
    by_cases hw : Region.wanted o (yielded l.toArray (A us).tmps) = true
    · rw [if_pos hw] at this ⊢
      exact wp_of_leaves (fun v w' h => ⟨v, rfl, h.1, h.2.1, h.2.2⟩) this
    · rw [if_neg hw] at this ⊢
      exact ⟨hst, this⟩
  · intro us w L hL hst hg
    have := hend us w hst hg
    rw [hA]
    have e := wpOps_eq_wpList (P := P) (ops := l.toArray) (Q := Q) (l.drop sp.length) sp.length (fun j => by simp [List.getElem?_drop])
    rw [List.length_drop] at e
    have e2 : l.toArray.size - sp.length = l.length - sp.length := by simp
    rw [e2, e]
    exact this
  · refine ⟨by simp, ?_, ?_, h0, fun t => a0.tmps.getD t undef, ?_, ?_⟩
    · intro j _ hj
      rw [getD_toList, Array.toList_replicate, List.getD_eq_getElem?_getD, List.getElem?_replicate]
      simp at hj
      simp [hj]
    · intro j o _ hj
      rw [getD_toList, Array.toList_replicate, List.getD_eq_getElem?_getD, List.getElem?_replicate] at hj
      split at hj <;> simp at hj
    · unfold over
      cases a0 with
      | mk tmps defers =>
        congr 1
        apply Array.ext_getElem?
        intro i
        rw [Array.getElem?_mapIdx]
        cases hx : tmps[i]? with
        | none => rfl
        | some v =>
          simp only [Option.map_some, Array.getD_eq_getD_getElem?, hx, Option.getD_some]
          split <;> rfl
    · intro j _ hj
      rw [getD_toList, Array.toList_replicate, List.getD_eq_getElem?_getD, List.getElem?_replicate] at hj
      split at hj <;> simp at hj

end Go.Proofs.YtlcglclojlffgaaGreatDoor
namespace Go.Proofs.YtlcglclojlffgaaGreatDoor
open Go.RowKit

/-- a new box of the region's own -/
def BoxK (B : Nat) (cs : Array Value) (t : TypeId) (v : Value) (W : World) : Prop := ∃ b, v = .pointer (some ⟨b, 0, none⟩) ∧ B ≤ b ∧ W.heap[b]? = some (.cells cs t (0, 0))
def spBox (B : Nat) (cs : Array Value) (t : TypeId) : Sp KB := ⟨BoxK B cs t, fun _ _ _ hk ⟨b, hv, hb, hg⟩ => ⟨b, hv, hb, blkK hk hg⟩⟩
theorem kb_new {w0 W : World} {B : Nat} {cs : Array Value} {t : TypeId} (hst : StX w0 W) (hB : B ≤ w0.heap.size) : RsR (StX w0) (spBox B cs t) W (.pointer (some ⟨W.heap.size, 0, none⟩)) (W.alloc (.cells cs t (0, 0))) :=
  kb_below hst (ba1 _ _) ⟨W.heap.size, rfl, Nat.le_trans hB hst.size, push_at _ _⟩
end Go.Proofs.YtlcglclojlffgaaGreatDoor
