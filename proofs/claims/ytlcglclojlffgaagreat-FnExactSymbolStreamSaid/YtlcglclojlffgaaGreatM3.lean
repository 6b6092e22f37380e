import Derived.Test.YtlcglclojlffgaaGreatM1
import Derived.Test.YtlcglclojlffgaaGreatM2
import Derived.Test.YtlcglclojlffgaaGreatM0
import Derived.Maps.AppendAt
namespace Go.Proofs.YtlcglclojlffgaaGreat
open Go.RowKit

theorem all_msz_no {l : List Int} {k : Nat} {x : Int} (h : l[k]? = some x) (hx : msz x = false) : l.all msz = false := by
  rw [List.all_eq_false]; exact ⟨x, List.mem_of_getElem? h, by rw [hx]; decide⟩
theorem all_msz_snoc {l : List Int} {k : Nat} {x : Int} (h : l[k]? = some x) (h1 : (l.take k).all msz = true) (hx : msz x = true) : (l.take (k + 1)).all msz = true := by
  rw [take_snoc' h, List.all_append, h1]; simp [hx]
set_option maxRecDepth 100000 in
set_option maxHeartbeats 4000000 in
theorem isFamily_any (nm : ByteArray) (kd p k g : Int) (a1 : Option Addr) (szs : List Int) (c1 : Nat) (cl : Int) (a2 : Option Addr) (lvs : List Int) (c2 : Nat) (w : World) (h1 : IntsAt w a1 szs) (h2 : IntsAt w a2 lvs) (l1 : szs.length ≤ 1048576) (l2 : lvs.length ≤ 1048576) (ln : nm.size ≤ 1048576) (hw : ∀ x ∈ szs, -9223372036854775808 ≤ x ∧ x ≤ 9223372036854775807) :
    Calls Tryz.prog 28 #[(.agg #[.string nm, .int .i64 kd, .int .i64 p, .int .i64 k, .int .i64 g, .slice a1 szs.length c1, .int .i64 cl, .slice a2 lvs.length c2])] w fun e w' => e = .returned (.bool (Fam.ok ⟨nm, kd, p, k, g, szs, cl, lvs⟩)) ∧ Below w.heap.size w w' := by
  have H1 := Lib.hid h1
  have H2 := Lib.hid h2
  have HW := Lib.hid hw
  clear h1 h2 hw
  have hsl : inB (szs.length : Int) 1 8 = (decide (1 ≤ szs.length) && decide (szs.length ≤ 8)) := by rw [Bool.eq_iff_iff]; simp [inB]; omega
  have hll : inB (lvs.length : Int) 1 4 = (decide (1 ≤ lvs.length) && decide (lvs.length ≤ 4)) := by rw [Bool.eq_iff_iff]; simp [inB]; omega
  obtain ⟨ok, hok⟩ : ∃ ok, ok = Fam.ok ⟨nm, kd, p, k, g, szs, cl, lvs⟩ := ⟨_, rfl⟩
  rw [← hok]
  have HOK := Lib.hid (show ok = (nameB nm.data.toList && inB (lvs.length : Int) 1 4 && risB 1 80 lvs && inB (szs.length : Int) 1 8 && if kd = 1 then szs.all msz && fldB p k g && decide (cl = 0) && risB 17 41 szs else if kd = 2 then decide (p = 2) && decide (k = 5) && decide (g = 37) && decide (1 ≤ cl) && decide (cl ≤ 8) && risB 3 24 szs else false) by
    rw [hok, hsl, hll]; simp only [Fam.ok, Bool.and_assoc])
  clear hsl hll hok
  rcases Bool.eq_false_or_eq_true (nameB nm.data.toList) with n1 | n1
  · rcases Bool.eq_false_or_eq_true (inB (szs.length : Int) 1 8) with n2 | n2
    · rcases Bool.eq_false_or_eq_true (inB (lvs.length : Int) 1 4) with n3 | n3
      · rcases Bool.eq_false_or_eq_true (risB 1 80 lvs) with n4 | n4
        · by_cases k1 : kd = 1
          · subst k1
            have HOK2 := Lib.hid (show ok = (szs.all msz && fldB p k g && decide (cl = 0) && risB 17 41 szs) by rw [HOK.out, n1, n2, n3, n4, if_pos rfl]; rfl)
            go_enter Tryz.func28, Tryz.ntmps28
            go_wp2_with fail
            refine (isName_any nm _ ln).mono ?_
            rw [n1]
            rintro e w' ⟨rfl, rfl⟩
            go_wp2_with fail
            refine (inRange_any _ _ _ _).mono ?_
            rw [n2]
            rintro e w' ⟨rfl, rfl⟩
            go_wp2_with fail
            refine (inRange_any _ _ _ _).mono ?_
            rw [n3]
            rintro e w' ⟨rfl, rfl⟩
            go_wp2_with fail
            refine (rises_any 1 80 a2 lvs c2 _ (H2.out.below (ba1 _ _)) (by omega)).mono ?_
            rw [n4]
            rintro e w' ⟨rfl, rfl⟩
            go_wp2_with fail
            go_loop [4, 38] (fun _ i => ∃ j : Nat, j ≤ szs.length ∧ i = .int .i64 j ∧ (szs.take j).all msz = true) (fun _ i => szs.length - (intOf i).toNat)
            case atStart => exact ⟨0, Nat.zero_le _, rfl, rfl⟩
            case round =>
              obtain ⟨j, hj, rfl, hall⟩ := hrel
              have HA := Lib.hid hall
              clear hall
              by_cases hlt : j < szs.length
              · obtain ⟨b1, o1, x, rfl, hxk, hb1, hc1⟩ := (H1.out.below (ba1 w (.cells #[.string nm, .int .i64 1, .int .i64 p, .int .i64 k, .int .i64 g, .slice a1 szs.length c1, .int .i64 cl, .slice a2 lvs.length c2] 32 (0, 0)))).at hlt
                have hji : (j : Int) < (szs.length : Int) := by omega
                have HXK := Lib.hid hxk
                have hxr := HW.out x (List.mem_of_getElem? hxk)
                clear hxk
                rcases Bool.eq_false_or_eq_true (msz x) with hm | hm
                · go_wp2_with fail
                  refine (isMsz_any x _ hxr.1 hxr.2).mono ?_
                  rw [hm]
                  rintro e w' ⟨rfl, rfl⟩
                  go_wp2_with fail
                  exact ⟨⟨j + 1, by omega, by go_num, all_msz_snoc HXK.out HA.out hm⟩, by simp [intOf]; omega⟩
                · have HOK3 := Lib.hid (show ok = false by rw [HOK2.out, all_msz_no HXK.out hm]; simp)
                  go_wp2_with fail
                  refine (isMsz_any x _ hxr.1 hxr.2).mono ?_
                  rw [hm]
                  rintro e w' ⟨rfl, rfl⟩
                  go_wp2_with fail
                  go_ret
                  exact ⟨ret_bool HOK3.out.symm, ba1 _ _⟩
              · have hji : ¬ (j : Int) < (szs.length : Int) := by omega
                have HAll : Hid (szs.all msz = true) := Lib.hid (by have := HA.out; rwa [List.take_of_length_le (by omega)] at this)
                by_cases p2 : p = 2
                · subst p2
                  rcases Bool.eq_false_or_eq_true (fldB 2 k g) with f1 | f1
                  · by_cases c0 : cl = 0
                    · subst c0
                      have HOK3 := Lib.hid (show ok = risB 17 41 szs by rw [HOK2.out, HAll.out, f1]; simp)
                      go_wp2_with fail
                      refine (isField_two k g _).mono ?_
                      rw [f1]
                      rintro e w2 ⟨rfl, hb2⟩
                      have hbox := box1 hb2
                      have hz : w.heap.size < w2.heap.size := by have := hb2.size; simp at this; omega
                      have HB2 := Lib.hid (bt1 hb2)
                      clear hb2
                      go_wp2_with fail
                      refine (rises_any 17 41 a1 szs c1 _ (H1.out.below HB2.out) (by omega)).mono ?_
                      rintro e w' ⟨rfl, rfl⟩
                      go_wp2_with fail
                      go_ret
                      exact ⟨ret_bool HOK3.out.symm, HB2.out⟩
                    · have c0' : (cl == 0) = false := by rw [beq_eq_false_iff_ne]; exact c0
                      have HOK3 := Lib.hid (show ok = false by rw [HOK2.out, decide_eq_false c0]; simp)
                      clear c0
                      go_wp2_with fail
                      refine (isField_two k g _).mono ?_
                      rw [f1]
                      rintro e w2 ⟨rfl, hb2⟩
                      have hbox := box1 hb2
                      have hz : w.heap.size < w2.heap.size := by have := hb2.size; simp at this; omega
                      have HB2 := Lib.hid (bt1 hb2)
                      clear hb2
                      go_wp2_with fail
                      go_ret
                      exact ⟨ret_bool HOK3.out.symm, HB2.out⟩
                  · have HOK3 := Lib.hid (show ok = false by rw [HOK2.out, f1]; simp)
                    go_wp2_with fail
                    refine (isField_two k g _).mono ?_
                    rw [f1]
                    rintro e w2 ⟨rfl, hb2⟩
                    have hbox := box1 hb2
                    have hz : w.heap.size < w2.heap.size := by have := hb2.size; simp at this; omega
                    have HB2 := Lib.hid (bt1 hb2)
                    clear hb2
                    go_wp2_with fail
                    go_ret
                    exact ⟨ret_bool HOK3.out.symm, HB2.out⟩
                · have p2' : (p == 2) = false := by rw [beq_eq_false_iff_ne]; exact p2
                  have HOK3 := Lib.hid (show ok = false by rw [HOK2.out, fldB, decide_eq_false p2]; simp)
                  clear p2
                  go_wp2_with fail
                  go_ret
                  exact ⟨ret_bool HOK3.out.symm, ba1 _ _⟩
          · have k1' : (kd == 1) = false := by rw [beq_eq_false_iff_ne]; exact k1
            by_cases k2 : kd = 2
            · subst k2
              have HOK2 := Lib.hid (show ok = (decide (p = 2) && decide (k = 5) && decide (g = 37) && decide (1 ≤ cl) && decide (cl ≤ 8) && risB 3 24 szs) by rw [HOK.out, n1, n2, n3, n4, if_neg (by decide), if_pos rfl]; rfl)
              clear k1 HOK
              by_cases e1 : p = 2
              · subst e1
                by_cases e2 : k = 5
                · subst e2
                  by_cases e3 : g = 37
                  · subst e3
                    rcases Bool.eq_false_or_eq_true (inB cl 1 8) with e4 | e4
                    · have hcl := inB_iff.1 e4
                      have HOK3 := Lib.hid (show ok = risB 3 24 szs by rw [HOK2.out, decide_eq_true hcl.1, decide_eq_true hcl.2]; simp)
                      go_enter Tryz.func28, Tryz.ntmps28
                      go_wp2_with fail
                      refine (isName_any nm _ ln).mono ?_
                      rw [n1]
                      rintro e w' ⟨rfl, rfl⟩
                      go_wp2_with fail
                      refine (inRange_any _ _ _ _).mono ?_
                      rw [n2]
                      rintro e w' ⟨rfl, rfl⟩
                      go_wp2_with fail
                      refine (inRange_any _ _ _ _).mono ?_
                      rw [n3]
                      rintro e w' ⟨rfl, rfl⟩
                      go_wp2_with fail
                      refine (rises_any 1 80 a2 lvs c2 _ (H2.out.below (ba1 _ _)) (by omega)).mono ?_
                      rw [n4]
                      rintro e w' ⟨rfl, rfl⟩
                      go_wp2_with fail
                      refine (fieldOf_32 _).mono ?_
                      rintro e w2 ⟨rfl, hb2⟩
                      have hbox := box1 hb2
                      have hz : w.heap.size < w2.heap.size := by have := hb2.size; simp at this; omega
                      have HB2 := Lib.hid (bt1 hb2)
                      clear hb2
                      go_wp2_with fail
                      refine (inRange_any _ _ _ _).mono ?_
                      rw [e4]
                      rintro e w' ⟨rfl, rfl⟩
                      go_wp2_with fail
                      refine (rises_any 3 24 a1 szs c1 _ (H1.out.below (bt0 HB2.out (ba1 _ _) (Nat.le_refl _))) (by omega)).mono ?_
                      rintro e w' ⟨rfl, rfl⟩
                      go_wp2_with fail
                      go_ret
                      exact ⟨ret_bool HOK3.out.symm, bt0 HB2.out (ba1 _ _) (Nat.le_refl _)⟩
                    · have hcl := inB_not.1 e4
                      have HOK3 := Lib.hid (show ok = false by rw [HOK2.out]; rcases hcl with h | h <;> simp <;> omega)
                      go_enter Tryz.func28, Tryz.ntmps28
                      go_wp2_with fail
                      refine (isName_any nm _ ln).mono ?_
                      rw [n1]
                      rintro e w' ⟨rfl, rfl⟩
                      go_wp2_with fail
                      refine (inRange_any _ _ _ _).mono ?_
                      rw [n2]
                      rintro e w' ⟨rfl, rfl⟩
                      go_wp2_with fail
                      refine (inRange_any _ _ _ _).mono ?_
                      rw [n3]
                      rintro e w' ⟨rfl, rfl⟩
                      go_wp2_with fail
                      refine (rises_any 1 80 a2 lvs c2 _ (H2.out.below (ba1 _ _)) (by omega)).mono ?_
                      rw [n4]
                      rintro e w' ⟨rfl, rfl⟩
                      go_wp2_with fail
                      refine (fieldOf_32 _).mono ?_
                      rintro e w2 ⟨rfl, hb2⟩
                      have hbox := box1 hb2
                      have hz : w.heap.size < w2.heap.size := by have := hb2.size; simp at this; omega
                      have HB2 := Lib.hid (bt1 hb2)
                      clear hb2
                      go_wp2_with fail
                      refine (inRange_any _ _ _ _).mono ?_
                      rw [e4]
                      rintro e w' ⟨rfl, rfl⟩
                      go_wp2_with fail
                      go_ret
                      exact ⟨ret_bool HOK3.out.symm, bt0 HB2.out (ba1 _ _) (Nat.le_refl _)⟩
                  · have HOK3 := Lib.hid (show ok = false by rw [HOK2.out, decide_eq_false e3]; simp)
                    go_enter Tryz.func28, Tryz.ntmps28
                    go_wp2_with fail
                    refine (isName_any nm _ ln).mono ?_
                    rw [n1]
                    rintro e w' ⟨rfl, rfl⟩
                    go_wp2_with fail
                    refine (inRange_any _ _ _ _).mono ?_
                    rw [n2]
                    rintro e w' ⟨rfl, rfl⟩
                    go_wp2_with fail
                    refine (inRange_any _ _ _ _).mono ?_
                    rw [n3]
                    rintro e w' ⟨rfl, rfl⟩
                    go_wp2_with fail
                    refine (rises_any 1 80 a2 lvs c2 _ (H2.out.below (ba1 _ _)) (by omega)).mono ?_
                    rw [n4]
                    rintro e w' ⟨rfl, rfl⟩
                    go_wp2_with fail
                    refine (fieldOf_32 _).mono ?_
                    rintro e w2 ⟨rfl, hb2⟩
                    have hbox := box1 hb2
                    have hz : w.heap.size < w2.heap.size := by have := hb2.size; simp at this; omega
                    have HB2 := Lib.hid (bt1 hb2)
                    clear hb2
                    go_wp2_with fail
                    go_ret
                    exact ⟨ret_bool HOK3.out.symm, bt0 HB2.out (ba1 _ _) (Nat.le_refl _)⟩
                · have HOK3 := Lib.hid (show ok = false by rw [HOK2.out, decide_eq_false e2]; simp)
                  go_enter Tryz.func28, Tryz.ntmps28
                  go_wp2_with fail
                  refine (isName_any nm _ ln).mono ?_
                  rw [n1]
                  rintro e w' ⟨rfl, rfl⟩
                  go_wp2_with fail
                  refine (inRange_any _ _ _ _).mono ?_
                  rw [n2]
                  rintro e w' ⟨rfl, rfl⟩
                  go_wp2_with fail
                  refine (inRange_any _ _ _ _).mono ?_
                  rw [n3]
                  rintro e w' ⟨rfl, rfl⟩
                  go_wp2_with fail
                  refine (rises_any 1 80 a2 lvs c2 _ (H2.out.below (ba1 _ _)) (by omega)).mono ?_
                  rw [n4]
                  rintro e w' ⟨rfl, rfl⟩
                  go_wp2_with fail
                  refine (fieldOf_32 _).mono ?_
                  rintro e w2 ⟨rfl, hb2⟩
                  have hbox := box1 hb2
                  have hz : w.heap.size < w2.heap.size := by have := hb2.size; simp at this; omega
                  have HB2 := Lib.hid (bt1 hb2)
                  clear hb2
                  go_wp2_with fail
                  go_ret
                  exact ⟨ret_bool HOK3.out.symm, bt0 HB2.out (ba1 _ _) (Nat.le_refl _)⟩
              · have HOK3 := Lib.hid (show ok = false by rw [HOK2.out, decide_eq_false e1]; simp)
                go_enter Tryz.func28, Tryz.ntmps28
                go_wp2_with fail
                refine (isName_any nm _ ln).mono ?_
                rw [n1]
                rintro e w' ⟨rfl, rfl⟩
                go_wp2_with fail
                refine (inRange_any _ _ _ _).mono ?_
                rw [n2]
                rintro e w' ⟨rfl, rfl⟩
                go_wp2_with fail
                refine (inRange_any _ _ _ _).mono ?_
                rw [n3]
                rintro e w' ⟨rfl, rfl⟩
                go_wp2_with fail
                refine (rises_any 1 80 a2 lvs c2 _ (H2.out.below (ba1 _ _)) (by omega)).mono ?_
                rw [n4]
                rintro e w' ⟨rfl, rfl⟩
                go_wp2_with fail
                refine (fieldOf_32 _).mono ?_
                rintro e w2 ⟨rfl, hb2⟩
                have hbox := box1 hb2
                have hz : w.heap.size < w2.heap.size := by have := hb2.size; simp at this; omega
                have HB2 := Lib.hid (bt1 hb2)
                clear hb2
                go_wp2_with fail
                go_ret
                exact ⟨ret_bool HOK3.out.symm, bt0 HB2.out (ba1 _ _) (Nat.le_refl _)⟩
            · have k2' : (kd == 2) = false := by rw [beq_eq_false_iff_ne]; exact k2
              have HOK2 := Lib.hid (show ok = false by rw [HOK.out, n1, n2, n3, n4, if_neg k1, if_neg k2]; rfl)
              clear k1 k2
              go_enter Tryz.func28, Tryz.ntmps28
              go_wp2_with fail
              refine (isName_any nm _ ln).mono ?_
              rw [n1]
              rintro e w' ⟨rfl, rfl⟩
              go_wp2_with fail
              refine (inRange_any _ _ _ _).mono ?_
              rw [n2]
              rintro e w' ⟨rfl, rfl⟩
              go_wp2_with fail
              refine (inRange_any _ _ _ _).mono ?_
              rw [n3]
              rintro e w' ⟨rfl, rfl⟩
              go_wp2_with fail
              refine (rises_any 1 80 a2 lvs c2 _ (H2.out.below (ba1 _ _)) (by omega)).mono ?_
              rw [n4]
              rintro e w' ⟨rfl, rfl⟩
              go_wp2_with fail
              go_ret
              exact ⟨ret_bool HOK2.out.symm, ba1 _ _⟩
        · have HOK2 := Lib.hid (show ok = false by rw [HOK.out, n4]; simp)
          go_enter Tryz.func28, Tryz.ntmps28
          go_wp2_with fail
          refine (isName_any nm _ ln).mono ?_
          rw [n1]
          rintro e w' ⟨rfl, rfl⟩
          go_wp2_with fail
          refine (inRange_any _ _ _ _).mono ?_
          rw [n2]
          rintro e w' ⟨rfl, rfl⟩
          go_wp2_with fail
          refine (inRange_any _ _ _ _).mono ?_
          rw [n3]
          rintro e w' ⟨rfl, rfl⟩
          go_wp2_with fail
          refine (rises_any 1 80 a2 lvs c2 _ (H2.out.below (ba1 _ _)) (by omega)).mono ?_
          rw [n4]
          rintro e w' ⟨rfl, rfl⟩
          go_wp2_with fail
          go_ret
          exact ⟨ret_bool HOK2.out.symm, ba1 _ _⟩
      · have HOK2 := Lib.hid (show ok = false by rw [HOK.out, n3]; simp)
        go_enter Tryz.func28, Tryz.ntmps28
        go_wp2_with fail
        refine (isName_any nm _ ln).mono ?_
        rw [n1]
        rintro e w' ⟨rfl, rfl⟩
        go_wp2_with fail
        refine (inRange_any _ _ _ _).mono ?_
        rw [n2]
        rintro e w' ⟨rfl, rfl⟩
        go_wp2_with fail
        refine (inRange_any _ _ _ _).mono ?_
        rw [n3]
        rintro e w' ⟨rfl, rfl⟩
        go_wp2_with fail
        go_ret
        exact ⟨ret_bool HOK2.out.symm, ba1 _ _⟩
    · have HOK2 := Lib.hid (show ok = false by rw [HOK.out, n2]; simp)
      go_enter Tryz.func28, Tryz.ntmps28
      go_wp2_with fail
      refine (isName_any nm _ ln).mono ?_
      rw [n1]
      rintro e w' ⟨rfl, rfl⟩
      go_wp2_with fail
      refine (inRange_any _ _ _ _).mono ?_
      rw [n2]
      rintro e w' ⟨rfl, rfl⟩
      go_wp2_with fail
      go_ret
      exact ⟨ret_bool HOK2.out.symm, ba1 _ _⟩
  · have HOK2 := Lib.hid (show ok = false by rw [HOK.out, n1]; simp)
    go_enter Tryz.func28, Tryz.ntmps28
    go_wp2_with fail
    refine (isName_any nm _ ln).mono ?_
    rw [n1]
    rintro e w' ⟨rfl, rfl⟩
    go_wp2_with fail
    go_ret
    exact ⟨ret_bool HOK2.out.symm, ba1 _ _⟩

end Go.Proofs.YtlcglclojlffgaaGreat
namespace Go.Proofs.YtlcglclojlffgaaGreat
open Go.RowKit

set_option maxHeartbeats 400000 in
theorem fieldSize_any {p k g : Int} {F : Fd} (h : FV p k g F) (w : World) :
    Calls Tryz.prog 70 #[.agg #[.int .i64 p, .int .i64 k, .int .i64 g]] w fun e w' => e = .returned (.int .i64 F.q) ∧ Below w.heap.size w w' := by
  have H := Lib.hid h
  clear h
  go_enter Tryz.func70, Tryz.ntmps70
  go_wp2_with fail
  refine (calc_fv H.out _).mono ?_
  rintro e w1 ⟨hb1, a1, rfl, ha⟩
  obtain ⟨b, rfl, -, hA⟩ := ha rfl
  have hqc := hA.cell.2.1
  have HB := Lib.hid (bt1 hb1)
  clear hb1 ha hA
  go_wp2_with fail
  go_ret
  exact ⟨rfl, HB.out⟩
set_option maxHeartbeats 400000 in
theorem fieldWidth_any {p k g : Int} {F : Fd} (h : FV p k g F) (w : World) :
    Calls Tryz.prog 104 #[.agg #[.int .i64 p, .int .i64 k, .int .i64 g]] w fun e w' => e = .returned (.int .i64 F.k) ∧ Below w.heap.size w w' := by
  have H := Lib.hid h
  clear h
  go_enter Tryz.func104, Tryz.ntmps104
  go_wp2_with fail
  refine (calc_fv H.out _).mono ?_
  rintro e w1 ⟨hb1, a1, rfl, ha⟩
  obtain ⟨b, rfl, -, hA⟩ := ha rfl
  have HA := Lib.hid hA
  have HB := Lib.hid (bt1 hb1)
  clear hb1 ha hA
  go_wp2_with fail
  refine (width_any F H.out.fd b _ HA.out).mono ?_
  rintro e w2 h2
  obtain ⟨rfl, hb2⟩ := h2.below
  have HB2 := Lib.hid (bt0 HB.out hb2 (Nat.le_refl _))
  clear h2 hb2
  go_wp2_with fail
  go_ret
  exact ⟨rfl, HB2.out⟩

end Go.Proofs.YtlcglclojlffgaaGreat
namespace Go.Proofs.YtlcglclojlffgaaGreat
open Go.RowKit

theorem calls_extB {P : Program} {f : FuncId} {args : Array Value} {w : World} {v : Value} (s : Ext w) {B : Nat} (hB : s.w.heap.size ≤ B)
    (h : Calls P f args s.w fun e w' => e = .returned v ∧ Below B s.w w') : Calls P f args s.w fun e w'' => e = .returned v ∧ ∃ s' : Ext w, w'' = s'.w :=
  calls_ext s (h.mono fun _ _ ⟨he, hb⟩ => ⟨he, hb.mono hB⟩)
/-- what a valid family says in numbers -/
theorem fam_ok {nm : ByteArray} {kd p k g : Int} {szs : List Int} {cl : Int} {lvs : List Int} (h : Fam.ok ⟨nm, kd, p, k, g, szs, cl, lvs⟩ = true) :
    fldB p k g = true ∧ (1 ≤ lvs.length ∧ lvs.length ≤ 4) ∧ risB 1 80 lvs = true ∧ (1 ≤ szs.length ∧ szs.length ≤ 8) ∧
      ((kd = 1 ∧ szs.all msz = true ∧ cl = 0) ∨ (kd = 2 ∧ p = 2 ∧ k = 5 ∧ g = 37 ∧ (1 ≤ cl ∧ cl ≤ 8) ∧ risB 3 24 szs = true)) := by
  simp only [Fam.ok, Bool.and_eq_true, decide_eq_true_eq] at h
  obtain ⟨⟨⟨⟨⟨⟨h1, h2⟩, h3⟩, h4⟩, h5⟩, h6⟩, h7⟩ := h
  by_cases k1 : kd = 1
  · rw [if_pos k1] at h7
    simp only [Bool.and_eq_true, decide_eq_true_eq] at h7
    obtain ⟨⟨⟨h8, h9⟩, h10⟩, h11⟩ := h7
    exact ⟨h9, ⟨h2, h3⟩, h4, ⟨h5, h6⟩, .inl ⟨k1, h8, h10⟩⟩
  · rw [if_neg k1] at h7
    by_cases k2 : kd = 2
    · rw [if_pos k2] at h7
      simp only [Bool.and_eq_true, decide_eq_true_eq] at h7
      obtain ⟨⟨⟨⟨⟨h8, h9⟩, h10⟩, h11⟩, h12⟩, h13⟩ := h7
      subst h8 h9 h10
      exact ⟨least5.2.2.2.2.1, ⟨h2, h3⟩, h4, ⟨h5, h6⟩, .inr ⟨k2, rfl, rfl, rfl, ⟨h11, h12⟩, h13⟩⟩
    · rw [if_neg k2] at h7
      cases h7
theorem ris_in {lo hi : Int} {l : List Int} (h : risB lo hi l = true) {x : Int} (hx : x ∈ l) : lo ≤ x ∧ x ≤ hi := by
  rw [risB, decide_eq_true_eq] at h
  obtain ⟨i, hi', rfl⟩ := List.mem_iff_getElem.1 hx
  have h1 := (h i hi').1
  rwa [List.getD_eq_getElem?_getD, List.getElem?_eq_getElem hi'] at h1
theorem hasI_mem {xs : List Int} {n : Int} (h : hasI xs n = true) : n ∈ xs := by simpa [hasI] using h
/-- the number of elements: bounds -/
theorem elems_bd {nm : ByteArray} {kd p k g : Int} {szs : List Int} {cl : Int} {lvs : List Int} {n : Int} (h : Fam.ok ⟨nm, kd, p, k, g, szs, cl, lvs⟩ = true) (hn : hasI szs n = true) :
    3 ≤ Fam.elems ⟨nm, kd, p, k, g, szs, cl, lvs⟩ n ∧ Fam.elems ⟨nm, kd, p, k, g, szs, cl, lvs⟩ n ≤ 1408 := by
  obtain ⟨h1, h2, h3, h4, h5⟩ := fam_ok h
  have hf := fldB_ok h1
  have hk := hf.k
  have hk3 := hf.k3
  have hk8 := hf.k8
  have hm := hasI_mem hn
  unfold Fam.elems
  dsimp only
  rcases h5 with ⟨rfl, h6, h7⟩ | ⟨rfl, -, -, -, h6, h7⟩
  · rw [if_neg (by decide)]
    have hd := dcnt_bd n
    rw [hk]
    obtain ⟨K, hK⟩ : ∃ K, K = (bF k.toNat g.toNat).k := ⟨_, rfl⟩
    rw [← hK] at hk3 hk8 ⊢
    have e : ((dcnt n : Int) / (K : Int)) = ((dcnt n / K : Nat) : Int) := by push_cast; rfl
    rw [e]
    have h8 : 8 * K ≤ dcnt n := by omega
    have h9 : 8 ≤ dcnt n / K := (Nat.le_div_iff_mul_le (by omega)).2 h8
    have h10 := Nat.div_le_self (dcnt n) K
    omega
  · rw [if_pos rfl]
    have h8 := ris_in h7 hm
    have h9 : 3 * 1 ≤ n * cl := Int.mul_le_mul h8.1 h6.1 (by omega) (by omega)
    have h10 : n * cl ≤ 24 * 8 := Int.mul_le_mul h8.2 h6.2 (by omega) (by omega)
    omega

set_option maxRecDepth 100000 in
set_option maxHeartbeats 2000000 in
theorem elements_any (nm : ByteArray) (kd p k g : Int) (a1 : Option Addr) (szs : List Int) (c1 : Nat) (cl : Int) (a2 : Option Addr) (lvs : List Int) (c2 : Nat) (n : Int) (w : World) (h : Fam.ok ⟨nm, kd, p, k, g, szs, cl, lvs⟩ = true) (hn : hasI szs n = true) :
    Calls Tryz.prog 69 #[(.agg #[.string nm, .int .i64 kd, .int .i64 p, .int .i64 k, .int .i64 g, .slice a1 szs.length c1, .int .i64 cl, .slice a2 lvs.length c2]), .int .i64 n] w fun e w' => e = .returned (.int .i64 (Fam.elems ⟨nm, kd, p, k, g, szs, cl, lvs⟩ n)) ∧ Below w.heap.size w w' := by
  have hbd := elems_bd h hn
  obtain ⟨E, hE⟩ : ∃ E, E = Fam.elems ⟨nm, kd, p, k, g, szs, cl, lvs⟩ n := ⟨_, rfl⟩
  rw [← hE] at hbd ⊢
  obtain ⟨h1, h2, h3, h4, h5⟩ := fam_ok h
  have hm := hasI_mem hn
  unfold Fam.elems at hE
  dsimp only at hE
  have HE := Lib.hid hE
  clear hE
  rcases h5 with ⟨rfl, h6, h7⟩ | ⟨rfl, -, -, -, h6, h7⟩
  · have HS := Lib.hid (List.all_eq_true.1 h6 n hm)
    have hb := msz_bd HS.out
    rw [if_neg (by decide)] at HE
    have HF := Lib.hid (fv_of h1)
    have hk := HF.out.ok.k
    have hk3 := HF.out.ok.k3
    have hk8 := HF.out.ok.k8
    obtain ⟨F, hFe⟩ : ∃ F, F = bF k.toNat g.toNat := ⟨_, rfl⟩
    rw [← hFe] at HF hk hk3 hk8
    have HK := Lib.hid hk
    have hd := dcnt_bd n
    obtain ⟨D, hD⟩ : ∃ D, D = dcnt n := ⟨_, rfl⟩
    rw [← hD] at hd HE
    have HD := Lib.hid (show (if msz n = true then (dcnt n : Int) else 0) = (D : Int) by rw [if_pos HS.out, hD])
    obtain ⟨K, hKe⟩ : ∃ K, K = F.k := ⟨_, rfl⟩
    rw [← hKe] at hk3 hk8 HK
    have HKe := Lib.hid hKe
    rw [HK.out] at HE
    have hq : (0 : Int) ≤ (D : Int) / (K : Int) ∧ (D : Int) / (K : Int) ≤ 1408 := by rw [← HE.out]; omega
    have hK0 : ((K : Int) == 0) = false := by rw [beq_eq_false_iff_ne]; omega
    clear h1 h2 h3 h4 h6 h7 hm hk hFe hD hKe
    go_enter Tryz.func69, Tryz.ntmps69
    go_wp2_with fail
    refine wp_region_ext (by kernel_rfl) (by kernel_rfl) ?_
    repeat (go_big_quiet_step ((first
      | ((go_at_call 103; go_must (refine calls_ext _ ((dataCount_any n _ (by omega) (by omega)).mono (R' := fun e w' => e = .returned (.int .i64 (D : Int)) ∧ _) (fun e w' h => ⟨by rw [h.1, HD.out], h.2⟩)))))
      | ((go_at_call 104; go_must (refine calls_ext _ ((fieldWidth_any HF.out _).mono (R' := fun e w' => e = .returned (.int .i64 (K : Int)) ∧ _) (fun e w' h => ⟨by rw [h.1, HKe.out], h.2⟩))))))))
    refine wpQuiet_nil ?_
    rintro _ ⟨s, rfl⟩
    go_wp2_with fail
    go_ret
    exact ⟨ret_int HE.out.symm, bt0 (ba1 _ _) s.below (Nat.le_refl _)⟩
  · rw [if_pos rfl] at HE
    have HW := Lib.hid (show wrap64 (n * cl) = E by rw [← HE.out]; unfold wrap64; omega)
    clear h1 h2 h3 h4 h6 h7 hm
    go_enter Tryz.func69, Tryz.ntmps69
    go_wp2_with fail
    go_ret
    exact ⟨ret_int HW.out, ba1 _ _⟩

end Go.Proofs.YtlcglclojlffgaaGreat
namespace Go.Proofs.YtlcglclojlffgaaGreat
open Go.RowKit

/-- what the reference says of a family's kind -/
def kindB (kd p k g : Int) (szs : List Int) (cl : Int) : Bool :=
  if kd = 2 then decide (p = 2 ∧ k = 5 ∧ g = 37) && inB cl 1 8 && risS 8 3 24 szs
  else decide (kd = 1) && fldB p k g && decide (cl = 0) && risS 8 17 41 szs && szs.all fun x => x % 4 == 1
theorem fam_eq (nm : ByteArray) (kd p k g : Int) (szs : List Int) (cl : Int) (lvs : List Int) :
    Fam.ok ⟨nm, kd, p, k, g, szs, cl, lvs⟩ = (nameB nm.data.toList && risS 4 1 80 lvs && kindB kd p k g szs cl) := by
  have hm : risB 17 41 szs = true → szs.all msz = szs.all fun x => x % 4 == 1 := fun h => by
    rw [Bool.eq_iff_iff, List.all_eq_true, List.all_eq_true]
    constructor
    · intro h2 x hx
      have := h2 x hx
      simp only [msz, Bool.and_eq_true] at this
      exact this.2
    · intro h2 x hx
      have h3 := ris_in h hx
      simp only [msz, Bool.and_eq_true, decide_eq_true_eq]
      exact ⟨h3, h2 x hx⟩
  rw [Bool.eq_iff_iff]
  simp only [Fam.ok, kindB, risS, Bool.and_eq_true, decide_eq_true_eq]
  by_cases k1 : kd = 1
  · have k2 : ¬ kd = 2 := by omega
    rw [if_pos k1, if_neg k2]
    simp only [Bool.and_eq_true, decide_eq_true_eq]
    constructor
    · rintro ⟨⟨⟨⟨⟨⟨h1, h2⟩, h3⟩, h4⟩, h5⟩, h6⟩, ⟨⟨h7, h8⟩, h9⟩, h10⟩
      exact ⟨⟨h1, ⟨h2, h3⟩, h4⟩, ⟨⟨⟨k1, h8⟩, h9⟩, ⟨h5, h6⟩, h10⟩, by rw [← hm h10]; exact h7⟩
    · rintro ⟨⟨h1, ⟨h2, h3⟩, h4⟩, ⟨⟨⟨-, h8⟩, h9⟩, ⟨h5, h6⟩, h10⟩, h7⟩
      exact ⟨⟨⟨⟨⟨⟨h1, h2⟩, h3⟩, h4⟩, h5⟩, h6⟩, ⟨⟨by rw [hm h10]; exact h7, h8⟩, h9⟩, h10⟩
  · rw [if_neg k1]
    by_cases k2 : kd = 2
    · rw [if_pos k2, if_pos k2]
      simp only [Bool.and_eq_true, decide_eq_true_eq, inB]
      constructor
      · rintro ⟨⟨⟨⟨⟨⟨h1, h2⟩, h3⟩, h4⟩, h5⟩, h6⟩, ⟨⟨⟨⟨h7, h8⟩, h9⟩, h10⟩, h11⟩, h12⟩
        exact ⟨⟨h1, ⟨h2, h3⟩, h4⟩, ⟨⟨h7, h8, h9⟩, h10, h11⟩, ⟨h5, h6⟩, h12⟩
      · rintro ⟨⟨h1, ⟨h2, h3⟩, h4⟩, ⟨⟨h7, h8, h9⟩, h10, h11⟩, ⟨h5, h6⟩, h12⟩
        exact ⟨⟨⟨⟨⟨⟨h1, h2⟩, h3⟩, h4⟩, h5⟩, h6⟩, ⟨⟨⟨⟨h7, h8⟩, h9⟩, h10⟩, h11⟩, h12⟩
    · rw [if_neg k2, if_neg k2]
      simp [k1]
theorem kind_fld {kd p k g : Int} {szs : List Int} {cl : Int} (h : fldB p k g = false) : kindB kd p k g szs cl = false := by
  unfold kindB
  split
  · have : ¬ (p = 2 ∧ k = 5 ∧ g = 37) := by
      rintro ⟨rfl, rfl, rfl⟩
      have h2 : fldB 2 5 37 = true := least5.2.2.2.2.1
      rw [h2] at h; cases h
    rw [decide_eq_false this]; rfl
  · rw [h]; simp
set_option maxRecDepth 100000 in
set_option maxHeartbeats 4000000 in
theorem spFamily_any (nm : ByteArray) (kd p k g : Int) (a1 : Option Addr) (szs : List Int) (c1 : Nat) (cl : Int) (a2 : Option Addr) (lvs : List Int) (c2 : Nat) (w : World) (h1 : IntsAt w a1 szs) (h2 : IntsAt w a2 lvs) (l1 : szs.length ≤ 1048576) (l2 : lvs.length ≤ 1048576) (ln : nm.size ≤ 1048576) :
    Calls Tryz.prog 48 #[(.agg #[.string nm, .int .i64 kd, .int .i64 p, .int .i64 k, .int .i64 g, .slice a1 szs.length c1, .int .i64 cl, .slice a2 lvs.length c2])] w fun e w' => e = .returned (.bool (Fam.ok ⟨nm, kd, p, k, g, szs, cl, lvs⟩)) ∧ Below w.heap.size w w' := by
  have H1 := Lib.hid h1
  have H2 := Lib.hid h2
  obtain ⟨ok, hok⟩ : ∃ ok, ok = Fam.ok ⟨nm, kd, p, k, g, szs, cl, lvs⟩ := ⟨_, rfl⟩
  rw [← hok]
  have HOK := Lib.hid (hok.trans (fam_eq nm kd p k g szs cl lvs))
  clear h1 h2 hok
  go_enter Tryz.func48, Tryz.ntmps48
  go_wp2_with fail
  have hz := push_at w (.cells #[.string nm, .int .i64 kd, .int .i64 p, .int .i64 k, .int .i64 g, .slice a1 szs.length c1, .int .i64 cl, .slice a2 lvs.length c2] 32 (0, 0))
  have HB0 := Lib.hid (ba1 w (.cells #[.string nm, .int .i64 kd, .int .i64 p, .int .i64 k, .int .i64 g, .slice a1 szs.length c1, .int .i64 cl, .slice a2 lvs.length c2] 32 (0, 0)))
  obtain ⟨w1, hw1⟩ : ∃ w1, w1 = w.alloc (.cells #[.string nm, .int .i64 kd, .int .i64 p, .int .i64 k, .int .i64 g, .slice a1 szs.length c1, .int .i64 cl, .slice a2 lvs.length c2] 32 (0, 0)) := ⟨_, rfl⟩
  rw [← hw1] at hz HB0 ⊢
  have HX1 := Lib.hid hz
  obtain ⟨hcA, hfA⟩ := heap_cellR hz
  have hltA := blkLt hz
  clear hw1 hz
  refine (spName_any nm w1 ln).mono ?_
  rintro e w2 ⟨rfl, rfl⟩
  rcases Bool.eq_false_or_eq_true (nameB nm.data.toList) with n1 | n1
  · rw [n1]
    go_wp2_with fail
    refine (spField_any p k g w1).mono ?_
    rintro e w2 ⟨b, rfl, hb1, hb2, hb3⟩
    have HX2 := Lib.hid (blkK hb3 HX1.out)
    have HB2 := Lib.hid (bt0 HB0.out hb3 (Nat.le_refl _))
    clear hb3 hcA hfA hltA
    obtain ⟨hcA, hfA⟩ := heap_cellR HX2.out
    have hltA := blkLt HX2.out
    cases b with
    | false =>
      have HE := Lib.hid (show ok = false by
        rw [HOK.out, kind_fld, Bool.and_false]
        by_cases hk : k = 1
        · rw [hk, fldB_1]
        · exact (hb1 hk).symm)
      clear hb1 hb2
      go_wp2_with fail
      go_ret
      exact ⟨ret_bool HE.out.symm, HB2.out⟩
    | true =>
      have HBt := Lib.hid hb1
      have HBo := Lib.hid hb2
      clear hb1 hb2
      go_wp2_with fail
      refine (spRises_any 4 (by decide) 1 80 a2 lvs c2 w2 (H2.out.below HB2.out) (by omega)).mono ?_
      rintro e w3 ⟨rfl, n3, rfl⟩
      have HX3 := Lib.hid (blkK (below_drewN (Below.refl _ _) n3) HX2.out)
      have HB3 := Lib.hid (bt0 HB2.out (below_drewN (Below.refl _ _) n3) (Nat.le_refl _))
      obtain ⟨w3, hw3⟩ : ∃ w3, w3 = w2.drewN n3 := ⟨_, rfl⟩
      rw [← hw3] at HX3 HB3 ⊢
      clear hcA hfA hltA hw3
      obtain ⟨hcA, hfA⟩ := heap_cellR HX3.out
      have hltA := blkLt HX3.out
      rcases Bool.eq_false_or_eq_true (risS 4 1 80 lvs) with n2 | n2
      · rw [n2]
        have HOK2 := Lib.hid (show ok = kindB kd p k g szs cl by rw [HOK.out, n1, n2]; rfl)
        by_cases k2 : kd = 2
        · subst k2
          go_wp2_with fail
          refine (spFieldOf_32 w3).mono ?_
          rintro e w4 ⟨rfl, hb4⟩
          have HX4 := Lib.hid (blkK hb4 HX3.out)
          have HB4 := Lib.hid (bt0 HB3.out hb4 (Nat.le_refl _))
          clear hb4 hcA hfA hltA
          obtain ⟨hcA, hfA⟩ := heap_cellR HX4.out
          have hltA := blkLt HX4.out
          have HOK3 := Lib.hid (show ok = (decide (p = 2 ∧ k = 5 ∧ g = 37) && inB cl 1 8 && risS 8 3 24 szs) from HOK2.out)
          have HB5 := Lib.hid (bt0 HB4.out (ba1 w4 (.cells #[.int .i64 2, .int .i64 5, .int .i64 37] 30 (0, 0))) (Nat.le_refl _))
          have HX5 := Lib.hid (push_old (A := .cells #[.int .i64 2, .int .i64 5, .int .i64 37] 30 (0, 0)) HX4.out)
          by_cases e1 : p = 2
          · subst e1
            by_cases e2 : k = 5
            · subst e2
              by_cases e3 : g = 37
              · subst e3
                have HOK4 := Lib.hid (show ok = (inB cl 1 8 && risS 8 3 24 szs) by rw [HOK3.out]; rfl)
                go_wp2_with fail
                refine (spIn_any cl 1 8 _).mono ?_
                rintro e w5 ⟨rfl, rfl⟩
                rcases Bool.eq_false_or_eq_true (inB cl 1 8) with i1 | i1
                · rw [i1]
                  have HOK5 := Lib.hid (show ok = risS 8 3 24 szs by rw [HOK4.out, i1]; rfl)
                  obtain ⟨hcB, hfB⟩ := heap_cellR HX5.out
                  have hltB := blkLt HX5.out
                  go_wp2_with fail
                  refine (spRises_any 8 (by decide) 3 24 a1 szs c1 _ (H1.out.below HB5.out) (by omega)).mono ?_
                  rintro e w6 ⟨rfl, n6, rfl⟩
                  have HB6 := Lib.hid (bt0 HB5.out (below_drewN (Below.refl _ _) n6) (Nat.le_refl _))
                  rw [← HOK5.out]
                  go_wp2_with fail
                  go_ret
                  exact ⟨rfl, HB6.out⟩
                · rw [i1]
                  have HE := Lib.hid (show ok = false by rw [HOK4.out, i1]; rfl)
                  go_wp2_with fail
                  go_ret
                  exact ⟨ret_bool HE.out.symm, HB5.out⟩
              · have e3b : (g == 37) = false := by rw [beq_eq_false_iff_ne]; exact e3
                have HE := Lib.hid (show ok = false by rw [HOK3.out, decide_eq_false (fun h => e3 h.2.2)]; rfl)
                go_wp2_with fail
                go_ret
                exact ⟨ret_bool HE.out.symm, HB5.out⟩
            · have e2b : (k == 5) = false := by rw [beq_eq_false_iff_ne]; exact e2
              have HE := Lib.hid (show ok = false by rw [HOK3.out, decide_eq_false (fun h => e2 h.2.1)]; rfl)
              go_wp2_with fail
              go_ret
              exact ⟨ret_bool HE.out.symm, HB5.out⟩
          · have e1b : (p == 2) = false := by rw [beq_eq_false_iff_ne]; exact e1
            have HE := Lib.hid (show ok = false by rw [HOK3.out, decide_eq_false (fun h => e1 h.1)]; rfl)
            go_wp2_with fail
            go_ret
            exact ⟨ret_bool HE.out.symm, HB5.out⟩
        · have k2b : (kd == 2) = false := by rw [beq_eq_false_iff_ne]; exact k2
          have HOK3 := Lib.hid (HOK2.out.trans (if_neg k2))
          by_cases k1 : kd = 1
          · subst k1
            by_cases p2 : p = 2
            · subst p2
              have hf : fldB 2 k g = true := by
                have hk : k ≠ 1 := fun e => by have := HBo.out e trivial; omega
                exact (HBt.out hk).symm
              by_cases c0 : cl = 0
              · subst c0
                have HOK4 := Lib.hid (show ok = (risS 8 17 41 szs && szs.all fun x => x % 4 == 1) by rw [HOK3.out, hf]; rfl)
                clear hf
                go_wp2_with fail
                refine (spRises_any 8 (by decide) 17 41 a1 szs c1 w3 (H1.out.below HB3.out) (by omega)).mono ?_
                rintro e w4 ⟨rfl, n4, rfl⟩
                have HX4 := Lib.hid (blkK (below_drewN (Below.refl _ _) n4) HX3.out)
                have HB4 := Lib.hid (bt0 HB3.out (below_drewN (Below.refl _ _) n4) (Nat.le_refl _))
                obtain ⟨w4, hw4⟩ : ∃ w4, w4 = w3.drewN n4 := ⟨_, rfl⟩
                rw [← hw4] at HX4 HB4 ⊢
                clear hcA hfA hltA hw4
                obtain ⟨hcA, hfA⟩ := heap_cellR HX4.out
                have hltA := blkLt HX4.out
                have HI4 := Lib.hid (H1.out.below HB4.out)
                rcases Bool.eq_false_or_eq_true (risS 8 17 41 szs) with r1 | r1
                · rw [r1]
                  have HOK5 := Lib.hid (show ok = szs.all fun x => x % 4 == 1 by rw [HOK4.out, r1]; rfl)
                  have HRB := Lib.hid (show risB 17 41 szs = true by rw [risS, Bool.and_eq_true] at r1; exact r1.2)
                  go_wp2_with fail
                  go_loopw [5] (fun i wr => ∃ j : Nat, j ≤ szs.length ∧ i = .int .i64 j ∧ (szs.take j).all (fun x => x % 4 == 1) = true ∧ wr = w4) (fun i _ => szs.length - (intOf i).toNat)
                  case atStart => exact ⟨0, Nat.zero_le _, rfl, rfl, rfl⟩
                  case round =>
                    obtain ⟨j, hj, rfl, hall, rfl⟩ := hrel
                    have HA := Lib.hid hall
                    clear hall
                    by_cases hlt : j < szs.length
                    · obtain ⟨b1, o1, x, rfl, hxk, hb1, hc1⟩ := HI4.out.at hlt
                      have hji : (j : Int) < (szs.length : Int) := by omega
                      have hxr := ris_in HRB.out (List.mem_of_getElem? hxk)
                      have HXK := Lib.hid hxk
                      have htm : x.tmod 4 = x % 4 := Int.tmod_eq_emod_of_nonneg (by omega)
                      have hwr : IntKind.i64.wrap (x % 4) = x % 4 := by rw [IntKind.wrap_i64]; omega
                      clear hxk
                      cases hm : (x % 4 == 1) with
                      | true =>
                        have hmb : (x % 4 != 1) = false := by rw [bne, hm]; rfl
                        have HAL := Lib.hid (show (szs.take (j + 1)).all (fun x => x % 4 == 1) = true by rw [take_snoc' HXK.out, List.all_append, HA.out]; simp [hm])
                        clear hm
                        go_wp2_with fail
                        exact ⟨⟨j + 1, by omega, by push_cast; rfl, HAL.out, trivial⟩, by simp [intOf]; omega⟩
                      | false =>
                        have hmb : (x % 4 != 1) = true := by rw [bne, hm]; rfl
                        have HE := Lib.hid (show ok = false by
                          rw [HOK5.out, List.all_eq_false]
                          exact ⟨x, List.mem_of_getElem? HXK.out, by simp [hm]⟩)
                        clear hm
                        go_wp2_with fail
                        go_ret
                        exact ⟨ret_bool HE.out.symm, HB4.out⟩
                    · have hji : ¬ (j : Int) < (szs.length : Int) := by omega
                      have HE := Lib.hid (show ok = true by
                        have h1 := HA.out
                        rw [List.take_of_length_le (by omega)] at h1
                        rw [HOK5.out, h1])
                      go_wp2_with fail
                      go_ret
                      exact ⟨ret_bool HE.out.symm, HB4.out⟩
                · rw [r1]
                  have HE := Lib.hid (show ok = false by rw [HOK4.out, r1]; rfl)
                  go_wp2_with fail
                  go_ret
                  exact ⟨ret_bool HE.out.symm, HB4.out⟩
              · have c0b : (cl != 0) = true := by rw [bne_iff_ne]; exact c0
                have HE := Lib.hid (show ok = false by rw [HOK3.out, decide_eq_false c0]; simp)
                clear hf
                go_wp2_with fail
                go_ret
                exact ⟨ret_bool HE.out.symm, HB3.out⟩
            · have p2b : (p != 2) = true := by rw [bne_iff_ne]; exact p2
              have HE := Lib.hid (show ok = false by rw [HOK3.out, fldB, decide_eq_false p2]; simp)
              go_wp2_with fail
              go_ret
              exact ⟨ret_bool HE.out.symm, HB3.out⟩
          · have k1b : (kd != 1) = true := by rw [bne_iff_ne]; exact k1
            have HE := Lib.hid (show ok = false by rw [HOK3.out, decide_eq_false k1]; rfl)
            go_wp2_with fail
            go_ret
            exact ⟨ret_bool HE.out.symm, HB3.out⟩
      · rw [n2]
        have HE := Lib.hid (show ok = false by rw [HOK.out, n2]; simp)
        go_wp2_with fail
        go_ret
        exact ⟨ret_bool HE.out.symm, HB3.out⟩
  · rw [n1]
    have HE := Lib.hid (show ok = false by rw [HOK.out, n1]; rfl)
    go_wp2_with fail
    go_ret
    exact ⟨ret_bool HE.out.symm, HB0.out⟩

end Go.Proofs.YtlcglclojlffgaaGreat
namespace Go.Proofs.YtlcglclojlffgaaGreat
open Go.RowKit

set_option maxRecDepth 100000 in
theorem spHas_any (a : Option Addr) (xs : List Int) (c : Nat) (n : Int) (w : World) (hx : IntsAt w a xs) (lx : xs.length ≤ 1099511627776) :
    Calls Tryz.prog 49 #[.slice a xs.length c, .int .i64 n] w fun e w' => e = .returned (.bool (hasI xs n)) ∧ w = w' := by
  have HX := Lib.hid hx
  clear hx
  go_enter Tryz.func49, Tryz.ntmps49
  go_wp2_with fail
  go_loopw [5] (fun i wr => ∃ k : Nat, k ≤ xs.length ∧ i = .int .i64 k ∧ (∀ j, j < k → xs.getD j 0 ≠ n) ∧ wr = w) (fun i _ => xs.length - (intOf i).toNat)
  case atStart => exact ⟨0, Nat.zero_le _, rfl, fun j h => by omega, rfl⟩
  case round =>
    obtain ⟨k, hk, rfl, hall, rfl⟩ := hrel
    have HA := Lib.hid hall
    clear hall
    by_cases hlt : k < xs.length
    · obtain ⟨b1, o1, x, rfl, hxk, hb1, hc1⟩ := HX.out.at hlt
      have hki : (k : Int) < (xs.length : Int) := by omega
      have HG := Lib.hid (getD_of hxk)
      have HXK := Lib.hid hxk
      clear hxk
      by_cases hxn : x = n
      · subst hxn
        have HE := Lib.hid (show hasI xs x = true by rw [hasI, List.contains_iff_mem]; exact List.mem_of_getElem? HXK.out)
        go_wp2_with fail
        go_ret
        exact ⟨ret_bool HE.out.symm, rfl⟩
      · have hxb : (x == n) = false := by rw [beq_eq_false_iff_ne]; exact hxn
        have HK : Hid (∀ j, j < k + 1 → xs.getD j 0 ≠ n) := Lib.hid (fun j hj => by
          by_cases e : j = k
          · subst e; rw [HG.out]; exact hxn
          · exact HA.out j (by omega))
        clear hxn
        go_wp2_with fail
        exact ⟨⟨k + 1, by omega, by push_cast; rfl, HK.out, trivial⟩, by simp [intOf]; omega⟩
    · have hki : ¬ (k : Int) < (xs.length : Int) := by omega
      have HE := Lib.hid (hasI_no (fun j hj => HA.out j (by omega)))
      go_wp2_with fail
      go_ret
      exact ⟨ret_bool HE.out.symm, rfl⟩
/-- the code of a family and a size -/
def famC (f : Fam) (n : Int) : Int := if f.ok = true then (if hasI f.sizes n = true then 0 else 2) else 1
set_option maxRecDepth 100000 in
set_option maxHeartbeats 1000000 in
theorem spCode_any (nm : ByteArray) (kd p k g : Int) (a1 : Option Addr) (szs : List Int) (c1 : Nat) (cl : Int) (a2 : Option Addr) (lvs : List Int) (c2 : Nat) (n : Int) (w : World) (h1 : IntsAt w a1 szs) (h2 : IntsAt w a2 lvs) (l1 : szs.length ≤ 1048576) (l2 : lvs.length ≤ 1048576) (ln : nm.size ≤ 1048576) :
    Calls Tryz.prog 22 #[(.agg #[.string nm, .int .i64 kd, .int .i64 p, .int .i64 k, .int .i64 g, .slice a1 szs.length c1, .int .i64 cl, .slice a2 lvs.length c2]), .int .i64 n] w fun e w' => e = .returned (.int .i64 (famC ⟨nm, kd, p, k, g, szs, cl, lvs⟩ n)) ∧ Below w.heap.size w w' := by
  have H1 := Lib.hid h1
  have H2 := Lib.hid h2
  obtain ⟨f, hf⟩ : ∃ f, f = Fam.mk nm kd p k g szs cl lvs := ⟨_, rfl⟩
  have HFI := Lib.hid (fun w (h1 : IntsAt w a1 szs) (h2 : IntsAt w a2 lvs) => spFamily_any nm kd p k g a1 szs c1 cl a2 lvs c2 w h1 h2 l1 l2 ln)
  rw [← hf] at HFI ⊢
  have HS := Lib.hid (show f.sizes = szs by rw [hf])
  clear h1 h2 hf
  go_enter Tryz.func22, Tryz.ntmps22
  go_wp2_with fail
  have hz := push_at w (.cells #[.string nm, .int .i64 kd, .int .i64 p, .int .i64 k, .int .i64 g, .slice a1 szs.length c1, .int .i64 cl, .slice a2 lvs.length c2] 32 (0, 0))
  have HB0 := Lib.hid (ba1 w (.cells #[.string nm, .int .i64 kd, .int .i64 p, .int .i64 k, .int .i64 g, .slice a1 szs.length c1, .int .i64 cl, .slice a2 lvs.length c2] 32 (0, 0)))
  obtain ⟨w1, hw1⟩ : ∃ w1, w1 = w.alloc (.cells #[.string nm, .int .i64 kd, .int .i64 p, .int .i64 k, .int .i64 g, .slice a1 szs.length c1, .int .i64 cl, .slice a2 lvs.length c2] 32 (0, 0)) := ⟨_, rfl⟩
  rw [← hw1] at hz HB0 ⊢
  have HX1 := Lib.hid hz
  clear hw1 hz
  refine (HFI.out w1 (H1.out.below HB0.out) (H2.out.below HB0.out)).mono ?_
  rintro e w2 ⟨rfl, hb2⟩
  have HX2 := Lib.hid (blkK hb2 HX1.out)
  have HB2 := Lib.hid (bt0 HB0.out hb2 (Nat.le_refl _))
  obtain ⟨hcA, hfA⟩ := heap_cellR HX2.out
  have hltA := blkLt HX2.out
  clear hb2
  rcases Bool.eq_false_or_eq_true f.ok with o1 | o1
  · rw [o1]
    go_wp2_with fail
    refine (spHas_any a1 szs c1 n w2 (H1.out.below HB2.out) (by omega)).mono ?_
    rintro e w3 ⟨rfl, rfl⟩
    rcases Bool.eq_false_or_eq_true (hasI szs n) with s1 | s1
    · rw [s1]
      have HE := Lib.hid (show famC f n = 0 by rw [famC, if_pos o1, HS.out, if_pos s1])
      go_wp2_with fail
      go_ret
      exact ⟨ret_int HE.out.symm, HB2.out⟩
    · rw [s1]
      have HE := Lib.hid (show famC f n = 2 by rw [famC, if_pos o1, HS.out, if_neg (by rw [s1]; decide)])
      go_wp2_with fail
      go_ret
      exact ⟨ret_int HE.out.symm, HB2.out⟩
  · rw [o1]
    have HE := Lib.hid (show famC f n = 1 by rw [famC, if_neg (by rw [o1]; decide)])
    go_wp2_with fail
    go_ret
    exact ⟨ret_int HE.out.symm, HB2.out⟩

end Go.Proofs.YtlcglclojlffgaaGreat
namespace Go.Proofs.YtlcglclojlffgaaGreat
open Go.RowKit

set_option maxHeartbeats 1000000 in
theorem spShare_any (p k g d c n b : Int) (w : World) (hd : 0 ≤ d) (hd2 : d ≤ 1500) (hn : 1 ≤ n) (hn2 : n ≤ 16) :
    Calls Tryz.prog 60 #[.agg #[.int .i64 p, .int .i64 k, .int .i64 g, .int .i64 d, .int .i64 c, .int .i64 n], .int .i64 b] w fun e w' => e = .returned (.int .i64 (Lay.share ⟨d, c, n⟩ b)) ∧ Below w.heap.size w w' := by
  have h1 : 0 ≤ d % n := Int.emod_nonneg _ (by omega)
  have h2 : d % n < n := Int.emod_lt_of_pos _ (by omega)
  have h3 : 0 ≤ d / n := Int.ediv_nonneg hd (by omega)
  have h4 : d / n ≤ d := Int.ediv_le_self _ hd
  have HS := Lib.hid (show Lay.share ⟨d, c, n⟩ b = d / n + if n - d % n ≤ b then 1 else 0 from rfl)
  have e1 : d.tmod n = d % n := Int.tmod_eq_emod_of_nonneg hd
  have e2 : d.tdiv n = d / n := Int.tdiv_eq_ediv_of_nonneg hd
  obtain ⟨r, hr⟩ : ∃ r, r = d % n := ⟨_, rfl⟩
  obtain ⟨q, hq⟩ : ∃ q, q = d / n := ⟨_, rfl⟩
  rw [← hr] at h1 h2 e1 HS
  rw [← hq] at h3 h4 e2 HS
  have e1' : d % n = r := hr.symm
  have e2' : d / n = q := hq.symm
  clear hr hq
  by_cases hb : n - r ≤ b
  · have hbd : decide (n - r ≤ b) = true := decide_eq_true hb
    have HE := Lib.hid (HS.out.trans (by rw [if_pos hb]))
    go_enter Tryz.func60, Tryz.ntmps60
    go_wp2_with fail
    go_quiet (fail)
    go_wp2_with fail
    go_ret
    exact ⟨ret_int HE.out.symm, (ba1 _ _).trans (below_drewN (Below.refl _ _) nq)⟩
  · have hbd : decide (n - r ≤ b) = false := decide_eq_false hb
    have HE := Lib.hid (HS.out.trans (by rw [if_neg hb, Int.add_zero]))
    go_enter Tryz.func60, Tryz.ntmps60
    go_wp2_with fail
    go_quiet (fail)
    go_wp2_with fail
    go_ret
    exact ⟨ret_int HE.out.symm, (ba1 _ _).trans (below_drewN (Below.refl _ _) nq)⟩
set_option maxHeartbeats 1000000 in
theorem spBlock_any (p k g d c n b : Int) (w : World) (hd : 0 ≤ d) (hd2 : d ≤ 1500) (hc : 0 ≤ c) (hc2 : c ≤ 1000) (hn : 1 ≤ n) (hn2 : n ≤ 16) :
    Calls Tryz.prog 53 #[.agg #[.int .i64 p, .int .i64 k, .int .i64 g, .int .i64 d, .int .i64 c, .int .i64 n], .int .i64 b] w fun e w' => e = .returned (.agg #[.int .i64 p, .int .i64 k, .int .i64 g, .int .i64 (Lay.share ⟨d, c, n⟩ b + c), .int .i64 c]) ∧ Below w.heap.size w w' := by
  have hs := share_bd (c := c) (b := b) hd hd2 hn
  obtain ⟨s, hS⟩ : ∃ s, s = Lay.share ⟨d, c, n⟩ b := ⟨_, rfl⟩
  have HS := Lib.hid hS
  rw [← hS] at hs
  clear hS
  go_enter Tryz.func53, Tryz.ntmps53
  go_wp2_with fail
  have hbox1 := heap2 w (.cells #[.int .i64 p, .int .i64 k, .int .i64 g, .int .i64 d, .int .i64 c, .int .i64 n] 40 (0, 0)) (.cells #[.int .i64 0, .int .i64 0, .int .i64 0, .int .i64 0, .int .i64 0] 73 (0, 0))
  have HB := Lib.hid (ba2 w (.cells #[.int .i64 p, .int .i64 k, .int .i64 g, .int .i64 d, .int .i64 c, .int .i64 n] 40 (0, 0)) (.cells #[.int .i64 0, .int .i64 0, .int .i64 0, .int .i64 0, .int .i64 0] 73 (0, 0)))
  obtain ⟨W, hW⟩ : ∃ W, W = (w.alloc (.cells #[.int .i64 p, .int .i64 k, .int .i64 g, .int .i64 d, .int .i64 c, .int .i64 n] 40 (0, 0))).alloc (.cells #[.int .i64 0, .int .i64 0, .int .i64 0, .int .i64 0, .int .i64 0] 73 (0, 0)) := ⟨_, rfl⟩
  rw [← hW] at hbox1 HB ⊢
  clear hW
  obtain ⟨hc1, hf1⟩ := heap_cellR hbox1.1
  obtain ⟨hc3, hf3⟩ := heap_cellR hbox1.2
  have hz1 : w.heap.size < W.heap.size := blkLt hbox1.1
  have hz3 : w.heap.size + 1 < W.heap.size := blkLt hbox1.2
  clear hbox1
  refine wp_region_ext_tail 11 (by kernel_rfl) (by kernel_rfl) ?_
  simp only [List.take_succ_cons, List.take_zero, List.drop_succ_cons, List.drop_zero]
  repeat (go_big_quiet_step ((go_at_call 60; go_must (exact calls_ext _ (spShare_any p k g d c n b _ hd hd2 hn hn2)))))
  refine wpQuiet_nil ?_
  rintro _ ⟨s', rfl⟩
  have hz' : w.heap.size + 1 < s'.w.heap.size := by have := s'.below.size; omega
  have HB2 := Lib.hid (bt0 HB.out s'.below (Nat.le_refl _))
  have hw : wrap64 (s + c) = s + c := by unfold wrap64; omega
  rw [← HS.out]
  go_wp2_with fail
  refine bodyPost_ret (v := .agg #[.int .i64 p, .int .i64 k, .int .i64 g, .int .i64 (s + c), .int .i64 c]) (by simp [results, Tryz.results53, go_sem, hc3, hz3, hw]) rfl ⟨by rw [HS.out], ?_⟩
  iterate 5 (refine Below.setCell ?_ (by dsimp only; omega) _)
  exact HB2.out

theorem spIn_below {n lo hi : Int} {b : Bool} {w : World} (h : inB n lo hi = b) :
    Calls Tryz.prog 23 #[.int .i64 n, .int .i64 lo, .int .i64 hi] w fun e w' => e = .returned (.bool b) ∧ Below w.heap.size w w' :=
  (spIn_val h).mono fun _ _ ⟨h1, h2⟩ => ⟨h1, h2 ▸ Below.refl _ _⟩
set_option maxRecDepth 100000 in
set_option maxHeartbeats 1000000 in
theorem spIsCode_any {p k g : Int} {F : Fd} (h : FV p k g F) (len chk : Int) (w : World) :
    Calls Tryz.prog 52 #[.agg #[.int .i64 p, .int .i64 k, .int .i64 g, .int .i64 len, .int .i64 chk]] w fun e w' => e = .returned (.bool (codB F.q len chk)) ∧ Below w.heap.size w w' := by
  have H := Lib.hid h
  have hq := h.fd.q_bd
  have HV := Lib.hid (fun w => h.v ▸ spSize_any F h.r.toFdB w)
  clear h
  go_enter Tryz.func52, Tryz.ntmps52
  go_wp2_with fail
  have hz := push_at w (.cells #[.int .i64 p, .int .i64 k, .int .i64 g, .int .i64 len, .int .i64 chk] 73 (0, 0))
  have HB0 := Lib.hid (ba1 w (.cells #[.int .i64 p, .int .i64 k, .int .i64 g, .int .i64 len, .int .i64 chk] 73 (0, 0)))
  obtain ⟨w1, hw1⟩ : ∃ w1, w1 = w.alloc (.cells #[.int .i64 p, .int .i64 k, .int .i64 g, .int .i64 len, .int .i64 chk] 73 (0, 0)) := ⟨_, rfl⟩
  rw [← hw1] at hz HB0 ⊢
  have HX1 := Lib.hid hz
  clear hw1 hz
  refine (spField_yes H.out.b w1).mono ?_
  rintro e w2 ⟨rfl, hb2⟩
  have HX2 := Lib.hid (blkK hb2 HX1.out)
  have HB2 := Lib.hid (bt0 HB0.out hb2 (Nat.le_refl _))
  obtain ⟨hcA, hfA⟩ := heap_cellR HX2.out
  have hltA := blkLt HX2.out
  clear hb2
  go_wp2_with fail
  refine (spIn_any chk 1 64 w2).mono ?_
  rintro e w3 ⟨rfl, rfl⟩
  rcases Bool.eq_false_or_eq_true (inB chk 1 64) with h1 | h1
  · rw [h1]
    have hc := inB_iff.1 h1
    have hw : wrap64 (chk + 1) = chk + 1 := by unfold wrap64; omega
    rcases Bool.eq_false_or_eq_true (inB len (chk + 1) 255) with h2 | h2
    · have hl := inB_iff.1 h2
      have HI := Lib.hid (fun w => spIn_below (w := w) h2)
      by_cases h3 : len < F.q
      · have HE := Lib.hid (show codB F.q len chk = true by simp [codB]; omega)
        have h3' : decide (len < (F.q : Int)) = true := decide_eq_true h3
        clear h3 hw
        go_wp2_with fail
        refine wp_region_ext (by kernel_rfl) (by kernel_rfl) ?_
        repeat (go_big_quiet_step ((first
          | (go_at_call 23; go_must (exact calls_ext _ (HI.out _)))
          | (go_at_call 51; go_must (exact calls_ext _ (HV.out _))))))
        refine wpQuiet_nil ?_
        rintro _ ⟨s', rfl⟩
        go_wp2_with fail
        go_ret
        exact ⟨ret_bool HE.out.symm, bt0 HB2.out s'.below (Nat.le_refl _)⟩
      · have HE := Lib.hid (show codB F.q len chk = false by simp [codB]; omega)
        have h3' : decide (len < (F.q : Int)) = false := decide_eq_false h3
        clear h3 hw
        go_wp2_with fail
        refine wp_region_ext (by kernel_rfl) (by kernel_rfl) ?_
        repeat (go_big_quiet_step ((first
          | (go_at_call 23; go_must (exact calls_ext _ (HI.out _)))
          | (go_at_call 51; go_must (exact calls_ext _ (HV.out _))))))
        refine wpQuiet_nil ?_
        rintro _ ⟨s', rfl⟩
        go_wp2_with fail
        go_ret
        exact ⟨ret_bool HE.out.symm, bt0 HB2.out s'.below (Nat.le_refl _)⟩
    · have HI := Lib.hid (fun w => spIn_below (w := w) h2)
      have HE := Lib.hid (show codB F.q len chk = false by
        have h4 : ¬ (chk + 1 ≤ len ∧ len ≤ 255) := of_decide_eq_false h2
        simp [codB]; omega)
      clear hw
      go_wp2_with fail
      refine wp_region_ext (by kernel_rfl) (by kernel_rfl) ?_
      repeat (go_big_quiet_step ((go_at_call 23; go_must (exact calls_ext _ (HI.out _)))))
      refine wpQuiet_nil ?_
      rintro _ ⟨s', rfl⟩
      go_wp2_with fail
      go_ret
      exact ⟨ret_bool HE.out.symm, bt0 HB2.out s'.below (Nat.le_refl _)⟩
  · rw [h1]
    have HE := Lib.hid (show codB F.q len chk = false by
      have h4 : ¬ (1 ≤ chk ∧ chk ≤ 64) := of_decide_eq_false h1
      simp [codB]; omega)
    go_wp2_with fail
    go_ret
    exact ⟨ret_bool HE.out.symm, HB2.out⟩

end Go.Proofs.YtlcglclojlffgaaGreat
namespace Go.Proofs.YtlcglclojlffgaaGreat
open Go.RowKit

set_option maxRecDepth 100000 in
set_option maxHeartbeats 2000000 in
theorem spIsLayout_any {p k g : Int} {F : Fd} (h : FV p k g F) (d c n : Int) (w : World) :
    Calls Tryz.prog 25 #[.agg #[.int .i64 p, .int .i64 k, .int .i64 g, .int .i64 d, .int .i64 c, .int .i64 n]] w fun e w' => e = .returned (.bool (Lay.ok ⟨d, c, n⟩ F.q)) ∧ Below w.heap.size w w' := by
  have H := Lib.hid h
  clear h
  obtain ⟨ok, hok⟩ : ∃ ok, ok = Lay.ok ⟨d, c, n⟩ F.q := ⟨_, rfl⟩
  have HOK := Lib.hid hok
  rw [← hok]
  clear hok
  go_enter Tryz.func25, Tryz.ntmps25
  go_wp2_with fail
  have hz := push_at w (.cells #[.int .i64 p, .int .i64 k, .int .i64 g, .int .i64 d, .int .i64 c, .int .i64 n] 40 (0, 0))
  have HB0 := Lib.hid (ba1 w (.cells #[.int .i64 p, .int .i64 k, .int .i64 g, .int .i64 d, .int .i64 c, .int .i64 n] 40 (0, 0)))
  obtain ⟨w1, hw1⟩ : ∃ w1, w1 = w.alloc (.cells #[.int .i64 p, .int .i64 k, .int .i64 g, .int .i64 d, .int .i64 c, .int .i64 n] 40 (0, 0)) := ⟨_, rfl⟩
  rw [← hw1] at hz HB0 ⊢
  have HX1 := Lib.hid hz
  obtain ⟨hcA, hfA⟩ := heap_cellR hz
  have hltA := blkLt hz
  clear hw1 hz
  refine (spIn_any n 1 16 w1).mono ?_
  rintro e w2 ⟨rfl, rfl⟩
  rcases Bool.eq_false_or_eq_true (inB n 1 16) with h1 | h1
  · have hn := inB_iff.1 h1
    rw [h1]
    go_wp2_with fail
    refine (spIn_any d n 1500 w1).mono ?_
    rintro e w2 ⟨rfl, rfl⟩
    rcases Bool.eq_false_or_eq_true (inB d n 1500) with h2 | h2
    · have hd := inB_iff.1 h2
      rw [h2]
      go_wp2_with fail
      refine (spIn_any c 1 64 w1).mono ?_
      rintro e w2 ⟨rfl, rfl⟩
      rcases Bool.eq_false_or_eq_true (inB c 1 64) with h3 | h3
      · have hc := inB_iff.1 h3
        rw [h3]
        have hm1 : 0 ≤ n * c := Int.mul_nonneg (by omega) (by omega)
        have hm2 : n * c ≤ 16 * 64 := Int.mul_le_mul hn.2 hc.2 (by omega) (by omega)
        have HT := Lib.hid (show Lay.total ⟨d, c, n⟩ = d + n * c from rfl)
        obtain ⟨m, hm⟩ : ∃ m, m = n * c := ⟨_, rfl⟩
        rw [← hm] at hm1 hm2 HT
        have hw : wrap64 (n * c) = m := by rw [← hm]; unfold wrap64; omega
        have hw2 : wrap64 (d + m) = d + m := by unfold wrap64; omega
        have hw3 : wrap64 (n - 1) = n - 1 := by unfold wrap64; omega
        clear hm
        by_cases h4 : 1500 < d + m
        · have HE := Lib.hid (show ok = false by rw [HOK.out]; simp only [Lay.ok, HT.out]; simp; omega)
          have h4' : decide (1500 < d + m) = true := decide_eq_true h4
          go_wp2_with fail
          go_ret
          exact ⟨ret_bool HE.out.symm, HB0.out⟩
        · have h4' : decide (1500 < d + m) = false := decide_eq_false h4
          have HOK2 := Lib.hid (show ok = (codB F.q (Lay.share ⟨d, c, n⟩ 0 + c) c && codB F.q (Lay.share ⟨d, c, n⟩ (n - 1) + c) c) by
            rw [HOK.out]
            simp only [Lay.ok, HT.out]
            rw [decide_eq_true (show 1 ≤ n by omega), decide_eq_true (show n ≤ 16 by omega), decide_eq_true (show n ≤ d by omega), decide_eq_true (show d ≤ 1500 by omega), decide_eq_true (show 1 ≤ c by omega), decide_eq_true (show c ≤ 64 by omega), decide_eq_true (show d + m ≤ 1500 by omega)]
            rfl)
          clear h4
          go_wp2_with fail
          refine (spBlock_any p k g d c n 0 w1 (by omega) (by omega) (by omega) (by omega) (by omega) (by omega)).mono ?_
          rintro e w2 ⟨rfl, hb2⟩
          have HX2 := Lib.hid (blkK hb2 HX1.out)
          have HB2 := Lib.hid (bt0 HB0.out hb2 (Nat.le_refl _))
          clear hb2 hcA hfA hltA
          go_wp2_with fail
          refine (spIsCode_any H.out _ _ w2).mono ?_
          rintro e w3 ⟨rfl, hb3⟩
          have HX3 := Lib.hid (blkK hb3 HX2.out)
          have HB3 := Lib.hid (bt0 HB2.out hb3 (Nat.le_refl _))
          clear hb3
          obtain ⟨hcA, hfA⟩ := heap_cellR HX3.out
          have hltA := blkLt HX3.out
          rcases Bool.eq_false_or_eq_true (codB F.q (Lay.share ⟨d, c, n⟩ 0 + c) c) with h5 | h5
          · rw [h5]
            have HOK3 := Lib.hid (show ok = codB F.q (Lay.share ⟨d, c, n⟩ (n - 1) + c) c by rw [HOK2.out, h5]; rfl)
            go_wp2_with fail
            refine (spBlock_any p k g d c n (n - 1) w3 (by omega) (by omega) (by omega) (by omega) (by omega) (by omega)).mono ?_
            rintro e w4 ⟨rfl, hb4⟩
            have HB4 := Lib.hid (bt0 HB3.out hb4 (Nat.le_refl _))
            clear hb4
            go_wp2_with fail
            refine (spIsCode_any H.out _ _ w4).mono ?_
            rintro e w5 ⟨rfl, hb5⟩
            have HB5 := Lib.hid (bt0 HB4.out hb5 (Nat.le_refl _))
            clear hb5
            rw [← HOK3.out]
            go_wp2_with fail
            go_ret
            exact ⟨rfl, HB5.out⟩
          · rw [h5]
            have HE := Lib.hid (show ok = false by rw [HOK2.out, h5]; rfl)
            go_wp2_with fail
            go_ret
            exact ⟨ret_bool HE.out.symm, HB3.out⟩
      · rw [h3]
        have HE := Lib.hid (show ok = false by
          have h4 : ¬ (1 ≤ c ∧ c ≤ 64) := of_decide_eq_false h3
          rw [HOK.out]; simp only [Lay.ok]; simp; omega)
        go_wp2_with fail
        go_ret
        exact ⟨ret_bool HE.out.symm, HB0.out⟩
    · rw [h2]
      have HE := Lib.hid (show ok = false by
        have h4 : ¬ (n ≤ d ∧ d ≤ 1500) := of_decide_eq_false h2
        rw [HOK.out]; simp only [Lay.ok]; simp; omega)
      go_wp2_with fail
      go_ret
      exact ⟨ret_bool HE.out.symm, HB0.out⟩
  · rw [h1]
    have HE := Lib.hid (show ok = false by
      have h4 : ¬ (1 ≤ n ∧ n ≤ 16) := of_decide_eq_false h1
      rw [HOK.out]; simp only [Lay.ok]; simp; omega)
    go_wp2_with fail
    go_ret
    exact ⟨ret_bool HE.out.symm, HB0.out⟩
set_option maxRecDepth 100000 in
set_option maxHeartbeats 1000000 in
theorem spWidth_any (F : Fd) (h : FdB F) (w : World) :
    Calls Tryz.prog 56 #[fV F] w fun e w' => e = .returned (.int .i64 (F.k : Int)) ∧ Below w.heap.size w w' := by
  have hk := h.k8
  have hk3 := h.k3
  have H := Lib.hid h
  have HQ := Lib.hid h.q
  clear h
  go_enter Tryz.func56, Tryz.ntmps56
  go_wp2_with fail
  have hz := push_at w (.cells #[.int .i64 2, .int .i64 (F.k : Int), .int .i64 (F.g : Int)] 30 (0, 0))
  have HB0 := Lib.hid (ba1 w (.cells #[.int .i64 2, .int .i64 (F.k : Int), .int .i64 (F.g : Int)] 30 (0, 0)))
  obtain ⟨w1, hw1⟩ : ∃ w1, w1 = w.alloc (.cells #[.int .i64 2, .int .i64 (F.k : Int), .int .i64 (F.g : Int)] 30 (0, 0)) := ⟨_, rfl⟩
  rw [← hw1] at hz HB0 ⊢
  have HX1 := Lib.hid hz
  clear hw1 hz
  go_loopw [3] (fun i wr => ∃ j : Nat, j ≤ F.k ∧ i = .int .i64 j ∧ wr.heap[w.heap.size]? = some (.cells #[.int .i64 2, .int .i64 (F.k : Int), .int .i64 (F.g : Int)] 30 (0, 0)) ∧ Below w.heap.size w wr) (fun i _ => F.k - (intOf i).toNat)
  case atStart => exact ⟨0, Nat.zero_le _, rfl, HX1.out, HB0.out⟩
  case round =>
    obtain ⟨j, hj, rfl, hx, hb⟩ := hrel
    have HX := Lib.hid hx
    have HB := Lib.hid hb
    obtain ⟨hcA, hfA⟩ := heap_cellR HX.out
    have hltA := blkLt HX.out
    have hpw := pow_small2 (show j ≤ 8 by omega)
    obtain ⟨P, hP⟩ : ∃ P, P = 2 ^ j := ⟨_, rfl⟩
    rw [← hP] at hpw
    have HC := Lib.hid (show (2 * P ≤ F.q ↔ j < F.k) by
      rw [HQ.out, hP, show 2 * 2 ^ j = 2 ^ (j + 1) by rw [Nat.pow_succ]; omega]
      exact Nat.pow_le_pow_iff_right (by decide))
    clear hx hb hP
    go_wp2_with fail
    refine (spSize_any F H.out wr).mono ?_
    rintro e w2 ⟨rfl, hb2⟩
    have HX2 := Lib.hid (blkK hb2 HX.out)
    have HB2 := Lib.hid (bt0 HB.out hb2 (Nat.le_refl _))
    clear hb2
    by_cases hjk : j < F.k
    · have hle := HC.out.2 hjk
      have hli : 2 * (P : Int) ≤ (F.q : Int) := by omega
      clear hle
      go_wp2_with fail
      exact ⟨⟨j + 1, by omega, by push_cast; rfl, HX2.out, HB2.out⟩, by simp [intOf]; omega⟩
    · have hle : ¬ 2 * P ≤ F.q := fun h => hjk (HC.out.1 h)
      have hli : ¬ 2 * (P : Int) ≤ (F.q : Int) := by omega
      have HE := Lib.hid (show j = F.k by omega)
      clear hle
      go_wp2_with fail
      go_ret
      exact ⟨by rw [← HE.out]; rfl, HB2.out⟩

end Go.Proofs.YtlcglclojlffgaaGreat
namespace Go.Proofs.YtlcglclojlffgaaGreat
open Go.RowKit

theorem spAbs_any (n : Int) (h : -1000 ≤ n ∧ n ≤ 1000) (w : World) :
    Calls Tryz.prog 140 #[.int .i64 n] w fun e w' => e = .returned (.int .i64 (absI n)) ∧ w = w' := by
  have hw : wrap64 (-n) = -n := by unfold wrap64; omega
  by_cases h0 : n < 0
  · have HE := Lib.hid (show absI n = -n by rw [absI, if_pos h0])
    have hlt : n < -n := by omega
    go_enter Tryz.func140, Tryz.ntmps140
    go_wp2_with fail
    go_ret
    exact ⟨ret_int HE.out.symm, rfl⟩
  · have HE := Lib.hid (show absI n = n by rw [absI, if_neg h0])
    have hlt : ¬ n < -n := by omega
    go_enter Tryz.func140, Tryz.ntmps140
    go_wp2_with fail
    go_ret
    exact ⟨ret_int HE.out.symm, rfl⟩
theorem spFinder_any (r c : Int) (hr : -900 ≤ r ∧ r ≤ 900) (hc : -900 ≤ c ∧ c ≤ 900) (w : World) :
    Calls Tryz.prog 137 #[.int .i64 r, .int .i64 c] w fun e w' => e = .returned (.int .i64 (findS r c)) ∧ w = w' := by
  have hw1 : wrap64 (r - 3) = r - 3 := by unfold wrap64; omega
  have hw2 : wrap64 (c - 3) = c - 3 := by unfold wrap64; omega
  obtain ⟨d, hd⟩ : ∃ d, d = dst (r - 3) (c - 3) := ⟨_, rfl⟩
  have HD := Lib.hid hd
  have HF := Lib.hid (show findS r c = if 4 < d then -1 else if d = 2 ∨ d = 4 then 0 else 1 by rw [findS, ← hd])
  obtain ⟨A, hA⟩ : ∃ A, A = absI (r - 3) := ⟨_, rfl⟩
  obtain ⟨B, hB⟩ : ∃ B, B = absI (c - 3) := ⟨_, rfl⟩
  have HA := Lib.hid hA
  have HBB := Lib.hid hB
  have hmx : (if A < B then B else A) = d := by
    rw [hd, dst, ← hA, ← hB]
    repeat' split
    all_goals omega
  clear hd hA hB
  by_cases d4 : 4 < d
  · have d4b : decide (4 < d) = true := decide_eq_true d4
    have HE := Lib.hid (HF.out.trans (if_pos d4))
    go_enter Tryz.func137, Tryz.ntmps137
    go_wp2_with fail
    refine (spAbs_any (r - 3) (by omega) w).mono ?_
    rintro e w1 ⟨rfl, rfl⟩
    rw [← HA.out]
    go_wp2_with fail
    refine (spAbs_any (c - 3) (by omega) w).mono ?_
    rintro e w1 ⟨rfl, rfl⟩
    rw [← HBB.out]
    go_wp2_with fail
    go_ret
    exact ⟨ret_int HE.out.symm, rfl⟩
  · have d4b : decide (4 < d) = false := decide_eq_false d4
    by_cases d2 : d = 2
    · have HE := Lib.hid (HF.out.trans ((if_neg d4).trans (if_pos (Or.inl d2))))
      have d2b : (d == 2) = true := by rw [beq_iff_eq]; exact d2
      clear d2
      go_enter Tryz.func137, Tryz.ntmps137
      go_wp2_with fail
      refine (spAbs_any (r - 3) (by omega) w).mono ?_
      rintro e w1 ⟨rfl, rfl⟩
      rw [← HA.out]
      go_wp2_with fail
      refine (spAbs_any (c - 3) (by omega) w).mono ?_
      rintro e w1 ⟨rfl, rfl⟩
      rw [← HBB.out]
      go_wp2_with fail
      go_ret
      exact ⟨ret_int HE.out.symm, rfl⟩
    · have d2b : (d == 2) = false := by rw [beq_eq_false_iff_ne]; exact d2
      by_cases d4' : d = 4
      · have HE := Lib.hid (HF.out.trans ((if_neg d4).trans (if_pos (Or.inr d4'))))
        have d4c : (d == 4) = true := by rw [beq_iff_eq]; exact d4'
        clear d2 d4'
        go_enter Tryz.func137, Tryz.ntmps137
        go_wp2_with fail
        refine (spAbs_any (r - 3) (by omega) w).mono ?_
        rintro e w1 ⟨rfl, rfl⟩
        rw [← HA.out]
        go_wp2_with fail
        refine (spAbs_any (c - 3) (by omega) w).mono ?_
        rintro e w1 ⟨rfl, rfl⟩
        rw [← HBB.out]
        go_wp2_with fail
        go_ret
        exact ⟨ret_int HE.out.symm, rfl⟩
      · have HE := Lib.hid (HF.out.trans ((if_neg d4).trans (if_neg (fun h => h.elim d2 d4'))))
        have d4c : (d == 4) = false := by rw [beq_eq_false_iff_ne]; exact d4'
        clear d2 d4'
        go_enter Tryz.func137, Tryz.ntmps137
        go_wp2_with fail
        refine (spAbs_any (r - 3) (by omega) w).mono ?_
        rintro e w1 ⟨rfl, rfl⟩
        rw [← HA.out]
        go_wp2_with fail
        refine (spAbs_any (c - 3) (by omega) w).mono ?_
        rintro e w1 ⟨rfl, rfl⟩
        rw [← HBB.out]
        go_wp2_with fail
        go_ret
        exact ⟨ret_int HE.out.symm, rfl⟩
/-- the three corners of the finder patterns -/
def cornX (n : Int) (k : Nat) : Int := if k = 2 then n - 7 else 0
def cornY (n : Int) (k : Nat) : Int := if k = 1 then n - 7 else 0
def vS (n r c : Int) (k : Nat) : Int := findS (r - cornX n k) (c - cornY n k)
def restS (n r c : Int) : Int := if r = 6 ∧ 8 ≤ c ∧ c ≤ n - 9 then 1 - c % 2 else if c = 6 ∧ 8 ≤ r ∧ r ≤ n - 9 then 1 - r % 2 else if r = n - 8 ∧ c = 8 then 1 else -1
theorem fixS_at {n r c : Int} {k : Nat} (hk : k < 3) (h : ∀ j, j < k → vS n r c j < 0) (hv : 0 ≤ vS n r c k) : fixS n r c = vS n r c k := by
  have e0 : vS n r c 0 = findS r c := by simp [vS, cornX, cornY]
  have e1 : vS n r c 1 = findS r (c - (n - 7)) := by simp [vS, cornX, cornY]
  have e2 : vS n r c 2 = findS (r - (n - 7)) c := by simp [vS, cornX, cornY]
  unfold fixS
  rw [← e0, ← e1, ← e2]
  have hk3 : k = 0 ∨ k = 1 ∨ k = 2 := by omega
  rcases hk3 with rfl | rfl | rfl
  · rw [if_pos hv]
  · have := h 0 (by omega)
    rw [if_neg (by omega), if_pos hv]
  · have := h 0 (by omega)
    have := h 1 (by omega)
    rw [if_neg (by omega), if_neg (by omega), if_pos hv]
theorem fixS_rest {n r c : Int} (h : ∀ j, j < 3 → vS n r c j < 0) : fixS n r c = restS n r c := by
  have e0 : vS n r c 0 = findS r c := by simp [vS, cornX, cornY]
  have e1 : vS n r c 1 = findS r (c - (n - 7)) := by simp [vS, cornX, cornY]
  have e2 : vS n r c 2 = findS (r - (n - 7)) c := by simp [vS, cornX, cornY]
  unfold fixS
  rw [← e0, ← e1, ← e2]
  have := h 0 (by omega)
  have := h 1 (by omega)
  have := h 2 (by omega)
  rw [if_neg (by omega), if_neg (by omega), if_neg (by omega)]
  rfl
theorem restS_eq (n r c : Int) : restS n r c = if (r == 6) && inB c 8 (n - 9) then 1 - c % 2 else if (c == 6) && inB r 8 (n - 9) then 1 - r % 2 else if (r == n - 8) && (c == 8) then 1 else -1 := by
  unfold restS
  simp only [inB, Bool.and_eq_true, beq_iff_eq, decide_eq_true_eq]
def CornAt (W : World) (B : Nat) (n : Int) : Prop := ∀ k, k < 3 → W.cell? ⟨B + 3, k, none⟩ = some (.slice (some ⟨B + k, 0, none⟩) 2 2) ∧ W.cell? ⟨B + k, 0, none⟩ = some (.int .i64 (cornX n k)) ∧ W.cell? ⟨B + k, 1, none⟩ = some (.int .i64 (cornY n k))
set_option maxRecDepth 100000 in
set_option maxHeartbeats 8000000 in
theorem spFixed_any (n r c : Int) (hn : 17 ≤ n ∧ n ≤ 41) (hr : 0 ≤ r ∧ r ≤ 41) (hc : 0 ≤ c ∧ c ≤ 41) (w : World) :
    Calls Tryz.prog 130 #[.int .i64 n, .int .i64 r, .int .i64 c] w fun e w' => e = .returned (.int .i64 (fixS n r c)) ∧ Below w.heap.size w w' := by
  have hw1 : wrap64 (n - 7) = n - 7 := by unfold wrap64; omega
  obtain ⟨R, hR⟩ : ∃ R, R = fixS n r c := ⟨_, rfl⟩
  have HR := Lib.hid hR
  rw [← hR]
  clear hR
  go_enter Tryz.func130, Tryz.ntmps130
  go_wp2_with fail
  obtain ⟨B, hB⟩ : ∃ B, B = w.heap.size := ⟨_, rfl⟩
  obtain ⟨W, hW⟩ : ∃ W, W = ((((w.alloc (.cells #[.int .i64 0, .int .i64 0] 2 (0, 0))).alloc (.cells #[.int .i64 0, .int .i64 (n - 7)] 2 (0, 0))).alloc (.cells #[.int .i64 (n - 7), .int .i64 0] 2 (0, 0))).alloc (.cells #[.slice (some ⟨w.heap.size, 0, none⟩) 2 2, .slice (some ⟨w.heap.size + 1, 0, none⟩) 2 2, .slice (some ⟨w.heap.size + 1 + 1, 0, none⟩) 2 2] 24 (0, 0))) := ⟨_, rfl⟩
  have hCO : CornAt W B n ∧ Below w.heap.size w W ∧ B + 3 < W.heap.size := by
    have b1 := push_at w (.cells #[.int .i64 0, .int .i64 0] 2 (0, 0))
    have b2 := push_at (w.alloc (.cells #[.int .i64 0, .int .i64 0] 2 (0, 0))) (.cells #[.int .i64 0, .int .i64 (n - 7)] 2 (0, 0))
    have b3 := push_at ((w.alloc (.cells #[.int .i64 0, .int .i64 0] 2 (0, 0))).alloc (.cells #[.int .i64 0, .int .i64 (n - 7)] 2 (0, 0))) (.cells #[.int .i64 (n - 7), .int .i64 0] 2 (0, 0))
    have b4 := push_at (((w.alloc (.cells #[.int .i64 0, .int .i64 0] 2 (0, 0))).alloc (.cells #[.int .i64 0, .int .i64 (n - 7)] 2 (0, 0))).alloc (.cells #[.int .i64 (n - 7), .int .i64 0] 2 (0, 0))) (.cells #[.slice (some ⟨w.heap.size, 0, none⟩) 2 2, .slice (some ⟨w.heap.size + 1, 0, none⟩) 2 2, .slice (some ⟨w.heap.size + 1 + 1, 0, none⟩) 2 2] 24 (0, 0))
    rw [← hW] at b4
    have c1 := (heap_cellR (push_old (A := .cells #[.slice (some ⟨w.heap.size, 0, none⟩) 2 2, .slice (some ⟨w.heap.size + 1, 0, none⟩) 2 2, .slice (some ⟨w.heap.size + 1 + 1, 0, none⟩) 2 2] 24 (0, 0)) (push_old (A := .cells #[.int .i64 (n - 7), .int .i64 0] 2 (0, 0)) (push_old (A := .cells #[.int .i64 0, .int .i64 (n - 7)] 2 (0, 0)) b1)))).1
    have c2 := (heap_cellR (push_old (A := .cells #[.slice (some ⟨w.heap.size, 0, none⟩) 2 2, .slice (some ⟨w.heap.size + 1, 0, none⟩) 2 2, .slice (some ⟨w.heap.size + 1 + 1, 0, none⟩) 2 2] 24 (0, 0)) (push_old (A := .cells #[.int .i64 (n - 7), .int .i64 0] 2 (0, 0)) b2))).1
    have c3 := (heap_cellR (push_old (A := .cells #[.slice (some ⟨w.heap.size, 0, none⟩) 2 2, .slice (some ⟨w.heap.size + 1, 0, none⟩) 2 2, .slice (some ⟨w.heap.size + 1 + 1, 0, none⟩) 2 2] 24 (0, 0)) b3)).1
    rw [← hW] at c1 c2 c3
    have c4 := (heap_cellR b4).1
    simp only [World.size_alloc] at c1 c2 c3 c4
    rw [← hB] at c1 c2 c3 c4
    refine ⟨fun k hk => ?_, ?_, ?_⟩
    · have hk3 : k = 0 ∨ k = 1 ∨ k = 2 := by omega
      rcases hk3 with rfl | rfl | rfl
      · exact ⟨c4 0, c1 0, c1 1⟩
      · exact ⟨c4 1, c2 0, c2 1⟩
      · exact ⟨c4 2, c3 0, c3 1⟩
    · rw [hW]
      exact ((ba2 w _ _).alloc (by simp; omega) _).alloc (by simp; omega) _
    · rw [hW, hB]; simp
  obtain ⟨hCO, hbW, hlB⟩ := hCO
  rw [← hW, ← hB]
  have HCO := Lib.hid hCO
  have HBW := Lib.hid hbW
  clear hW hCO hbW hB
  rw [show B + 1 + 1 + 1 = B + 3 from rfl]
  go_loopw [8, 9] (fun i _ wr => ∃ k : Nat, k ≤ 3 ∧ i = .int .i64 k ∧ (∀ j, j < k → vS n r c j < 0) ∧ CornAt wr B n ∧ Below w.heap.size w wr ∧ B + 3 < wr.heap.size) (fun i _ _ => 3 - (intOf i).toNat)
  case atStart => exact ⟨0, Nat.zero_le _, rfl, fun j h => by omega, HCO.out, HBW.out, hlB⟩
  case round =>
    obtain ⟨k, hk, rfl, hall, hco, hb, hlr⟩ := hrel
    have HALL := Lib.hid hall
    have HB := Lib.hid hb
    have HCR := Lib.hid hco
    clear hall hb
    by_cases hk3 : k < 3
    · obtain ⟨q1, q2, q3⟩ := hco k hk3
      clear hco
      have hki : (k : Int) < 3 := by omega
      have HV := Lib.hid (show vS n r c k = findS (r - cornX n k) (c - cornY n k) from rfl)
      obtain ⟨X, hX⟩ : ∃ X, X = cornX n k := ⟨_, rfl⟩
      obtain ⟨Y, hY⟩ : ∃ Y, Y = cornY n k := ⟨_, rfl⟩
      have hXb : 0 ≤ X ∧ X ≤ 41 := by rw [hX]; unfold cornX; split <;> omega
      have hYb : 0 ≤ Y ∧ Y ≤ 41 := by rw [hY]; unfold cornY; split <;> omega
      rw [← hX] at q2 HV
      rw [← hY] at q3 HV
      have hwx : wrap64 (r - X) = r - X := by unfold wrap64; omega
      have hwy : wrap64 (c - Y) = c - Y := by unfold wrap64; omega
      have hBk : B + k < wr.heap.size := by omega
      have HFN := Lib.hid (fun w => spFinder_any (r - X) (c - Y) (by omega) (by omega) w)
      obtain ⟨v, hv⟩ : ∃ v, v = findS (r - X) (c - Y) := ⟨_, rfl⟩
      rw [← hv] at HFN HV
      clear hX hY hv
      go_wp2_with fail
      go_quiet ((go_at_call 137; go_must (exact quiet_same' (HFN.out _))))
      by_cases hv0 : 0 ≤ v
      · have HE := Lib.hid (show R = v by rw [HR.out, fixS_at hk3 HALL.out (by rw [HV.out]; exact hv0), HV.out])
        go_wp2_with fail
        go_ret
        exact ⟨ret_int HE.out.symm, HB.out.trans (below_drewN (Below.refl _ _) _)⟩
      · have HK : Hid (∀ j, j < k + 1 → vS n r c j < 0) := Lib.hid (fun j hj => by
          by_cases e : j = k
          · subst e; rw [HV.out]; omega
          · exact HALL.out j (by omega))
        go_wp2_with fail
        refine ⟨⟨k + 1, by omega, by push_cast; rfl, HK.out, fun j hj => ?_, HB.out.trans (below_drewN (Below.refl _ _) _), hlr⟩, by simp [intOf]; omega⟩
        exact HCR.out j hj
    · obtain rfl : k = 3 := by omega
      clear hco
      have HRE := Lib.hid (HR.out.trans (fixS_rest HALL.out))
      have hw9 : wrap64 (n - 9) = n - 9 := by unfold wrap64; omega
      have hw8 : wrap64 (n - 8) = n - 8 := by unfold wrap64; omega
      have hki : ¬ (3 : Int) < 3 := by omega
      have htc : c.tmod 2 = c % 2 := Int.tmod_eq_emod_of_nonneg (by omega)
      have htr : r.tmod 2 = r % 2 := Int.tmod_eq_emod_of_nonneg (by omega)
      have hm1 : wrap64 (1 - c % 2) = 1 - c % 2 := by unfold wrap64; omega
      have hm2 : wrap64 (1 - r % 2) = 1 - r % 2 := by unfold wrap64; omega
      rw [restS_eq] at HRE
      obtain ⟨b1, hb1⟩ : ∃ b, (r == 6) = b := ⟨_, rfl⟩
      obtain ⟨b2, hb2⟩ : ∃ b, (c == 6) = b := ⟨_, rfl⟩
      obtain ⟨b3, hb3⟩ : ∃ b, (r == n - 8) = b := ⟨_, rfl⟩
      obtain ⟨b4, hb4⟩ : ∃ b, (c == 8) = b := ⟨_, rfl⟩
      obtain ⟨b5, hb5⟩ : ∃ b, inB c 8 (n - 9) = b := ⟨_, rfl⟩
      obtain ⟨b6, hb6⟩ : ∃ b, inB r 8 (n - 9) = b := ⟨_, rfl⟩
      have HI5 := Lib.hid (fun w => spIn_val (w := w) hb5)
      have HI6 := Lib.hid (fun w => spIn_val (w := w) hb6)
      rw [hb1, hb2, hb3, hb4, hb5, hb6] at HRE
      clear hb5 hb6 hn hr hc
      cases b1 with
      | false =>
        cases b2 with
        | false =>
          cases b3 with
          | false =>
            go_wp2_with fail
            go_ret
            exact ⟨ret_int HRE.out.symm, HB.out⟩
          | true =>
            cases b4 with
            | false =>
              go_wp2_with fail
              go_ret
              exact ⟨ret_int HRE.out.symm, HB.out⟩
            | true =>
              go_wp2_with fail
              go_ret
              exact ⟨ret_int HRE.out.symm, HB.out⟩
        | true =>
          go_wp2_with fail
          refine (HI6.out _).mono ?_
          rintro e w' ⟨rfl, rfl⟩
          cases b6 with
          | true =>
            go_wp2_with fail
            go_ret
            exact ⟨ret_int HRE.out.symm, HB.out⟩
          | false =>
            cases b3 with
            | false =>
              go_wp2_with fail
              go_ret
              exact ⟨ret_int HRE.out.symm, HB.out⟩
            | true =>
              cases b4 with
              | false =>
                go_wp2_with fail
                go_ret
                exact ⟨ret_int HRE.out.symm, HB.out⟩
              | true =>
                go_wp2_with fail
                go_ret
                exact ⟨ret_int HRE.out.symm, HB.out⟩
      | true =>
        go_wp2_with fail
        refine (HI5.out _).mono ?_
        rintro e w' ⟨rfl, rfl⟩
        cases b5 with
        | true =>
          go_wp2_with fail
          go_ret
          exact ⟨ret_int HRE.out.symm, HB.out⟩
        | false =>
          cases b2 with
          | false =>
            cases b3 with
            | false =>
              go_wp2_with fail
              go_ret
              exact ⟨ret_int HRE.out.symm, HB.out⟩
            | true =>
              cases b4 with
              | false =>
                go_wp2_with fail
                go_ret
                exact ⟨ret_int HRE.out.symm, HB.out⟩
              | true =>
                go_wp2_with fail
                go_ret
                exact ⟨ret_int HRE.out.symm, HB.out⟩
          | true =>
            go_wp2_with fail
            refine (HI6.out _).mono ?_
            rintro e w' ⟨rfl, rfl⟩
            cases b6 with
            | true =>
              go_wp2_with fail
              go_ret
              exact ⟨ret_int HRE.out.symm, HB.out⟩
            | false =>
              cases b3 with
              | false =>
                go_wp2_with fail
                go_ret
                exact ⟨ret_int HRE.out.symm, HB.out⟩
              | true =>
                cases b4 with
                | false =>
                  go_wp2_with fail
                  go_ret
                  exact ⟨ret_int HRE.out.symm, HB.out⟩
                | true =>
                  go_wp2_with fail
                  go_ret
                  exact ⟨ret_int HRE.out.symm, HB.out⟩

end Go.Proofs.YtlcglclojlffgaaGreat
namespace Go.Proofs.YtlcglclojlffgaaGreat
open Go.RowKit

theorem own_snoc {w : World} {B : Nat} {v : Value} {M : List Int} {z : Int} (h : w.ownsRow B 2 1 v (M.length + 1) (M.map (Value.int .i64) ++ [.int .i64 z])) : OwnI w B v (M ++ [z]) := by
  unfold OwnI
  rw [List.length_append, List.map_append]
  exact h
/-- two slices of the call's own, in two blocks -/
def Two (w0 w : World) (vm vt : Value) (M T : List Int) : Prop :=
  OwnI w w0.heap.size vm M ∧ OwnI w w0.heap.size vt T ∧ (∀ k, vm.ownBlock = some k → vt.ownBlock ≠ some k) ∧ Below w0.heap.size w0 w
theorem Two.below {w0 w w' : World} {vm vt : Value} {M T : List Int} (h : Two w0 w vm vt M T) (hb : Below w.heap.size w w') : Two w0 w' vm vt M T :=
  ⟨h.1.grown hb, h.2.1.grown hb, h.2.2.1, bt0 h.2.2.2 hb (Nat.le_refl _)⟩
theorem own_empty (w : World) : OwnI (w.alloc (.cells #[] 2 (0, 0))) w.heap.size (.slice (some ⟨w.heap.size, 0, none⟩) 0 0) [] :=
  World.ownsRow_lit (base := w.heap.size) (size := 1) w #[] 0 (Nat.le_refl _) (by unfold maxLen; omega) rfl
theorem Two.start (w : World) : Two w ((w.alloc (.cells #[] 2 (0, 0))).alloc (.cells #[] 2 (0, 0))) (.slice (some ⟨w.heap.size, 0, none⟩) 0 0) (.slice (some ⟨w.heap.size + 1, 0, none⟩) 0 0) [] [] := by
  refine ⟨(own_empty w).grown (ba1 _ _), ?_, fun k hk e => ?_, ba2 w _ _⟩
  · have h := own_empty (w.alloc (.cells #[] 2 (0, 0)))
    have e : (w.alloc (.cells #[] 2 (0, 0))).heap.size = w.heap.size + 1 := by simp
    rw [e] at h
    exact h.weak (by omega)
  · simp only [Value.ownBlock, Option.some.injEq] at hk e
    omega
theorem Two.more1 {w0 w w1 : World} {o : Obj} {vm vt v' : Value} {M T : List Int} {z : Int} (h : Two w0 w vm vt M T) (hown : w1.ownsRow w0.heap.size 2 1 v' (M.length + 1) (M.map (Value.int .i64) ++ [.int .i64 z])) (hg : (w.alloc o).grownBy w1 vm.ownBlock)
    (hat : v'.ownBlock = vm.ownBlock ∨ v'.ownBlock = some (w.alloc o).heap.size) : Two w0 w1 v' vt (M ++ [z]) T := by
  refine ⟨own_snoc hown, (h.2.1.grown (ba1 w o)).other hg (fun k hk e => h.2.2.1 k e hk), fun k hk e => ?_, h.2.2.2.trans (below_of_grownBy (grownBy_trans (World.grownBy_alloc w o _) hg) h.2.2.2.size (fun k hk => h.1.lo k hk))⟩
  have hi := h.2.1.hi k e
  rcases hat with hat | hat
  · exact h.2.2.1 k (hat ▸ hk) e
  · rw [hat] at hk
    have := Option.some.inj hk
    simp at this
    omega
theorem Two.more2 {w0 w w1 : World} {o : Obj} {vm vt v' : Value} {M T : List Int} {z : Int} (h : Two w0 w vm vt M T) (hown : w1.ownsRow w0.heap.size 2 1 v' (T.length + 1) (T.map (Value.int .i64) ++ [.int .i64 z])) (hg : (w.alloc o).grownBy w1 vt.ownBlock)
    (hat : v'.ownBlock = vt.ownBlock ∨ v'.ownBlock = some (w.alloc o).heap.size) : Two w0 w1 vm v' M (T ++ [z]) := by
  have hs : Two w0 w vt vm T M := ⟨h.2.1, h.1, fun k hk e => h.2.2.1 k e hk, h.2.2.2⟩
  have h2 := hs.more1 hown hg hat
  exact ⟨h2.2.1, h2.1, fun k hk e => h2.2.2.1 k e hk, h2.2.2.2⟩
theorem Two.weak {w00 w0 w : World} {vm vt : Value} {M T : List Int} (h : Two w0 w vm vt M T) (hb : Below w00.heap.size w00 w0) : Two w00 w vm vt M T :=
  ⟨h.1.weak hb.size, h.2.1.weak hb.size, h.2.2.1, hb.trans (h.2.2.2.mono hb.size)⟩

/-- two lists, a number and a code are handed back -/
def RetTwo (w : World) (M T : List Int) (F cd : Int) (e : Ending) (w' : World) : Prop :=
  ∃ a c b d, e = .returned (.tuple #[.slice a M.length c, .slice b T.length d, .int .i64 F, .int .i64 cd]) ∧ Two w w' (.slice a M.length c) (.slice b T.length d) M T
theorem RetTwo.none {w w' : World} {F cd : Int} (hb : Below w.heap.size w w') : RetTwo w [] [] F cd (.returned (.tuple #[.slice none 0 0, .slice none 0 0, .int .i64 F, .int .i64 cd])) w' :=
  ⟨Option.none, 0, Option.none, 0, rfl, World.ownsRow_nil _ _ _ _, World.ownsRow_nil _ _ _ _, fun k hk => (by cases hk), hb⟩
theorem RetTwo.of {w w' : World} {vm vt : Value} {M T : List Int} {F cd : Int} (h : Two w w' vm vt M T) : RetTwo w M T F cd (.returned (.tuple #[vm, vt, .int .i64 F, .int .i64 cd])) w' := by
  obtain ⟨a, c, rfl, _⟩ := h.1.read
  obtain ⟨b, d, rfl, _⟩ := h.2.1.read
  exact ⟨a, c, b, d, rfl, h⟩

end Go.Proofs.YtlcglclojlffgaaGreat
namespace Go.Proofs.YtlcglclojlffgaaGreat
open Go.RowKit

/-- the first k cells of the reference's grid -/
def gS (n k : Nat) : List Int := (List.range k).map fun i => fixS n ((i / n : Nat) : Int) ((i % n : Nat) : Int)
theorem gS_step {n r c : Nat} (hc : c < n) : gS n (r * n + c + 1) = gS n (r * n + c) ++ [fixS n (r : Int) (c : Int)] := by
  rw [gS, List.range_succ, List.map_append, List.map_singleton, gS]
  congr 2
  rw [show (r * n + c) / n = r by rw [Nat.mul_comm, Nat.mul_add_div (by omega), Nat.div_eq_of_lt hc, Nat.add_zero], show (r * n + c) % n = c by rw [Nat.mul_comm, Nat.mul_add_mod, Nat.mod_eq_of_lt hc]]
theorem gS_len (n k : Nat) : (gS n k).length = k := by simp [gS]
set_option maxRecDepth 100000 in
set_option maxHeartbeats 2000000 in
theorem spGrid_any (n : Nat) (hn : 17 ≤ n ∧ n ≤ 41) (w : World) :
    Calls Tryz.prog 116 #[.int .i64 (n : Int)] w fun e w' => (∃ a c, e = .returned (.agg #[.int .i64 (n : Int), .int .i64 (n : Int), .slice a (gS n (n * n)).length c]) ∧ IntsAt w' a (gS n (n * n))) ∧ Below w.heap.size w w' := by
  obtain ⟨hn1, hn2⟩ := hn
  go_enter Tryz.func116, Tryz.ntmps116
  go_wp2_with fail
  have hO := own_empty (w.alloc (.cells #[.int .i64 0, .int .i64 0, .slice none 0 0] 144 (0, 0)))
  have hB1 := ba1 w (.cells #[.int .i64 0, .int .i64 0, .slice none 0 0] 144 (0, 0))
  have hX := push_at w (.cells #[.int .i64 0, .int .i64 0, .slice none 0 0] 144 (0, 0))
  obtain ⟨w1, hw1⟩ : ∃ w1, w1 = w.alloc (.cells #[.int .i64 0, .int .i64 0, .slice none 0 0] 144 (0, 0)) := ⟨_, rfl⟩
  have hs1 : w1.heap.size = w.heap.size + 1 := by rw [hw1]; simp
  rw [← hw1] at hO hB1 hX ⊢
  clear hw1
  rw [hs1] at hO
  have hB2 := ba1 w1 (.cells #[] 2 (0, 0))
  obtain ⟨w2, hw2⟩ : ∃ w2, w2 = w1.alloc (.cells #[] 2 (0, 0)) := ⟨_, rfl⟩
  rw [← hw2] at hO hB2 ⊢
  rw [hs1] at hB2
  have HO := Lib.hid hO
  have HB1 := Lib.hid hB1
  have HX := Lib.hid hX
  have HB2 := Lib.hid hB2
  have hs2 : w.heap.size + 1 ≤ w2.heap.size := by rw [hw2]; simp [hs1]
  clear hw2 hO hB1 hX hB2
  go_loopw [3, 4, 5] (fun v i _ wr => ∃ (r : Nat) (a : Option Addr) (c : Nat) (l : List Int), r ≤ n ∧ i = .int .i64 r ∧ l = gS n (r * n) ∧ v = .slice a l.length c ∧ OwnI wr (w.heap.size + 1) (.slice a l.length c) l ∧ Below (w.heap.size + 1) w1 wr ∧ w.heap.size + 1 ≤ wr.heap.size) (fun _ i _ _ => n - (intOf i).toNat)
  case atStart => exact ⟨0, _, 0, [], Nat.zero_le _, rfl, by simp [gS], rfl, HO.out, HB2.out, hs2⟩
  case round =>
    obtain ⟨r, a, c, l, hr, rfl, hl, rfl, ho, hb, hsz⟩ := hrel
    have HL := Lib.hid hl
    have HOr := Lib.hid ho
    have HBr := Lib.hid hb
    clear hl ho hb
    by_cases hrn : r < n
    · have hri : (r : Int) < (n : Int) := by omega
      go_wp2_with fail
      go_loopw [3, 5] (fun v i wr => ∃ (k : Nat) (a : Option Addr) (c : Nat) (l : List Int), k ≤ n ∧ i = .int .i64 k ∧ l = gS n (r * n + k) ∧ v = .slice a l.length c ∧ OwnI wr (w.heap.size + 1) (.slice a l.length c) l ∧ Below (w.heap.size + 1) w1 wr ∧ w.heap.size + 1 ≤ wr.heap.size) (fun _ i _ => n - (intOf i).toNat)
      case atStart => exact ⟨0, a, c, l, Nat.zero_le _, rfl, by rw [HL.out]; rfl, rfl, HOr.out, HBr.out, hsz⟩
      case round =>
        clear hsz
        obtain ⟨k, a, c, l, hk, rfl, hl, rfl, ho, hb, hsz⟩ := hrel
        have HLk := Lib.hid hl
        have HOk := Lib.hid ho
        have HBk := Lib.hid hb
        have hll : l.length ≤ 2000 := by
          rw [hl, gS_len]
          have h1 : r * n ≤ 41 * 41 := Nat.mul_le_mul (by omega) (by omega)
          omega
        clear hl ho hb
        by_cases hkn : k < n
        · have hki : (k : Int) < (n : Int) := by omega
          go_wp2_with fail
          refine (spFixed_any n r k (by omega) (by omega) (by omega) _).mono ?_
          rintro e w3 ⟨rfl, hb3⟩
          have HO3 := Lib.hid (HOk.out.grown hb3)
          have HB3 := Lib.hid (bt0 HBk.out hb3 (by omega))
          have hs3 : w.heap.size + 1 ≤ w3.heap.size := by have := hb3.size; omega
          obtain ⟨z, hz⟩ : ∃ z, z = fixS n r k := ⟨_, rfl⟩
          have HZ := Lib.hid hz
          rw [← hz]
          clear hb3 hz
          go_wp2_with (at_builtin; refine wpList_append_i1 (o := _) rfl (.tmp 17) (.tmp 22) 24 Tryz.underlying24 rfl (w.heap.size + 1) (.slice a l.length c) l z rfl (HO3.out.grown (ba1 _ _)) w3.heap.size rfl (push_at _ _) ?c3 ?c4 ?h8)
          case c3 => omega
          case c4 => simp; omega
          case h8 =>
          intro a6 c6 l6 w6 he6 ho6 hg6 hb6
          have HB7 := Lib.hid ((bt0 HB3.out (ba1 w3 (.cells #[.int .i64 z] 2 (0, 0))) (by omega)).trans hb6)
          have HO8 := Lib.hid ho6
          have HE6 := Lib.hid he6
          have hs6 : w.heap.size + 1 ≤ w6.heap.size := by have := HB7.out.size; omega
          clear hg6 hb6 ho6 he6
          go_wp2_with fail
          exact ⟨⟨k + 1, a6, c6, l6, by omega, by push_cast; rfl, by rw [HE6.out, HLk.out, HZ.out, ← Nat.add_assoc, gS_step hkn], rfl, HO8.out, HB7.out, hs6⟩, by simp [intOf]; omega⟩
        · have hki : ¬ (k : Int) < (n : Int) := by omega
          obtain rfl : k = n := by omega
          go_wp2_with fail
          exact ⟨⟨r + 1, a, c, l, by omega, by push_cast; rfl, by rw [HLk.out, Nat.add_mul, Nat.one_mul], rfl, HOk.out, HBk.out, hsz⟩, by simp [intOf]; omega⟩
    · have hri : ¬ (r : Int) < (n : Int) := by omega
      obtain rfl : r = n := by omega
      obtain ⟨hcA, hfA⟩ := heap_cellR ((HBr.out.block w.heap.size (by omega)).trans HX.out)
      go_wp2_with fail
      refine bodyPost_ret (v := .agg #[.int .i64 (r : Int), .int .i64 (r : Int), .slice a l.length c]) (by simp [results, Tryz.results116, go_sem, hcA]) rfl ⟨⟨a, ⟨c, by rw [← HL.out]⟩, ?_⟩, ?_⟩
      · rw [← HL.out]
        exact (((HOr.out.setOld (a := ⟨w.heap.size, 0, none⟩) (by dsimp only; omega) _).setOld (a := ⟨w.heap.size, 1, none⟩) (by dsimp only; omega) _).setOld (a := ⟨w.heap.size, 2, none⟩) (by dsimp only; omega) _).ints
      · iterate 3 (refine Below.setCell ?_ (by dsimp only; omega) _)
        exact HB1.out.trans (HBr.out.mono (by omega))

/-- how many of the first k cells are no fixed ones -/
def ngS (l : List Int) (k : Nat) : Nat := ((l.take k).filter fun x => decide (x < 0)).length
theorem ngS_step {l : List Int} {k : Nat} {x : Int} (h : l[k]? = some x) : ngS l (k + 1) = ngS l k + if x < 0 then 1 else 0 := by
  rw [ngS, take_snoc' h, List.filter_append, List.length_append, ← ngS]
  congr 1
  by_cases hx : x < 0
  · simp [hx]
  · simp [hx]
theorem ngS_le (l : List Int) (k : Nat) : ngS l k ≤ k := Nat.le_trans (List.length_filter_le _ _) (by rw [List.length_take]; exact Nat.min_le_left _ _)
theorem cntS_ng (n : Nat) : cntS n = -30 + (ngS (gS n (n * n)) (n * n) : Int) := by
  rw [cntS, ngS, List.take_of_length_le (by rw [gS_len]; exact Nat.le_refl _), gS, List.filter_map, List.length_map]
  rfl
set_option maxRecDepth 100000 in
set_option maxHeartbeats 1000000 in
theorem spCount_any (n : Nat) (hn : 17 ≤ n ∧ n ≤ 41) (w : World) :
    Calls Tryz.prog 88 #[.int .i64 (n : Int)] w fun e w' => e = .returned (.int .i64 (cntS n)) ∧ Below w.heap.size w w' := by
  have HN := Lib.hid hn
  obtain ⟨R, hR⟩ : ∃ R, R = cntS n := ⟨_, rfl⟩
  have HR := Lib.hid (hR.trans (cntS_ng n))
  rw [← hR]
  have hnn : n * n ≤ 41 * 41 := Nat.mul_le_mul hn.2 hn.2
  clear hn hR
  go_enter Tryz.func88, Tryz.ntmps88
  go_wp2_with fail
  refine (spGrid_any n HN.out w).mono ?_
  rintro e w1 ⟨⟨a, c, rfl, hi⟩, hb1⟩
  have HL := Lib.hid (gS_len n (n * n))
  obtain ⟨l, hl⟩ : ∃ l, l = gS n (n * n) := ⟨_, rfl⟩
  rw [← hl] at hi HL HR ⊢
  have hX := push_at w1 (.cells #[.int .i64 (n : Int), .int .i64 (n : Int), .slice a l.length c] 144 (0, 0))
  have HB := Lib.hid (bt0 hb1 (ba1 w1 (.cells #[.int .i64 (n : Int), .int .i64 (n : Int), .slice a l.length c] 144 (0, 0))) (Nat.le_refl _))
  have HI := Lib.hid (hi.below (ba1 w1 (.cells #[.int .i64 (n : Int), .int .i64 (n : Int), .slice a l.length c] 144 (0, 0))))
  have hll : l.length ≤ 2000 := by rw [HL.out]; omega
  clear hi hb1 hl
  go_wp2_with fail
  obtain ⟨w2, hw2⟩ : ∃ w2, w2 = w1.alloc (.cells #[.int .i64 (n : Int), .int .i64 (n : Int), .slice a l.length c] 144 (0, 0)) := ⟨_, rfl⟩
  rw [← hw2] at hX HB HI ⊢
  obtain ⟨hcA, hfA⟩ := heap_cellR hX
  have hltA := blkLt hX
  clear hX hw2
  go_loopw [4, 5] (fun o i wr => ∃ k : Nat, k ≤ l.length ∧ i = .int .i64 k ∧ o = .int .i64 (-30 + (ngS l k : Int)) ∧ wr = w2) (fun _ i _ => l.length - (intOf i).toNat)
  case atStart => exact ⟨0, Nat.zero_le _, rfl, by simp [ngS], rfl⟩
  case round =>
    obtain ⟨k, hk, rfl, rfl, rfl⟩ := hrel
    by_cases hlt : k < l.length
    · obtain ⟨b1, o1, x, rfl, hxk, hb1, hc1⟩ := HI.out.at hlt
      have hki : (k : Int) < (l.length : Int) := by omega
      have HS := Lib.hid (ngS_step hxk)
      have hng := ngS_le l k
      obtain ⟨m, hm⟩ : ∃ m, m = ngS l k := ⟨_, rfl⟩
      rw [← hm] at HS hng ⊢
      clear hxk hm
      by_cases hx : x < 0
      · have HS2 := Lib.hid (HS.out.trans (by rw [if_pos hx]))
        go_wp2_with fail
        exact ⟨⟨k + 1, by omega, by push_cast; rfl, by rw [HS2.out]; push_cast; congr 1; omega, trivial⟩, by simp [intOf]; omega⟩
      · have HS2 := Lib.hid (HS.out.trans (by rw [if_neg hx, Nat.add_zero]))
        go_wp2_with fail
        exact ⟨⟨k + 1, by omega, by push_cast; rfl, by rw [HS2.out], trivial⟩, by simp [intOf]; omega⟩
    · obtain rfl : k = l.length := by omega
      have hki : ¬ ((l.length : Nat) : Int) < (l.length : Int) := by omega
      have HE := Lib.hid (show -30 + (ngS l l.length : Int) = R by rw [HR.out, HL.out])
      obtain ⟨m, hm⟩ : ∃ m, m = ngS l l.length := ⟨_, rfl⟩
      rw [← hm] at HE ⊢
      clear hm
      go_wp2_with fail
      go_ret
      exact ⟨ret_int HE.out, HB.out⟩

end Go.Proofs.YtlcglclojlffgaaGreat
namespace Go.Proofs.YtlcglclojlffgaaGreat
open Go.RowKit

set_option maxRecDepth 100000 in
set_option maxHeartbeats 2000000 in
theorem layout_any (nm : ByteArray) (kd p k g : Int) (a1 : Option Addr) (szs : List Int) (c1 : Nat) (cl : Int) (a2 : Option Addr) (lvs : List Int) (c2 : Nat) (n lev : Int) (w : World) (h : Fam.ok ⟨nm, kd, p, k, g, szs, cl, lvs⟩ = true) (hn : hasI szs n = true) (hl : 0 ≤ lev ∧ lev < lvs.length) (hx : IntsAt w a2 lvs) (L : Lay) (hL : Fam.lay ⟨nm, kd, p, k, g, szs, cl, lvs⟩ n lev = L) :
    Calls Tryz.prog 31 #[(.agg #[.string nm, .int .i64 kd, .int .i64 p, .int .i64 k, .int .i64 g, .slice a1 szs.length c1, .int .i64 cl, .slice a2 lvs.length c2]), .int .i64 n, .int .i64 lev] w fun e w' => e = .returned (.agg #[.int .i64 p, .int .i64 k, .int .i64 g, .int .i64 L.data, .int .i64 L.checks, .int .i64 L.count]) ∧ Below w.heap.size w w' := by
  have hbd := elems_bd h hn
  obtain ⟨E, hE⟩ : ∃ E, E = Fam.elems ⟨nm, kd, p, k, g, szs, cl, lvs⟩ n := ⟨_, rfl⟩
  have HEe := Lib.hid hE
  rw [← hE] at hbd
  obtain ⟨h1, h2, h3, -, -⟩ := fam_ok h
  have HF := Lib.hid (fv_of h1)
  have hq := HF.out.fd.q_bd
  obtain ⟨Q, hQ⟩ : ∃ Q, Q = (bF k.toNat g.toNat).q := ⟨_, rfl⟩
  have HQ := Lib.hid hQ
  rw [← hQ] at hq
  obtain ⟨lv, rfl⟩ := Int.eq_ofNat_of_zero_le hl.1
  have hll : lv < lvs.length := by omega
  have hlvi : (lv : Int) < (lvs.length : Int) := hl.2
  obtain ⟨b1, o1, v, rfl, hv, hlb, hc1⟩ := hx.at hll
  have hvb := ris_in h3 (List.mem_of_getElem? hv)
  have HX := Lib.hid hx
  -- the numbers
  have hm : (if (255 : Int) < (Q : Int) - 1 then 255 else (Q : Int) - 1) = (Q : Int) - 1 := by rw [if_neg (by omega)]
  obtain ⟨C, hC⟩ : ∃ C, (E + ((Q : Int) - 1) - 1) / ((Q : Int) - 1) = C := ⟨_, rfl⟩
  have hCb : 1 ≤ C ∧ C ≤ 1700 := by
    rw [← hC]
    refine ⟨(Int.le_ediv_iff_mul_le (by omega)).2 (by omega), Int.le_trans (Int.ediv_le_self _ (by omega)) (by omega)⟩
  have hTb : 3 * 1 ≤ E * v ∧ E * v ≤ 1408 * 80 := ⟨Int.mul_le_mul hbd.1 hvb.1 (by omega) (by omega), Int.mul_le_mul hbd.2 hvb.2 (by omega) (by omega)⟩
  obtain ⟨T, hT⟩ : ∃ T, E * v = T := ⟨_, rfl⟩
  rw [hT] at hTb
  have hw1 : wrap64 (E * v) = T := by rw [hT]; unfold wrap64; omega
  obtain ⟨X, hX⟩ : ∃ X, T / 100 / C = X := ⟨_, rfl⟩
  have hXb : 0 ≤ X ∧ X ≤ 112640 := by
    rw [← hX]
    refine ⟨Int.ediv_nonneg (by omega) (by omega), Int.le_trans (Int.ediv_le_self _ (by omega)) (by omega)⟩
  obtain ⟨Y, hY⟩ : ∃ Y, (if X < 64 then X else 64) = Y := ⟨_, rfl⟩
  have hYb : 0 ≤ Y ∧ Y ≤ 64 := by rw [← hY]; split <;> omega
  obtain ⟨K, hK⟩ : ∃ K, (if 2 < Y then Y else 2) = K := ⟨_, rfl⟩
  have hKb : 2 ≤ K ∧ K ≤ 64 := by rw [← hK]; split <;> omega
  have hRb : 1 * 2 ≤ C * K ∧ C * K ≤ 1700 * 64 := ⟨Int.mul_le_mul hCb.1 hKb.1 (by omega) (by omega), Int.mul_le_mul hCb.2 hKb.2 (by omega) (by omega)⟩
  obtain ⟨R, hR⟩ : ∃ R, C * K = R := ⟨_, rfl⟩
  rw [hR] at hRb
  have hw2 : wrap64 (C * K) = R := by rw [hR]; unfold wrap64; omega
  have HL := Lib.hid (show L = ⟨E - R, K, C⟩ by
    have e0 : ((2 ^ k.toNat : Nat) : Int) = (Q : Int) := by rw [hQ]; rfl
    have e1 : lvs.getD (((lv : Nat) : Int)).toNat 0 = v := by rw [Int.toNat_natCast, List.getD_eq_getElem?_getD, hv]; rfl
    rw [← hL]
    unfold Fam.lay
    dsimp only
    rw [← hE, e0, e1, if_pos (by omega), hC, hT, hX]
    have e2 : (if X ≤ 64 then X else 64) = Y := by rw [← hY]; split <;> split <;> omega
    rw [e2]
    have e3 : (if 2 ≤ Y then Y else 2) = K := by rw [← hK]; split <;> split <;> omega
    rw [e3, hR])
  rw [HL.out]
  dsimp only
  have HH := Lib.hid h
  have HN := Lib.hid hn
  clear h hn h1 h2 h3 hx hv hQ hE hL hT hR
  go_enter Tryz.func31, Tryz.ntmps31
  go_wp2_with fail
  refine (elements_any nm kd p k g a1 szs c1 cl _ lvs c2 n _ HH.out HN.out).mono ?_
  rintro e w1 ⟨rfl, hb1⟩
  rw [← HEe.out]
  have e2 := heap2 w (.cells #[.string nm, .int .i64 kd, .int .i64 p, .int .i64 k, .int .i64 g, .slice a1 szs.length c1, .int .i64 cl, .slice (some ⟨b1, o1, none⟩) lvs.length c2] 32 (0, 0)) (.cells #[.int .i64 0, .int .i64 0, .int .i64 0, .int .i64 0, .int .i64 0, .int .i64 0] 40 (0, 0))
  have k1 := blkK hb1 e2.1
  have k2 := blkK hb1 e2.2
  have K1 := Lib.hid k1
  have K2 := Lib.hid k2
  obtain ⟨hcA, hfA⟩ := heap_cellR k1
  have HB1 := Lib.hid (bt2 hb1)
  have z1 := blkLt k1
  clear hb1 e2 k1 k2
  go_wp2_with fail
  refine ((fieldSize_any HF.out _).mono (R' := fun e w' => e = .returned (.int .i64 (Q : Int)) ∧ Below w1.heap.size w1 w') (fun e w' h => ⟨by rw [h.1, HQ.out], h.2⟩)).mono ?_
  rintro e w2 ⟨rfl, hb2⟩
  have k1 := blkK hb2 K1.out
  have k2 := blkK hb2 K2.out
  have HB2 := Lib.hid (bt0 HB1.out hb2 (Nat.le_refl _))
  have hc2 := (HB2.out.cell (p := ⟨b1, o1 + lv, none⟩) hlb).trans hc1
  clear hcA hfA hc1
  obtain ⟨hcA, hfA⟩ := heap_cellR k1
  obtain ⟨hcB, hfB⟩ := heap_cellR k2
  have y1 := blkLt k1
  have y2 := blkLt k2
  clear hb2 k1 k2
  go_wp2_with fail
  refine bodyPost_ret (v := .agg #[.int .i64 p, .int .i64 k, .int .i64 g, .int .i64 (E - R), .int .i64 K, .int .i64 C]) (by simp [results, Tryz.results31, go_sem, hcB]) rfl ⟨rfl, ?_⟩
  iterate 6 (refine Below.setCell ?_ (by dsimp only; omega) _)
  exact HB2.out

end Go.Proofs.YtlcglclojlffgaaGreat
namespace Go.Proofs.YtlcglclojlffgaaGreat
open Go.RowKit

/-- the code of a layout; the layout as a value -/
def layC (f : Fam) (n lev : Int) : Int := if f.ok = true then (if hasI f.sizes n = true ∧ inB lev 0 ((f.levels.length : Int) - 1) = true then (if (f.lay n lev).ok ((2 ^ f.fk.toNat : Nat) : Int) = true then 0 else 3) else 2) else 1
def layA (f : Fam) (n lev : Int) : Value := if layC f n lev = 0 then .agg #[.int .i64 f.fp, .int .i64 f.fk, .int .i64 f.fg, .int .i64 (f.lay n lev).data, .int .i64 (f.lay n lev).checks, .int .i64 (f.lay n lev).count] else .agg #[.int .i64 0, .int .i64 0, .int .i64 0, .int .i64 0, .int .i64 0, .int .i64 0]
set_option maxRecDepth 100000 in
set_option maxHeartbeats 4000000 in
theorem layoutOf_any (nm : ByteArray) (kd p k g : Int) (a1 : Option Addr) (szs : List Int) (c1 : Nat) (cl : Int) (a2 : Option Addr) (lvs : List Int) (c2 : Nat) (n lev : Int) (w : World) (h1 : IntsAt w a1 szs) (h2 : IntsAt w a2 lvs) (l1 : szs.length ≤ 1048576) (l2 : lvs.length ≤ 1048576) (ln : nm.size ≤ 1048576) (hw : ∀ x ∈ szs, -9223372036854775808 ≤ x ∧ x ≤ 9223372036854775807) :
    Calls Tryz.prog 18 #[(.agg #[.string nm, .int .i64 kd, .int .i64 p, .int .i64 k, .int .i64 g, .slice a1 szs.length c1, .int .i64 cl, .slice a2 lvs.length c2]), .int .i64 n, .int .i64 lev] w fun e w' => e = .returned (.tuple #[layA ⟨nm, kd, p, k, g, szs, cl, lvs⟩ n lev, .int .i64 (layC ⟨nm, kd, p, k, g, szs, cl, lvs⟩ n lev)]) ∧ Below w.heap.size w w' := by
  have H1 := Lib.hid h1
  have H2 := Lib.hid h2
  have HW := Lib.hid hw
  have L1 := Lib.hid l1
  have L2 := Lib.hid l2
  have LN := Lib.hid ln
  obtain ⟨fam, hfam⟩ : ∃ f, f = Fam.mk nm kd p k g szs cl lvs := ⟨_, rfl⟩
  have HFM := Lib.hid hfam
  have HFI := Lib.hid (fun w (h1 : IntsAt w a1 szs) (h2 : IntsAt w a2 lvs) => isFamily_any nm kd p k g a1 szs c1 cl a2 lvs c2 w h1 h2 l1 l2 ln hw)
  rw [← hfam] at HFI ⊢
  clear h1 h2 hw l1 l2 ln hfam
  rcases Bool.eq_false_or_eq_true fam.ok with ho | ho
  · have HO := Lib.hid ho
    have hfo : Fam.ok ⟨nm, kd, p, k, g, szs, cl, lvs⟩ = true := by rw [← HFM.out]; exact ho
    obtain ⟨hfb, -⟩ := fam_ok hfo
    have HF := Lib.hid (fv_of hfb)
    clear hfo hfb
    rcases Bool.eq_false_or_eq_true (hasI szs n) with hs | hs
    · have HS := Lib.hid hs
      rcases Bool.eq_false_or_eq_true (inB lev 0 ((lvs.length : Int) - 1)) with hv | hv
      · have HLv := Lib.hid hv
        have HLi := Lib.hid (show 0 ≤ lev ∧ lev < lvs.length by have := inB_iff.1 hv; omega)
        obtain ⟨L, hL⟩ : ∃ L, fam.lay n lev = L := ⟨_, rfl⟩
        have HLe := Lib.hid hL
        have HQe := Lib.hid (show ((2 ^ fam.fk.toNat : Nat) : Int) = ((bF k.toNat g.toNat).q : Int) by rw [HFM.out]; rfl)
        rcases Bool.eq_false_or_eq_true (L.ok ((bF k.toNat g.toNat).q : Int)) with hl | hl
        · have HLo := Lib.hid hl
          have HC := Lib.hid (show layC fam n lev = 0 by rw [layC, if_pos ho, if_pos (by rw [HFM.out]; exact ⟨hs, hv⟩), hL, HQe.out, if_pos hl])
          have HV := Lib.hid (show layA fam n lev = .agg #[.int .i64 p, .int .i64 k, .int .i64 g, .int .i64 L.data, .int .i64 L.checks, .int .i64 L.count] by rw [layA, if_pos HC.out, hL, HFM.out])
          clear ho hs hv hL hl
          go_enter Tryz.func18, Tryz.ntmps18
          go_wp2_with fail
          have e2 := heap2 w (.cells #[.string nm, .int .i64 kd, .int .i64 p, .int .i64 k, .int .i64 g, .slice a1 szs.length c1, .int .i64 cl, .slice a2 lvs.length c2] 32 (0, 0)) (.cells #[.int .i64 0, .int .i64 0, .int .i64 0, .int .i64 0, .int .i64 0, .int .i64 0] 40 (0, 0))
          refine (HFI.out _ (H1.out.below (ba2 _ _ _)) (H2.out.below (ba2 _ _ _))).mono ?_
          rw [HO.out]
          rintro e w1 ⟨rfl, hb1⟩
          have K1 := Lib.hid (blkK hb1 e2.1)
          have K2 := Lib.hid (blkK hb1 e2.2)
          have HB1 := Lib.hid (bt2 hb1)
          clear hb1 e2
          obtain ⟨hcA, hfA⟩ := heap_cellR K1.out
          obtain ⟨hcB, hfB⟩ := heap_cellR K2.out
          have z1 := blkLt K1.out
          have z2 := blkLt K2.out
          go_wp2_with fail
          refine (hasSize_any nm kd p k g a1 szs c1 cl a2 lvs c2 n _ (H1.out.below HB1.out) (Nat.le_trans L1.out (by decide))).mono ?_
          rw [HS.out]
          rintro e w2 ⟨rfl, hb2⟩
          have K3 := Lib.hid (blkK hb2 K1.out)
          have K4 := Lib.hid (blkK hb2 K2.out)
          have HB2 := Lib.hid (bt0 HB1.out hb2 (Nat.le_refl _))
          clear hb2 hcA hfA hcB hfB
          obtain ⟨hcA, hfA⟩ := heap_cellR K3.out
          obtain ⟨hcB, hfB⟩ := heap_cellR K4.out
          have z3 := blkLt K3.out
          have z4 := blkLt K4.out
          go_wp2_with fail
          refine (hasLevel_any nm kd p k g a1 szs c1 cl a2 lvs c2 lev _ (Nat.le_trans L2.out (by decide))).mono ?_
          rw [HLv.out]
          rintro e w3 ⟨rfl, hb3⟩
          have K5 := Lib.hid (blkK hb3 K3.out)
          have K6 := Lib.hid (blkK hb3 K4.out)
          have HB3 := Lib.hid (bt0 HB2.out hb3 (Nat.le_refl _))
          clear hb3 hcA hfA hcB hfB
          obtain ⟨hcA, hfA⟩ := heap_cellR K5.out
          obtain ⟨hcB, hfB⟩ := heap_cellR K6.out
          have z5 := blkLt K5.out
          have z6 := blkLt K6.out
          go_wp2_with fail
          refine (layout_any nm kd p k g a1 szs c1 cl a2 lvs c2 n lev _ (by rw [← HFM.out]; exact HO.out) HS.out HLi.out (H2.out.below HB3.out) L (by rw [← HFM.out]; exact HLe.out)).mono ?_
          rintro e w4 ⟨rfl, hb4⟩
          have K7 := Lib.hid (blkK (bt0 (Below.refl _ _) hb4 (Nat.le_refl _)) K6.out)
          have HB4 := Lib.hid (bt0 HB3.out hb4 (Nat.le_refl _))
          clear hb4 hcA hfA hcB hfB
          have z7 := blkLt K7.out
          go_wp2_with fail
          refine (isLayout_any HF.out L.data L.checks L.count _).mono ?_
          rw [show Lay.mk L.data L.checks L.count = L from rfl, HLo.out]
          rintro e w5 ⟨rfl, hb5⟩
          have K8 := Lib.hid (blkK hb5 ((blkK (ba1 _ _) K7.out)))
          have HB5 := Lib.hid (bt0 (bt0 HB4.out (ba1 _ _) (Nat.le_refl _)) hb5 (Nat.le_refl _))
          have K9 := Lib.hid (blkK hb5 (push_at w4 (.cells #[.int .i64 p, .int .i64 k, .int .i64 g, .int .i64 L.data, .int .i64 L.checks, .int .i64 L.count] 40 (0, 0))))
          clear hb5
          obtain ⟨hcB, hfB⟩ := heap_cellR K8.out
          obtain ⟨hcC, hfC⟩ := heap_cellR K9.out
          have z8 := blkLt K8.out
          have z9 := blkLt K9.out
          go_wp2_with fail
          refine bodyPost_ret (v := .tuple #[.agg #[.int .i64 p, .int .i64 k, .int .i64 g, .int .i64 L.data, .int .i64 L.checks, .int .i64 L.count], .int .i64 0]) (by simp [results, Tryz.results18, go_sem, hcB]) rfl ⟨by rw [HV.out, HC.out], ?_⟩
          iterate 6 (refine Below.setCell ?_ (by dsimp only; omega) _)
          exact HB5.out
        · have HLo := Lib.hid hl
          have HC := Lib.hid (show layC fam n lev = 3 by rw [layC, if_pos ho, if_pos (by rw [HFM.out]; exact ⟨hs, hv⟩), hL, HQe.out, if_neg (by rw [hl]; decide)])
          have HV := Lib.hid (show layA fam n lev = .agg #[.int .i64 0, .int .i64 0, .int .i64 0, .int .i64 0, .int .i64 0, .int .i64 0] by rw [layA, if_neg (by rw [HC.out]; decide)])
          clear ho hs hv hL hl
          go_enter Tryz.func18, Tryz.ntmps18
          go_wp2_with fail
          have e2 := heap2 w (.cells #[.string nm, .int .i64 kd, .int .i64 p, .int .i64 k, .int .i64 g, .slice a1 szs.length c1, .int .i64 cl, .slice a2 lvs.length c2] 32 (0, 0)) (.cells #[.int .i64 0, .int .i64 0, .int .i64 0, .int .i64 0, .int .i64 0, .int .i64 0] 40 (0, 0))
          refine (HFI.out _ (H1.out.below (ba2 _ _ _)) (H2.out.below (ba2 _ _ _))).mono ?_
          rw [HO.out]
          rintro e w1 ⟨rfl, hb1⟩
          have K1 := Lib.hid (blkK hb1 e2.1)
          have K2 := Lib.hid (blkK hb1 e2.2)
          have HB1 := Lib.hid (bt2 hb1)
          clear hb1 e2
          obtain ⟨hcA, hfA⟩ := heap_cellR K1.out
          obtain ⟨hcB, hfB⟩ := heap_cellR K2.out
          have z1 := blkLt K1.out
          have z2 := blkLt K2.out
          go_wp2_with fail
          refine (hasSize_any nm kd p k g a1 szs c1 cl a2 lvs c2 n _ (H1.out.below HB1.out) (Nat.le_trans L1.out (by decide))).mono ?_
          rw [HS.out]
          rintro e w2 ⟨rfl, hb2⟩
          have K3 := Lib.hid (blkK hb2 K1.out)
          have K4 := Lib.hid (blkK hb2 K2.out)
          have HB2 := Lib.hid (bt0 HB1.out hb2 (Nat.le_refl _))
          clear hb2 hcA hfA hcB hfB
          obtain ⟨hcA, hfA⟩ := heap_cellR K3.out
          obtain ⟨hcB, hfB⟩ := heap_cellR K4.out
          have z3 := blkLt K3.out
          have z4 := blkLt K4.out
          go_wp2_with fail
          refine (hasLevel_any nm kd p k g a1 szs c1 cl a2 lvs c2 lev _ (Nat.le_trans L2.out (by decide))).mono ?_
          rw [HLv.out]
          rintro e w3 ⟨rfl, hb3⟩
          have K5 := Lib.hid (blkK hb3 K3.out)
          have K6 := Lib.hid (blkK hb3 K4.out)
          have HB3 := Lib.hid (bt0 HB2.out hb3 (Nat.le_refl _))
          clear hb3 hcA hfA hcB hfB
          obtain ⟨hcA, hfA⟩ := heap_cellR K5.out
          obtain ⟨hcB, hfB⟩ := heap_cellR K6.out
          have z5 := blkLt K5.out
          have z6 := blkLt K6.out
          go_wp2_with fail
          refine (layout_any nm kd p k g a1 szs c1 cl a2 lvs c2 n lev _ (by rw [← HFM.out]; exact HO.out) HS.out HLi.out (H2.out.below HB3.out) L (by rw [← HFM.out]; exact HLe.out)).mono ?_
          rintro e w4 ⟨rfl, hb4⟩
          have K7 := Lib.hid (blkK (bt0 (Below.refl _ _) hb4 (Nat.le_refl _)) K6.out)
          have HB4 := Lib.hid (bt0 HB3.out hb4 (Nat.le_refl _))
          clear hb4 hcA hfA hcB hfB
          have z7 := blkLt K7.out
          go_wp2_with fail
          refine (isLayout_any HF.out L.data L.checks L.count _).mono ?_
          rw [show Lay.mk L.data L.checks L.count = L from rfl, HLo.out]
          rintro e w5 ⟨rfl, hb5⟩
          have K8 := Lib.hid (blkK hb5 ((blkK (ba1 _ _) K7.out)))
          have HB5 := Lib.hid (bt0 (bt0 HB4.out (ba1 _ _) (Nat.le_refl _)) hb5 (Nat.le_refl _))
          have K9 := Lib.hid (blkK hb5 (push_at w4 (.cells #[.int .i64 p, .int .i64 k, .int .i64 g, .int .i64 L.data, .int .i64 L.checks, .int .i64 L.count] 40 (0, 0))))
          clear hb5
          obtain ⟨hcB, hfB⟩ := heap_cellR K8.out
          obtain ⟨hcC, hfC⟩ := heap_cellR K9.out
          have z8 := blkLt K8.out
          have z9 := blkLt K9.out
          go_wp2_with fail
          refine bodyPost_ret (v := .tuple #[.agg #[.int .i64 0, .int .i64 0, .int .i64 0, .int .i64 0, .int .i64 0, .int .i64 0], .int .i64 3]) (by simp [results, Tryz.results18, go_sem, hcB]) rfl ⟨by rw [HV.out, HC.out], ?_⟩
          iterate 6 (refine Below.setCell ?_ (by dsimp only; omega) _)
          exact HB5.out
      · have HLv := Lib.hid hv
        have HC := Lib.hid (show layC fam n lev = 2 by rw [layC, if_pos ho, if_neg (by rw [HFM.out]; dsimp only; rw [hv]; simp)])
        have HV := Lib.hid (show layA fam n lev = .agg #[.int .i64 0, .int .i64 0, .int .i64 0, .int .i64 0, .int .i64 0, .int .i64 0] by rw [layA, if_neg (by rw [HC.out]; decide)])
        clear ho hs hv
        go_enter Tryz.func18, Tryz.ntmps18
        go_wp2_with fail
        have e2 := heap2 w (.cells #[.string nm, .int .i64 kd, .int .i64 p, .int .i64 k, .int .i64 g, .slice a1 szs.length c1, .int .i64 cl, .slice a2 lvs.length c2] 32 (0, 0)) (.cells #[.int .i64 0, .int .i64 0, .int .i64 0, .int .i64 0, .int .i64 0, .int .i64 0] 40 (0, 0))
        refine (HFI.out _ (H1.out.below (ba2 _ _ _)) (H2.out.below (ba2 _ _ _))).mono ?_
        rw [HO.out]
        rintro e w1 ⟨rfl, hb1⟩
        have K1 := Lib.hid (blkK hb1 e2.1)
        have K2 := Lib.hid (blkK hb1 e2.2)
        have HB1 := Lib.hid (bt2 hb1)
        clear hb1 e2
        obtain ⟨hcA, hfA⟩ := heap_cellR K1.out
        obtain ⟨hcB, hfB⟩ := heap_cellR K2.out
        have z1 := blkLt K1.out
        have z2 := blkLt K2.out
        go_wp2_with fail
        refine (hasSize_any nm kd p k g a1 szs c1 cl a2 lvs c2 n _ (H1.out.below HB1.out) (Nat.le_trans L1.out (by decide))).mono ?_
        rw [HS.out]
        rintro e w2 ⟨rfl, hb2⟩
        have K3 := Lib.hid (blkK hb2 K1.out)
        have K4 := Lib.hid (blkK hb2 K2.out)
        have HB2 := Lib.hid (bt0 HB1.out hb2 (Nat.le_refl _))
        clear hb2 hcA hfA hcB hfB
        obtain ⟨hcA, hfA⟩ := heap_cellR K3.out
        obtain ⟨hcB, hfB⟩ := heap_cellR K4.out
        have z3 := blkLt K3.out
        have z4 := blkLt K4.out
        go_wp2_with fail
        refine (hasLevel_any nm kd p k g a1 szs c1 cl a2 lvs c2 lev _ (Nat.le_trans L2.out (by decide))).mono ?_
        rw [HLv.out]
        rintro e w3 ⟨rfl, hb3⟩
        have K5 := Lib.hid (blkK hb3 K3.out)
        have K6 := Lib.hid (blkK hb3 K4.out)
        have HB3 := Lib.hid (bt0 HB2.out hb3 (Nat.le_refl _))
        clear hb3 hcA hfA hcB hfB
        obtain ⟨hcA, hfA⟩ := heap_cellR K5.out
        obtain ⟨hcB, hfB⟩ := heap_cellR K6.out
        have z5 := blkLt K5.out
        have z6 := blkLt K6.out
        go_wp2_with fail
        refine bodyPost_ret (v := .tuple #[.agg #[.int .i64 0, .int .i64 0, .int .i64 0, .int .i64 0, .int .i64 0, .int .i64 0], .int .i64 2]) (by simp [results, Tryz.results18, go_sem, hcB]) rfl ⟨by rw [HV.out, HC.out], ?_⟩
        iterate 6 (refine Below.setCell ?_ (by dsimp only; omega) _)
        exact HB3.out
    · have HS := Lib.hid hs
      have HC := Lib.hid (show layC fam n lev = 2 by rw [layC, if_pos ho, if_neg (by rw [HFM.out]; dsimp only; rw [hs]; simp)])
      have HV := Lib.hid (show layA fam n lev = .agg #[.int .i64 0, .int .i64 0, .int .i64 0, .int .i64 0, .int .i64 0, .int .i64 0] by rw [layA, if_neg (by rw [HC.out]; decide)])
      clear ho hs
      go_enter Tryz.func18, Tryz.ntmps18
      go_wp2_with fail
      have e2 := heap2 w (.cells #[.string nm, .int .i64 kd, .int .i64 p, .int .i64 k, .int .i64 g, .slice a1 szs.length c1, .int .i64 cl, .slice a2 lvs.length c2] 32 (0, 0)) (.cells #[.int .i64 0, .int .i64 0, .int .i64 0, .int .i64 0, .int .i64 0, .int .i64 0] 40 (0, 0))
      refine (HFI.out _ (H1.out.below (ba2 _ _ _)) (H2.out.below (ba2 _ _ _))).mono ?_
      rw [HO.out]
      rintro e w1 ⟨rfl, hb1⟩
      have K1 := Lib.hid (blkK hb1 e2.1)
      have K2 := Lib.hid (blkK hb1 e2.2)
      have HB1 := Lib.hid (bt2 hb1)
      clear hb1 e2
      obtain ⟨hcA, hfA⟩ := heap_cellR K1.out
      obtain ⟨hcB, hfB⟩ := heap_cellR K2.out
      have z1 := blkLt K1.out
      have z2 := blkLt K2.out
      go_wp2_with fail
      refine (hasSize_any nm kd p k g a1 szs c1 cl a2 lvs c2 n _ (H1.out.below HB1.out) (Nat.le_trans L1.out (by decide))).mono ?_
      rw [HS.out]
      rintro e w2 ⟨rfl, hb2⟩
      have K3 := Lib.hid (blkK hb2 K1.out)
      have K4 := Lib.hid (blkK hb2 K2.out)
      have HB2 := Lib.hid (bt0 HB1.out hb2 (Nat.le_refl _))
      clear hb2 hcA hfA hcB hfB
      obtain ⟨hcA, hfA⟩ := heap_cellR K3.out
      obtain ⟨hcB, hfB⟩ := heap_cellR K4.out
      have z3 := blkLt K3.out
      have z4 := blkLt K4.out
      go_wp2_with fail
      refine bodyPost_ret (v := .tuple #[.agg #[.int .i64 0, .int .i64 0, .int .i64 0, .int .i64 0, .int .i64 0, .int .i64 0], .int .i64 2]) (by simp [results, Tryz.results18, go_sem, hcB]) rfl ⟨by rw [HV.out, HC.out], ?_⟩
      iterate 6 (refine Below.setCell ?_ (by dsimp only; omega) _)
      exact HB2.out
  · have HO := Lib.hid ho
    have HC := Lib.hid (show layC fam n lev = 1 by rw [layC, if_neg (by rw [ho]; decide)])
    have HV := Lib.hid (show layA fam n lev = .agg #[.int .i64 0, .int .i64 0, .int .i64 0, .int .i64 0, .int .i64 0, .int .i64 0] by rw [layA, if_neg (by rw [HC.out]; decide)])
    clear ho
    go_enter Tryz.func18, Tryz.ntmps18
    go_wp2_with fail
    have e2 := heap2 w (.cells #[.string nm, .int .i64 kd, .int .i64 p, .int .i64 k, .int .i64 g, .slice a1 szs.length c1, .int .i64 cl, .slice a2 lvs.length c2] 32 (0, 0)) (.cells #[.int .i64 0, .int .i64 0, .int .i64 0, .int .i64 0, .int .i64 0, .int .i64 0] 40 (0, 0))
    refine (HFI.out _ (H1.out.below (ba2 _ _ _)) (H2.out.below (ba2 _ _ _))).mono ?_
    rw [HO.out]
    rintro e w1 ⟨rfl, hb1⟩
    have K1 := Lib.hid (blkK hb1 e2.1)
    have K2 := Lib.hid (blkK hb1 e2.2)
    have HB1 := Lib.hid (bt2 hb1)
    clear hb1 e2
    obtain ⟨hcA, hfA⟩ := heap_cellR K1.out
    obtain ⟨hcB, hfB⟩ := heap_cellR K2.out
    have z1 := blkLt K1.out
    have z2 := blkLt K2.out
    go_wp2_with fail
    refine bodyPost_ret (v := .tuple #[.agg #[.int .i64 0, .int .i64 0, .int .i64 0, .int .i64 0, .int .i64 0, .int .i64 0], .int .i64 1]) (by simp [results, Tryz.results18, go_sem, hcB]) rfl ⟨by rw [HV.out, HC.out], ?_⟩
    iterate 6 (refine Below.setCell ?_ (by dsimp only; omega) _)
    exact HB1.out

end Go.Proofs.YtlcglclojlffgaaGreat
namespace Go.Proofs.YtlcglclojlffgaaGreat
open Go.RowKit

set_option maxRecDepth 100000 in
set_option maxHeartbeats 1000000 in
theorem spElements_any (nm : ByteArray) (kd p k g : Int) (a1 : Option Addr) (szs : List Int) (c1 : Nat) (cl : Int) (a2 : Option Addr) (lvs : List Int) (c2 : Nat) (n : Int) (w : World) (h : Fam.ok ⟨nm, kd, p, k, g, szs, cl, lvs⟩ = true) (hn : hasI szs n = true) :
    Calls Tryz.prog 50 #[(.agg #[.string nm, .int .i64 kd, .int .i64 p, .int .i64 k, .int .i64 g, .slice a1 szs.length c1, .int .i64 cl, .slice a2 lvs.length c2]), .int .i64 n] w fun e w' => e = .returned (.int .i64 (Fam.elems ⟨nm, kd, p, k, g, szs, cl, lvs⟩ n)) ∧ Below w.heap.size w w' := by
  have hbd := elems_bd h hn
  obtain ⟨E, hE⟩ : ∃ E, E = Fam.elems ⟨nm, kd, p, k, g, szs, cl, lvs⟩ n := ⟨_, rfl⟩
  rw [← hE] at hbd ⊢
  obtain ⟨h1, h2, h3, h4, h5⟩ := fam_ok h
  have hm := hasI_mem hn
  unfold Fam.elems at hE
  dsimp only at hE
  have HE := Lib.hid hE
  clear hE
  rcases h5 with ⟨rfl, h6, h7⟩ | ⟨rfl, -, -, -, h6, h7⟩
  · have HS := Lib.hid (List.all_eq_true.1 h6 n hm)
    have hb := msz_bd HS.out
    rw [if_neg (by decide)] at HE
    have HF := Lib.hid (fv_of h1)
    have hk := HF.out.ok.k
    have hk3 := HF.out.ok.k3
    have hk8 := HF.out.ok.k8
    obtain ⟨F, hFe⟩ : ∃ F, F = bF k.toNat g.toNat := ⟨_, rfl⟩
    rw [← hFe] at HF hk hk3 hk8
    have hd := dcnt_bd n
    obtain ⟨D, hD⟩ : ∃ D, D = dcnt n := ⟨_, rfl⟩
    rw [← hD] at hd HE
    have HCN : Hid (∀ w : World, Calls Tryz.prog 88 #[.int .i64 n] w fun e w' => e = .returned (.int .i64 (D : Int)) ∧ Below w.heap.size w w') := Lib.hid (fun w => by
      have h1 := spCount_any n.toNat (by omega) w
      rw [cntS_eq HS.out, ← hD, Int.toNat_of_nonneg (by omega)] at h1
      exact h1)
    have HWD : Hid (∀ w : World, Calls Tryz.prog 56 #[.agg #[.int .i64 p, .int .i64 k, .int .i64 g]] w fun e w' => e = .returned (.int .i64 k) ∧ Below w.heap.size w w') := Lib.hid (fun w => by
      have h1 := spWidth_any F HF.out.r.toFdB w
      rw [← HF.out.v, ← hk] at h1
      exact h1)
    have hq : (0 : Int) ≤ (D : Int) / k ∧ (D : Int) / k ≤ 1408 := by rw [← HE.out]; omega
    have hK0 : (k == 0) = false := by rw [beq_eq_false_iff_ne]; omega
    have htd : (D : Int).tdiv k = (D : Int) / k := Int.tdiv_eq_ediv_of_nonneg (by omega)
    have hki : 3 ≤ k ∧ k ≤ 8 := by omega
    clear h1 h2 h3 h4 h6 h7 hm hFe hD hk hk3 hk8
    go_enter Tryz.func50, Tryz.ntmps50
    go_wp2_with fail
    refine wp_region_ext (by kernel_rfl) (by kernel_rfl) ?_
    repeat (go_big_quiet_step ((first
      | (go_at_call 88; go_must (exact calls_ext _ (HCN.out _)))
      | (go_at_call 56; go_must (exact calls_ext _ (HWD.out _))))))
    refine wpQuiet_nil ?_
    rintro _ ⟨s, rfl⟩
    go_wp2_with fail
    go_ret
    exact ⟨ret_int HE.out.symm, bt0 (ba1 _ _) s.below (Nat.le_refl _)⟩
  · rw [if_pos rfl] at HE
    have HW := Lib.hid (show wrap64 (n * cl) = E by rw [← HE.out]; unfold wrap64; omega)
    clear h1 h2 h3 h4 h6 h7 hm
    go_enter Tryz.func50, Tryz.ntmps50
    go_wp2_with fail
    go_ret
    exact ⟨ret_int HW.out, ba1 _ _⟩

end Go.Proofs.YtlcglclojlffgaaGreat
namespace Go.Proofs.YtlcglclojlffgaaGreat
open Go.RowKit

set_option maxRecDepth 100000 in
set_option maxHeartbeats 2000000 in
theorem spLayout_any (nm : ByteArray) (kd p k g : Int) (a1 : Option Addr) (szs : List Int) (c1 : Nat) (cl : Int) (a2 : Option Addr) (lvs : List Int) (c2 : Nat) (n lev : Int) (w : World) (h : Fam.ok ⟨nm, kd, p, k, g, szs, cl, lvs⟩ = true) (hn : hasI szs n = true) (hl : 0 ≤ lev ∧ lev < lvs.length) (hx : IntsAt w a2 lvs) (L : Lay) (hL : Fam.lay ⟨nm, kd, p, k, g, szs, cl, lvs⟩ n lev = L) :
    Calls Tryz.prog 24 #[(.agg #[.string nm, .int .i64 kd, .int .i64 p, .int .i64 k, .int .i64 g, .slice a1 szs.length c1, .int .i64 cl, .slice a2 lvs.length c2]), .int .i64 n, .int .i64 lev] w fun e w' => e = .returned (.agg #[.int .i64 p, .int .i64 k, .int .i64 g, .int .i64 L.data, .int .i64 L.checks, .int .i64 L.count]) ∧ Below w.heap.size w w' := by
  have hbd := elems_bd h hn
  obtain ⟨E, hE⟩ : ∃ E, E = Fam.elems ⟨nm, kd, p, k, g, szs, cl, lvs⟩ n := ⟨_, rfl⟩
  have HEe := Lib.hid hE
  rw [← hE] at hbd
  obtain ⟨h1, h2, h3, -, -⟩ := fam_ok h
  have HF := Lib.hid (fv_of h1)
  have hq := HF.out.fd.q_bd
  obtain ⟨Q, hQ⟩ : ∃ Q, Q = (bF k.toNat g.toNat).q := ⟨_, rfl⟩
  have HQ := Lib.hid hQ
  rw [← hQ] at hq
  obtain ⟨lv, rfl⟩ := Int.eq_ofNat_of_zero_le hl.1
  have hll : lv < lvs.length := by omega
  have hlvi : (lv : Int) < (lvs.length : Int) := hl.2
  obtain ⟨b1, o1, v, rfl, hv, hlb, hc1⟩ := hx.at hll
  have hvb := ris_in h3 (List.mem_of_getElem? hv)
  have HX := Lib.hid hx
  -- the numbers
  have hm : (if (255 : Int) < (Q : Int) - 1 then 255 else (Q : Int) - 1) = (Q : Int) - 1 := by rw [if_neg (by omega)]
  obtain ⟨C, hC⟩ : ∃ C, (E + ((Q : Int) - 1) - 1) / ((Q : Int) - 1) = C := ⟨_, rfl⟩
  have hCb : 1 ≤ C ∧ C ≤ 1700 := by
    rw [← hC]
    refine ⟨(Int.le_ediv_iff_mul_le (by omega)).2 (by omega), Int.le_trans (Int.ediv_le_self _ (by omega)) (by omega)⟩
  have hTb : 3 * 1 ≤ E * v ∧ E * v ≤ 1408 * 80 := ⟨Int.mul_le_mul hbd.1 hvb.1 (by omega) (by omega), Int.mul_le_mul hbd.2 hvb.2 (by omega) (by omega)⟩
  obtain ⟨T, hT⟩ : ∃ T, E * v = T := ⟨_, rfl⟩
  rw [hT] at hTb
  have hw1 : wrap64 (E * v) = T := by rw [hT]; unfold wrap64; omega
  obtain ⟨X, hX⟩ : ∃ X, T / 100 / C = X := ⟨_, rfl⟩
  have hXb : 0 ≤ X ∧ X ≤ 112640 := by
    rw [← hX]
    refine ⟨Int.ediv_nonneg (by omega) (by omega), Int.le_trans (Int.ediv_le_self _ (by omega)) (by omega)⟩
  obtain ⟨Y, hY⟩ : ∃ Y, (if 2 < X then X else 2) = Y := ⟨_, rfl⟩
  have hYb : 2 ≤ Y ∧ Y ≤ 112640 := by rw [← hY]; split <;> omega
  obtain ⟨K, hK⟩ : ∃ K, (if Y < 64 then Y else 64) = K := ⟨_, rfl⟩
  have hKb : 2 ≤ K ∧ K ≤ 64 := by rw [← hK]; split <;> omega
  have hRb : 1 * 2 ≤ C * K ∧ C * K ≤ 1700 * 64 := ⟨Int.mul_le_mul hCb.1 hKb.1 (by omega) (by omega), Int.mul_le_mul hCb.2 hKb.2 (by omega) (by omega)⟩
  obtain ⟨R, hR⟩ : ∃ R, C * K = R := ⟨_, rfl⟩
  rw [hR] at hRb
  have hw2 : wrap64 (C * K) = R := by rw [hR]; unfold wrap64; omega
  have HL := Lib.hid (show L = ⟨E - R, K, C⟩ by
    have e0 : ((2 ^ k.toNat : Nat) : Int) = (Q : Int) := by rw [hQ]; rfl
    have e1 : lvs.getD (((lv : Nat) : Int)).toNat 0 = v := by rw [Int.toNat_natCast, List.getD_eq_getElem?_getD, hv]; rfl
    rw [← hL]
    unfold Fam.lay
    dsimp only
    rw [← hE, e0, e1, if_pos (by omega), hC, hT, hX]
    have e3 : (if 2 ≤ (if X ≤ 64 then X else 64) then (if X ≤ 64 then X else 64) else 2) = K := by
      rw [← hK, ← hY]
      repeat' split
      all_goals omega
    rw [e3, hR])
  rw [HL.out]
  dsimp only
  have HH := Lib.hid h
  have HN := Lib.hid hn
  have HSZ : Hid (∀ w : World, Calls Tryz.prog 51 #[.agg #[.int .i64 p, .int .i64 k, .int .i64 g]] w fun e w' => e = .returned (.int .i64 (Q : Int)) ∧ Below w.heap.size w w') := Lib.hid (fun w => by
    have h1 := spSize_any _ HF.out.r.toFdB w
    rw [← HF.out.v, ← HQ.out] at h1
    exact h1)
  clear h hn h1 h2 h3 hx hv hQ hE hL hT hR
  go_enter Tryz.func24, Tryz.ntmps24
  go_wp2_with fail
  refine (spElements_any nm kd p k g a1 szs c1 cl _ lvs c2 n _ HH.out HN.out).mono ?_
  rintro e w1 ⟨rfl, hb1⟩
  rw [← HEe.out]
  have e2 := heap2 w (.cells #[.string nm, .int .i64 kd, .int .i64 p, .int .i64 k, .int .i64 g, .slice a1 szs.length c1, .int .i64 cl, .slice (some ⟨b1, o1, none⟩) lvs.length c2] 32 (0, 0)) (.cells #[.int .i64 0, .int .i64 0, .int .i64 0, .int .i64 0, .int .i64 0, .int .i64 0] 40 (0, 0))
  have k1 := blkK hb1 e2.1
  have k2 := blkK hb1 e2.2
  have K1 := Lib.hid k1
  have K2 := Lib.hid k2
  obtain ⟨hcA, hfA⟩ := heap_cellR k1
  have HB1 := Lib.hid (bt2 hb1)
  have z1 := blkLt k1
  clear hb1 e2 k1 k2
  go_wp2_with fail
  refine (HSZ.out w1).mono ?_
  rintro e w2 ⟨rfl, hb2⟩
  have k1 := blkK hb2 K1.out
  have k2 := blkK hb2 K2.out
  have HB2 := Lib.hid (bt0 HB1.out hb2 (Nat.le_refl _))
  have hc2 := (HB2.out.cell (p := ⟨b1, o1 + lv, none⟩) hlb).trans hc1
  clear hcA hfA hc1
  obtain ⟨hcA, hfA⟩ := heap_cellR k1
  obtain ⟨hcB, hfB⟩ := heap_cellR k2
  have y1 := blkLt k1
  have y2 := blkLt k2
  clear hb2 k1 k2
  go_wp2_with fail
  refine bodyPost_ret (v := .agg #[.int .i64 p, .int .i64 k, .int .i64 g, .int .i64 (E - R), .int .i64 K, .int .i64 C]) (by simp [results, Tryz.results24, go_sem, hcB]) rfl ⟨rfl, ?_⟩
  iterate 6 (refine Below.setCell ?_ (by dsimp only; omega) _)
  exact HB2.out

end Go.Proofs.YtlcglclojlffgaaGreat
namespace Go.Proofs.YtlcglclojlffgaaGreat
open Go.RowKit

set_option maxRecDepth 100000 in
set_option maxHeartbeats 4000000 in
theorem spLayoutOf_any (nm : ByteArray) (kd p k g : Int) (a1 : Option Addr) (szs : List Int) (c1 : Nat) (cl : Int) (a2 : Option Addr) (lvs : List Int) (c2 : Nat) (n lev : Int) (w : World) (h1 : IntsAt w a1 szs) (h2 : IntsAt w a2 lvs) (l1 : szs.length ≤ 1048576) (l2 : lvs.length ≤ 1048576) (ln : nm.size ≤ 1048576) :
    Calls Tryz.prog 14 #[(.agg #[.string nm, .int .i64 kd, .int .i64 p, .int .i64 k, .int .i64 g, .slice a1 szs.length c1, .int .i64 cl, .slice a2 lvs.length c2]), .int .i64 n, .int .i64 lev] w fun e w' => e = .returned (.tuple #[layA ⟨nm, kd, p, k, g, szs, cl, lvs⟩ n lev, .int .i64 (layC ⟨nm, kd, p, k, g, szs, cl, lvs⟩ n lev)]) ∧ Below w.heap.size w w' := by
  have H1 := Lib.hid h1
  have H2 := Lib.hid h2
  obtain ⟨fam, hfam⟩ : ∃ f, f = Fam.mk nm kd p k g szs cl lvs := ⟨_, rfl⟩
  have HFM := Lib.hid hfam
  have HFI := Lib.hid (fun w (h1 : IntsAt w a1 szs) (h2 : IntsAt w a2 lvs) => spCode_any nm kd p k g a1 szs c1 cl a2 lvs c2 n w h1 h2 l1 l2 ln)
  rw [← hfam] at HFI ⊢
  obtain ⟨cd, hcd⟩ : ∃ cd, cd = layC fam n lev := ⟨_, rfl⟩
  obtain ⟨vA, hvA⟩ : ∃ vA, vA = layA fam n lev := ⟨_, rfl⟩
  rw [← hcd, ← hvA]
  have HCD := Lib.hid hcd
  have HVA := Lib.hid hvA
  have HNO : Hid (layC fam n lev ≠ 0 → vA = .agg #[.int .i64 0, .int .i64 0, .int .i64 0, .int .i64 0, .int .i64 0, .int .i64 0]) := Lib.hid (fun h => by rw [hvA, layA, if_neg h])
  clear h1 h2 hfam hcd hvA
  go_enter Tryz.func14, Tryz.ntmps14
  go_wp2_with fail
  have e2 := heap2 w (.cells #[.string nm, .int .i64 kd, .int .i64 p, .int .i64 k, .int .i64 g, .slice a1 szs.length c1, .int .i64 cl, .slice a2 lvs.length c2] 32 (0, 0)) (.cells #[.int .i64 0, .int .i64 0, .int .i64 0, .int .i64 0, .int .i64 0, .int .i64 0] 40 (0, 0))
  refine (HFI.out _ (H1.out.below (ba2 _ _ _)) (H2.out.below (ba2 _ _ _))).mono ?_
  rintro e w1 ⟨rfl, hb1⟩
  have K1 := Lib.hid (blkK hb1 e2.1)
  have K2 := Lib.hid (blkK hb1 e2.2)
  have HB1 := Lib.hid (bt2 hb1)
  clear hb1 e2
  obtain ⟨hcA, hfA⟩ := heap_cellR K1.out
  obtain ⟨hcB, hfB⟩ := heap_cellR K2.out
  have z1 := blkLt K1.out
  have z2 := blkLt K2.out
  rcases Bool.eq_false_or_eq_true fam.ok with ho | ho
  · rcases Bool.eq_false_or_eq_true (hasI szs n) with hs | hs
    · rw [show famC fam n = 0 by rw [famC, if_pos ho, HFM.out, if_pos hs]]
      have hw : wrap64 ((lvs.length : Int) - 1) = (lvs.length : Int) - 1 := by unfold wrap64; omega
      go_wp2_with fail
      refine (spIn_any lev 0 ((lvs.length : Int) - 1) w1).mono ?_
      rintro e w2 ⟨rfl, rfl⟩
      rcases Bool.eq_false_or_eq_true (inB lev 0 ((lvs.length : Int) - 1)) with hv | hv
      · rw [hv]
        have HLi := Lib.hid (show 0 ≤ lev ∧ lev < lvs.length by have := inB_iff.1 hv; omega)
        have hfo : Fam.ok ⟨nm, kd, p, k, g, szs, cl, lvs⟩ = true := by rw [← HFM.out]; exact ho
        obtain ⟨hfb, -⟩ := fam_ok hfo
        have HF := Lib.hid (fv_of hfb)
        have HO := Lib.hid hfo
        have HS := Lib.hid hs
        obtain ⟨L, hL⟩ : ∃ L, fam.lay n lev = L := ⟨_, rfl⟩
        have HLe := Lib.hid hL
        have HQe := Lib.hid (show ((2 ^ fam.fk.toNat : Nat) : Int) = ((bF k.toNat g.toNat).q : Int) by rw [HFM.out]; rfl)
        have HC0 := Lib.hid (show layC fam n lev = if L.ok ((bF k.toNat g.toNat).q : Int) = true then 0 else 3 by rw [layC, if_pos ho, if_pos (by rw [HFM.out]; exact ⟨hs, hv⟩), hL, HQe.out])
        clear hfo hfb hL hw hs ho hv
        go_wp2_with fail
        refine (spLayout_any nm kd p k g a1 szs c1 cl a2 lvs c2 n lev w1 HO.out HS.out HLi.out (H2.out.below HB1.out) L (by rw [← HFM.out]; exact HLe.out)).mono ?_
        rintro e w4 ⟨rfl, hb4⟩
        have K7 := Lib.hid (blkK hb4 K2.out)
        have HB4 := Lib.hid (bt0 HB1.out hb4 (Nat.le_refl _))
        clear hb4 hcA hfA hcB hfB
        have z7 := blkLt K7.out
        go_wp2_with fail
        refine (spIsLayout_any HF.out L.data L.checks L.count _).mono ?_
        rw [show Lay.mk L.data L.checks L.count = L from rfl]
        rintro e w5 ⟨rfl, hb5⟩
        have K8 := Lib.hid (blkK hb5 ((blkK (ba1 _ _) K7.out)))
        have HB5 := Lib.hid (bt0 (bt0 HB4.out (ba1 _ _) (Nat.le_refl _)) hb5 (Nat.le_refl _))
        have K9 := Lib.hid (blkK hb5 (push_at w4 (.cells #[.int .i64 p, .int .i64 k, .int .i64 g, .int .i64 L.data, .int .i64 L.checks, .int .i64 L.count] 40 (0, 0))))
        clear hb5
        obtain ⟨hcB, hfB⟩ := heap_cellR K8.out
        obtain ⟨hcC, hfC⟩ := heap_cellR K9.out
        have z8 := blkLt K8.out
        have z9 := blkLt K9.out
        rcases Bool.eq_false_or_eq_true (L.ok ((bF k.toNat g.toNat).q : Int)) with hl | hl
        · have HC := Lib.hid (show layC fam n lev = 0 by rw [HC0.out, if_pos hl])
          have HV := Lib.hid (show vA = .agg #[.int .i64 p, .int .i64 k, .int .i64 g, .int .i64 L.data, .int .i64 L.checks, .int .i64 L.count] by rw [HVA.out, layA, if_pos HC.out, HLe.out, HFM.out])
          rw [hl]
          go_wp2_with fail
          refine bodyPost_ret (v := .tuple #[.agg #[.int .i64 p, .int .i64 k, .int .i64 g, .int .i64 L.data, .int .i64 L.checks, .int .i64 L.count], .int .i64 0]) (by simp [results, Tryz.results14, go_sem, hcB]) rfl ⟨by rw [HCD.out, HV.out, HC.out], ?_⟩
          iterate 6 (refine Below.setCell ?_ (by dsimp only; omega) _)
          exact HB5.out
        · have HC := Lib.hid (show layC fam n lev = 3 by rw [HC0.out, if_neg (by rw [hl]; decide)])
          rw [hl]
          go_wp2_with fail
          refine bodyPost_ret (v := .tuple #[.agg #[.int .i64 0, .int .i64 0, .int .i64 0, .int .i64 0, .int .i64 0, .int .i64 0], .int .i64 3]) (by simp [results, Tryz.results14, go_sem, hcB]) rfl ⟨by rw [HCD.out, HNO.out (by rw [HC.out]; decide), HC.out], ?_⟩
          iterate 6 (refine Below.setCell ?_ (by dsimp only; omega) _)
          exact HB5.out
      · rw [hv]
        have HC := Lib.hid (show layC fam n lev = 2 by rw [layC, if_pos ho, if_neg (by rw [HFM.out]; simp [hv])])
        have hcz : w.heap.size ≤ w.heap.size + 1 := by omega
        go_wp2_with fail
        refine bodyPost_ret (v := .tuple #[.agg #[.int .i64 0, .int .i64 0, .int .i64 0, .int .i64 0, .int .i64 0, .int .i64 0], .int .i64 2]) (by simp [results, Tryz.results14, go_sem, hcB]) rfl ⟨by rw [HCD.out, HNO.out (by rw [HC.out]; decide), HC.out], ?_⟩
        iterate 6 (refine Below.setCell ?_ (by dsimp only; omega) _)
        exact HB1.out
    · rw [show famC fam n = 2 by rw [famC, if_pos ho, HFM.out, if_neg (by rw [hs]; decide)]]
      have HC := Lib.hid (show layC fam n lev = 2 by rw [layC, if_pos ho, if_neg (by rw [HFM.out]; simp [hs])])
      go_wp2_with fail
      refine bodyPost_ret (v := .tuple #[.agg #[.int .i64 0, .int .i64 0, .int .i64 0, .int .i64 0, .int .i64 0, .int .i64 0], .int .i64 2]) (by simp [results, Tryz.results14, go_sem, hcB]) rfl ⟨by rw [HCD.out, HNO.out (by rw [HC.out]; decide), HC.out], ?_⟩
      iterate 6 (refine Below.setCell ?_ (by dsimp only; omega) _)
      exact HB1.out
  · rw [show famC fam n = 1 by rw [famC, if_neg (by rw [ho]; decide)]]
    have HC := Lib.hid (show layC fam n lev = 1 by rw [layC, if_neg (by rw [ho]; decide)])
    go_wp2_with fail
    refine bodyPost_ret (v := .tuple #[.agg #[.int .i64 0, .int .i64 0, .int .i64 0, .int .i64 0, .int .i64 0, .int .i64 0], .int .i64 1]) (by simp [results, Tryz.results14, go_sem, hcB]) rfl ⟨by rw [HCD.out, HNO.out (by rw [HC.out]; decide), HC.out], ?_⟩
    iterate 6 (refine Below.setCell ?_ (by dsimp only; omega) _)
    exact HB1.out

end Go.Proofs.YtlcglclojlffgaaGreat
namespace Go.Proofs.YtlcglclojlffgaaGreat
open Go.RowKit

theorem spAt_any (a : Option Addr) (xs : List Nat) (c n : Nat) (k : Nat) (w : World) (hn : n = xs.length) (hx : IntsAt w a (natI xs)) (lk : k ≤ 1000000) :
    Calls Tryz.prog 101 #[.slice a n c, .int .i64 (k : Int)] w fun e w' => e = .returned (.int .i64 (co xs k : Nat)) ∧ w = w' := by
  subst hn
  have hk0 : ¬ (k : Int) < 0 := by omega
  by_cases hk : k < xs.length
  · obtain ⟨b1, o1, rfl, hb1, hc1⟩ := co_at hx hk
    have hki : ¬ ((xs.length : Nat) : Int) ≤ (k : Int) := by omega
    have hki2 : (k : Int) < (xs.length : Int) := by omega
    go_enter Tryz.func101, Tryz.ntmps101
    go_wp2_with fail
    go_ret
    exact ⟨rfl, rfl⟩
  · have HE := Lib.hid (show co xs k = 0 by rw [co, List.getD_eq_getElem?_getD, List.getElem?_eq_none (by omega)]; rfl)
    have hki : ((xs.length : Nat) : Int) ≤ (k : Int) := by omega
    go_enter Tryz.func101, Tryz.ntmps101
    go_wp2_with fail
    go_ret
    exact ⟨by rw [HE.out]; rfl, rfl⟩

set_option maxHeartbeats 1000000 in
theorem spTrim_any (a : Option Addr) (zs : List Nat) (n c : Nat) (w : World) (hn : n = zs.length) (hx : IntsAt w a (natI zs)) (hc : zs.length ≤ c) (lx : zs.length ≤ 1000000) (ha : a.map (fun x => x.add 0) = a) (hs : Slc a (natI zs)) :
    Calls Tryz.prog 98 #[.slice a n c] w (RetSl w (natI (trimN zs))) := by
  subst hn
  have HX := Lib.hid hx
  have HL := Lib.hid (trimN_len zs)
  have HTI := Lib.hid (show IntsAt w a (natI (trimN zs)) by rw [trimN, natI_take]; exact hx.take _)
  have HSL := Lib.hid (show Slc a (natI (trimN zs)) from ⟨hs.1, fun e => by
    have h1 := hs.2 e
    have h2 : zs = [] := by simpa [natI] using h1
    rw [h2]; rfl⟩)
  have HOW := Lib.hid (fun c' => l01Own_any a (natI (trimN zs)) c' w HTI.out (by rw [natI_len]; have := trimN_le zs; omega) HSL.out)
  clear hx hs
  have hci : (zs.length : Int) ≤ (c : Int) := by omega
  go_enter Tryz.func98, Tryz.ntmps98
  go_wp2_with fail
  go_loopw [3] (fun i wr => ∃ k : Nat, k ≤ zs.length ∧ i = .int .i64 k ∧ trimK zs k = trimK zs zs.length ∧ wr = w) (fun i _ => (intOf i).toNat)
  case atStart => exact ⟨zs.length, Nat.le_refl _, rfl, rfl, rfl⟩
  case round =>
    obtain ⟨k, hk, rfl, hT, rfl⟩ := hrel
    have HT := Lib.hid hT
    clear hT
    have hkc : (k : Int) ≤ (c : Int) := by omega
    rcases k with - | k
    · have HR : Hid ((trimN zs).length = 0) := Lib.hid (by rw [HL.out, ← HT.out]; rfl)
      have hh := HOW.out c
      rw [natI_len, HR.out] at hh
      go_wp2_with fail
      refine hh.mono ?_
      rintro e w2 ⟨a', c', rfl, ho, hb⟩
      have HO := Lib.hid ho
      have HB := Lib.hid hb
      clear ho hb hh
      go_wp2_with fail
      go_ret
      exact ⟨a', c', rfl, HO.out, HB.out⟩
    · obtain ⟨b1, o1, rfl, hb1, hc1⟩ := co_at HX.out (k := k) (by omega)
      have hk0 : (0 : Int) < ((k + 1 : Nat) : Int) := by omega
      by_cases h0 : co zs k = 0
      · have hz : (((co zs k : Nat) : Int) == 0) = true := by rw [beq_iff_eq]; omega
        have HR := Lib.hid (show trimK zs k = trimK zs zs.length by rw [← HT.out, trimK, if_pos h0])
        clear h0
        go_wp2_with fail
        exact ⟨⟨k, by omega, rfl, HR.out, trivial⟩, by simp [intOf]⟩
      · have hz : (((co zs k : Nat) : Int) == 0) = false := by rw [beq_eq_false_iff_ne]; omega
        have HR : Hid ((trimN zs).length = k + 1) := Lib.hid (by rw [HL.out, ← HT.out, trimK, if_neg h0])
        have hh := HOW.out c
        rw [natI_len, HR.out] at hh
        clear h0
        go_wp2_with fail
        refine hh.mono ?_
        rintro e w2 ⟨a', c', rfl, ho, hb⟩
        have HO := Lib.hid ho
        have HB := Lib.hid hb
        clear ho hb hh
        go_wp2_with fail
        go_ret
        exact ⟨a', c', rfl, HO.out, HB.out⟩

end Go.Proofs.YtlcglclojlffgaaGreat
namespace Go.Proofs.YtlcglclojlffgaaGreat
open Go.RowKit

theorem make_i (n : Nat) (hn : n ≤ 1099511627776) (w : World) :
    (Instr.makeSlice 24 (.int .i64 (n : Int)) (.int .i64 (n : Int))).run Tryz.prog w = .ok (.slice (some ⟨w.heap.size, 0, none⟩) n n) (w.alloc (.cells (madeCells #[.int .i64 0] n) 2)) := by
  obtain ⟨i0, hi, hz0, hz1, hz2⟩ := info_parts infoI
  have := run_make (P := Tryz.prog) w 24 2 i0 (.int .i64 0) Tryz.underlying24 hi hz0 .i64 .i64 n n (by omega) (Int.le_refl _) (by rw [hz2]; omega) (by omega)
  rw [hz1] at this
  simpa [Value.cells] using this
theorem own_emptyB {w : World} {B g : Nat} (hB : B ≤ w.heap.size) (hg : g = w.heap.size) : OwnI (w.alloc (.cells #[] 2 (0, 0))) B (.slice (some ⟨g, 0, none⟩) 0 0) [] := by
  subst hg
  exact World.ownsRow_lit (base := B) (size := 1) w #[] 0 hB (by unfold maxLen; omega) rfl
theorem cut_own {w : World} {B : Nat} {g n c : Nat} {l : List Nat} (h : OwnI w B (.slice (some ⟨g, 0, none⟩) n c) (natI l)) : IntsAt w (some ⟨g, 0, none⟩) (natI l) ∧ Slc (some ⟨g, 0, none⟩) (natI l) := ⟨h.ints, h.slc⟩

set_option maxRecDepth 100000 in
set_option maxHeartbeats 2000000 in
theorem spPMul_any (F : Fd) (hF : FdR F) (a1 a2 : Option Addr) (p q : List Nat) (n1 n2 c1 c2 : Nat) (w : World) (e1 : n1 = p.length) (e2 : n2 = q.length) (h1 : IntsAt w a1 (natI p)) (h2 : IntsAt w a2 (natI q)) (p1 : AllE F p) (q1 : AllE F q) (l1 : p.length ≤ 1000) (l2 : q.length ≤ 1000) :
    Calls Tryz.prog 126 #[fV F, .slice a1 n1 c1, .slice a2 n2 c2] w (RetSl w (natI (pMul F p q))) := by
  subst e1 e2
  have H1 := Lib.hid h1
  have H2 := Lib.hid h2
  have HP := Lib.hid p1
  have HQ := Lib.hid q1
  clear h1 h2 p1 q1
  have hx := push_at w (.cells #[.int .i64 2, .int .i64 (F.k : Int), .int .i64 (F.g : Int)] 30 (0, 0))
  have HB0 := Lib.hid (ba1 w (.cells #[.int .i64 2, .int .i64 (F.k : Int), .int .i64 (F.g : Int)] 30 (0, 0)))
  obtain ⟨w1, hw1⟩ : ∃ w1, w1 = w.alloc (.cells #[.int .i64 2, .int .i64 (F.k : Int), .int .i64 (F.g : Int)] 30 (0, 0)) := ⟨_, rfl⟩
  have HW1 := Lib.hid hw1
  rw [← hw1] at hx HB0
  have HX := Lib.hid hx
  clear hx hw1
  by_cases hp0 : p.length = 0
  · have e : pMul F p q = [] := by rw [pMul, if_pos (Or.inl hp0)]
    rw [e]
    clear e
    have hpi : ((p.length : Int) == 0) = true := by rw [beq_iff_eq]; omega
    go_enter Tryz.func126, Tryz.ntmps126
    go_wp2_with fail
    go_ret
    exact ⟨_, 0, rfl, own_emptyB (by simp) (by simp), ba2 _ _ _⟩
  by_cases hq0 : q.length = 0
  · have e : pMul F p q = [] := by rw [pMul, if_pos (Or.inr hq0)]
    rw [e]
    clear e
    have hpi : ((p.length : Int) == 0) = false := by rw [beq_eq_false_iff_ne]; omega
    have hqi : ((q.length : Int) == 0) = true := by rw [beq_iff_eq]; omega
    clear hp0
    go_enter Tryz.func126, Tryz.ntmps126
    go_wp2_with fail
    go_ret
    exact ⟨_, 0, rfl, own_emptyB (by simp) (by simp), ba2 _ _ _⟩
  have hpi : ((p.length : Int) == 0) = false := by rw [beq_eq_false_iff_ne]; omega
  have hqi : ((q.length : Int) == 0) = false := by rw [beq_eq_false_iff_ne]; omega
  obtain ⟨n, hn⟩ : ∃ n : Nat, n = p.length + q.length - 1 := ⟨_, rfl⟩
  have hni : (p.length : Int) + (q.length : Int) - 1 = (n : Int) := by omega
  have hmk := make_i n (by omega)
  have hs1 : w1.heap.size = w.heap.size + 1 := by rw [HW1.out]; simp
  have HO := Lib.hid (ownI_made' w1 n (by omega))
  rw [hs1] at HO
  have HN := Lib.hid hn
  have hn2 : n ≤ 2000 := by omega
  have hpl : 0 < p.length := by omega
  have hql : 0 < q.length := by omega
  clear hp0 hq0 hn
  go_enter Tryz.func126, Tryz.ntmps126
  go_wp2_with fail
  rw [← HW1.out]
  clear hmk
  go_loopw [8, 9] (fun i _ wr => ∃ k : Nat, k ≤ p.length ∧ i = .int .i64 k ∧ OwnI wr (w.heap.size + 1) (.slice (some ⟨w.heap.size + 1, 0, none⟩) n n) (natI (mulTo F p q k)) ∧ Below w1.heap.size w1 wr) (fun i _ _ => p.length - (intOf i).toNat)
  case atStart => exact ⟨0, Nat.zero_le _, rfl, by rw [mulTo, natI_rep, ← HN.out]; exact HO.out, ba1 _ _⟩
  case round =>
    obtain ⟨k, hk, rfl, ho, hb⟩ := hrel
    have HO1 := Lib.hid ho
    have HB1 := Lib.hid hb
    clear ho hb
    obtain ⟨wo, rfl⟩ : ∃ wo : World, wo = wr := ⟨_, rfl⟩
    by_cases hlt : k < p.length
    · have hki : (k : Int) < (p.length : Int) := by omega
      have HX1 := Lib.hid (show co p k < F.q from AllE.co hF.fit.q3 HP.out k)
      go_wp2_with fail
      go_loopw [9] (fun i wr => ∃ j : Nat, j ≤ q.length ∧ i = .int .i64 j ∧ OwnI wr (w.heap.size + 1) (.slice (some ⟨w.heap.size + 1, 0, none⟩) n n) (natI (rowAdd F (mulTo F p q k) k (co p k) q j)) ∧ Below w1.heap.size w1 wr) (fun i _ => q.length - (intOf i).toNat)
      case atStart => exact ⟨0, Nat.zero_le _, rfl, HO1.out, HB1.out⟩
      case round =>
        obtain ⟨j, hj, rfl, ho, hb⟩ := hrel
        have HO2 := Lib.hid ho
        have HB2 := Lib.hid hb
        clear ho hb
        by_cases hjl : j < q.length
        · obtain ⟨b1, o1, e1, hb1, hc1⟩ := co_at ((H1.out.below HB0.out).below HB2.out) hlt
          obtain ⟨b2, o2, e2, hb2, hc2⟩ := co_at ((H2.out.below HB0.out).below HB2.out) hjl
          have hji : (j : Int) < (q.length : Int) := by omega
          have HY := Lib.hid (show co q j < F.q from AllE.co hF.fit.q3 HQ.out j)
          have hlen : (natI (rowAdd F (mulTo F p q k) k (co p k) q j)).length = n := by rw [natI_len, rowAdd_len, mulTo_len, HN.out]
          obtain ⟨z, hz, hcz, hfz⟩ := HO2.out.cellAt (k := k + j) hlen.symm (by omega)
          obtain ⟨z, hz', rfl⟩ := natI_at hz
          have HZ := Lib.hid (co_some hz')
          have HZL := Lib.hid (show z < F.q from (rowAdd_all hF.runs hF.fit (mulTo_all hF.runs hF.fit HP.out HQ.out k) HQ.out HX1.out j) z (List.mem_of_getElem? hz'))
          subst e1 e2
          clear hz hz' hlen
          have hkj : (k : Int) + (j : Int) < (n : Int) := by omega
          have hkj2 : IntKind.i64.wrap ((k : Int) + (j : Int)) = ((k + j : Nat) : Int) := by rw [wraps64 _ (by omega) (by omega)]; push_cast; rfl
          have K := Lib.hid (blkK HB2.out HX.out)
          obtain ⟨hcA, hfA⟩ := heap_cellR K.out
          have hltA := blkLt K.out
          have hwr : w.heap.size + 1 < wr.heap.size := HO2.out.hi _ rfl
          go_wp2_with fail
          refine wp_region_ext_tail 22 (by kernel_rfl) (by kernel_rfl) ?_
          simp only [List.take_succ_cons, List.take_zero, List.drop_succ_cons, List.drop_zero]
          repeat (go_big_quiet_step ((first
            | ((go_at_call 117; go_must (exact calls_ext _ (spMulR_any F hF.toFdB _ _ HX1.out HY.out _))))
            | ((go_at_call 124; go_must (exact calls_ext _ (spAdd_any F hF.toFdB _ _ HZL.out (F.mul_lt hF.runs hF.fit HX1.out HY.out) _)))))))
          refine wpQuiet_nil ?_
          rintro _ ⟨s, rfl⟩
          go_wp2_with fail
          refine ⟨⟨j + 1, by omega, by go_num, ?_, (bt0 HB2.out s.below (by omega)).setCell (Nat.le_of_eq hs1) _⟩, by simp [intOf]; omega⟩
          have h1 := ((HO2.out.grown s.below).stored (by rw [natI_len, rowAdd_len, mulTo_len, HN.out]) (k + j) ((F.add z (F.mul (co p k) (co q j)) : Nat) : Int)).1
          rw [rowAdd, natI_set, HZ.out]
          exact h1
        · obtain rfl : j = q.length := by omega
          have hji : ¬ ((q.length : Nat) : Int) < (q.length : Int) := by omega
          go_wp2_with fail
          exact ⟨⟨k + 1, by omega, by go_num, HO2.out, HB2.out⟩, by simp [intOf]; omega⟩
    · obtain rfl : k = p.length := by omega
      have hki : ¬ ((p.length : Nat) : Int) < (p.length : Int) := by omega
      have HM := Lib.hid (show pMul F p q = trimN (mulTo F p q p.length) by rw [pMul, if_neg (by omega)])
      have HML := Lib.hid (show n = (mulTo F p q p.length).length by rw [mulTo_len, HN.out])
      have HC := Lib.hid (cut_own HO1.out)
      go_wp2_with fail
      refine (spTrim_any (some ⟨w.heap.size + 1, 0, none⟩) (mulTo F p q p.length) n n _ HML.out HC.out.1 (by have := HML.out; omega) (by have := HML.out; omega) rfl HC.out.2).mono ?_
      rintro e w3 ⟨a3, c3, rfl, ho3, hb3⟩
      have HO3 := Lib.hid ho3
      have HB3 := Lib.hid (bt0 (HB0.out.trans (HB1.out.mono HB0.out.size)) hb3 (Nat.le_refl _))
      have hsz := HB0.out.size
      have hsz1 := HB1.out.size
      clear ho3 hb3
      go_wp2_with fail
      go_ret
      rw [HM.out]
      exact ⟨_, _, rfl, HO3.out.weak (by omega), HB3.out⟩

end Go.Proofs.YtlcglclojlffgaaGreat
