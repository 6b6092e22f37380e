import Derived.Test.YtkmfgchbfchdbaaDoorVJnY
namespace Go.Proofs.YtkmfgchbfchdbaaDoor
open Go.RowKit

/-- how many records with an index each kind has -/
def cntJ (l : List Rc) (i : Int) : List Int := [1, 2, 3, 4].map fun k => ((l.filter fun r => r.n == i && r.k == k).length : Int)
theorem cntJ_snoc (l : List Rc) (i : Int) (r : Rc) : cntJ (l ++ [r]) i = if r.n = i then (cntJ l i).zipWith (· + ·) ([1, 2, 3, 4].map fun k => if r.k = k then 1 else 0) else cntJ l i := by
  unfold cntJ
  by_cases h : r.n = i
  · rw [if_pos h]
    simp only [List.map_cons, List.map_nil, List.filter_append, List.length_append, List.zipWith_cons_cons, List.zipWith_nil_left]
    have e : ∀ k : Int, ((List.filter (fun r => r.n == i && r.k == k) [r]).length : Int) = if r.k = k then 1 else 0 := by
      intro k
      by_cases hk : r.k = k <;> simp [hk, h]
    simp only [Int.natCast_add, e]
  · rw [if_neg h]
    simp [h]
theorem cntJ_len (l : List Rc) (i : Int) : (cntJ l i).length = 4 := rfl
theorem cntJ_hit {l : List Rc} {k j : Nat} {i : Int} {r : Rc} (hr : l[k]? = some r) (hi : r.n = i) (hj : r.k = j + 1) (h4 : j < 4) : ∃ z, (cntJ (l.take k) i)[j]? = some z ∧ 0 ≤ z ∧ z ≤ k ∧ (cntJ (l.take k) i).set j (z + 1) = cntJ (l.take (k + 1)) i := by
  have hb : ∀ q : Int, ((List.filter (fun r => r.n == i && r.k == q) (l.take k)).length : Int) ≤ k := fun q => by
    have := List.length_filter_le (fun r : Rc => r.n == i && r.k == q) (l.take k)
    have h2 := List.length_take_le k l
    omega
  rw [take_snoc' hr, cntJ_snoc, if_pos hi, hj]
  have hj4 : j = 0 ∨ j = 1 ∨ j = 2 ∨ j = 3 := by omega
  rcases hj4 with rfl | rfl | rfl | rfl
  all_goals
    refine ⟨_, rfl, by simp, hb _, ?_⟩
    simp [cntJ]
theorem cntJ_miss {l : List Rc} {k : Nat} {i : Int} {r : Rc} (hr : l[k]? = some r) (hi : r.n ≠ i) : cntJ (l.take (k + 1)) i = cntJ (l.take k) i := by
  rw [take_snoc' hr, cntJ_snoc, if_neg hi]
/-- the code of CountRecords -/
def cntCode (l : List Rc) (i : Int) : Int := if codeJ l = 0 then (if inB i 0 199 = true then 0 else 2) else codeJ l
def RetCnt (w : World) (l : List Rc) (i : Int) (e : Ending) (w' : World) : Prop := ∃ a c zs, zs = (if cntCode l i = 0 then cntJ l i else []) ∧ e = .returned (.tuple #[.slice a zs.length c, .int .i64 (cntCode l i)]) ∧ OwnI w' w.heap.size (.slice a zs.length c) zs ∧ Below w.heap.size w w'
theorem retCnt_no {w w' : World} {l : List Rc} {i cd : Int} (h : cntCode l i = cd) (h0 : cd ≠ 0) (hb : Below w.heap.size w w') : RetCnt w l i (.returned (.tuple #[.slice none 0 0, .int .i64 cd])) w' :=
  ⟨none, 0, [], by rw [h, if_neg h0], by rw [h]; rfl, World.ownsRow_nil _ _ _ _, hb⟩

theorem run_make4 (w : World) : (Instr.makeSlice 44 (.int .i64 4) (.int .i64 4)).run Tryd.prog w = .ok (.slice (some ⟨w.heap.size, 0, none⟩) 4 4) (w.alloc (.cells #[.int .i64 0, .int .i64 0, .int .i64 0, .int .i64 0] 2)) := by kernel_rfl
theorem own_make4 (w : World) : OwnI (w.alloc (.cells #[.int .i64 0, .int .i64 0, .int .i64 0, .int .i64 0] 2)) w.heap.size (.slice (some ⟨w.heap.size, 0, none⟩) 4 4) [0, 0, 0, 0] :=
  World.ownsRow_lit (base := w.heap.size) (size := 1) w #[.int .i64 0, .int .i64 0, .int .i64 0, .int .i64 0] 4 (Nat.le_refl _) (by unfold maxLen; omega) rfl

set_option maxRecDepth 100000 in
set_option maxHeartbeats 1000000 in
theorem countRecords_any (a : Option Addr) (l : List Rc) (c : Nat) (i : Int) (w : World) (hl : l.length ≤ 1000000000) (ha : rcE.At w a l) :
    Calls Tryd.prog 21 #[.slice a l.length c, .int .i64 i] w (RetCnt w l i) := by
  have HA := Lib.hid ha
  clear ha
  by_cases hc0 : codeJ l = 0
  · have HOK := Lib.hid (codeJ_ok hc0).2
    have hl3 := (codeJ_ok hc0).1
    have HC0 := Lib.hid hc0
    clear hc0
    rcases Bool.eq_false_or_eq_true (inB i 0 199) with hin | hin
    · have HCC : Hid (cntCode l i = 0) := Lib.hid (by rw [cntCode, if_pos HC0.out, if_pos hin])
      go_enter Tryd.func21, Tryd.ntmps21
      go_wp2_with fail
      refine (recordsCode_any a l c w hl HA.out).mono ?_
      rintro e w1 ⟨rfl, hb1⟩
      have HB1 := Lib.hid hb1
      rw [HC0.out]
      clear hb1
      have hmk := run_make4 w1
      have HW2 := Lib.hid (ba1 w1 (.cells #[.int .i64 0, .int .i64 0, .int .i64 0, .int .i64 0] 2 (0, 0)))
      have HO2 := Lib.hid (own_make4 w1)
      go_wp2_with (go_at_call 33; go_must (refine (inRange_val hin).mono ?_; rintro e w' ⟨rfl, rfl⟩))
      clear hmk
      go_loopw [9, 21] (fun _ q wr => ∃ k : Nat, k ≤ l.length ∧ q = .int .i64 k ∧ OwnI wr w1.heap.size (.slice (some ⟨w1.heap.size, 0, none⟩) 4 4) (cntJ (l.take k) i) ∧ Below w1.heap.size w1 wr) (fun _ q _ => l.length - (intOf q).toNat)
      case atStart => exact ⟨0, Nat.zero_le _, rfl, HO2.out, HW2.out⟩
      case round =>
        clear HO2 HW2
        obtain ⟨k, hk, rfl, ho, hbr⟩ := hrel
        have HO := Lib.hid ho
        have HBR := Lib.hid hbr
        have hgl : w1.heap.size < wr.heap.size := World.ownsRow.lt ho w1.heap.size rfl |>.2
        clear ho hbr
        by_cases hlt : k < l.length
        · obtain ⟨r, hr⟩ : ∃ r, l[k]? = some r := ⟨_, List.getElem?_eq_getElem hlt⟩
          obtain ⟨b, o, rfl, hbl, h0, h1'⟩ := rc_at ((HA.out.below HB1.out).below HBR.out) hr
          have HR := Lib.hid hr
          have hok := (r.ok_iff).1 (HOK.out r (List.mem_of_getElem? hr))
          have HBx := Lib.hid (ba1 wr (.cells #[.int .i64 r.k, .int .i64 r.n] 35 (0, 0)))
          have HO3 := Lib.hid (HO.out.grown HBx.out)
          have HB3 := Lib.hid (HBR.out.trans (HBx.out.mono (Nat.le_of_lt hgl)))
          clear hr
          by_cases hi : r.n = i
          · have hi2 : (r.n == i) = true := by simpa using hi
            obtain ⟨j, hj⟩ : ∃ j : Nat, r.k = (j : Int) + 1 := ⟨(r.k - 1).toNat, by omega⟩
            have hj4 : j < 4 := by omega
            obtain ⟨z, hz, hz0, hzk, hset⟩ := cntJ_hit HR.out hi hj hj4
            obtain ⟨z2, hz2, hcz, hfz⟩ := HO3.out.cellAt rfl (k := j) (by rw [cntJ_len]; exact hj4)
            obtain rfl : z2 = z := by rw [hz] at hz2; exact (Option.some.inj hz2).symm
            have hst := OwnI.stored HO.out rfl j (z2 + 1)
            rw [hset] at hst
            have HST := Lib.hid hst
            have e1 : IntKind.i64.wrap (r.k - 1) = (j : Int) := by rw [hj]; rw [show (j : Int) + 1 - 1 = j by omega]; exact IntWalk.i64_in _ (by omega)
            have e2 : IntKind.i64.wrap (z2 + 1) = z2 + 1 := IntWalk.i64_in _ (by omega)
            have hj4' : (j : Int) < 4 := by omega
            clear hi hj hz hz2 hset hst hok
            go_wp2_with fail
            exact ⟨⟨k + 1, by omega, by go_num, HST.out.1.grown (ba1 _ _), (HBR.out.setCell (Nat.le_refl _) _).trans ((ba1 _ _).mono (by simpa using Nat.le_of_lt hgl))⟩, by simp [intOf]; omega⟩
          · have hi2 : (r.n == i) = false := by simpa using hi
            have HM := Lib.hid (cntJ_miss (l := l) HR.out hi)
            clear hi hok
            go_wp2_with fail
            exact ⟨⟨k + 1, by omega, by go_num, by rw [HM.out]; exact HO3.out, HB3.out⟩, by simp [intOf]; omega⟩
        · obtain rfl : k = l.length := by omega
          have ho9 := HO.out
          rw [List.take_length] at ho9
          have HO9 := Lib.hid ho9
          clear ho9
          go_wp2_with fail
          go_ret2
          exact ⟨_, 4, cntJ l i, by rw [HCC.out]; rfl, by rw [HCC.out]; rfl, HO9.out.weak HB1.out.size, bt0 HB1.out (HBR.out) (Nat.le_refl _)⟩
    · have HCC : Hid (cntCode l i = 2) := Lib.hid (by rw [cntCode, if_pos HC0.out, hin]; rfl)
      go_enter Tryd.func21, Tryd.ntmps21
      go_wp2_with fail
      refine (recordsCode_any a l c w hl HA.out).mono ?_
      rintro e w1 ⟨rfl, hb1⟩
      have HB1 := Lib.hid hb1
      rw [HC0.out]
      clear hb1
      go_wp2_with (go_at_call 33; go_must (refine (inRange_val hin).mono ?_; rintro e w' ⟨rfl, rfl⟩))
      go_ret2
      exact retCnt_no HCC.out (by decide) HB1.out
  · have HCC : Hid (cntCode l i = codeJ l) := Lib.hid (by rw [cntCode, if_neg hc0])
    obtain ⟨cd, hcd⟩ : ∃ cd, codeJ l = cd := ⟨_, rfl⟩
    have HCD := Lib.hid hcd
    rw [hcd] at hc0 HCC
    have h2 : (cd != 0) = true := by simpa using hc0
    have HNE := Lib.hid hc0
    clear hc0 hcd
    go_enter Tryd.func21, Tryd.ntmps21
    go_wp2_with fail
    refine (recordsCode_any a l c w hl HA.out).mono ?_
    rintro e w1 ⟨rfl, hb1⟩
    have HB1 := Lib.hid hb1
    rw [HCD.out]
    clear hb1
    go_wp2_with fail
    go_ret2
    exact retCnt_no HCC.out HNE.out HB1.out

end Go.Proofs.YtkmfgchbfchdbaaDoor
