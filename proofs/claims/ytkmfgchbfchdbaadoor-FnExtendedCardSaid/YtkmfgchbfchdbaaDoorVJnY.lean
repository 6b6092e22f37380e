import Derived.Test.YtkmfgchbfchdbaaDoorVJnX
namespace Go.Proofs.YtkmfgchbfchdbaaDoor
open Go.RowKit

/-- the code of a list of records -/
def codeJ (l : List Rc) : Int := if 300 < l.length then 3 else if l.all Rc.ok = true then 0 else 1
/-- what JournalOf answers -/
def jrnS (l : List Rc) : ByteArray × Int := if codeJ l = 0 then (textB l, 0) else (⟨#[]⟩, codeJ l)
theorem all_take_step {l : List Rc} {k : Nat} {r : Rc} (hr : l[k]? = some r) (h : (l.take k).all Rc.ok = true) (ho : r.ok = true) : (l.take (k + 1)).all Rc.ok = true := by
  rw [take_snoc' hr, List.all_append, h]; simpa using ho
theorem all_bad {l : List Rc} {k : Nat} {r : Rc} (hr : l[k]? = some r) (ho : r.ok = false) : l.all Rc.ok = false := by
  rw [Bool.eq_false_iff]; intro h
  rw [List.all_eq_true] at h
  rw [h r (List.mem_of_getElem? hr)] at ho; cases ho

set_option maxRecDepth 100000 in
set_option maxHeartbeats 1000000 in
theorem recordsCode_any (a : Option Addr) (l : List Rc) (c : Nat) (w : World) (hl : l.length ≤ 1000000000) (ha : rcE.At w a l) :
    Calls Tryd.prog 34 #[.slice a l.length c] w fun e w' => e = .returned (.int .i64 (codeJ l)) ∧ Below w.heap.size w w' := by
  have HA := Lib.hid ha
  clear ha
  by_cases hb : 300 < l.length
  · have h1 : (300 : Int) < (l.length : Int) := by omega
    have HC : Hid (codeJ l = 3) := Lib.hid (by rw [codeJ, if_pos hb])
    clear hb
    go_enter Tryd.func34, Tryd.ntmps34
    go_wp2_with fail
    go_ret
    exact ⟨by rw [HC.out]; rfl, Below.refl _ _⟩
  · have h1 : ¬ (300 : Int) < (l.length : Int) := by omega
    have hl3 : l.length ≤ 300 := by omega
    have HC : Hid (codeJ l = if l.all Rc.ok = true then 0 else 1) := Lib.hid (by rw [codeJ, if_neg hb])
    clear hb
    go_enter Tryd.func34, Tryd.ntmps34
    go_wp2_with fail
    go_loopw [4, 10] (fun _ i wr => ∃ k : Nat, k ≤ l.length ∧ i = .int .i64 k ∧ (l.take k).all Rc.ok = true ∧ Below w.heap.size w wr) (fun _ i _ => l.length - (intOf i).toNat)
    case atStart => exact ⟨0, Nat.zero_le _, rfl, rfl, Below.refl _ _⟩
    case round =>
      obtain ⟨k, hk, rfl, hall, hbr⟩ := hrel
      have HALL := Lib.hid hall
      have HBR := Lib.hid hbr
      clear hall hbr
      by_cases hlt : k < l.length
      · obtain ⟨r, hr⟩ : ∃ r, l[k]? = some r := ⟨_, List.getElem?_eq_getElem hlt⟩
        obtain ⟨b, o, rfl, hbl, h0, h1'⟩ := rc_at (HA.out.below HBR.out) hr
        have HR := Lib.hid hr
        have HB1 := Lib.hid (bt0 HBR.out (ba1 wr (.cells #[.int .i64 r.k, .int .i64 r.n] 35 (0, 0))) (Nat.le_refl _))
        clear hr
        rcases Bool.eq_false_or_eq_true (isRecB r.k r.n) with hok | hok
        · have HOK : Hid (r.ok = true) := Lib.hid hok
          go_wp2_with fail
          refine (isRecord_val hok).mono ?_
          rintro e w1 ⟨rfl, hb1⟩
          have HB2 := Lib.hid (bt0 HB1.out hb1 (Nat.le_refl _))
          clear hb1
          go_wp2_with fail
          exact ⟨⟨k + 1, by omega, by go_num, all_take_step HR.out HALL.out HOK.out, HB2.out⟩, by simp [intOf]; omega⟩
        · have HOK : Hid (r.ok = false) := Lib.hid hok
          go_wp2_with fail
          refine (isRecord_val hok).mono ?_
          rintro e w1 ⟨rfl, hb1⟩
          have HB2 := Lib.hid (bt0 HB1.out hb1 (Nat.le_refl _))
          clear hb1
          go_wp2_with fail
          go_ret
          exact ⟨by rw [HC.out, all_bad HR.out HOK.out]; rfl, HB2.out⟩
      · obtain rfl : k = l.length := by omega
        go_wp2_with fail
        go_ret
        refine ⟨?_, HBR.out⟩
        have := HALL.out
        rw [List.take_length] at this
        rw [HC.out, this]; rfl

theorem codeJ_ok {l : List Rc} (h : codeJ l = 0) : l.length ≤ 300 ∧ ∀ r ∈ l, r.ok = true := by
  unfold codeJ at h
  split at h
  · cases h
  · split at h
    · rename_i h1 h2
      exact ⟨by omega, List.all_eq_true.1 h2⟩
    · cases h
theorem textJ_take {l : List Rc} {k : Nat} {r : Rc} (hr : l[k]? = some r) : textJ 0 0 (l.take k) ++ (lineJ k (lastJ 0 0 (l.take k)) r ++ [10]) = textJ 0 0 (l.take (k + 1)) ∧ nextJ k (lastJ 0 0 (l.take k)) r = lastJ 0 0 (l.take (k + 1)) := by
  have hk : (l.take k).length = k := by
    have := (List.getElem?_eq_some_iff.1 hr).1
    simp; omega
  rw [take_snoc' hr, textJ_snoc, lastJ_snoc, Nat.zero_add, hk]
  exact ⟨rfl, rfl⟩

set_option maxRecDepth 100000 in
set_option maxHeartbeats 1000000 in
theorem journalOf_any (a : Option Addr) (l : List Rc) (c : Nat) (w : World) (hl : l.length ≤ 1000000000) (ha : rcE.At w a l) (hE : Env w) :
    Calls Tryd.prog 16 #[.slice a l.length c] w (RetJx w (jrnS l)) := by
  have HA := Lib.hid ha
  have HE := Lib.hid hE
  clear ha hE
  by_cases hc0 : codeJ l = 0
  · have HJ : Hid (jrnS l = (textB l, 0)) := Lib.hid (by rw [jrnS, if_pos hc0])
    have HOK := Lib.hid (codeJ_ok hc0).2
    have hl3 := (codeJ_ok hc0).1
    have HC0 := Lib.hid hc0
    clear hc0
    go_enter Tryd.func16, Tryd.ntmps16
    go_wp2_with fail
    refine (recordsCode_any a l c w hl HA.out).mono ?_
    rintro e w1 ⟨rfl, hb1⟩
    have HB1 := Lib.hid hb1
    rw [HC0.out]
    clear hb1
    go_wp2_with fail
    have HJ0 : Hid (JSt (w1.alloc (.cells #[.slice none 0 0, .int .i64 0, .int .i64 0] 67 (0, 0))) w1.heap.size 0 0 []) := Lib.hid ⟨none, 0, push_at w1 _, OwnB.nil _ _⟩
    have HB2 := Lib.hid (bt0 HB1.out (ba1 w1 (.cells #[.slice none 0 0, .int .i64 0, .int .i64 0] 67 (0, 0))) (Nat.le_refl _))
    go_loopw [7, 17] (fun _ i wr => ∃ k : Nat, k ≤ l.length ∧ i = .int .i64 k ∧ JSt wr w1.heap.size k (lastJ 0 0 (l.take k)) (textJ 0 0 (l.take k)) ∧ Below w1.heap.size w1 wr) (fun _ i _ => l.length - (intOf i).toNat)
    case atStart => exact ⟨0, Nat.zero_le _, rfl, HJ0.out, ba1 _ _⟩
    case round =>
      obtain ⟨k, hk, rfl, hj, hbr⟩ := hrel
      have HJR := Lib.hid hj
      have HBR := Lib.hid hbr
      have hwr := hbr.size
      have hjl : w1.heap.size < wr.heap.size := by obtain ⟨_, _, h, _⟩ := hj; exact blkLt h
      clear hj hbr HJ0
      by_cases hlt : k < l.length
      · obtain ⟨r, hr⟩ : ∃ r, l[k]? = some r := ⟨_, List.getElem?_eq_getElem hlt⟩
        obtain ⟨b, o, rfl, hbl, h0, h1'⟩ := rc_at ((HA.out.below HB1.out).below HBR.out) hr
        have HR := Lib.hid hr
        have HBx := Lib.hid (ba1 wr (.cells #[.int .i64 r.k, .int .i64 r.n] 35 (0, 0)))
        have HOKr := Lib.hid (HOK.out r (List.mem_of_getElem? hr))
        clear hr
        go_wp2_with fail
        have hlr := lastJ_range (l.take k) 0 (s := 0) (by omega)
        have hlx : (textJ 0 0 (l.take k)).length ≤ 100000 := by
          have := textJ_len (l.take k) 0 0 (by simp; omega) (by omega) (fun r hr => HOK.out r (List.mem_of_mem_take hr))
          simp at this; omega
        refine (add_any w1.heap.size k (lastJ 0 0 (l.take k)) (textJ 0 0 (l.take k)) r _ (HJR.out.below HBx.out) HOKr.out (by omega) hlr hlx (HE.out.next (bt0 HB1.out (bt0 HBR.out HBx.out (Nat.le_refl _)) (Nat.le_refl _))).tab).mono ?_
        rintro e w3 ⟨rfl, hj3, hg3⟩
        rw [(textJ_take HR.out).1, (textJ_take HR.out).2] at hj3
        have HJ3 := Lib.hid hj3
        have HB3 := Lib.hid ((HBR.out.trans (HBx.out.mono hwr)).trans (below_of_grownBy hg3 (B := w1.heap.size) (by simp; omega) (fun k e => by cases e; exact Nat.le_refl _)))
        clear hj3 hg3 hlx
        go_wp2_with fail
        exact ⟨⟨k + 1, by omega, by go_num, HJ3.out, HB3.out⟩, by simp [intOf]; omega⟩
      · obtain rfl : k = l.length := by omega
        have hjr := HJR.out
        rw [List.take_length] at hjr
        obtain ⟨ja, jc, hj1, hj2⟩ := hjr
        have hcv := conv_own hj2
        obtain ⟨hcj, hfj⟩ := heap_cellR hj1
        have HTB : Hid ((⟨(textJ 0 0 l).toArray⟩ : ByteArray) = textB l) := Lib.hid rfl
        rw [HTB.out] at hcv
        obtain ⟨N, hN⟩ : ∃ N, (textJ 0 0 l).length = N := ⟨_, rfl⟩
        rw [hN] at hcj hcv
        have HBE := Lib.hid (bt0 HB1.out HBR.out (Nat.le_refl _))
        clear hj1 hj2 hN
        go_wp2_with fail
        go_ret2
        exact retJx_eq HJ.out HBE.out
  · have HJ : Hid (jrnS l = (⟨#[]⟩, codeJ l)) := Lib.hid (by rw [jrnS, if_neg hc0])
    obtain ⟨cd, hcd⟩ : ∃ cd, codeJ l = cd := ⟨_, rfl⟩
    have HCD := Lib.hid hcd
    rw [hcd] at hc0 HJ
    have h2 : (cd != 0) = true := by simpa using hc0
    clear hc0 hcd
    go_enter Tryd.func16, Tryd.ntmps16
    go_wp2_with fail
    refine (recordsCode_any a l c w hl HA.out).mono ?_
    rintro e w1 ⟨rfl, hb1⟩
    have HB1 := Lib.hid hb1
    rw [HCD.out]
    clear hb1
    go_wp2_with fail
    go_ret2
    exact retJx_eq HJ.out HB1.out

end Go.Proofs.YtkmfgchbfchdbaaDoor
