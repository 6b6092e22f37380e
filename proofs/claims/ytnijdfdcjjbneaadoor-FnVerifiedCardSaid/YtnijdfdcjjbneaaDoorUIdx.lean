import Derived.Test.YtnijdfdcjjbneaaDoorUSer1
namespace Go.Proofs.YtnijdfdcjjbneaaDoor
open Go.RowKit

/-- the index of a serial -/
def ixR (p : ByteArray) (x1 x2 x3 x4 : Int) (s : ByteArray) : Option Nat := firstI (fun j => decide (serB p x1 x2 x4 j = s)) x3.toNat
def ixK (o : Option Nat) : Int := match o with | some k => k | none => 0
def ixM (o : Option Nat) : Int := match o with | some k => k | none => -1
/-- none of the first k serials is s -/
def NoneYet (p : ByteArray) (x1 x2 x4 : Int) (s : ByteArray) (k : Nat) : Prop := ∀ j, j < k → serB p x1 x2 x4 (j : Nat) ≠ s

theorem noneYet_zero (p : ByteArray) (x1 x2 x4 : Int) (s : ByteArray) : NoneYet p x1 x2 x4 s 0 := fun j hj => absurd hj (Nat.not_lt_zero j)
theorem noneYet_succ {p : ByteArray} {x1 x2 x4 : Int} {s : ByteArray} {k : Nat} (h : NoneYet p x1 x2 x4 s k) (hk : serB p x1 x2 x4 k ≠ s) : NoneYet p x1 x2 x4 s (k + 1) := fun j hj => by
  rcases Nat.lt_or_ge j k with h1 | h1
  · exact h j h1
  · obtain rfl : j = k := by omega
    exact hk
theorem ixR_some {p : ByteArray} {x1 x2 x3 x4 : Int} {s : ByteArray} {k : Nat} (h : NoneYet p x1 x2 x4 s k) (hk : (k : Int) < x3) (he : serB p x1 x2 x4 k = s) : ixR p x1 x2 x3 x4 s = some k :=
  firstI_some (by omega) (by simp [he]) (fun j hj => by simp [h j hj])
theorem ixR_none {p : ByteArray} {x1 x2 x3 x4 : Int} {s : ByteArray} {k : Nat} (h : NoneYet p x1 x2 x4 s k) (hk : x3 ≤ (k : Int)) : ixR p x1 x2 x3 x4 s = none :=
  firstI_none (fun j hj => by simp [h j (by omega)])

theorem serial_val {p : ByteArray} {x1 x2 x3 x4 i : Int} {r : ByteArray} {w : World} (h : serB p x1 x2 x4 i = r) (hb : isBatchB p x1 x2 x3 x4 = true) (i0 : 0 ≤ i) (i1 : i < x3) (ht : Tab w) :
    Calls Tryd.prog 34 #[.agg #[.string p, .int .i64 x1, .int .i64 x2, .int .i64 x3, .int .i64 x4], .int .i64 i] w fun e w' => e = .returned (.string r) ∧ Below w.heap.size w w' := by
  obtain ⟨p1, p2, p3, p4, p5, p6, p7, p8, p9, p10, p11⟩ := batch_parts hb
  obtain ⟨r1, r2, r3, r4⟩ := ser_bd p8 p2 p3 p5 p10 i0 i1
  rw [← h]
  exact serial_any p x1 x2 x3 x4 i w p1 p8 p9 r1 r2 (ser_width p8 p2 p3 p5 p10 p11 i0 i1) p7 ht
theorem l31Serial_val {p : ByteArray} {x1 x2 x3 x4 i : Int} {r : ByteArray} {w : World} (h : serB p x1 x2 x4 i = r) (hb : isBatchB p x1 x2 x3 x4 = true) (i0 : 0 ≤ i) (i1 : i < x3) :
    Calls Tryd.prog 36 #[.agg #[.string p, .int .i64 x1, .int .i64 x2, .int .i64 x3, .int .i64 x4], .int .i64 i] w fun e w' => e = .returned (.string r) ∧ Below w.heap.size w w' := by
  obtain ⟨p1, p2, p3, p4, p5, p6, p7, p8, p9, p10, p11⟩ := batch_parts hb
  obtain ⟨r1, r2, r3, r4⟩ := ser_bd p8 p2 p3 p5 p10 i0 i1
  rw [← h]
  exact l31Serial_any p x1 x2 x3 x4 i w p1 p8 p9 r1 r2 (ser_width p8 p2 p3 p5 p10 p11 i0 i1) p7

theorem str_eq {a b : ByteArray} (h : (a.toList == b.toList) = true) : a = b := by
  rw [beq_iff_eq, ByteArray.toList_eq, ByteArray.toList_eq] at h
  exact ByteArray.ext (Array.toList_inj.1 h)
theorem str_ne {a b : ByteArray} (h : (a.toList == b.toList) = false) : a ≠ b := fun e => by
  subst e; simp at h
theorem str_self (a : ByteArray) : (a.toList == a.toList) = true := by simp

set_option maxHeartbeats 1000000 in
theorem index_any (p : ByteArray) (x1 x2 x3 x4 : Int) (s : ByteArray) (w : World) (hb : isBatchB p x1 x2 x3 x4 = true) (ht : Tab w) :
    Calls Tryd.prog 41 #[.agg #[.string p, .int .i64 x1, .int .i64 x2, .int .i64 x3, .int .i64 x4], .string s] w fun e w' =>
      e = .returned (.tuple #[.int .i64 (ixK (ixR p x1 x2 x3 x4 s)), .bool (ixR p x1 x2 x3 x4 s).isSome]) ∧ Below w.heap.size w w' := by
  obtain ⟨p1, p2, p3, p4, p5, p6, p7, p8, p9, p10, p11⟩ := batch_parts hb
  have HT := Lib.hid ht
  have HB := Lib.hid hb
  clear ht hb p11
  go_enter Tryd.func41, Tryd.ntmps41
  go_wp2_with fail
  go_loopw [6] (fun i wr => ∃ k : Nat, (k : Int) ≤ x3 ∧ i = .int .i64 k ∧ NoneYet p x1 x2 x4 s k ∧ Below (w.alloc (.cells #[.string p, .int .i64 x1, .int .i64 x2, .int .i64 x3, .int .i64 x4] 25 (0, 0))).heap.size (w.alloc (.cells #[.string p, .int .i64 x1, .int .i64 x2, .int .i64 x3, .int .i64 x4] 25 (0, 0))) wr) (fun i _ => (x3 - intOf i).toNat)
  case atStart => exact ⟨0, by omega, rfl, noneYet_zero _ _ _ _ _, Below.refl _ _⟩
  case round =>
    obtain ⟨k, hk, rfl, hn, hbl⟩ := hrel
    obtain ⟨hc, _⟩ := bcell hbl
    have HN := Lib.hid hn
    have HL := Lib.hid hbl
    clear hn hbl
    by_cases hlt : (k : Int) < x3
    · obtain ⟨r, hr⟩ : ∃ r, serB p x1 x2 x4 k = r := ⟨_, rfl⟩
      have HR := Lib.hid hr
      clear hr
      go_wp2_with fail
      refine (serial_val HR.out HB.out (by omega) hlt (HT.out.next (bt1 HL.out))).mono ?_
      rintro e w1 ⟨rfl, hb1⟩
      have HB1 := Lib.hid (bt0 HL.out hb1 (Nat.le_refl _))
      clear hb1
      go_wp2_with fail
      · have E : Hid (ixR p x1 x2 x3 x4 s = some k) := Lib.hid (ixR_some HN.out hlt (HR.out.trans (str_eq (by assumption))))
        rw [E.out]
        go_ret2
        exact ⟨rfl, bt1 HB1.out⟩
      · exact ⟨⟨k + 1, by omega, by go_num, noneYet_succ HN.out (by rw [HR.out]; exact str_ne (by assumption)), HB1.out⟩, by simp [intOf]; omega⟩
    · have E : Hid (ixR p x1 x2 x3 x4 s = none) := Lib.hid (ixR_none HN.out (by omega))
      go_wp2_with fail
      go_ret2
      exact ⟨by rw [E.out]; rfl, bt1 HL.out⟩

set_option maxHeartbeats 1000000 in
theorem l31Index_any (p : ByteArray) (x1 x2 x3 x4 : Int) (s : ByteArray) (w : World) (hb : isBatchB p x1 x2 x3 x4 = true) :
    Calls Tryd.prog 44 #[.agg #[.string p, .int .i64 x1, .int .i64 x2, .int .i64 x3, .int .i64 x4], .string s] w fun e w' =>
      e = .returned (.int .i64 (ixM (ixR p x1 x2 x3 x4 s))) ∧ Below w.heap.size w w' := by
  obtain ⟨p1, p2, p3, p4, p5, p6, p7, p8, p9, p10, p11⟩ := batch_parts hb
  have HB := Lib.hid hb
  clear hb p11
  go_enter Tryd.func44, Tryd.ntmps44
  go_wp2_with fail
  go_loopw [5] (fun i wr => ∃ k : Nat, (k : Int) ≤ x3 ∧ i = .int .i64 k ∧ NoneYet p x1 x2 x4 s k ∧ Below (w.alloc (.cells #[.string p, .int .i64 x1, .int .i64 x2, .int .i64 x3, .int .i64 x4] 25 (0, 0))).heap.size (w.alloc (.cells #[.string p, .int .i64 x1, .int .i64 x2, .int .i64 x3, .int .i64 x4] 25 (0, 0))) wr) (fun i _ => (x3 - intOf i).toNat)
  case atStart => exact ⟨0, by omega, rfl, noneYet_zero _ _ _ _ _, Below.refl _ _⟩
  case round =>
    obtain ⟨k, hk, rfl, hn, hbl⟩ := hrel
    obtain ⟨hc, _⟩ := bcell hbl
    have HN := Lib.hid hn
    have HL := Lib.hid hbl
    clear hn hbl
    by_cases hlt : (k : Int) < x3
    · obtain ⟨r, hr⟩ : ∃ r, serB p x1 x2 x4 k = r := ⟨_, rfl⟩
      have HR := Lib.hid hr
      clear hr
      go_wp2_with fail
      refine (l31Serial_val HR.out HB.out (by omega) hlt).mono ?_
      rintro e w1 ⟨rfl, hb1⟩
      have HB1 := Lib.hid (bt0 HL.out hb1 (Nat.le_refl _))
      clear hb1
      go_wp2_with fail
      · have E : Hid (ixR p x1 x2 x3 x4 s = some k) := Lib.hid (ixR_some HN.out hlt (HR.out.trans (str_eq (by assumption))))
        rw [E.out]
        go_ret
        exact ⟨rfl, bt1 HB1.out⟩
      · exact ⟨⟨k + 1, by omega, by go_num, noneYet_succ HN.out (by rw [HR.out]; exact str_ne (by assumption)), HB1.out⟩, by simp [intOf]; omega⟩
    · have E : Hid (ixR p x1 x2 x3 x4 s = none) := Lib.hid (ixR_none HN.out (by omega))
      go_wp2_with fail
      go_ret
      exact ⟨by rw [E.out]; rfl, bt1 HL.out⟩


/-- IndexOfSerial: index and code -/
def ioK (p : ByteArray) (x1 x2 x3 x4 : Int) (s : ByteArray) : Int := if isBatchB p x1 x2 x3 x4 then ixK (ixR p x1 x2 x3 x4 s) else 0
def ioC (p : ByteArray) (x1 x2 x3 x4 : Int) (s : ByteArray) : Int := if isBatchB p x1 x2 x3 x4 then if (ixR p x1 x2 x3 x4 s).isSome then 0 else 4 else 1

set_option maxHeartbeats 1000000 in
theorem indexOfSerial_any (p : ByteArray) (x1 x2 x3 x4 : Int) (s : ByteArray) (w : World) (hp : p.size ≤ maxLen) (ht : Tab w) :
    Calls Tryd.prog 12 #[.agg #[.string p, .int .i64 x1, .int .i64 x2, .int .i64 x3, .int .i64 x4], .string s] w fun e w' => e = .returned (.tuple #[.int .i64 (ioK p x1 x2 x3 x4 s), .int .i64 (ioC p x1 x2 x3 x4 s)]) ∧ Below w.heap.size w w' := by
  have HT := Lib.hid ht
  have HP := Lib.hid hp
  clear ht hp
  rcases Bool.eq_false_or_eq_true (isBatchB p x1 x2 x3 x4) with h1 | h1
  · have H1 := Lib.hid h1
    clear h1
    have hx := index_any p x1 x2 x3 x4 s
    have E1 : Hid (ioK p x1 x2 x3 x4 s = ixK (ixR p x1 x2 x3 x4 s)) := Lib.hid (by unfold ioK; rw [H1.out]; rfl)
    have E2 : Hid (ioC p x1 x2 x3 x4 s = if (ixR p x1 x2 x3 x4 s).isSome then 0 else 4) := Lib.hid (by unfold ioC; rw [H1.out]; rfl)
    rw [E1.out, E2.out]
    clear E1 E2
    generalize ixR p x1 x2 x3 x4 s = r at *
    have HX := Lib.hid hx
    clear hx
    cases r
    all_goals
      go_enter Tryd.func12, Tryd.ntmps12
      go_wp2_with fail
      refine (isBatch_val H1.out HP.out (HT.out.alloc _)).mono ?_
      rintro e w1 ⟨rfl, hb1⟩
      obtain ⟨hc, _⟩ := bcell hb1
      have HB1 := Lib.hid (bt1 hb1)
      clear hb1
      go_wp2_with fail
      refine (HX.out _ H1.out (HT.out.next HB1.out)).mono ?_
      rintro e w2 ⟨rfl, hb2⟩
      have HB2 := Lib.hid (bt0 HB1.out hb2 (Nat.le_refl _))
      clear hb2
      simp only [Option.isSome_none, Option.isSome_some]
      go_wp2_with fail
      go_ret2
      exact ⟨rfl, HB2.out⟩
  · have E1 : Hid (ioK p x1 x2 x3 x4 s = 0) := Lib.hid (by unfold ioK; rw [h1]; rfl)
    have E2 : Hid (ioC p x1 x2 x3 x4 s = 1) := Lib.hid (by unfold ioC; rw [h1]; rfl)
    have H1 := Lib.hid h1
    clear h1
    rw [E1.out, E2.out]
    go_enter Tryd.func12, Tryd.ntmps12
    go_wp2_with fail
    refine (isBatch_val H1.out HP.out (HT.out.alloc _)).mono ?_
    rintro e w1 ⟨rfl, hb1⟩
    obtain ⟨hc, _⟩ := bcell hb1
    have HB1 := Lib.hid (bt1 hb1)
    clear hb1
    go_wp2_with fail
    go_ret2
    exact ⟨rfl, HB1.out⟩

end Go.Proofs.YtnijdfdcjjbneaaDoor
