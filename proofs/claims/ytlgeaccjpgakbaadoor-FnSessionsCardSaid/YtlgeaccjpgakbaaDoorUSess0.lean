import Derived.Test.YtlgeaccjpgakbaaDoorUBase
import Derived.Test.YtlgeaccjpgakbaaDoorUEqI
import Derived.Test.YtlgeaccjpgakbaaDoorUHeldI
import Derived.Test.YtlgeaccjpgakbaaDoorUMarkI
import Derived.Test.YtlgeaccjpgakbaaDoorUSzI
import Derived.Test.YtlgeaccjpgakbaaDoorUToI
namespace Go.Proofs.YtlgeaccjpgakbaaDoor
open Go.RowKit

theorem toBatch_any (p : ByteArray) (x1 x2 x3 x4 : Int) (w : World) :
    Calls Tryd.prog 19 #[.agg #[.string p, .int .i64 x1, .int .i64 x2, .int .i64 x3, .int .i64 x4]] w fun e w' => e = .returned (.agg #[.string p, .int .i64 x1, .int .i64 x2, .int .i64 x3, .int .i64 x4]) ∧ Below w.heap.size w w' := by
  go_enter Tryd.func19, Tryd.ntmps19
  go_wp2
  exact bodyPost_ret (v := .agg #[.string p, .int .i64 x1, .int .i64 x2, .int .i64 x3, .int .i64 x4]) (by simp [results, Tryd.results19, go_sem]) rfl ⟨rfl, (((Below.refl _ _).alloc (Nat.le_refl _) _).alloc (by simp) _).alloc (by simp; omega) _⟩

/-- all tests of two batches -/
def eqBatchB (p : ByteArray) (x1 x2 x3 x4 : Int) (q : ByteArray) (y1 y2 y3 y4 : Int) : Bool := p.toList == q.toList && x1 == y1 && x2 == y2 && x3 == y3 && x4 == y4

theorem five (a b c d e : Bool) : a = false ∨ (a = true ∧ b = false) ∨ (a = true ∧ b = true ∧ c = false) ∨ (a = true ∧ b = true ∧ c = true ∧ d = false) ∨ (a = true ∧ b = true ∧ c = true ∧ d = true ∧ e = false) ∨
    (a = true ∧ b = true ∧ c = true ∧ d = true ∧ e = true) := by
  cases a <;> cases b <;> cases c <;> cases d <;> cases e <;> simp

set_option maxHeartbeats 1000000 in
theorem eqBatch_any (p : ByteArray) (x1 x2 x3 x4 : Int) (q : ByteArray) (y1 y2 y3 y4 : Int) (w : World) :
    Calls Tryd.prog 60 #[.agg #[.string p, .int .i64 x1, .int .i64 x2, .int .i64 x3, .int .i64 x4], .agg #[.string q, .int .i64 y1, .int .i64 y2, .int .i64 y3, .int .i64 y4]] w
      fun e w' => e = .returned (.bool (eqBatchB p x1 x2 x3 x4 q y1 y2 y3 y4)) ∧ Below w.heap.size w w' := by
  go_enter Tryd.func60, Tryd.ntmps60
  go_wp2
  all_goals go_ret
  all_goals exact ⟨ret_bool (by simp_all [eqBatchB]), ((Below.refl _ _).alloc (Nat.le_refl _) _).alloc (by simp) _⟩

theorem byte_toList (p : ByteArray) : p.toList = p.data.toList := ByteArray.toList_eq p

theorem eqBatchB_iff {p q : ByteArray} {x1 x2 x3 x4 y1 y2 y3 y4 : Int} : eqBatchB p x1 x2 x3 x4 q y1 y2 y3 y4 = true ↔ p = q ∧ x1 = y1 ∧ x2 = y2 ∧ x3 = y3 ∧ x4 = y4 := by
  simp only [eqBatchB, Bool.and_eq_true, beq_iff_eq, and_assoc]
  constructor
  · rintro ⟨h, r⟩
    exact ⟨ByteArray.ext (Array.toList_inj.1 (by rw [← byte_toList, ← byte_toList, h])), r⟩
  · rintro ⟨rfl, r⟩; exact ⟨rfl, r⟩

/-- two sessions -/
def eqSessionB (p : ByteArray) (x1 x2 x3 x4 : Int) (xs : List Int) (q : ByteArray) (y1 y2 y3 y4 : Int) (ys : List Int) : Bool := eqBatchB p x1 x2 x3 x4 q y1 y2 y3 y4 && decide (xs = ys)

theorem eqBatch_val {p : ByteArray} {x1 x2 x3 x4 : Int} {q : ByteArray} {y1 y2 y3 y4 : Int} {w : World} {b : Bool} (h : eqBatchB p x1 x2 x3 x4 q y1 y2 y3 y4 = b) :
    Calls Tryd.prog 60 #[.agg #[.string p, .int .i64 x1, .int .i64 x2, .int .i64 x3, .int .i64 x4], .agg #[.string q, .int .i64 y1, .int .i64 y2, .int .i64 y3, .int .i64 y4]] w
      fun e w' => e = .returned (.bool b) ∧ Below w.heap.size w w' := h ▸ eqBatch_any _ _ _ _ _ _ _ _ _ _ _
theorem eqInt64S_val {a b : Option Addr} {xs ys : List Int} {c d : Nat} {w : World} {r : Bool} (h : decide (xs = ys) = r) (hx : IntsAt w a xs) (hy : IntsAt w b ys)
    (lx : xs.length ≤ maxLen) (ly : ys.length ≤ maxLen) :
    Calls Tryd.prog 39 #[.slice a xs.length c, .slice b ys.length d] w fun e w' => e = .returned (.bool r) ∧ Below w.heap.size w w' :=
  (eqInt64S_any a b xs ys c d w hx hy lx ly).mono fun e w' ⟨he, n, hw⟩ => ⟨by rw [he, h], by rw [hw]; exact below_drewN (Below.refl _ _) n⟩

set_option maxHeartbeats 1000000 in
theorem eqSession_any (p : ByteArray) (x1 x2 x3 x4 : Int) (a : Option Addr) (xs : List Int) (c : Nat) (q : ByteArray) (y1 y2 y3 y4 : Int) (b : Option Addr) (ys : List Int) (d : Nat) (w : World)
    (hx : IntsAt w a xs) (hy : IntsAt w b ys) (lx : xs.length ≤ maxLen) (ly : ys.length ≤ maxLen) :
    Calls Tryd.prog 26 #[.agg #[.string p, .int .i64 x1, .int .i64 x2, .int .i64 x3, .int .i64 x4, .slice a xs.length c], .agg #[.string q, .int .i64 y1, .int .i64 y2, .int .i64 y3, .int .i64 y4, .slice b ys.length d]] w
      fun e w' => e = .returned (.bool (eqSessionB p x1 x2 x3 x4 xs q y1 y2 y3 y4 ys)) ∧ Below w.heap.size w w' := by
  have HX := Lib.hid hx
  have HY := Lib.hid hy
  clear hx hy
  rcases Bool.eq_false_or_eq_true (eqBatchB p x1 x2 x3 x4 q y1 y2 y3 y4) with h1 | h1
  · have H1 := Lib.hid h1
    clear h1
    rcases Bool.eq_false_or_eq_true (decide (xs = ys)) with h2 | h2
    all_goals
      have H2 := Lib.hid h2
      clear h2
      go_enter Tryd.func26, Tryd.ntmps26
      go_wp2_with fail
      refine (eqBatch_val H1.out).mono ?_
      rintro e w1 ⟨rfl, hb1⟩
      obtain ⟨hc, _⟩ := bcell hb1
      have HB1 := Lib.hid (bt2 hb1)
      clear hb1
      go_wp2_with fail
      refine (eqInt64S_val H2.out (HX.out.below HB1.out) (HY.out.below HB1.out) lx ly).mono ?_
      rintro e w2 ⟨rfl, hb2⟩
      have HB2 := Lib.hid (bt0 HB1.out hb2 (Nat.le_refl _))
      clear hb2
      go_wp2_with fail
      go_ret
      exact ⟨ret_bool (by rw [eqSessionB, H1.out, H2.out]; rfl), HB2.out⟩
  · have H1 := Lib.hid h1
    clear h1
    go_enter Tryd.func26, Tryd.ntmps26
    go_wp2_with fail
    refine (eqBatch_val H1.out).mono ?_
    rintro e w1 ⟨rfl, hb1⟩
    have HB1 := Lib.hid (bt2 hb1)
    clear hb1
    go_wp2_with fail
    go_ret
    exact ⟨ret_bool (by rw [eqSessionB, H1.out]; rfl), HB1.out⟩


theorem eqSessionB_self (p : ByteArray) (x1 x2 x3 x4 : Int) (xs : List Int) : eqSessionB p x1 x2 x3 x4 xs p x1 x2 x3 x4 xs = true := by
  rw [eqSessionB, eqBatchB_iff.2 ⟨rfl, rfl, rfl, rfl, rfl⟩]; simp

theorem eqSession_same {p : ByteArray} {x1 x2 x3 x4 : Int} {a : Option Addr} {xs : List Int} {c : Nat} {b : Option Addr} {d : Nat} {w : World}
    (hx : IntsAt w a xs) (hy : IntsAt w b xs) (lx : xs.length ≤ maxLen) :
    Calls Tryd.prog 26 #[.agg #[.string p, .int .i64 x1, .int .i64 x2, .int .i64 x3, .int .i64 x4, .slice a xs.length c], .agg #[.string p, .int .i64 x1, .int .i64 x2, .int .i64 x3, .int .i64 x4, .slice b xs.length d]] w
      fun e w' => e = .returned (.bool true) ∧ Below w.heap.size w w' :=
  (eqSession_any p x1 x2 x3 x4 a xs c p x1 x2 x3 x4 b xs d w hx hy lx lx).mono fun e w' ⟨he, hb⟩ => ⟨by rw [he, eqSessionB_self], hb⟩

/-- a session of the call's own is handed back -/
def RetSess (w : World) (p : ByteArray) (x1 x2 x3 x4 : Int) (xs : List Int) (e : Ending) (w' : World) : Prop :=
  ∃ a c, e = .returned (.agg #[.string p, .int .i64 x1, .int .i64 x2, .int .i64 x3, .int .i64 x4, .slice a xs.length c]) ∧ OwnI w' w.heap.size (.slice a xs.length c) xs ∧ Below w.heap.size w w'

end Go.Proofs.YtlgeaccjpgakbaaDoor
