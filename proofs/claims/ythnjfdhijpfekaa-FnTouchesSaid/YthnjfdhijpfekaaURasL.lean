import Derived.Test.YthnjfdhijpfekaaUFr
import Derived.Test.YthnjfdhijpfekaaUOwn2
import Derived.Test.YthnjfdhijpfekaaUToI
import Derived.Test.YthnjfdhijpfekaaUMarkI
import Derived.Test.YthnjfdhijpfekaaUSzI
import Derived.Test.YthnjfdhijpfekaaUEqI
namespace Go.Proofs.Ythnjfdhijpfekaa
open Go.RowKit

/-- a raster of the call's own is handed back -/
def RetRasL (w : World) (x1 x2 : Int) (xs : List Int) (e : Ending) (w' : World) : Prop :=
  ∃ a c, e = .returned (.agg #[.int .i64 x1, .int .i64 x2, .slice a xs.length c]) ∧ OwnI w' w.heap.size (.slice a xs.length c) xs ∧ Below w.heap.size w w'

set_option maxHeartbeats 1000000 in
theorem toRaster_any (x1 x2 : Int) (a : Option Addr) (xs : List Int) (c : Nat) (w : World) (hx : IntsAt w a xs) (lx : xs.length ≤ 1099511627776) :
    Calls Try.prog 10 #[.agg #[.int .i64 x1, .int .i64 x2, .slice a xs.length c]] w (RetRasL w x1 x2 xs) := by
  have HX := Lib.hid hx
  clear hx
  go_enter Try.func10, Try.ntmps10
  go_wp2_with fail
  refine (toInt64S_any _ _ _ _ (HX.out.below (ba3 _ _ _ _)) lx).mono ?_
  rintro e w2 ⟨rfl, ho, hb2⟩
  obtain ⟨hc2, hf2⟩ := bcell hb2
  have HB3 := Lib.hid (bt3 hb2)
  have HO : Hid (OwnI w2 (w.heap.size + 1 + 1 + 1) (.slice (some ⟨w.heap.size + 1 + 1 + 1, 0, none⟩) xs.length xs.length) xs) := by
    show OwnI _ _ _ _
    simpa using ho
  clear ho
  have hz2 : w.heap.size + 1 + 1 < w2.heap.size := by have := hb2.size; simp at this; omega
  go_wp2_with fail
  refine bodyPost_ret (v := .agg #[.int .i64 x1, .int .i64 x2, .slice (some ⟨w.heap.size + 1 + 1 + 1, 0, none⟩) xs.length xs.length]) (by simp [results, Try.results10, go_sem, hc2]) rfl ⟨_, _, rfl, ?_, ?_⟩
  · refine OwnI.weak (base := w.heap.size + 1 + 1 + 1) ?_ (by omega)
    iterate 4 (refine OwnI.setOld ?_ (by dsimp only; omega) _)
    exact HO.out
  · iterate 4 (refine Below.setCell ?_ (by dsimp only; omega) _)
    exact HB3.out

set_option maxHeartbeats 1000000 in
theorem markRaster_any (x1 x2 : Int) (a : Option Addr) (xs : List Int) (c base : Nat) (m : Int) (w : World) (ho : OwnI w base (.slice a xs.length c) xs)
    (lx : xs.length ≤ 1099511627776) (hm0 : 0 ≤ m) (hm : m ≤ 1099511627776) :
    Calls Try.prog 14 #[.agg #[.int .i64 x1, .int .i64 x2, .slice a xs.length c], .int .i64 m] w fun e w' => e = .returned (.int .i64 (m + xs.length)) ∧
      OwnI w' base (.slice a xs.length c) (marks m xs.length) ∧ w.grownBy w' (Value.ownBlock (.slice a xs.length c)) := by
  have HO := Lib.hid ho
  clear ho
  go_enter Try.func14, Try.ntmps14
  go_wp2_with fail
  refine (markInt64S_any _ _ _ base _ _ (HO.out.grown (ba1 _ _)) lx hm0 hm).mono ?_
  rintro e w1 ⟨rfl, ho1, hg1⟩
  have HO1 := Lib.hid ho1
  have HG1 := Lib.hid hg1
  clear ho1 hg1
  go_wp2_with fail
  go_ret
  exact ⟨rfl, HO1.out, grownBy_trans (World.grownBy_alloc _ _ _) HG1.out⟩

set_option maxHeartbeats 1000000 in
theorem heldRaster_marks {x1 x2 : Int} {a : Option Addr} {n c : Nat} {m : Int} {w : World} (hx : IntsAt w a (marks m n)) (ln : n ≤ 1099511627776) (hm0 : 0 ≤ m) (hm : m ≤ 1099511627776) :
    Calls Try.prog 15 #[.agg #[.int .i64 x1, .int .i64 x2, .slice a n c], .int .i64 m] w fun e w' => e = .returned (.int .i64 (m + n)) ∧ Below w.heap.size w w' := by
  have HX := Lib.hid hx
  clear hx
  go_enter Try.func15, Try.ntmps15
  go_wp2_with fail
  refine (heldInt64S_marks (HX.out.below (ba1 _ _)) ln hm0 hm).mono ?_
  rintro e w1 ⟨rfl, rfl⟩
  go_wp2_with fail
  go_ret
  exact ⟨rfl, ba1 _ _⟩

set_option maxHeartbeats 1000000 in
theorem szRaster_any (x1 x2 : Int) (a : Option Addr) (n c : Nat) (l : Int) (w : World) (hn : n ≤ maxLen) (h0 : -1 ≤ l) (hl : l ≤ 1099511627776) :
    Calls Try.prog 8 #[.agg #[.int .i64 x1, .int .i64 x2, .slice a n c], .int .i64 l] w fun e w' => e = .returned (.int .i64 (leftOf l n)) ∧ Below w.heap.size w w' := by
  have a1 : -1 ≤ leftOf l n := by unfold leftOf; split <;> omega
  have a2 : leftOf l n ≤ l := by unfold leftOf; split <;> omega
  obtain ⟨r, hr⟩ : ∃ r, leftOf l n = r := ⟨_, rfl⟩
  rw [hr] at a1 a2
  have HR := Lib.hid hr
  clear hr
  by_cases h : r < 0
  all_goals
    go_enter Try.func8, Try.ntmps8
    go_wp2_with fail
    refine (szInt64S_any _ _ _ _ _ hn h0 hl).mono ?_
    rintro e w1 ⟨rfl, rfl⟩
    rw [HR.out]
    go_wp2_with fail
    go_ret
    exact ⟨ret_int (by rw [HR.out]; try omega), ba1 _ _⟩

/-- two rasters -/
def eqRasB (x1 x2 : Int) (xs : List Int) (y1 y2 : Int) (ys : List Int) : Bool := x1 == y1 && x2 == y2 && decide (xs = ys)
set_option maxHeartbeats 1000000 in
theorem eqRaster_same {x1 x2 : Int} {a : Option Addr} {xs : List Int} {c : Nat} {b : Option Addr} {d : Nat} {w : World}
    (hx : IntsAt w a xs) (hy : IntsAt w b xs) (lx : xs.length ≤ maxLen) :
    Calls Try.prog 13 #[.agg #[.int .i64 x1, .int .i64 x2, .slice a xs.length c], .agg #[.int .i64 x1, .int .i64 x2, .slice b xs.length d]] w
      fun e w' => e = .returned (.bool true) ∧ Below w.heap.size w w' := by
  have HX := Lib.hid hx
  have HY := Lib.hid hy
  clear hx hy
  have e1 : (x1 != x1) = false := by simp
  have e2 : (x2 != x2) = false := by simp
  go_enter Try.func13, Try.ntmps13
  go_wp2_with fail
  refine (eqInt64S_any _ _ _ _ _ _ _ (HX.out.below (ba2 _ _ _)) (HY.out.below (ba2 _ _ _)) lx lx).mono ?_
  rintro e w2 ⟨rfl, n, rfl⟩
  rw [decide_eq_true rfl]
  go_wp2_with fail
  go_ret
  exact ⟨rfl, below_drewN (ba2 _ _ _) n⟩

/-! The calls of a law on rasters, said in facts. -/
theorem toRaster_f {L : List Fact} {x1 x2 : Int} {a : Option Addr} {xs : List Int} {c : Nat} {w : World} (h : Facts L w) (hx : IntsAt w a xs) (lx : xs.length ≤ 1099511627776) :
    Calls Try.prog 10 #[.agg #[.int .i64 x1, .int .i64 x2, .slice a xs.length c]] w fun e w' =>
      ∃ a' c', e = .returned (.agg #[.int .i64 x1, .int .i64 x2, .slice a' xs.length c']) ∧ Facts (Fact.own w.heap.size w'.heap.size (.slice a' xs.length c') xs :: L) w' ∧ w.heap.size ≤ w'.heap.size :=
  (toRaster_any x1 x2 a xs c w hx lx).mono fun _ _ ⟨a', c', he, ho, hb⟩ => ⟨a', c', he, h.own hb ho, hb.size⟩
theorem markRaster_f {L : List Fact} {x1 x2 : Int} {a : Option Addr} {xs : List Int} {c : Nat} {m : Int} {w : World} (h : Facts L w) (i : Nat) {lo hi : Nat} (hF : L[i]? = some (Fact.own lo hi (.slice a xs.length c) xs))
    (lx : xs.length ≤ 1099511627776) (hm0 : 0 ≤ m) (hm : m ≤ 1099511627776) :
    Calls Try.prog 14 #[.agg #[.int .i64 x1, .int .i64 x2, .slice a xs.length c], .int .i64 m] w fun e w' => e = .returned (.int .i64 (m + xs.length)) ∧ Facts (L.set i (Fact.own lo hi (.slice a xs.length c) (marks m xs.length))) w' ∧ w.heap.size ≤ w'.heap.size :=
  (markRaster_any x1 x2 a xs c lo m w (h.get i hF).1 lx hm0 hm).mono fun _ _ ⟨he, ho, hg⟩ => ⟨he, h.turnOwn i hF hg ho, hg.size⟩
theorem heldRaster_f {L : List Fact} {x1 x2 : Int} {a : Option Addr} {n c : Nat} {m : Int} {w : World} (h : Facts L w) (i : Nat) {lo hi : Nat} (hF : L[i]? = some (Fact.own lo hi (.slice a n c) (marks m n)))
    (lx : n ≤ 1099511627776) (hm0 : 0 ≤ m) (hm : m ≤ 1099511627776) :
    Calls Try.prog 15 #[.agg #[.int .i64 x1, .int .i64 x2, .slice a n c], .int .i64 m] w fun e w' => e = .returned (.int .i64 (m + n)) ∧ Facts L w' ∧ w.heap.size ≤ w'.heap.size :=
  (heldRaster_marks (ownF_ints (h.get i hF)) lx hm0 hm).mono fun _ _ ⟨he, hb⟩ => ⟨he, h.below hb, hb.size⟩
theorem eqRaster_f {L : List Fact} {x1 x2 : Int} {a b : Option Addr} {xs : List Int} {c d : Nat} {w : World} (h : Facts L w) (hx : IntsAt w a xs) (hy : IntsAt w b xs) (lx : xs.length ≤ maxLen) :
    Calls Try.prog 13 #[.agg #[.int .i64 x1, .int .i64 x2, .slice a xs.length c], .agg #[.int .i64 x1, .int .i64 x2, .slice b xs.length d]] w fun e w' =>
      e = .returned (.bool true) ∧ Facts L w' ∧ w.heap.size ≤ w'.heap.size :=
  (eqRaster_same hx hy lx).mono fun _ _ ⟨he, hb⟩ => ⟨he, h.below hb, hb.size⟩

/-! Damages by value. -/
theorem toDamage_any (k r c t g v : Int) (w : World) :
    Calls Try.prog 11 #[.agg #[.int .i64 k, .int .i64 r, .int .i64 c, .int .i64 t, .int .i64 v, .int .i64 g]] w fun e w' => e = .returned (.agg #[.int .i64 k, .int .i64 r, .int .i64 c, .int .i64 t, .int .i64 v, .int .i64 g]) ∧ Below w.heap.size w w' := by
  go_enter Try.func11, Try.ntmps11
  go_wp2
  exact bodyPost_ret (v := .agg #[.int .i64 k, .int .i64 r, .int .i64 c, .int .i64 t, .int .i64 v, .int .i64 g]) (by simp [results, Try.results11, go_sem]) rfl ⟨rfl, (((Below.refl _ _).alloc (Nat.le_refl _) _).alloc (by simp) _).alloc (by simp; omega) _⟩
theorem toDamage_f {L : List Fact} {k r c t g v : Int} {w : World} (h : Facts L w) :
    Calls Try.prog 11 #[.agg #[.int .i64 k, .int .i64 r, .int .i64 c, .int .i64 t, .int .i64 v, .int .i64 g]] w fun e w' => e = .returned (.agg #[.int .i64 k, .int .i64 r, .int .i64 c, .int .i64 t, .int .i64 v, .int .i64 g]) ∧ Facts L w' ∧ w.heap.size ≤ w'.heap.size :=
  (toDamage_any k r c t g v w).mono fun _ _ ⟨he, hb⟩ => ⟨he, h.below hb, hb.size⟩

end Go.Proofs.Ythnjfdhijpfekaa
