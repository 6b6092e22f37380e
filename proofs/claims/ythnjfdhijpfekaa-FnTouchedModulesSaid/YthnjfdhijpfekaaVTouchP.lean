import Derived.Test.YthnjfdhijpfekaaVDrawAD
import Derived.Test.YthnjfdhijpfekaaVLikeI
namespace Go.Proofs.Ythnjfdhijpfekaa
open Go.RowKit

set_option maxRecDepth 100000 in
set_option maxHeartbeats 1000000 in
theorem touching1 {r c t v g : Int} {W : World} (hd : dmOk 1 r c t v g = true) :
    Calls Try.prog 47 #[.agg #[.int .i64 1, .int .i64 r, .int .i64 c, .int .i64 t, .int .i64 v, .int .i64 g]] W fun e W' => e = .returned (.tuple #[.func (.func 78) #[.agg #[.int .i64 1, .int .i64 r, .int .i64 c, .int .i64 t, .int .i64 v, .int .i64 g]] #[], .bool true]) ∧ Below W.heap.size W W' := by
  have HD := Lib.hid hd
  have hmf := run_makeFunc'' Try.prog
  clear hd
  go_enter Try.func47, Try.ntmps47
  go_wp2_with fail
  refine (isDamage_val HD.out).mono ?_
  rintro e w1 ⟨rfl, hb⟩
  have hA := box1 hb
  have HB := Lib.hid (bt1 hb)
  have hs := hb.size
  rw [World.size_alloc] at hs
  clear hb
  go_wp2_with fail
  go_ret2
  exact ⟨rfl, HB.out⟩
set_option maxRecDepth 100000 in
set_option maxHeartbeats 1000000 in
theorem touching2 {r c t v g : Int} {W : World} (hd : dmOk 2 r c t v g = true) :
    Calls Try.prog 47 #[.agg #[.int .i64 2, .int .i64 r, .int .i64 c, .int .i64 t, .int .i64 v, .int .i64 g]] W fun e W' => e = .returned (.tuple #[.func (.func 79) #[.agg #[.int .i64 2, .int .i64 r, .int .i64 c, .int .i64 t, .int .i64 v, .int .i64 g]] #[], .bool true]) ∧ Below W.heap.size W W' := by
  have HD := Lib.hid hd
  have hmf := run_makeFunc'' Try.prog
  clear hd
  go_enter Try.func47, Try.ntmps47
  go_wp2_with fail
  refine (isDamage_val HD.out).mono ?_
  rintro e w1 ⟨rfl, hb⟩
  have hA := box1 hb
  have HB := Lib.hid (bt1 hb)
  have hs := hb.size
  rw [World.size_alloc] at hs
  clear hb
  go_wp2_with fail
  go_ret2
  exact ⟨rfl, HB.out⟩

set_option maxRecDepth 100000 in
set_option maxHeartbeats 1000000 in
theorem touchesPixel_val {k r c t v g y x : Int} {b : Bool} {W : World} (hb : touchB k r c t v y x = b) (hd : dmOk k r c t v g = true) (hk : k = 1 ∨ k = 2) (hy : 0 ≤ y ∧ y ≤ 400) (hx : 0 ≤ x ∧ x ≤ 400) :
    Calls Try.prog 19 #[.agg #[.int .i64 k, .int .i64 r, .int .i64 c, .int .i64 t, .int .i64 v, .int .i64 g], .int .i64 y, .int .i64 x] W fun e W' => e = .returned (.bool b) ∧ Below W.heap.size W W' := by
  obtain ⟨_, hr, hc, ht, hw, hg, _⟩ := dm_bounds hd
  have HD := Lib.hid hd
  have HT := Lib.hid hb
  have HY := Lib.hid (inB_iff.2 hy)
  have HX := Lib.hid (inB_iff.2 hx)
  clear hd hb
  rcases hk with rfl | rfl
  · have HE := Lib.hid blot_enter
    go_enter Try.func19, Try.ntmps19
    go_wp2_with fail
    refine (touching1 HD.out).mono ?_
    rintro e w1 ⟨rfl, hb⟩
    have HB := Lib.hid (bt1 hb)
    clear hb
    go_wp2_with fail
    refine (inRange_val HY.out).mono ?_
    rintro e w2 ⟨rfl, rfl⟩
    go_wp2_with fail
    refine (inRange_val HX.out).mono ?_
    rintro e w2 ⟨rfl, rfl⟩
    have hE := HE.out
    go_wp2_with fail
    refine (blotTouches_val HT.out hr hc ht hy hx).mono ?_
    rintro e w2 ⟨rfl, hb⟩
    have HB2 := Lib.hid (bt0 HB.out hb (Nat.le_refl _))
    clear hb hE
    go_wp2_with fail
    go_ret
    exact ⟨rfl, HB2.out⟩
  · have HE := Lib.hid scratch_enter
    go_enter Try.func19, Try.ntmps19
    go_wp2_with fail
    refine (touching2 HD.out).mono ?_
    rintro e w1 ⟨rfl, hb⟩
    have HB := Lib.hid (bt1 hb)
    clear hb
    go_wp2_with fail
    refine (inRange_val HY.out).mono ?_
    rintro e w2 ⟨rfl, rfl⟩
    go_wp2_with fail
    refine (inRange_val HX.out).mono ?_
    rintro e w2 ⟨rfl, rfl⟩
    have hE := HE.out
    go_wp2_with fail
    refine (scratchTouches_val HT.out hr hc ht hw).mono ?_
    rintro e w2 ⟨rfl, hb⟩
    have HB2 := Lib.hid (bt0 HB.out hb (Nat.le_refl _))
    clear hb hE
    go_wp2_with fail
    go_ret
    exact ⟨rfl, HB2.out⟩

theorem likeInts_same' {a b : Option Addr} {xs : List Int} {c d : Nat} {w : World} (hx : IntsAt w a xs) (hy : IntsAt w b xs) (lx : xs.length ≤ maxLen) :
    Calls Try.prog 46 #[.slice a xs.length c, .slice b xs.length d] w fun e w' => e = .returned (.bool true) ∧ Below w.heap.size w w' :=
  (likeInts_any a b xs xs c d w hx hy lx lx).mono fun _ w' ⟨he, n, hw⟩ => ⟨by rw [he]; simp, by subst hw; exact ⟨rfl, rfl, rfl, Nat.le_refl _, fun _ _ => rfl⟩⟩
set_option maxHeartbeats 1000000 in
theorem likeRaster_same {x1 x2 : Int} {a : Option Addr} {xs : List Int} {c : Nat} {b : Option Addr} {d : Nat} {w : World}
    (hx : IntsAt w a xs) (hy : IntsAt w b xs) (lx : xs.length ≤ maxLen) :
    Calls Try.prog 18 #[.agg #[.int .i64 x1, .int .i64 x2, .slice a xs.length c], .agg #[.int .i64 x1, .int .i64 x2, .slice b xs.length d]] w
      fun e w' => e = .returned (.bool true) ∧ Below w.heap.size w w' := by
  have HX := Lib.hid hx
  have HY := Lib.hid hy
  clear hx hy
  have e1 : (x1 == x1) = true := by simp
  have e2 : (x2 == x2) = true := by simp
  go_enter Try.func18, Try.ntmps18
  go_wp2_with fail
  refine (likeInts_same' (HX.out.below (ba2 _ _ _)) (HY.out.below (ba2 _ _ _)) lx).mono ?_
  rintro e w2 ⟨rfl, hb⟩
  have HB := Lib.hid (bt2 hb)
  clear hb
  go_wp2_with fail
  go_ret
  exact ⟨rfl, HB.out⟩
theorem likeRaster_f {L : List Fact} {x1 x2 : Int} {a b : Option Addr} {xs : List Int} {c d : Nat} {w : World} (h : Facts L w) (hx : IntsAt w a xs) (hy : IntsAt w b xs) (lx : xs.length ≤ maxLen) :
    Calls Try.prog 18 #[.agg #[.int .i64 x1, .int .i64 x2, .slice a xs.length c], .agg #[.int .i64 x1, .int .i64 x2, .slice b xs.length d]] w fun e w' =>
      e = .returned (.bool true) ∧ Facts L w' ∧ w.heap.size ≤ w'.heap.size :=
  (likeRaster_same hx hy lx).mono fun _ _ ⟨he, hb⟩ => ⟨he, h.below hb, hb.size⟩

/-- what damages make of a raster, and when they go -/
structure ApOk (n m : Int) (xs : List Int) (ds : List Dm) (y1 y2 : Int) (zs : List Int) (cd : Int) : Prop where
  eq : ∀ W, RetAp W n m xs ds = RetRC W y1 y2 zs cd
  len : zs.length ≤ 40000
  ok : cd = 0 → rasOk n m xs = true ∧ ds.length ≤ 20 ∧ ds.all Dm.ok = true ∧ y1 = n ∧ y2 = m ∧ zs = dmsL n.toNat m.toNat ds xs
theorem apOk (n m : Int) (xs : List Int) (ds : List Dm) : ∃ y1 y2 zs cd, ApOk n m xs ds y1 y2 zs cd := by
  rcases Bool.eq_false_or_eq_true (rasOk n m xs) with h1 | h1
  · by_cases h2 : 20 < ds.length
    · exact ⟨0, 0, [], 3, fun w => by rw [RetAp, if_pos h1, if_pos h2], by simp, fun h => absurd h (by decide)⟩
    · rcases Bool.eq_false_or_eq_true (ds.all Dm.ok) with h3 | h3
      · refine ⟨n, m, _, 0, fun w => by rw [RetAp, if_pos h1, if_neg h2, if_pos h3], ?_, fun _ => ⟨h1, by omega, h3, rfl, rfl, rfl⟩⟩
        obtain ⟨n, m, rfl, rfl, q1, q2, q3, q4, q5, q6, q7⟩ := ras_nat h1
        rw [Int.toNat_natCast, Int.toNat_natCast, dmsL_len q6]
        exact q5
      · exact ⟨0, 0, [], 2, fun w => by rw [RetAp, if_pos h1, if_neg h2, h3]; rfl, by simp, fun h => absurd h (by decide)⟩
  · exact ⟨0, 0, [], 1, fun w => by rw [RetAp, h1]; rfl, by simp, fun h => absurd h (by decide)⟩

end Go.Proofs.Ythnjfdhijpfekaa
