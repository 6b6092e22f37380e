import Derived.Test.YthnjfdhijpfekaaVGrid1
namespace Go.Proofs.Ythnjfdhijpfekaa
open Go.RowKit

/-- the grey value of a printed pixel -/
def pxV (n m : Nat) (xs : List Int) (p t q b d l : Int) (y x : Nat) : Int :=
  if (if darkB n m xs ((y : Int) / t - q) ((x : Int) / p - q) = true then (if p + b ≤ (x : Int) % p then darkB n m xs ((y : Int) / t - q) ((x : Int) / p - q + 1) else true) else (if (x : Int) % p < b then darkB n m xs ((y : Int) / t - q) ((x : Int) / p - q - 1) else false)) = true then d else l
theorem pxV_grey {n m : Nat} {xs : List Int} {p t q b d l : Int} (h1 : 0 ≤ d) (h2 : d < l) (h3 : l ≤ 255) (y x : Nat) : 0 ≤ pxV n m xs p t q b d l y x ∧ pxV n m xs p t q b d l y x ≤ 255 := by
  unfold pxV
  split <;> omega

set_option maxRecDepth 100000 in
set_option maxHeartbeats 2000000 in
theorem pressPixel_val {n m : Nat} {xs : List Int} {a : Option Addr} {cp : Nat} {y1 y2 p t q b d l : Int} {y x : Nat} {z : Int} {W : World} (hz : pxV n m xs p t q b d l y x = z) (hp : prOk p t q b d l = true) (hn : 1 ≤ n ∧ n ≤ 40000) (hm : 1 ≤ m ∧ m ≤ 40000) (hl : xs.length = n * m) (hN : n * m ≤ 40000) (hx : IntsAt W a xs) (hy4 : y ≤ 400) (hx4 : x ≤ 400) :
    Calls Try.prog 69 #[.agg #[.int .i64 y1, .int .i64 y2, .int .i64 p, .int .i64 t, .int .i64 q, .int .i64 b, .int .i64 d, .int .i64 l, .int .i64 (n : Int), .int .i64 (m : Int), .slice a xs.length cp], .int .i64 (y : Int), .int .i64 (x : Int)] W fun e W' => e = .returned (.int .i64 z) ∧ Below W.heap.size W W' := by
  obtain ⟨b1, b2, b3, b4, _⟩ := pr_bounds hp
  have HX := Lib.hid hx
  have HL := Lib.hid hl
  unfold pxV at hz
  clear hp hx hl
  have y0 : (y : Int).tdiv t = (y : Int) / t := Int.tdiv_eq_ediv_of_nonneg (by omega)
  have x0 : (x : Int).tdiv p = (x : Int) / p := Int.tdiv_eq_ediv_of_nonneg (by omega)
  have k0 : (x : Int).tmod p = (x : Int) % p := Int.tmod_eq_emod_of_nonneg (by omega)
  have yb : 0 ≤ (y : Int) / t ∧ (y : Int) / t ≤ y := ⟨Int.ediv_nonneg (by omega) (by omega), Int.ediv_le_self _ (by omega)⟩
  have xb : 0 ≤ (x : Int) / p ∧ (x : Int) / p ≤ x := ⟨Int.ediv_nonneg (by omega) (by omega), Int.ediv_le_self _ (by omega)⟩
  have kb : 0 ≤ (x : Int) % p ∧ (x : Int) % p < p := ⟨Int.emod_nonneg _ (by omega), Int.emod_lt_of_pos _ (by omega)⟩
  obtain ⟨ry, hry⟩ : ∃ ry, (y : Int) / t = ry := ⟨_, rfl⟩
  obtain ⟨rx, hrx⟩ : ∃ rx, (x : Int) / p = rx := ⟨_, rfl⟩
  obtain ⟨kk, hkk⟩ : ∃ kk, (x : Int) % p = kk := ⟨_, rfl⟩
  rw [hry] at y0 yb hz
  rw [hrx] at x0 xb hz
  rw [hkk] at k0 kb hz
  clear hry hrx hkk
  have ht0 : t ≠ 0 := by omega
  have hp0 : p ≠ 0 := by omega
  rcases Bool.eq_false_or_eq_true (darkB n m xs (ry - q) (rx - q)) with h1 | h1
  · rw [if_pos h1] at hz
    have D1 := Lib.hid h1
    clear h1
    by_cases hk : p + b ≤ kk
    · rw [if_pos hk] at hz
      rcases Bool.eq_false_or_eq_true (darkB n m xs (ry - q) (rx - q + 1)) with h2 | h2
      · rw [if_pos h2] at hz
        subst hz
        have D2 := Lib.hid h2
        clear h2
        go_enter Try.func69, Try.ntmps69
        go_wp2_with fail
        go_quiet (fail)
        go_wp2_with fail
        refine (pressDark_val D1.out hn hm HL.out hN (HX.out.below (below_drewN (ba1 _ _) _))).mono ?_
        rintro e w1 ⟨rfl, hb⟩
        have hA := fun i => ((bcell hb).1 W.heap.size i (by simp)).trans (show (World.drewN (W.alloc _) nq).cell? ⟨W.heap.size, i, none⟩ = _ from boxF0 W #[.int .i64 y1, .int .i64 y2, .int .i64 p, .int .i64 t, .int .i64 q, .int .i64 b, .int .i64 d, .int .i64 l, .int .i64 (n : Int), .int .i64 (m : Int), .slice a xs.length cp] 109 i)
        have hs1 : W.heap.size < w1.heap.size := by have := hb.size; simp at this; omega
        have HB := Lib.hid (bt0 (below_drewN (ba1 W _) nq) hb (by simp))
        clear hb
        go_wp2_with fail
        refine (pressDark_val D2.out hn hm HL.out hN (HX.out.below HB.out)).mono ?_
        rintro e w2 ⟨rfl, hb⟩
        have hA2 := fun i => ((bcell hb).1 W.heap.size i hs1).trans (hA i)
        have hs2 : W.heap.size < w2.heap.size := Nat.lt_of_lt_of_le hs1 hb.size
        have HB2 := Lib.hid (bt0 HB.out hb (Nat.le_refl _))
        clear hb hA
        go_wp2_with fail
        go_ret
        exact ⟨rfl, HB2.out⟩
      · rw [if_neg (by rw [h2]; decide)] at hz
        subst hz
        have D2 := Lib.hid h2
        clear h2
        go_enter Try.func69, Try.ntmps69
        go_wp2_with fail
        go_quiet (fail)
        go_wp2_with fail
        refine (pressDark_val D1.out hn hm HL.out hN (HX.out.below (below_drewN (ba1 _ _) _))).mono ?_
        rintro e w1 ⟨rfl, hb⟩
        have hA := fun i => ((bcell hb).1 W.heap.size i (by simp)).trans (show (World.drewN (W.alloc _) nq).cell? ⟨W.heap.size, i, none⟩ = _ from boxF0 W #[.int .i64 y1, .int .i64 y2, .int .i64 p, .int .i64 t, .int .i64 q, .int .i64 b, .int .i64 d, .int .i64 l, .int .i64 (n : Int), .int .i64 (m : Int), .slice a xs.length cp] 109 i)
        have hs1 : W.heap.size < w1.heap.size := by have := hb.size; simp at this; omega
        have HB := Lib.hid (bt0 (below_drewN (ba1 W _) nq) hb (by simp))
        clear hb
        go_wp2_with fail
        refine (pressDark_val D2.out hn hm HL.out hN (HX.out.below HB.out)).mono ?_
        rintro e w2 ⟨rfl, hb⟩
        have hA2 := fun i => ((bcell hb).1 W.heap.size i hs1).trans (hA i)
        have hs2 : W.heap.size < w2.heap.size := Nat.lt_of_lt_of_le hs1 hb.size
        have HB2 := Lib.hid (bt0 HB.out hb (Nat.le_refl _))
        clear hb hA
        go_wp2_with fail
        go_ret
        exact ⟨rfl, HB2.out⟩
    · rw [if_neg hk, if_pos rfl] at hz
      subst hz
      go_enter Try.func69, Try.ntmps69
      go_wp2_with fail
      go_quiet (fail)
      go_wp2_with fail
      refine (pressDark_val D1.out hn hm HL.out hN (HX.out.below (below_drewN (ba1 _ _) _))).mono ?_
      rintro e w1 ⟨rfl, hb⟩
      have hA := fun i => ((bcell hb).1 W.heap.size i (by simp)).trans (show (World.drewN (W.alloc _) nq).cell? ⟨W.heap.size, i, none⟩ = _ from boxF0 W #[.int .i64 y1, .int .i64 y2, .int .i64 p, .int .i64 t, .int .i64 q, .int .i64 b, .int .i64 d, .int .i64 l, .int .i64 (n : Int), .int .i64 (m : Int), .slice a xs.length cp] 109 i)
      have hs1 : W.heap.size < w1.heap.size := by have := hb.size; simp at this; omega
      have HB := Lib.hid (bt0 (below_drewN (ba1 W _) nq) hb (by simp))
      clear hb
      go_wp2_with fail
      go_ret
      exact ⟨rfl, HB.out⟩
  · rw [if_neg (c := darkB n m xs (ry - q) (rx - q) = true) (by rw [h1]; decide)] at hz
    have D1 := Lib.hid h1
    clear h1
    by_cases hk : kk < b
    · rw [if_pos hk] at hz
      rcases Bool.eq_false_or_eq_true (darkB n m xs (ry - q) (rx - q - 1)) with h2 | h2
      · rw [if_pos h2] at hz
        subst hz
        have D2 := Lib.hid h2
        clear h2
        go_enter Try.func69, Try.ntmps69
        go_wp2_with fail
        go_quiet (fail)
        go_wp2_with fail
        refine (pressDark_val D1.out hn hm HL.out hN (HX.out.below (below_drewN (ba1 _ _) _))).mono ?_
        rintro e w1 ⟨rfl, hb⟩
        have hA := fun i => ((bcell hb).1 W.heap.size i (by simp)).trans (show (World.drewN (W.alloc _) nq).cell? ⟨W.heap.size, i, none⟩ = _ from boxF0 W #[.int .i64 y1, .int .i64 y2, .int .i64 p, .int .i64 t, .int .i64 q, .int .i64 b, .int .i64 d, .int .i64 l, .int .i64 (n : Int), .int .i64 (m : Int), .slice a xs.length cp] 109 i)
        have hs1 : W.heap.size < w1.heap.size := by have := hb.size; simp at this; omega
        have HB := Lib.hid (bt0 (below_drewN (ba1 W _) nq) hb (by simp))
        clear hb
        go_wp2_with fail
        refine (pressDark_val D2.out hn hm HL.out hN (HX.out.below HB.out)).mono ?_
        rintro e w2 ⟨rfl, hb⟩
        have hA2 := fun i => ((bcell hb).1 W.heap.size i hs1).trans (hA i)
        have hs2 : W.heap.size < w2.heap.size := Nat.lt_of_lt_of_le hs1 hb.size
        have HB2 := Lib.hid (bt0 HB.out hb (Nat.le_refl _))
        clear hb hA
        go_wp2_with fail
        go_ret
        exact ⟨rfl, HB2.out⟩
      · rw [if_neg (by rw [h2]; decide)] at hz
        subst hz
        have D2 := Lib.hid h2
        clear h2
        go_enter Try.func69, Try.ntmps69
        go_wp2_with fail
        go_quiet (fail)
        go_wp2_with fail
        refine (pressDark_val D1.out hn hm HL.out hN (HX.out.below (below_drewN (ba1 _ _) _))).mono ?_
        rintro e w1 ⟨rfl, hb⟩
        have hA := fun i => ((bcell hb).1 W.heap.size i (by simp)).trans (show (World.drewN (W.alloc _) nq).cell? ⟨W.heap.size, i, none⟩ = _ from boxF0 W #[.int .i64 y1, .int .i64 y2, .int .i64 p, .int .i64 t, .int .i64 q, .int .i64 b, .int .i64 d, .int .i64 l, .int .i64 (n : Int), .int .i64 (m : Int), .slice a xs.length cp] 109 i)
        have hs1 : W.heap.size < w1.heap.size := by have := hb.size; simp at this; omega
        have HB := Lib.hid (bt0 (below_drewN (ba1 W _) nq) hb (by simp))
        clear hb
        go_wp2_with fail
        refine (pressDark_val D2.out hn hm HL.out hN (HX.out.below HB.out)).mono ?_
        rintro e w2 ⟨rfl, hb⟩
        have hA2 := fun i => ((bcell hb).1 W.heap.size i hs1).trans (hA i)
        have hs2 : W.heap.size < w2.heap.size := Nat.lt_of_lt_of_le hs1 hb.size
        have HB2 := Lib.hid (bt0 HB.out hb (Nat.le_refl _))
        clear hb hA
        go_wp2_with fail
        go_ret
        exact ⟨rfl, HB2.out⟩
    · rw [if_neg hk, if_neg (by decide)] at hz
      subst hz
      go_enter Try.func69, Try.ntmps69
      go_wp2_with fail
      go_quiet (fail)
      go_wp2_with fail
      refine (pressDark_val D1.out hn hm HL.out hN (HX.out.below (below_drewN (ba1 _ _) _))).mono ?_
      rintro e w1 ⟨rfl, hb⟩
      have hA := fun i => ((bcell hb).1 W.heap.size i (by simp)).trans (show (World.drewN (W.alloc _) nq).cell? ⟨W.heap.size, i, none⟩ = _ from boxF0 W #[.int .i64 y1, .int .i64 y2, .int .i64 p, .int .i64 t, .int .i64 q, .int .i64 b, .int .i64 d, .int .i64 l, .int .i64 (n : Int), .int .i64 (m : Int), .slice a xs.length cp] 109 i)
      have hs1 : W.heap.size < w1.heap.size := by have := hb.size; simp at this; omega
      have HB := Lib.hid (bt0 (below_drewN (ba1 W _) nq) hb (by simp))
      clear hb
      go_wp2_with fail
      go_ret
      exact ⟨rfl, HB.out⟩

end Go.Proofs.Ythnjfdhijpfekaa
