import Derived.Test.YthnjfdhijpfekaaVPrn2
import Derived.Test.YthnjfdhijpfekaaM0
namespace Go.Proofs.Ythnjfdhijpfekaa
open Go.RowKit

/-! Grids (cells in rows, as rasters lie). -/
set_option maxRecDepth 100000 in
set_option maxHeartbeats 1000000 in
theorem gridHas_val {n m r c : Int} {v : Value} {W : World} {b : Bool} (h : (inB r 0 (n - 1) && inB c 0 (m - 1)) = b) (hn : 1 ≤ n ∧ n ≤ 40000) (hm : 1 ≤ m ∧ m ≤ 40000) {a : Option Addr} {l cp : Nat} (hv : v = .slice a l cp) :
    Calls Try.prog 86 #[.agg #[.int .i64 n, .int .i64 m, v], .agg #[.int .i64 r, .int .i64 c]] W fun e W' => e = .returned (.bool b) ∧ Below W.heap.size W W' := by
  subst hv
  have HE := Lib.hid h
  clear h
  rw [← HE.out]
  rcases Bool.eq_false_or_eq_true (inB r 0 (n - 1)) with h1 | h1
  · rcases Bool.eq_false_or_eq_true (inB c 0 (m - 1)) with h2 | h2
    · rw [h1, h2]
      have H1 := Lib.hid h1
      have H2 := Lib.hid h2
      clear h1 h2
      go_enter Try.func86, Try.ntmps86
      go_wp2_with fail
      refine (inRange_val H1.out).mono ?_
      rintro e w1 ⟨rfl, rfl⟩
      go_wp2_with fail
      refine (inRange_val H2.out).mono ?_
      rintro e w1 ⟨rfl, rfl⟩
      go_wp2_with fail
      go_ret
      exact ⟨rfl, ba2 _ _ _⟩
    · rw [h1, h2]
      have H1 := Lib.hid h1
      have H2 := Lib.hid h2
      clear h1 h2
      go_enter Try.func86, Try.ntmps86
      go_wp2_with fail
      refine (inRange_val H1.out).mono ?_
      rintro e w1 ⟨rfl, rfl⟩
      go_wp2_with fail
      refine (inRange_val H2.out).mono ?_
      rintro e w1 ⟨rfl, rfl⟩
      go_wp2_with fail
      go_ret
      exact ⟨rfl, ba2 _ _ _⟩
  · rw [h1]
    have H1 := Lib.hid h1
    clear h1
    go_enter Try.func86, Try.ntmps86
    go_wp2_with fail
    refine (inRange_val H1.out).mono ?_
    rintro e w1 ⟨rfl, rfl⟩
    go_wp2_with fail
    go_ret
    exact ⟨rfl, ba2 _ _ _⟩

set_option maxRecDepth 100000 in
set_option maxHeartbeats 1000000 in
theorem gridAt_val {n : Int} {m r c i : Nat} {z : Int} {a : Option Addr} {xs : List Int} {cp : Nat} {W : World} (hi : r * m + c = i) (hz : xs[i]? = some z) (hx : IntsAt W a xs) (hl : xs.length ≤ 1099511627776) :
    Calls Try.prog 87 #[.agg #[.int .i64 n, .int .i64 (m : Int), .slice a xs.length cp], .agg #[.int .i64 (r : Int), .int .i64 (c : Int)]] W fun e W' => e = .returned (.int .i64 z) ∧ Below W.heap.size W W' := by
  have hlt : i < xs.length := (List.getElem?_eq_some_iff.1 hz).1
  obtain ⟨b, o, z', rfl, hz', hb, hcl⟩ := hx.at hlt
  obtain rfl : z = z' := Option.some.inj (hz.symm.trans hz')
  obtain ⟨q, hq⟩ : ∃ q, r * m = q := ⟨_, rfl⟩
  have hrm : (r : Int) * (m : Int) = (q : Int) := by rw [← hq]; simp
  have hqi : (q : Int) + (c : Int) = (i : Int) := by omega
  have hil : (i : Int) < (xs.length : Int) := by omega
  have w1 : wrap64 (q : Int) = q := IntWalk.wrap64_in _ (by omega)
  have w2 : wrap64 (i : Int) = i := IntWalk.wrap64_in _ (by omega)
  have hcw : ((W.alloc (.cells #[.int .i64 n, .int .i64 (m : Int), .slice (some ⟨b, o, none⟩) xs.length cp] 68 (0, 0))).alloc (.cells #[.int .i64 (r : Int), .int .i64 (c : Int)] 61 (0, 0))).cell? ⟨b, o + i, none⟩ = some (.int .i64 z) := by
    rw [(ba2 W _ _).cell (p := ⟨b, o + i, none⟩) hb]; exact hcl
  clear hz hz' hx hcl hq hi
  go_enter Try.func87, Try.ntmps87
  go_wp2_with fail
  go_ret
  exact ⟨rfl, ba2 _ _ _⟩

/-- is a module dark -/
def darkB (n m : Nat) (xs : List Int) (r c : Int) : Bool := inB r 0 ((n : Int) - 1) && inB c 0 ((m : Int) - 1) && (xs.getD (r.toNat * m + c.toNat) 0 == 1)

set_option maxRecDepth 100000 in
set_option maxHeartbeats 1000000 in
theorem pressDark_val {n m : Nat} {r c : Int} {bb : Bool} {xs : List Int} {a : Option Addr} {cp : Nat} {y1 y2 p t q b d l : Int} {W : World} (h : darkB n m xs r c = bb) (hn : 1 ≤ n ∧ n ≤ 40000) (hm : 1 ≤ m ∧ m ≤ 40000) (hl : xs.length = n * m) (hN : n * m ≤ 40000) (hx : IntsAt W a xs) :
    Calls Try.prog 83 #[.agg #[.int .i64 y1, .int .i64 y2, .int .i64 p, .int .i64 t, .int .i64 q, .int .i64 b, .int .i64 d, .int .i64 l, .int .i64 (n : Int), .int .i64 (m : Int), .slice a xs.length cp], .int .i64 r, .int .i64 c] W fun e W' => e = .returned (.bool bb) ∧ Below W.heap.size W W' := by
  subst h
  have HX := Lib.hid hx
  clear hx
  rcases Bool.eq_false_or_eq_true (inB r 0 ((n : Int) - 1) && inB c 0 ((m : Int) - 1)) with h1 | h1
  · have h2 := h1
    simp only [Bool.and_eq_true, inB_iff] at h2
    obtain ⟨r, rfl⟩ := Int.eq_ofNat_of_zero_le (show 0 ≤ r by omega)
    obtain ⟨c, rfl⟩ := Int.eq_ofNat_of_zero_le (show 0 ≤ c by omega)
    have hi : r * m + c < xs.length := by
      rw [hl]
      have h3 : r * m + m = (r + 1) * m := by rw [Nat.add_mul]; omega
      have h4 : (r + 1) * m ≤ n * m := Nat.mul_le_mul_right m (by omega)
      omega
    obtain ⟨z, hz⟩ : ∃ z, xs[r * m + c]? = some z := ⟨_, List.getElem?_eq_getElem hi⟩
    have HE : Hid (darkB n m xs r c = (z == 1)) := Lib.hid (by rw [darkB, h1, Int.toNat_natCast, Int.toNat_natCast, List.getD_eq_getElem?_getD, hz]; rfl)
    rw [HE.out]
    have H1 := Lib.hid h1
    have HZ := Lib.hid hz
    have HL : Hid (xs.length ≤ 1099511627776) := Lib.hid (by omega)
    clear h1 h2 hz hi hl
    go_enter Try.func83, Try.ntmps83
    go_wp2_with fail
    refine (gridHas_val H1.out (by omega) (by omega) rfl).mono ?_
    rintro e w1 ⟨rfl, hb⟩
    obtain ⟨hA, hB, _⟩ := box2s hb
    have hs1 : W.heap.size + 1 < w1.heap.size := by have := hb.size; simp at this; omega
    have HB := Lib.hid (bt2 hb)
    clear hb
    go_wp2_with fail
    refine (gridAt_val rfl HZ.out (HX.out.below HB.out) HL.out).mono ?_
    rintro e w2 ⟨rfl, hb⟩
    have HB2 := Lib.hid (bt0 HB.out hb (Nat.le_refl _))
    clear hb hA hB
    go_wp2_with fail
    go_ret
    exact ⟨rfl, HB2.out⟩
  · have HE : Hid (darkB n m xs r c = false) := Lib.hid (by rw [darkB, h1]; rfl)
    rw [HE.out]
    have H1 := Lib.hid h1
    clear h1 hl
    go_enter Try.func83, Try.ntmps83
    go_wp2_with fail
    refine (gridHas_val H1.out (by omega) (by omega) rfl).mono ?_
    rintro e w1 ⟨rfl, hb⟩
    have HB := Lib.hid (bt2 hb)
    clear hb
    go_wp2_with fail
    go_ret
    exact ⟨rfl, HB.out⟩

end Go.Proofs.Ythnjfdhijpfekaa
