import Derived.Test.YthnjfdhijpfekaaVPrn
import Derived.Test.YthnjfdhijpfekaaM1
namespace Go.Proofs.Ythnjfdhijpfekaa
open Go.RowKit

set_option maxRecDepth 100000 in
set_option maxHeartbeats 1000000 in
theorem printSize_val {n m p t q b d l x y z : Int} {W : World} (h : PsIs n m p t q b d l x y z) :
    Calls Try.prog 60 #[.int .i64 n, .int .i64 m, .agg #[.int .i64 p, .int .i64 t, .int .i64 q, .int .i64 b, .int .i64 d, .int .i64 l]] W fun e W' => e = .returned (.tuple #[.int .i64 x, .int .i64 y, .int .i64 z]) ∧ Below W.heap.size W W' := by
  cases h with
  | bad h1 =>
    have H1 := Lib.hid h1
    clear h1
    go_enter Try.func60, Try.ntmps60
    go_wp2_with fail
    refine (isPrint_val H1.out).mono ?_
    rintro e w1 ⟨rfl, hb⟩
    have HB := Lib.hid (bt1 hb)
    clear hb
    go_wp2_with fail
    exact bodyPost_ret (v := .tuple #[.int .i64 0, .int .i64 0, .int .i64 1]) (by simp [results, Try.results60, go_sem]) rfl ⟨rfl, HB.out⟩
  | far h1 h2 =>
    have H1 := Lib.hid h1
    clear h1
    rcases Bool.eq_false_or_eq_true (inB n 1 400) with h3 | h3
    · have h4 : inB m 1 400 = false := by rw [h3] at h2; simpa using h2
      have H3 := Lib.hid h3
      have H4 := Lib.hid h4
      clear h2 h3 h4
      go_enter Try.func60, Try.ntmps60
      go_wp2_with fail
      refine (isPrint_val H1.out).mono ?_
      rintro e w1 ⟨rfl, hb⟩
      have HB := Lib.hid (bt1 hb)
      clear hb
      go_wp2_with fail
      refine (inRange_val H3.out).mono ?_
      rintro e w2 ⟨rfl, rfl⟩
      go_wp2_with fail
      refine (inRange_val H4.out).mono ?_
      rintro e w2 ⟨rfl, rfl⟩
      go_wp2_with fail
      exact bodyPost_ret (v := .tuple #[.int .i64 0, .int .i64 0, .int .i64 2]) (by simp [results, Try.results60, go_sem]) rfl ⟨rfl, HB.out⟩
    · have H3 := Lib.hid h3
      clear h2 h3
      go_enter Try.func60, Try.ntmps60
      go_wp2_with fail
      refine (isPrint_val H1.out).mono ?_
      rintro e w1 ⟨rfl, hb⟩
      have HB := Lib.hid (bt1 hb)
      clear hb
      go_wp2_with fail
      refine (inRange_val H3.out).mono ?_
      rintro e w2 ⟨rfl, rfl⟩
      go_wp2_with fail
      exact bodyPost_ret (v := .tuple #[.int .i64 0, .int .i64 0, .int .i64 2]) (by simp [results, Try.results60, go_sem]) rfl ⟨rfl, HB.out⟩
  | big h1 h2 h3 h4 =>
    have hn := inB_iff.1 h2
    have hm := inB_iff.1 h3
    have H1 := Lib.hid h1
    have H2 := Lib.hid h2
    have H3 := Lib.hid h3
    have H4 := Lib.hid h4
    clear h1 h2 h3 h4
    go_enter Try.func60, Try.ntmps60
    go_wp2_with fail
    refine (isPrint_val H1.out).mono ?_
    rintro e w1 ⟨rfl, hb⟩
    have hA := box1 hb
    have hs := hb.size
    rw [World.size_alloc] at hs
    have HB := Lib.hid (bt1 hb)
    clear hb
    go_wp2_with fail
    refine (inRange_val H2.out).mono ?_
    rintro e w2 ⟨rfl, rfl⟩
    go_wp2_with fail
    refine (inRange_val H3.out).mono ?_
    rintro e w2 ⟨rfl, rfl⟩
    go_wp2_with fail
    refine (sizeOf_any n m p t q b d l _ hn hm H1.out).mono ?_
    rintro e w2 ⟨rfl, hb⟩
    have HB2 := Lib.hid ((bt0 HB.out hb (Nat.le_refl _)))
    have hs2 := hb.size
    clear hb
    go_wp2_with fail
    refine (fits_val H4.out).mono ?_
    rintro e w3 ⟨rfl, hb⟩
    have HB3 := Lib.hid ((bt0 HB2.out (bt1 hb) (Nat.le_refl _)))
    clear hb
    go_wp2_with fail
    exact bodyPost_ret (v := .tuple #[.int .i64 0, .int .i64 0, .int .i64 3]) (by simp [results, Try.results60, go_sem]) rfl ⟨rfl, HB3.out⟩
  | fit h1 h2 h3 h4 =>
    have hn := inB_iff.1 h2
    have hm := inB_iff.1 h3
    have H1 := Lib.hid h1
    have H2 := Lib.hid h2
    have H3 := Lib.hid h3
    have H4 := Lib.hid h4
    clear h1 h2 h3 h4
    go_enter Try.func60, Try.ntmps60
    go_wp2_with fail
    refine (isPrint_val H1.out).mono ?_
    rintro e w1 ⟨rfl, hb⟩
    have hA := box1 hb
    have hs := hb.size
    rw [World.size_alloc] at hs
    have HB := Lib.hid (bt1 hb)
    clear hb
    go_wp2_with fail
    refine (inRange_val H2.out).mono ?_
    rintro e w2 ⟨rfl, rfl⟩
    go_wp2_with fail
    refine (inRange_val H3.out).mono ?_
    rintro e w2 ⟨rfl, rfl⟩
    go_wp2_with fail
    refine (sizeOf_any n m p t q b d l _ hn hm H1.out).mono ?_
    rintro e w2 ⟨rfl, hb⟩
    have HB2 := Lib.hid ((bt0 HB.out hb (Nat.le_refl _)))
    have hs2 := hb.size
    clear hb
    go_wp2_with fail
    refine (fits_val H4.out).mono ?_
    rintro e w3 ⟨rfl, hb⟩
    have hC := box1 hb
    have hs3 : w2.heap.size < w3.heap.size := by have := hb.size; rw [World.size_alloc] at this; omega
    have HB3 := Lib.hid ((bt0 HB2.out (bt1 hb) (Nat.le_refl _)))
    clear hb hA
    go_wp2_with fail
    go_quiet (fail)
    go_wp2_with fail
    exact bodyPost_ret (v := .tuple #[.int .i64 (psz n q t), .int .i64 (psz m q p), .int .i64 0]) (by simp [results, Try.results60, go_sem]) rfl ⟨rfl, below_drewN HB3.out _⟩

end Go.Proofs.Ythnjfdhijpfekaa
