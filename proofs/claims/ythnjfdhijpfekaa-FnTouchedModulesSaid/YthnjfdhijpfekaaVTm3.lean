import Derived.Test.YthnjfdhijpfekaaVTm2
namespace Go.Proofs.Ythnjfdhijpfekaa
open Go.RowKit

theorem size_le {n m A B : Nat} {p t q : Int} (h1 : psz n q t = A) (h2 : psz m q p = B) (hq : 0 ≤ q ∧ q ≤ 16) (ht : 1 ≤ t ∧ t ≤ 12) (hp : 1 ≤ p ∧ p ≤ 12) (h : A * B ≤ 40000) : n * m ≤ 40000 := by
  have e1 : (n : Int) ≤ psz n q t := by
    unfold psz
    have : ((n : Int) + 2 * q) * 1 ≤ ((n : Int) + 2 * q) * t := Int.mul_le_mul_of_nonneg_left ht.1 (by omega)
    omega
  have e2 : (m : Int) ≤ psz m q p := by
    unfold psz
    have : ((m : Int) + 2 * q) * 1 ≤ ((m : Int) + 2 * q) * p := Int.mul_le_mul_of_nonneg_left hp.1 (by omega)
    omega
  rw [h1] at e1
  rw [h2] at e2
  exact Nat.le_trans (Nat.mul_le_mul (by omega) (by omega)) h

set_option maxRecDepth 100000 in
set_option maxHeartbeats 1000000 in
theorem touchedModules_val {ds : List Dm} {a : Option Addr} {c : Nat} {n m p t q b d l : Int} {ps : List (Nat × Nat)} {cd : Int} {W : World} (h : TmIs ds n m p t q b d l ps cd) (hds : DmsAt W a ds) (ld : ds.length ≤ 1099511627776) :
    Calls Try.prog 29 #[.slice a ds.length c, .agg #[.int .i64 p, .int .i64 t, .int .i64 q, .int .i64 b, .int .i64 d, .int .i64 l], .int .i64 n, .int .i64 m] W (RetPC W ps cd) := by
  cases h with
  | size x y z hp hz =>
    have HPS := Lib.hid hp
    have hzb : (cd != 0) = true := by simp [hz]
    clear hp hds
    go_enter Try.func29, Try.ntmps29
    go_wp2_with fail
    refine (printSize_val HPS.out).mono ?_
    rintro e w1 ⟨rfl, hb⟩
    have HB := Lib.hid (bt1 hb)
    clear hb
    go_wp2_with fail
    go_ret2
    exact retPC_nil HB.out
  | many x y hp h20 =>
    have HPS := Lib.hid hp
    have h20' : (20 : Int) < (ds.length : Int) := by omega
    clear hp hds
    go_enter Try.func29, Try.ntmps29
    go_wp2_with fail
    refine (printSize_val HPS.out).mono ?_
    rintro e w1 ⟨rfl, hb⟩
    have HB := Lib.hid (bt1 hb)
    clear hb
    go_wp2_with fail
    go_ret2
    exact retPC_nil HB.out
  | state x y hp h20 hl =>
    obtain ⟨q1, q2, q3, q4, rfl, rfl⟩ := psIs_zero hp
    rw [inB_iff] at q2 q3
    obtain ⟨n, rfl⟩ := Int.eq_ofNat_of_zero_le (show 0 ≤ n by omega)
    obtain ⟨m, rfl⟩ := Int.eq_ofNat_of_zero_le (show 0 ≤ m by omega)
    obtain ⟨A, B, e1, e2, s1, s2, s3, s4, s5, _⟩ := size_nat q4
    obtain ⟨b1, b2, b3, _⟩ := pr_bounds q1
    exact touchedModules_fit q1 (by omega) (by omega) hp (by rw [e1]; omega) (by rw [e2]; omega) (size_le e1 e2 b3 b2 b1 s5) h20 hds (fun h => by rw [hl] at h; cases h) (fun _ => ⟨rfl, rfl⟩)
  | fit x y hp h20 hl =>
    obtain ⟨q1, q2, q3, q4, rfl, rfl⟩ := psIs_zero hp
    rw [inB_iff] at q2 q3
    obtain ⟨n, rfl⟩ := Int.eq_ofNat_of_zero_le (show 0 ≤ n by omega)
    obtain ⟨m, rfl⟩ := Int.eq_ofNat_of_zero_le (show 0 ≤ m by omega)
    obtain ⟨A, B, e1, e2, s1, s2, s3, s4, s5, _⟩ := size_nat q4
    obtain ⟨b1, b2, b3, _⟩ := pr_bounds q1
    exact touchedModules_fit q1 (by omega) (by omega) hp (by rw [e1]; omega) (by rw [e2]; omega) (size_le e1 e2 b3 b2 b1 s5) h20 hds (fun _ => ⟨rfl, rfl⟩) (fun h => by rw [hl] at h; cases h)

end Go.Proofs.Ythnjfdhijpfekaa
