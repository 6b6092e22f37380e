import Derived.Test.YthnjfdhijpfekaaVTm4
namespace Go.Proofs.Ythnjfdhijpfekaa
open Go.RowKit

set_option maxRecDepth 100000 in
set_option maxHeartbeats 1000000 in
theorem specTouchedModules_val {ds : List Dm} {a : Option Addr} {c : Nat} {n m p t q b d l : Int} {ps : List (Nat × Nat)} {cd : Int} {W : World} (h : TmIs ds n m p t q b d l ps cd) (hds : DmsAt W a ds) (ld : ds.length ≤ 1099511627776) :
    Calls Try.prog 30 #[.slice a ds.length c, .agg #[.int .i64 p, .int .i64 t, .int .i64 q, .int .i64 b, .int .i64 d, .int .i64 l], .int .i64 n, .int .i64 m] W (RetPC W ps cd) := by
  cases h with
  | size x y z hp hz =>
    have HPS := Lib.hid hp
    have hzb : (cd != 0) = true := by simp [hz]
    clear hp hds
    go_enter Try.func30, Try.ntmps30
    go_wp2_with fail
    refine (specPrintSize_val HPS.out).mono ?_
    rintro e w1 ⟨rfl, hb⟩
    have HB := Lib.hid (bt1 hb)
    clear hb
    go_wp2_with fail
    go_ret2
    exact retPC_nil HB.out
  | many x y hp h20 =>
    have HPS := Lib.hid hp
    have h20' : (20 : Int) < (ds.length : Int) := by omega
    clear hp hds
    go_enter Try.func30, Try.ntmps30
    go_wp2_with fail
    refine (specPrintSize_val HPS.out).mono ?_
    rintro e w1 ⟨rfl, hb⟩
    have HB := Lib.hid (bt1 hb)
    clear hb
    go_wp2_with fail
    go_ret2
    exact retPC_nil HB.out
  | state x y hp h20 hl =>
    obtain ⟨q1, q2, q3, q4, rfl, rfl⟩ := psIs_zero hp
    rw [inB_iff] at q2 q3
    obtain ⟨n, rfl⟩ := Int.eq_ofNat_of_zero_le (show 0 ≤ n by omega)
    obtain ⟨m, rfl⟩ := Int.eq_ofNat_of_zero_le (show 0 ≤ m by omega)
    obtain ⟨A, B, e1, e2, s1, s2, s3, s4, s5, _⟩ := size_nat q4
    obtain ⟨b1, b2, b3, _⟩ := pr_bounds q1
    exact specTouchedModules_fit q1 (by omega) (by omega) hp (by rw [e1]; omega) (by rw [e2]; omega) (size_le e1 e2 b3 b2 b1 s5) h20 hds (fun h => by rw [hl] at h; cases h) (fun _ => ⟨rfl, rfl⟩)
  | fit x y hp h20 hl =>
    obtain ⟨q1, q2, q3, q4, rfl, rfl⟩ := psIs_zero hp
    rw [inB_iff] at q2 q3
    obtain ⟨n, rfl⟩ := Int.eq_ofNat_of_zero_le (show 0 ≤ n by omega)
    obtain ⟨m, rfl⟩ := Int.eq_ofNat_of_zero_le (show 0 ≤ m by omega)
    obtain ⟨A, B, e1, e2, s1, s2, s3, s4, s5, _⟩ := size_nat q4
    obtain ⟨b1, b2, b3, _⟩ := pr_bounds q1
    exact specTouchedModules_fit q1 (by omega) (by omega) hp (by rw [e1]; omega) (by rw [e2]; omega) (size_le e1 e2 b3 b2 b1 s5) h20 hds (fun _ => ⟨rfl, rfl⟩) (fun h => by rw [hl] at h; cases h)

end Go.Proofs.Ythnjfdhijpfekaa
