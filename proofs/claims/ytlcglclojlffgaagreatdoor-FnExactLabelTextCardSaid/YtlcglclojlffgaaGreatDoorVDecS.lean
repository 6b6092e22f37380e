import Derived.Test.YtlcglclojlffgaaGreatDoorVDec
import Derived.Deep.RegionWith
import Derived.Laws.BytesArg
import Derived.IntWalk
namespace Go.Proofs.YtlcglclojlffgaaGreatDoor
open Go.RowKit

theorem itoa_small {n : Int} (h0 : 0 ≤ n) (h : n < 10) : Lib.itoa n = [UInt8.ofNat (48 + n).toNat] := by
  obtain ⟨u, rfl⟩ := Int.eq_ofNat_of_zero_le h0
  have e : (48 + (u : Int)).toNat = 48 + u := by omega
  rw [Lib.itoa_nonneg, Lib.decDigits, dif_pos (by omega), e]
theorem itoa_big {n : Int} (h : 10 ≤ n) : Lib.itoa n = Lib.itoa (n / 10) ++ [UInt8.ofNat (48 + n % 10).toNat] := by
  obtain ⟨u, rfl⟩ := Int.eq_ofNat_of_zero_le (show 0 ≤ n by omega)
  have e1 : ((u : Int) / 10) = ((u / 10 : Nat) : Int) := by omega
  have e2 : (48 + (u : Int) % 10).toNat = 48 + u % 10 := by omega
  rw [e1, e2, Lib.itoa_nonneg, Lib.itoa_nonneg, Lib.decDigits, dif_neg (by omega)]

/-- a string of one byte -/
def oneB (z : Int) : ByteArray := ⟨#[UInt8.ofNat z.toNat]⟩

theorem conv_one (w : World) (b : Nat) (z : Int) (hc : w.cell? ⟨b, 0, none⟩ = some (.int .u8 z)) :
    (convert 33 9 (.slice (some ⟨b, 0, none⟩) 1 1)).run Tryz.prog w = .ok (.string (oneB z)) w := by
  have := run_convert_bytes_arg (P := Tryz.prog) w 33 5 Tryz.underlying33 Tryz.underlying5 b 0 1 1 [z] rfl (fun i hi => by
      obtain rfl : i = 0 := by omega
      simpa using hc) 9 Tryz.underlying9
  simpa [strOfNums, oneB] using this
theorem conv_new (w : World) (z : Int) :
    (convert 33 9 (.slice (some ⟨w.heap.size, 0, none⟩) 1 1)).run Tryz.prog (w.alloc (.cells #[.int .u8 z] 5)) = .ok (.string (oneB z)) (w.alloc (.cells #[.int .u8 z] 5)) :=
  conv_one _ _ _ (by simp)
theorem conv_drew (w : World) (z : Int) :
    (convert 33 9 (.slice (some ⟨w.heap.size, 0, none⟩) 1 1)).run Tryz.prog (w.alloc (.cells #[.int .u8 z] 5)).drew = .ok (.string (oneB z)) (w.alloc (.cells #[.int .u8 z] 5)).drew :=
  conv_one _ _ _ (by simp)

theorem decB_small {n : Int} (h0 : 0 ≤ n) (h : n < 10) : decB n = oneB (48 + n) := by
  unfold decB oneB; rw [itoa_small h0 h]
theorem decB_big {n : Int} (h : 10 ≤ n) : decB n = decB (n / 10) ++ oneB (48 + n % 10) := by
  have e : decB n = ⟨(Lib.itoa n).toArray⟩ := rfl
  rw [e, itoa_big h]
  apply ByteArray.ext
  simp [decB, oneB]

set_option maxHeartbeats 400000 in
theorem l01Dec_any (k : Nat) : ∀ (n : Int) (w : World), n ≤ k → 0 ≤ n → n ≤ 9223372036854775807 →
    Calls Tryz.prog 45 #[.int .i64 n] w fun e w' => e = .returned (.string (decB n)) ∧ Below w.heap.size w w' := by
  induction k with
  | zero =>
    intro n w hk h0 h1
    have hn : n < 10 := by omega
    have hcv := conv_new w
    go_enter Tryz.func45, Tryz.ntmps45
    go_wp2_with fail
    go_ret
    exact ⟨ret_str (decB_small h0 hn).symm, (Below.refl _ _).alloc (Nat.le_refl _) _⟩
  | succ k ih =>
    intro n w hk h0 h1
    by_cases hn : n < 10
    · have hcv := conv_new w
      go_enter Tryz.func45, Tryz.ntmps45
      go_wp2_with fail
      go_ret
      exact ⟨ret_str (decB_small h0 hn).symm, (Below.refl _ _).alloc (Nat.le_refl _) _⟩
    · have e1 : IntKind.i64.wrap (n.tdiv 10) = n / 10 := by rw [Int.tdiv_eq_ediv_of_nonneg h0]; exact IntWalk.i64_in _ (by omega)
      have e2 : n.tmod 10 = n % 10 := Int.tmod_eq_emod_of_nonneg h0
      have e3 : IntKind.i64.wrap (48 + n % 10) = 48 + n % 10 := IntWalk.i64_in _ (by omega)
      have e4 : IntKind.u8.wrap (48 + n % 10) = 48 + n % 10 := IntWalk.u8_in _ (by omega)
      have hs1 : (decB (n / 10)).size ≤ 21 := by rw [decB_size]; exact Lib.itoa_length_le _ (by omega) (by omega)
      have hs2 : (oneB (48 + n % 10)).size ≤ 1 := by simp [oneB, ByteArray.size]
      have hs3 : (decB (n / 10)).size + (oneB (48 + n % 10)).size ≤ 9223372036854775807 := by omega
      clear hs1 hs2
      have hcv := conv_new w
      have hcd := conv_drew w
      go_enter Tryz.func45, Tryz.ntmps45
      go_wp2_with fail
      go_region_with (go_at_call 45; refine (ih _ _ (by omega) (by omega) (by omega)).mono ?_; rintro e w' ⟨rfl, hb⟩; have hcv' := conv_new w'; obtain ⟨hc, hf⟩ := bcell hb; have hko := conv_one w' w.heap.size (48 + n % 10))
      all_goals
        go_wp2
        go_ret
        refine ⟨ret_str (decB_big (by omega)).symm, ?_⟩
        first | exact ((Below.refl _ _).drew.trans hb).alloc hb.size _ | exact (((Below.refl _ _).alloc (Nat.le_refl _) _).drew).trans (hb.mono (by simp))

end Go.Proofs.YtlcglclojlffgaaGreatDoor
