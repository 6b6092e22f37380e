import Derived.Test.YtpilkgcghlfdmaaGreatDoorM2
namespace Go.Proofs.YtpilkgcghlfdmaaGreatDoor
open Go.RowKit

set_option maxHeartbeats 600000 in
theorem blotFine_any (k r c t w g : Int) (W : World) : Calls Tryz.prog 186 #[.agg #[.int .i64 k, .int .i64 r, .int .i64 c, .int .i64 t, .int .i64 w, .int .i64 g]] W fun e W' => e = .returned (.bool (inB r 0 400 && inB c 0 400 && inB t 0 400 && (w == 0))) ∧ Below W.heap.size W W' := by
  rcases four (inB r 0 400) (inB c 0 400) (inB t 0 400) ((w == 0)) with h1 | ⟨h1, h2⟩ | ⟨h1, h2, h3⟩ | ⟨h1, h2, h3, h4⟩ | ⟨h1, h2, h3, h4⟩
  · have e : (inB r 0 400 && inB c 0 400 && inB t 0 400 && (w == 0)) = false := by (rw [h1]; rfl)
    rw [e]
    clear e
    go_enter Tryz.func186, Tryz.ntmps186
    go_wp2_with fail
    refine (inRange_val h1).mono ?_
    rintro e w1 ⟨rfl, rfl⟩
    go_wp2_with fail
    go_ret
    exact ⟨rfl, ba1 _ _⟩
  · have e : (inB r 0 400 && inB c 0 400 && inB t 0 400 && (w == 0)) = false := by (rw [h1, h2]; rfl)
    rw [e]
    clear e
    go_enter Tryz.func186, Tryz.ntmps186
    go_wp2_with fail
    refine (inRange_val h1).mono ?_
    rintro e w1 ⟨rfl, rfl⟩
    go_wp2_with fail
    refine (inRange_val h2).mono ?_
    rintro e w1 ⟨rfl, rfl⟩
    go_wp2_with fail
    go_ret
    exact ⟨rfl, ba1 _ _⟩
  · have e : (inB r 0 400 && inB c 0 400 && inB t 0 400 && (w == 0)) = false := by (rw [h1, h2, h3]; rfl)
    rw [e]
    clear e
    go_enter Tryz.func186, Tryz.ntmps186
    go_wp2_with fail
    refine (inRange_val h1).mono ?_
    rintro e w1 ⟨rfl, rfl⟩
    go_wp2_with fail
    refine (inRange_val h2).mono ?_
    rintro e w1 ⟨rfl, rfl⟩
    go_wp2_with fail
    refine (inRange_val h3).mono ?_
    rintro e w1 ⟨rfl, rfl⟩
    go_wp2_with fail
    go_ret
    exact ⟨rfl, ba1 _ _⟩
  · have e : (inB r 0 400 && inB c 0 400 && inB t 0 400 && (w == 0)) = false := by (rw [h1, h2, h3, h4]; rfl)
    rw [e]
    clear e
    go_enter Tryz.func186, Tryz.ntmps186
    go_wp2_with fail
    refine (inRange_val h1).mono ?_
    rintro e w1 ⟨rfl, rfl⟩
    go_wp2_with fail
    refine (inRange_val h2).mono ?_
    rintro e w1 ⟨rfl, rfl⟩
    go_wp2_with fail
    refine (inRange_val h3).mono ?_
    rintro e w1 ⟨rfl, rfl⟩
    go_wp2_with fail
    go_ret
    exact ⟨rfl, ba1 _ _⟩
  · have e : (inB r 0 400 && inB c 0 400 && inB t 0 400 && (w == 0)) = true := by (rw [h1, h2, h3, h4]; rfl)
    rw [e]
    clear e
    go_enter Tryz.func186, Tryz.ntmps186
    go_wp2_with fail
    refine (inRange_val h1).mono ?_
    rintro e w1 ⟨rfl, rfl⟩
    go_wp2_with fail
    refine (inRange_val h2).mono ?_
    rintro e w1 ⟨rfl, rfl⟩
    go_wp2_with fail
    refine (inRange_val h3).mono ?_
    rintro e w1 ⟨rfl, rfl⟩
    go_wp2_with fail
    go_ret
    exact ⟨rfl, ba1 _ _⟩

set_option maxHeartbeats 600000 in
theorem scratchFine_any (k r c t w g : Int) (W : World) : Calls Tryz.prog 190 #[.agg #[.int .i64 k, .int .i64 r, .int .i64 c, .int .i64 t, .int .i64 w, .int .i64 g]] W fun e W' => e = .returned (.bool (inB r 0 400 && inB c 0 400 && inB t 1 400 && inB w 1 400)) ∧ Below W.heap.size W W' := by
  rcases four (inB r 0 400) (inB c 0 400) (inB t 1 400) (inB w 1 400) with h1 | ⟨h1, h2⟩ | ⟨h1, h2, h3⟩ | ⟨h1, h2, h3, h4⟩ | ⟨h1, h2, h3, h4⟩
  · have e : (inB r 0 400 && inB c 0 400 && inB t 1 400 && inB w 1 400) = false := by (rw [h1]; rfl)
    rw [e]
    clear e
    go_enter Tryz.func190, Tryz.ntmps190
    go_wp2_with fail
    refine (inRange_val h1).mono ?_
    rintro e w1 ⟨rfl, rfl⟩
    go_wp2_with fail
    go_ret
    exact ⟨rfl, ba1 _ _⟩
  · have e : (inB r 0 400 && inB c 0 400 && inB t 1 400 && inB w 1 400) = false := by (rw [h1, h2]; rfl)
    rw [e]
    clear e
    go_enter Tryz.func190, Tryz.ntmps190
    go_wp2_with fail
    refine (inRange_val h1).mono ?_
    rintro e w1 ⟨rfl, rfl⟩
    go_wp2_with fail
    refine (inRange_val h2).mono ?_
    rintro e w1 ⟨rfl, rfl⟩
    go_wp2_with fail
    go_ret
    exact ⟨rfl, ba1 _ _⟩
  · have e : (inB r 0 400 && inB c 0 400 && inB t 1 400 && inB w 1 400) = false := by (rw [h1, h2, h3]; rfl)
    rw [e]
    clear e
    go_enter Tryz.func190, Tryz.ntmps190
    go_wp2_with fail
    refine (inRange_val h1).mono ?_
    rintro e w1 ⟨rfl, rfl⟩
    go_wp2_with fail
    refine (inRange_val h2).mono ?_
    rintro e w1 ⟨rfl, rfl⟩
    go_wp2_with fail
    refine (inRange_val h3).mono ?_
    rintro e w1 ⟨rfl, rfl⟩
    go_wp2_with fail
    go_ret
    exact ⟨rfl, ba1 _ _⟩
  · have e : (inB r 0 400 && inB c 0 400 && inB t 1 400 && inB w 1 400) = false := by (rw [h1, h2, h3, h4]; rfl)
    rw [e]
    clear e
    go_enter Tryz.func190, Tryz.ntmps190
    go_wp2_with fail
    refine (inRange_val h1).mono ?_
    rintro e w1 ⟨rfl, rfl⟩
    go_wp2_with fail
    refine (inRange_val h2).mono ?_
    rintro e w1 ⟨rfl, rfl⟩
    go_wp2_with fail
    refine (inRange_val h3).mono ?_
    rintro e w1 ⟨rfl, rfl⟩
    go_wp2_with fail
    refine (inRange_val h4).mono ?_
    rintro e w1 ⟨rfl, rfl⟩
    go_wp2_with fail
    go_ret
    exact ⟨rfl, ba1 _ _⟩
  · have e : (inB r 0 400 && inB c 0 400 && inB t 1 400 && inB w 1 400) = true := by (rw [h1, h2, h3, h4]; rfl)
    rw [e]
    clear e
    go_enter Tryz.func190, Tryz.ntmps190
    go_wp2_with fail
    refine (inRange_val h1).mono ?_
    rintro e w1 ⟨rfl, rfl⟩
    go_wp2_with fail
    refine (inRange_val h2).mono ?_
    rintro e w1 ⟨rfl, rfl⟩
    go_wp2_with fail
    refine (inRange_val h3).mono ?_
    rintro e w1 ⟨rfl, rfl⟩
    go_wp2_with fail
    refine (inRange_val h4).mono ?_
    rintro e w1 ⟨rfl, rfl⟩
    go_wp2_with fail
    go_ret
    exact ⟨rfl, ba1 _ _⟩

set_option maxHeartbeats 600000 in
theorem skewFine_any (k r c t w g : Int) (W : World) : Calls Tryz.prog 194 #[.agg #[.int .i64 k, .int .i64 r, .int .i64 c, .int .i64 t, .int .i64 w, .int .i64 g]] W fun e W' => e = .returned (.bool ((r == 0) && (c == 0) && inB t 1 400 && inB w (-400) 400)) ∧ Below W.heap.size W W' := by
  rcases four ((r == 0)) ((c == 0)) (inB t 1 400) (inB w (-400) 400) with h1 | ⟨h1, h2⟩ | ⟨h1, h2, h3⟩ | ⟨h1, h2, h3, h4⟩ | ⟨h1, h2, h3, h4⟩
  · have e : ((r == 0) && (c == 0) && inB t 1 400 && inB w (-400) 400) = false := by (rw [h1]; rfl)
    rw [e]
    clear e
    go_enter Tryz.func194, Tryz.ntmps194
    go_wp2_with fail
    go_ret
    exact ⟨rfl, ba1 _ _⟩
  · have e : ((r == 0) && (c == 0) && inB t 1 400 && inB w (-400) 400) = false := by (rw [h1, h2]; rfl)
    rw [e]
    clear e
    go_enter Tryz.func194, Tryz.ntmps194
    go_wp2_with fail
    go_ret
    exact ⟨rfl, ba1 _ _⟩
  · have e : ((r == 0) && (c == 0) && inB t 1 400 && inB w (-400) 400) = false := by (rw [h1, h2, h3]; rfl)
    rw [e]
    clear e
    go_enter Tryz.func194, Tryz.ntmps194
    go_wp2_with fail
    refine (inRange_val h3).mono ?_
    rintro e w1 ⟨rfl, rfl⟩
    go_wp2_with fail
    go_ret
    exact ⟨rfl, ba1 _ _⟩
  · have e : ((r == 0) && (c == 0) && inB t 1 400 && inB w (-400) 400) = false := by (rw [h1, h2, h3, h4]; rfl)
    rw [e]
    clear e
    go_enter Tryz.func194, Tryz.ntmps194
    go_wp2_with fail
    refine (inRange_val h3).mono ?_
    rintro e w1 ⟨rfl, rfl⟩
    go_wp2_with fail
    refine (inRange_val h4).mono ?_
    rintro e w1 ⟨rfl, rfl⟩
    go_wp2_with fail
    go_ret
    exact ⟨rfl, ba1 _ _⟩
  · have e : ((r == 0) && (c == 0) && inB t 1 400 && inB w (-400) 400) = true := by (rw [h1, h2, h3, h4]; rfl)
    rw [e]
    clear e
    go_enter Tryz.func194, Tryz.ntmps194
    go_wp2_with fail
    refine (inRange_val h3).mono ?_
    rintro e w1 ⟨rfl, rfl⟩
    go_wp2_with fail
    refine (inRange_val h4).mono ?_
    rintro e w1 ⟨rfl, rfl⟩
    go_wp2_with fail
    go_ret
    exact ⟨rfl, ba1 _ _⟩

set_option maxHeartbeats 600000 in
theorem noiseFine_any (k r c t w g : Int) (W : World) : Calls Tryz.prog 198 #[.agg #[.int .i64 k, .int .i64 r, .int .i64 c, .int .i64 t, .int .i64 w, .int .i64 g]] W fun e W' => e = .returned (.bool (inB r 0 400 && inB t 0 400 && (c == 0) && (w == 0))) ∧ Below W.heap.size W W' := by
  rcases four (inB r 0 400) (inB t 0 400) ((c == 0)) ((w == 0)) with h1 | ⟨h1, h2⟩ | ⟨h1, h2, h3⟩ | ⟨h1, h2, h3, h4⟩ | ⟨h1, h2, h3, h4⟩
  · have e : (inB r 0 400 && inB t 0 400 && (c == 0) && (w == 0)) = false := by (rw [h1]; rfl)
    rw [e]
    clear e
    go_enter Tryz.func198, Tryz.ntmps198
    go_wp2_with fail
    refine (inRange_val h1).mono ?_
    rintro e w1 ⟨rfl, rfl⟩
    go_wp2_with fail
    go_ret
    exact ⟨rfl, ba1 _ _⟩
  · have e : (inB r 0 400 && inB t 0 400 && (c == 0) && (w == 0)) = false := by (rw [h1, h2]; rfl)
    rw [e]
    clear e
    go_enter Tryz.func198, Tryz.ntmps198
    go_wp2_with fail
    refine (inRange_val h1).mono ?_
    rintro e w1 ⟨rfl, rfl⟩
    go_wp2_with fail
    refine (inRange_val h2).mono ?_
    rintro e w1 ⟨rfl, rfl⟩
    go_wp2_with fail
    go_ret
    exact ⟨rfl, ba1 _ _⟩
  · have e : (inB r 0 400 && inB t 0 400 && (c == 0) && (w == 0)) = false := by (rw [h1, h2, h3]; rfl)
    rw [e]
    clear e
    go_enter Tryz.func198, Tryz.ntmps198
    go_wp2_with fail
    refine (inRange_val h1).mono ?_
    rintro e w1 ⟨rfl, rfl⟩
    go_wp2_with fail
    refine (inRange_val h2).mono ?_
    rintro e w1 ⟨rfl, rfl⟩
    go_wp2_with fail
    go_ret
    exact ⟨rfl, ba1 _ _⟩
  · have e : (inB r 0 400 && inB t 0 400 && (c == 0) && (w == 0)) = false := by (rw [h1, h2, h3, h4]; rfl)
    rw [e]
    clear e
    go_enter Tryz.func198, Tryz.ntmps198
    go_wp2_with fail
    refine (inRange_val h1).mono ?_
    rintro e w1 ⟨rfl, rfl⟩
    go_wp2_with fail
    refine (inRange_val h2).mono ?_
    rintro e w1 ⟨rfl, rfl⟩
    go_wp2_with fail
    go_ret
    exact ⟨rfl, ba1 _ _⟩
  · have e : (inB r 0 400 && inB t 0 400 && (c == 0) && (w == 0)) = true := by (rw [h1, h2, h3, h4]; rfl)
    rw [e]
    clear e
    go_enter Tryz.func198, Tryz.ntmps198
    go_wp2_with fail
    refine (inRange_val h1).mono ?_
    rintro e w1 ⟨rfl, rfl⟩
    go_wp2_with fail
    refine (inRange_val h2).mono ?_
    rintro e w1 ⟨rfl, rfl⟩
    go_wp2_with fail
    go_ret
    exact ⟨rfl, ba1 _ _⟩

set_option maxHeartbeats 600000 in
theorem fadeFine_any (k r c t w g : Int) (W : World) : Calls Tryz.prog 202 #[.agg #[.int .i64 k, .int .i64 r, .int .i64 c, .int .i64 t, .int .i64 w, .int .i64 g]] W fun e W' => e = .returned (.bool ((r == 0) && (c == 0) && (w == 0) && inB t 0 256)) ∧ Below W.heap.size W W' := by
  rcases four ((r == 0)) ((c == 0)) ((w == 0)) (inB t 0 256) with h1 | ⟨h1, h2⟩ | ⟨h1, h2, h3⟩ | ⟨h1, h2, h3, h4⟩ | ⟨h1, h2, h3, h4⟩
  · have e : ((r == 0) && (c == 0) && (w == 0) && inB t 0 256) = false := by (rw [h1]; rfl)
    rw [e]
    clear e
    go_enter Tryz.func202, Tryz.ntmps202
    go_wp2_with fail
    go_ret
    exact ⟨rfl, ba1 _ _⟩
  · have e : ((r == 0) && (c == 0) && (w == 0) && inB t 0 256) = false := by (rw [h1, h2]; rfl)
    rw [e]
    clear e
    go_enter Tryz.func202, Tryz.ntmps202
    go_wp2_with fail
    go_ret
    exact ⟨rfl, ba1 _ _⟩
  · have e : ((r == 0) && (c == 0) && (w == 0) && inB t 0 256) = false := by (rw [h1, h2, h3]; rfl)
    rw [e]
    clear e
    go_enter Tryz.func202, Tryz.ntmps202
    go_wp2_with fail
    go_ret
    exact ⟨rfl, ba1 _ _⟩
  · have e : ((r == 0) && (c == 0) && (w == 0) && inB t 0 256) = false := by (rw [h1, h2, h3, h4]; rfl)
    rw [e]
    clear e
    go_enter Tryz.func202, Tryz.ntmps202
    go_wp2_with fail
    refine (inRange_val h4).mono ?_
    rintro e w1 ⟨rfl, rfl⟩
    go_wp2_with fail
    go_ret
    exact ⟨rfl, ba1 _ _⟩
  · have e : ((r == 0) && (c == 0) && (w == 0) && inB t 0 256) = true := by (rw [h1, h2, h3, h4]; rfl)
    rw [e]
    clear e
    go_enter Tryz.func202, Tryz.ntmps202
    go_wp2_with fail
    refine (inRange_val h4).mono ?_
    rintro e w1 ⟨rfl, rfl⟩
    go_wp2_with fail
    go_ret
    exact ⟨rfl, ba1 _ _⟩

end Go.Proofs.YtpilkgcghlfdmaaGreatDoor
