import Derived.Test.YtlcglclojlffgaaGreatVSpSa
namespace Go.Proofs.YtlcglclojlffgaaGreat
open Go.RowKit

set_option maxRecDepth 100000 in
set_option maxHeartbeats 1000000 in
theorem spLen_any (m n : Nat) (h1 : 1 ≤ m) (h4 : m ≤ 4) (hn : 1 ≤ n) (hn2 : n ≤ 255) (w : World) :
    Calls Tryz.prog 131 #[.int .i64 (m : Int), .int .i64 (n : Int)] w fun e w' => e = .returned (.int .i64 (segW m n : Nat)) ∧ Below w.heap.size w w' := by
  have HG := Lib.hid (spGroup_any m h1 h4)
  have HW := Lib.hid (fun n hn hg w => spWid_any m n h1 h4 hn hg w)
  obtain ⟨bs, hbs⟩ : ∃ bs : Int, bs = (if m = 3 then (256 : Int) else ((baseM m : Nat) : Int)) := ⟨_, rfl⟩
  rw [← hbs] at HG
  have HT := Lib.hid (show txtW m n = n / grpM m * widM m (grpM m) + if n % grpM m > 0 then widM m (n % grpM m) else 0 from rfl)
  have HTL := Lib.hid (txtW_le m n)
  obtain ⟨hg1, hg3⟩ := grpM_bd m
  have HD := Lib.hid (widM_bd m)
  obtain ⟨s, hs⟩ : ∃ s, s = grpM m := ⟨_, rfl⟩
  rw [← hs] at HG HW HT hg1 hg3
  have hq : (n : Int).tdiv (s : Int) = ((n / s : Nat) : Int) := by rw [Int.tdiv_eq_ediv_of_nonneg (by omega)]; push_cast; rfl
  have hr : (n : Int).tmod (s : Int) = ((n % s : Nat) : Int) := by rw [Int.tmod_eq_emod_of_nonneg (by omega)]; push_cast; rfl
  have hql : n / s ≤ n := Nat.div_le_self _ _
  have hrl : n % s < s := Nat.mod_lt _ hg1
  obtain ⟨q, hqe⟩ : ∃ q, q = n / s := ⟨_, rfl⟩
  obtain ⟨r, hre⟩ : ∃ r, r = n % s := ⟨_, rfl⟩
  rw [← hqe] at hq hql HT
  rw [← hre] at hr hrl HT
  obtain ⟨v, hv⟩ : ∃ v, v = widM m s := ⟨_, rfl⟩
  have hv24 : v ≤ 24 := by have := HD.out s hg1 hg3; omega
  have HV := Lib.hid (fun w => hv ▸ HW.out s hg1 (Nat.le_refl _) w)
  rw [← hv] at HT
  obtain ⟨qv, hqv⟩ : ∃ qv : Nat, qv = q * v := ⟨_, rfl⟩
  have hqvi : (q : Int) * (v : Int) = (qv : Int) := by rw [hqv]; push_cast; rfl
  rw [← hqv] at HT
  have hqvl : qv ≤ 8 * n := by have h1 := HT.out; have h2 := HTL.out; omega
  have hs0 : ¬ ((s : Int) == 0) = true := by rw [beq_iff_eq]; omega
  clear hbs hs hqe hre hv hqv
  go_enter Tryz.func131, Tryz.ntmps131
  go_wp2_with fail
  refine (HG.out w).mono ?_
  rintro e w1 ⟨rfl, rfl⟩
  go_wp2_with fail
  refine wp_region_ext_tail 8 (by kernel_rfl) (by kernel_rfl) ?_
  simp only [List.take_succ_cons, List.take_zero, List.drop_succ_cons, List.drop_zero]
  repeat (go_big_quiet_step ((go_at_call 122; go_must (exact calls_ext _ (HV.out _)))))
  refine wpQuiet_nil ?_
  rintro _ ⟨s9, rfl⟩
  have hb9 := s9.below
  generalize s9.w = w2 at hb9 ⊢
  have HB2 := Lib.hid hb9
  clear hb9 s9
  by_cases hr0 : 0 < r
  · have hri : (0 : Int) < (r : Int) := by omega
    have HE := Lib.hid (show segW m n = 11 + (qv + widM m r) by rw [segW, HT.out, if_pos hr0])
    have HR := Lib.hid (fun w => HW.out r hr0 (by omega) w)
    obtain ⟨u, hu⟩ : ∃ u, u = widM m r := ⟨_, rfl⟩
    have hu24 : u ≤ 24 := by have := HD.out r hr0 (by omega); omega
    rw [← hu] at HE HR
    clear hu
    go_wp2_with fail
    refine (HR.out w2).mono ?_
    rintro e w3 ⟨rfl, hb3⟩
    have HB3 := Lib.hid (bt0 HB2.out hb3 (Nat.le_refl _))
    clear hb3
    go_wp2_with fail
    go_ret
    refine ⟨ret_int ?_, HB3.out⟩
    rw [HE.out]; push_cast; omega
  · have hri : ¬ (0 : Int) < (r : Int) := by omega
    have HE := Lib.hid (show segW m n = 11 + qv by rw [segW, HT.out, if_neg hr0, Nat.add_zero])
    go_wp2_with fail
    go_ret
    refine ⟨ret_int ?_, HB2.out⟩
    rw [HE.out]; push_cast; omega
/-- a cell of the reference's table -/
abbrev clV (x : Ch) : Value := .agg #[.int .i64 x.l, .int .i64 x.c, .int .i64 x.t, .int .i64 x.m]
set_option maxRecDepth 100000 in
set_option maxHeartbeats 1000000 in
theorem spBetter_any (x y : Ch) (w : World) :
    Calls Tryz.prog 132 #[clV x, clV y] w fun e w' => e = .returned (.bool (chB x y)) ∧ Below w.heap.size w w' := by
  obtain ⟨xl, xc, xt, xm⟩ := x
  obtain ⟨yl, yc, yt, ym⟩ := y
  by_cases h1 : xl = yl
  · by_cases h2 : xc = yc
    · by_cases h3 : xt = yt
      · subst h1 h2 h3
        have HE := Lib.hid (show chB ⟨xl, xc, xt, xm⟩ ⟨xl, xc, xt, ym⟩ = decide (xm < ym) by simp [chB])
        dsimp only [clV]
        go_enter Tryz.func132, Tryz.ntmps132
        go_wp2_with fail
        go_ret
        exact ⟨ret_bool HE.out.symm, ba2 _ _ _⟩
      · subst h1 h2
        have HE := Lib.hid (show chB ⟨xl, xc, xt, xm⟩ ⟨xl, xc, yt, ym⟩ = decide (yt < xt) by simp [chB, h3])
        have h3' : (xt == yt) = false := by rw [beq_eq_false_iff_ne]; exact h3
        dsimp only [clV]
        go_enter Tryz.func132, Tryz.ntmps132
        go_wp2_with fail
        go_ret
        exact ⟨ret_bool HE.out.symm, ba2 _ _ _⟩
    · subst h1
      have HE := Lib.hid (show chB ⟨xl, xc, xt, xm⟩ ⟨xl, yc, yt, ym⟩ = decide (xc < yc) by simp [chB, h2])
      have h3' : (xc == yc) = false := by rw [beq_eq_false_iff_ne]; exact h2
      dsimp only [clV]
      go_enter Tryz.func132, Tryz.ntmps132
      go_wp2_with fail
      go_ret
      exact ⟨ret_bool HE.out.symm, ba2 _ _ _⟩
  · have HE := Lib.hid (show chB ⟨xl, xc, xt, xm⟩ ⟨yl, yc, yt, ym⟩ = decide (xl < yl) by simp [chB, h1])
    have h3' : (xl == yl) = false := by rw [beq_eq_false_iff_ne]; exact h1
    dsimp only [clV]
    go_enter Tryz.func132, Tryz.ntmps132
    go_wp2_with fail
    go_ret
    exact ⟨ret_bool HE.out.symm, ba2 _ _ _⟩

end Go.Proofs.YtlcglclojlffgaaGreat
