import Derived.Test.YthnjfdhijpfekaaVTouchP
namespace Go.Proofs.Ythnjfdhijpfekaa
open Go.RowKit

/-- a pixel behind a blot or a scratch -/
theorem dmg_touch {k r c t w g : Int} {n m : Nat} {xs : List Int} {i : Nat} (hk : k = 1 ∨ k = 2) (hi : i < n * m) :
    (dmgL k r c t w g n m xs)[i]? = some (if touchB k r c t w ((i / m : Nat) : Int) ((i % m : Nat) : Int) = true then g else xs.getD i 0) := by
  rw [dmgL_pix (by omega), pix, List.getElem?_map, List.getElem?_range hi]
  simp only [Option.map_some, dpix]
  rw [if_neg (by omega), if_neg (by omega), Nat.div_add_mod' i m]

set_option maxRecDepth 100000 in
set_option maxHeartbeats 1000000 in
theorem touches_any (a : Option Addr) (n c : Nat) (w : World) (hx : BytesAt w w.heap.size a n) :
    Calls Try.prog 4 #[.slice a n c] w fun e w' => e = .returned (.bool true) ∧ Below w.heap.size w w' := by
  have HX := Lib.hid hx
  clear hx
  by_cases hn : n ≤ 4096
  · have hbig : decide ((4096 : Int) < n) = false := by simp; omega
    go_enter Try.func4, Try.ntmps4
    go_wp2_with fail
    refine (big_any a n c _).mono ?_
    rintro e w0 ⟨rfl, rfl⟩
    rw [hbig]
    go_wp2_with fail
    refine (drawApplyDamage_any a n c _ HX.out hn).mono ?_
    rintro e w1 ⟨x1, x2, xs, aP, cP, k, r, l, t, v, g, rfl, hl, ho, hb⟩
    have hl2 := (((Facts.start w0).own hb ho).box #[.int .i64 x1, .int .i64 x2, .slice aP xs.length cP] 28).box #[.int .i64 k, .int .i64 r, .int .i64 l, .int .i64 t, .int .i64 v, .int .i64 g] 32
    rw [World.size_alloc] at hl2
    obtain ⟨y1, y2, zs, cd, hAr⟩ := apOk x1 x2 xs [⟨k, r, l, t, v, g⟩]
    have HAR := Lib.hid hAr
    have hzl := HAR.out.len
    have HZ : Hid (zs.length ≤ maxLen) := Lib.hid (by unfold maxLen; omega)
    have HLX : Hid (xs.length ≤ maxLen) := Lib.hid (by unfold maxLen; omega)
    have hcc : (cd != cd) = false := by simp
    have HL2 := Lib.hid hl2
    clear hl2 ho hb hAr
    go_wp2_with fail
    have HOP := Lib.hid (HL2.out.get 2 rfl)
    refine (applyDamage_any x1 x2 aP xs cP k r l t v g _ (ownF_ints HOP.out) HLX.out).mono ?_
    rw [HAR.out.eq]
    rintro e w3 ⟨aG, cG, rfl, ho, hb⟩
    have hF := HL2.out.own hb ho
    clear ho hb
    have hP := boxF_cells (hF.get 2 rfl)
    have hD := boxF_cells (hF.get 1 rfl)
    have hltP : w1.heap.size < w3.heap.size := hF.top 2 rfl
    have hltD : w1.heap.size + 1 < w3.heap.size := hF.top 1 rfl
    obtain ⟨lG, hlG⟩ : ∃ n, (((w1.alloc (.cells #[.int .i64 x1, .int .i64 x2, .slice aP xs.length cP] 28 (0, 0))).alloc (.cells #[.int .i64 k, .int .i64 r, .int .i64 l, .int .i64 t, .int .i64 v, .int .i64 g] 32 (0, 0)))).heap.size = n := ⟨_, rfl⟩
    rw [hlG] at hF
    clear hlG
    have HL3 := Lib.hid (hF.box #[.int .i64 y1, .int .i64 y2, .slice aG zs.length cG] 28)
    clear hF
    go_wp2_with fail
    clear hP hD hltP hltD
    have HOP := Lib.hid (HL3.out.get 4 rfl)
    refine (specApplyDamage_any x1 x2 aP xs cP k r l t v g _ (ownF_ints HOP.out) (OwnI.slc HOP.out.1) HLX.out).mono ?_
    rw [HAR.out.eq]
    rintro e w4 ⟨aM, cM, rfl, ho, hb⟩
    have hF := HL3.out.own hb ho
    clear ho hb
    have hG := boxF_cells (hF.get 1 rfl)
    have hltG : w3.heap.size < w4.heap.size := hF.top 1 rfl
    obtain ⟨lM, hlM⟩ : ∃ n, (w3.alloc (.cells #[.int .i64 y1, .int .i64 y2, .slice aG zs.length cG] 28 (0, 0))).heap.size = n := ⟨_, rfl⟩
    rw [hlM] at hF
    clear hlM
    have HL4 := Lib.hid (hF.box #[.int .i64 y1, .int .i64 y2, .slice aM zs.length cM] 28)
    clear hF
    go_wp2_with fail
    clear hG hltG
    have HOG := Lib.hid (HL4.out.get 3 rfl)
    have HOM := Lib.hid (HL4.out.get 1 rfl)
    refine (likeRaster_f HL4.out (ownF_ints HOG.out) (ownF_ints HOM.out) HZ.out).mono ?_
    rintro e w5 ⟨rfl, hF, _⟩
    have HL5 := Lib.hid hF
    clear hF HOG HOM HOP
    have hG := boxF_cells (HL5.out.get 2 rfl)
    have hP := boxF_cells (HL5.out.get 5 rfl)
    have hD := boxF_cells (HL5.out.get 4 rfl)
    by_cases hcd : cd = 0
    · have hcn : (cd != 0) = false := by simp [hcd]
      by_cases hk2 : (2 : Int) < k
      · go_wp2_with fail
        go_ret
        exact ⟨rfl, HL5.out.get 7 rfl⟩
      · obtain ⟨q1, q2, q3, rfl, rfl, q4⟩ := HAR.out.ok hcd
        obtain ⟨N, M, rfl, rfl, p1, p2, p3, p4, p5, p6, p7⟩ := ras_nat q1
        have hdm : dmOk k r l t v g = true := by simpa [Dm.ok] using q3
        have hk1 := (dm_bounds hdm).1
        have hz : zs = dmgL k r l t v g N M xs := by rw [q4, Int.toNat_natCast, Int.toNat_natCast]; rfl
        have HZE := Lib.hid hz
        have HDM := Lib.hid hdm
        have HXL := Lib.hid p6
        have hzn : zs.length = xs.length := by rw [hz, dmgL_len p6, p6]
        clear q1 q2 q3 q4 p6 p7 hz hdm hzl
        have hmm : (1 : Int) ≤ (M : Int) := by omega
        go_wp2_with fail
        clear hG hP hD
        go_loopw [9] (fun i wr => ∃ K : Nat, K ≤ xs.length ∧ i = .int .i64 K ∧ Facts [Fact.box w4.heap.size #[.int .i64 (N : Int), .int .i64 (M : Int), .slice aM zs.length cM] 28, Fact.own lM w4.heap.size (.slice aM zs.length cM) zs, Fact.box w3.heap.size #[.int .i64 (N : Int), .int .i64 (M : Int), .slice aG zs.length cG] 28, Fact.own lG w3.heap.size (.slice aG zs.length cG) zs, Fact.box (w1.heap.size + 1) #[.int .i64 k, .int .i64 r, .int .i64 l, .int .i64 t, .int .i64 v, .int .i64 g] 32, Fact.box w1.heap.size #[.int .i64 (N : Int), .int .i64 (M : Int), .slice aP xs.length cP] 28, Fact.own w0.heap.size w1.heap.size (.slice aP xs.length cP) xs, Fact.below w0] wr) (fun i _ => xs.length - (intOf i).toNat)
        case atStart => exact ⟨0, Nat.zero_le _, rfl, HL5.out⟩
        case round =>
          clear HL5 HL4 HL3 HL2
          obtain ⟨K, hK, rfl, hF⟩ := hrel
          have HF := Lib.hid hF
          have hP := boxF_cells (hF.get 5 rfl)
          have hD := boxF_cells (hF.get 4 rfl)
          have hltP : w1.heap.size < wr.heap.size := hF.top 5 rfl
          have hltD : w1.heap.size + 1 < wr.heap.size := hF.top 4 rfl
          by_cases hlt : K < xs.length
          · obtain ⟨b1, o1, z1, hap, hz1, hbl1, hcl1⟩ := (ownF_ints (hF.get 6 rfl)).at hlt
            obtain ⟨b2, o2, z2, hag, hz2, hbl2, hcl2⟩ := (ownF_ints (hF.get 3 rfl)).at (k := K) (by omega)
            subst hap hag
            have hlt2 : (K : Int) < (zs.length : Int) := by omega
            obtain ⟨y, hy⟩ : ∃ y, K / M = y := ⟨_, rfl⟩
            obtain ⟨x, hxx⟩ : ∃ x, K % M = x := ⟨_, rfl⟩
            have hty : (K : Int).tdiv (M : Int) = y := by rw [← hy]; rfl
            have htx : (K : Int).tmod (M : Int) = x := by rw [← hxx]; rfl
            have hyN : y < N := by rw [← hy]; exact Nat.div_lt_of_lt_mul (by rw [Nat.mul_comm, ← HXL.out]; exact hlt)
            have hxM : x < M := by rw [← hxx]; exact Nat.mod_lt _ (by omega)
            obtain ⟨tb, htb⟩ : ∃ tb, touchB k r l t v (y : Int) (x : Int) = tb := ⟨_, rfl⟩
            have hzz : z2 = if tb = true then g else z1 := by
              have h1 := dmg_touch (r := r) (c := l) (t := t) (w := v) (g := g) (xs := xs) (m := M) (n := N) (k := k) (i := K) (by omega) (by rw [← HXL.out]; exact hlt)
              rw [← HZE.out, hz2, hy, hxx, htb, List.getD_eq_getElem?_getD, hz1] at h1
              exact Option.some.inj h1
            have HTB := Lib.hid htb
            have HZZ := Lib.hid hzz
            clear hF hz1 hz2 hy hxx htb hzz
            have hneq1 : (M : Int) ≠ 0 := by omega
            go_wp2_with fail
            refine wp_region_ext (by kernel_rfl) (by kernel_rfl) ?_
            repeat (go_big_quiet_step ((go_at_call 19; go_must (apply calls_ext; exact touchesPixel_val HTB.out HDM.out (by omega) (by omega) (by omega)))))
            refine wpQuiet_nil ?_
            rintro _ ⟨s, rfl⟩
            have hF := HF.out.below s.below
            have hc2 : s.w.cell? ⟨b2, o2 + K, none⟩ = some (.int .i64 z2) := (s.cell b2 (o2 + K) hbl2).trans hcl2
            clear hP hD hcl1 hcl2 hltP hltD
            generalize s.w = ws at *
            have hD := boxF_cells (hF.get 4 rfl)
            have hG := boxF_cells (hF.get 2 rfl)
            have HF2 := Lib.hid hF
            clear hF
            cases tb with
            | true =>
              have hz := HZZ.out
              rw [if_pos rfl] at hz
              have hne : (z2 != g) = false := by simp [hz]
              clear hz
              go_wp2_with fail
              exact ⟨⟨K + 1, by omega, by go_num, HF2.out⟩, by simp [intOf]; omega⟩
            | false =>
              have hz := HZZ.out
              rw [if_neg (by decide)] at hz
              have hne : (z2 != z1) = false := by simp [hz]
              clear hz
              go_wp2_with fail
              exact ⟨⟨K + 1, by omega, by go_num, HF2.out⟩, by simp [intOf]; omega⟩
          · clear hF
            go_wp2_with fail
            go_ret
            exact ⟨rfl, HF.out.get 7 rfl⟩
    · have hcn : (cd != 0) = true := by simp [hcd]
      go_wp2_with fail
      go_ret
      exact ⟨rfl, HL5.out.get 7 rfl⟩
  · have hbig : decide ((4096 : Int) < n) = true := by simp; omega
    go_enter Try.func4, Try.ntmps4
    go_wp2_with fail
    refine (big_any a n c _).mono ?_
    rintro e w0 ⟨rfl, rfl⟩
    rw [hbig]
    go_wp2_with fail
    go_ret
    exact ⟨rfl, Below.refl _ _⟩

end Go.Proofs.Ythnjfdhijpfekaa
