import Derived.Test.YthnjfdhijpfekaaVTm5
import Derived.Test.YthnjfdhijpfekaaVDrawTM
import Derived.Test.YthnjfdhijpfekaaVGrid5
import Derived.Test.YthnjfdhijpfekaaVDice2
import Derived.Test.YthnjfdhijpfekaaVTouchesW
namespace Go.Proofs.Ythnjfdhijpfekaa
open Go.RowKit

/-- a pixel that no damage touches -/
theorem dms_untouched {H K : Nat} {y x : Nat} (hy : y < H) (hx : x < K) : ∀ (ds : List Dm) (xs : List Int), ds.all Dm.loc = true → tch ds (y : Int) (x : Int) = false → xs.length = H * K → (dmsL H K ds xs).getD (y * K + x) 0 = xs.getD (y * K + x) 0
  | [], xs, _, _, _ => rfl
  | d :: ds, xs, hl, ht, hxs => by
    simp only [List.all_cons, Bool.and_eq_true] at hl
    simp only [tch, List.any_cons, Bool.or_eq_false_iff] at ht
    have hi : y * K + x < H * K := pix_in hy hx
    have h1 : (y * K + x) / K = y := by rw [Nat.add_comm, Nat.add_mul_div_right _ _ (by omega), Nat.div_eq_of_lt hx, Nat.zero_add]
    have h2 : (y * K + x) % K = x := by rw [Nat.add_comm, Nat.add_mul_mod_self_right, Nat.mod_eq_of_lt hx]
    have hd := dmg_touch (k := d.k) (r := d.r) (c := d.c) (t := d.t) (w := d.w) (g := d.g) (xs := xs) (m := K) (n := H) (i := y * K + x) (loc_ok hl.1).2 hi
    rw [h1, h2, if_neg (by rw [ht.1]; decide)] at hd
    have ih := dms_untouched hy hx ds (d.on H K xs) hl.2 ht.2 (dmgL_len hxs)
    show (dmsL H K ds (d.on H K xs)).getD (y * K + x) 0 = _
    rw [ih]
    show (dmgL d.k d.r d.c d.t d.w d.g H K xs).getD (y * K + x) 0 = _
    rw [List.getD_eq_getElem?_getD, hd]
    rfl

/-- marks of places: what is not marked is none of the first K -/
def MkIs (m N : Nat) (ps : List (Nat × Nat)) (K : Nat) (mk : List Int) : Prop := mk.length = N ∧ ∀ i, i < N → mk[i]? = some 0 → (i / m, i % m) ∉ ps.take K
theorem MkIs.zero (m N : Nat) (ps : List (Nat × Nat)) : MkIs m N ps 0 (List.replicate N 0) := ⟨by simp, fun i _ _ h => by simp at h⟩
theorem MkIs.step {m N K r c : Nat} {ps : List (Nat × Nat)} {mk : List Int} (h : MkIs m N ps K mk) (hp : ps[K]? = some (r, c)) : MkIs m N ps (K + 1) (mk.set (r * m + c) 1) := by
  refine ⟨by simp [h.1], fun i hiN hz => ?_⟩
  rw [List.getElem?_set] at hz
  split at hz
  · split at hz
    · cases hz
    · cases hz
  · rename_i hne
    rw [take_snoc' hp]
    intro hm
    rcases List.mem_append.1 hm with hm | hm
    · exact h.2 i hiN hz hm
    · simp only [List.mem_singleton, Prod.mk.injEq] at hm
      apply hne
      rw [← hm.1, ← hm.2, Nat.mul_comm, Nat.div_add_mod]

theorem dms_turn {w w' : World} {a : Option Addr} {ds : List Dm} {g : Nat} (h : DmsAt w a ds) (hg : w.grownBy w' (some g)) (hne : ∀ ad, a = some ad → 0 < ds.length → ad.block ≠ g) : DmsAt w' a ds := by
  intro i hi
  obtain ⟨b, o, rfl, hc⟩ := h i hi
  have hn := hne _ rfl (by omega)
  have hl := lt_of_cell hc.1
  have he : ∀ j, w'.cell? ⟨b, j, none⟩ = w.cell? ⟨b, j, none⟩ := fun j => World.cell?_of_block (w := w) (a := ⟨b, j, none⟩) (hg.block b hl (fun e => hn (Option.some.inj e)))
  exact ⟨b, o, rfl, (he _).trans hc.1, (he _).trans hc.2.1, (he _).trans hc.2.2.1, (he _).trans hc.2.2.2.1, (he _).trans hc.2.2.2.2.1, (he _).trans hc.2.2.2.2.2⟩

set_option maxRecDepth 100000 in
set_option maxHeartbeats 2000000 in
theorem touchedW_any (a : Option Addr) (n0 c : Nat) (w : World) (hx : BytesAt w w.heap.size a n0) :
    Calls Try.prog 7 #[.slice a n0 c] w fun e w' => e = .returned (.bool true) ∧ Below w.heap.size w w' := by
  have HX := Lib.hid hx
  clear hx
  by_cases hn0 : n0 ≤ 4096
  · have hbig : decide ((4096 : Int) < n0) = false := by simp; omega
    go_enter Try.func7, Try.ntmps7
    go_wp2_with fail
    refine (big_any a n0 c _).mono ?_
    rintro e w0 ⟨rfl, rfl⟩
    rw [hbig]
    go_wp2_with fail
    refine (drawTouchedModules_any a n0 c _ HX.out hn0).mono ?_
    rintro e w1 ⟨ds, aL, cL, p, t, q, b, d, l, n, m, rfl, hld, hoD, hb⟩
    obtain ⟨ps, cd, hTm⟩ := tmIs_any ds n m p t q b d l
    have HTM := Lib.hid hTm
    have hb2 := bt0 hb (ba1 w1 (.cells #[.int .i64 p, .int .i64 t, .int .i64 q, .int .i64 b, .int .i64 d, .int .i64 l] 54 (0, 0))) (Nat.le_refl _)
    have hd2 := hoD.dms.below (ba1 w1 (.cells #[.int .i64 p, .int .i64 t, .int .i64 q, .int .i64 b, .int .i64 d, .int .i64 l] 54 (0, 0)))
    have hp2 := push_at w1 (.cells #[.int .i64 p, .int .i64 t, .int .i64 q, .int .i64 b, .int .i64 d, .int .i64 l] 54 (0, 0))
    have HB2 := Lib.hid hb2
    have HD2 := Lib.hid hd2
    have HP2 := Lib.hid hp2
    have hb1s := hb.size
    clear hb hoD hb2 hd2 hp2 hTm
    go_wp2_with fail
    generalize w1.alloc (.cells #[.int .i64 p, .int .i64 t, .int .i64 q, .int .i64 b, .int .i64 d, .int .i64 l] 54 (0, 0)) = w2 at *
    obtain ⟨BP, hBP⟩ : ∃ BP, w1.heap.size = BP := ⟨_, rfl⟩
    rw [hBP] at HP2 ⊢
    have hBP0' : w0.heap.size ≤ BP := by rw [← hBP]; exact hb1s
    clear hBP
    refine (touchedModules_val HTM.out HD2.out (by omega)).mono ?_
    rintro e w3 ⟨a1, c1, rfl, ho1, hb⟩
    have HP3 := Lib.hid (blkK hb HP2.out)
    have HD3 := Lib.hid (HD2.out.below hb)
    have HB3 := Lib.hid (bt0 HB2.out hb (Nat.le_refl _))
    have HPL := Lib.hid ho1.pls
    have hcP := (heap_cellR HP3.out).1
    clear hb ho1 HP2 HD2 HB2
    go_wp2_with fail
    refine (specTouchedModules_val HTM.out HD3.out (by omega)).mono ?_
    rintro e w4 ⟨a2, c2, rfl, ho2, hb⟩
    have HP4 := Lib.hid (blkK hb HP3.out)
    have HD4 := Lib.hid (HD3.out.below hb)
    have HB4 := Lib.hid (bt0 HB3.out hb (Nat.le_refl _))
    have HPL1 := Lib.hid (HPL.out.below hb)
    have HPL2 := Lib.hid ho2.pls
    clear hb ho2 HP3 HD3 HB3 HPL hcP
    have hcc : (cd != cd) = false := by simp
    have hll : ((ps.length : Int) != (ps.length : Int)) = false := by simp
    by_cases hcd : cd = 0
    · subst hcd
      have hfit := HTM.out
      cases hfit with
      | size x y z h1 h2 => exact absurd rfl h2
      | fit x y hps h20 hloc =>
        obtain ⟨r1, r2, r3, r4, rfl, rfl⟩ := psIs_zero hps
        rw [inB_iff] at r2 r3
        obtain ⟨n, rfl⟩ := Int.eq_ofNat_of_zero_le (show 0 ≤ n by omega)
        obtain ⟨m, rfl⟩ := Int.eq_ofNat_of_zero_le (show 0 ≤ m by omega)
        obtain ⟨H, K, e1, e2, s1, s2, s3, s4, s5, -⟩ := size_nat r4
        obtain ⟨b1, b2, b3, b4, b5, b6, b7⟩ := pr_bounds r1
        have hN := size_le e1 e2 b3 b2 b1 s5
        rw [Int.toNat_natCast, Int.toNat_natCast] at *
        obtain ⟨N, hNN⟩ : ∃ N, n * m = N := ⟨_, rfl⟩
        rw [hNN] at hN
        have hnm : (n : Int) * (m : Int) = (N : Int) := by rw [← hNN]; simp
        have hw : IntKind.i64.wrap (N : Int) = N := IntWalk.i64_in _ (by omega)
        have HW6 : Hid (wrap64 (N : Int) = N) := Lib.hid (IntWalk.wrap64_in _ (by omega))
        have HWW := Lib.hid hw
        clear hw
        rw [hNN] at HPL1 HPL2 HTM hll
        rw [hNN]
        obtain ⟨ps, hpe⟩ : ∃ ps, plL (fun r c => tch ds (smp q t r) (smp q p c)) m N = ps := ⟨_, rfl⟩
        rw [hpe] at HPL1 HPL2 hll
        rw [hpe]
        have hpin : ∀ pt ∈ ps, ∃ i, i < N ∧ pt = (i / m, i % m) := fun pt h => by rw [← hpe] at h; exact plL_in h
        have hplen : ps.length ≤ N := by rw [← hpe]; exact plL_len
        have HPE := Lib.hid hpe
        have HPIN := Lib.hid hpin
        have HNN := Lib.hid hNN
        have HPR := Lib.hid r1
        have HPS := Lib.hid hps
        have HLOC := Lib.hid hloc
        have HE1 := Lib.hid e1
        have HE2 := Lib.hid e2
        clear hpe hpin hNN r1 hps hloc r4 e1 e2 HTM
        obtain ⟨i0, hi, hz0, hz1, hz2⟩ := info_parts infoI
        have hcc1 : 8 * N ≤ 281474976710656 := by omega
        have hcc2 : N ≤ maxLen := by unfold maxLen; omega
        have hw := HWW.out
        have hw6 := HW6.out
        go_wp2_with (at_make; refine wpList_make_full _ rfl _ _ 22 rfl w4.heap.size 2 i0 (.int .i64 0) 1 Try.underlying22 hi hz0 hz1 _ _ _ _ N rfl rfl rfl rfl ?c1 ?c2 ?c3 ?_)
        case c1 => rw [hz2]; exact hcc1
        case c2 => exact hcc2
        case c3 => exact Nat.le_refl _
        clear hw hw6
        intro w5 hown hg
        have ho := OwnI.of_made hown
        have hb5 := below_of_grownBy hg (B := w4.heap.size) (Nat.le_refl _) (fun k h => by cases h)
        have HP5 := Lib.hid (blkK hb5 HP4.out)
        have HD5 := Lib.hid (HD4.out.below hb5)
        have HB5 := Lib.hid (bt0 HB4.out hb5 (Nat.le_refl _))
        have HL1 := Lib.hid (HPL1.out.below hb5)
        have HL2 := Lib.hid (HPL2.out.below hb5)
        have HM0 : Hid (∃ mk, OwnI w5 w4.heap.size (.slice (some ⟨w4.heap.size, 0, none⟩) N N) mk ∧ MkIs m N ps 0 mk) := Lib.hid ⟨_, ho, MkIs.zero m N ps⟩
        have hs5 : w4.heap.size < w5.heap.size := by
          rcases ho.2 with ⟨h, _⟩ | ⟨g, cap, cur, h, hb, hgg, _⟩
          · cases h
          · simp only [Value.slice.injEq, Option.some.injEq, Addr.mk.injEq, and_true] at h
            obtain ⟨rfl, _⟩ := h
            exact blkLt hgg
        obtain ⟨MB, hMB⟩ : ∃ MB, w4.heap.size = MB := ⟨_, rfl⟩
        rw [hMB] at HM0 hs5 ⊢
        have hPB : BP < MB := by rw [← hMB]; exact blkLt HP4.out
        have hw0 : w0.heap.size ≤ MB := by rw [← hMB]; exact HB4.out.size
        have hBP0 : w0.heap.size ≤ BP := hBP0'
        have HDb : Hid (∀ ad, aL = some ad → 0 < ds.length → ad.block < MB) := Lib.hid (fun ad e h0 => by
          subst e hMB
          obtain ⟨b', o', e, hc, _⟩ := HD4.out 0 h0
          have := lt_of_cell hc
          simp only [Option.some.injEq] at e
          rw [e]; exact this)
        have HL1b : Hid (∀ ad, a1 = some ad → 0 < ps.length → ad.block < MB) := Lib.hid (fun ad e h0 => by
          subst e hMB
          obtain ⟨b', o', e, hc, _⟩ := HPL1.out 0 h0
          have := lt_of_cell hc
          simp only [Option.some.injEq] at e
          rw [e]; exact this)
        have HL2b : Hid (∀ ad, a2 = some ad → 0 < ps.length → ad.block < MB) := Lib.hid (fun ad e h0 => by
          subst e hMB
          obtain ⟨b', o', e, hc, _⟩ := HPL2.out 0 h0
          have := lt_of_cell hc
          simp only [Option.some.injEq] at e
          rw [e]; exact this)
        clear hown hg ho hb5 HP4 HD4 HB4 HPL1 HPL2 hi hz0 hz1 hz2 hMB
        go_wp2_with fail
        go_loopw [12] (fun i wr => ∃ k : Nat, k ≤ ps.length ∧ i = .int .i64 k ∧ (∃ mk, OwnI wr MB (.slice (some ⟨MB, 0, none⟩) N N) mk ∧ MkIs m N ps k mk) ∧ w5.grownBy wr (some MB)) (fun i _ => ps.length - (intOf i).toNat)
        case atStart => exact ⟨0, Nat.zero_le _, rfl, HM0.out, World.grownBy.refl _ _⟩
        case round =>
          clear HM0
          obtain ⟨k, hk, rfl, ⟨mk, hom, hmk⟩, hgr⟩ := hrel
          have HOM := Lib.hid hom
          have HMK := Lib.hid hmk
          have HGR := Lib.hid hgr
          clear hom hmk hgr
          by_cases hlt : k < ps.length
          · obtain ⟨⟨pr, pc⟩, hpk⟩ : ∃ pt, ps[k]? = some pt := ⟨_, List.getElem?_eq_getElem hlt⟩
            obtain ⟨i9, hi9, e9⟩ := HPIN.out _ (List.mem_of_getElem? hpk)
            simp only [Prod.mk.injEq] at e9
            have hidx : pr * m + pc = i9 := by rw [e9.1, e9.2, Nat.mul_comm, Nat.div_add_mod]
            obtain ⟨bb1, o1, hap1, hb10, hb11⟩ := HL1.out k hlt
            obtain ⟨bb2, o2, hap2, hb20, hb21⟩ := HL2.out k hlt
            have hpe' : ps[k] = (pr, pc) := by rw [List.getElem?_eq_getElem hlt] at hpk; exact Option.some.inj hpk
            rw [hpe'] at hb10 hb11 hb20 hb21
            dsimp only at hb10 hb11 hb20 hb21
            have hx1 := HL1b.out _ hap1 (by omega)
            have hx2 := HL2b.out _ hap2 (by omega)
            subst hap1 hap2
            dsimp only at hx1 hx2
            have hkeep : ∀ bb j, bb < MB → wr.cell? ⟨bb, j, none⟩ = w5.cell? ⟨bb, j, none⟩ := fun bb j h => World.cell?_of_block (w := w5) (a := ⟨bb, j, none⟩) (HGR.out.block bb (by omega) (fun e => by have := Option.some.inj e; omega))
            rw [← hkeep _ _ hx1] at hb10 hb11
            rw [← hkeep _ _ hx2] at hb20 hb21
            have hwMB := HGR.out.size
            have HPK := Lib.hid hpk
            have HIDX := Lib.hid hidx
            have hprn : (pr : Int) ≤ 40000 := by have : pr ≤ pr * m := Nat.le_mul_of_pos_right _ (by omega); omega
            have hpcn : (pc : Int) ≤ 40000 := by omega
            clear hkeep hpk e9 hpe'
            go_wp2_with fail
            go_quiet (fail)
            go_wp2_with fail
            have HGR2 := Lib.hid (grownBy_trans HGR.out (grownBy_drewN wr nq (some MB)))
            have HOM2 := Lib.hid (HOM.out.grown (below_drewN (Below.refl _ _) nq))
            clear HOM HGR
            have hc20 : (World.drewN wr nq).cell? ⟨bb2, o2 + k * 2, none⟩ = some (.int .i64 (pr : Int)) := hb20
            have hc21 : (World.drewN wr nq).cell? ⟨bb2, o2 + k * 2 + 1, none⟩ = some (.int .i64 (pc : Int)) := hb21
            have hq2 : bb2 < (World.drewN wr nq).heap.size := by show bb2 < wr.heap.size; omega
            have hsum : ((pr * m : Nat) : Int) + (pc : Int) = (i9 : Int) := by have := HIDX.out; omega
            have hi9i : (i9 : Int) < (N : Int) := by omega
            have hwp : -9223372036854775808 ≤ (pr : Int) * (m : Int) ∧ (pr : Int) * (m : Int) ≤ 9223372036854775807 := by rw [← Int.natCast_mul]; omega
            have hkps : (k : Int) < (ps.length : Int) := by omega
            clear hb10 hb11 hb20 hb21 hprn hpcn
            generalize World.drewN wr nq = wq at *
            go_wp2_with fail
            refine wp_region_rs (Keep := KB) [82, 83, 84, 85, 86, 87, 88, 89, 90, 91, 92, 93, 94, 95, 96] (fun us => _)
              [spE (.slice (some ⟨MB, 0, none⟩) N N), spE (.slice (some ⟨bb2, o2, none⟩) ps.length c2), spE (.int .i64 (k : Int)), spE (.pointer (some ⟨bb2, o2 + k * 2, none⟩)), spE (.pointer (some ⟨bb2, o2 + k * 2, none⟩)), spE (.int .i64 (pr : Int)), spE (.int .i64 (m : Int)), spE (.int .i64 (pr * m : Nat)), spE (.slice (some ⟨bb2, o2, none⟩) ps.length c2), spE (.int .i64 (k : Int)), spE (.pointer (some ⟨bb2, o2 + k * 2, none⟩)), spE (.pointer (some ⟨bb2, o2 + k * 2 + 1, none⟩)), spE (.int .i64 (pc : Int)), spE (.int .i64 (i9 : Int)), spE (.pointer (some ⟨MB, i9, none⟩))]
              (StX wq) (by kernel_rfl) (by kernel_rfl) (Nat.le_of_ble_eq_true rfl) (fun us => by simp [over, List.mapIdx_cons]; exact rfl) (stX0 _) kbr ?_ ?_
            · refine ⟨?_, ?_, ?_, ?_, ?_, ?_, ?_, ?_, ?_, ?_, ?_, ?_, ?_, ?_, ?_, trivial⟩
              all_goals (intro us wx hst hd; rw [if_pos (by kernel_rfl)]; dsimp only)
              · clear hd
                go_simp
                exact kb_same hst rfl
              · clear hd
                go_simp
                exact kb_same hst rfl
              · clear hd
                go_simp
                exact kb_same hst rfl
              · have d83 : us 83 = .slice (some ⟨bb2, o2, none⟩) ps.length c2 := hd ⟨1, .data⟩ (by simp) rfl
                have d84 : us 84 = .int .i64 (k : Int) := hd ⟨2, .data⟩ (by simp) rfl
                clear hd
                go_simp
                exact kb_same hst rfl
              · have d85 : us 85 = .pointer (some ⟨bb2, o2 + k * 2, none⟩) := hd ⟨3, .data⟩ (by simp) rfl
                clear hd
                go_simp
                exact kb_same hst rfl
              · have d86 : us 86 = .pointer (some ⟨bb2, o2 + k * 2, none⟩) := hd ⟨4, .data⟩ (by simp) rfl
                clear hd
                have hB := ((bcell hst).1 bb2 (o2 + k * 2) hq2).trans hc20
                go_simp
                exact kb_same hst rfl
              · clear hd
                go_simp
                exact kb_same hst rfl
              · have d87 : us 87 = .int .i64 (pr : Int) := hd ⟨5, .data⟩ (by simp) rfl
                have d88 : us 88 = .int .i64 (m : Int) := hd ⟨6, .data⟩ (by simp) rfl
                clear hd
                have w1 : IntKind.i64.wrap ((pr : Int) * (m : Int)) = (pr * m : Nat) := by rw [Int.natCast_mul]; exact IntWalk.i64_in _ hwp
                go_simp
                exact kb_same hst rfl
              · clear hd
                go_simp
                exact kb_same hst rfl
              · clear hd
                go_simp
                exact kb_same hst rfl
              · have d90 : us 90 = .slice (some ⟨bb2, o2, none⟩) ps.length c2 := hd ⟨8, .data⟩ (by simp) rfl
                have d91 : us 91 = .int .i64 (k : Int) := hd ⟨9, .data⟩ (by simp) rfl
                clear hd
                go_simp
                exact kb_same hst rfl
              · have d92 : us 92 = .pointer (some ⟨bb2, o2 + k * 2, none⟩) := hd ⟨10, .data⟩ (by simp) rfl
                clear hd
                go_simp
                exact kb_same hst rfl
              · have d93 : us 93 = .pointer (some ⟨bb2, o2 + k * 2 + 1, none⟩) := hd ⟨11, .data⟩ (by simp) rfl
                clear hd
                have hB := ((bcell hst).1 bb2 (o2 + k * 2 + 1) hq2).trans hc21
                go_simp
                exact kb_same hst rfl
              · have d89 : us 89 = .int .i64 (pr * m : Nat) := hd ⟨7, .data⟩ (by simp) rfl
                have d94 : us 94 = .int .i64 (pc : Int) := hd ⟨12, .data⟩ (by simp) rfl
                clear hd
                have w1 : IntKind.i64.wrap ((pr : Int) * (m : Int) + (pc : Int)) = (i9 : Int) := by rw [← Int.natCast_mul, hsum]; exact IntWalk.i64_in _ (by omega)
                go_simp
                exact kb_same hst rfl
              · have d82 : us 82 = .slice (some ⟨MB, 0, none⟩) N N := hd ⟨0, .data⟩ (by simp) rfl
                have d95 : us 95 = .int .i64 (i9 : Int) := hd ⟨13, .data⟩ (by simp) rfl
                clear hd
                go_simp
                exact kb_same hst rfl
            · intro us wx hst hd
              have d96 : us 96 = .pointer (some ⟨MB, i9, none⟩) := hd 14 (by simp)
              clear hd
              have hO := HOM2.out.grown hst
              have hgr := grownBy_trans HGR2.out (show wq.grownBy wx (some MB) from ⟨hst.os, hst.tape, hst.output, hst.size, fun j hj _ => hst.block j hj⟩)
              obtain ⟨z9, -, hcz, hfz⟩ := hO.cellAt HMK.out.1.symm (k := i9) (by rw [HMK.out.1]; exact hi9)
              have HS := Lib.hid (hO.stored HMK.out.1.symm i9 1)
              have HGR3 := Lib.hid hgr
              clear hO hgr hst hc20 hc21
              simp only [List.drop, List.length]
              rw [d96]
              go_wp2_with fail
              exact ⟨⟨k + 1, by omega, by go_num, ⟨_, HS.out.1, by rw [← HIDX.out]; exact HMK.out.step HPK.out⟩, grownBy_trans HGR3.out (by have := HS.out.2; exact this)⟩, by simp [intOf]; omega⟩
          · obtain rfl : k = ps.length := by omega
            have hb6 : Below w0.heap.size w5 wr := below_of_grownBy HGR.out (Nat.le_trans hw0 (by omega)) (fun j e => by have := Option.some.inj e; omega)
            have HP6 := Lib.hid ((HGR.out.block BP (by omega) (fun e => by have := Option.some.inj e; omega)).trans HP5.out)
            have HD6 := Lib.hid (dms_turn HD5.out HGR.out (fun ad e h0 => by have := HDb.out ad e h0; omega))
            have HB6 := Lib.hid (HB5.out.trans hb6)
            have hwr6 := HGR.out.size
            clear hb6 HP5 HD5 HB5 HGR HL1 HL2 HL1b HL2b
            go_wp2_with fail
            refine (roll2701_any a n0 c wr (bytes_up HX.out HB6.out) hn0).mono ?_
            rintro e w7 ⟨bd, rfl, hbd, hdice, hb⟩
            have HP7 := Lib.hid (blkK hb HP6.out)
            have HD7 := Lib.hid (HD6.out.below hb)
            have HB7 := Lib.hid (bt0 HB6.out hb (Nat.le_refl _))
            have HOM7 := Lib.hid (HOM.out.grown hb)
            have hbd7 := hdice.lt
            have HDI0 : Hid (Dice (w7.alloc (.cells #[] 2 (0, 0))) bd) := Lib.hid (hdice.below (ba1 _ _))
            have HO0 : Hid (OwnI (w7.alloc (.cells #[] 2 (0, 0))) w7.heap.size (.slice (some ⟨w7.heap.size, 0, none⟩) 0 0) []) := Lib.hid (World.ownsRow_lit (base := w7.heap.size) (size := 1) w7 #[] 0 (Nat.le_refl _) (by unfold maxLen; omega) rfl)
            clear hb hdice HP6 HD6 HB6 HOM
            go_wp2_with fail
            go_loopw [14, 15] (fun v i wx => ∃ (k : Nat) (cs : List Int), k ≤ N ∧ i = .int .i64 k ∧ cs.length = k ∧ (∀ x ∈ cs, 0 ≤ x ∧ x ≤ 1) ∧ OwnI wx w7.heap.size v cs ∧ Dice wx bd ∧ w7.grownBy wx (some bd)) (fun _ i _ => N - (intOf i).toNat)
            case atStart => exact ⟨0, [], Nat.zero_le _, rfl, rfl, by simp, HO0.out, HDI0.out, World.grownBy_alloc _ _ _⟩
            case round =>
              clear HO0 HDI0
              obtain ⟨wx, rfl⟩ : ∃ wx : World, wx = wr := ⟨_, rfl⟩
              obtain ⟨k, cs, hk, rfl, hcl, hcs, hoc, hdi, hgr⟩ := hrel
              have HCL := Lib.hid hcl
              have HCS := Lib.hid hcs
              have HOC := Lib.hid hoc
              have HDI := Lib.hid hdi
              have HGR := Lib.hid hgr
              clear hcl hcs hoc hdi hgr
              by_cases hlt : k < N
              · have hkN : (k : Int) < (N : Int) := by omega
                have hw := HWW.out
                have hw6 := HW6.out
                go_wp2_with fail
                clear hw hw6
                refine (below_any bd 2 wx HDI.out (by decide) (by decide)).mono ?_
                rintro e w8 ⟨r, rfl, z0, z1, hdi2, hg2⟩
                have HDI2 := Lib.hid hdi2
                have HOC2 := Lib.hid (own_src HOC.out (by omega) hg2)
                have HGR2 := Lib.hid (grownBy_trans HGR.out hg2)
                have hs78 := HGR2.out.size
                clear hdi2 hg2
                obtain ⟨i0, hi, y0, y1, y2⟩ := info_parts infoI
                go_wp2_with (at_builtin; refine wpList_append_own _ rfl _ _ 22 rfl w7.heap.size 2 i0 (.int .i64 0) 1 8 Try.underlying22 hi y0 y1 y2 rfl (by decide) _ _ _ rfl (World.ownsRow.alloc HOC2.out _) ⟨w8.heap.size, 0, none⟩ 1 1 [.int .i64 r] rfl rfl (cell_one_new _ _ _) (ints_oneCell .i64 [r]) (by have := HCL.out; unfold maxLen; omega) (by have := HCL.out; omega) (by simp; omega) ?_; intro v' w9 hown3 hgrow3 _)
                have ho9 := own_snoc hown3
                have hlo := HOC2.out.lo
                exact ⟨⟨k + 1, cs ++ [r], by omega, by go_num, by rw [List.length_append, HCL.out]; rfl, fun x hx => by
                  rcases List.mem_append.1 hx with hx | hx
                  · exact HCS.out x hx
                  · simp at hx; omega, ho9, (HDI2.out.below (ba1 _ _)).kept hgrow3 (fun j e => by have := hlo j e; omega), (grownBy_trans HGR2.out (World.grownBy_alloc _ _ _)).andThen hgrow3 (fun j e => Or.inl (hlo j e))⟩, by simp [intOf]; omega⟩
              · have hkN : k = N := by omega
                have hcl := HCL.out
                rw [hkN] at hcl
                obtain ⟨a14, c14, rfl, hi14⟩ := HOC.out.read
                have hsx := HGR.out.size
                have HP9 := Lib.hid ((HGR.out.block BP (by omega) (fun e => by have := Option.some.inj e; omega)).trans HP7.out)
                have HD9 := Lib.hid (dms_turn HD7.out HGR.out (fun ad e h0 => by have := HDb.out ad e h0; omega))
                have HB9 := Lib.hid (HB7.out.trans (below_of_grownBy HGR.out HB7.out.size (fun j e => by have := Option.some.inj e; omega)))
                have HM9 := Lib.hid (HOM7.out.other HGR.out (fun j e e' => by have h1 := Option.some.inj e; have h2 := Option.some.inj e'; dsimp only at h1; omega)).ints
                have HC9 := Lib.hid hi14
                have hcN := Lib.hid hcl
                obtain ⟨xs1, hxs1⟩ : ∃ xs1, pix (pxV n m cs p t q b d l) K (H * K) = xs1 := ⟨_, rfl⟩
                have hx1l : xs1.length = H * K := by rw [← hxs1, pix_len]
                have hx1g : Greys xs1 := by
                  rw [← hxs1]
                  intro x hx
                  obtain ⟨i, _, rfl⟩ := List.mem_map.1 hx
                  exact pxV_grey b5 b6 b7 _ _
                have HR1 := Lib.hid (ras_of s1 s2 s3 s4 s5 hx1l hx1g)
                obtain ⟨xs2, hxs2⟩ : ∃ xs2, dmsL H K ds xs1 = xs2 := ⟨_, rfl⟩
                have hallok : ds.all Dm.ok = true := List.all_eq_true.2 (fun d hd => (loc_ok (List.all_eq_true.1 HLOC.out d hd)).1)
                have hx2l : xs2.length = H * K := by rw [← hxs2]; exact dmsL_len hx1l ds
                have hx2g : Greys xs2 := by rw [← hxs2]; exact dmsL_greys hx1g ds (fun d hd => List.all_eq_true.1 hallok d hd)
                have HR2 := Lib.hid (ras_of s1 s2 s3 s4 s5 hx2l hx2g)
                have hap : ∀ W, RetAp W (H : Int) (K : Int) xs1 ds = RetRC W H K xs2 0 := fun W => by
                  rw [RetAp, if_pos HR1.out, if_neg h20, if_pos hallok, Int.toNat_natCast, Int.toNat_natCast, hxs2]
                have HAP := Lib.hid hap
                have HX1 := Lib.hid hxs1
                have HX2 := Lib.hid hxs2
                have HX1L := Lib.hid hx1l
                have HX2L := Lib.hid hx2l
                have hps' : PsIs (n : Int) (m : Int) p t q b d l (H : Int) (K : Int) 0 := by have := HPS.out; rwa [HE1.out, HE2.out] at this
                have HPS2 := Lib.hid hps'
                have hx1m : xs1.length ≤ maxLen := by unfold maxLen; omega
                have HX1M := Lib.hid hx1m
                have hcall := printGrid_ok (n := n) (m := m) (H := H) (K := K) (xs := cs) (a := a14) (cp := c14) (W := wx) (by omega) (by omega) (by rw [HNN.out]; exact hN) (by rw [HNN.out]; exact hcl) HCS.out hi14 HPR.out hps' s2 s4 s5 HE1.out HE2.out
                rw [hxs1] at hcall
                have HCALL := Lib.hid hcall
                have hcP := (heap_cellR HP9.out).1
                have hlP := blkLt HP9.out
                clear hcl hi14 HOC HGR HDI HP7 HD7 HB7 HOM7 hxs1 hxs2 hx1g hx2g hap hps' hx1m hcall hallok hx1l hx2l
                have hw := HWW.out
                have hw6 := HW6.out
                go_wp2_with fail
                clear hw hw6 hcP
                refine HCALL.out.mono ?_
                rintro e w11 ⟨aX, cX, rfl, ho, hb⟩
                have HP10 := Lib.hid (push_old (A := .cells #[.int .i64 (H : Int), .int .i64 (K : Int), .slice aX xs1.length cX] 28 (0, 0)) (blkK hb HP9.out))
                have HD10 := Lib.hid ((HD9.out.below hb).below (ba1 w11 (.cells #[.int .i64 (H : Int), .int .i64 (K : Int), .slice aX xs1.length cX] 28 (0, 0))))
                have HM10 := Lib.hid ((HM9.out.below hb).below (ba1 w11 (.cells #[.int .i64 (H : Int), .int .i64 (K : Int), .slice aX xs1.length cX] 28 (0, 0))))
                have HB10 := Lib.hid (bt0 (bt0 HB9.out hb (Nat.le_refl _)) (ba1 w11 (.cells #[.int .i64 (H : Int), .int .i64 (K : Int), .slice aX xs1.length cX] 28 (0, 0))) (Nat.le_refl _))
                have HI10 := Lib.hid (ho.ints.below (ba1 w11 (.cells #[.int .i64 (H : Int), .int .i64 (K : Int), .slice aX xs1.length cX] 28 (0, 0))))
                have HY10 := Lib.hid (push_at w11 (.cells #[.int .i64 (H : Int), .int .i64 (K : Int), .slice aX xs1.length cX] 28 (0, 0)))
                clear ho hb HP9 HD9 HM9 HB9 HC9 HCALL hlP
                go_wp2_with fail
                generalize w11.alloc (.cells #[.int .i64 (H : Int), .int .i64 (K : Int), .slice aX xs1.length cX] 28 (0, 0)) = w12 at *
                obtain ⟨BX, hBX⟩ : ∃ BX, w11.heap.size = BX := ⟨_, rfl⟩
                rw [hBX] at HY10 ⊢
                clear hBX
                refine (applyDamages_any H K aX xs1 cX aL ds cL w12 HI10.out HX1M.out HD10.out (by omega)).mono ?_
                rw [HAP.out]
                rintro e w13 ⟨aQ, cQ, rfl, ho, hb⟩
                have HP11 := Lib.hid (push_old (A := .cells #[.int .i64 (H : Int), .int .i64 (K : Int), .slice aQ xs2.length cQ] 28 (0, 0)) (blkK hb HP10.out))
                have HY11 := Lib.hid (push_old (A := .cells #[.int .i64 (H : Int), .int .i64 (K : Int), .slice aQ xs2.length cQ] 28 (0, 0)) (blkK hb HY10.out))
                have HM11 := Lib.hid ((HM10.out.below hb).below (ba1 w13 (.cells #[.int .i64 (H : Int), .int .i64 (K : Int), .slice aQ xs2.length cQ] 28 (0, 0))))
                have HI11 := Lib.hid ((HI10.out.below hb).below (ba1 w13 (.cells #[.int .i64 (H : Int), .int .i64 (K : Int), .slice aQ xs2.length cQ] 28 (0, 0))))
                have HJ11 := Lib.hid (ho.ints.below (ba1 w13 (.cells #[.int .i64 (H : Int), .int .i64 (K : Int), .slice aQ xs2.length cQ] 28 (0, 0))))
                have HB11 := Lib.hid (bt0 (bt0 HB10.out hb (Nat.le_refl _)) (ba1 w13 (.cells #[.int .i64 (H : Int), .int .i64 (K : Int), .slice aQ xs2.length cQ] 28 (0, 0))) (Nat.le_refl _))
                have HZ11 := Lib.hid (push_at w13 (.cells #[.int .i64 (H : Int), .int .i64 (K : Int), .slice aQ xs2.length cQ] 28 (0, 0)))
                have hcP := (heap_cellR (blkK hb HP10.out)).1
                have hcY := (heap_cellR (blkK hb HY10.out)).1
                have hlP := blkLt (blkK hb HP10.out)
                have hlY := blkLt (blkK hb HY10.out)
                clear ho hb HP10 HD10 HM10 HB10 HI10 HY10
                go_wp2_with fail
                clear hcP hcY hlP hlY
                generalize w13.alloc (.cells #[.int .i64 (H : Int), .int .i64 (K : Int), .slice aQ xs2.length cQ] 28 (0, 0)) = w14 at *
                obtain ⟨BQ', hBQ⟩ : ∃ B', w13.heap.size = B' := ⟨_, rfl⟩
                rw [hBQ] at HZ11 ⊢
                clear hBQ
                obtain ⟨lim, hlim⟩ : ∃ lim, (d + l + 1) / 2 = lim := ⟨_, rfl⟩
                have hcall1 := sampleGrid_ok (n := n) (m := m) (H := H) (K := K) (zs := xs1) (a := aX) (cp := cX) (lim := lim) (W := w14) (by omega) (by omega) (by rw [HNN.out]; exact hN) HR1.out HI11.out HPR.out HPS2.out HE1.out HE2.out
                obtain ⟨ga, hga⟩ : ∃ ga, pix (smG q t p lim K xs1) m (n * m) = ga := ⟨_, rfl⟩
                obtain ⟨gb, hgb⟩ : ∃ gb, pix (smG q t p lim K xs2) m (n * m) = gb := ⟨_, rfl⟩
                rw [hga] at hcall1
                have HGA := Lib.hid hga
                have HGB := Lib.hid hgb
                have HGAL : Hid (ga.length = N) := Lib.hid (by rw [← hga, pix_len, HNN.out])
                have HGBL : Hid (gb.length = N) := Lib.hid (by rw [← hgb, pix_len, HNN.out])
                have HCALL := Lib.hid hcall1
                rw [hlim]
                clear hga hgb hcall1 hlim
                refine HCALL.out.mono ?_
                rintro e w15 ⟨aA, cA, rfl, ho, hb⟩
                have HP12 := Lib.hid (push_old (A := .cells #[.int .i64 (n : Int), .int .i64 (m : Int), .slice aA ga.length cA] 68 (0, 0)) (blkK hb HP11.out))
                have HM12 := Lib.hid ((HM11.out.below hb).below (ba1 w15 (.cells #[.int .i64 (n : Int), .int .i64 (m : Int), .slice aA ga.length cA] 68 (0, 0))))
                have HJ12 := Lib.hid ((HJ11.out.below hb).below (ba1 w15 (.cells #[.int .i64 (n : Int), .int .i64 (m : Int), .slice aA ga.length cA] 68 (0, 0))))
                have HA12 := Lib.hid (ho.ints.below (ba1 w15 (.cells #[.int .i64 (n : Int), .int .i64 (m : Int), .slice aA ga.length cA] 68 (0, 0))))
                have HB12 := Lib.hid (bt0 (bt0 HB11.out hb (Nat.le_refl _)) (ba1 w15 (.cells #[.int .i64 (n : Int), .int .i64 (m : Int), .slice aA ga.length cA] 68 (0, 0))) (Nat.le_refl _))
                have HV12 := Lib.hid (push_at w15 (.cells #[.int .i64 (n : Int), .int .i64 (m : Int), .slice aA ga.length cA] 68 (0, 0)))
                have hcP := (heap_cellR (blkK hb HP11.out)).1
                have hcZ := (heap_cellR (blkK hb HZ11.out)).1
                have hlP := blkLt (blkK hb HP11.out)
                have hlZ := blkLt (blkK hb HZ11.out)
                clear ho hb HP11 HM11 HJ11 HB11 HZ11 HI11 HY11 HCALL
                go_wp2_with fail
                clear hcP hcZ hlP hlZ
                generalize w15.alloc (.cells #[.int .i64 (n : Int), .int .i64 (m : Int), .slice aA ga.length cA] 68 (0, 0)) = w16 at *
                obtain ⟨BV, hBV⟩ : ∃ B', w15.heap.size = B' := ⟨_, rfl⟩
                rw [hBV] at HV12 ⊢
                clear hBV
                have hcall1 := sampleGrid_ok (n := n) (m := m) (H := H) (K := K) (zs := xs2) (a := aQ) (cp := cQ) (lim := lim) (W := w16) (by omega) (by omega) (by rw [HNN.out]; exact hN) HR2.out HJ12.out HPR.out HPS2.out HE1.out HE2.out
                rw [HGB.out] at hcall1
                have HCALL := Lib.hid hcall1
                clear hcall1
                refine HCALL.out.mono ?_
                rintro e w17 ⟨aB, cB, rfl, ho, hb⟩
                have HM13 := Lib.hid ((HM12.out.below hb).below (ba1 w17 (.cells #[.int .i64 (n : Int), .int .i64 (m : Int), .slice aB gb.length cB] 68 (0, 0))))
                have HA13 := Lib.hid ((HA12.out.below hb).below (ba1 w17 (.cells #[.int .i64 (n : Int), .int .i64 (m : Int), .slice aB gb.length cB] 68 (0, 0))))
                have HG13 := Lib.hid (ho.ints.below (ba1 w17 (.cells #[.int .i64 (n : Int), .int .i64 (m : Int), .slice aB gb.length cB] 68 (0, 0))))
                have HB13 := Lib.hid (bt0 (bt0 HB12.out hb (Nat.le_refl _)) (ba1 w17 (.cells #[.int .i64 (n : Int), .int .i64 (m : Int), .slice aB gb.length cB] 68 (0, 0))) (Nat.le_refl _))
                have HV13 := Lib.hid (push_old (A := .cells #[.int .i64 (n : Int), .int .i64 (m : Int), .slice aB gb.length cB] 68 (0, 0)) (blkK hb HV12.out))
                have HW13 := Lib.hid (push_at w17 (.cells #[.int .i64 (n : Int), .int .i64 (m : Int), .slice aB gb.length cB] 68 (0, 0)))
                have hcV := (heap_cellR (blkK hb HV12.out)).1
                have hlV := blkLt (blkK hb HV12.out)
                have hg1 : ((ga.length : Int) != (N : Int)) = false := by rw [HGAL.out]; simp
                have hg2 : ((gb.length : Int) != (N : Int)) = false := by rw [HGBL.out]; simp
                clear ho hb HP12 HM12 HJ12 HA12 HB12 HV12 HCALL
                go_wp2_with fail
                clear hcV hlV
                generalize w17.alloc (.cells #[.int .i64 (n : Int), .int .i64 (m : Int), .slice aB gb.length cB] 68 (0, 0)) = wF at *
                obtain ⟨BW, hBW⟩ : ∃ B', w17.heap.size = B' := ⟨_, rfl⟩
                rw [hBW] at HW13 ⊢
                clear hBW
                have HLAW : Hid (∀ i, i < N → mk[i]? = some 0 → ga[i]? = gb[i]?) := Lib.hid (fun i hi hz => by
                  have hnot := HMK.out.2 i hi hz
                  rw [List.take_of_length_le (Nat.le_refl _)] at hnot
                  have hm1 : 0 < m := by omega
                  have hiN : i < n * m := by rw [HNN.out]; exact hi
                  have hrn : i / m < n := Nat.div_lt_of_lt_mul (by rw [Nat.mul_comm]; exact hiN)
                  have hcm : i % m < m := Nat.mod_lt _ hm1
                  have hT : tch ds (smp q t (i / m)) (smp q p (i % m)) = false := by
                    rcases Bool.eq_false_or_eq_true (tch ds (smp q t (i / m)) (smp q p (i % m))) with h | h
                    · exact absurd (by rw [← HPE.out]; exact plL_mem (T := fun r c => tch ds (smp q t r) (smp q p c)) hi h) hnot
                    · exact h
                  have hy := smp_bd hrn b3 b2
                  have hx := smp_bd hcm b3 b1
                  rw [HE1.out] at hy
                  rw [HE2.out] at hx
                  obtain ⟨Y, hY⟩ := Int.eq_ofNat_of_zero_le hy.1
                  obtain ⟨X, hX⟩ := Int.eq_ofNat_of_zero_le hx.1
                  rw [hY] at hy hT
                  rw [hX] at hx hT
                  have hu := dms_untouched (H := H) (K := K) (y := Y) (x := X) (by omega) (by omega) ds xs1 HLOC.out hT HX1L.out
                  rw [HX2.out] at hu
                  rw [← HGA.out, ← HGB.out, pix, pix, List.getElem?_map, List.getElem?_map, List.getElem?_range hiN]
                  simp only [Option.map_some, smG, hY, hX, Int.toNat_natCast, hu])
                have hmkl := HMK.out.1
                have HMKL := Lib.hid hmkl
                obtain ⟨hcV, hfV⟩ := heap_cellR HV13.out
                obtain ⟨hcW, hfW⟩ := heap_cellR HW13.out
                clear hmkl hfV hfW
                try clear hcc
                try clear h20
                try clear r2
                try clear r3
                try clear s1
                try clear s2
                try clear s3
                try clear s4
                try clear s5
                try clear b1
                try clear b2
                try clear b3
                try clear b4
                try clear b5
                try clear b6
                try clear b7
                try clear hplen
                try clear hnm
                try clear hg1
                try clear hg2
                try clear hll
                try clear hsx
                try clear hbd
                try clear hbd7
                try clear hwr6
                try clear hlV
                try clear hlP
                try clear hwMB
                try clear hs5
                try clear hPB
                try clear hb1s
                try clear HPR
                try clear HPS
                try clear HPS2
                try clear HLOC
                try clear HE1
                try clear HE2
                try clear HPE
                try clear HPIN
                try clear HNN
                try clear HWW
                try clear HW6
                try clear HAP
                try clear HX1
                try clear HX2
                try clear HX1L
                try clear HX2L
                try clear HX1M
                try clear HR1
                try clear HR2
                try clear HCL
                try clear HCS
                try clear HGA
                try clear HGB
                try clear HMK
                try clear HDb
                try clear hcN
                try clear hkN
                go_loopw [25] (fun i wr => ∃ k nn : Nat, k ≤ N ∧ i = .int .i64 k ∧ wr = wF.drewN nn) (fun i _ => N - (intOf i).toNat)
                case atStart => exact ⟨0, 0, Nat.zero_le _, rfl, rfl⟩
                case round =>
                  obtain ⟨i, nn, hi, rfl, rfl⟩ := hrel
                  by_cases hlt : i < N
                  · obtain ⟨bm, om, zm, hbm, hzm, hlm, hcm⟩ := HM13.out.at (k := i) (by rw [HMKL.out]; exact hlt)
                    simp only [Option.some.injEq, Addr.mk.injEq, and_true] at hbm
                    obtain ⟨rfl, rfl⟩ := hbm
                    obtain ⟨ba, oa, za, rfl, hza, hla, hca⟩ := HA13.out.at (k := i) (by rw [HGAL.out]; exact hlt)
                    obtain ⟨bb, ob, zb, rfl, hzb, hlb, hcb⟩ := HG13.out.at (k := i) (by rw [HGBL.out]; exact hlt)
                    have hiN : (i : Int) < (N : Int) := by omega
                    have hiA : (i : Int) < (ga.length : Int) := by rw [HGAL.out]; exact hiN
                    have hiB : (i : Int) < (gb.length : Int) := by rw [HGBL.out]; exact hiN
                    rw [Nat.zero_add] at hcm
                    by_cases hz0 : zm = 0
                    · subst hz0
                      have hab : (za != zb) = false := by
                        have h := HLAW.out i hlt hzm
                        rw [hza, hzb] at h
                        simp [Option.some.inj h]
                      clear hzm hza hzb
                      go_wp2_with fail
                      go_quiet (fail)
                      go_wp2_with fail
                      exact ⟨⟨i + 1, _, by omega, by go_num, rfl⟩, by simp [intOf]; omega⟩
                    · have hz1 : (zm == 0) = false := by simp [hz0]
                      clear hzm hza hzb
                      go_wp2_with fail
                      go_quiet (fail)
                      go_wp2_with fail
                      exact ⟨⟨i + 1, _, by omega, by go_num, rfl⟩, by simp [intOf]; omega⟩
                  · have hiN : ¬ (i : Int) < (N : Int) := by omega
                    go_wp2_with fail
                    go_ret
                    exact ⟨rfl, below_drewN HB13.out _⟩
    · have hcn : (cd != 0) = true := by simp [hcd]
      go_wp2_with fail
      go_ret
      exact ⟨rfl, HB4.out⟩
  · have hbig : decide ((4096 : Int) < n0) = true := by simp; omega
    go_enter Try.func7, Try.ntmps7
    go_wp2_with fail
    refine (big_any a n0 c _).mono ?_
    rintro e w0 ⟨rfl, rfl⟩
    rw [hbig]
    go_wp2_with fail
    go_ret
    exact ⟨rfl, Below.refl _ _⟩

end Go.Proofs.Ythnjfdhijpfekaa
