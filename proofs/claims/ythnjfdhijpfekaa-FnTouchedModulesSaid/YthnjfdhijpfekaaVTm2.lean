import Derived.Test.YthnjfdhijpfekaaVTm1
namespace Go.Proofs.Ythnjfdhijpfekaa
open Go.RowKit

theorem all_take {α : Type} {xs : List α} {p : α → Bool} {k : Nat} {x : α} (hx : xs[k]? = some x) (h : (xs.take k).all p = true) (hp : p x = true) : (xs.take (k + 1)).all p = true := by
  rw [take_snoc' hx, List.all_append, h]
  simp [hp]
theorem all_fail {α : Type} {xs : List α} {p : α → Bool} {k : Nat} {x : α} (hx : xs[k]? = some x) (hp : p x = false) : xs.all p = false := by
  rw [List.all_eq_false]
  exact ⟨x, List.mem_of_getElem? hx, by rw [hp]; decide⟩
theorem any_take {α : Type} {xs : List α} {p : α → Bool} {k : Nat} {x : α} (hx : xs[k]? = some x) (h : (xs.take k).any p = false) (hp : p x = false) : (xs.take (k + 1)).any p = false := by
  rw [take_snoc' hx, List.any_append, h]
  simp [hp]
theorem any_hit {α : Type} {xs : List α} {p : α → Bool} {k : Nat} {x : α} (hx : xs[k]? = some x) (hp : p x = true) : xs.any p = true := List.any_eq_true.2 ⟨x, List.mem_of_getElem? hx, hp⟩
theorem retPC_nil {W w : World} {cd : Int} (hb : Below W.heap.size W w) : RetPC W [] cd (.returned (.tuple #[.slice none 0 0, .int .i64 cd])) w := ⟨none, 0, rfl, OwnP.nil _ _, hb⟩

theorem plL_yes' {T : Nat → Nat → Bool} {m k j t0 : Nat} {PL : List (Nat × Nat)} (hj : j < m) (h : T k j = true) (ht : k * m = t0) (hp : plL T m (t0 + j) = PL) : plL T m (t0 + j + 1) = PL ++ [(k, j)] := by
  subst ht hp
  exact plL_yes hj h
theorem plL_no' {T : Nat → Nat → Bool} {m k j t0 : Nat} {PL : List (Nat × Nat)} (hj : j < m) (h : T k j = false) (ht : k * m = t0) (hp : plL T m (t0 + j) = PL) : plL T m (t0 + j + 1) = PL := by
  subst ht hp
  exact plL_no hj h

/-- while the tests are made -/
def StT (w1 : World) (ds : List Dm) (k : Nat) (v : Value) (wr : World) : Prop := OwnV wr w1.heap.size v ((ds.take k).map tfn) ∧ Below w1.heap.size w1 wr
theorem StT.below {w1 wr w' : World} {ds : List Dm} {k : Nat} {v : Value} (h : StT w1 ds k v wr) (hb : Below wr.heap.size wr w') : StT w1 ds k v w' := ⟨h.1.grown hb, bt0 h.2 hb (Nat.le_refl _)⟩
theorem StT.more {w1 wr w' : World} {ds : List Dm} {k : Nat} {v v' : Value} {d : Dm} (h : StT w1 ds k v wr) (hd : ds[k]? = some d) (_hl : ((ds.take k).map tfn).length = k) (ho : w'.ownsRow w1.heap.size 80 1 v' (((ds.take k).map tfn).length + 1) ((ds.take k).map tfn ++ [tfn d])) (hg : wr.grownBy w' v.ownBlock) : StT w1 ds (k + 1) v' w' := by
  refine ⟨?_, h.2.trans (below_of_grownBy hg h.2.size (fun j e => h.1.at j e))⟩
  unfold OwnV
  rw [take_snoc' hd, List.map_append, List.length_append]
  exact ho

set_option maxRecDepth 100000 in
set_option maxHeartbeats 2000000 in
theorem touchedModules_fit {ds : List Dm} {a : Option Addr} {c : Nat} {n m : Nat} {p t q b d l : Int} {W : World} (hp : prOk p t q b d l = true) (hn : 1 ≤ n ∧ n ≤ 400) (hm : 1 ≤ m ∧ m ≤ 400) (hps : PsIs n m p t q b d l (psz n q t) (psz m q p) 0) (hy : psz n q t ≤ 400) (hx : psz m q p ≤ 400) (hN : n * m ≤ 40000) (h20 : ¬ 20 < ds.length) (hds : DmsAt W a ds) {PS : List (Nat × Nat)} {CD : Int} (hR1 : ds.all Dm.loc = true → PS = plL (fun r c => tch ds (smp q t r) (smp q p c)) m (n * m) ∧ CD = 0) (hR2 : ds.all Dm.loc = false → PS = [] ∧ CD = 5) :
    Calls Try.prog 29 #[.slice a ds.length c, .agg #[.int .i64 p, .int .i64 t, .int .i64 q, .int .i64 b, .int .i64 d, .int .i64 l], .int .i64 (n : Int), .int .i64 (m : Int)] W (RetPC W PS CD) := by
  have HR1 := Lib.hid hR1
  have HR2 := Lib.hid hR2
  clear hR1 hR2
  have HDS := Lib.hid hds
  have HPS := Lib.hid hps
  have HP := Lib.hid hp
  have h20' : ¬ (20 : Int) < (ds.length : Int) := by omega
  obtain ⟨b1, b2, b3, _⟩ := pr_bounds hp
  clear hds hps hp
  obtain ⟨i0, hi, y0, y1, y2⟩ := info_parts infoFn
  have HI := Lib.hid (And.intro hi (And.intro y0 (And.intro y1 y2)))
  clear hi y0 y1 y2
  obtain ⟨i2, hi, y0, y1, y2⟩ := info_parts infoPl
  have HI2 := Lib.hid (And.intro hi (And.intro y0 (And.intro y1 y2)))
  clear hi y0 y1 y2
  go_enter Try.func29, Try.ntmps29
  go_wp2_with fail
  refine (printSize_val HPS.out).mono ?_
  rintro e w1 ⟨rfl, hb⟩
  have hPB := blkK hb (push_at W (.cells #[.int .i64 p, .int .i64 t, .int .i64 q, .int .i64 b, .int .i64 d, .int .i64 l] 54 (0, 0)))
  have HPB := Lib.hid hPB
  have HB := Lib.hid (bt1 hb)
  have hWw := blkLt hPB
  clear hb hPB
  go_wp2_with fail
  have H0 : Hid (StT w1 ds 0 (.slice (some ⟨w1.heap.size, 0, none⟩) 0 0) (w1.alloc (.cells #[] 80 (0, 0)))) := Lib.hid ⟨OwnV.new w1, ba1 _ _⟩
  go_loopw [13, 42] (fun v i wr => ∃ k : Nat, k ≤ ds.length ∧ i = .int .i64 k ∧ (ds.take k).all Dm.loc = true ∧ StT w1 ds k v wr) (fun _ i _ => ds.length - (intOf i).toNat)
  case atStart => exact ⟨0, Nat.zero_le _, rfl, rfl, H0.out⟩
  case round =>
    clear H0
    obtain ⟨k, hk, rfl, hall, hst⟩ := hrel
    have HST := Lib.hid hst
    have HALL := Lib.hid hall
    have hlen : ((ds.take k).map tfn).length = k := by rw [List.length_map, List.length_take]; omega
    have HLEN := Lib.hid hlen
    clear hst hall hlen
    by_cases hlt : k < ds.length
    · obtain ⟨b9, o9, ⟨k0, r0, c0, t0, v0, g0⟩, rfl, hdk, hb9, hc0, hc1, hc2, hc3, hc4, hc5⟩ := ((HDS.out.below HB.out).below (Below.mono HST.out.2 (Nat.le_refl _))).at hlt
      dsimp only at hc0 hc1 hc2 hc3 hc4 hc5
      have HK := Lib.hid hdk
      clear hdk
      rcases Bool.eq_false_or_eq_true (Dm.loc ⟨k0, r0, c0, t0, v0, g0⟩) with hd | hd
      · have HD := Lib.hid hd
        clear hd
        go_wp2_with fail
        refine (touching_yes HD.out).mono ?_
        rintro e w2 ⟨rfl, hb⟩
        have HST2 := Lib.hid ((HST.out.below (ba1 _ _)).below hb)
        clear hb hc0 hc1 hc2 hc3 hc4 hc5
        obtain ⟨KF, hTF⟩ : ∃ KF, tfn ⟨k0, r0, c0, t0, v0, g0⟩ = .func (.func KF) #[.agg #[.int .i64 k0, .int .i64 r0, .int .i64 c0, .int .i64 t0, .int .i64 v0, .int .i64 g0]] #[] := ⟨_, rfl⟩
        have HTF := Lib.hid hTF
        rw [hTF]
        clear hTF
        go_wp2_with (at_builtin; refine wpList_append_own _ rfl _ _ 99 rfl w1.heap.size 80 i0 .nilFunc 1 8 Try.underlying99 HI.out.1 HI.out.2.1 HI.out.2.2.1 HI.out.2.2.2 rfl (by decide) _ _ _ rfl (World.ownsRow.alloc HST2.out.1 _) ⟨w2.heap.size, 0, none⟩ 1 1 [.func (.func KF) #[.agg #[.int .i64 k0, .int .i64 r0, .int .i64 c0, .int .i64 t0, .int .i64 v0, .int .i64 g0]] #[]] rfl rfl (cell_one_new _ _ _) (by rw [← HTF.out]; exact tfn_one _) (by have := HLEN.out; unfold maxLen; omega) (by have := HLEN.out; omega) (by have := HST2.out.2.size; simp; omega) ?_; intro v' w9 hown3 hgrow3 _)
        rw [← HTF.out] at hown3
        exact ⟨⟨k + 1, by omega, by go_num, all_take HK.out HALL.out HD.out, (HST2.out.below (ba1 _ _)).more HK.out HLEN.out hown3 hgrow3⟩, by simp [intOf]; omega⟩
      · have HD := Lib.hid hd
        clear hd
        obtain ⟨hps0, hcd0⟩ := HR2.out (all_fail HK.out HD.out)
        have HPE := Lib.hid hps0
        have HCE := Lib.hid hcd0
        clear hps0 hcd0
        go_wp2_with fail
        refine (touching_no HD.out).mono ?_
        rintro e w2 ⟨rfl, hb⟩
        have HST2 := Lib.hid ((HST.out.below (ba1 _ _)).below hb)
        clear hb hc0 hc1 hc2 hc3 hc4 hc5
        go_wp2_with fail
        go_ret2
        rw [HPE.out, HCE.out]
        exact retPC_nil (bt0 HB.out HST2.out.2 (Nat.le_refl _))
    · obtain rfl : k = ds.length := by omega
      have hall : ds.all Dm.loc = true := by have := HALL.out; rwa [List.take_of_length_le (Nat.le_refl _)] at this
      obtain ⟨hps0, hcd0⟩ := HR1.out hall
      have HPE := Lib.hid hps0
      have HCE := Lib.hid hcd0
      have HAL := Lib.hid hall
      have hts := HST.out.1
      rw [List.take_of_length_le (Nat.le_refl _)] at hts
      obtain ⟨aT, cT, e13, hcell⟩ := hts.read
      rw [List.length_map] at e13
      have HTC := Lib.hid hcell
      have HBW := Lib.hid (bt0 HB.out HST.out.2 (Nat.le_refl _))
      have HPB2 := Lib.hid (blkK HST.out.2 HPB.out)
      have hWr := HST.out.2.size
      rw [e13]
      clear hps0 hcd0 hall hts e13 hcell HST HALL HLEN
      obtain ⟨ws, rfl⟩ : ∃ ws : World, ws = wr := ⟨_, rfl⟩
      go_wp2_with fail
      have H00 := Lib.hid (OwnP.new ws)
      go_loopw [18, 19] (fun v i wx => ∃ r : Nat, r ≤ n ∧ i = .int .i64 r ∧ OwnP wx ws.heap.size v (plL (fun r c => tch ds (smp q t r) (smp q p c)) m (r * m)) ∧ Below ws.heap.size ws wx) (fun _ i _ => n - (intOf i).toNat)
      case atStart => exact ⟨0, Nat.zero_le _, rfl, by rw [Nat.zero_mul]; exact H00.out, ba1 _ _⟩
      case round =>
        clear H00
        obtain ⟨r, hr, rfl, hop, hbw⟩ := hrel
        have HOP := Lib.hid hop
        have HBX := Lib.hid hbw
        clear hop hbw
        by_cases hlr : r < n
        · have hrn : (r : Int) < (n : Int) := by omega
          obtain ⟨t0, ht0⟩ : ∃ t0, r * m = t0 := ⟨_, rfl⟩
          rw [ht0] at HOP
          have HT0 := Lib.hid ht0
          have hkm : t0 + m ≤ n * m := by
            rw [← ht0]
            have h1 : r * m + m = (r + 1) * m := by rw [Nat.add_mul]; omega
            rw [h1]
            exact Nat.mul_le_mul_right m hlr
          clear ht0
          obtain ⟨wo, rfl⟩ : ∃ wo : World, wo = wr := ⟨_, rfl⟩
          go_wp2_with fail
          go_loopw [18, 20] (fun v i wx => ∃ cc : Nat, cc ≤ m ∧ i = .int .i64 cc ∧ OwnP wx ws.heap.size v (plL (fun r c => tch ds (smp q t r) (smp q p c)) m (t0 + cc)) ∧ Below ws.heap.size ws wx) (fun _ i _ => m - (intOf i).toNat)
          case atStart => exact ⟨0, Nat.zero_le _, rfl, HOP.out, HBX.out⟩
          case round =>
            clear HOP HBX
            obtain ⟨cc, hcc, rfl, hop, hbw⟩ := hrel
            have HOP := Lib.hid hop
            have HBX := Lib.hid hbw
            clear hop hbw
            by_cases hccm : cc < m
            · have hcm : (cc : Int) < (m : Int) := by omega
              obtain ⟨PL, hPL⟩ : ∃ PL, plL (fun r c => tch ds (smp q t r) (smp q p c)) m (t0 + cc) = PL := ⟨_, rfl⟩
              have hlpl : PL.length ≤ t0 + cc := by rw [← hPL]; exact plL_len
              have HLP : Hid (PL.length ≤ 40000) := Lib.hid (by omega)
              have hy0 := smp_bd hlr b3 b2
              have hx0 := smp_bd hccm b3 b1
              obtain ⟨A, hA⟩ : ∃ A, ((r : Int) + q) * t = A := ⟨_, rfl⟩
              obtain ⟨B, hB⟩ : ∃ B, ((cc : Int) + q) * p = B := ⟨_, rfl⟩
              obtain ⟨Y, hY⟩ : ∃ Y, smp q t r = Y := ⟨_, rfl⟩
              obtain ⟨X, hX⟩ : ∃ X, smp q p cc = X := ⟨_, rfl⟩
              have hAY : A + t / 2 = Y := by rw [← hA, ← hY]; rfl
              have hBX : B + p / 2 = X := by rw [← hB, ← hX]; rfl
              rw [hY] at hy0
              rw [hX] at hx0
              have wA : IntKind.i64.wrap (((r : Int) + q) * t) = A := by rw [hA]; exact IntWalk.i64_in _ (by omega)
              have wB : IntKind.i64.wrap (((cc : Int) + q) * p) = B := by rw [hB]; exact IntWalk.i64_in _ (by omega)
              have wt : t.tdiv 2 = t / 2 := Int.tdiv_eq_ediv_of_nonneg (by omega)
              have wp' : p.tdiv 2 = p / 2 := Int.tdiv_eq_ediv_of_nonneg (by omega)
              have HY := Lib.hid hY
              have HX := Lib.hid hX
              have HAY := Lib.hid hAY
              have HBXX := Lib.hid hBX
              have HPLE := Lib.hid hPL
              have hPX := (heap_cellR ((HBX.out.block _ (blkLt HPB2.out)).trans HPB2.out)).1
              rw [hPL] at HOP
              obtain ⟨wi, rfl⟩ : ∃ wi : World, wi = wr := ⟨_, rfl⟩
              clear hA hB hY hX hPL hAY hBX hlpl
              go_wp2_with fail
              go_quiet (fail)
              have w3 : wrap64 (A + t / 2) = Y := by rw [HAY.out]; exact IntWalk.wrap64_in _ (by omega)
              have w4 : wrap64 (B + p / 2) = X := by rw [HBXX.out]; exact IntWalk.wrap64_in _ (by omega)
              rw [w3, w4]
              have HOP2 := Lib.hid (HOP.out.grown (below_drewN (Below.refl _ _) nq))
              have HBX2 := Lib.hid (below_drewN HBX.out nq)
              clear w3 w4 wA wB wt wp' hPX HOP HBX
              generalize World.drewN wi nq = wj at *
              go_wp2_with fail
              go_loopw [18, 93] (fun v i wy => ∃ j : Nat, j ≤ ds.length ∧ i = .int .i64 j ∧ (ds.take j).any (fun d => touchB d.k d.r d.c d.t d.w Y X) = false ∧ OwnP wy ws.heap.size v PL ∧ Below ws.heap.size ws wy) (fun _ i _ => ds.length - (intOf i).toNat)
              case atStart => exact ⟨0, Nat.zero_le _, rfl, rfl, HOP2.out, HBX2.out⟩
              case round =>
                clear HOP2 HBX2
                obtain ⟨wy, rfl⟩ : ∃ wy : World, wy = wr := ⟨_, rfl⟩
                obtain ⟨j, hj, rfl, hany, hop, hbw⟩ := hrel
                have HOP := Lib.hid hop
                have HBY := Lib.hid hbw
                have HANY := Lib.hid hany
                clear hop hbw hany
                by_cases hlj : j < ds.length
                · obtain ⟨⟨k0, r0, c0, t9, v0, g0⟩, hdj⟩ : ∃ d, ds[j]? = some d := ⟨ds[j], List.getElem?_eq_getElem hlj⟩
                  have hloc := loc_ok (List.all_eq_true.1 HAL.out _ (List.mem_of_getElem? hdj))
                  obtain ⟨bT, rfl, hbT, htc⟩ := HTC.out j (tfn ⟨k0, r0, c0, t9, v0, g0⟩) (by rw [List.getElem?_map, hdj]; rfl)
                  replace htc := (HBY.out.cell (p := ⟨bT, j, none⟩) hbT).trans htc
                  have hbTy : bT < wy.heap.size := by have := HBY.out.size; omega
                  obtain ⟨hok, hk12⟩ := hloc
                  dsimp only at hk12
                  obtain ⟨_, hr, hc, ht, hw, hg, _⟩ := dm_bounds hok
                  dsimp only at hr hc ht hw hg
                  have HDJ := Lib.hid hdj
                  clear hok hdj
                  rcases hk12 with rfl | rfl
                  · have hE := blot_enter
                    have hT : wy.cell? ⟨bT, j, none⟩ = some (.func (.func 78) #[.agg #[.int .i64 1, .int .i64 r0, .int .i64 c0, .int .i64 t9, .int .i64 v0, .int .i64 g0]] #[]) := htc
                    clear htc
                    rcases Bool.eq_false_or_eq_true (touchB 1 r0 c0 t9 v0 Y X) with htb | htb
                    · have HTB := Lib.hid htb
                      clear htb
                      go_wp2_with fail
                      refine (blotTouches_val HTB.out ⟨by omega, by omega⟩ ⟨by omega, by omega⟩ ⟨by omega, by omega⟩ ⟨by omega, by omega⟩ ⟨by omega, by omega⟩).mono ?_
                      rintro e w7 ⟨rfl, hb⟩
                      have HO7 := Lib.hid (HOP.out.grown hb)
                      have HB7 := Lib.hid (bt0 HBY.out hb (Nat.le_refl _))
                      have HYES := Lib.hid (plL_yes' (T := fun r c => tch ds (smp q t r) (smp q p c)) hccm (show tch ds (smp q t r) (smp q p cc) = true by rw [HY.out, HX.out]; exact any_hit HDJ.out HTB.out) HT0.out HPLE.out)
                      clear hb hT hE
                      go_wp2_with (at_builtin; refine wpList_append_own _ rfl _ _ 57 rfl ws.heap.size 61 i2 (.agg #[.int .i64 0, .int .i64 0]) 2 16 Try.underlying57 HI2.out.1 HI2.out.2.1 HI2.out.2.2.1 HI2.out.2.2.2 rfl (by decide) _ _ _ rfl (World.ownsRow.alloc HO7.out _) ⟨w7.heap.size, 0, none⟩ 1 1 (plVs (r, cc)) rfl rfl (two_new _ (r, cc)) (two_one _) (by have := HLP.out; unfold maxLen; omega) (by have := HLP.out; omega) (by have := HB7.out.size; simp; omega) ?_; intro v' w9 hown3 hgrow3 _)
                      have ho9 := OwnP.snoc hown3
                      rw [← HYES.out] at ho9
                      exact ⟨⟨cc + 1, by omega, by go_num, by rw [← Nat.add_assoc]; exact ho9, (bt0 HB7.out (ba1 _ _) (Nat.le_refl _)).trans (below_of_grownBy hgrow3 (by have := HB7.out.size; simp; omega) (fun k e => HO7.out.at k e))⟩, by simp [intOf]; omega⟩
                    · have HTB := Lib.hid htb
                      clear htb
                      go_wp2_with fail
                      refine (blotTouches_val HTB.out ⟨by omega, by omega⟩ ⟨by omega, by omega⟩ ⟨by omega, by omega⟩ ⟨by omega, by omega⟩ ⟨by omega, by omega⟩).mono ?_
                      rintro e w7 ⟨rfl, hb⟩
                      have HO7 := Lib.hid (HOP.out.grown hb)
                      have HB7 := Lib.hid (bt0 HBY.out hb (Nat.le_refl _))
                      clear hb hT hE
                      go_wp2_with fail
                      exact ⟨⟨j + 1, by omega, by go_num, any_take HDJ.out HANY.out HTB.out, HO7.out, HB7.out⟩, by simp [intOf]; omega⟩
                  · have hE := scratch_enter
                    have hT : wy.cell? ⟨bT, j, none⟩ = some (.func (.func 79) #[.agg #[.int .i64 2, .int .i64 r0, .int .i64 c0, .int .i64 t9, .int .i64 v0, .int .i64 g0]] #[]) := htc
                    clear htc
                    rcases Bool.eq_false_or_eq_true (touchB 2 r0 c0 t9 v0 Y X) with htb | htb
                    · have HTB := Lib.hid htb
                      clear htb
                      go_wp2_with fail
                      refine (scratchTouches_val HTB.out ⟨by omega, by omega⟩ ⟨by omega, by omega⟩ ⟨by omega, by omega⟩ ⟨by omega, by omega⟩).mono ?_
                      rintro e w7 ⟨rfl, hb⟩
                      have HO7 := Lib.hid (HOP.out.grown hb)
                      have HB7 := Lib.hid (bt0 HBY.out hb (Nat.le_refl _))
                      have HYES := Lib.hid (plL_yes' (T := fun r c => tch ds (smp q t r) (smp q p c)) hccm (show tch ds (smp q t r) (smp q p cc) = true by rw [HY.out, HX.out]; exact any_hit HDJ.out HTB.out) HT0.out HPLE.out)
                      clear hb hT hE
                      go_wp2_with (at_builtin; refine wpList_append_own _ rfl _ _ 57 rfl ws.heap.size 61 i2 (.agg #[.int .i64 0, .int .i64 0]) 2 16 Try.underlying57 HI2.out.1 HI2.out.2.1 HI2.out.2.2.1 HI2.out.2.2.2 rfl (by decide) _ _ _ rfl (World.ownsRow.alloc HO7.out _) ⟨w7.heap.size, 0, none⟩ 1 1 (plVs (r, cc)) rfl rfl (two_new _ (r, cc)) (two_one _) (by have := HLP.out; unfold maxLen; omega) (by have := HLP.out; omega) (by have := HB7.out.size; simp; omega) ?_; intro v' w9 hown3 hgrow3 _)
                      have ho9 := OwnP.snoc hown3
                      rw [← HYES.out] at ho9
                      exact ⟨⟨cc + 1, by omega, by go_num, by rw [← Nat.add_assoc]; exact ho9, (bt0 HB7.out (ba1 _ _) (Nat.le_refl _)).trans (below_of_grownBy hgrow3 (by have := HB7.out.size; simp; omega) (fun k e => HO7.out.at k e))⟩, by simp [intOf]; omega⟩
                    · have HTB := Lib.hid htb
                      clear htb
                      go_wp2_with fail
                      refine (scratchTouches_val HTB.out ⟨by omega, by omega⟩ ⟨by omega, by omega⟩ ⟨by omega, by omega⟩ ⟨by omega, by omega⟩).mono ?_
                      rintro e w7 ⟨rfl, hb⟩
                      have HO7 := Lib.hid (HOP.out.grown hb)
                      have HB7 := Lib.hid (bt0 HBY.out hb (Nat.le_refl _))
                      clear hb hT hE
                      go_wp2_with fail
                      exact ⟨⟨j + 1, by omega, by go_num, any_take HDJ.out HANY.out HTB.out, HO7.out, HB7.out⟩, by simp [intOf]; omega⟩
                · have HNO := Lib.hid (plL_no' (T := fun r c => tch ds (smp q t r) (smp q p c)) (k := r) hccm (show tch ds (smp q t r) (smp q p cc) = false by
                    have := HANY.out
                    rw [List.take_of_length_le (by omega)] at this
                    rw [HY.out, HX.out]
                    exact this) HT0.out HPLE.out)
                  have ho9 := HOP.out
                  rw [← HNO.out] at ho9
                  have HO9 := Lib.hid ho9
                  clear ho9
                  go_wp2_with fail
                  exact ⟨⟨cc + 1, by omega, by go_num, by rw [← Nat.add_assoc]; exact HO9.out, HBY.out⟩, by simp [intOf]; omega⟩
            · obtain rfl : cc = m := by omega
              have hre : t0 + cc = (r + 1) * cc := by rw [Nat.add_mul, HT0.out]; omega
              have hop := HOP.out
              rw [hre] at hop
              have HOP2 := Lib.hid hop
              clear hop hre
              go_wp2_with fail
              exact ⟨⟨r + 1, by omega, by go_num, HOP2.out, HBX.out⟩, by simp [intOf]; omega⟩
        · obtain rfl : r = n := by omega
          obtain ⟨a5, c5, e18⟩ := HOP.out.read
          have hop := HOP.out
          rw [e18] at hop ⊢
          have HOP2 := Lib.hid hop
          clear hop e18 HOP
          go_wp2_with fail
          go_ret2
          rw [HPE.out, HCE.out]
          exact ⟨a5, c5, rfl, HOP2.out.weak (by omega), bt0 HBW.out HBX.out (Nat.le_refl _)⟩

end Go.Proofs.Ythnjfdhijpfekaa
