import Derived.Test.YthnjfdhijpfekaaVApG
namespace Go.Proofs.Ythnjfdhijpfekaa
open Go.RowKit

/-- a new box of the region's own -/
def BoxK (B : Nat) (cs : Array Value) (t : TypeId) (v : Value) (W : World) : Prop := ∃ b, v = .pointer (some ⟨b, 0, none⟩) ∧ B ≤ b ∧ W.heap[b]? = some (.cells cs t (0, 0))
def spBox (B : Nat) (cs : Array Value) (t : TypeId) : Sp KB := ⟨BoxK B cs t, fun _ _ _ hk ⟨b, hv, hb, hg⟩ => ⟨b, hv, hb, blkK hk hg⟩⟩
theorem kb_new {w0 W : World} {B : Nat} {cs : Array Value} {t : TypeId} (hst : StX w0 W) (hB : B ≤ w0.heap.size) : RsR (StX w0) (spBox B cs t) W (.pointer (some ⟨W.heap.size, 0, none⟩)) (W.alloc (.cells cs t (0, 0))) :=
  kb_below hst (ba1 _ _) ⟨W.heap.size, rfl, Nat.le_trans hB hst.size, push_at _ _⟩
theorem own_ne_box {w : World} {B b : Nat} {v : Value} {zs : List Int} {cs : Array Value} {t : TypeId} (ho : OwnI w B v zs) (hg : w.heap[b]? = some (.cells cs t (0, 0))) (ht : t ≠ 2) : v.ownBlock ≠ some b := by
  rcases ho.2 with ⟨rfl, h0⟩ | ⟨g, cap, cur, rfl, hb, hg2, r⟩
  · intro e; cases e
  · intro e
    obtain rfl := Option.some.inj e
    rw [hg] at hg2
    injection hg2 with hc
    injection hc with _ hc
    exact ht hc

/-- as ApAt, and the argument's box stands -/
def ApBt (W wr : World) (BX : Nat) (cs : Array Value) (n m : Int) (zs : List Int) : Prop := ApAt W wr BX n m zs ∧ wr.heap[W.heap.size]? = some (.cells cs 28 (0, 0))
theorem ApBt.make {W wr : World} {BX : Nat} {cs : Array Value} {n m : Int} {zs : List Int} {a : Option Addr} {c : Nat} {x0 x1 x2 : Value} (h1 : wr.heap[BX]? = some (.cells #[x0, x1, x2] 28 (0, 0))) (ho : OwnI wr (W.heap.size + 1 + 1) (.slice a zs.length c) zs)
    (hne : (Value.slice a zs.length c).ownBlock ≠ some BX) (h4 : wr.heap[W.heap.size + 1]? = some (.cells #[.int .i64 0, .int .i64 0, .slice none 0 0] 28 (0, 0))) (hb : Below W.heap.size W wr) (h6 : W.heap.size + 1 < BX) (h0 : wr.heap[W.heap.size]? = some (.cells cs 28 (0, 0))) :
    ApBt W (((wr.setCell ⟨BX, 0, none⟩ (.int .i64 n)).setCell ⟨BX, 1, none⟩ (.int .i64 m)).setCell ⟨BX, 2, none⟩ (.slice a zs.length c)) BX cs n m zs := by
  refine ⟨⟨a, c, box3set h1, ho.other (box3grown _ _ _ _ _) (fun k hk e => hne (by rw [hk, ← e])), hne, ?_, ?_, h6⟩, ?_⟩
  · exact ((box3grown wr BX _ _ _).block _ (blkLt h4) (fun e => by have := Option.some.inj e; omega)).trans h4
  · iterate 3 (refine Below.setCell ?_ (by dsimp only; omega) _)
    exact hb
  · exact ((box3grown wr BX _ _ _).block _ (blkLt h0) (fun e => by have := Option.some.inj e; omega)).trans h0
theorem codeL_lim {ds : List Dm} (h : 20 < ds.length) : codeL ds = 3 := by rw [codeL, if_pos h]
theorem codeL_ok {ds : List Dm} (h : ¬ 20 < ds.length) (h2 : ds.all Dm.ok = true) : codeL ds = 0 := by rw [codeL, if_neg h, if_pos h2]
theorem codeL_bad {ds : List Dm} (h : ¬ 20 < ds.length) (h2 : ds.all Dm.ok = false) : codeL ds = 2 := by rw [codeL, if_neg h, if_neg (by rw [h2]; decide)]

set_option maxRecDepth 100000 in
set_option maxHeartbeats 2000000 in
theorem specApplyDamages_bad (n m : Int) (a : Option Addr) (xs : List Int) (cp : Nat) (b : Option Addr) (ds : List Dm) (cq : Nat) (W : World) (hx : IntsAt W a xs) (lx : xs.length ≤ maxLen) (hds : DmsAt W b ds) (ld : ds.length ≤ 1099511627776) (h1 : rasOk n m xs = true) (cd : Int) (hc : codeL ds = cd) (h0 : cd ≠ 0) (hR : RetAp W n m xs ds = RetRC W 0 0 [] cd) :
    Calls Try.prog 22 #[.agg #[.int .i64 n, .int .i64 m, .slice a xs.length cp], .slice b ds.length cq] W (RetAp W n m xs ds) := by
  rw [hR]
  have HX := Lib.hid hx
  have HDS := Lib.hid hds
  have LX := Lib.hid lx
  have H1 := Lib.hid h1
  have HC := Lib.hid hc
  have hcd : (cd != 0) = true := by simp [h0]
  clear hx hds lx h1 hc hR
  go_enter Try.func22, Try.ntmps22
  go_wp2_with fail
  obtain ⟨e1, e2⟩ := heap2 W (.cells #[.int .i64 n, .int .i64 m, .slice a xs.length cp] 28 (0, 0)) (.cells #[.int .i64 0, .int .i64 0, .slice none 0 0] 28 (0, 0))
  refine (specIsRaster_val H1.out (HX.out.below (ba2 _ _ _)) LX.out).mono ?_
  rintro e w1 ⟨rfl, hb1⟩
  replace e2 := blkK hb1 e2
  have HB1 := Lib.hid (bt2 hb1)
  clear hb1 e1
  go_wp2_with fail
  refine (l27Code_val HC.out (HDS.out.below HB1.out) ld).mono ?_
  rintro e w2 ⟨rfl, hb2⟩
  replace e2 := blkK hb2 e2
  obtain ⟨hcR, hfR⟩ := heap_cellR e2
  have hs2 := blkLt e2
  have HB2 := Lib.hid (bt0 HB1.out hb2 (Nat.le_refl _))
  clear hb2 e2
  go_wp2_with fail
  exact bodyPost_ret (v := .tuple #[.agg #[.int .i64 0, .int .i64 0, .slice none 0 0], .int .i64 cd]) (by simp [results, Try.results22, go_sem, hcR]) rfl (retRC_box (b0 := W.heap.size + 1 + 1) (by omega) (ownNil _ _ (by omega)) HB2.out (by omega) (by omega) _ _ _)

set_option maxRecDepth 100000 in
set_option maxHeartbeats 2000000 in
theorem specApplyDamages_ok (n m : Nat) (a : Option Addr) (xs : List Int) (cp : Nat) (b : Option Addr) (ds : List Dm) (cq : Nat) (W : World) (hx : IntsAt W a xs) (hsl : Slc a xs) (hds : DmsAt W b ds) (h1 : rasOk n m xs = true) (h20 : ¬ 20 < ds.length) (h2 : ds.all Dm.ok = true) (lx : xs.length ≤ maxLen) :
    Calls Try.prog 22 #[.agg #[.int .i64 (n : Int), .int .i64 (m : Int), .slice a xs.length cp], .slice b ds.length cq] W (RetRC W n m (dmsL n m ds xs) 0) := by
  obtain ⟨n', m', en, em, p1, p2, p3, p4, p5, p6, p7⟩ := ras_nat h1
  obtain rfl : n = n' := by omega
  obtain rfl : m = m' := by omega
  have hN1 : 1 ≤ n * m := Nat.le_trans (by omega) (Nat.mul_le_mul p1 p3)
  have HX := Lib.hid hx
  have HDS := Lib.hid hds
  have LX := Lib.hid lx
  have H1 := Lib.hid h1
  have H2 := Lib.hid h2
  have HL := Lib.hid p6
  have HG := Lib.hid p7
  have HSL := Lib.hid hsl
  have HC := Lib.hid (codeL_ok h20 h2)
  have hxl : xs.length ≤ 40000 := by rw [p6]; exact p5
  clear hx hds lx h1 h2 p6 p7 hsl en em
  go_enter Try.func22, Try.ntmps22
  go_wp2_with fail
  obtain ⟨e1, e2⟩ := heap2 W (.cells #[.int .i64 (n : Int), .int .i64 (m : Int), .slice a xs.length cp] 28 (0, 0)) (.cells #[.int .i64 0, .int .i64 0, .slice none 0 0] 28 (0, 0))
  refine (specIsRaster_val H1.out (HX.out.below (ba2 _ _ _)) LX.out).mono ?_
  rintro e w1 ⟨rfl, hb1⟩
  replace e1 := blkK hb1 e1
  replace e2 := blkK hb1 e2
  have HB1 := Lib.hid (bt2 hb1)
  clear hb1
  go_wp2_with fail
  refine (l27Code_val HC.out (HDS.out.below HB1.out) (by omega)).mono ?_
  rintro e w2 ⟨rfl, hb2⟩
  replace e1 := blkK hb2 e1
  replace e2 := blkK hb2 e2
  have HB2 := Lib.hid (bt0 HB1.out hb2 (Nat.le_refl _))
  clear hb2
  have l1 := blkLt e1
  have l2 := blkLt e2
  have hc1 := (heap_cellR e1).1
  have E1 := Lib.hid e1
  have E2 := Lib.hid e2
  clear e1 e2
  go_wp2_with fail
  refine wp_region_rs (Keep := KB) [19, 20, 21, 22, 23, 24, 25, 26, 7] (fun us => _)
    [spE (.pointer (some ⟨W.heap.size, 0, none⟩)), spE (.int .i64 (n : Int)), spE (.pointer (some ⟨W.heap.size, 1, none⟩)), spE (.int .i64 (m : Int)), spE (.pointer (some ⟨W.heap.size, 2, none⟩)), spE (.slice a xs.length cp), spOwn (W.heap.size + 1 + 1) xs, spRas (W.heap.size + 1 + 1) n m xs, spBox (W.heap.size + 1 + 1) #[.int .i64 0, .int .i64 0, .slice none 0 0] 28]
    (StX w2) (by kernel_rfl) (by kernel_rfl) (Nat.le_of_ble_eq_true rfl) (fun us => by simp [over, List.mapIdx_cons]; exact rfl) (stX0 _) kbr ?_ ?_
  · refine ⟨?_, ?_, ?_, ?_, ?_, ?_, ?_, ?_, ?_, trivial⟩
    all_goals (intro us wx hst hd; rw [if_pos (by kernel_rfl)]; dsimp only)
    · clear hd hc1
      go_simp
      exact kb_same hst rfl
    · have d0 : us 19 = .pointer (some ⟨W.heap.size, 0, none⟩) := hd ⟨0, .data⟩ (by simp) rfl
      clear hd
      have hB := boxB hst hc1 l1
      go_simp
      exact kb_same hst rfl
    · clear hd hc1
      go_simp
      exact kb_same hst rfl
    · have d0 : us 21 = .pointer (some ⟨W.heap.size, 1, none⟩) := hd ⟨2, .data⟩ (by simp) rfl
      clear hd
      have hB := boxB hst hc1 l1
      go_simp
      exact kb_same hst rfl
    · clear hd hc1
      go_simp
      exact kb_same hst rfl
    · have d0 : us 23 = .pointer (some ⟨W.heap.size, 2, none⟩) := hd ⟨4, .data⟩ (by simp) rfl
      clear hd
      have hB := boxB hst hc1 l1
      go_simp
      exact kb_same hst rfl
    · have d0 : us 24 = .slice a xs.length cp := hd ⟨5, .data⟩ (by simp) rfl
      clear hd hc1
      have hlx := hst.size
      go_simp
      exact (l01Own_any a xs cp _ ((HX.out.below HB2.out).below hst) (by omega) HSL.out).mono fun e w' ⟨a', c', he, ho, hb⟩ => ⟨_, he, kb_below hst hb (ho.weak (by omega))⟩
    · have d0 : us 20 = .int .i64 (n : Int) := hd ⟨1, .data⟩ (by simp) rfl
      have d1 : us 22 = .int .i64 (m : Int) := hd ⟨3, .data⟩ (by simp) rfl
      have d2 : OwnI wx (W.heap.size + 1 + 1) (us 25) xs := hd ⟨6, .data⟩ (by simp) rfl
      clear hd hc1
      have D2 := Lib.hid d2
      obtain ⟨a2, c2, e2, _⟩ := d2.read
      rw [e2] at D2
      clear d2
      go_simp
      exact kb_same hst ⟨a2, c2, rfl, D2.out⟩
    · clear hd hc1
      go_simp
      exact kb_new hst (by omega)
  · intro us wx hst hd
    have d26 : RasV (W.heap.size + 1 + 1) n m xs (us 26) wx := hd 7 (by simp)
    have d7 : BoxK (W.heap.size + 1 + 1) #[.int .i64 0, .int .i64 0, .slice none 0 0] 28 (us 7) wx := hd 8 (by simp)
    clear hd hc1
    obtain ⟨a2, c2, ev, ho⟩ := d26
    obtain ⟨BX, eb, hBX, hbx⟩ := d7
    have HB := Lib.hid (bt0 HB2.out hst (Nat.le_refl _))
    have H0 := Lib.hid (ApBt.make (W := W) (n := n) (m := m) hbx ho (own_ne_box ho hbx (by decide)) (blkK hst E2.out) HB.out (by omega) (blkK hst E1.out))
    obtain ⟨hcX, hfX⟩ := heap_cellR hbx
    clear ho hst hbx E1 E2 HB2 HB HB1
    simp only [List.drop, List.length]
    rw [ev, eb]
    clear ev eb
    go_wp2_with fail
    go_loopw [8] (fun i wr => ∃ k : Nat, k ≤ ds.length ∧ i = .int .i64 k ∧ ApBt W wr BX #[.int .i64 (n : Int), .int .i64 (m : Int), .slice a xs.length cp] n m (dmsL n m (ds.take k) xs)) (fun i _ => ds.length - (intOf i).toNat)
    case atStart => exact ⟨0, Nat.zero_le _, rfl, H0.out⟩
    case round =>
      clear H0 hcX hfX
      obtain ⟨k, hk, rfl, hap, hp0⟩ := hrel
      obtain ⟨zs, hzs⟩ : ∃ zs, dmsL n m (ds.take k) xs = zs := ⟨_, rfl⟩
      rw [hzs] at hap
      have HZ := Lib.hid hzs
      clear hzs
      obtain ⟨a0, c0, q1, q2, q3, q4, q5, q6⟩ := hap
      have hc3 := (heap_cellR q1).1
      have hf3 := (heap_cellR q1).2
      have hc0 := (heap_cellR hp0).1
      have hw3 := blkLt q1
      have HQ5 := Lib.hid q5
      by_cases hlt : k < ds.length
      · obtain ⟨b1, o1, ⟨k0, r, c0', t, w0, g⟩, rfl, hdk, hb1, d0, d1, d2, d3, d4, d5⟩ := (HDS.out.below q5).at hlt
        dsimp only at d0 d1 d2 d3 d4 d5
        have hok : dmOk k0 r c0' t w0 g = true := List.all_eq_true.1 H2.out _ (List.mem_of_getElem? hdk)
        have hnx : dmsL n m (ds.take (k + 1)) xs = dmgL k0 r c0' t w0 g n m zs := by rw [take_snoc' hdk, dmsL_snoc, HZ.out]; rfl
        have hzl : zs.length = n * m := by rw [← HZ.out]; exact dmsL_len HL.out _
        have hzg : Greys zs := by rw [← HZ.out]; exact dmsL_greys HG.out _ (fun d hd => List.all_eq_true.1 H2.out _ (List.mem_of_mem_take hd))
        have HOK := Lib.hid hok
        have HNX := Lib.hid hnx
        have HZL := Lib.hid hzl
        have HZG := Lib.hid hzg
        have HP := Lib.hid (show ApAt W wr BX n m zs from ⟨a0, c0, q1, q2, q3, q4, q5, q6⟩)
        have HP0 := Lib.hid hp0
        have HI := Lib.hid q2.ints
        have HS := Lib.hid q2.slc
        have hw0 := blkLt hp0
        have hd0 : ∀ i, i < 6 → wr.cell? ⟨b1, o1 + k * 6 + i, none⟩ = (#[.int .i64 k0, .int .i64 r, .int .i64 c0', .int .i64 t, .int .i64 w0, .int .i64 g] : Array Value)[i]? := by
          intro i hi
          rcases (show i = 0 ∨ i = 1 ∨ i = 2 ∨ i = 3 ∨ i = 4 ∨ i = 5 by omega) with rfl | rfl | rfl | rfl | rfl | rfl
          · exact d0
          · exact d1
          · exact d2
          · exact d3
          · exact d4
          · exact d5
        have HD := Lib.hid hd0
        clear hok hnx hzl hzg hdk q1 q2 q3 q4 q5 hp0 d0 d1 d2 d3 d4 d5 hd0
        go_wp2_with fail
        refine wp_region_rs (Keep := KB) [33, 34, 35, 36, 37, 38, 39, 40, 41, 42, 43] (fun us => _)
          [spE (.pointer (some ⟨W.heap.size, 0, none⟩)), spE (.int .i64 (n : Int)), spE (.pointer (some ⟨W.heap.size, 1, none⟩)), spE (.int .i64 (m : Int)), spE (.agg #[.int .i64 (n : Int), .int .i64 (m : Int), .slice a0 zs.length c0]), spE (.slice (some ⟨b1, o1, none⟩) ds.length cq), spE (.int .i64 (k : Int)), spE (.pointer (some ⟨b1, o1 + k * 6, none⟩)), spE (.agg #[.int .i64 k0, .int .i64 r, .int .i64 c0', .int .i64 t, .int .i64 w0, .int .i64 g]), spOwn (BX + 1) (dmgL k0 r c0' t w0 g n m zs), spRas (BX + 1) n m (dmgL k0 r c0' t w0 g n m zs)]
          (StX wr) (by kernel_rfl) (by kernel_rfl) (Nat.le_of_ble_eq_true rfl) (fun us => by simp [over, List.mapIdx_cons]; exact rfl) (stX0 _) kbr ?_ ?_
        · refine ⟨?_, ?_, ?_, ?_, ?_, ?_, ?_, ?_, ?_, ?_, ?_, trivial⟩
          all_goals (intro us wx hst hd; rw [if_pos (by kernel_rfl)]; dsimp only)
          · clear hd hc0 hc3 hf3
            go_simp
            exact kb_same hst rfl
          · have e0 : us 33 = .pointer (some ⟨W.heap.size, 0, none⟩) := hd ⟨0, .data⟩ (by simp) rfl
            clear hd hc3 hf3
            have hB := boxB hst hc0 hw0
            go_simp
            exact kb_same hst rfl
          · clear hd hc0 hc3 hf3
            go_simp
            exact kb_same hst rfl
          · have e0 : us 35 = .pointer (some ⟨W.heap.size, 1, none⟩) := hd ⟨2, .data⟩ (by simp) rfl
            clear hd hc3 hf3
            have hB := boxB hst hc0 hw0
            go_simp
            exact kb_same hst rfl
          · clear hd hc0 hf3
            have hB := boxB hst hc3 hw3
            go_simp
            exact kb_same hst rfl
          · clear hd hc0 hc3 hf3
            go_simp
            exact kb_same hst rfl
          · clear hd hc0 hc3 hf3
            go_simp
            exact kb_same hst rfl
          · have e0 : us 38 = .slice (some ⟨b1, o1, none⟩) ds.length cq := hd ⟨5, .data⟩ (by simp) rfl
            have e1 : us 39 = .int .i64 (k : Int) := hd ⟨6, .data⟩ (by simp) rfl
            clear hd hc0 hc3 hf3
            go_simp
            exact kb_same hst rfl
          · have e0 : us 40 = .pointer (some ⟨b1, o1 + k * 6, none⟩) := hd ⟨7, .data⟩ (by simp) rfl
            clear hd hc0 hc3 hf3
            have d0 := ((bcell hst).1 b1 (o1 + k * 6 + 0) hb1).trans (HD.out 0 (by omega))
            have d1 := ((bcell hst).1 b1 (o1 + k * 6 + 1) hb1).trans (HD.out 1 (by omega))
            have d2 := ((bcell hst).1 b1 (o1 + k * 6 + 2) hb1).trans (HD.out 2 (by omega))
            have d3 := ((bcell hst).1 b1 (o1 + k * 6 + 3) hb1).trans (HD.out 3 (by omega))
            have d4 := ((bcell hst).1 b1 (o1 + k * 6 + 4) hb1).trans (HD.out 4 (by omega))
            have d5 := ((bcell hst).1 b1 (o1 + k * 6 + 5) hb1).trans (HD.out 5 (by omega))
            rw [Nat.add_zero] at d0
            go_simp
            exact kb_same hst rfl
          · have e0 : us 37 = .agg #[.int .i64 (n : Int), .int .i64 (m : Int), .slice a0 zs.length c0] := hd ⟨4, .data⟩ (by simp) rfl
            have e1 : us 41 = .agg #[.int .i64 k0, .int .i64 r, .int .i64 c0', .int .i64 t, .int .i64 w0, .int .i64 g] := hd ⟨8, .data⟩ (by simp) rfl
            clear hd hc0 hc3 hf3
            have hlx := hst.size
            go_simp
            exact (l27Apply_any k0 r c0' t w0 g a0 zs c0 n m _ HOK.out (HI.out.below hst) HS.out HZL.out p5 p2 p4 hN1 HZG.out).mono fun e w' ⟨a', c', he, ho, hb⟩ => ⟨_, he, kb_below hst hb (ho.weak (by omega))⟩
          · have e0 : us 34 = .int .i64 (n : Int) := hd ⟨1, .data⟩ (by simp) rfl
            have e1 : us 36 = .int .i64 (m : Int) := hd ⟨3, .data⟩ (by simp) rfl
            have e2 : OwnI wx (BX + 1) (us 42) (dmgL k0 r c0' t w0 g n m zs) := hd ⟨9, .data⟩ (by simp) rfl
            clear hd hc0 hc3 hf3
            have D2 := Lib.hid e2
            obtain ⟨a2, c2, ee, _⟩ := e2.read
            rw [ee] at D2
            clear e2
            go_simp
            exact kb_same hst ⟨a2, c2, rfl, D2.out⟩
        · intro us wx hst hd
          have d43 : RasV (BX + 1) n m (dmgL k0 r c0' t w0 g n m zs) (us 43) wx := hd 10 (by simp)
          clear hd hc0 hc3 hf3
          obtain ⟨a4, c4, ev, ho4⟩ := d43
          have hx0 := blkK hst HP0.out
          obtain ⟨a5, c5, r1, r2, r3, r4, r5, r6⟩ := HP.out.below hst
          have hc4 := (heap_cellR r1).1
          have hf4 := (heap_cellR r1).2
          have HS2 := Lib.hid (ApBt.make (W := W) (n := n) (m := m) r1 (ho4.weak (by omega)) (fun e => by have := ho4.lo _ e; omega) r4 r5 r6 hx0)
          clear ho4 hst r1 r2 r3 r4 r5 hx0
          simp only [List.drop, List.length]
          rw [ev]
          clear ev
          go_wp2_with fail
          exact ⟨⟨k + 1, by omega, by go_num, by rw [HNX.out]; exact HS2.out⟩, by simp [intOf]; omega⟩
      · have hzz : zs = dmsL n m ds xs := by rw [← HZ.out, List.take_of_length_le (by omega)]
        subst hzz
        have HP2 := Lib.hid q2
        obtain ⟨hcR, hfR⟩ := heap_cellR q4
        clear q1 q2 q3 q4 q5 hp0
        go_wp2_with fail
        exact bodyPost_ret (v := .tuple #[.agg #[.int .i64 (n : Int), .int .i64 (m : Int), .slice a0 (dmsL n m ds xs).length c0], .int .i64 0]) (by simp [results, Try.results22, go_sem, hcR]) rfl (retRC_box (b0 := W.heap.size + 1 + 1) (by omega) HP2.out HQ5.out (by omega) (by omega) _ _ _)

set_option maxRecDepth 100000 in
set_option maxHeartbeats 2000000 in
theorem specApplyDamages_any (n m : Int) (a : Option Addr) (xs : List Int) (cp : Nat) (b : Option Addr) (ds : List Dm) (cq : Nat) (W : World) (hx : IntsAt W a xs) (hsl : Slc a xs) (lx : xs.length ≤ maxLen) (hds : DmsAt W b ds) (ld : ds.length ≤ 1099511627776) :
    Calls Try.prog 22 #[.agg #[.int .i64 n, .int .i64 m, .slice a xs.length cp], .slice b ds.length cq] W (RetAp W n m xs ds) := by
  rcases Bool.eq_false_or_eq_true (rasOk n m xs) with h1 | h1
  · by_cases h20 : 20 < ds.length
    · exact specApplyDamages_bad n m a xs cp b ds cq W hx lx hds ld h1 3 (codeL_lim h20) (by decide) (by rw [codeOf _ h1, if_pos h20])
    · rcases Bool.eq_false_or_eq_true (ds.all Dm.ok) with h2 | h2
      · obtain ⟨n, m, rfl, rfl, p1, p2, p3, p4, p5, p6, p7⟩ := ras_nat h1
        have := specApplyDamages_ok n m a xs cp b ds cq W hx hsl hds h1 h20 h2 lx
        rw [codeOf _ h1, if_neg h20, if_pos h2, Int.toNat_natCast, Int.toNat_natCast]
        exact this
      · exact specApplyDamages_bad n m a xs cp b ds cq W hx lx hds ld h1 2 (codeL_bad h20 h2) (by decide) (by rw [codeOf _ h1, if_neg h20, if_neg (by rw [h2]; decide)])
  · have e : RetAp W n m xs ds = RetRC W 0 0 [] 1 := by rw [RetAp, h1]; rfl
    rw [e]
    have HX := Lib.hid hx
    have LX := Lib.hid lx
    have H1 := Lib.hid h1
    clear h1 e hx lx hds hsl
    go_enter Try.func22, Try.ntmps22
    go_wp2_with fail
    refine (specIsRaster_val H1.out (HX.out.below (ba2 _ _ _)) LX.out).mono ?_
    rintro e w1 ⟨rfl, hb1⟩
    obtain ⟨hA, hB, hF⟩ := box2s hb1
    have HB1 := Lib.hid (bt2 hb1)
    have hs1 : W.heap.size + 1 < w1.heap.size := by have := hb1.size; simp at this; omega
    clear hb1
    go_wp2_with fail
    exact bodyPost_ret (v := .tuple #[.agg #[.int .i64 0, .int .i64 0, .slice none 0 0], .int .i64 1]) (by simp [results, Try.results22, go_sem, hB]) rfl (retRC_box (b0 := W.heap.size + 1 + 1) (by omega) (ownNil _ _ (by omega)) HB1.out (by omega) (by omega) _ _ _)

end Go.Proofs.Ythnjfdhijpfekaa
