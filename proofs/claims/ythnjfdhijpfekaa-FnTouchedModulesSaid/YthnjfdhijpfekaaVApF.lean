import Derived.Test.YthnjfdhijpfekaaVDms
namespace Go.Proofs.Ythnjfdhijpfekaa
open Go.RowKit

/-- a raster and a code are handed back -/
def RetRC (w : World) (n m : Int) (xs : List Int) (cd : Int) (e : Ending) (w' : World) : Prop :=
  ∃ a c, e = .returned (.tuple #[.agg #[.int .i64 n, .int .i64 m, .slice a xs.length c], .int .i64 cd]) ∧ OwnI w' w.heap.size (.slice a xs.length c) xs ∧ Below w.heap.size w w'
/-- what is handed back for a raster and damages -/
def RetAp (w : World) (n m : Int) (xs : List Int) (ds : List Dm) : Ending → World → Prop :=
  if rasOk n m xs = true then (if 20 < ds.length then RetRC w 0 0 [] 3 else if ds.all Dm.ok = true then RetRC w n m (dmsL n.toNat m.toNat ds xs) 0 else RetRC w 0 0 [] 2) else RetRC w 0 0 [] 1
theorem ownNil (w : World) (base : Nat) (_h : base ≤ w.heap.size) : OwnI w base (.slice none 0 0) [] := ⟨by simp, Or.inl ⟨rfl, rfl⟩⟩
/-- the end of a function that hands back a raster and a code -/
theorem retRC_box {w w1 : World} {n m : Int} {xs : List Int} {a : Option Addr} {c b0 B : Nat} {cd : Int} (hb0 : w.heap.size ≤ b0) (ho : OwnI w1 b0 (.slice a xs.length c) xs) (hb : Below w.heap.size w w1) (hB : w.heap.size ≤ B) (hB4 : B < b0) (v0 v1 v2 : Value) :
    RetRC w n m xs cd (.returned (.tuple #[.agg #[.int .i64 n, .int .i64 m, .slice a xs.length c], .int .i64 cd])) (((w1.setCell ⟨B, 0, none⟩ v0).setCell ⟨B, 1, none⟩ v1).setCell ⟨B, 2, none⟩ v2) := by
  refine ⟨a, c, rfl, ?_, ?_⟩
  · refine OwnI.weak (base := b0) ?_ hb0
    iterate 3 (refine OwnI.setOld ?_ (by dsimp only; omega) _)
    exact ho
  · iterate 3 (refine Below.setCell ?_ (by dsimp only; omega) _)
    exact hb

/-- while damages fall: the raster lies in box BX -/
def ApAt (W wr : World) (BX : Nat) (n m : Int) (zs : List Int) : Prop :=
  ∃ a c, wr.heap[BX]? = some (.cells #[.int .i64 n, .int .i64 m, .slice a zs.length c] 28 (0, 0)) ∧ OwnI wr (W.heap.size + 1 + 1) (.slice a zs.length c) zs ∧ (Value.slice a zs.length c).ownBlock ≠ some BX ∧
    wr.heap[W.heap.size + 1]? = some (.cells #[.int .i64 0, .int .i64 0, .slice none 0 0] 28 (0, 0)) ∧ Below W.heap.size W wr ∧ W.heap.size + 1 < BX
theorem ApAt.below {W wr w' : World} {BX : Nat} {n m : Int} {zs : List Int} (h : ApAt W wr BX n m zs) (hb : Below wr.heap.size wr w') : ApAt W w' BX n m zs := by
  obtain ⟨a, c, h1, h2, h3, h4, h5, h6⟩ := h
  exact ⟨a, c, blkK hb h1, h2.grown hb, h3, blkK hb h4, bt0 h5 hb (Nat.le_refl _), h6⟩
theorem box3set {w : World} {B : Nat} {x0 x1 x2 v0 v1 v2 : Value} {t : TypeId} (h : w.heap[B]? = some (.cells #[x0, x1, x2] t (0, 0))) :
    (((w.setCell ⟨B, 0, none⟩ v0).setCell ⟨B, 1, none⟩ v1).setCell ⟨B, 2, none⟩ v2).heap[B]? = some (.cells #[v0, v1, v2] t (0, 0)) := src_set (src_set (src_set h 0 v0) 1 v1) 2 v2
theorem box3grown (w : World) (B : Nat) (v0 v1 v2 : Value) : w.grownBy (((w.setCell ⟨B, 0, none⟩ v0).setCell ⟨B, 1, none⟩ v1).setCell ⟨B, 2, none⟩ v2) (some B) :=
  grownBy_trans (grownBy_trans (grownBy_set _ _ _ _) (grownBy_set _ _ _ _)) (grownBy_set _ _ _ _)
theorem ApAt.store {W wr : World} {BX b0 : Nat} {n m : Int} {zs zs' : List Int} {a : Option Addr} {c : Nat} (h : ApAt W wr BX n m zs) (ho : OwnI wr b0 (.slice a zs'.length c) zs') (hb0 : BX < b0) :
    ApAt W (((wr.setCell ⟨BX, 0, none⟩ (.int .i64 n)).setCell ⟨BX, 1, none⟩ (.int .i64 m)).setCell ⟨BX, 2, none⟩ (.slice a zs'.length c)) BX n m zs' := by
  obtain ⟨a0, c0, h1, h2, h3, h4, h5, h6⟩ := h
  have hne : ∀ k, (Value.slice a zs'.length c).ownBlock = some k → some BX ≠ some k := fun k hk e => by have := ho.lo k hk; have := Option.some.inj e; omega
  refine ⟨a, c, box3set h1, (ho.other (box3grown _ _ _ _ _) hne).weak (by omega), fun e => hne _ e rfl, ?_, ?_, h6⟩
  · exact ((box3grown wr BX _ _ _).block _ (blkLt h4) (fun e => by have := Option.some.inj e; omega)).trans h4
  · iterate 3 (refine Below.setCell ?_ (by dsimp only; omega) _)
    exact h5

theorem codeOf {n m : Int} {xs : List Int} {ds : List Dm} (w : World) (h1 : rasOk n m xs = true) : RetAp w n m xs ds = (if 20 < ds.length then RetRC w 0 0 [] 3 else if ds.all Dm.ok = true then RetRC w n m (dmsL n.toNat m.toNat ds xs) 0 else RetRC w 0 0 [] 2) := by rw [RetAp, if_pos h1]

set_option maxRecDepth 100000 in
set_option maxHeartbeats 2000000 in
theorem applyDamages_any (n m : Int) (a : Option Addr) (xs : List Int) (cp : Nat) (b : Option Addr) (ds : List Dm) (cq : Nat) (W : World) (hx : IntsAt W a xs) (lx : xs.length ≤ maxLen) (hds : DmsAt W b ds) (ld : ds.length ≤ 1099511627776) :
    Calls Try.prog 21 #[.agg #[.int .i64 n, .int .i64 m, .slice a xs.length cp], .slice b ds.length cq] W (RetAp W n m xs ds) := by
  have HX := Lib.hid hx
  have HDS := Lib.hid hds
  have LX := Lib.hid lx
  clear hx hds lx
  rcases Bool.eq_false_or_eq_true (rasOk n m xs) with h1 | h1
  · obtain ⟨n, m, rfl, rfl, q1, q2, q3, q4, q5, q6, q7⟩ := ras_nat h1
    rw [codeOf _ h1]
    have hN1 : 1 ≤ n * m := Nat.le_trans (by omega) (Nat.mul_le_mul q1 q3)
    have H1 := Lib.hid h1
    have HL := Lib.hid q6
    have HG := Lib.hid q7
    have hlen : xs.length ≤ 40000 := by omega
    clear h1 q6 q7
    by_cases h20 : 20 < ds.length
    · rw [if_pos h20]
      have hi : (20 : Int) < (ds.length : Int) := by omega
      go_enter Try.func21, Try.ntmps21
      go_wp2_with fail
      refine (isRaster_val H1.out (HX.out.below (ba2 _ _ _)) LX.out).mono ?_
      rintro e w1 ⟨rfl, hb1⟩
      obtain ⟨hA, hB, hF⟩ := box2s hb1
      have HB1 := Lib.hid (bt2 hb1)
      have hs1 : W.heap.size + 1 < w1.heap.size := by have := hb1.size; simp at this; omega
      clear hb1
      go_wp2_with fail
      exact bodyPost_ret (v := .tuple #[.agg #[.int .i64 0, .int .i64 0, .slice none 0 0], .int .i64 3]) (by simp [results, Try.results21, go_sem, hB]) rfl (retRC_box (b0 := W.heap.size + 1 + 1) (by omega) (ownNil _ _ (by omega)) HB1.out (by omega) (by omega) _ _ _)
    · rw [if_neg h20]
      have hi : ¬ (20 : Int) < (ds.length : Int) := by omega
      rcases Bool.eq_false_or_eq_true (ds.all Dm.ok) with h2 | h2
      · rw [if_pos h2]
        have H2 := Lib.hid h2
        clear h2
        go_enter Try.func21, Try.ntmps21
        go_wp2_with fail
        refine (isRaster_val H1.out (HX.out.below (ba2 _ _ _)) LX.out).mono ?_
        rintro e w1 ⟨rfl, hb1⟩
        obtain ⟨e1, e2⟩ := heap2 W (.cells #[.int .i64 (n : Int), .int .i64 (m : Int), .slice a xs.length cp] 28 (0, 0)) (.cells #[.int .i64 0, .int .i64 0, .slice none 0 0] 28 (0, 0))
        replace e1 := blkK hb1 e1
        replace e2 := blkK hb1 e2
        have HB1 := Lib.hid (bt2 hb1)
        clear hb1
        go_wp2_with fail
        refine (allDamages_val H2.out (HDS.out.below HB1.out) ld).mono ?_
        rintro e w2 ⟨rfl, hb2⟩
        replace e1 := blkK hb2 e1
        replace e2 := blkK hb2 e2
        have hc1 := (heap_cellR e1).1
        have HB2 := Lib.hid (bt0 HB1.out hb2 (Nat.le_refl _))
        clear hb2
        go_wp2_with fail
        refine (copy_any a xs cp n m _ (HX.out.below HB2.out) HL.out q5 q2 q4).mono ?_
        rintro e w3 ⟨a3, c3, rfl, ho3, hb3⟩
        have hs2 := blkLt e2
        have H0 : Hid (ApAt W (w3.alloc (.cells #[.int .i64 (n : Int), .int .i64 (m : Int), .slice a3 xs.length c3] 28 (0, 0))) w3.heap.size n m xs) := Lib.hid ⟨a3, c3, push_at _ _, (ho3.grown (ba1 _ _)).weak (by omega), fun e => by have := ho3.hi _ e; omega, push_old (blkK hb3 e2), bt0 (bt0 HB2.out hb3 (Nat.le_refl _)) (ba1 _ _) (Nat.le_refl _), by have := hb3.size; omega⟩
        clear ho3 hb3 e1 e2 hc1
        go_wp2_with fail
        go_loopw [8, 25] (fun _ i wr => ∃ k : Nat, k ≤ ds.length ∧ i = .int .i64 k ∧ ApAt W wr w3.heap.size n m (dmsL n m (ds.take k) xs)) (fun _ i _ => ds.length - (intOf i).toNat)
        case atStart => exact ⟨0, Nat.zero_le _, rfl, H0.out⟩
        case round =>
          clear H0
          obtain ⟨k, hk, rfl, hap⟩ := hrel
          obtain ⟨zs, hzs⟩ : ∃ zs, dmsL n m (ds.take k) xs = zs := ⟨_, rfl⟩
          rw [hzs] at hap
          have HZ := Lib.hid hzs
          clear hzs
          obtain ⟨a0, c0, p1, p2, p3, p4, p5, p6⟩ := hap
          have hc3 := (heap_cellR p1).1
          have hf3 := (heap_cellR p1).2
          have hw3 := blkLt p1
          have HP5 := Lib.hid p5
          by_cases hlt : k < ds.length
          · obtain ⟨b1, o1, ⟨k0, r, c0', t, w0, g⟩, rfl, hdk, hb1, d0, d1, d2, d3, d4, d5⟩ := (HDS.out.below p5).at hlt
            dsimp only at d0 d1 d2 d3 d4 d5
            have hok : dmOk k0 r c0' t w0 g = true := List.all_eq_true.1 H2.out _ (List.mem_of_getElem? hdk)
            have hnx : dmsL n m (ds.take (k + 1)) xs = dmgL k0 r c0' t w0 g n m zs := by rw [take_snoc' hdk, dmsL_snoc, HZ.out]; rfl
            have hzl : zs.length = n * m := by rw [← HZ.out]; exact dmsL_len HL.out _
            have hzg : Greys zs := by rw [← HZ.out]; exact dmsL_greys HG.out _ (fun d hd => List.all_eq_true.1 H2.out _ (List.mem_of_mem_take hd))
            have HOK := Lib.hid hok
            have HNX := Lib.hid hnx
            have HZL := Lib.hid hzl
            have HZG := Lib.hid hzg
            have HP := Lib.hid (show ApAt W wr w3.heap.size n m zs from ⟨a0, c0, p1, p2, p3, p4, p5, p6⟩)
            have HI := Lib.hid p2.ints
            clear hok hnx hzl hzg hdk p1 p2 p3 p4 p5
            go_wp2_with fail
            refine (damaged_any k0 r c0' t w0 g a0 zs c0 n m _ HOK.out (HI.out.below (ba1 _ _)) HZL.out q5 q2 q4 hN1 HZG.out).mono ?_
            rintro e w4 ⟨a4, c4, rfl, ho4, hb4⟩
            have HP4 := Lib.hid ((HP.out.below (ba1 _ _)).below hb4)
            obtain ⟨a5, c5, p1, _⟩ := HP4.out
            have hc4 := (heap_cellR p1).1
            have hf4 := (heap_cellR p1).2
            have HS := Lib.hid (HP4.out.store (b0 := wr.heap.size + 1) (by rw [World.size_alloc] at ho4; exact ho4) (by omega))
            clear ho4 hb4 d0 d1 d2 d3 d4 d5 hc3 hf3 p1
            go_wp2_with fail
            exact ⟨⟨k + 1, by omega, by go_num, by rw [HNX.out]; exact HS.out⟩, by simp [intOf]; omega⟩
          · have hzz : zs = dmsL n m ds xs := by rw [← HZ.out, List.take_of_length_le (by omega)]
            subst hzz
            have HP2 := Lib.hid p2
            obtain ⟨hcR, hfR⟩ := heap_cellR p4
            clear p1 p2 p3 p4 p5
            go_wp2_with fail
            exact bodyPost_ret (v := .tuple #[.agg #[.int .i64 (n : Int), .int .i64 (m : Int), .slice a0 (dmsL n m ds xs).length c0], .int .i64 0]) (by simp [results, Try.results21, go_sem, hcR]) rfl (by
              rw [Int.toNat_natCast, Int.toNat_natCast]
              exact retRC_box (b0 := W.heap.size + 1 + 1) (by omega) HP2.out HP5.out (by omega) (by omega) _ _ _)
      · rw [if_neg (by rw [h2]; decide)]
        have H2 := Lib.hid h2
        clear h2
        go_enter Try.func21, Try.ntmps21
        go_wp2_with fail
        refine (isRaster_val H1.out (HX.out.below (ba2 _ _ _)) LX.out).mono ?_
        rintro e w1 ⟨rfl, hb1⟩
        obtain ⟨e1, e2⟩ := heap2 W (.cells #[.int .i64 (n : Int), .int .i64 (m : Int), .slice a xs.length cp] 28 (0, 0)) (.cells #[.int .i64 0, .int .i64 0, .slice none 0 0] 28 (0, 0))
        replace e2 := blkK hb1 e2
        have HB1 := Lib.hid (bt2 hb1)
        clear hb1 e1
        go_wp2_with fail
        refine (allDamages_val H2.out (HDS.out.below HB1.out) ld).mono ?_
        rintro e w2 ⟨rfl, hb2⟩
        replace e2 := blkK hb2 e2
        obtain ⟨hcR, hfR⟩ := heap_cellR e2
        have hs2 := blkLt e2
        have HB2 := Lib.hid (bt0 HB1.out hb2 (Nat.le_refl _))
        clear hb2 e2
        go_wp2_with fail
        exact bodyPost_ret (v := .tuple #[.agg #[.int .i64 0, .int .i64 0, .slice none 0 0], .int .i64 2]) (by simp [results, Try.results21, go_sem, hcR]) rfl (retRC_box (b0 := W.heap.size + 1 + 1) (by omega) (ownNil _ _ (by omega)) HB2.out (by omega) (by omega) _ _ _)
  · have e : RetAp W n m xs ds = RetRC W 0 0 [] 1 := by rw [RetAp, h1]; rfl
    rw [e]
    clear e
    have H1 := Lib.hid h1
    clear h1
    go_enter Try.func21, Try.ntmps21
    go_wp2_with fail
    refine (isRaster_val H1.out (HX.out.below (ba2 _ _ _)) LX.out).mono ?_
    rintro e w1 ⟨rfl, hb1⟩
    obtain ⟨hA, hB, hF⟩ := box2s hb1
    have HB1 := Lib.hid (bt2 hb1)
    have hs1 : W.heap.size + 1 < w1.heap.size := by have := hb1.size; simp at this; omega
    clear hb1
    go_wp2_with fail
    exact bodyPost_ret (v := .tuple #[.agg #[.int .i64 0, .int .i64 0, .slice none 0 0], .int .i64 1]) (by simp [results, Try.results21, go_sem, hB]) rfl (retRC_box (b0 := W.heap.size + 1 + 1) (by omega) (ownNil _ _ (by omega)) HB1.out (by omega) (by omega) _ _ _)

end Go.Proofs.Ythnjfdhijpfekaa
