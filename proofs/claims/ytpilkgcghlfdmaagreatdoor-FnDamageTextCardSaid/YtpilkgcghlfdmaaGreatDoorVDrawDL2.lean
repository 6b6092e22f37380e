import Derived.Test.YtpilkgcghlfdmaaGreatDoorVDrawDL
namespace Go.Proofs.YtpilkgcghlfdmaaGreatDoor
open Go.RowKit

theorem StDG.mk' {w W : World} {b : Nat} {v : Value} {ds : List Dm} {k r c t v' q : Int} (h : StDL w b v ds W) : StDG w b W.heap.size v ds (W.alloc (.cells #[.int .i64 k, .int .i64 r, .int .i64 c, .int .i64 t, .int .i64 v', .int .i64 q] 30 (0, 0))) :=
  ⟨⟨stB_alloc h.1 _, h.2.grown (ba1 _ _)⟩, fun e => by have := h.2.hi _ e; omega, by have := h.1.2.size; omega, k, r, c, t, v', q, push_at _ _⟩
theorem StDG.set1 {w W : World} {b g : Nat} {v : Value} {ds : List Dm} {cs : Array Value} {k r c t v' q : Int} (i : Nat) (u : Value) (h : StDL w b v ds W) (hlt : b < w.heap.size) (hg : w.heap.size ≤ g) (hne : v.ownBlock ≠ some g) (hb : W.heap[g]? = some (.cells cs 30 (0, 0))) (hcs : cs.setIfInBounds i u = #[.int .i64 k, .int .i64 r, .int .i64 c, .int .i64 t, .int .i64 v', .int .i64 q]) : StDG w b g v ds (W.setCell ⟨g, i, none⟩ u) :=
  ⟨h.set hlt hg hne, hne, hg, k, r, c, t, v', q, by rw [src_set hb, hcs]⟩

theorem StDG.local {w W : World} {b g : Nat} {v : Value} {ds : List Dm} {k r c t v' q : Int} (h : StDL w b v ds W) (hlt : b < w.heap.size) (hg : w.heap.size ≤ g) (hne : v.ownBlock ≠ some g) (hb : W.heap[g]? = some (.cells #[.int .i64 k, .int .i64 r, .int .i64 c, .int .i64 t, .int .i64 v', .int .i64 q] 30 (0, 0))) (x y z : Int) :
    StDG w b g v ds (((W.setCell ⟨g, 0, none⟩ (.int .i64 x)).setCell ⟨g, 4, none⟩ (.int .i64 y)).setCell ⟨g, 3, none⟩ (.int .i64 z)) :=
  ⟨((h.set hlt hg hne).set hlt hg hne).set hlt hg hne, hne, hg, x, r, c, z, y, q, src_set (src_set (src_set hb 0 _) 4 _) 3 _⟩

set_option maxRecDepth 100000 in
set_option maxHeartbeats 1000000 in
theorem l27DrawList_any (b : Nat) (lc : Bool) (w : World) (hs : Src w b) :
    Calls Tryz.prog 19 #[.pointer (some ⟨b, 0, none⟩), .bool lc] w (RetDL w b) := by
  have hlt := hs.lt
  have HS := Lib.hid hs
  clear hs
  obtain ⟨i0, hi, y0, y1, y2⟩ := info_parts infoDm
  have HI := Lib.hid (And.intro hi (And.intro y0 (And.intro y1 y2)))
  clear hi y0 y1 y2
  go_enter Tryz.func19, Tryz.ntmps19
  go_wp2_with fail
  refine (l01Next_any b 4 _ (HS.out.kept (World.grownBy_alloc _ _ none) (by simp)) (by decide) (by decide)).mono ?_
  rintro e W1 ⟨r1, rfl, p0, p1, hs, hg⟩
  have H0 : Hid (StDL w b (.slice (some ⟨w.heap.size, 0, none⟩) 0 0) [] W1) := Lib.hid (StDL.draw (W := w.alloc (.cells #[] 30 (0, 0))) ⟨⟨HS.out.kept (World.grownBy_alloc _ _ none) (by simp), World.grownBy_alloc _ _ _⟩, OwnD.new w⟩ hlt hs hg)
  replace p1 : r1 ≤ 3 := by omega
  clear hs hg
  obtain ⟨k1, rfl⟩ := Int.eq_ofNat_of_zero_le p0
  go_wp2_with fail
  go_loopw [5, 6] (fun v i wr => ∃ (ds : List Dm) (k : Nat), i = .int .i64 k ∧ ds.length + k ≤ 3 ∧ StDL w b v ds wr) (fun _ i _ => (intOf i).toNat)
  case atStart => exact ⟨[], k1, rfl, by simp; omega, H0.out⟩
  case round =>
    clear H0
    obtain ⟨ds, k, rfl, hdk, hst⟩ := hrel
    have HST := Lib.hid hst
    have HDK := Lib.hid hdk
    have hk3 : k ≤ 3 := by omega
    clear hst hdk
    by_cases hk0 : 0 < k
    · have hki : (0 : Int) < (k : Int) := by omega
      go_wp2_with fail
      refine (l27Draw_any b wr HST.out.1.1).mono ?_
      rintro e W2 ⟨dk, dr, dc, dt, dv, dg, rfl, hs, hg⟩
      have H2 := Lib.hid (StDG.mk' (k := dk) (r := dr) (c := dc) (t := dt) (v' := dv) (q := dg) (HST.out.draw hlt hs hg))
      clear hs hg
      go_upto_if 18 with fail
      generalize W2.alloc (.cells #[.int .i64 dk, .int .i64 dr, .int .i64 dc, .int .i64 dt, .int .i64 dv, .int .i64 dg] 30 (0, 0)) = W3 at *
      obtain ⟨g, hge⟩ : ∃ g, W2.heap.size = g := ⟨_, rfl⟩
      rw [hge] at H2 ⊢
      clear hge
      go_cut [] from 12 to 46 (fun wx => StDG w b g u5 ds wx)
      case first =>
        cases lc with
        | false =>
          go_wp2_with fail
          go_meet
          exact H2.out
        | true =>
          go_wp2_with fail
          refine (l01Next_any b 2 _ H2.out.1.1.1 (by decide) (by decide)).mono ?_
          rintro e W4 ⟨r, rfl, z0, z1, hs, hg⟩
          obtain ⟨g1, g2, g3, k2, r2, c2, t2, v2, q2, g4⟩ := H2.out
          have g5 := (hg.block g (blkLt g4) (fun e => by have := Option.some.inj e; omega)).trans g4
          have H4 := Lib.hid (g1.draw hlt hs hg)
          have hrr : r ≤ 1 := by omega
          have hc := (heap_cellR g5).1
          have hf := (heap_cellR g5).2
          have HG5 := Lib.hid g5
          clear g1 g4 g5 hs hg
          go_wp2_with fail
          all_goals (go_meet; exact StDG.local H4.out hlt g3 g2 HG5.out _ _ _)
      case rest =>
        clear H2
        obtain ⟨g1, g2, g3, ek, er, ec, et, ev, eq, g4⟩ := hcut
        have hgl := blkLt g4
        have hc := (heap_cellR g4).1
        have HG := Lib.hid g4
        have HST4 := Lib.hid g1
        clear g1 g4
        rcases Bool.eq_false_or_eq_true (dmOk ek er ec et ev eq) with hd | hd
        · have HD := Lib.hid hd
          clear hd
          go_wp2_with fail
          refine (specIsDamage_val HD.out).mono ?_
          rintro e W5 ⟨rfl, hb⟩
          have hc5 := (heap_cellR (blkK hb HG.out)).1
          have HST5 := Lib.hid (HST4.out.below hlt hb)
          clear hc hb
          go_wp2_with (at_builtin; refine wpList_append_own _ rfl _ _ 24 rfl w.heap.size 30 i0 (.agg #[.int .i64 0, .int .i64 0, .int .i64 0, .int .i64 0, .int .i64 0, .int .i64 0]) 6 48 Tryz.underlying24 HI.out.1 HI.out.2.1 HI.out.2.2.1 HI.out.2.2.2 rfl (by decide) _ _ _ rfl (World.ownsRow.alloc HST5.out.2 _) ⟨W5.heap.size, 0, none⟩ 1 1 (dmVs ⟨ek, er, ec, et, ev, eq⟩) rfl rfl (six_new _ ⟨ek, er, ec, et, ev, eq⟩) (six_one _) (by have := HDK.out; unfold maxLen; omega) (by have := HDK.out; omega) (by have := HST5.out.1.2.size; simp; omega) ?_; intro v' w9 hown3 hgrow3 _)
          exact ⟨⟨ds ++ [⟨ek, er, ec, et, ev, eq⟩], k - 1, by go_num, by have := HDK.out; simp; omega, stB_ownD (stB_alloc HST5.out.1 _) HST5.out.2 hgrow3 hlt (Nat.le_refl _), OwnD.snoc hown3⟩, by simp [intOf]; omega⟩
        · have HD := Lib.hid hd
          clear hd
          go_wp2_with fail
          refine (specIsDamage_val HD.out).mono ?_
          rintro e W5 ⟨rfl, hb⟩
          have hg5 := blkK hb HG.out
          have HST5 := Lib.hid (HST4.out.below hlt hb)
          clear hc hb
          go_wp2_with fail
          refine (l01Next_any b 4 _ HST5.out.1.1 (by decide) (by decide)).mono ?_
          rintro e W6 ⟨r, rfl, z0, z1, hs, hg⟩
          have hc6 := (heap_cellR ((hg.block g (blkLt hg5) (fun e => by have := Option.some.inj e; omega)).trans hg5)).1
          have HST6 := Lib.hid (HST5.out.draw hlt hs hg)
          clear hs hg hg5
          by_cases hr0 : r = 0
          · subst hr0
            go_wp2_with (at_builtin; refine wpList_append_own _ rfl _ _ 24 rfl w.heap.size 30 i0 (.agg #[.int .i64 0, .int .i64 0, .int .i64 0, .int .i64 0, .int .i64 0, .int .i64 0]) 6 48 Tryz.underlying24 HI.out.1 HI.out.2.1 HI.out.2.2.1 HI.out.2.2.2 rfl (by decide) _ _ _ rfl (World.ownsRow.alloc HST6.out.2 _) ⟨W6.heap.size, 0, none⟩ 1 1 (dmVs ⟨ek, er, ec, et, ev, eq⟩) rfl rfl (six_new _ ⟨ek, er, ec, et, ev, eq⟩) (six_one _) (by have := HDK.out; unfold maxLen; omega) (by have := HDK.out; omega) (by have := HST6.out.1.2.size; simp; omega) ?_; intro v' w9 hown3 hgrow3 _)
            exact ⟨⟨ds ++ [⟨ek, er, ec, et, ev, eq⟩], k - 1, by go_num, by have := HDK.out; simp; omega, stB_ownD (stB_alloc HST6.out.1 _) HST6.out.2 hgrow3 hlt (Nat.le_refl _), OwnD.snoc hown3⟩, by simp [intOf]; omega⟩
          · have hrb : (r == 0) = false := by simp [hr0]
            go_wp2_with fail
            exact ⟨⟨ds, k - 1, by go_num, by have := HDK.out; omega, HST6.out⟩, by simp [intOf]; omega⟩
    · have hki : ¬ (0 : Int) < (k : Int) := by omega
      go_wp2_with fail
      refine (l01Next_any b 60 _ HST.out.1.1 (by decide) (by decide)).mono ?_
      rintro e W2 ⟨r, rfl, z0, z1, hs, hg⟩
      have H2 := Lib.hid (HST.out.draw hlt hs hg)
      clear hs hg
      by_cases hr0 : r = 0
      · subst hr0
        go_wp2_with fail
        refine (l01Next_any b 2 _ (H2.out.1.1.kept (World.grownBy_alloc _ _ none) (by simp)) (by decide) (by decide)).mono ?_
        rintro e W3 ⟨r, rfl, z0, z1, hs, hg⟩
        have H3 : Hid (StDL w b (.slice (some ⟨W2.heap.size, 0, none⟩) 0 0) [] W3) := Lib.hid (StDL.draw (W := W2.alloc (.cells #[] 30 (0, 0))) ⟨stB_alloc H2.out.1 _, (OwnD.new W2).weak H2.out.1.2.size⟩ hlt hs hg)
        obtain ⟨k2, rfl⟩ := Int.eq_ofNat_of_zero_le z0
        have hk21 : k2 ≤ 1 := by omega
        clear hs hg H2
        go_wp2_with fail
        go_loopw [5, 8] (fun v i wr => ∃ (ds : List Dm) (k : Nat), i = .int .i64 k ∧ ds.length + k ≤ 21 ∧ StDL w b v ds wr) (fun _ i _ => (intOf i).toNat)
        case atStart => exact ⟨[], 20 + k2, by go_num, by simp; omega, H3.out⟩
        case round =>
          clear H3 HST HDK
          obtain ⟨ds, k, rfl, hdk, hst⟩ := hrel
          have HST := Lib.hid hst
          have HDK := Lib.hid hdk
          have hk21 : k ≤ 21 := by omega
          clear hst hdk
          by_cases hk0 : 0 < k
          · have hki : (0 : Int) < (k : Int) := by omega
            go_wp2_with (at_builtin; refine wpList_append_own _ rfl _ _ 24 rfl w.heap.size 30 i0 (.agg #[.int .i64 0, .int .i64 0, .int .i64 0, .int .i64 0, .int .i64 0, .int .i64 0]) 6 48 Tryz.underlying24 HI.out.1 HI.out.2.1 HI.out.2.2.1 HI.out.2.2.2 rfl (by decide) _ _ _ rfl (World.ownsRow.alloc HST.out.2 _) ⟨wr.heap.size, 0, none⟩ 1 1 (dmVs ⟨1, k, 0, 0, 0, 0⟩) rfl rfl (six_new _ ⟨1, k, 0, 0, 0, 0⟩) (six_one _) (by have := HDK.out; unfold maxLen; omega) (by have := HDK.out; omega) (by have := HST.out.1.2.size; simp; omega) ?_; intro v' w9 hown3 hgrow3 _)
            exact ⟨⟨ds ++ [⟨1, k, 0, 0, 0, 0⟩], k - 1, by go_num, by have := HDK.out; simp; omega, stB_ownD (stB_alloc HST.out.1 _) HST.out.2 hgrow3 hlt (Nat.le_refl _), OwnD.snoc hown3⟩, by simp [intOf]; omega⟩
          · have hki : ¬ (0 : Int) < (k : Int) := by omega
            obtain ⟨a, c, rfl⟩ := HST.out.2.read
            go_wp2_with fail
            go_ret
            exact ⟨ds, a, c, rfl, by have := HDK.out; omega, HST.out.2, HST.out.1.1, HST.out.1.2⟩
      · have hrb : (r == 0) = false := by simp [hr0]
        obtain ⟨a, c, rfl⟩ := H2.out.2.read
        go_wp2_with fail
        go_ret
        exact ⟨ds, a, c, rfl, by have := HDK.out; omega, H2.out.2, H2.out.1.1, H2.out.1.2⟩

end Go.Proofs.YtpilkgcghlfdmaaGreatDoor
