import Derived.Test.YtlcglclojlffgaaGreatDoorM4
import Derived.Test.YtlcglclojlffgaaGreatDoorM0
import Derived.Maps.AppendAt
import Derived.Test.YtlcglclojlffgaaGreatDoorM2
import Derived.Test.YtlcglclojlffgaaGreatDoorM3
import Derived.Test.YtlcglclojlffgaaGreatDoorM1
import Derived.RangeFuncNested
import Derived.RangeFuncBound
import Derived.RangeFuncCalls
import Derived.RangeFuncLeaves
import Derived.RangeFuncFrom
import Derived.RangeFuncKeeps
import Derived.Shelf.Abstract
import Derived.Shelf.RegionOpen
import Derived.OwnWalkIn
import Derived.TacticsInMore
import Derived.LoopNIn
import Derived.LoopIn
namespace Go.Proofs.YtlcglclojlffgaaGreatDoor
open Go.RowKit

theorem IntBlk.last {W : World} {b : Nat} {l : List Int} (hb : b = W.heap.size) : IntBlk (W.alloc (intsO l)) b l := by subst hb; exact push_at _ _
theorem IntBlk.up {W : World} {o : Obj} {b : Nat} {l : List Int} (h : IntBlk W b l) : IntBlk (W.alloc o) b l := h.below (ba1 _ _)
/-- a row of families written at once -/
theorem World.ownsRow_lit' {W : World} {base b : Nat} {xs : List FmR} {C : Array Value} (hb : base ≤ W.heap.size) (he : b = W.heap.size) (hC : C.toList = xs.flatMap fmE.enc) (hl : xs.length = 5 := by rfl) : fmE.Own (W.alloc (.cells C 123 (0, 0))) base (.slice (some ⟨b, 0, none⟩) 5 5) xs := by
  subst he
  have h := World.ownsRow_lit (base := base) (e := 123) (size := 8) W C 5 hb (by unfold maxLen; omega) (by
    have h2 := fmE.flat_len xs
    rw [← hC, hl] at h2
    exact h2)
  unfold Enc.Own
  rw [hl, ← hC]
  exact h
set_option maxRecDepth 100000 in
set_option maxHeartbeats 8000000 in
theorem spLibrary_any (w : World) :
    Calls Tryz.prog 88 #[] w fun e w' => ∃ v xs, e = .returned v ∧ xs.map FmR.f = libF ∧ fmE.Own w' w.heap.size v xs ∧ (∀ y ∈ xs, IntBlk w' y.b1 y.f.sizes ∧ IntBlk w' y.b2 y.f.levels) ∧ Below w.heap.size w w' := by
  go_enter Tryz.func88, Tryz.ntmps88
  go_wp2_with fail
  refine (spFieldOf_any 16 4 19 (by decide) least4 _).mono ?_
  rintro e w1 ⟨rfl, hb1⟩
  have HB1 := Lib.hid hb1
  clear hb1
  go_wp2_with fail
  refine (spFieldOf_any 64 6 67 (by decide) least6 _).mono ?_
  rintro e w2 ⟨rfl, hb2⟩
  have KA2 := Lib.hid (blkK hb2 (push_at _ _))
  have HB2 := Lib.hid (bt0 (bt0 HB1.out (ba1 _ _) (Nat.le_refl _)) hb2 (Nat.le_refl _))
  clear hb2
  go_wp2_with fail
  refine (spFieldOf_any 256 8 285 (by decide) least8 _).mono ?_
  rintro e w3 ⟨rfl, hb3⟩
  have KA3 := Lib.hid (blkK hb3 (blkK (ba1 _ _) KA2.out))
  have KB3 := Lib.hid (blkK hb3 (push_at _ _))
  have HB3 := Lib.hid (bt0 (bt0 HB2.out (ba1 _ _) (Nat.le_refl _)) hb3 (Nat.le_refl _))
  clear hb3
  go_wp2_with fail
  refine (spFieldOf_any 32 5 37 (by decide) least5 _).mono ?_
  rintro e w4 ⟨rfl, hb4⟩
  have KA4 := Lib.hid (blkK hb4 (blkK (ba1 _ _) KA3.out))
  have KB4 := Lib.hid (blkK hb4 (blkK (ba1 _ _) KB3.out))
  have KC4 := Lib.hid (blkK hb4 (push_at _ _))
  have HB4 := Lib.hid (bt0 (bt0 HB3.out (ba1 _ _) (Nat.le_refl _)) hb4 (Nat.le_refl _))
  clear hb4
  obtain ⟨hcA, hfA⟩ := heap_cellR KA4.out
  obtain ⟨hcB, hfB⟩ := heap_cellR KB4.out
  obtain ⟨hcC, hfC⟩ := heap_cellR KC4.out
  have zA := blkLt KA4.out
  have zB := blkLt KB4.out
  have zC := blkLt KC4.out
  have zB1 : w2.heap.size < w4.heap.size + 1 := by omega
  have zB2 : w2.heap.size < w4.heap.size + 1 + 1 := by omega
  have zC1 : w3.heap.size < w4.heap.size + 1 := by omega
  have zC2 : w3.heap.size < w4.heap.size + 1 + 1 := by omega
  have zC3 : w3.heap.size < w4.heap.size + 1 + 1 + 1 := by omega
  have zC4 : w3.heap.size < w4.heap.size + 1 + 1 + 1 + 1 := by omega
  have zD1 : w4.heap.size < w4.heap.size + 1 := by omega
  have zD2 : w4.heap.size < w4.heap.size + 1 + 1 := by omega
  have zD3 : w4.heap.size < w4.heap.size + 1 + 1 + 1 := by omega
  have zD4 : w4.heap.size < w4.heap.size + 1 + 1 + 1 + 1 := by omega
  have zD5 : w4.heap.size < w4.heap.size + 1 + 1 + 1 + 1 + 1 := by omega
  have zD6 : w4.heap.size < w4.heap.size + 1 + 1 + 1 + 1 + 1 + 1 := by omega
  have zD7 : w4.heap.size < w4.heap.size + 1 + 1 + 1 + 1 + 1 + 1 + 1 := by omega
  have zD8 : w4.heap.size < w4.heap.size + 1 + 1 + 1 + 1 + 1 + 1 + 1 + 1 := by omega
  go_wp2_with fail
  go_ret
  refine ⟨_, [⟨⟨⟨#[116, 105, 108, 101]⟩, 1, 2, 4, 19, [17, 21, 25], 0, [20, 40]⟩, (w4.heap.size + 1), (w4.heap.size + 1 + 1)⟩, ⟨⟨⟨#[112, 97, 110, 101, 108]⟩, 1, 2, 6, 67, [17, 21, 25, 29, 33], 0, [15, 30, 60]⟩, (w4.heap.size + 1 + 1 + 1), (w4.heap.size + 1 + 1 + 1 + 1)⟩, ⟨⟨⟨#[112, 108, 97, 116, 101]⟩, 1, 2, 8, 285, [17, 21, 25, 29, 33, 37, 41], 0, [10, 20, 30, 50]⟩, (w4.heap.size + 1 + 1 + 1 + 1 + 1), (w4.heap.size + 1 + 1 + 1 + 1 + 1 + 1)⟩,
    ⟨⟨⟨#[115, 116, 97, 99, 107]⟩, 2, 2, 5, 37, [4, 6, 8, 12, 16, 24], 4, [25, 50]⟩, (w4.heap.size + 1 + 1 + 1 + 1 + 1 + 1 + 1), (w4.heap.size + 1 + 1 + 1 + 1 + 1 + 1 + 1 + 1)⟩, ⟨⟨⟨#[114, 105, 98, 98, 111, 110]⟩, 2, 2, 5, 37, [3, 4, 5], 8, [30]⟩, (w4.heap.size + 1 + 1 + 1 + 1 + 1 + 1 + 1 + 1 + 1), (w4.heap.size + 1 + 1 + 1 + 1 + 1 + 1 + 1 + 1 + 1 + 1)⟩], rfl, rfl, ?_, ?_, ?_⟩
  · have hw4 := HB4.out.size
    exact World.ownsRow_lit' (by simp; omega) (by simp) rfl
  · intro y hy
    simp only [List.mem_cons, List.not_mem_nil, or_false] at hy
    rcases hy with rfl | rfl | rfl | rfl | rfl
    · constructor
      · iterate 10 (refine IntBlk.up ?_)
        exact IntBlk.last (l := [17, 21, 25]) (by simp)
      · iterate 9 (refine IntBlk.up ?_)
        exact IntBlk.last (l := [20, 40]) (by simp)
    · constructor
      · iterate 8 (refine IntBlk.up ?_)
        exact IntBlk.last (l := [17, 21, 25, 29, 33]) (by simp)
      · iterate 7 (refine IntBlk.up ?_)
        exact IntBlk.last (l := [15, 30, 60]) (by simp)
    · constructor
      · iterate 6 (refine IntBlk.up ?_)
        exact IntBlk.last (l := [17, 21, 25, 29, 33, 37, 41]) (by simp)
      · iterate 5 (refine IntBlk.up ?_)
        exact IntBlk.last (l := [10, 20, 30, 50]) (by simp)
    · constructor
      · iterate 4 (refine IntBlk.up ?_)
        exact IntBlk.last (l := [4, 6, 8, 12, 16, 24]) (by simp)
      · iterate 3 (refine IntBlk.up ?_)
        exact IntBlk.last (l := [25, 50]) (by simp)
    · constructor
      · iterate 2 (refine IntBlk.up ?_)
        exact IntBlk.last (l := [3, 4, 5]) (by simp)
      · iterate 1 (refine IntBlk.up ?_)
        exact IntBlk.last (l := [30]) (by simp)
  · have hw4 := HB4.out.size
    iterate 11 (refine Below.alloc ?_ (by simp; omega) _)
    refine Below.alloc ?_ hw4 _
    exact HB4.out

end Go.Proofs.YtlcglclojlffgaaGreatDoor
namespace Go.Proofs.YtlcglclojlffgaaGreatDoor
open Go.RowKit

set_option maxRecDepth 100000 in
set_option maxHeartbeats 4000000 in
theorem spFamilyNamed_any (nm : ByteArray) (w : World) :
    Calls Tryz.prog 73 #[.string nm] w (RetFN w (famN nm)) := by
  obtain ⟨O, hO⟩ : ∃ O, O = famN nm := ⟨_, rfl⟩
  have HO := Lib.hid hO
  rw [← hO]
  clear hO
  have HR0 := Lib.hid (push_at w (.cells #[.string ⟨#[]⟩, .int .i64 0, .int .i64 0, .int .i64 0, .int .i64 0, .slice none 0 0, .int .i64 0, .slice none 0 0] 123 (0, 0)))
  go_enter Tryz.func73, Tryz.ntmps73
  go_wp2_with fail
  refine (spLibrary_any _).mono ?_
  rintro e w1 ⟨v, xs, rfl, hx, ho, hi, hb⟩
  obtain ⟨a, c, rfl⟩ := ho.read
  have hl : xs.length = 5 := by have := congrArg List.length hx; simpa [libF] using this
  have HF := Lib.hid (HO.out.trans (famN_map hx nm))
  have HR1 := Lib.hid (blkK hb HR0.out)
  have HA := Lib.hid ho.at
  have HI := Lib.hid hi
  have HB1 := Lib.hid (bt1 hb)
  have hz1 : w.heap.size < w1.heap.size := blkLt HR1.out
  clear ho hi hb hx
  go_wp2_with fail
  go_loopw [5] (fun i wr => ∃ k : Nat, k ≤ xs.length ∧ i = .int .i64 k ∧ (xs.take k).find? (fun r => decide (r.f.name = nm)) = none ∧ Below w1.heap.size w1 wr) (fun i _ => xs.length - (intOf i).toNat)
  case atStart => exact ⟨0, Nat.zero_le _, rfl, rfl, Below.refl _ _⟩
  case round =>
    obtain ⟨k, hk, rfl, hnone, hbr⟩ := hrel
    have HNO := Lib.hid hnone
    have HBR := Lib.hid hbr
    have KR := Lib.hid (blkK hbr HR1.out)
    obtain ⟨hcR, hfR⟩ := heap_cellR KR.out
    have hltR := blkLt KR.out
    clear hnone hbr
    by_cases hlt : k < xs.length
    · have hki : (k : Int) < 5 := by omega
      obtain ⟨r, hr⟩ : ∃ r, xs[k]? = some r := by rw [List.getElem?_eq_getElem hlt]; exact ⟨_, rfl⟩
      have HXK := Lib.hid hr
      have hm := List.mem_of_getElem? hr
      obtain ⟨b, o, rfl, hbl, c0, c1, c2, c3, c4, c5, c6, c7⟩ := fm_at (HA.out.below HBR.out) hr
      by_cases hq : r.f.name = nm
      · have HD := Lib.hid (show O = some r.f by rw [HF.out, find_hit HXK.out HNO.out (decide_eq_true hq)]; rfl)
        have hqd : (r.f.name.toList == nm.toList) = true := by rw [hq]; simp
        have HJ := Lib.hid (HI.out r hm)
        clear hr hm
        have HBA := Lib.hid (HJ.out.1.below HBR.out)
        have HBC := Lib.hid (HJ.out.2.below HBR.out)
        have hn1 := blk_ne HBA.out KR.out (by decide)
        have hn2 := blk_ne HBC.out KR.out (by decide)
        clear hq
        go_wp2_with fail
        refine bodyPost_ret (v := .tuple #[.agg #[.string r.f.name, .int .i64 r.f.kind, .int .i64 r.f.fp, .int .i64 r.f.fk, .int .i64 r.f.fg, .slice (some ⟨r.b1, 0, none⟩) r.f.sizes.length r.f.sizes.length, .int .i64 r.f.cols, .slice (some ⟨r.b2, 0, none⟩) r.f.levels.length r.f.levels.length], .int .i64 0]) (by simp [results, Tryz.results73, go_sem, hcR]) rfl ⟨?_, .inl ⟨r.f, r.b1, r.b2, HD.out, rfl, ?_, ?_⟩⟩
        · iterate 8 (refine Below.setCell ?_ (by dsimp only; omega) _)
          exact bt0 HB1.out HBR.out (Nat.le_refl _)
        · iterate 8 (refine IntBlk.set ?_ hn1)
          exact HBA.out
        · iterate 8 (refine IntBlk.set ?_ hn2)
          exact HBC.out
      · have HN2 := Lib.hid (find_miss HXK.out HNO.out (decide_eq_false hq))
        have hqd : (r.f.name.toList == nm.toList) = false := by
          rw [beq_eq_false_iff_ne, ne_eq, ByteArray.toList_eq, ByteArray.toList_eq]; exact fun e => hq (ByteArray.ext (Array.toList_inj.1 e))
        clear hr hm hq
        go_wp2_with fail
        exact ⟨⟨k + 1, by omega, by go_num, HN2.out, HBR.out⟩, by simp [intOf]; omega⟩
    · have hki : ¬ (k : Int) < 5 := by omega
      have HD := Lib.hid (show O = none by
        have h := HNO.out
        rw [List.take_of_length_le (by omega)] at h
        rw [HF.out, h]; rfl)
      go_wp2_with fail
      refine bodyPost_ret (v := .tuple #[.agg #[.string ⟨#[]⟩, .int .i64 0, .int .i64 0, .int .i64 0, .int .i64 0, .slice none 0 0, .int .i64 0, .slice none 0 0], .int .i64 4]) (by simp [results, Tryz.results73, go_sem, hcR]) rfl ⟨?_, .inr ⟨HD.out, rfl⟩⟩
      iterate 8 (refine Below.setCell ?_ (by dsimp only; omega) _)
      exact bt0 HB1.out HBR.out (Nat.le_refl _)

end Go.Proofs.YtlcglclojlffgaaGreatDoor
namespace Go.Proofs.YtlcglclojlffgaaGreatDoor
open Go.RowKit

set_option maxRecDepth 100000 in
set_option maxHeartbeats 2000000 in
theorem spIsLayout_any {p k g : Int} {F : Fd} (h : FV p k g F) (d c n : Int) (w : World) :
    Calls Tryz.prog 111 #[.agg #[.int .i64 p, .int .i64 k, .int .i64 g, .int .i64 d, .int .i64 c, .int .i64 n]] w fun e w' => e = .returned (.bool (Lay.ok ⟨d, c, n⟩ F.q)) ∧ Below w.heap.size w w' := by
  have H := Lib.hid h
  clear h
  obtain ⟨ok, hok⟩ : ∃ ok, ok = Lay.ok ⟨d, c, n⟩ F.q := ⟨_, rfl⟩
  have HOK := Lib.hid hok
  rw [← hok]
  clear hok
  go_enter Tryz.func111, Tryz.ntmps111
  go_wp2_with fail
  have hz := push_at w (.cells #[.int .i64 p, .int .i64 k, .int .i64 g, .int .i64 d, .int .i64 c, .int .i64 n] 146 (0, 0))
  have HB0 := Lib.hid (ba1 w (.cells #[.int .i64 p, .int .i64 k, .int .i64 g, .int .i64 d, .int .i64 c, .int .i64 n] 146 (0, 0)))
  obtain ⟨w1, hw1⟩ : ∃ w1, w1 = w.alloc (.cells #[.int .i64 p, .int .i64 k, .int .i64 g, .int .i64 d, .int .i64 c, .int .i64 n] 146 (0, 0)) := ⟨_, rfl⟩
  rw [← hw1] at hz HB0 ⊢
  have HX1 := Lib.hid hz
  obtain ⟨hcA, hfA⟩ := heap_cellR hz
  have hltA := blkLt hz
  clear hw1 hz
  refine (spIn_any n 1 16 w1).mono ?_
  rintro e w2 ⟨rfl, rfl⟩
  rcases Bool.eq_false_or_eq_true (inB n 1 16) with h1 | h1
  · have hn := inB_iff.1 h1
    rw [h1]
    go_wp2_with fail
    refine (spIn_any d n 1500 w1).mono ?_
    rintro e w2 ⟨rfl, rfl⟩
    rcases Bool.eq_false_or_eq_true (inB d n 1500) with h2 | h2
    · have hd := inB_iff.1 h2
      rw [h2]
      go_wp2_with fail
      refine (spIn_any c 1 64 w1).mono ?_
      rintro e w2 ⟨rfl, rfl⟩
      rcases Bool.eq_false_or_eq_true (inB c 1 64) with h3 | h3
      · have hc := inB_iff.1 h3
        rw [h3]
        have hm1 : 0 ≤ n * c := Int.mul_nonneg (by omega) (by omega)
        have hm2 : n * c ≤ 16 * 64 := Int.mul_le_mul hn.2 hc.2 (by omega) (by omega)
        have HT := Lib.hid (show Lay.total ⟨d, c, n⟩ = d + n * c from rfl)
        obtain ⟨m, hm⟩ : ∃ m, m = n * c := ⟨_, rfl⟩
        rw [← hm] at hm1 hm2 HT
        have hw : wrap64 (n * c) = m := by rw [← hm]; unfold wrap64; omega
        have hw2 : wrap64 (d + m) = d + m := by unfold wrap64; omega
        have hw3 : wrap64 (n - 1) = n - 1 := by unfold wrap64; omega
        clear hm
        by_cases h4 : 1500 < d + m
        · have HE := Lib.hid (show ok = false by rw [HOK.out]; simp only [Lay.ok, HT.out]; simp; omega)
          have h4' : decide (1500 < d + m) = true := decide_eq_true h4
          go_wp2_with fail
          go_ret
          exact ⟨ret_bool HE.out.symm, HB0.out⟩
        · have h4' : decide (1500 < d + m) = false := decide_eq_false h4
          have HOK2 := Lib.hid (show ok = (codB F.q (Lay.share ⟨d, c, n⟩ 0 + c) c && codB F.q (Lay.share ⟨d, c, n⟩ (n - 1) + c) c) by
            rw [HOK.out]
            simp only [Lay.ok, HT.out]
            rw [decide_eq_true (show 1 ≤ n by omega), decide_eq_true (show n ≤ 16 by omega), decide_eq_true (show n ≤ d by omega), decide_eq_true (show d ≤ 1500 by omega), decide_eq_true (show 1 ≤ c by omega), decide_eq_true (show c ≤ 64 by omega), decide_eq_true (show d + m ≤ 1500 by omega)]
            rfl)
          clear h4
          go_wp2_with fail
          refine (spBlock_any p k g d c n 0 w1 (by omega) (by omega) (by omega) (by omega) (by omega) (by omega)).mono ?_
          rintro e w2 ⟨rfl, hb2⟩
          have HX2 := Lib.hid (blkK hb2 HX1.out)
          have HB2 := Lib.hid (bt0 HB0.out hb2 (Nat.le_refl _))
          clear hb2 hcA hfA hltA
          go_wp2_with fail
          refine (spIsCode_any H.out _ _ w2).mono ?_
          rintro e w3 ⟨rfl, hb3⟩
          have HX3 := Lib.hid (blkK hb3 HX2.out)
          have HB3 := Lib.hid (bt0 HB2.out hb3 (Nat.le_refl _))
          clear hb3
          obtain ⟨hcA, hfA⟩ := heap_cellR HX3.out
          have hltA := blkLt HX3.out
          rcases Bool.eq_false_or_eq_true (codB F.q (Lay.share ⟨d, c, n⟩ 0 + c) c) with h5 | h5
          · rw [h5]
            have HOK3 := Lib.hid (show ok = codB F.q (Lay.share ⟨d, c, n⟩ (n - 1) + c) c by rw [HOK2.out, h5]; rfl)
            go_wp2_with fail
            refine (spBlock_any p k g d c n (n - 1) w3 (by omega) (by omega) (by omega) (by omega) (by omega) (by omega)).mono ?_
            rintro e w4 ⟨rfl, hb4⟩
            have HB4 := Lib.hid (bt0 HB3.out hb4 (Nat.le_refl _))
            clear hb4
            go_wp2_with fail
            refine (spIsCode_any H.out _ _ w4).mono ?_
            rintro e w5 ⟨rfl, hb5⟩
            have HB5 := Lib.hid (bt0 HB4.out hb5 (Nat.le_refl _))
            clear hb5
            rw [← HOK3.out]
            go_wp2_with fail
            go_ret
            exact ⟨rfl, HB5.out⟩
          · rw [h5]
            have HE := Lib.hid (show ok = false by rw [HOK2.out, h5]; rfl)
            go_wp2_with fail
            go_ret
            exact ⟨ret_bool HE.out.symm, HB3.out⟩
      · rw [h3]
        have HE := Lib.hid (show ok = false by
          have h4 : ¬ (1 ≤ c ∧ c ≤ 64) := of_decide_eq_false h3
          rw [HOK.out]; simp only [Lay.ok]; simp; omega)
        go_wp2_with fail
        go_ret
        exact ⟨ret_bool HE.out.symm, HB0.out⟩
    · rw [h2]
      have HE := Lib.hid (show ok = false by
        have h4 : ¬ (n ≤ d ∧ d ≤ 1500) := of_decide_eq_false h2
        rw [HOK.out]; simp only [Lay.ok]; simp; omega)
      go_wp2_with fail
      go_ret
      exact ⟨ret_bool HE.out.symm, HB0.out⟩
  · rw [h1]
    have HE := Lib.hid (show ok = false by
      have h4 : ¬ (1 ≤ n ∧ n ≤ 16) := of_decide_eq_false h1
      rw [HOK.out]; simp only [Lay.ok]; simp; omega)
    go_wp2_with fail
    go_ret
    exact ⟨ret_bool HE.out.symm, HB0.out⟩
set_option maxRecDepth 100000 in
set_option maxHeartbeats 1000000 in
theorem spWidth_any (F : Fd) (h : FdB F) (w : World) :
    Calls Tryz.prog 108 #[fV F] w fun e w' => e = .returned (.int .i64 (F.k : Int)) ∧ Below w.heap.size w w' := by
  have hk := h.k8
  have hk3 := h.k3
  have H := Lib.hid h
  have HQ := Lib.hid h.q
  clear h
  go_enter Tryz.func108, Tryz.ntmps108
  go_wp2_with fail
  have hz := push_at w (.cells #[.int .i64 2, .int .i64 (F.k : Int), .int .i64 (F.g : Int)] 121 (0, 0))
  have HB0 := Lib.hid (ba1 w (.cells #[.int .i64 2, .int .i64 (F.k : Int), .int .i64 (F.g : Int)] 121 (0, 0)))
  obtain ⟨w1, hw1⟩ : ∃ w1, w1 = w.alloc (.cells #[.int .i64 2, .int .i64 (F.k : Int), .int .i64 (F.g : Int)] 121 (0, 0)) := ⟨_, rfl⟩
  rw [← hw1] at hz HB0 ⊢
  have HX1 := Lib.hid hz
  clear hw1 hz
  go_loopw [3] (fun i wr => ∃ j : Nat, j ≤ F.k ∧ i = .int .i64 j ∧ wr.heap[w.heap.size]? = some (.cells #[.int .i64 2, .int .i64 (F.k : Int), .int .i64 (F.g : Int)] 121 (0, 0)) ∧ Below w.heap.size w wr) (fun i _ => F.k - (intOf i).toNat)
  case atStart => exact ⟨0, Nat.zero_le _, rfl, HX1.out, HB0.out⟩
  case round =>
    obtain ⟨j, hj, rfl, hx, hb⟩ := hrel
    have HX := Lib.hid hx
    have HB := Lib.hid hb
    obtain ⟨hcA, hfA⟩ := heap_cellR HX.out
    have hltA := blkLt HX.out
    have hpw := pow_small2 (show j ≤ 8 by omega)
    obtain ⟨P, hP⟩ : ∃ P, P = 2 ^ j := ⟨_, rfl⟩
    rw [← hP] at hpw
    have HC := Lib.hid (show (2 * P ≤ F.q ↔ j < F.k) by
      rw [HQ.out, hP, show 2 * 2 ^ j = 2 ^ (j + 1) by rw [Nat.pow_succ]; omega]
      exact Nat.pow_le_pow_iff_right (by decide))
    clear hx hb hP
    go_wp2_with fail
    refine (spSize_any F H.out wr).mono ?_
    rintro e w2 ⟨rfl, hb2⟩
    have HX2 := Lib.hid (blkK hb2 HX.out)
    have HB2 := Lib.hid (bt0 HB.out hb2 (Nat.le_refl _))
    clear hb2
    by_cases hjk : j < F.k
    · have hle := HC.out.2 hjk
      have hli : 2 * (P : Int) ≤ (F.q : Int) := by omega
      clear hle
      go_wp2_with fail
      exact ⟨⟨j + 1, by omega, by push_cast; rfl, HX2.out, HB2.out⟩, by simp [intOf]; omega⟩
    · have hle : ¬ 2 * P ≤ F.q := fun h => hjk (HC.out.1 h)
      have hli : ¬ 2 * (P : Int) ≤ (F.q : Int) := by omega
      have HE := Lib.hid (show j = F.k by omega)
      clear hle
      go_wp2_with fail
      go_ret
      exact ⟨by rw [← HE.out]; rfl, HB2.out⟩

end Go.Proofs.YtlcglclojlffgaaGreatDoor
namespace Go.Proofs.YtlcglclojlffgaaGreatDoor
open Go.RowKit

theorem spAbs_any (n : Int) (h : -1000 ≤ n ∧ n ≤ 1000) (w : World) :
    Calls Tryz.prog 146 #[.int .i64 n] w fun e w' => e = .returned (.int .i64 (absI n)) ∧ w = w' := by
  have hw : wrap64 (-n) = -n := by unfold wrap64; omega
  by_cases h0 : n < 0
  · have HE := Lib.hid (show absI n = -n by rw [absI, if_pos h0])
    have hlt : n < -n := by omega
    go_enter Tryz.func146, Tryz.ntmps146
    go_wp2_with fail
    go_ret
    exact ⟨ret_int HE.out.symm, rfl⟩
  · have HE := Lib.hid (show absI n = n by rw [absI, if_neg h0])
    have hlt : ¬ n < -n := by omega
    go_enter Tryz.func146, Tryz.ntmps146
    go_wp2_with fail
    go_ret
    exact ⟨ret_int HE.out.symm, rfl⟩
theorem spFinder_any (r c : Int) (hr : -900 ≤ r ∧ r ≤ 900) (hc : -900 ≤ c ∧ c ≤ 900) (w : World) :
    Calls Tryz.prog 145 #[.int .i64 r, .int .i64 c] w fun e w' => e = .returned (.int .i64 (findS r c)) ∧ w = w' := by
  have hw1 : wrap64 (r - 3) = r - 3 := by unfold wrap64; omega
  have hw2 : wrap64 (c - 3) = c - 3 := by unfold wrap64; omega
  obtain ⟨d, hd⟩ : ∃ d, d = dst (r - 3) (c - 3) := ⟨_, rfl⟩
  have HD := Lib.hid hd
  have HF := Lib.hid (show findS r c = if 4 < d then -1 else if d = 2 ∨ d = 4 then 0 else 1 by rw [findS, ← hd])
  obtain ⟨A, hA⟩ : ∃ A, A = absI (r - 3) := ⟨_, rfl⟩
  obtain ⟨B, hB⟩ : ∃ B, B = absI (c - 3) := ⟨_, rfl⟩
  have HA := Lib.hid hA
  have HBB := Lib.hid hB
  have hmx : (if A < B then B else A) = d := by
    rw [hd, dst, ← hA, ← hB]
    repeat' split
    all_goals omega
  clear hd hA hB
  by_cases d4 : 4 < d
  · have d4b : decide (4 < d) = true := decide_eq_true d4
    have HE := Lib.hid (HF.out.trans (if_pos d4))
    go_enter Tryz.func145, Tryz.ntmps145
    go_wp2_with fail
    refine (spAbs_any (r - 3) (by omega) w).mono ?_
    rintro e w1 ⟨rfl, rfl⟩
    rw [← HA.out]
    go_wp2_with fail
    refine (spAbs_any (c - 3) (by omega) w).mono ?_
    rintro e w1 ⟨rfl, rfl⟩
    rw [← HBB.out]
    go_wp2_with fail
    go_ret
    exact ⟨ret_int HE.out.symm, rfl⟩
  · have d4b : decide (4 < d) = false := decide_eq_false d4
    by_cases d2 : d = 2
    · have HE := Lib.hid (HF.out.trans ((if_neg d4).trans (if_pos (Or.inl d2))))
      have d2b : (d == 2) = true := by rw [beq_iff_eq]; exact d2
      clear d2
      go_enter Tryz.func145, Tryz.ntmps145
      go_wp2_with fail
      refine (spAbs_any (r - 3) (by omega) w).mono ?_
      rintro e w1 ⟨rfl, rfl⟩
      rw [← HA.out]
      go_wp2_with fail
      refine (spAbs_any (c - 3) (by omega) w).mono ?_
      rintro e w1 ⟨rfl, rfl⟩
      rw [← HBB.out]
      go_wp2_with fail
      go_ret
      exact ⟨ret_int HE.out.symm, rfl⟩
    · have d2b : (d == 2) = false := by rw [beq_eq_false_iff_ne]; exact d2
      by_cases d4' : d = 4
      · have HE := Lib.hid (HF.out.trans ((if_neg d4).trans (if_pos (Or.inr d4'))))
        have d4c : (d == 4) = true := by rw [beq_iff_eq]; exact d4'
        clear d2 d4'
        go_enter Tryz.func145, Tryz.ntmps145
        go_wp2_with fail
        refine (spAbs_any (r - 3) (by omega) w).mono ?_
        rintro e w1 ⟨rfl, rfl⟩
        rw [← HA.out]
        go_wp2_with fail
        refine (spAbs_any (c - 3) (by omega) w).mono ?_
        rintro e w1 ⟨rfl, rfl⟩
        rw [← HBB.out]
        go_wp2_with fail
        go_ret
        exact ⟨ret_int HE.out.symm, rfl⟩
      · have HE := Lib.hid (HF.out.trans ((if_neg d4).trans (if_neg (fun h => h.elim d2 d4'))))
        have d4c : (d == 4) = false := by rw [beq_eq_false_iff_ne]; exact d4'
        clear d2 d4'
        go_enter Tryz.func145, Tryz.ntmps145
        go_wp2_with fail
        refine (spAbs_any (r - 3) (by omega) w).mono ?_
        rintro e w1 ⟨rfl, rfl⟩
        rw [← HA.out]
        go_wp2_with fail
        refine (spAbs_any (c - 3) (by omega) w).mono ?_
        rintro e w1 ⟨rfl, rfl⟩
        rw [← HBB.out]
        go_wp2_with fail
        go_ret
        exact ⟨ret_int HE.out.symm, rfl⟩
/-- the three corners of the finder patterns -/
def cornX (n : Int) (k : Nat) : Int := if k = 2 then n - 7 else 0
def cornY (n : Int) (k : Nat) : Int := if k = 1 then n - 7 else 0
def vS (n r c : Int) (k : Nat) : Int := findS (r - cornX n k) (c - cornY n k)
def restS (n r c : Int) : Int := if r = 6 ∧ 8 ≤ c ∧ c ≤ n - 9 then 1 - c % 2 else if c = 6 ∧ 8 ≤ r ∧ r ≤ n - 9 then 1 - r % 2 else if r = n - 8 ∧ c = 8 then 1 else -1
theorem fixS_at {n r c : Int} {k : Nat} (hk : k < 3) (h : ∀ j, j < k → vS n r c j < 0) (hv : 0 ≤ vS n r c k) : fixS n r c = vS n r c k := by
  have e0 : vS n r c 0 = findS r c := by simp [vS, cornX, cornY]
  have e1 : vS n r c 1 = findS r (c - (n - 7)) := by simp [vS, cornX, cornY]
  have e2 : vS n r c 2 = findS (r - (n - 7)) c := by simp [vS, cornX, cornY]
  unfold fixS
  rw [← e0, ← e1, ← e2]
  have hk3 : k = 0 ∨ k = 1 ∨ k = 2 := by omega
  rcases hk3 with rfl | rfl | rfl
  · rw [if_pos hv]
  · have := h 0 (by omega)
    rw [if_neg (by omega), if_pos hv]
  · have := h 0 (by omega)
    have := h 1 (by omega)
    rw [if_neg (by omega), if_neg (by omega), if_pos hv]
theorem fixS_rest {n r c : Int} (h : ∀ j, j < 3 → vS n r c j < 0) : fixS n r c = restS n r c := by
  have e0 : vS n r c 0 = findS r c := by simp [vS, cornX, cornY]
  have e1 : vS n r c 1 = findS r (c - (n - 7)) := by simp [vS, cornX, cornY]
  have e2 : vS n r c 2 = findS (r - (n - 7)) c := by simp [vS, cornX, cornY]
  unfold fixS
  rw [← e0, ← e1, ← e2]
  have := h 0 (by omega)
  have := h 1 (by omega)
  have := h 2 (by omega)
  rw [if_neg (by omega), if_neg (by omega), if_neg (by omega)]
  rfl
theorem restS_eq (n r c : Int) : restS n r c = if (r == 6) && inB c 8 (n - 9) then 1 - c % 2 else if (c == 6) && inB r 8 (n - 9) then 1 - r % 2 else if (r == n - 8) && (c == 8) then 1 else -1 := by
  unfold restS
  simp only [inB, Bool.and_eq_true, beq_iff_eq, decide_eq_true_eq]
def CornAt (W : World) (B : Nat) (n : Int) : Prop := ∀ k, k < 3 → W.cell? ⟨B + 3, k, none⟩ = some (.slice (some ⟨B + k, 0, none⟩) 2 2) ∧ W.cell? ⟨B + k, 0, none⟩ = some (.int .i64 (cornX n k)) ∧ W.cell? ⟨B + k, 1, none⟩ = some (.int .i64 (cornY n k))
set_option maxRecDepth 100000 in
set_option maxHeartbeats 8000000 in
theorem spFixed_any (n r c : Int) (hn : 17 ≤ n ∧ n ≤ 41) (hr : 0 ≤ r ∧ r ≤ 41) (hc : 0 ≤ c ∧ c ≤ 41) (w : World) :
    Calls Tryz.prog 144 #[.int .i64 n, .int .i64 r, .int .i64 c] w fun e w' => e = .returned (.int .i64 (fixS n r c)) ∧ Below w.heap.size w w' := by
  have hw1 : wrap64 (n - 7) = n - 7 := by unfold wrap64; omega
  obtain ⟨R, hR⟩ : ∃ R, R = fixS n r c := ⟨_, rfl⟩
  have HR := Lib.hid hR
  rw [← hR]
  clear hR
  go_enter Tryz.func144, Tryz.ntmps144
  go_wp2_with fail
  obtain ⟨B, hB⟩ : ∃ B, B = w.heap.size := ⟨_, rfl⟩
  obtain ⟨W, hW⟩ : ∃ W, W = ((((w.alloc (.cells #[.int .i64 0, .int .i64 0] 2 (0, 0))).alloc (.cells #[.int .i64 0, .int .i64 (n - 7)] 2 (0, 0))).alloc (.cells #[.int .i64 (n - 7), .int .i64 0] 2 (0, 0))).alloc (.cells #[.slice (some ⟨w.heap.size, 0, none⟩) 2 2, .slice (some ⟨w.heap.size + 1, 0, none⟩) 2 2, .slice (some ⟨w.heap.size + 1 + 1, 0, none⟩) 2 2] 67 (0, 0))) := ⟨_, rfl⟩
  have hCO : CornAt W B n ∧ Below w.heap.size w W ∧ B + 3 < W.heap.size := by
    have b1 := push_at w (.cells #[.int .i64 0, .int .i64 0] 2 (0, 0))
    have b2 := push_at (w.alloc (.cells #[.int .i64 0, .int .i64 0] 2 (0, 0))) (.cells #[.int .i64 0, .int .i64 (n - 7)] 2 (0, 0))
    have b3 := push_at ((w.alloc (.cells #[.int .i64 0, .int .i64 0] 2 (0, 0))).alloc (.cells #[.int .i64 0, .int .i64 (n - 7)] 2 (0, 0))) (.cells #[.int .i64 (n - 7), .int .i64 0] 2 (0, 0))
    have b4 := push_at (((w.alloc (.cells #[.int .i64 0, .int .i64 0] 2 (0, 0))).alloc (.cells #[.int .i64 0, .int .i64 (n - 7)] 2 (0, 0))).alloc (.cells #[.int .i64 (n - 7), .int .i64 0] 2 (0, 0))) (.cells #[.slice (some ⟨w.heap.size, 0, none⟩) 2 2, .slice (some ⟨w.heap.size + 1, 0, none⟩) 2 2, .slice (some ⟨w.heap.size + 1 + 1, 0, none⟩) 2 2] 67 (0, 0))
    rw [← hW] at b4
    have c1 := (heap_cellR (push_old (A := .cells #[.slice (some ⟨w.heap.size, 0, none⟩) 2 2, .slice (some ⟨w.heap.size + 1, 0, none⟩) 2 2, .slice (some ⟨w.heap.size + 1 + 1, 0, none⟩) 2 2] 67 (0, 0)) (push_old (A := .cells #[.int .i64 (n - 7), .int .i64 0] 2 (0, 0)) (push_old (A := .cells #[.int .i64 0, .int .i64 (n - 7)] 2 (0, 0)) b1)))).1
    have c2 := (heap_cellR (push_old (A := .cells #[.slice (some ⟨w.heap.size, 0, none⟩) 2 2, .slice (some ⟨w.heap.size + 1, 0, none⟩) 2 2, .slice (some ⟨w.heap.size + 1 + 1, 0, none⟩) 2 2] 67 (0, 0)) (push_old (A := .cells #[.int .i64 (n - 7), .int .i64 0] 2 (0, 0)) b2))).1
    have c3 := (heap_cellR (push_old (A := .cells #[.slice (some ⟨w.heap.size, 0, none⟩) 2 2, .slice (some ⟨w.heap.size + 1, 0, none⟩) 2 2, .slice (some ⟨w.heap.size + 1 + 1, 0, none⟩) 2 2] 67 (0, 0)) b3)).1
    rw [← hW] at c1 c2 c3
    have c4 := (heap_cellR b4).1
    simp only [World.size_alloc] at c1 c2 c3 c4
    rw [← hB] at c1 c2 c3 c4
    refine ⟨fun k hk => ?_, ?_, ?_⟩
    · have hk3 : k = 0 ∨ k = 1 ∨ k = 2 := by omega
      rcases hk3 with rfl | rfl | rfl
      · exact ⟨c4 0, c1 0, c1 1⟩
      · exact ⟨c4 1, c2 0, c2 1⟩
      · exact ⟨c4 2, c3 0, c3 1⟩
    · rw [hW]
      exact ((ba2 w _ _).alloc (by simp; omega) _).alloc (by simp; omega) _
    · rw [hW, hB]; simp
  obtain ⟨hCO, hbW, hlB⟩ := hCO
  rw [← hW, ← hB]
  have HCO := Lib.hid hCO
  have HBW := Lib.hid hbW
  clear hW hCO hbW hB
  rw [show B + 1 + 1 + 1 = B + 3 from rfl]
  go_loopw [8, 9] (fun i _ wr => ∃ k : Nat, k ≤ 3 ∧ i = .int .i64 k ∧ (∀ j, j < k → vS n r c j < 0) ∧ CornAt wr B n ∧ Below w.heap.size w wr ∧ B + 3 < wr.heap.size) (fun i _ _ => 3 - (intOf i).toNat)
  case atStart => exact ⟨0, Nat.zero_le _, rfl, fun j h => by omega, HCO.out, HBW.out, hlB⟩
  case round =>
    obtain ⟨k, hk, rfl, hall, hco, hb, hlr⟩ := hrel
    have HALL := Lib.hid hall
    have HB := Lib.hid hb
    have HCR := Lib.hid hco
    clear hall hb
    by_cases hk3 : k < 3
    · obtain ⟨q1, q2, q3⟩ := hco k hk3
      clear hco
      have hki : (k : Int) < 3 := by omega
      have HV := Lib.hid (show vS n r c k = findS (r - cornX n k) (c - cornY n k) from rfl)
      obtain ⟨X, hX⟩ : ∃ X, X = cornX n k := ⟨_, rfl⟩
      obtain ⟨Y, hY⟩ : ∃ Y, Y = cornY n k := ⟨_, rfl⟩
      have hXb : 0 ≤ X ∧ X ≤ 41 := by rw [hX]; unfold cornX; split <;> omega
      have hYb : 0 ≤ Y ∧ Y ≤ 41 := by rw [hY]; unfold cornY; split <;> omega
      rw [← hX] at q2 HV
      rw [← hY] at q3 HV
      have hwx : wrap64 (r - X) = r - X := by unfold wrap64; omega
      have hwy : wrap64 (c - Y) = c - Y := by unfold wrap64; omega
      have hBk : B + k < wr.heap.size := by omega
      have HFN := Lib.hid (fun w => spFinder_any (r - X) (c - Y) (by omega) (by omega) w)
      obtain ⟨v, hv⟩ : ∃ v, v = findS (r - X) (c - Y) := ⟨_, rfl⟩
      rw [← hv] at HFN HV
      clear hX hY hv
      go_wp2_with fail
      go_quiet ((go_at_call 145; go_must (exact quiet_same' (HFN.out _))))
      by_cases hv0 : 0 ≤ v
      · have HE := Lib.hid (show R = v by rw [HR.out, fixS_at hk3 HALL.out (by rw [HV.out]; exact hv0), HV.out])
        go_wp2_with fail
        go_ret
        exact ⟨ret_int HE.out.symm, HB.out.trans (below_drewN (Below.refl _ _) _)⟩
      · have HK : Hid (∀ j, j < k + 1 → vS n r c j < 0) := Lib.hid (fun j hj => by
          by_cases e : j = k
          · subst e; rw [HV.out]; omega
          · exact HALL.out j (by omega))
        go_wp2_with fail
        refine ⟨⟨k + 1, by omega, by push_cast; rfl, HK.out, fun j hj => ?_, HB.out.trans (below_drewN (Below.refl _ _) _), hlr⟩, by simp [intOf]; omega⟩
        exact HCR.out j hj
    · obtain rfl : k = 3 := by omega
      clear hco
      have HRE := Lib.hid (HR.out.trans (fixS_rest HALL.out))
      have hw9 : wrap64 (n - 9) = n - 9 := by unfold wrap64; omega
      have hw8 : wrap64 (n - 8) = n - 8 := by unfold wrap64; omega
      have hki : ¬ (3 : Int) < 3 := by omega
      have htc : c.tmod 2 = c % 2 := Int.tmod_eq_emod_of_nonneg (by omega)
      have htr : r.tmod 2 = r % 2 := Int.tmod_eq_emod_of_nonneg (by omega)
      have hm1 : wrap64 (1 - c % 2) = 1 - c % 2 := by unfold wrap64; omega
      have hm2 : wrap64 (1 - r % 2) = 1 - r % 2 := by unfold wrap64; omega
      rw [restS_eq] at HRE
      obtain ⟨b1, hb1⟩ : ∃ b, (r == 6) = b := ⟨_, rfl⟩
      obtain ⟨b2, hb2⟩ : ∃ b, (c == 6) = b := ⟨_, rfl⟩
      obtain ⟨b3, hb3⟩ : ∃ b, (r == n - 8) = b := ⟨_, rfl⟩
      obtain ⟨b4, hb4⟩ : ∃ b, (c == 8) = b := ⟨_, rfl⟩
      obtain ⟨b5, hb5⟩ : ∃ b, inB c 8 (n - 9) = b := ⟨_, rfl⟩
      obtain ⟨b6, hb6⟩ : ∃ b, inB r 8 (n - 9) = b := ⟨_, rfl⟩
      have HI5 := Lib.hid (fun w => spIn_val (w := w) hb5)
      have HI6 := Lib.hid (fun w => spIn_val (w := w) hb6)
      rw [hb1, hb2, hb3, hb4, hb5, hb6] at HRE
      clear hb5 hb6 hn hr hc
      cases b1 with
      | false =>
        cases b2 with
        | false =>
          cases b3 with
          | false =>
            go_wp2_with fail
            go_ret
            exact ⟨ret_int HRE.out.symm, HB.out⟩
          | true =>
            cases b4 with
            | false =>
              go_wp2_with fail
              go_ret
              exact ⟨ret_int HRE.out.symm, HB.out⟩
            | true =>
              go_wp2_with fail
              go_ret
              exact ⟨ret_int HRE.out.symm, HB.out⟩
        | true =>
          go_wp2_with fail
          refine (HI6.out _).mono ?_
          rintro e w' ⟨rfl, rfl⟩
          cases b6 with
          | true =>
            go_wp2_with fail
            go_ret
            exact ⟨ret_int HRE.out.symm, HB.out⟩
          | false =>
            cases b3 with
            | false =>
              go_wp2_with fail
              go_ret
              exact ⟨ret_int HRE.out.symm, HB.out⟩
            | true =>
              cases b4 with
              | false =>
                go_wp2_with fail
                go_ret
                exact ⟨ret_int HRE.out.symm, HB.out⟩
              | true =>
                go_wp2_with fail
                go_ret
                exact ⟨ret_int HRE.out.symm, HB.out⟩
      | true =>
        go_wp2_with fail
        refine (HI5.out _).mono ?_
        rintro e w' ⟨rfl, rfl⟩
        cases b5 with
        | true =>
          go_wp2_with fail
          go_ret
          exact ⟨ret_int HRE.out.symm, HB.out⟩
        | false =>
          cases b2 with
          | false =>
            cases b3 with
            | false =>
              go_wp2_with fail
              go_ret
              exact ⟨ret_int HRE.out.symm, HB.out⟩
            | true =>
              cases b4 with
              | false =>
                go_wp2_with fail
                go_ret
                exact ⟨ret_int HRE.out.symm, HB.out⟩
              | true =>
                go_wp2_with fail
                go_ret
                exact ⟨ret_int HRE.out.symm, HB.out⟩
          | true =>
            go_wp2_with fail
            refine (HI6.out _).mono ?_
            rintro e w' ⟨rfl, rfl⟩
            cases b6 with
            | true =>
              go_wp2_with fail
              go_ret
              exact ⟨ret_int HRE.out.symm, HB.out⟩
            | false =>
              cases b3 with
              | false =>
                go_wp2_with fail
                go_ret
                exact ⟨ret_int HRE.out.symm, HB.out⟩
              | true =>
                cases b4 with
                | false =>
                  go_wp2_with fail
                  go_ret
                  exact ⟨ret_int HRE.out.symm, HB.out⟩
                | true =>
                  go_wp2_with fail
                  go_ret
                  exact ⟨ret_int HRE.out.symm, HB.out⟩

end Go.Proofs.YtlcglclojlffgaaGreatDoor
namespace Go.Proofs.YtlcglclojlffgaaGreatDoor
open Go.RowKit

theorem own_snoc {w : World} {B : Nat} {v : Value} {M : List Int} {z : Int} (h : w.ownsRow B 2 1 v (M.length + 1) (M.map (Value.int .i64) ++ [.int .i64 z])) : OwnI w B v (M ++ [z]) := by
  unfold OwnI
  rw [List.length_append, List.map_append]
  exact h
/-- two slices of the call's own, in two blocks -/
def Two (w0 w : World) (vm vt : Value) (M T : List Int) : Prop :=
  OwnI w w0.heap.size vm M ∧ OwnI w w0.heap.size vt T ∧ (∀ k, vm.ownBlock = some k → vt.ownBlock ≠ some k) ∧ Below w0.heap.size w0 w
theorem Two.below {w0 w w' : World} {vm vt : Value} {M T : List Int} (h : Two w0 w vm vt M T) (hb : Below w.heap.size w w') : Two w0 w' vm vt M T :=
  ⟨h.1.grown hb, h.2.1.grown hb, h.2.2.1, bt0 h.2.2.2 hb (Nat.le_refl _)⟩
theorem own_empty (w : World) : OwnI (w.alloc (.cells #[] 2 (0, 0))) w.heap.size (.slice (some ⟨w.heap.size, 0, none⟩) 0 0) [] :=
  World.ownsRow_lit (base := w.heap.size) (size := 1) w #[] 0 (Nat.le_refl _) (by unfold maxLen; omega) rfl
theorem Two.start (w : World) : Two w ((w.alloc (.cells #[] 2 (0, 0))).alloc (.cells #[] 2 (0, 0))) (.slice (some ⟨w.heap.size, 0, none⟩) 0 0) (.slice (some ⟨w.heap.size + 1, 0, none⟩) 0 0) [] [] := by
  refine ⟨(own_empty w).grown (ba1 _ _), ?_, fun k hk e => ?_, ba2 w _ _⟩
  · have h := own_empty (w.alloc (.cells #[] 2 (0, 0)))
    have e : (w.alloc (.cells #[] 2 (0, 0))).heap.size = w.heap.size + 1 := by simp
    rw [e] at h
    exact h.weak (by omega)
  · simp only [Value.ownBlock, Option.some.injEq] at hk e
    omega
theorem Two.more1 {w0 w w1 : World} {o : Obj} {vm vt v' : Value} {M T : List Int} {z : Int} (h : Two w0 w vm vt M T) (hown : w1.ownsRow w0.heap.size 2 1 v' (M.length + 1) (M.map (Value.int .i64) ++ [.int .i64 z])) (hg : (w.alloc o).grownBy w1 vm.ownBlock)
    (hat : v'.ownBlock = vm.ownBlock ∨ v'.ownBlock = some (w.alloc o).heap.size) : Two w0 w1 v' vt (M ++ [z]) T := by
  refine ⟨own_snoc hown, (h.2.1.grown (ba1 w o)).other hg (fun k hk e => h.2.2.1 k e hk), fun k hk e => ?_, h.2.2.2.trans (below_of_grownBy (grownBy_trans (World.grownBy_alloc w o _) hg) h.2.2.2.size (fun k hk => h.1.lo k hk))⟩
  have hi := h.2.1.hi k e
  rcases hat with hat | hat
  · exact h.2.2.1 k (hat ▸ hk) e
  · rw [hat] at hk
    have := Option.some.inj hk
    simp at this
    omega
theorem Two.more2 {w0 w w1 : World} {o : Obj} {vm vt v' : Value} {M T : List Int} {z : Int} (h : Two w0 w vm vt M T) (hown : w1.ownsRow w0.heap.size 2 1 v' (T.length + 1) (T.map (Value.int .i64) ++ [.int .i64 z])) (hg : (w.alloc o).grownBy w1 vt.ownBlock)
    (hat : v'.ownBlock = vt.ownBlock ∨ v'.ownBlock = some (w.alloc o).heap.size) : Two w0 w1 vm v' M (T ++ [z]) := by
  have hs : Two w0 w vt vm T M := ⟨h.2.1, h.1, fun k hk e => h.2.2.1 k e hk, h.2.2.2⟩
  have h2 := hs.more1 hown hg hat
  exact ⟨h2.2.1, h2.1, fun k hk e => h2.2.2.1 k e hk, h2.2.2.2⟩
theorem Two.weak {w00 w0 w : World} {vm vt : Value} {M T : List Int} (h : Two w0 w vm vt M T) (hb : Below w00.heap.size w00 w0) : Two w00 w vm vt M T :=
  ⟨h.1.weak hb.size, h.2.1.weak hb.size, h.2.2.1, hb.trans (h.2.2.2.mono hb.size)⟩

/-- two lists, a number and a code are handed back -/
def RetTwo (w : World) (M T : List Int) (F cd : Int) (e : Ending) (w' : World) : Prop :=
  ∃ a c b d, e = .returned (.tuple #[.slice a M.length c, .slice b T.length d, .int .i64 F, .int .i64 cd]) ∧ Two w w' (.slice a M.length c) (.slice b T.length d) M T
theorem RetTwo.none {w w' : World} {F cd : Int} (hb : Below w.heap.size w w') : RetTwo w [] [] F cd (.returned (.tuple #[.slice none 0 0, .slice none 0 0, .int .i64 F, .int .i64 cd])) w' :=
  ⟨Option.none, 0, Option.none, 0, rfl, World.ownsRow_nil _ _ _ _, World.ownsRow_nil _ _ _ _, fun k hk => (by cases hk), hb⟩
theorem RetTwo.of {w w' : World} {vm vt : Value} {M T : List Int} {F cd : Int} (h : Two w w' vm vt M T) : RetTwo w M T F cd (.returned (.tuple #[vm, vt, .int .i64 F, .int .i64 cd])) w' := by
  obtain ⟨a, c, rfl, _⟩ := h.1.read
  obtain ⟨b, d, rfl, _⟩ := h.2.1.read
  exact ⟨a, c, b, d, rfl, h⟩

end Go.Proofs.YtlcglclojlffgaaGreatDoor
namespace Go.Proofs.YtlcglclojlffgaaGreatDoor
open Go.RowKit

/-- the first k cells of the reference's grid -/
def gS (n k : Nat) : List Int := (List.range k).map fun i => fixS n ((i / n : Nat) : Int) ((i % n : Nat) : Int)
theorem gS_step {n r c : Nat} (hc : c < n) : gS n (r * n + c + 1) = gS n (r * n + c) ++ [fixS n (r : Int) (c : Int)] := by
  rw [gS, List.range_succ, List.map_append, List.map_singleton, gS]
  congr 2
  rw [show (r * n + c) / n = r by rw [Nat.mul_comm, Nat.mul_add_div (by omega), Nat.div_eq_of_lt hc, Nat.add_zero], show (r * n + c) % n = c by rw [Nat.mul_comm, Nat.mul_add_mod, Nat.mod_eq_of_lt hc]]
theorem gS_len (n k : Nat) : (gS n k).length = k := by simp [gS]
set_option maxRecDepth 100000 in
set_option maxHeartbeats 2000000 in
theorem spGrid_any (n : Nat) (hn : 17 ≤ n ∧ n ≤ 41) (w : World) :
    Calls Tryz.prog 143 #[.int .i64 (n : Int)] w fun e w' => (∃ a c, e = .returned (.agg #[.int .i64 (n : Int), .int .i64 (n : Int), .slice a (gS n (n * n)).length c]) ∧ IntsAt w' a (gS n (n * n))) ∧ Below w.heap.size w w' := by
  obtain ⟨hn1, hn2⟩ := hn
  go_enter Tryz.func143, Tryz.ntmps143
  go_wp2_with fail
  have hO := own_empty (w.alloc (.cells #[.int .i64 0, .int .i64 0, .slice none 0 0] 205 (0, 0)))
  have hB1 := ba1 w (.cells #[.int .i64 0, .int .i64 0, .slice none 0 0] 205 (0, 0))
  have hX := push_at w (.cells #[.int .i64 0, .int .i64 0, .slice none 0 0] 205 (0, 0))
  obtain ⟨w1, hw1⟩ : ∃ w1, w1 = w.alloc (.cells #[.int .i64 0, .int .i64 0, .slice none 0 0] 205 (0, 0)) := ⟨_, rfl⟩
  have hs1 : w1.heap.size = w.heap.size + 1 := by rw [hw1]; simp
  rw [← hw1] at hO hB1 hX ⊢
  clear hw1
  rw [hs1] at hO
  have hB2 := ba1 w1 (.cells #[] 2 (0, 0))
  obtain ⟨w2, hw2⟩ : ∃ w2, w2 = w1.alloc (.cells #[] 2 (0, 0)) := ⟨_, rfl⟩
  rw [← hw2] at hO hB2 ⊢
  rw [hs1] at hB2
  have HO := Lib.hid hO
  have HB1 := Lib.hid hB1
  have HX := Lib.hid hX
  have HB2 := Lib.hid hB2
  have hs2 : w.heap.size + 1 ≤ w2.heap.size := by rw [hw2]; simp [hs1]
  clear hw2 hO hB1 hX hB2
  go_loopw [3, 4, 5] (fun v i _ wr => ∃ (r : Nat) (a : Option Addr) (c : Nat) (l : List Int), r ≤ n ∧ i = .int .i64 r ∧ l = gS n (r * n) ∧ v = .slice a l.length c ∧ OwnI wr (w.heap.size + 1) (.slice a l.length c) l ∧ Below (w.heap.size + 1) w1 wr ∧ w.heap.size + 1 ≤ wr.heap.size) (fun _ i _ _ => n - (intOf i).toNat)
  case atStart => exact ⟨0, _, 0, [], Nat.zero_le _, rfl, by simp [gS], rfl, HO.out, HB2.out, hs2⟩
  case round =>
    obtain ⟨r, a, c, l, hr, rfl, hl, rfl, ho, hb, hsz⟩ := hrel
    have HL := Lib.hid hl
    have HOr := Lib.hid ho
    have HBr := Lib.hid hb
    clear hl ho hb
    by_cases hrn : r < n
    · have hri : (r : Int) < (n : Int) := by omega
      go_wp2_with fail
      go_loopw [3, 5] (fun v i wr => ∃ (k : Nat) (a : Option Addr) (c : Nat) (l : List Int), k ≤ n ∧ i = .int .i64 k ∧ l = gS n (r * n + k) ∧ v = .slice a l.length c ∧ OwnI wr (w.heap.size + 1) (.slice a l.length c) l ∧ Below (w.heap.size + 1) w1 wr ∧ w.heap.size + 1 ≤ wr.heap.size) (fun _ i _ => n - (intOf i).toNat)
      case atStart => exact ⟨0, a, c, l, Nat.zero_le _, rfl, by rw [HL.out]; rfl, rfl, HOr.out, HBr.out, hsz⟩
      case round =>
        clear hsz
        obtain ⟨k, a, c, l, hk, rfl, hl, rfl, ho, hb, hsz⟩ := hrel
        have HLk := Lib.hid hl
        have HOk := Lib.hid ho
        have HBk := Lib.hid hb
        have hll : l.length ≤ 2000 := by
          rw [hl, gS_len]
          have h1 : r * n ≤ 41 * 41 := Nat.mul_le_mul (by omega) (by omega)
          omega
        clear hl ho hb
        by_cases hkn : k < n
        · have hki : (k : Int) < (n : Int) := by omega
          go_wp2_with fail
          refine (spFixed_any n r k (by omega) (by omega) (by omega) _).mono ?_
          rintro e w3 ⟨rfl, hb3⟩
          have HO3 := Lib.hid (HOk.out.grown hb3)
          have HB3 := Lib.hid (bt0 HBk.out hb3 (by omega))
          have hs3 : w.heap.size + 1 ≤ w3.heap.size := by have := hb3.size; omega
          obtain ⟨z, hz⟩ : ∃ z, z = fixS n r k := ⟨_, rfl⟩
          have HZ := Lib.hid hz
          rw [← hz]
          clear hb3 hz
          go_wp2_with (at_builtin; refine wpList_append_i1 (o := _) rfl (.tmp 17) (.tmp 22) 67 Tryz.underlying67 rfl (w.heap.size + 1) (.slice a l.length c) l z rfl (HO3.out.grown (ba1 _ _)) w3.heap.size rfl (push_at _ _) ?c3 ?c4 ?h8)
          case c3 => omega
          case c4 => simp; omega
          case h8 =>
          intro a6 c6 l6 w6 he6 ho6 hg6 hb6
          have HB7 := Lib.hid ((bt0 HB3.out (ba1 w3 (.cells #[.int .i64 z] 2 (0, 0))) (by omega)).trans hb6)
          have HO8 := Lib.hid ho6
          have HE6 := Lib.hid he6
          have hs6 : w.heap.size + 1 ≤ w6.heap.size := by have := HB7.out.size; omega
          clear hg6 hb6 ho6 he6
          go_wp2_with fail
          exact ⟨⟨k + 1, a6, c6, l6, by omega, by push_cast; rfl, by rw [HE6.out, HLk.out, HZ.out, ← Nat.add_assoc, gS_step hkn], rfl, HO8.out, HB7.out, hs6⟩, by simp [intOf]; omega⟩
        · have hki : ¬ (k : Int) < (n : Int) := by omega
          obtain rfl : k = n := by omega
          go_wp2_with fail
          exact ⟨⟨r + 1, a, c, l, by omega, by push_cast; rfl, by rw [HLk.out, Nat.add_mul, Nat.one_mul], rfl, HOk.out, HBk.out, hsz⟩, by simp [intOf]; omega⟩
    · have hri : ¬ (r : Int) < (n : Int) := by omega
      obtain rfl : r = n := by omega
      obtain ⟨hcA, hfA⟩ := heap_cellR ((HBr.out.block w.heap.size (by omega)).trans HX.out)
      go_wp2_with fail
      refine bodyPost_ret (v := .agg #[.int .i64 (r : Int), .int .i64 (r : Int), .slice a l.length c]) (by simp [results, Tryz.results143, go_sem, hcA]) rfl ⟨⟨a, ⟨c, by rw [← HL.out]⟩, ?_⟩, ?_⟩
      · rw [← HL.out]
        exact (((HOr.out.setOld (a := ⟨w.heap.size, 0, none⟩) (by dsimp only; omega) _).setOld (a := ⟨w.heap.size, 1, none⟩) (by dsimp only; omega) _).setOld (a := ⟨w.heap.size, 2, none⟩) (by dsimp only; omega) _).ints
      · iterate 3 (refine Below.setCell ?_ (by dsimp only; omega) _)
        exact HB1.out.trans (HBr.out.mono (by omega))

/-- how many of the first k cells are no fixed ones -/
def ngS (l : List Int) (k : Nat) : Nat := ((l.take k).filter fun x => decide (x < 0)).length
theorem ngS_step {l : List Int} {k : Nat} {x : Int} (h : l[k]? = some x) : ngS l (k + 1) = ngS l k + if x < 0 then 1 else 0 := by
  rw [ngS, take_snoc' h, List.filter_append, List.length_append, ← ngS]
  congr 1
  by_cases hx : x < 0
  · simp [hx]
  · simp [hx]
theorem ngS_le (l : List Int) (k : Nat) : ngS l k ≤ k := Nat.le_trans (List.length_filter_le _ _) (by rw [List.length_take]; exact Nat.min_le_left _ _)
theorem cntS_ng (n : Nat) : cntS n = -30 + (ngS (gS n (n * n)) (n * n) : Int) := by
  rw [cntS, ngS, List.take_of_length_le (by rw [gS_len]; exact Nat.le_refl _), gS, List.filter_map, List.length_map]
  rfl
set_option maxRecDepth 100000 in
set_option maxHeartbeats 1000000 in
theorem spCount_any (n : Nat) (hn : 17 ≤ n ∧ n ≤ 41) (w : World) :
    Calls Tryz.prog 137 #[.int .i64 (n : Int)] w fun e w' => e = .returned (.int .i64 (cntS n)) ∧ Below w.heap.size w w' := by
  have HN := Lib.hid hn
  obtain ⟨R, hR⟩ : ∃ R, R = cntS n := ⟨_, rfl⟩
  have HR := Lib.hid (hR.trans (cntS_ng n))
  rw [← hR]
  have hnn : n * n ≤ 41 * 41 := Nat.mul_le_mul hn.2 hn.2
  clear hn hR
  go_enter Tryz.func137, Tryz.ntmps137
  go_wp2_with fail
  refine (spGrid_any n HN.out w).mono ?_
  rintro e w1 ⟨⟨a, c, rfl, hi⟩, hb1⟩
  have HL := Lib.hid (gS_len n (n * n))
  obtain ⟨l, hl⟩ : ∃ l, l = gS n (n * n) := ⟨_, rfl⟩
  rw [← hl] at hi HL HR ⊢
  have hX := push_at w1 (.cells #[.int .i64 (n : Int), .int .i64 (n : Int), .slice a l.length c] 205 (0, 0))
  have HB := Lib.hid (bt0 hb1 (ba1 w1 (.cells #[.int .i64 (n : Int), .int .i64 (n : Int), .slice a l.length c] 205 (0, 0))) (Nat.le_refl _))
  have HI := Lib.hid (hi.below (ba1 w1 (.cells #[.int .i64 (n : Int), .int .i64 (n : Int), .slice a l.length c] 205 (0, 0))))
  have hll : l.length ≤ 2000 := by rw [HL.out]; omega
  clear hi hb1 hl
  go_wp2_with fail
  obtain ⟨w2, hw2⟩ : ∃ w2, w2 = w1.alloc (.cells #[.int .i64 (n : Int), .int .i64 (n : Int), .slice a l.length c] 205 (0, 0)) := ⟨_, rfl⟩
  rw [← hw2] at hX HB HI ⊢
  obtain ⟨hcA, hfA⟩ := heap_cellR hX
  have hltA := blkLt hX
  clear hX hw2
  go_loopw [4, 5] (fun o i wr => ∃ k : Nat, k ≤ l.length ∧ i = .int .i64 k ∧ o = .int .i64 (-30 + (ngS l k : Int)) ∧ wr = w2) (fun _ i _ => l.length - (intOf i).toNat)
  case atStart => exact ⟨0, Nat.zero_le _, rfl, by simp [ngS], rfl⟩
  case round =>
    obtain ⟨k, hk, rfl, rfl, rfl⟩ := hrel
    by_cases hlt : k < l.length
    · obtain ⟨b1, o1, x, rfl, hxk, hb1, hc1⟩ := HI.out.at hlt
      have hki : (k : Int) < (l.length : Int) := by omega
      have HS := Lib.hid (ngS_step hxk)
      have hng := ngS_le l k
      obtain ⟨m, hm⟩ : ∃ m, m = ngS l k := ⟨_, rfl⟩
      rw [← hm] at HS hng ⊢
      clear hxk hm
      by_cases hx : x < 0
      · have HS2 := Lib.hid (HS.out.trans (by rw [if_pos hx]))
        go_wp2_with fail
        exact ⟨⟨k + 1, by omega, by push_cast; rfl, by rw [HS2.out]; push_cast; congr 1; omega, trivial⟩, by simp [intOf]; omega⟩
      · have HS2 := Lib.hid (HS.out.trans (by rw [if_neg hx, Nat.add_zero]))
        go_wp2_with fail
        exact ⟨⟨k + 1, by omega, by push_cast; rfl, by rw [HS2.out], trivial⟩, by simp [intOf]; omega⟩
    · obtain rfl : k = l.length := by omega
      have hki : ¬ ((l.length : Nat) : Int) < (l.length : Int) := by omega
      have HE := Lib.hid (show -30 + (ngS l l.length : Int) = R by rw [HR.out, HL.out])
      obtain ⟨m, hm⟩ : ∃ m, m = ngS l l.length := ⟨_, rfl⟩
      rw [← hm] at HE ⊢
      clear hm
      go_wp2_with fail
      go_ret
      exact ⟨ret_int HE.out, HB.out⟩

end Go.Proofs.YtlcglclojlffgaaGreatDoor
namespace Go.Proofs.YtlcglclojlffgaaGreatDoor
open Go.RowKit

set_option maxRecDepth 100000 in
set_option maxHeartbeats 1000000 in
theorem spElements_any (nm : ByteArray) (kd p k g : Int) (a1 : Option Addr) (szs : List Int) (c1 : Nat) (cl : Int) (a2 : Option Addr) (lvs : List Int) (c2 : Nat) (n : Int) (w : World) (h : Fam.ok ⟨nm, kd, p, k, g, szs, cl, lvs⟩ = true) (hn : hasI szs n = true) :
    Calls Tryz.prog 124 #[(.agg #[.string nm, .int .i64 kd, .int .i64 p, .int .i64 k, .int .i64 g, .slice a1 szs.length c1, .int .i64 cl, .slice a2 lvs.length c2]), .int .i64 n] w fun e w' => e = .returned (.int .i64 (Fam.elems ⟨nm, kd, p, k, g, szs, cl, lvs⟩ n)) ∧ Below w.heap.size w w' := by
  have hbd := elems_bd h hn
  obtain ⟨E, hE⟩ : ∃ E, E = Fam.elems ⟨nm, kd, p, k, g, szs, cl, lvs⟩ n := ⟨_, rfl⟩
  rw [← hE] at hbd ⊢
  obtain ⟨h1, h2, h3, h4, h5⟩ := fam_ok h
  have hm := hasI_mem hn
  unfold Fam.elems at hE
  dsimp only at hE
  have HE := Lib.hid hE
  clear hE
  rcases h5 with ⟨rfl, h6, h7⟩ | ⟨rfl, -, -, -, h6, h7⟩
  · have HS := Lib.hid (List.all_eq_true.1 h6 n hm)
    have hb := msz_bd HS.out
    rw [if_neg (by decide)] at HE
    have HF := Lib.hid (fv_of h1)
    have hk := HF.out.ok.k
    have hk3 := HF.out.ok.k3
    have hk8 := HF.out.ok.k8
    obtain ⟨F, hFe⟩ : ∃ F, F = bF k.toNat g.toNat := ⟨_, rfl⟩
    rw [← hFe] at HF hk hk3 hk8
    have hd := dcnt_bd n
    obtain ⟨D, hD⟩ : ∃ D, D = dcnt n := ⟨_, rfl⟩
    rw [← hD] at hd HE
    have HCN : Hid (∀ w : World, Calls Tryz.prog 137 #[.int .i64 n] w fun e w' => e = .returned (.int .i64 (D : Int)) ∧ Below w.heap.size w w') := Lib.hid (fun w => by
      have h1 := spCount_any n.toNat (by omega) w
      rw [cntS_eq HS.out, ← hD, Int.toNat_of_nonneg (by omega)] at h1
      exact h1)
    have HWD : Hid (∀ w : World, Calls Tryz.prog 108 #[.agg #[.int .i64 p, .int .i64 k, .int .i64 g]] w fun e w' => e = .returned (.int .i64 k) ∧ Below w.heap.size w w') := Lib.hid (fun w => by
      have h1 := spWidth_any F HF.out.r.toFdB w
      rw [← HF.out.v, ← hk] at h1
      exact h1)
    have hq : (0 : Int) ≤ (D : Int) / k ∧ (D : Int) / k ≤ 1408 := by rw [← HE.out]; omega
    have hK0 : (k == 0) = false := by rw [beq_eq_false_iff_ne]; omega
    have htd : (D : Int).tdiv k = (D : Int) / k := Int.tdiv_eq_ediv_of_nonneg (by omega)
    have hki : 3 ≤ k ∧ k ≤ 8 := by omega
    clear h1 h2 h3 h4 h6 h7 hm hFe hD hk hk3 hk8
    go_enter Tryz.func124, Tryz.ntmps124
    go_wp2_with fail
    refine wp_region_ext (by kernel_rfl) (by kernel_rfl) ?_
    repeat (go_big_quiet_step ((first
      | (go_at_call 137; go_must (exact calls_ext _ (HCN.out _)))
      | (go_at_call 108; go_must (exact calls_ext _ (HWD.out _))))))
    refine wpQuiet_nil ?_
    rintro _ ⟨s, rfl⟩
    go_wp2_with fail
    go_ret
    exact ⟨ret_int HE.out.symm, bt0 (ba1 _ _) s.below (Nat.le_refl _)⟩
  · rw [if_pos rfl] at HE
    have HW := Lib.hid (show wrap64 (n * cl) = E by rw [← HE.out]; unfold wrap64; omega)
    clear h1 h2 h3 h4 h6 h7 hm
    go_enter Tryz.func124, Tryz.ntmps124
    go_wp2_with fail
    go_ret
    exact ⟨ret_int HW.out, ba1 _ _⟩

end Go.Proofs.YtlcglclojlffgaaGreatDoor
namespace Go.Proofs.YtlcglclojlffgaaGreatDoor
open Go.RowKit

set_option maxRecDepth 100000 in
set_option maxHeartbeats 2000000 in
theorem spLayout_any (nm : ByteArray) (kd p k g : Int) (a1 : Option Addr) (szs : List Int) (c1 : Nat) (cl : Int) (a2 : Option Addr) (lvs : List Int) (c2 : Nat) (n lev : Int) (w : World) (h : Fam.ok ⟨nm, kd, p, k, g, szs, cl, lvs⟩ = true) (hn : hasI szs n = true) (hl : 0 ≤ lev ∧ lev < lvs.length) (hx : IntsAt w a2 lvs) (L : Lay) (hL : Fam.lay ⟨nm, kd, p, k, g, szs, cl, lvs⟩ n lev = L) :
    Calls Tryz.prog 110 #[(.agg #[.string nm, .int .i64 kd, .int .i64 p, .int .i64 k, .int .i64 g, .slice a1 szs.length c1, .int .i64 cl, .slice a2 lvs.length c2]), .int .i64 n, .int .i64 lev] w fun e w' => e = .returned (.agg #[.int .i64 p, .int .i64 k, .int .i64 g, .int .i64 L.data, .int .i64 L.checks, .int .i64 L.count]) ∧ Below w.heap.size w w' := by
  have hbd := elems_bd h hn
  obtain ⟨E, hE⟩ : ∃ E, E = Fam.elems ⟨nm, kd, p, k, g, szs, cl, lvs⟩ n := ⟨_, rfl⟩
  have HEe := Lib.hid hE
  rw [← hE] at hbd
  obtain ⟨h1, h2, h3, -, -⟩ := fam_ok h
  have HF := Lib.hid (fv_of h1)
  have hq := HF.out.fd.q_bd
  obtain ⟨Q, hQ⟩ : ∃ Q, Q = (bF k.toNat g.toNat).q := ⟨_, rfl⟩
  have HQ := Lib.hid hQ
  rw [← hQ] at hq
  obtain ⟨lv, rfl⟩ := Int.eq_ofNat_of_zero_le hl.1
  have hll : lv < lvs.length := by omega
  have hlvi : (lv : Int) < (lvs.length : Int) := hl.2
  obtain ⟨b1, o1, v, rfl, hv, hlb, hc1⟩ := hx.at hll
  have hvb := ris_in h3 (List.mem_of_getElem? hv)
  have HX := Lib.hid hx
  -- the numbers
  have hm : (if (255 : Int) < (Q : Int) - 1 then 255 else (Q : Int) - 1) = (Q : Int) - 1 := by rw [if_neg (by omega)]
  obtain ⟨C, hC⟩ : ∃ C, (E + ((Q : Int) - 1) - 1) / ((Q : Int) - 1) = C := ⟨_, rfl⟩
  have hCb : 1 ≤ C ∧ C ≤ 1700 := by
    rw [← hC]
    refine ⟨(Int.le_ediv_iff_mul_le (by omega)).2 (by omega), Int.le_trans (Int.ediv_le_self _ (by omega)) (by omega)⟩
  have hTb : 3 * 1 ≤ E * v ∧ E * v ≤ 1408 * 80 := ⟨Int.mul_le_mul hbd.1 hvb.1 (by omega) (by omega), Int.mul_le_mul hbd.2 hvb.2 (by omega) (by omega)⟩
  obtain ⟨T, hT⟩ : ∃ T, E * v = T := ⟨_, rfl⟩
  rw [hT] at hTb
  have hw1 : wrap64 (E * v) = T := by rw [hT]; unfold wrap64; omega
  obtain ⟨X, hX⟩ : ∃ X, T / 100 / C = X := ⟨_, rfl⟩
  have hXb : 0 ≤ X ∧ X ≤ 112640 := by
    rw [← hX]
    refine ⟨Int.ediv_nonneg (by omega) (by omega), Int.le_trans (Int.ediv_le_self _ (by omega)) (by omega)⟩
  obtain ⟨Y, hY⟩ : ∃ Y, (if 2 < X then X else 2) = Y := ⟨_, rfl⟩
  have hYb : 2 ≤ Y ∧ Y ≤ 112640 := by rw [← hY]; split <;> omega
  obtain ⟨K, hK⟩ : ∃ K, (if Y < 64 then Y else 64) = K := ⟨_, rfl⟩
  have hKb : 2 ≤ K ∧ K ≤ 64 := by rw [← hK]; split <;> omega
  have hRb : 1 * 2 ≤ C * K ∧ C * K ≤ 1700 * 64 := ⟨Int.mul_le_mul hCb.1 hKb.1 (by omega) (by omega), Int.mul_le_mul hCb.2 hKb.2 (by omega) (by omega)⟩
  obtain ⟨R, hR⟩ : ∃ R, C * K = R := ⟨_, rfl⟩
  rw [hR] at hRb
  have hw2 : wrap64 (C * K) = R := by rw [hR]; unfold wrap64; omega
  have HL := Lib.hid (show L = ⟨E - R, K, C⟩ by
    have e0 : ((2 ^ k.toNat : Nat) : Int) = (Q : Int) := by rw [hQ]; rfl
    have e1 : lvs.getD (((lv : Nat) : Int)).toNat 0 = v := by rw [Int.toNat_natCast, List.getD_eq_getElem?_getD, hv]; rfl
    rw [← hL]
    unfold Fam.lay
    dsimp only
    rw [← hE, e0, e1, if_pos (by omega), hC, hT, hX]
    have e3 : (if 2 ≤ (if X ≤ 64 then X else 64) then (if X ≤ 64 then X else 64) else 2) = K := by
      rw [← hK, ← hY]
      repeat' split
      all_goals omega
    rw [e3, hR])
  rw [HL.out]
  dsimp only
  have HH := Lib.hid h
  have HN := Lib.hid hn
  have HSZ : Hid (∀ w : World, Calls Tryz.prog 122 #[.agg #[.int .i64 p, .int .i64 k, .int .i64 g]] w fun e w' => e = .returned (.int .i64 (Q : Int)) ∧ Below w.heap.size w w') := Lib.hid (fun w => by
    have h1 := spSize_any _ HF.out.r.toFdB w
    rw [← HF.out.v, ← HQ.out] at h1
    exact h1)
  clear h hn h1 h2 h3 hx hv hQ hE hL hT hR
  go_enter Tryz.func110, Tryz.ntmps110
  go_wp2_with fail
  refine (spElements_any nm kd p k g a1 szs c1 cl _ lvs c2 n _ HH.out HN.out).mono ?_
  rintro e w1 ⟨rfl, hb1⟩
  rw [← HEe.out]
  have e2 := heap2 w (.cells #[.string nm, .int .i64 kd, .int .i64 p, .int .i64 k, .int .i64 g, .slice a1 szs.length c1, .int .i64 cl, .slice (some ⟨b1, o1, none⟩) lvs.length c2] 123 (0, 0)) (.cells #[.int .i64 0, .int .i64 0, .int .i64 0, .int .i64 0, .int .i64 0, .int .i64 0] 146 (0, 0))
  have k1 := blkK hb1 e2.1
  have k2 := blkK hb1 e2.2
  have K1 := Lib.hid k1
  have K2 := Lib.hid k2
  obtain ⟨hcA, hfA⟩ := heap_cellR k1
  have HB1 := Lib.hid (bt2 hb1)
  have z1 := blkLt k1
  clear hb1 e2 k1 k2
  go_wp2_with fail
  refine (HSZ.out w1).mono ?_
  rintro e w2 ⟨rfl, hb2⟩
  have k1 := blkK hb2 K1.out
  have k2 := blkK hb2 K2.out
  have HB2 := Lib.hid (bt0 HB1.out hb2 (Nat.le_refl _))
  have hc2 := (HB2.out.cell (p := ⟨b1, o1 + lv, none⟩) hlb).trans hc1
  clear hcA hfA hc1
  obtain ⟨hcA, hfA⟩ := heap_cellR k1
  obtain ⟨hcB, hfB⟩ := heap_cellR k2
  have y1 := blkLt k1
  have y2 := blkLt k2
  clear hb2 k1 k2
  go_wp2_with fail
  refine bodyPost_ret (v := .agg #[.int .i64 p, .int .i64 k, .int .i64 g, .int .i64 (E - R), .int .i64 K, .int .i64 C]) (by simp [results, Tryz.results110, go_sem, hcB]) rfl ⟨rfl, ?_⟩
  iterate 6 (refine Below.setCell ?_ (by dsimp only; omega) _)
  exact HB2.out

end Go.Proofs.YtlcglclojlffgaaGreatDoor
namespace Go.Proofs.YtlcglclojlffgaaGreatDoor
open Go.RowKit

set_option maxRecDepth 100000 in
set_option maxHeartbeats 4000000 in
theorem spLayoutOf_any (nm : ByteArray) (kd p k g : Int) (a1 : Option Addr) (szs : List Int) (c1 : Nat) (cl : Int) (a2 : Option Addr) (lvs : List Int) (c2 : Nat) (n lev : Int) (w : World) (h1 : IntsAt w a1 szs) (h2 : IntsAt w a2 lvs) (l1 : szs.length ≤ 1048576) (l2 : lvs.length ≤ 1048576) (ln : nm.size ≤ 1048576) :
    Calls Tryz.prog 91 #[(.agg #[.string nm, .int .i64 kd, .int .i64 p, .int .i64 k, .int .i64 g, .slice a1 szs.length c1, .int .i64 cl, .slice a2 lvs.length c2]), .int .i64 n, .int .i64 lev] w fun e w' => e = .returned (.tuple #[layA ⟨nm, kd, p, k, g, szs, cl, lvs⟩ n lev, .int .i64 (layC ⟨nm, kd, p, k, g, szs, cl, lvs⟩ n lev)]) ∧ Below w.heap.size w w' := by
  have H1 := Lib.hid h1
  have H2 := Lib.hid h2
  obtain ⟨fam, hfam⟩ : ∃ f, f = Fam.mk nm kd p k g szs cl lvs := ⟨_, rfl⟩
  have HFM := Lib.hid hfam
  have HFI := Lib.hid (fun w (h1 : IntsAt w a1 szs) (h2 : IntsAt w a2 lvs) => spCode_any nm kd p k g a1 szs c1 cl a2 lvs c2 n w h1 h2 l1 l2 ln)
  rw [← hfam] at HFI ⊢
  obtain ⟨cd, hcd⟩ : ∃ cd, cd = layC fam n lev := ⟨_, rfl⟩
  obtain ⟨vA, hvA⟩ : ∃ vA, vA = layA fam n lev := ⟨_, rfl⟩
  rw [← hcd, ← hvA]
  have HCD := Lib.hid hcd
  have HVA := Lib.hid hvA
  have HNO : Hid (layC fam n lev ≠ 0 → vA = .agg #[.int .i64 0, .int .i64 0, .int .i64 0, .int .i64 0, .int .i64 0, .int .i64 0]) := Lib.hid (fun h => by rw [hvA, layA, if_neg h])
  clear h1 h2 hfam hcd hvA
  go_enter Tryz.func91, Tryz.ntmps91
  go_wp2_with fail
  have e2 := heap2 w (.cells #[.string nm, .int .i64 kd, .int .i64 p, .int .i64 k, .int .i64 g, .slice a1 szs.length c1, .int .i64 cl, .slice a2 lvs.length c2] 123 (0, 0)) (.cells #[.int .i64 0, .int .i64 0, .int .i64 0, .int .i64 0, .int .i64 0, .int .i64 0] 146 (0, 0))
  refine (HFI.out _ (H1.out.below (ba2 _ _ _)) (H2.out.below (ba2 _ _ _))).mono ?_
  rintro e w1 ⟨rfl, hb1⟩
  have K1 := Lib.hid (blkK hb1 e2.1)
  have K2 := Lib.hid (blkK hb1 e2.2)
  have HB1 := Lib.hid (bt2 hb1)
  clear hb1 e2
  obtain ⟨hcA, hfA⟩ := heap_cellR K1.out
  obtain ⟨hcB, hfB⟩ := heap_cellR K2.out
  have z1 := blkLt K1.out
  have z2 := blkLt K2.out
  rcases Bool.eq_false_or_eq_true fam.ok with ho | ho
  · rcases Bool.eq_false_or_eq_true (hasI szs n) with hs | hs
    · rw [show famC fam n = 0 by rw [famC, if_pos ho, HFM.out, if_pos hs]]
      have hw : wrap64 ((lvs.length : Int) - 1) = (lvs.length : Int) - 1 := by unfold wrap64; omega
      go_wp2_with fail
      refine (spIn_any lev 0 ((lvs.length : Int) - 1) w1).mono ?_
      rintro e w2 ⟨rfl, rfl⟩
      rcases Bool.eq_false_or_eq_true (inB lev 0 ((lvs.length : Int) - 1)) with hv | hv
      · rw [hv]
        have HLi := Lib.hid (show 0 ≤ lev ∧ lev < lvs.length by have := inB_iff.1 hv; omega)
        have hfo : Fam.ok ⟨nm, kd, p, k, g, szs, cl, lvs⟩ = true := by rw [← HFM.out]; exact ho
        obtain ⟨hfb, -⟩ := fam_ok hfo
        have HF := Lib.hid (fv_of hfb)
        have HO := Lib.hid hfo
        have HS := Lib.hid hs
        obtain ⟨L, hL⟩ : ∃ L, fam.lay n lev = L := ⟨_, rfl⟩
        have HLe := Lib.hid hL
        have HQe := Lib.hid (show ((2 ^ fam.fk.toNat : Nat) : Int) = ((bF k.toNat g.toNat).q : Int) by rw [HFM.out]; rfl)
        have HC0 := Lib.hid (show layC fam n lev = if L.ok ((bF k.toNat g.toNat).q : Int) = true then 0 else 3 by rw [layC, if_pos ho, if_pos (by rw [HFM.out]; exact ⟨hs, hv⟩), hL, HQe.out])
        clear hfo hfb hL hw hs ho hv
        go_wp2_with fail
        refine (spLayout_any nm kd p k g a1 szs c1 cl a2 lvs c2 n lev w1 HO.out HS.out HLi.out (H2.out.below HB1.out) L (by rw [← HFM.out]; exact HLe.out)).mono ?_
        rintro e w4 ⟨rfl, hb4⟩
        have K7 := Lib.hid (blkK hb4 K2.out)
        have HB4 := Lib.hid (bt0 HB1.out hb4 (Nat.le_refl _))
        clear hb4 hcA hfA hcB hfB
        have z7 := blkLt K7.out
        go_wp2_with fail
        refine (spIsLayout_any HF.out L.data L.checks L.count _).mono ?_
        rw [show Lay.mk L.data L.checks L.count = L from rfl]
        rintro e w5 ⟨rfl, hb5⟩
        have K8 := Lib.hid (blkK hb5 ((blkK (ba1 _ _) K7.out)))
        have HB5 := Lib.hid (bt0 (bt0 HB4.out (ba1 _ _) (Nat.le_refl _)) hb5 (Nat.le_refl _))
        have K9 := Lib.hid (blkK hb5 (push_at w4 (.cells #[.int .i64 p, .int .i64 k, .int .i64 g, .int .i64 L.data, .int .i64 L.checks, .int .i64 L.count] 146 (0, 0))))
        clear hb5
        obtain ⟨hcB, hfB⟩ := heap_cellR K8.out
        obtain ⟨hcC, hfC⟩ := heap_cellR K9.out
        have z8 := blkLt K8.out
        have z9 := blkLt K9.out
        rcases Bool.eq_false_or_eq_true (L.ok ((bF k.toNat g.toNat).q : Int)) with hl | hl
        · have HC := Lib.hid (show layC fam n lev = 0 by rw [HC0.out, if_pos hl])
          have HV := Lib.hid (show vA = .agg #[.int .i64 p, .int .i64 k, .int .i64 g, .int .i64 L.data, .int .i64 L.checks, .int .i64 L.count] by rw [HVA.out, layA, if_pos HC.out, HLe.out, HFM.out])
          rw [hl]
          go_wp2_with fail
          refine bodyPost_ret (v := .tuple #[.agg #[.int .i64 p, .int .i64 k, .int .i64 g, .int .i64 L.data, .int .i64 L.checks, .int .i64 L.count], .int .i64 0]) (by simp [results, Tryz.results91, go_sem, hcB]) rfl ⟨by rw [HCD.out, HV.out, HC.out], ?_⟩
          iterate 6 (refine Below.setCell ?_ (by dsimp only; omega) _)
          exact HB5.out
        · have HC := Lib.hid (show layC fam n lev = 3 by rw [HC0.out, if_neg (by rw [hl]; decide)])
          rw [hl]
          go_wp2_with fail
          refine bodyPost_ret (v := .tuple #[.agg #[.int .i64 0, .int .i64 0, .int .i64 0, .int .i64 0, .int .i64 0, .int .i64 0], .int .i64 3]) (by simp [results, Tryz.results91, go_sem, hcB]) rfl ⟨by rw [HCD.out, HNO.out (by rw [HC.out]; decide), HC.out], ?_⟩
          iterate 6 (refine Below.setCell ?_ (by dsimp only; omega) _)
          exact HB5.out
      · rw [hv]
        have HC := Lib.hid (show layC fam n lev = 2 by rw [layC, if_pos ho, if_neg (by rw [HFM.out]; simp [hv])])
        have hcz : w.heap.size ≤ w.heap.size + 1 := by omega
        go_wp2_with fail
        refine bodyPost_ret (v := .tuple #[.agg #[.int .i64 0, .int .i64 0, .int .i64 0, .int .i64 0, .int .i64 0, .int .i64 0], .int .i64 2]) (by simp [results, Tryz.results91, go_sem, hcB]) rfl ⟨by rw [HCD.out, HNO.out (by rw [HC.out]; decide), HC.out], ?_⟩
        iterate 6 (refine Below.setCell ?_ (by dsimp only; omega) _)
        exact HB1.out
    · rw [show famC fam n = 2 by rw [famC, if_pos ho, HFM.out, if_neg (by rw [hs]; decide)]]
      have HC := Lib.hid (show layC fam n lev = 2 by rw [layC, if_pos ho, if_neg (by rw [HFM.out]; simp [hs])])
      go_wp2_with fail
      refine bodyPost_ret (v := .tuple #[.agg #[.int .i64 0, .int .i64 0, .int .i64 0, .int .i64 0, .int .i64 0, .int .i64 0], .int .i64 2]) (by simp [results, Tryz.results91, go_sem, hcB]) rfl ⟨by rw [HCD.out, HNO.out (by rw [HC.out]; decide), HC.out], ?_⟩
      iterate 6 (refine Below.setCell ?_ (by dsimp only; omega) _)
      exact HB1.out
  · rw [show famC fam n = 1 by rw [famC, if_neg (by rw [ho]; decide)]]
    have HC := Lib.hid (show layC fam n lev = 1 by rw [layC, if_neg (by rw [ho]; decide)])
    go_wp2_with fail
    refine bodyPost_ret (v := .tuple #[.agg #[.int .i64 0, .int .i64 0, .int .i64 0, .int .i64 0, .int .i64 0, .int .i64 0], .int .i64 1]) (by simp [results, Tryz.results91, go_sem, hcB]) rfl ⟨by rw [HCD.out, HNO.out (by rw [HC.out]; decide), HC.out], ?_⟩
    iterate 6 (refine Below.setCell ?_ (by dsimp only; omega) _)
    exact HB1.out

end Go.Proofs.YtlcglclojlffgaaGreatDoor
namespace Go.Proofs.YtlcglclojlffgaaGreatDoor
open Go.RowKit

end Go.Proofs.YtlcglclojlffgaaGreatDoor
namespace Go.Proofs.YtlcglclojlffgaaGreatDoor
open Go.RowKit

theorem make_i (n : Nat) (hn : n ≤ 1099511627776) (w : World) :
    (Instr.makeSlice 67 (.int .i64 (n : Int)) (.int .i64 (n : Int))).run Tryz.prog w = .ok (.slice (some ⟨w.heap.size, 0, none⟩) n n) (w.alloc (.cells (madeCells #[.int .i64 0] n) 2)) := by
  obtain ⟨i0, hi, hz0, hz1, hz2⟩ := info_parts infoI
  have := run_make (P := Tryz.prog) w 67 2 i0 (.int .i64 0) Tryz.underlying67 hi hz0 .i64 .i64 n n (by omega) (Int.le_refl _) (by rw [hz2]; omega) (by omega)
  rw [hz1] at this
  simpa [Value.cells] using this
theorem own_emptyB {w : World} {B g : Nat} (hB : B ≤ w.heap.size) (hg : g = w.heap.size) : OwnI (w.alloc (.cells #[] 2 (0, 0))) B (.slice (some ⟨g, 0, none⟩) 0 0) [] := by
  subst hg
  exact World.ownsRow_lit (base := B) (size := 1) w #[] 0 hB (by unfold maxLen; omega) rfl
theorem cut_own {w : World} {B : Nat} {g n c : Nat} {l : List Nat} (h : OwnI w B (.slice (some ⟨g, 0, none⟩) n c) (natI l)) : IntsAt w (some ⟨g, 0, none⟩) (natI l) ∧ Slc (some ⟨g, 0, none⟩) (natI l) := ⟨h.ints, h.slc⟩

end Go.Proofs.YtlcglclojlffgaaGreatDoor
namespace Go.Proofs.YtlcglclojlffgaaGreatDoor
open Go.RowKit

end Go.Proofs.YtlcglclojlffgaaGreatDoor
namespace Go.Proofs.YtlcglclojlffgaaGreatDoor
open Go.RowKit

/-- a new slice of n cells, of the region's own -/
def SlcN (B n : Nat) (cs : Array Value) (t : TypeId) (v : Value) (W : World) : Prop := ∃ b, v = .slice (some ⟨b, 0, none⟩) n n ∧ B ≤ b ∧ W.heap[b]? = some (.cells cs t (0, 0))
def spSlN (B n : Nat) (cs : Array Value) (t : TypeId) : Sp KB := ⟨SlcN B n cs t, fun _ _ _ hk ⟨b, hv, hb, hg⟩ => ⟨b, hv, hb, blkK hk hg⟩⟩
theorem sln_new {w0 W : World} {B n : Nat} {cs : Array Value} {t : TypeId} (hst : StX w0 W) (hB : B ≤ w0.heap.size) : RsR (StX w0) (spSlN B n cs t) W (.slice (some ⟨W.heap.size, 0, none⟩) n n) (W.alloc (.cells cs t (0, 0))) :=
  kb_below hst (ba1 _ _) ⟨W.heap.size, rfl, Nat.le_trans hB hst.size, push_at _ _⟩
/-- a code as a value -/
abbrev cdV (F : Fd) (len chk : Int) : Value := .agg #[.int .i64 2, .int .i64 (F.k : Int), .int .i64 (F.g : Int), .int .i64 len, .int .i64 chk]
abbrev cdC (F : Fd) (len chk : Int) : Array Value := #[.int .i64 2, .int .i64 (F.k : Int), .int .i64 (F.g : Int), .int .i64 len, .int .i64 chk]
theorem three_at {w : World} {b : Nat} {F : Fd} {len chk : Int} (h : w.heap[b]? = some (.cells (cdC F len chk) 189 (0, 0))) :
    w.cell? ⟨b, 0, none⟩ = some (.int .i64 2) ∧ w.cell? ⟨b, 1, none⟩ = some (.int .i64 (F.k : Int)) ∧ w.cell? ⟨b, 2, none⟩ = some (.int .i64 (F.g : Int)) ∧ w.cell? ⟨b, 3, none⟩ = some (.int .i64 len) ∧ w.cell? ⟨b, 4, none⟩ = some (.int .i64 chk) := by
  obtain ⟨hc, -⟩ := heap_cellR h
  exact ⟨hc 0, hc 1, hc 2, hc 3, hc 4⟩
theorem pair_ints {W : World} {b : Nat} {x : Nat} (h : W.heap[b]? = some (.cells #[.int .i64 (x : Int), .int .i64 1] 2 (0, 0))) : IntsAt W (some ⟨b, 0, none⟩) (natI [x, 1]) := ints_lit h rfl

end Go.Proofs.YtlcglclojlffgaaGreatDoor
namespace Go.Proofs.YtlcglclojlffgaaGreatDoor
open Go.RowKit

/-! As RG, where one operation f of the head may come up behind the first of the tail (a result that is taken apart beside a late store). -/

def rgOkF (ops : Array Oper) (m f : Nat) (ds : List Nat) (sup : Nat → List Nat) : Bool :=
  decide (f < m) && decide (m < ops.size) && (List.range ops.size).all fun j => match ops[j]? with
    | none => true
    | some o =>
      (decide (m ≤ j) || ((match o.dst with | some d => ds.contains d | none => true) &&
        (sup j).all fun t => (List.range ops.size).all fun i => match ops[i]? with
          | none => true
          | some oi => oi.dst != some t || i == j || o.after.any fun e => Region.binds .any e && e.on == i)) &&
      (decide (j < m) || (List.range j).all (fun i => (i == f && j == m) || o.after.any fun e => Region.binds .any e && e.on == i)) && o.after.all fun e => !Region.binds .any e || decide (e.on < j)

variable {P : Program} {ops : Array Oper} {Q : Exit → Act → World → Prop}

/-- the tail, in its one order -/
theorem wpAny_tailF {m f : Nat} {ds : List Nat} {sup : Nat → List Nat} (hB0 : rgOkF ops m f ds sup = true) : ∀ (r k : Nat) (listed : Array Bool) (a : Act) (w : World), m ≤ k → k + r = ops.size →
    (∀ j, j < ops.size → listed.getD j true = decide (j < k)) → listed.size = ops.size → ∀ fuel, r ≤ fuel → wpOps P ops Q (List.range' k r) a w → wpAny P .any ops Q fuel listed a w
  | 0, k, listed, a, w, hm, hk, hl, hs, fuel, hf, h => by
    have hr : Region.ready .any ops listed = [] := by
      rw [List.eq_nil_iff_forall_not_mem]
      intro j hj
      obtain ⟨h1, o, ho, _⟩ := mem_ready.1 hj
      have hlt : j < ops.size := (Array.getElem?_eq_some_iff.1 ho).1
      rw [hl j hlt] at h1
      simp at h1; omega
    have hq : Q .normal a w := h
    cases fuel with
    | zero => exact ⟨hr, hq⟩
    | succ f => exact ⟨fun _ => hq, fun i hi => by rw [hr] at hi; cases hi⟩
  | r + 1, k, listed, a, w, hm, hk, hl, hs, fuel, hf, h => by
    have hB := hB0
    unfold rgOkF at hB
    rw [Bool.and_eq_true] at hB
    have hkn : k < ops.size := by omega
    have hready : ∀ j ∈ Region.ready .any ops listed, j = k := by
      intro j hj
      obtain ⟨h1, o, ho, hdep⟩ := mem_ready.1 hj
      have hlt : j < ops.size := (Array.getElem?_eq_some_iff.1 ho).1
      rw [hl j hlt] at h1
      have hjk : k ≤ j := by simpa using h1
      rcases Nat.lt_or_ge k j with hlt' | hge
      · exfalso
        have hb := List.all_eq_true.1 hB.2 j (List.mem_range.2 hlt)
        simp only [ho, Bool.and_eq_true, Bool.or_eq_true, decide_eq_true_eq] at hb
        rcases hb.1.2 with hb2 | hb2
        · omega
        · have := List.all_eq_true.1 hb2 k (List.mem_range.2 hlt')
          simp only [Bool.or_eq_true, Bool.and_eq_true, beq_iff_eq] at this
          have hfm : f < m := by have h := hB.1; rw [Bool.and_eq_true] at h; simpa using h.1
          rcases this with this | this
          · omega
          obtain ⟨e, he, hee⟩ := Array.any_eq_true'.1 this
          simp only [Bool.and_eq_true, beq_iff_eq] at hee
          have hd := hdep e he hee.1
          rw [hee.2] at hd
          have := hl k hkn
          rw [getD_toList] at this hd
          rw [List.getD_eq_getElem?_getD] at this hd
          cases hx : listed.toList[k]? with
          | none => rw [hx] at hd; simp at hd
          | some b => rw [hx] at this hd; simp at this hd; rw [this] at hd; cases hd
      · omega
    cases fuel with
    | zero => omega
    | succ f =>
      refine ⟨fun h0 => ?_, fun i hi => ?_⟩
      · exfalso
        obtain ⟨o, ho⟩ : ∃ o, ops[k]? = some o := ⟨ops[k], Array.getElem?_eq_getElem hkn⟩
        have : k ∈ Region.ready .any ops listed := by
          refine mem_ready.2 ⟨?_, o, ho, ?_⟩
          · rw [hl k hkn]; simp
          · intro e he hbind
            have hb := List.all_eq_true.1 hB.2 k (List.mem_range.2 hkn)
            simp only [ho, Bool.and_eq_true, Bool.or_eq_true, decide_eq_true_eq] at hb
            · have h2 := Array.all_eq_true'.1 hb.2 e he
              simp only [hbind, Bool.not_true, Bool.or_eq_true, Bool.false_eq_true, false_or, decide_eq_true_eq] at h2
              have := hl e.on (by omega)
              rw [getD_toList, List.getD_eq_getElem?_getD] at this ⊢
              cases hx : listed.toList[e.on]? with
              | none =>
                have := List.getElem?_eq_none_iff.1 hx
                simp [hs] at this; omega
              | some b => rw [hx] at this; simp at this; simp [this]; exact h2
        rw [h0] at this; cases this
      · obtain rfl := hready i hi
        rw [List.range'_succ, wpOps_cons] at h
        refine wpOp_mono (fun a' w' h' => ?_) h
        refine wpAny_tailF hB0 r (i + 1) _ a' w' (by omega) (by omega) ?_ (by simpa using hs) f (by omega) h'
        intro j hj
        by_cases e : i = j
        · subst e
          rw [getD_toList, Array.toList_setIfInBounds, List.getD_eq_getElem?_getD, List.getElem?_set]
          simp [hs, hj]
        · rw [getD_toList, Array.toList_setIfInBounds, List.getD_eq_getElem?_getD, List.getElem?_set, if_neg e, ← List.getD_eq_getElem?_getD, ← getD_toList, hl j hj]
          simp; omega


theorem wpAny_headF {m f : Nat} {a0 : Act} {ds : List Nat} {sup : Nat → List Nat} {G : Nat → (Nat → Value) → World → Prop} {St : World → Prop} {Keep : World → World → Prop} (hB0 : rgOkF ops m f ds sup = true)
    (hkeep : ∀ j us w w', j < m → Keep w w' → G j us w → G j us w') (hrefl : ∀ w, Keep w w) (hsup : ∀ j us us' w, j < m → (∀ t ∈ sup j, us t = us' t) → G j us w → G j us' w)
    (howe : ∀ i o, i < m → ops[i]? = some o → Owes P ops Q a0 ds G St Keep i o)
    (hend : ∀ us w, St w → (∀ j, j < m → G j us w) → wpOps P ops Q (List.range' m (ops.size - m)) (over a0 ds us) w)
    (hend2 : ∀ us w, St w → (∀ j, j < m → j ≠ f → G j us w) → wpOps P ops Q (m :: f :: List.range' (m + 1) (ops.size - (m + 1))) (over a0 ds us) w) :
    ∀ (fuel : Nat) (listed : Array Bool) (a : Act) (w : World), unl listed.toList ≤ fuel → Under ops m a0 ds G St listed a w → wpAny P .any ops Q fuel listed a w := by
  have hB1 := hB0
  unfold rgOkF at hB1
  rw [Bool.and_eq_true] at hB1
  have hB2 := hB1.1
  rw [Bool.and_eq_true] at hB2
  obtain ⟨hfm, hms⟩ := hB2
  have hfm : f < m := by simpa using hfm
  have hms : m < ops.size := by simpa using hms
  have hm : m ≤ ops.size := by omega
  have hB := hB1.2
  have hdepOk : ∀ j o, j < m → ops[j]? = some o → (∀ d, o.dst = some d → ds.contains d = true) ∧ ∀ t ∈ sup j, ∀ i oi, ops[i]? = some oi → oi.dst = some t → i = j ∨ ∃ e ∈ o.after, Region.binds .any e = true ∧ e.on = i := by
    intro j o hj ho
    have hlt : j < ops.size := (Array.getElem?_eq_some_iff.1 ho).1
    have hb := List.all_eq_true.1 hB j (List.mem_range.2 hlt)
    simp only [ho, Bool.and_eq_true, Bool.or_eq_true, decide_eq_true_eq] at hb
    rcases hb.1.1 with h | h
    · omega
    · refine ⟨?_, ?_⟩
      · intro d hd
        have := h.1
        rw [hd] at this
        exact this
      · intro t ht i oi hi hd
        have h2 := List.all_eq_true.1 (List.all_eq_true.1 h.2 t ht) i (List.mem_range.2 (Array.getElem?_eq_some_iff.1 hi).1)
        simp only [hi, Bool.or_eq_true, bne_iff_ne, beq_iff_eq, hd] at h2
        rcases h2 with (h2 | h2) | h2
        · exact absurd rfl h2
        · exact Or.inl h2
        · obtain ⟨e, he, hee⟩ := Array.any_eq_true'.1 h2
          simp only [Bool.and_eq_true, beq_iff_eq] at hee
          exact Or.inr ⟨e, he, hee.1, hee.2⟩
  have step : ∀ (fuel : Nat) (listed : Array Bool) (a : Act) (w : World), unl listed.toList ≤ fuel → Under ops m a0 ds G St listed a w →
      (∀ j, j < m → listed.getD j true = true) → wpAny P .any ops Q fuel listed a w := by
    intro fuel listed a w hf U hall
    obtain ⟨us, rfl, hG⟩ := U.left
    have hx : ∀ j, j < m → listed.getD j false = true := by
      intro j hj
      have := hall j hj
      rw [getD_toList, List.getD_eq_getElem?_getD] at this ⊢
      cases hy : listed.toList[j]? with
      | none =>
        have h1 := List.getElem?_eq_none_iff.1 hy
        have := U.size
        simp at h1; omega
      | some b => rw [hy] at this; simpa using this
    have hr : ops.size - m ≤ fuel := by
      refine Nat.le_trans ?_ hf
      have : ∀ (n : Nat) (l : List Bool), (∀ j, n ≤ j → j < l.length → l.getD j true = false) → l.length - n ≤ unl l := by
        intro n l
        induction l generalizing n with
        | nil => intro _; simp
        | cons b r ih =>
          intro hb
          cases n with
          | zero =>
            have h0 := hb 0 (Nat.le_refl _) (by simp)
            have h1 := ih 0 (fun j _ hj => by have := hb (j + 1) (by omega) (by simpa using hj); simpa using this)
            simp at h0
            subst h0
            simp [unl] at h1 ⊢; omega
          | succ n =>
            have h1 := ih n (fun j hj hj' => by have := hb (j + 1) (by omega) (by simpa using hj'); simpa using this)
            simp only [unl, List.length_cons]; omega
      have h2 := this m listed.toList (fun j hj hj' => by rw [← getD_toList]; exact U.tail j hj (by have := U.size; simp at hj'; omega))
      have := U.size
      simp at h2; omega
    refine wpAny_tailF hB0 (ops.size - m) m listed _ w (Nat.le_refl _) (by omega) ?_ U.size fuel hr (hend us w U.st (fun j hj => hG j hj (hx j hj)))
    intro j hj
    rcases Nat.lt_or_ge j m with h | h
    · rw [hall j h]; simp [h]
    · rw [U.tail j h hj]; simp; omega
  intro fuel
  induction fuel with
  | zero =>
    intro listed a w hf U
    exact step 0 listed a w hf U (fun j _ => by rw [getD_toList]; exact unl_zero _ (by omega) j)
  | succ fuel ih =>
    intro listed a w hf U
    by_cases hall : ∀ j, j < m → listed.getD j true = true
    · exact step _ listed a w hf U hall
    · obtain ⟨us, rfl, hG⟩ := U.left
      have hnot : ∃ j, j < m ∧ listed.getD j true = false := by
        apply Classical.byContradiction
        intro hn
        apply hall
        intro j hj
        cases hx : listed.getD j true with
        | true => rfl
        | false => exact absurd ⟨j, hj, hx⟩ hn
      refine ⟨fun h0 => ?_, fun i hi => ?_⟩
      · -- the least that is not listed may come up
        have least : ∀ n j, j ≤ n → j < m → listed.getD j true = false → False := by
          intro n
          induction n with
          | zero =>
            intro j hj hjm hjl
            obtain rfl : j = 0 := by omega
            obtain ⟨oj, hoj⟩ : ∃ oj, ops[0]? = some oj := ⟨ops[0], Array.getElem?_eq_getElem (by omega)⟩
            have : 0 ∈ Region.ready .any ops listed := mem_ready.2 ⟨hjl, oj, hoj, fun e he hbind => by
              have hb := List.all_eq_true.1 hB 0 (List.mem_range.2 (by omega))
              simp only [hoj, Bool.and_eq_true] at hb
              have h2 := Array.all_eq_true'.1 hb.2 e he
              simp only [hbind, Bool.not_true, Bool.or_eq_true, Bool.false_eq_true, false_or, decide_eq_true_eq] at h2
              omega⟩
            rw [h0] at this; cases this
          | succ n ihn =>
            intro j hj hjm hjl
            obtain ⟨oj, hoj⟩ : ∃ oj, ops[j]? = some oj := ⟨ops[j], Array.getElem?_eq_getElem (by omega)⟩
            have : j ∈ Region.ready .any ops listed := mem_ready.2 ⟨hjl, oj, hoj, fun e he hbind => by
              have hb := List.all_eq_true.1 hB j (List.mem_range.2 (by omega))
              simp only [hoj, Bool.and_eq_true] at hb
              have h2 := Array.all_eq_true'.1 hb.2 e he
              simp only [hbind, Bool.not_true, Bool.or_eq_true, Bool.false_eq_true, false_or, decide_eq_true_eq] at h2
              cases hx : listed.getD e.on true with
              | false => exact (ihn e.on (by omega) (by omega) hx).elim
              | true =>
                rw [getD_toList, List.getD_eq_getElem?_getD] at hx ⊢
                cases hy : listed.toList[e.on]? with
                | none =>
                  have h4 := List.getElem?_eq_none_iff.1 hy
                  have := U.size
                  simp at h4; omega
                | some b => rw [hy] at hx; simpa using hx⟩
            rw [h0] at this; cases this
        obtain ⟨j, hj, hjl⟩ := hnot
        exact (least j j (Nat.le_refl _) hj hjl).elim
      · obtain ⟨h1, o, ho, hdep⟩ := mem_ready.1 hi
        have hlt : i < ops.size := (Array.getElem?_eq_some_iff.1 ho).1
        have hil : listed.toList[i]? = some false := by
          rw [getD_toList, List.getD_eq_getElem?_getD] at h1
          cases hx : listed.toList[i]? with
          | none => rw [hx] at h1; simp at h1
          | some b => rw [hx] at h1; simp at h1; rw [h1]
        rcases Nat.lt_or_ge i m with him | hge
        rotate_left
        · have gd : ∀ t, t < ops.size → ∀ l : Array Bool, l.size = ops.size → l.getD t true = l.getD t false := fun t ht l hl => by
            rw [getD_toList, getD_toList, List.getD_eq_getElem?_getD, List.getD_eq_getElem?_getD, List.getElem?_eq_getElem (by simpa [hl] using ht)]; rfl
          have hb := List.all_eq_true.1 hB i (List.mem_range.2 hlt)
          simp only [ho, Bool.and_eq_true, Bool.or_eq_true, decide_eq_true_eq] at hb
          have hwait : ∀ t, t < i → (t = f ∧ i = m) ∨ listed.getD t false = true := by
            intro t ht
            rcases hb.1.2 with hb2 | hb2
            · omega
            · have := List.all_eq_true.1 hb2 t (List.mem_range.2 ht)
              simp only [Bool.or_eq_true, Bool.and_eq_true, beq_iff_eq] at this
              rcases this with this | this
              · exact Or.inl this
              · obtain ⟨e, he, hee⟩ := Array.any_eq_true'.1 this
                simp only [Bool.and_eq_true, beq_iff_eq] at hee
                have hd := hdep e he hee.1
                rw [hee.2] at hd
                exact Or.inr hd
          obtain ⟨j, hj, hjl⟩ := hnot
          have hjf : j = f ∧ i = m := by
            rcases hwait j (by omega) with h | h
            · exact h
            · rw [gd j (by omega) listed U.size, h] at hjl; cases hjl
          obtain ⟨hjf, him⟩ := hjf
          subst hjf
          subst him
          have hG' : ∀ t, t < i → t ≠ j → G t us w := fun t ht hne => hG t ht ((hwait t ht).resolve_left (fun h => hne h.1))
          have h2 := hend2 us w U.st hG'
          rw [wpOps_cons] at h2
          refine wpOp_mono (fun a' w' h' => ?_) h2
          rw [wpOps_cons] at h'
          have hu1 := unl_set listed.toList i hil
          rw [← Array.toList_setIfInBounds] at hu1
          have hs1 : (listed.setIfInBounds i true).size = ops.size := by simpa using U.size
          have hfl : (listed.setIfInBounds i true).getD j true = false := by rw [getD_set_other (by omega)]; exact hjl
          cases fuel with
          | zero =>
            have := unl_zero (listed.setIfInBounds i true).toList (by omega) j
            rw [← getD_toList, hfl] at this
            cases this
          | succ fu =>
            have hfs : (listed.setIfInBounds i true).toList[j]? = some false := by
              rw [getD_toList, List.getD_eq_getElem?_getD] at hfl
              cases hx : (listed.setIfInBounds i true).toList[j]? with
              | none => rw [hx] at hfl; simp at hfl
              | some b => rw [hx] at hfl; simp at hfl; rw [hfl]
            have hu2 := unl_set _ j hfs
            rw [← Array.toList_setIfInBounds] at hu2
            have hall1 : ∀ t, t < i → t ≠ j → (listed.setIfInBounds i true).getD t false = true := fun t ht hne => getD_set_true ((hwait t ht).resolve_left (fun h => hne h.1))
            refine ⟨fun h0 => ?_, fun i' hi' => ?_⟩
            · exfalso
              obtain ⟨oj, hoj⟩ : ∃ oj, ops[j]? = some oj := ⟨ops[j], Array.getElem?_eq_getElem (by omega)⟩
              have : j ∈ Region.ready .any ops (listed.setIfInBounds i true) := mem_ready.2 ⟨hfl, oj, hoj, fun e he hbind => by
                have hbj := List.all_eq_true.1 hB j (List.mem_range.2 (by omega))
                simp only [hoj, Bool.and_eq_true] at hbj
                have h3 := Array.all_eq_true'.1 hbj.2 e he
                simp only [hbind, Bool.not_true, Bool.or_eq_true, Bool.false_eq_true, false_or, decide_eq_true_eq] at h3
                exact hall1 e.on (by omega) (by omega)⟩
              rw [h0] at this; cases this
            · obtain ⟨h1', o', ho', hdep'⟩ := mem_ready.1 hi'
              have hlt' : i' < ops.size := (Array.getElem?_eq_some_iff.1 ho').1
              have hij : i' = j := by
                apply Classical.byContradiction
                intro hne
                rcases Nat.lt_trichotomy i' i with h | h | h
                · have := hall1 i' h hne
                  rw [← gd i' hlt' _ hs1, h1'] at this; cases this
                · subst h
                  have := gd i' hlt' _ hs1
                  have h5 : (listed.setIfInBounds i' true).getD i' false = true := by
                    rw [getD_toList, Array.toList_setIfInBounds, List.getD_eq_getElem?_getD, List.getElem?_set, if_pos rfl, if_pos (by have := U.size; simp; omega)]; rfl
                  rw [this, h5] at h1'; cases h1'
                · have hb' := List.all_eq_true.1 hB i' (List.mem_range.2 hlt')
                  simp only [ho', Bool.and_eq_true, Bool.or_eq_true, decide_eq_true_eq] at hb'
                  rcases hb'.1.2 with hb2 | hb2
                  · omega
                  · have := List.all_eq_true.1 hb2 j (List.mem_range.2 (by omega))
                    simp only [Bool.or_eq_true, Bool.and_eq_true, beq_iff_eq] at this
                    rcases this with this | this
                    · omega
                    · obtain ⟨e, he, hee⟩ := Array.any_eq_true'.1 this
                      simp only [Bool.and_eq_true, beq_iff_eq] at hee
                      have hd := hdep' e he hee.1
                      rw [hee.2, ← gd j (by omega) _ hs1, hfl] at hd
                      cases hd
              subst hij
              refine wpOp_mono (fun a'' w'' h'' => ?_) h'
              have hlow : ∀ (n : Nat) (l : List Bool), (∀ t, n ≤ t → t < l.length → l.getD t true = false) → l.length - n ≤ unl l := by
                intro n l
                induction l generalizing n with
                | nil => intro _; simp
                | cons b r ih =>
                  intro hb
                  cases n with
                  | zero =>
                    have h0 := hb 0 (Nat.le_refl _) (by simp)
                    have h1 := ih 0 (fun t _ ht => by have := hb (t + 1) (by omega) (by simpa using ht); simpa using this)
                    simp at h0
                    subst h0
                    simp [unl] at h1 ⊢; omega
                  | succ n =>
                    have h1 := ih n (fun t ht ht' => by have := hb (t + 1) (by omega) (by simpa using ht'); simpa using this)
                    simp only [unl, List.length_cons]; omega
              have hs2 : ((listed.setIfInBounds i true).setIfInBounds i' true).size = ops.size := by simpa using U.size
              have hrest : ∀ t, i + 1 ≤ t → t < ops.size → ((listed.setIfInBounds i true).setIfInBounds i' true).getD t true = false := fun t ht ht' => by
                rw [getD_set_other (by omega), getD_set_other (by omega)]; exact U.tail t (by omega) ht'
              have hn := hlow (i + 1) ((listed.setIfInBounds i true).setIfInBounds i' true).toList (fun t ht ht' => by
                rw [← getD_toList]; exact hrest t ht (by rw [Array.length_toList, hs2] at ht'; exact ht'))
              rw [Array.length_toList, hs2] at hn
              refine wpAny_tailF hB0 (ops.size - (i + 1)) (i + 1) _ a'' w'' (by omega) (by omega) (fun t ht => ?_) hs2 fu (by omega) h''
              by_cases h7 : i + 1 ≤ t
              · rw [hrest t h7 ht]; simp; omega
              · have e1 : ((listed.setIfInBounds i true).setIfInBounds i' true).getD t true = true := by
                  rw [gd t ht _ hs2]
                  by_cases h8 : i' = t
                  · subst h8
                    rw [getD_toList, Array.toList_setIfInBounds, List.getD_eq_getElem?_getD, List.getElem?_set, if_pos rfl, if_pos (by rw [Array.length_toList, hs1]; exact ht)]; rfl
                  · refine getD_set_true ?_
                    by_cases h9 : i = t
                    · subst h9
                      rw [getD_toList, Array.toList_setIfInBounds, List.getD_eq_getElem?_getD, List.getElem?_set, if_pos rfl, if_pos (by rw [Array.length_toList, U.size]; exact ht)]; rfl
                    · exact hall1 t (by omega) (fun e => h8 e.symm)
                rw [e1]; simp; omega
        obtain ⟨hds, hdp⟩ := hdepOk i o him ho
        have hdm : ∀ e ∈ o.after, Region.binds .any e = true → e.on < m := by
          intro e he hbind
          have hd := hdep e he hbind
          rcases Nat.lt_or_ge e.on m with h | h
          · exact h
          · exfalso
            rcases Nat.lt_or_ge e.on ops.size with h2 | h2
            · have := U.tail e.on h h2
              rw [getD_toList, List.getD_eq_getElem?_getD] at this hd
              cases hx : listed.toList[e.on]? with
              | none => rw [hx] at hd; simp at hd
              | some b => rw [hx] at hd this; simp at hd this; rw [hd] at this; cases this
            · rw [getD_toList, List.getD_eq_getElem?_getD, List.getElem?_eq_none (by have := U.size; simp; omega)] at hd
              simp at hd
        have next : ∀ v w', St w' → Keep w w' → G i (upd us o.dst v) w' → wpAny P .any ops Q fuel (listed.setIfInBounds i true) ((over a0 ds us).put o.dst v) w' := by
          intro v w' hst hk hg
          refine ih _ _ _ ?_ ⟨by simpa using U.size, ?_, ?_, hst, upd us o.dst v, over_put hds, ?_⟩
          · have := unl_set listed.toList i hil
            rw [Array.toList_setIfInBounds]; omega
          · intro j hj hj'
            rw [getD_set_other (by omega)]; exact U.tail j hj hj'
          · intro j oj hoj hlj e he hbind
            by_cases ej : i = j
            · subst ej
              rw [ho] at hoj
              cases hoj
              exact getD_set_true (hdep e he hbind)
            · rw [getD_set_other ej] at hlj
              exact getD_set_true (U.closed j oj hoj hlj e he hbind)
          · intro j hj hlj
            by_cases ej : i = j
            · subst ej; exact hg
            · rw [getD_set_other ej] at hlj
              refine hsup j us _ w' hj (fun t ht => ?_) (hkeep j us w w' hj hk (hG j hj hlj))
              symm
              refine upd_ne (fun hd => ?_)
              have hjs : j < ops.size := by omega
              obtain ⟨oj, hoj⟩ : ∃ oj, ops[j]? = some oj := ⟨ops[j], Array.getElem?_eq_getElem hjs⟩
              rcases (hdepOk j oj hj hoj).2 t ht i o ho hd with h | ⟨e, he, hbind, heq⟩
              · exact ej h
              · have := U.closed j oj hoj hlj e he hbind
                rw [heq, getD_toList, List.getD_eq_getElem?_getD, hil] at this
                simp at this
        have howes := howe i o him ho us w U.st (fun e he hbind => hG e.on (hdm e he hbind) (hdep e he hbind))
        unfold wpOp
        rw [ho]
        simp only
        by_cases hw : Region.wanted o (yielded ops (over a0 ds us).tmps) = true
        · rw [if_pos hw] at howes ⊢
          refine Or.inl (Oper.wp_mono (fun a' w' h => ?_) howes)
          obtain ⟨v, rfl, hst, hk, hg⟩ := h
          exact next v w' hst hk hg
        · rw [if_neg hw] at howes ⊢
          exact next undef w U.st (hrefl w) howes

theorem wp_region_rgF {P : Program} {id : Nat} {l : List Oper} {Q : Exit → Act → World → Prop} {a0 : Act} {w0 : World} (m f : Nat) (ds : List Nat) (sup : Nat → List Nat) (A : (Nat → Value) → Act) (G : Nat → (Nat → Value) → World → Prop) (St : World → Prop) (Keep : World → World → Prop)
    (hmix : P.follows .mixedOrders = true) (hB : rgOkF l.toArray m f ds sup = true) (hA : ∀ us, over a0 ds us = A us) (h0 : St w0.drew) (hrefl : ∀ w, Keep w w)
    (hkeep : ∀ j us w w', j < m → Keep w w' → G j us w → G j us w') (hsup : ∀ j us us' w, j < m → (∀ t ∈ sup j, us t = us' t) → G j us w → G j us' w)
    (hall : rgAll P l.toArray A G St Keep 0 (l.take m))
    (hend : ∀ us w, St w → (∀ j, j < m → G j us w) → wpList P l.toArray Q (l.drop m) (A us) w)
    (hend2 : ∀ us w, St w → (∀ j, j < m → j ≠ f → G j us w) → wpOps P l.toArray Q (m :: f :: List.range' (m + 1) (l.length - (m + 1))) (A us) w) : (Code.region id l.toArray true).wp P Q a0 w0 := by
  refine wp_region_any hmix ?_
  refine wpAny_headF (a0 := a0) (ds := ds) (G := G) (St := St) (Keep := Keep) hB hkeep hrefl hsup ?_ ?_ ?_ _ _ _ _ (by rw [Array.toList_replicate, unl_replicate]; exact Nat.le_refl _) ?_
  · intro i o hi ho us w hst hd
    have ho' : (l.take m)[i]? = some o := by rw [List.getElem?_take, if_pos hi]; simpa using ho
    have := rgAll_at _ 0 hall i o ho' us w hst hd
    rw [Nat.zero_add] at this
    rw [hA]
    by_cases hw : Region.wanted o (yielded l.toArray (A us).tmps) = true
    · rw [if_pos hw] at this ⊢
      exact wp_of_leaves (fun v w' h => ⟨v, rfl, h.1, h.2.1, h.2.2⟩) this
    · rw [if_neg hw] at this ⊢
      exact this
  · intro us w hst hg
    have := hend us w hst hg
    rw [hA]
    have e := wpOps_eq_wpList (P := P) (ops := l.toArray) (Q := Q) (l.drop m) m (fun j => by simp [List.getElem?_drop])
    rw [List.length_drop] at e
    have e2 : l.toArray.size - m = l.length - m := by simp
    rw [e2, e]
    exact this
  · intro us w hst hg
    have := hend2 us w hst hg
    rw [hA]
    simpa using this
  · refine ⟨by simp, ?_, ?_, h0, fun t => a0.tmps.getD t undef, ?_, ?_⟩
    · intro j _ hj
      rw [getD_toList, Array.toList_replicate, List.getD_eq_getElem?_getD, List.getElem?_replicate]
      simp at hj
      simp [hj]
    · intro j o _ hj
      rw [getD_toList, Array.toList_replicate, List.getD_eq_getElem?_getD, List.getElem?_replicate] at hj
      split at hj <;> simp at hj
    · unfold over
      cases a0 with
      | mk tmps defers =>
        congr 1
        apply Array.ext_getElem?
        intro i
        rw [Array.getElem?_mapIdx]
        cases hx : tmps[i]? with
        | none => rfl
        | some v =>
          simp only [Option.map_some, Array.getD_eq_getD_getElem?, hx, Option.getD_some]
          split <;> rfl
    · intro j _ hj
      rw [getD_toList, Array.toList_replicate, List.getD_eq_getElem?_getD, List.getElem?_replicate] at hj
      split at hj <;> simp at hj


/-- a store into a whole block, both ways -/
theorem wp_store_eq {P : Program} {o : Oper} {a : Act} {w : World} {K : Act → World → Prop} {Q : Exit → Act → World → Prop} (ty : TypeId) (x y : Operand) (ho : o.op = .store ty x y)
    (g : Nat) (cells : Array Value) (hx : a.eval x = .pointer (some ⟨g, 0, none⟩)) (hy : a.eval y = .agg cells)
    (t : TypeId) (old : Array Value) (hg : w.heap[g]? = some (.cells old t (0, 0))) (hi : (P.info? ty).map (·.size) = some cells.size)
    (hold : old.size = cells.size) (h1 : cells.all (·.oneCell') = true) : o.wp P a w K Q = K (a.put o.dst undef) (w.setRow g cells) := by
  unfold Oper.wp execOp
  simp only [ho, hx, hy, Instr.storeAt, Instr.sureAddr, Sem.run_bind, Sem.run_pure, Result.andThen_ok, run_storeVar_row w g t ty old cells hg hi hold h1]
  rfl

/-- **A REGION THAT DRAWS ITS ORDER, ITS TAIL A STORE BEHIND WHICH ONE OPERATION OF THE HEAD MAY COME.** -/
theorem wp_region_rsF {P : Program} {id : Nat} {l : List Oper} {Q : Exit → Act → World → Prop} {a0 : Act} {w0 : World} (f : Nat) (ds : List Nat) (A : (Nat → Value) → Act) {Keep : World → World → Prop} (sp : List (Sp Keep)) (St : World → Prop)
    (om of : Oper) (ty : TypeId) (x y : Operand) (df : Nat)
    (hmix : P.follows .mixedOrders = true) (hB : rgOkF l.toArray sp.length f ds (supOf l) = true) (hA : ∀ us, over a0 ds us = A us) (h0 : St w0.drew) (hrefl : ∀ w, Keep w w)
    (hom : l[sp.length]? = some om) (hof : l[f]? = some of) (hg1 : om.guard = none) (hd1 : om.dst = none) (ho1 : om.op = .store ty x y) (hg2 : of.guard = none) (hd2 : of.dst = some df)
    (hnd : ((List.range sp.length).all fun j => j == f || !(supOf l j).contains df) = true) (hdf : ds.contains df = true)
    (hxy : ∀ us v, (A (upd us (some df) v)).eval x = (A us).eval x ∧ (A (upd us (some df) v)).eval y = (A us).eval y)
    (hall : rsAll P l A sp St (l.take sp.length) sp)
    (hst2 : ∀ us w, St w → (∀ j, j < sp.length → j ≠ f → depHolds l sp us w j) → ∃ g cells t old, (A us).eval x = .pointer (some ⟨g, 0, none⟩) ∧ (A us).eval y = .agg cells ∧ w.heap[g]? = some (.cells old t (0, 0)) ∧ (P.info? ty).map (·.size) = some cells.size ∧ old.size = cells.size ∧ cells.all (·.oneCell') = true)
    (hfl : ∀ us w, St w → (∀ j, j < sp.length → j ≠ f → depHolds l sp us w j) → ∃ v, (∀ w', (execOp (A us).eval of).run P w' = .ok (.value v) w') ∧ depHolds l sp (upd us (some df) v) w f)
    (hend : ∀ us w, St w → (∀ j, j < sp.length → depHolds l sp us w j) → wpList P l.toArray Q (l.drop sp.length) (A us) w) : (Code.region id l.toArray true).wp P Q a0 w0 := by
  have hm : sp.length ≤ l.length := Nat.le_of_lt (List.getElem?_eq_some_iff.1 hom).1
  refine wp_region_rgF sp.length f ds (supOf l) A (fun i us w => depHolds l sp us w i) St Keep hmix hB hA h0 hrefl (fun j us w w' _ hk h => depHolds_kept hk h) (fun j us us' w _ he h => depHolds_sup he h) ?_ hend ?_
  · refine rg_of_rs _ _ 0 (by rw [List.length_take]; omega) (fun j hj => ?_) (fun j hj => ?_) (fun j _ => by simp) hall
    · have : j < (l.take sp.length).length := by
        apply Classical.byContradiction
        intro h
        rw [List.getElem?_eq_none (by omega)] at hj; cases hj
      rw [List.length_take] at this
      rw [Nat.zero_add, List.getElem?_take, if_pos (by omega)]
    · rw [List.length_take] at hj
      rw [Nat.zero_add, List.getElem?_take, if_pos (by omega)]
  · intro us w hst hd
    obtain ⟨v, hv, hvf⟩ := hfl us w hst hd
    obtain ⟨g, cells, t, old, e1, e2, e3, e4, e5, e6⟩ := hst2 us w hst hd
    have hd' : ∀ j, j < sp.length → depHolds l sp (upd us (some df) v) w j := by
      intro j hj
      by_cases e : j = f
      · subst e; exact hvf
      · refine depHolds_sup (fun t ht => ?_) (hd j hj e)
        have h1 := List.all_eq_true.1 hnd j (List.mem_range.2 hj)
        simp only [Bool.or_eq_true, beq_iff_eq, Bool.not_eq_true', e, false_or] at h1
        symm
        refine upd_ne (fun ht2 => ?_)
        obtain rfl := Option.some.inj ht2
        rw [List.contains_iff_mem.2 ht] at h1
        cases h1
    have h := hend _ w hst hd'
    have hcons : l.drop sp.length = om :: l.drop (sp.length + 1) := by
      obtain ⟨hl, he⟩ := List.getElem?_eq_some_iff.1 hom
      rw [← he]
      exact (List.getElem_cons_drop hl).symm
    rw [hcons] at h
    have hput : (A us).put of.dst v = A (upd us (some df) v) := by
      rw [← hA us, hd2, over_put (fun t ht => by cases ht; exact hdf), hA]
    have hrest : ∀ a w, wpOps P l.toArray Q (List.range' (sp.length + 1) (l.length - (sp.length + 1))) a w = wpList P l.toArray Q (l.drop (sp.length + 1)) a w := by
      intro a w
      have e := wpOps_eq_wpList (P := P) (ops := l.toArray) (Q := Q) (l.drop (sp.length + 1)) (sp.length + 1) (fun j => by simp [List.getElem?_drop])
      rw [List.length_drop] at e
      rw [e]
    have hx' := (hxy us v).1
    have hy' := (hxy us v).2
    have hex : execOp (A us).eval om = execOp (A (upd us (some df) v)).eval om := by
      unfold execOp
      simp only [ho1, hx', hy']
    have hom' : l.toArray[sp.length]? = some om := by simpa using hom
    have hof' : l.toArray[f]? = some of := by simpa using hof
    unfold wpList at h
    rw [if_pos (by simp [Region.wanted, hg1])] at h
    rw [wpOps_cons]
    unfold wpOp
    rw [hom']
    simp only
    rw [if_pos (by simp [Region.wanted, hg1])]
    rcases h with h | ⟨h, hq⟩
    · refine Or.inl ?_
      rw [wp_store_eq ty x y ho1 g cells (hx'.trans e1) (hy'.trans e2) t old e3 e4 e5 e6, hd1] at h
      rw [wp_store_eq ty x y ho1 g cells e1 e2 t old e3 e4 e5 e6, hd1]
      show wpOps P l.toArray Q (f :: _) (A us) _
      rw [wpOps_cons]
      unfold wpOp
      rw [hof']
      simp only
      rw [if_pos (by simp [Region.wanted, hg2])]
      refine Or.inl ?_
      unfold Oper.wp
      rw [hv]
      show wpOps P l.toArray Q _ ((A us).put of.dst v) _
      rw [hput, hrest]
      exact h
    · refine Or.inr ⟨?_, hq⟩
      unfold Oper.asks at h ⊢
      rw [hex]
      exact h

end Go.Proofs.YtlcglclojlffgaaGreatDoor
namespace Go.Proofs.YtlcglclojlffgaaGreatDoor
open Go.RowKit

theorem put_comm2 (a : Act) (i j : Nat) (u v : Value) (h : i ≠ j) : (a.put (some i) u).put (some j) v = (a.put (some j) v).put (some i) u := by
  cases a with
  | mk tmps defers =>
    simp only [Act.put]
    rw [Array.setIfInBounds_comm _ _ h]
/-- **A REGION THAT DRAWS ITS ORDER, ITS TAIL THE SETTING OF A SLOT BEHIND WHICH ONE OPERATION OF THE HEAD MAY COME.** -/
theorem wp_region_rsA {P : Program} {id : Nat} {l : List Oper} {Q : Exit → Act → World → Prop} {a0 : Act} {w0 : World} (f : Nat) (ds : List Nat) (A : (Nat → Value) → Act) {Keep : World → World → Prop} (sp : List (Sp Keep)) (St : World → Prop)
    (om of : Oper) (x : Operand) (df dm : Nat)
    (hmix : P.follows .mixedOrders = true) (hB : rgOkF l.toArray sp.length f ds (supOf l) = true) (hA : ∀ us, over a0 ds us = A us) (h0 : St w0.drew) (hrefl : ∀ w, Keep w w)
    (hom : l[sp.length]? = some om) (hof : l[f]? = some of) (hg1 : om.guard = none) (hd1 : om.dst = some dm) (ho1 : om.op = .assign x) (hg2 : of.guard = none) (hd2 : of.dst = some df) (hne : df ≠ dm)
    (hnd : ((List.range sp.length).all fun j => j == f || !(supOf l j).contains df) = true) (hdf : ds.contains df = true)
    (hxy : ∀ us v, (A (upd us (some df) v)).eval x = (A us).eval x)
    (hall : rsAll P l A sp St (l.take sp.length) sp)
    (hfl : ∀ us w, St w → (∀ j, j < sp.length → j ≠ f → depHolds l sp us w j) → ∃ v, (∀ u w', (execOp ((A us).put (some dm) u).eval of).run P w' = .ok (.value v) w') ∧ depHolds l sp (upd us (some df) v) w f)
    (hend : ∀ us w, St w → (∀ j, j < sp.length → depHolds l sp us w j) → wpList P l.toArray Q (l.drop sp.length) (A us) w) : (Code.region id l.toArray true).wp P Q a0 w0 := by
  have hm : sp.length ≤ l.length := Nat.le_of_lt (List.getElem?_eq_some_iff.1 hom).1
  refine wp_region_rgF sp.length f ds (supOf l) A (fun i us w => depHolds l sp us w i) St Keep hmix hB hA h0 hrefl (fun j us w w' _ hk h => depHolds_kept hk h) (fun j us us' w _ he h => depHolds_sup he h) ?_ hend ?_
  · refine rg_of_rs _ _ 0 (by rw [List.length_take]; omega) (fun j hj => ?_) (fun j hj => ?_) (fun j _ => by simp) hall
    · have : j < (l.take sp.length).length := by
        apply Classical.byContradiction
        intro h
        rw [List.getElem?_eq_none (by omega)] at hj; cases hj
      rw [List.length_take] at this
      rw [Nat.zero_add, List.getElem?_take, if_pos (by omega)]
    · rw [List.length_take] at hj
      rw [Nat.zero_add, List.getElem?_take, if_pos (by omega)]
  · intro us w hst hd
    obtain ⟨v, hv, hvf⟩ := hfl us w hst hd
    have hd' : ∀ j, j < sp.length → depHolds l sp (upd us (some df) v) w j := by
      intro j hj
      by_cases e : j = f
      · subst e; exact hvf
      · refine depHolds_sup (fun t ht => ?_) (hd j hj e)
        have h1 := List.all_eq_true.1 hnd j (List.mem_range.2 hj)
        simp only [Bool.or_eq_true, beq_iff_eq, Bool.not_eq_true', e, false_or] at h1
        symm
        refine upd_ne (fun ht2 => ?_)
        obtain rfl := Option.some.inj ht2
        rw [List.contains_iff_mem.2 ht] at h1
        cases h1
    have h := hend _ w hst hd'
    have hcons : l.drop sp.length = om :: l.drop (sp.length + 1) := by
      obtain ⟨hl, he⟩ := List.getElem?_eq_some_iff.1 hom
      rw [← he]
      exact (List.getElem_cons_drop hl).symm
    rw [hcons] at h
    have hput : (A us).put of.dst v = A (upd us (some df) v) := by
      rw [← hA us, hd2, over_put (fun t ht => by cases ht; exact hdf), hA]
    have hrest : ∀ a w, wpOps P l.toArray Q (List.range' (sp.length + 1) (l.length - (sp.length + 1))) a w = wpList P l.toArray Q (l.drop (sp.length + 1)) a w := by
      intro a w
      have e := wpOps_eq_wpList (P := P) (ops := l.toArray) (Q := Q) (l.drop (sp.length + 1)) (sp.length + 1) (fun j => by simp [List.getElem?_drop])
      rw [List.length_drop] at e
      rw [e]
    have hx' := hxy us v
    have hrun : ∀ (a : Act) (w : World), (execOp a.eval om).run P w = .ok (.value (a.eval x)) w := by
      intro a w
      unfold execOp
      simp only [ho1]
      rfl
    have hom' : l.toArray[sp.length]? = some om := by simpa using hom
    have hof' : l.toArray[f]? = some of := by simpa using hof
    unfold wpList at h
    rw [if_pos (by simp [Region.wanted, hg1])] at h
    rw [wpOps_cons]
    unfold wpOp
    rw [hom']
    simp only
    rw [if_pos (by simp [Region.wanted, hg1])]
    rcases h with h | ⟨h, hq⟩
    · refine Or.inl ?_
      unfold Oper.wp at h ⊢
      rw [hrun] at h ⊢
      rw [hx'] at h
      show wpOps P l.toArray Q (f :: _) ((A us).put om.dst _) _
      rw [wpOps_cons]
      unfold wpOp
      rw [hof']
      simp only
      rw [if_pos (by simp [Region.wanted, hg2])]
      refine Or.inl ?_
      unfold Oper.wp
      rw [hd1, hv]
      show wpOps P l.toArray Q _ (((A us).put (some dm) _).put of.dst v) _
      rw [hd2, put_comm2 _ _ _ _ _ hne.symm, ← hd2, hput, hrest]
      have h2 : wpList P l.toArray Q (l.drop (sp.length + 1)) ((A (upd us (some df) v)).put om.dst ((A us).eval x)) w := h
      rw [hd1] at h2
      exact h2
    · refine Or.inr ⟨?_, hq⟩
      have hex : execOp (A us).eval om = execOp (A (upd us (some df) v)).eval om := by
        unfold execOp
        simp only [ho1, hx']
      unfold Oper.asks at h ⊢
      rw [hex]
      exact h

end Go.Proofs.YtlcglclojlffgaaGreatDoor
namespace Go.Proofs.YtlcglclojlffgaaGreatDoor
open Go.RowKit

/-- two polynomials of the region's own, in a pair -/
def QRV (B : Nat) (u v : List Nat) (x : Value) (W : World) : Prop := ∃ a c a' c', x = .tuple #[.slice a u.length c, .slice a' v.length c'] ∧ OwnI W B (.slice a u.length c) (natI u) ∧ OwnI W B (.slice a' v.length c') (natI v)
def spQR (B : Nat) (u v : List Nat) : Sp KB := ⟨QRV B u v, fun _ _ _ hk ⟨a, c, a', c', e, h1, h2⟩ => ⟨a, c, a', c', e, h1.grown hk, h2.grown hk⟩⟩
theorem own_nat {W : World} {B : Nat} {v : Value} {l : List Nat} (h : OwnI W B v (natI l)) : (spOwn B (natI l)).holds v W := h

end Go.Proofs.YtlcglclojlffgaaGreatDoor
namespace Go.Proofs.YtlcglclojlffgaaGreatDoor

/-- how many data elements a block has; how many the blocks before it have -/
def shN (data cnt b : Nat) : Nat := data / cnt + if cnt - data % cnt ≤ b then 1 else 0
def frN (data cnt b : Nat) : Nat := b * (data / cnt) + (b - (cnt - data % cnt))
theorem frN_zero (data cnt : Nat) : frN data cnt 0 = 0 := by simp [frN]
theorem frN_step (data cnt b : Nat) : frN data cnt (b + 1) = frN data cnt b + shN data cnt b := by
  unfold frN shN
  rw [Nat.add_mul, Nat.one_mul]
  split <;> omega
theorem frN_all (data cnt : Nat) (h : 1 ≤ cnt) : frN data cnt cnt = data := by
  unfold frN
  have h1 := Nat.div_add_mod data cnt
  have h2 := Nat.mod_lt data (show 0 < cnt by omega)
  omega
theorem frN_mono (data cnt : Nat) : ∀ (b c : Nat), b ≤ c → frN data cnt b ≤ frN data cnt c
  | b, c, h => by
    obtain ⟨d, rfl⟩ := Nat.exists_eq_add_of_le h
    induction d with
    | zero => exact Nat.le_refl _
    | succ d ih =>
      have := frN_step data cnt (b + d)
      have := ih (by omega)
      rw [← Nat.add_assoc]
      omega
theorem shN_mono (data cnt : Nat) {b c : Nat} (h : b ≤ c) : shN data cnt b ≤ shN data cnt c := by
  unfold shN; repeat' split
  all_goals omega
theorem shN_le (data cnt b : Nat) (h : 1 ≤ cnt) (hb : b < cnt) : shN data cnt b ≤ data := by
  have h1 := frN_step data cnt b
  have h2 := frN_mono data cnt (b + 1) cnt hb
  rw [frN_all data cnt h] at h2
  omega
theorem shN_pos (data cnt b : Nat) (h : 1 ≤ cnt) (hd : cnt ≤ data) : 1 ≤ shN data cnt b := by
  have := Nat.div_pos hd (by omega)
  unfold shN; omega
theorem share_nat (d c n b : Nat) (hn : 1 ≤ n) : Lay.share ⟨d, c, n⟩ b = (shN d n b : Nat) := by
  have h := Nat.mod_lt d (show 0 < n by omega)
  simp only [Lay.share, shN]
  have e1 : ((d : Int) / (n : Int)) = ((d / n : Nat) : Int) := by push_cast; rfl
  have e2 : ((d : Int) % (n : Int)) = ((d % n : Nat) : Int) := by push_cast; rfl
  rw [e1, e2]
  push_cast
  congr 1
  by_cases hb : n - d % n ≤ b
  · rw [if_pos hb, if_pos (by omega)]; rfl
  · rw [if_neg hb, if_neg (by omega)]; rfl

/-- a row of data elements: the first m blocks; all rows; the checks -/
def ordR (sh : Nat → Nat) (e m : Nat) : List (Nat × Nat) := ((List.range m).filter fun b => decide (e < sh b)).map fun b => (b, e)
def ordD (sh : Nat → Nat) (cnt n : Nat) : List (Nat × Nat) := (List.range n).flatMap fun e => ordR sh e cnt
def ordS (sh : Nat → Nat) (e m : Nat) : List (Nat × Nat) := (List.range m).map fun b => (b, sh b + e)
def ordE (sh : Nat → Nat) (cnt n : Nat) : List (Nat × Nat) := (List.range n).flatMap fun e => ordS sh e cnt
/-- the blocks and elements of the stream, in order -/
def ordC (sh : Nat → Nat) (cnt chk : Nat) : List (Nat × Nat) := ordD sh cnt (sh (cnt - 1)) ++ ordE sh cnt chk
theorem ordR_yes {sh : Nat → Nat} {e m : Nat} (h : e < sh m) : ordR sh e (m + 1) = ordR sh e m ++ [(m, e)] := by
  unfold ordR
  rw [List.range_succ, List.filter_append, List.map_append]
  simp [h]
theorem ordR_no {sh : Nat → Nat} {e m : Nat} (h : ¬ e < sh m) : ordR sh e (m + 1) = ordR sh e m := by
  unfold ordR
  rw [List.range_succ, List.filter_append, List.map_append]
  simp [h]
theorem ordD_step (sh : Nat → Nat) (cnt n : Nat) : ordD sh cnt (n + 1) = ordD sh cnt n ++ ordR sh n cnt := by
  unfold ordD
  rw [List.range_succ, List.flatMap_append]
  simp
theorem ordS_step (sh : Nat → Nat) (e m : Nat) : ordS sh e (m + 1) = ordS sh e m ++ [(m, sh m + e)] := by
  unfold ordS
  rw [List.range_succ, List.map_append]
  rfl
theorem ordE_step (sh : Nat → Nat) (cnt n : Nat) : ordE sh cnt (n + 1) = ordE sh cnt n ++ ordS sh n cnt := by
  unfold ordE
  rw [List.range_succ, List.flatMap_append]
  simp
theorem ordR_nil {sh : Nat → Nat} {e cnt : Nat} (hm : ∀ b, b < cnt → sh b ≤ e) : ordR sh e cnt = [] := by
  unfold ordR
  rw [List.filter_eq_nil_iff.2]
  · rfl
  · intro b hb
    have := hm b (by simpa using hb)
    simp; omega
/-- more rows than the longest block has are empty -/
theorem ordD_more {sh : Nat → Nat} {cnt n : Nat} (hm : ∀ b, b < cnt → sh b ≤ n) : ∀ d, ordD sh cnt (n + d) = ordD sh cnt n
  | 0 => rfl
  | d + 1 => by
    rw [← Nat.add_assoc, ordD_step, ordD_more hm d, ordR_nil (fun b hb => by have := hm b hb; omega), List.append_nil]
theorem ordR_len (sh : Nat → Nat) (e m : Nat) : (ordR sh e m).length ≤ m := by
  unfold ordR
  rw [List.length_map]
  refine Nat.le_trans (List.length_filter_le _ _) ?_
  simp
theorem ordD_len (sh : Nat → Nat) (cnt : Nat) : ∀ n, (ordD sh cnt n).length ≤ n * cnt
  | 0 => by simp [ordD]
  | n + 1 => by
    rw [ordD_step, List.length_append, Nat.add_mul, Nat.one_mul]
    have := ordD_len sh cnt n
    have := ordR_len sh n cnt
    omega
theorem ordE_len (sh : Nat → Nat) (cnt : Nat) : ∀ n, (ordE sh cnt n).length = n * cnt
  | 0 => by simp [ordE]
  | n + 1 => by
    rw [ordE_step, List.length_append, Nat.add_mul, Nat.one_mul, ordE_len sh cnt n]
    simp [ordS]
/-- each of them names a block and an element of its word -/
theorem ordC_in {sh : Nat → Nat} {cnt chk : Nat} {p : Nat × Nat} (h : p ∈ ordC sh cnt chk) : p.1 < cnt ∧ p.2 < sh p.1 + chk := by
  rcases List.mem_append.1 h with h | h
  · obtain ⟨e, _, h2⟩ := List.mem_flatMap.1 h
    obtain ⟨b, hb, rfl⟩ := List.mem_map.1 h2
    rw [List.mem_filter] at hb
    have h3 := hb.2
    have h4 : b < cnt := by simpa using hb.1
    simp at h3
    exact ⟨h4, by show e < sh b + chk; omega⟩
  · obtain ⟨e, he, h2⟩ := List.mem_flatMap.1 h
    obtain ⟨b, hb, rfl⟩ := List.mem_map.1 h2
    rw [List.mem_range] at hb he
    exact ⟨hb, by show sh b + e < sh b + chk; omega⟩

/-- the word of a block; the stream of some data -/
def wordC (F : Fd) (data cnt chk : Nat) (xs : List Nat) (b : Nat) : List Nat :=
  encW F (shN data cnt b + chk) chk ((xs.drop (frN data cnt b)).take (shN data cnt b))
def strC (F : Fd) (data cnt chk : Nat) (xs : List Nat) : List Nat :=
  (ordC (shN data cnt) cnt chk).map fun p => co (wordC F data cnt chk xs p.1) p.2

end Go.Proofs.YtlcglclojlffgaaGreatDoor
namespace Go.Proofs.YtlcglclojlffgaaGreatDoor
open Go.RowKit Go.Shelf
attribute [local go_sem] Oper.semAt_some

/-- a layout in a box -/
def LayAt (W : World) (b : Nat) (p k g d c n : Int) : Prop := W.heap[b]? = some (.cells #[.int .i64 p, .int .i64 k, .int .i64 g, .int .i64 d, .int .i64 c, .int .i64 n] 146 (0, 0))
/-- a block and an element as values -/
abbrev encP (x : Nat × Nat) : Array Value := #[.int .i64 (x.1 : Int), .int .i64 (x.2 : Int)]
/-- the rounds keep the layout's box -/
def KpL (b : Nat) (W W' : World) : Prop := W'.heap[b]? = W.heap[b]?
theorem below_grown {W W' : World} (hb : Below W.heap.size W W') : W.grownBy W' none := ⟨hb.os, hb.tape, hb.output, hb.size, fun k hk _ => hb.block k hk⟩
theorem ordD_pre {sh : Nat → Nat} {cnt n e m : Nat} (chk : Nat) (he : e < n) (hn : n = sh (cnt - 1)) (hm : m ≤ cnt) : ordD sh cnt e ++ ordR sh e m <+: ordC sh cnt chk := by
  subst hn
  have h1 : ordR sh e m <+: ordR sh e cnt := by
    unfold ordR
    obtain ⟨d, rfl⟩ := Nat.exists_eq_add_of_le hm
    rw [List.range_add, List.filter_append, List.map_append]
    exact List.prefix_append _ _
  have h2 : ordD sh cnt (e + 1) <+: ordD sh cnt (sh (cnt - 1)) := by
    obtain ⟨d, hd⟩ := Nat.exists_eq_add_of_le (show e + 1 ≤ sh (cnt - 1) from he)
    rw [hd]
    unfold ordD
    rw [List.range_add (n := e + 1), List.flatMap_append]
    exact List.prefix_append _ _
  rw [ordD_step] at h2
  exact (List.prefix_append_right_inj _ |>.2 h1).trans (h2.trans (List.prefix_append _ _))
theorem ordE_pre {sh : Nat → Nat} {cnt chk e m : Nat} (he : e < chk) (hm : m ≤ cnt) : ordD sh cnt (sh (cnt - 1)) ++ (ordE sh cnt e ++ ordS sh e m) <+: ordC sh cnt chk := by
  unfold ordC
  refine List.prefix_append_right_inj _ |>.2 ?_
  have h1 : ordS sh e m <+: ordS sh e cnt := by
    unfold ordS
    obtain ⟨d, rfl⟩ := Nat.exists_eq_add_of_le hm
    rw [List.range_add, List.map_append]
    exact List.prefix_append _ _
  have h2 : ordE sh cnt (e + 1) <+: ordE sh cnt chk := by
    obtain ⟨d, hd⟩ := Nat.exists_eq_add_of_le (show e + 1 ≤ chk from he)
    rw [hd]
    unfold ordE
    rw [List.range_add (n := e + 1), List.flatMap_append]
    exact List.prefix_append _ _
  rw [ordE_step] at h2
  exact (List.prefix_append_right_inj _ |>.2 h1).trans h2
theorem pre_lt {α : Type} {a b : List α} {x : α} (h : a ++ [x] <+: b) : a.length < b.length := by
  have := h.length_le
  rw [List.length_append, List.length_singleton] at this
  omega
/-- an iterator over the elements of a list: the loop's body need stand for those alone -/
def SeqMem {α : Type} (F : Fence) (n : Nat) (P : Program) (g : Nat) (lb : Array Value) (encs : α → Array Value) (Kp : World → World → Prop) (all : List α) (w : World) : Prop :=
  ∀ (l : Nat) (J Jx : List α → World → Prop) (W : World), Below w.heap.size w W → AbidesFrom W.heap.size J → AbidesFrom W.heap.size Jx →
    (∀ pre x W1, J pre W1 → x ∈ all → pre.length < all.length → YieldAt F (n - 1) P l (encs x) W1 fun e W' =>
      (e = .returned (.bool true) ∧ J (pre ++ [x]) W' ∧ Kp W1 W') ∨ (e = .returned (.bool false) ∧ Jx (pre ++ [x]) W')) →
    J [] W →
    CallsIn F n P g (#[.func (.yield l) #[] #[]] ++ lb) W fun e W' => (∃ v, e = .returned v) ∧ ((∃ xs, xs = all ∧ J xs W') ∨ (∃ pre, pre <+: all ∧ Jx pre W'))
theorem SeqMem.sub {α : Type} {F : Fence} {n : Nat} {P : Program} {g : Nat} {lb : Array Value} {encs : α → Array Value} {Kp : World → World → Prop} {all : List α} {w : World} (h : SeqMem F n P g lb encs Kp all w) :
    SeqStopsK F n P g lb (fun x : { x : α // x ∈ all } => encs x.1) Kp (fun xs => xs.map (·.1) = all) (fun _ => True) all.length w := fun l J Jx W hW hJ hJx hY h0 => by
  refine (h l (fun xs W => ∃ ys : List { x : α // x ∈ all }, ys.map (·.1) = xs ∧ J ys W) (fun xs W => ∃ ys : List { x : α // x ∈ all }, ys.map (·.1) = xs ∧ Jx ys W) W hW ?_ ?_ ?_ ⟨[], rfl, h0⟩).mono ?_
  · rintro s A B row ⟨ys, e, hs⟩ hg hr
    exact ⟨ys, e, hJ _ _ _ _ hs hg hr⟩
  · rintro s A B row ⟨ys, e, hs⟩ hg hr
    exact ⟨ys, e, hJx _ _ _ _ hs hg hr⟩
  · rintro pre x W1 ⟨ys, rfl, hs⟩ hx hl
    obtain ⟨fn, tmps, assign, body, hy, hR⟩ := hY ys ⟨x, hx⟩ W1 hs (by simpa using hl)
    refine ⟨fn, tmps, assign, body, hy, hR.mono ?_⟩
    rintro e W' (⟨he, hj, hk⟩ | ⟨he, hj⟩)
    · exact .inl ⟨he, ⟨_, by simp, hj⟩, hk⟩
    · exact .inr ⟨he, _, by simp, hj⟩
  · rintro e W' ⟨hv, (⟨xs, rfl, ys, e, hj⟩ | ⟨pre, _, ys, e, hj⟩)⟩
    · exact ⟨hv, .inl ⟨ys, e, hj⟩⟩
    · exact ⟨hv, .inr ⟨ys, trivial, hj⟩⟩
end Go.Proofs.YtlcglclojlffgaaGreatDoor
namespace Go.Proofs.YtlcglclojlffgaaGreatDoor
open Go.RowKit Go.Shelf

theorem order_at {p k g d c n : Int} {w : World} : LayAt (w.alloc (.cells #[.int .i64 p, .int .i64 k, .int .i64 g, .int .i64 d, .int .i64 c, .int .i64 n] 146 (0, 0))) w.heap.size p k g d c n := World.alloc_heap_new _ _

end Go.Proofs.YtlcglclojlffgaaGreatDoor
namespace Go.Proofs.YtlcglclojlffgaaGreatDoor
open Go.RowKit

/-- what a valid layout's numbers are -/
theorem lay_facts {d c n q : Nat} (h : Lay.ok ⟨d, c, n⟩ q = true) : 1 ≤ n ∧ n ≤ 16 ∧ n ≤ d ∧ d ≤ 1500 ∧ 1 ≤ c ∧ c ≤ 64 ∧ d + n * c ≤ 1500 ∧ ∀ b, b < n → shN d n b + c ≤ 255 ∧ shN d n b + c < q ∧ 1 ≤ shN d n b ∧ frN d n b + shN d n b ≤ d := by
  simp only [Lay.ok, Bool.and_eq_true, decide_eq_true_eq, Lay.total, codB] at h
  obtain ⟨⟨⟨⟨⟨⟨⟨⟨h1, h2⟩, h3⟩, h4⟩, h5⟩, h6⟩, h7⟩, h8⟩, h9⟩ := h
  have hn : 1 ≤ n := by omega
  rw [show (n : Int) - 1 = ((n - 1 : Nat) : Int) by omega, share_nat d c n (n - 1) hn] at h9
  refine ⟨hn, by omega, by omega, by omega, by omega, by omega, ?_, fun b hb => ?_⟩
  · have : ((d + n * c : Nat) : Int) ≤ 1500 := by push_cast; exact of_decide_eq_true h7
    omega
  · have hm := shN_mono d n (show b ≤ n - 1 by omega)
    have hp := shN_pos d n b hn (by omega)
    have hs := frN_step d n b
    have hf := frN_mono d n (b + 1) n hb
    rw [frN_all d n hn] at hf
    omega

theorem infoSl : (Tryz.prog.info? 67).map (fun i => (i.zero, i.size, i.bytes)) = some (some (.slice none 0 0), 1, 24) := by kernel_rfl
theorem make_ws (n : Nat) (hn : n ≤ 100000) (w : World) :
    (Instr.makeSlice 38 (.int .i64 (n : Int)) (.int .i64 (n : Int))).run Tryz.prog w = .ok (.slice (some ⟨w.heap.size, 0, none⟩) n n) (w.alloc (.cells (madeCells #[.slice none 0 0] n) 67)) := by
  obtain ⟨i0, hi, hz0, hz1, hz2⟩ := info_parts infoSl
  have := run_make (P := Tryz.prog) w 38 67 i0 _ Tryz.underlying38 hi hz0 .i64 .i64 n n (by omega) (Int.le_refl _) (by rw [hz2]; omega) (by omega)
  rw [hz1] at this
  simpa [Value.cells] using this

/-- a word in a cell of the row g -/
def WdV (g : Nat) (wd : List Nat) (v : Value) (W : World) : Prop := ∃ a c, v = .slice a wd.length c ∧ IntsAt W a (natI wd) ∧ ∀ ad, a = some ad → ad.block ≠ g
/-- a row of words: the first k are laid -/
def WsAt (W : World) (g n k : Nat) (wd : Nat → List Nat) : Prop := ∃ C t, W.heap[g]? = some (.cells C t (0, 0)) ∧ C.size = n ∧ ∀ i, i < k → ∃ v, C[i]? = some v ∧ WdV g (wd i) v W
theorem WdV.below {g : Nat} {wd : List Nat} {v : Value} {W W' : World} (h : WdV g wd v W) (hb : Below W.heap.size W W') : WdV g wd v W' := by
  obtain ⟨a, c, e, hi, hne⟩ := h
  exact ⟨a, c, e, hi.below hb, hne⟩
theorem WsAt.below {W W' : World} {g n k : Nat} {wd : Nat → List Nat} (h : WsAt W g n k wd) (hb : Below W.heap.size W W') : WsAt W' g n k wd := by
  obtain ⟨C, t, h1, h2, h3⟩ := h
  exact ⟨C, t, blkK hb h1, h2, fun i hi => by obtain ⟨v, e, hv⟩ := h3 i hi; exact ⟨v, e, hv.below hb⟩⟩
theorem WsAt.new (w : World) (n : Nat) (wd : Nat → List Nat) : WsAt (w.alloc (.cells (madeCells #[.slice none 0 0] n) 67)) w.heap.size n 0 wd :=
  ⟨_, _, push_at _ _, size_madeCells _ _, fun i hi => absurd hi (by omega)⟩
theorem WsAt.lt {W : World} {g n k : Nat} {wd : Nat → List Nat} (h : WsAt W g n k wd) : g < W.heap.size := by
  obtain ⟨C, t, h1, h2, h3⟩ := h
  exact blkLt h1
theorem WdV.store {g : Nat} {wd : List Nat} {v u : Value} {W : World} {i : Nat} (h : WdV g wd v W) : WdV g wd v (W.setCell ⟨g, i, none⟩ u) := by
  obtain ⟨a, c, e, hi, hne⟩ := h
  refine ⟨a, c, e, fun j hj => ?_, hne⟩
  obtain ⟨b, o, ha, hc⟩ := hi j hj
  refine ⟨b, o, ha, ?_⟩
  rw [World.cell?_setCell_other _ _ _ _ (by have := hne _ ha; intro e; rw [Addr.mk.injEq] at e; exact this e.1.symm)]
  exact hc
theorem WsAt.store {W : World} {g n k : Nat} {wd : Nat → List Nat} {v : Value} (h : WsAt W g n k wd) (hk : k < n) (hv : WdV g (wd k) v W) : WsAt (W.setCell ⟨g, k, none⟩ v) g n (k + 1) wd := by
  obtain ⟨C, t, h1, h2, h3⟩ := h
  refine ⟨_, t, setCell_blk h1 _ _, by simp [h2], fun i hi => ?_⟩
  by_cases e : i = k
  · subst e
    exact ⟨v, by rw [Array.getElem?_setIfInBounds_self_of_lt (by omega)], hv.store⟩
  · obtain ⟨v', e', hv'⟩ := h3 i (by omega)
    exact ⟨v', by rw [Array.getElem?_setIfInBounds_ne (by omega)]; exact e', hv'.store⟩
/-- a place of the row is there -/
theorem WsAt.place {W : World} {g n k : Nat} {wd : Nat → List Nat} (h : WsAt W g n k wd) {i : Nat} (hi : i < n) : ∃ v, W.cell? ⟨g, i, none⟩ = some v ∧ W.frozen? ⟨g, i, none⟩ = false := by
  obtain ⟨C, t, h1, h2, h3⟩ := h
  obtain ⟨hc, hf⟩ := heap_cellR h1
  exact ⟨C[i]'(by omega), by rw [hc]; exact Array.getElem?_eq_getElem (by omega), hf i⟩
/-- a word is read -/
theorem WsAt.word {W : World} {g n k : Nat} {wd : Nat → List Nat} (h : WsAt W g n k wd) {i : Nat} (hi : i < k) : ∃ a c, W.cell? ⟨g, i, none⟩ = some (.slice a (wd i).length c) ∧ IntsAt W a (natI (wd i)) := by
  obtain ⟨C, t, h1, h2, h3⟩ := h
  obtain ⟨hc, hf⟩ := heap_cellR h1
  obtain ⟨v, e, a, c, rfl, hI, _⟩ := h3 i hi
  exact ⟨a, c, by rw [hc]; exact e, hI⟩
theorem IntsAt.grownBy {W W' : World} {a : Option Addr} {zs : List Int} {row : Option Nat} (h : IntsAt W a zs) (hg : W.grownBy W' row) (hr : ∀ r, row = some r → ∃ o : Obj, W.heap[r]? = some o ∧ o.isCells = false) : IntsAt W' a zs := by
  intro i hi
  obtain ⟨b, o, ha, hc⟩ := h i hi
  exact ⟨b, o, ha, cell_kept hc hg hr⟩
theorem blk_grownBy {W W' : World} {row : Option Nat} {b : Nat} {C : Array Value} {t : TypeId} {fz : Nat × Nat} (h : W.heap[b]? = some (.cells C t fz)) (hg : W.grownBy W' row) (hr : ∀ r, row = some r → ∃ o : Obj, W.heap[r]? = some o ∧ o.isCells = false) : W'.heap[b]? = some (.cells C t fz) := by
  refine (hg.block b (blkLt h) fun e => ?_).trans h
  obtain ⟨o, h1, h2⟩ := hr b e.symm
  rw [h] at h1
  cases h1
  cases h2
theorem WsAt.grownBy {W W' : World} {g n k : Nat} {wd : Nat → List Nat} {row : Option Nat} (h : WsAt W g n k wd) (hg : W.grownBy W' row) (hr : ∀ r, row = some r → ∃ o : Obj, W.heap[r]? = some o ∧ o.isCells = false) : WsAt W' g n k wd := by
  obtain ⟨C, t, h1, h2, h3⟩ := h
  refine ⟨C, t, blk_grownBy h1 hg hr, h2, fun i hi => ?_⟩
  obtain ⟨v, e, a, c, e2, hI, hne⟩ := h3 i hi
  exact ⟨v, e, a, c, e2, hI.grownBy hg hr, hne⟩
theorem IntsAt.dropN {w : World} {b o : Nat} {zs : List Nat} (h : IntsAt w (some ⟨b, o, none⟩) (natI zs)) (k : Nat) : IntsAt w (some ⟨b, o + k, none⟩) (natI (zs.drop k)) := by
  intro i hi
  have hl : k + i < (natI zs).length := by simp [natI] at hi ⊢; omega
  obtain ⟨b', o', ha, hc⟩ := h (k + i) hl
  cases ha
  refine ⟨b, o + k, rfl, ?_⟩
  rw [Nat.add_assoc, hc]
  simp [natI]
theorem OwnI.grownBy {W W' : World} {base : Nat} {v : Value} {zs : List Int} {row : Option Nat} (h : OwnI W base v zs) (hg : W.grownBy W' row) (hr : ∀ r, row = some r → ∃ o : Obj, W.heap[r]? = some o ∧ o.isCells = false) : OwnI W' base v zs := by
  refine h.other hg fun k hk e => ?_
  obtain ⟨o, h1, h2⟩ := hr k e
  rcases h.2 with ⟨rfl, _⟩ | ⟨g, cap, cur, rfl, _, hgc, _⟩
  · cases hk
  · cases hk
    rw [hgc] at h1
    cases h1
    cases h2
theorem OwnI.notAt {w : World} {base g n c : Nat} {a : Option Addr} {zs : List Int} (h : OwnI w base (.slice a n c) zs) (hg : g < base) : ∀ ad, a = some ad → ad.block ≠ g := fun ad e => by
  subst e
  have := h.lo ad.block rfl
  omega

theorem own_cap {w : World} {base n c : Nat} {a : Option Addr} {zs : List Int} (h : OwnI w base (.slice a n c) zs) : zs.length ≤ c := by
  rcases h.2 with ⟨h1, h2⟩ | ⟨g, cap, cur, h1, hg, _, h3, _⟩
  · omega
  · simp only [Value.slice.injEq] at h1; omega

end Go.Proofs.YtlcglclojlffgaaGreatDoor
namespace Go.Proofs.YtlcglclojlffgaaGreatDoor
open Go.RowKit

/-- a block and an element, in a slice of two -/
def PrAt (W : World) (x : Nat × Nat) (v : Value) : Prop := ∃ b, v = .slice (some ⟨b, 0, none⟩) 2 2 ∧ W.heap[b]? = some (.cells #[.int .i64 (x.1 : Int), .int .i64 (x.2 : Int)] 2 (0, 0))
/-- rows of pairs of the call's own -/
def PrsOwn (W : World) (base : Nat) (v : Value) (ps : List (Nat × Nat)) : Prop := ∃ vs : List Value, vs.length = ps.length ∧ W.ownsRow base 67 1 v ps.length vs ∧ ∀ (i : Nat) (x : Nat × Nat), ps[i]? = some x → ∃ u, vs[i]? = some u ∧ PrAt W x u
theorem PrAt.below {W W' : World} {x : Nat × Nat} {v : Value} (h : PrAt W x v) (hb : Below W.heap.size W W') : PrAt W' x v := by
  obtain ⟨b, e, hg⟩ := h
  exact ⟨b, e, blkK hb hg⟩
theorem owns_type {W : World} {base : Nat} {t : TypeId} {k n : Nat} {v : Value} {vs : List Value} (h : W.ownsRow base t k v n vs) {b : Nat} {C : Array Value} {t' : TypeId} {fz : Nat × Nat} (hg : W.heap[b]? = some (.cells C t' fz)) (ht : t' ≠ t) : v.ownBlock ≠ some b := by
  rcases h.2 with ⟨rfl, h0⟩ | ⟨g, cap, cur, rfl, hb, hg2, r⟩
  · intro e; cases e
  · intro e
    obtain rfl := Option.some.inj e
    rw [hg] at hg2
    injection hg2 with hc
    injection hc with _ hc
    exact ht hc
theorem PrAt.grownBy {W W' : World} {base : Nat} {t : TypeId} {k n : Nat} {s v : Value} {vs : List Value} {x : Nat × Nat} (h : PrAt W x v) (ho : W.ownsRow base t k s n vs) (hg : W.grownBy W' s.ownBlock) (ht : 2 ≠ t) : PrAt W' x v := by
  obtain ⟨b, e, hb⟩ := h
  exact ⟨b, e, (hg.block b (blkLt hb) (fun e' => owns_type ho hb ht e'.symm)).trans hb⟩
theorem PrsOwn.grown {W W' : World} {base : Nat} {v : Value} {ps : List (Nat × Nat)} (h : PrsOwn W base v ps) (hb : Below W.heap.size W W') : PrsOwn W' base v ps := by
  obtain ⟨vs, h1, h2, h3⟩ := h
  exact ⟨vs, h1, h2.kept (row := none) ⟨hb.os, hb.tape, hb.output, hb.size, fun k hk _ => hb.block k hk⟩ (by
    cases hv : v.ownBlock with
    | none => exact Or.inl rfl
    | some k => exact Or.inr (fun e => by cases e)), fun i x hx => by
    obtain ⟨u, hu, hp⟩ := h3 i x hx
    exact ⟨u, hu, hp.below hb⟩⟩
theorem PrsOwn.weak {W : World} {base base' : Nat} {v : Value} {ps : List (Nat × Nat)} (h : PrsOwn W base v ps) (hb : base' ≤ base) : PrsOwn W base' v ps := by
  obtain ⟨vs, h1, ⟨h2, h4⟩, h3⟩ := h
  refine ⟨vs, h1, ⟨h2, ?_⟩, h3⟩
  rcases h4 with h4 | ⟨g, cap, cur, e1, hb', r⟩
  · exact Or.inl h4
  · exact Or.inr ⟨g, cap, cur, e1, by omega, r⟩
theorem PrsOwn.new {w : World} {base g : Nat} (hB : base ≤ w.heap.size) (hg : g = w.heap.size) : PrsOwn (w.alloc (.cells #[] 67 (0, 0))) base (.slice (some ⟨g, 0, none⟩) 0 0) [] := by
  subst hg
  exact ⟨[], rfl, World.ownsRow_lit (base := base) (size := 1) w #[] 0 hB (by unfold maxLen; omega) rfl, fun i x hx => by simp at hx⟩
theorem PrsOwn.read {W : World} {base : Nat} {v : Value} {ps : List (Nat × Nat)} (h : PrsOwn W base v ps) : ∃ a c, v = .slice a ps.length c := by
  obtain ⟨vs, h1, h2, h3⟩ := h
  rcases h2.2 with ⟨rfl, h0⟩ | ⟨g, cap, cur, rfl, _⟩
  · exact ⟨none, 0, by rw [h0]⟩
  · exact ⟨_, _, rfl⟩
/-- a pair is read out of the row -/
theorem PrsOwn.at {W : World} {base : Nat} {a : Option Addr} {n c : Nat} {ps : List (Nat × Nat)} (h : PrsOwn W base (.slice a n c) ps) {i : Nat} {x : Nat × Nat} (hx : ps[i]? = some x) :
    ∃ g b, a = some ⟨g, 0, none⟩ ∧ W.cell? ⟨g, i, none⟩ = some (.slice (some ⟨b, 0, none⟩) 2 2) ∧ W.heap[b]? = some (.cells #[.int .i64 (x.1 : Int), .int .i64 (x.2 : Int)] 2 (0, 0)) ∧ g < W.heap.size := by
  obtain ⟨vs, h1, h2, h3⟩ := h
  obtain ⟨u, hu, b, rfl, hg⟩ := h3 i x hx
  have hi : i < ps.length := (List.getElem?_eq_some_iff.1 hx).1
  rcases h2.2 with ⟨e1, h0⟩ | ⟨g, cap, cur, e1, hb, hgc, q1, q2, q3, q4⟩
  · omega
  · simp only [Value.slice.injEq] at e1
    obtain ⟨rfl, rfl, rfl⟩ := e1
    have hc := World.ownsRow.cellAt h2 i (by omega)
    exact ⟨g, b, rfl, hc.trans hu, hg, blkLt hgc⟩
theorem wpList_append_pr {ops : Array Oper} {rest : List Oper} {o : Oper} {a : Act} {Q : Exit → Act → World → Prop} {W : World} (hgd : o.guard = none) (s x : Operand)
    (ho : o.op = .call { callee := .builtin .append, args := #[s, x], argTypes := #[38, 38] })
    (base : Nat) (v : Value) (ps : List (Nat × Nat)) (y : Nat × Nat) (hs : a.eval s = v) (hown : PrsOwn W base v ps) (g g1 : Nat) (hx : a.eval x = .slice (some ⟨g, 0, none⟩) 1 1)
    (hg : W.heap[g]? = some (.cells #[.slice (some ⟨g1, 0, none⟩) 2 2] 67 (0, 0))) (hg1 : W.heap[g1]? = some (.cells #[.int .i64 (y.1 : Int), .int .i64 (y.2 : Int)] 2 (0, 0))) (hl : ps.length ≤ 1000000000) (hb : base ≤ W.heap.size)
    (h : ∀ a' c' ps' w', ps' = ps ++ [y] → PrsOwn w' base (.slice a' ps'.length c') ps' → Below base W w' → wpList Tryz.prog ops Q rest (a.put o.dst (.slice a' ps'.length c')) w') : wpList Tryz.prog ops Q (o :: rest) a W := by
  obtain ⟨i0, hi, y0, y1, y2⟩ := info_parts infoSl
  obtain ⟨vs, h1, h2, h3⟩ := hown
  refine wpList_append_own _ hgd s x 38 ho base 67 i0 _ 1 24 Tryz.underlying38 hi y0 y1 y2 rfl (by decide) v ps.length vs hs h2 ⟨g, 0, none⟩ 1 1 [.slice (some ⟨g1, 0, none⟩) 2 2] hx rfl ?_ ?_ (by unfold maxLen; omega) (by omega) hb
    (fun v' w' k1 k2 _ => ?_)
  · intro j u hu
    rw [Addr.add_lit, Nat.zero_add, (heap_cellR hg).1, ← hu]
    simp
  · intro u hu
    simp only [List.mem_singleton] at hu
    subst hu; rfl
  · have ho' : PrsOwn w' base v' (ps ++ [y]) := by
      refine ⟨vs ++ [.slice (some ⟨g1, 0, none⟩) 2 2], by simp [h1], by rw [List.length_append]; exact k1, fun i z hz => ?_⟩
      by_cases hi : i < ps.length
      · rw [List.getElem?_append_left hi] at hz
        obtain ⟨u, hu, hp⟩ := h3 i z hz
        exact ⟨u, by rw [List.getElem?_append_left (by omega)]; exact hu, hp.grownBy h2 k2 (by decide)⟩
      · rw [List.getElem?_append_right (by omega)] at hz
        have hi0 : i - ps.length = 0 := by
          have := (List.getElem?_eq_some_iff.1 hz).1
          simp at this; omega
        rw [hi0] at hz
        simp at hz
        subst hz
        refine ⟨_, by rw [List.getElem?_append_right (by omega), h1, hi0]; rfl, PrAt.grownBy ⟨g1, rfl, hg1⟩ h2 k2 (by decide)⟩
    obtain ⟨a', c', e⟩ := ho'.read
    rw [e] at ho' ⊢
    exact h a' c' _ w' rfl ho' (below_of_grownBy k2 hb (fun k hk => (World.ownsRow.lt h2 k hk).1))

end Go.Proofs.YtlcglclojlffgaaGreatDoor
namespace Go.Proofs.YtlcglclojlffgaaGreatDoor
open Go.RowKit

end Go.Proofs.YtlcglclojlffgaaGreatDoor
namespace Go.Proofs.YtlcglclojlffgaaGreatDoor
open Go.RowKit

/-- rows of lists of the call's own -/
def RwsOwn (W : World) (base : Nat) (v : Value) (ws : List (List Int)) : Prop := ∃ vs : List Value, vs.length = ws.length ∧ W.ownsRow base 67 1 v ws.length vs ∧ ∀ (i : Nat) (x : List Int), ws[i]? = some x → ∃ u, vs[i]? = some u ∧ OwnI W 0 u x
theorem OwnI.grownRow {W W' : World} {base b0 : Nat} {t : TypeId} {k n : Nat} {s u : Value} {vs : List Value} {x : List Int} (h : OwnI W b0 u x) (ho : W.ownsRow base t k s n vs) (hg : W.grownBy W' s.ownBlock) (ht : 2 ≠ t) : OwnI W' b0 u x := by
  refine h.other hg fun k hk e => ?_
  rcases h.2 with ⟨rfl, _⟩ | ⟨g, cap, cur, rfl, _, hgc, _⟩
  · cases hk
  · cases hk
    exact owns_type ho hgc ht e
theorem RwsOwn.grown {W W' : World} {base : Nat} {v : Value} {ws : List (List Int)} (h : RwsOwn W base v ws) (hb : Below W.heap.size W W') : RwsOwn W' base v ws := by
  obtain ⟨vs, h1, h2, h3⟩ := h
  exact ⟨vs, h1, h2.kept (row := none) ⟨hb.os, hb.tape, hb.output, hb.size, fun k hk _ => hb.block k hk⟩ (by
    cases hv : v.ownBlock with
    | none => exact Or.inl rfl
    | some k => exact Or.inr (fun e => by cases e)), fun i x hx => by
    obtain ⟨u, hu, hp⟩ := h3 i x hx
    exact ⟨u, hu, hp.grown hb⟩⟩
theorem RwsOwn.new {w : World} {base g : Nat} (hB : base ≤ w.heap.size) (hg : g = w.heap.size) : RwsOwn (w.alloc (.cells #[] 67 (0, 0))) base (.slice (some ⟨g, 0, none⟩) 0 0) [] := by
  subst hg
  exact ⟨[], rfl, World.ownsRow_lit (base := base) (size := 1) w #[] 0 hB (by unfold maxLen; omega) rfl, fun i x hx => by simp at hx⟩
theorem RwsOwn.read {W : World} {base : Nat} {v : Value} {ws : List (List Int)} (h : RwsOwn W base v ws) : ∃ a c, v = .slice a ws.length c := by
  obtain ⟨vs, h1, h2, h3⟩ := h
  rcases h2.2 with ⟨rfl, h0⟩ | ⟨g, cap, cur, rfl, _⟩
  · exact ⟨none, 0, by rw [h0]⟩
  · exact ⟨_, _, rfl⟩
/-- a list is read out of the row -/
theorem RwsOwn.at {W : World} {base : Nat} {a : Option Addr} {n c : Nat} {ws : List (List Int)} (h : RwsOwn W base (.slice a n c) ws) {i : Nat} {x : List Int} (hx : ws[i]? = some x) :
    ∃ g a' c', a = some ⟨g, 0, none⟩ ∧ W.cell? ⟨g, i, none⟩ = some (.slice a' x.length c') ∧ IntsAt W a' x ∧ g < W.heap.size := by
  obtain ⟨vs, h1, h2, h3⟩ := h
  obtain ⟨u, hu, ho⟩ := h3 i x hx
  have hi : i < ws.length := (List.getElem?_eq_some_iff.1 hx).1
  obtain ⟨a', c', rfl, hI⟩ := ho.read
  rcases h2.2 with ⟨e1, h0⟩ | ⟨g, cap, cur, e1, hb, hgc, q1, q2, q3, q4⟩
  · omega
  · simp only [Value.slice.injEq] at e1
    obtain ⟨rfl, rfl, rfl⟩ := e1
    have hc := World.ownsRow.cellAt h2 i (by omega)
    exact ⟨g, a', c', rfl, hc.trans hu, hI, blkLt hgc⟩
theorem wpList_append_rw {ops : Array Oper} {rest : List Oper} {o : Oper} {a : Act} {Q : Exit → Act → World → Prop} {W : World} (hgd : o.guard = none) (s x : Operand)
    (ho : o.op = .call { callee := .builtin .append, args := #[s, x], argTypes := #[38, 38] })
    (base : Nat) (v : Value) (ws : List (List Int)) (y : List Int) (hs : a.eval s = v) (hown : RwsOwn W base v ws) (g : Nat) (u : Value) (hx : a.eval x = .slice (some ⟨g, 0, none⟩) 1 1)
    (hg : W.heap[g]? = some (.cells #[u] 67 (0, 0))) (hu : OwnI W 0 u y) (hl : ws.length ≤ 1000000000) (hb : base ≤ W.heap.size)
    (h : ∀ a' c' ws' w', ws' = ws ++ [y] → RwsOwn w' base (.slice a' ws'.length c') ws' → Below base W w' → wpList Tryz.prog ops Q rest (a.put o.dst (.slice a' ws'.length c')) w') : wpList Tryz.prog ops Q (o :: rest) a W := by
  obtain ⟨i0, hi, y0, y1, y2⟩ := info_parts infoSl
  obtain ⟨vs, h1, h2, h3⟩ := hown
  obtain ⟨au, cu, rfl, -⟩ := hu.read
  refine wpList_append_own _ hgd s x 38 ho base 67 i0 _ 1 24 Tryz.underlying38 hi y0 y1 y2 rfl (by decide) v ws.length vs hs h2 ⟨g, 0, none⟩ 1 1 [.slice au y.length cu] hx rfl ?_ ?_ (by unfold maxLen; omega) (by omega) hb
    (fun v' w' k1 k2 _ => ?_)
  · intro j u hu
    rw [Addr.add_lit, Nat.zero_add, (heap_cellR hg).1, ← hu]
    simp
  · intro u hu
    simp only [List.mem_singleton] at hu
    subst hu; rfl
  · have ho' : RwsOwn w' base v' (ws ++ [y]) := by
      refine ⟨vs ++ [.slice au y.length cu], by simp [h1], by rw [List.length_append]; exact k1, fun i z hz => ?_⟩
      by_cases hi : i < ws.length
      · rw [List.getElem?_append_left hi] at hz
        obtain ⟨u, hu, hp⟩ := h3 i z hz
        exact ⟨u, by rw [List.getElem?_append_left (by omega)]; exact hu, hp.grownRow h2 k2 (by decide)⟩
      · rw [List.getElem?_append_right (by omega)] at hz
        have hi0 : i - ws.length = 0 := by
          have := (List.getElem?_eq_some_iff.1 hz).1
          simp at this; omega
        rw [hi0] at hz
        simp at hz
        subst hz
        refine ⟨_, by rw [List.getElem?_append_right (by omega), h1, hi0]; rfl, hu.grownRow h2 k2 (by decide)⟩
    obtain ⟨a', c', e⟩ := ho'.read
    rw [e] at ho' ⊢
    exact h a' c' _ w' rfl ho' (below_of_grownBy k2 hb (fun k hk => (World.ownsRow.lt h2 k hk).1))
/-- a list in a new slice of one -/
def WdB (x : List Int) (v : Value) (W : World) : Prop := ∃ b u, v = .slice (some ⟨b, 0, none⟩) 1 1 ∧ W.heap[b]? = some (.cells #[u] 67 (0, 0)) ∧ OwnI W 0 u x
def spWdB (x : List Int) : Sp KB := ⟨WdB x, fun _ _ _ hk ⟨b, u, e, h1, h2⟩ => ⟨b, u, e, blkK hk h1, h2.grown hk⟩⟩
theorem wdb_new {w0 W : World} {x : List Int} {u : Value} (hst : StX w0 W) (h : OwnI W 0 u x) : RsR (StX w0) (spWdB x) W (.slice (some ⟨W.heap.size, 0, none⟩) 1 1) (W.alloc (.cells #[u] 67 (0, 0))) :=
  kb_below hst (ba1 _ _) ⟨W.heap.size, u, rfl, push_at _ _, h.grown (ba1 _ _)⟩
/-- a list of the call's own, or an empty one without room -/
def OwnE (W : World) (base : Nat) (v : Value) (l : List Int) : Prop := OwnI W base v l ∨ (l = [] ∧ ∃ b, v = .slice (some ⟨b, 0, none⟩) 0 0)
theorem OwnE.grown {W W' : World} {base : Nat} {v : Value} {l : List Int} (h : OwnE W base v l) (hb : Below W.heap.size W W') : OwnE W' base v l := h.imp (fun h => h.grown hb) id
theorem wpList_append_e1 {ops : Array Oper} {rest : List Oper} {o : Oper} {a : Act} {Q : Exit → Act → World → Prop} {W : World} (hgd : o.guard = none) (s x : Operand) (T : TypeId) (hT : Tryz.prog.underlying T = some (.slice 2))
    (ho : o.op = .call { callee := .builtin .append, args := #[s, x], argTypes := #[T, T] })
    (base : Nat) (v : Value) (l : List Int) (z : Int) (hs : a.eval s = v) (hown : OwnE W base v l) (g : Nat) (hx : a.eval x = .slice (some ⟨g, 0, none⟩) 1 1)
    (hg : W.heap[g]? = some (.cells #[.int .i64 z] 2 (0, 0))) (hl : l.length ≤ 1000000000) (hb : base ≤ W.heap.size)
    (h : ∀ a' c' l' w', l' = l ++ [z] → OwnI w' base (.slice a' l'.length c') l' → Below base W w' → wpList Tryz.prog ops Q rest (a.put o.dst (.slice a' l'.length c')) w') : wpList Tryz.prog ops Q (o :: rest) a W := by
  rcases hown with hown | ⟨rfl, b, rfl⟩
  · exact wpList_append_i1 hgd s x T hT ho base v l z hs hown g hx hg hl hb (fun a' c' l' w' e1 e2 _ e4 => h a' c' l' w' e1 e2 e4)
  · obtain ⟨i0, hi, y0, y1, y2⟩ := info_parts infoI
    refine wpList_append_grows W hgd s x T ho 2 i0 _ 1 8 hT hi y0 y1 y2 rfl (by decide) (some ⟨b, 0, none⟩) 0 0 [] hs (fun e => by cases e) rfl (fun _ _ j u hj => by simp at hj) ⟨g, 0, none⟩ 1 1 [.int .i64 z] hx rfl ?_ ?_ (by omega) (by unfold maxLen; omega) (by omega) ?_
    · intro j u hu
      rw [Addr.add_lit, Nat.zero_add, (heap_cellR hg).1, ← hu]
      simp
    · intro u hu
      simp only [List.mem_singleton] at hu
      subst hu; rfl
    · intro v' w' k1 k2
      have ho : OwnI w' W.heap.size v' [z] := k1
      obtain ⟨a', c', e, _⟩ := ho.read
      rw [e] at ho ⊢
      exact h a' c' _ w' rfl (ho.weak hb) (below_of_grownBy k2 hb (fun k e => by cases e))

end Go.Proofs.YtlcglclojlffgaaGreatDoor
namespace Go.Proofs.YtlcglclojlffgaaGreatDoor
open Go.RowKit

theorem spSet_any (m : Nat) (h1 : 1 ≤ m) (h3 : m ≤ 3) (w : World) :
    Calls Tryz.prog 77 #[.int .i64 (m : Int)] w fun e w' => e = .returned (.string (charS m)) ∧ w = w' := by
  obtain rfl | rfl | rfl : m = 1 ∨ m = 2 ∨ m = 3 := by omega
  all_goals
    go_enter Tryz.func77, Tryz.ntmps77
    go_wp2_with fail
    go_ret
    exact ⟨rfl, rfl⟩
set_option maxHeartbeats 1000000 in
theorem spChar_any (m : Nat) (h1 : 1 ≤ m) (h4 : m ≤ 4) (x : Int) (x0 : 0 ≤ x) (x1 : x ≤ 255) (w : World) :
    Calls Tryz.prog 134 #[.int .i64 (m : Int), .int .i64 x] w fun e w' => e = .returned (.int .i64 (valC m x)) ∧ Below w.heap.size w w' := by
  have HI1 := Lib.hid (fun w => spIn_below (w := w) (show inB x 0 255 = true from inB_iff.2 ⟨x0, x1⟩))
  have HI2 := Lib.hid (fun w => spIn_below (w := w) (show inB (m : Int) 1 4 = true from inB_iff.2 (by omega)))
  go_enter Tryz.func134, Tryz.ntmps134
  go_wp2_with fail
  refine (HI1.out _).mono ?_
  rintro e w1 ⟨rfl, hb1⟩
  have HB1 := Lib.hid hb1
  clear hb1
  go_wp2_with fail
  refine (HI2.out _).mono ?_
  rintro e w2 ⟨rfl, hb2⟩
  have HB2 := Lib.hid (bt0 HB1.out hb2 (Nat.le_refl _))
  clear hb2
  by_cases hm : m = 4
  · subst hm
    have HV := Lib.hid (show valC 4 x = x by simp [valC])
    go_wp2_with fail
    go_ret
    exact ⟨ret_int HV.out.symm, HB2.out⟩
  · have hmi : ((m : Int) == 4) = false := by rw [beq_eq_false_iff_ne]; omega
    have HV := Lib.hid (show valC m x = idxC (chars m) x 0 by unfold valC; rw [if_neg hm])
    have hl := chars_le m
    go_wp2_with fail
    refine (spSet_any m h1 (by omega) w2).mono ?_
    rintro e w3 ⟨rfl, rfl⟩
    have hsz := charS_size m
    obtain ⟨S, hS⟩ : ∃ S, S = charS m := ⟨_, rfl⟩
    rw [← hS] at hsz ⊢
    have HS := Lib.hid hS
    have hSl : S.size ≤ 45 := by omega
    have HSZ := Lib.hid hsz
    clear hS hsz
    go_wp2_with fail
    go_loop [6] (fun i => ∃ k : Nat, k ≤ S.size ∧ i = .int .i64 k ∧ ∀ i c, i < k → (chars m)[i]? = some c → (c.toNat : Int) ≠ x) (fun i => S.size - (intOf i).toNat)
    case atStart => exact ⟨0, Nat.zero_le _, rfl, fun i c h => by omega⟩
    case round =>
      obtain ⟨k, hk, rfl, hall⟩ := hrel
      have HA := Lib.hid hall
      clear hall
      by_cases hlt : k < S.size
      · have hki : (k : Int) < (S.size : Int) := by omega
        obtain ⟨z, hz⟩ : ∃ z : Nat, S[k].toNat = z := ⟨_, rfl⟩
        have hz2 : z < 256 := by rw [← hz]; exact UInt8.toNat_lt _
        have HC := Lib.hid (show ∃ c, (chars m)[k]? = some c ∧ (c.toNat : Int) = z by
          have e := HS.out
          subst e
          have hk2 : k < (chars m).length := by rw [← charS_size]; exact hlt
          refine ⟨(chars m)[k], List.getElem?_eq_getElem hk2, ?_⟩
          rw [← hz]; rfl)
        by_cases hx : (z : Int) = x
        · have hx' : ((z : Int) == x) = true := by rw [beq_iff_eq]; exact hx
          have HX := Lib.hid hx
          clear hx
          go_wp2_with fail
          go_ret
          refine ⟨ret_int ?_, HB2.out⟩
          obtain ⟨c, hc, hcz⟩ := HC.out
          rw [HV.out, idxC_at _ x 0 k HA.out ⟨c, hc, by rw [hcz, HX.out]⟩]; omega
        · have hx' : ((z : Int) == x) = false := by rw [beq_eq_false_iff_ne]; exact hx
          have HX := Lib.hid hx
          clear hx
          go_wp2_with fail
          refine ⟨⟨k + 1, by omega, by go_num, fun i c hi he => ?_⟩, by simp [intOf]; omega⟩
          by_cases hik : i = k
          · subst hik
            obtain ⟨c', hc, hcz⟩ := HC.out
            rw [hc] at he
            cases he
            rw [hcz]; exact HX.out
          · exact HA.out i c (by omega) he
      · have hki : ¬ (k : Int) < (S.size : Int) := by omega
        go_wp2_with fail
        go_ret
        refine ⟨ret_int ?_, HB2.out⟩
        rw [HV.out, idxC_none]
        intro c hc
        obtain ⟨i, hi, rfl⟩ := List.mem_iff_getElem.1 hc
        exact HA.out i _ (by have := HSZ.out; omega) (List.getElem?_eq_getElem hi)
/-- the bytes of a group and the base of a mode -/
theorem spGroup_any (m : Nat) (h1 : 1 ≤ m) (h4 : m ≤ 4) (w : World) :
    Calls Tryz.prog 141 #[.int .i64 (m : Int)] w fun e w' => e = .returned (.tuple #[.int .i64 (grpM m : Nat), .int .i64 (if m = 3 then 256 else (baseM m : Nat))]) ∧ w = w' := by
  obtain rfl | rfl | rfl | rfl : m = 1 ∨ m = 2 ∨ m = 3 ∨ m = 4 := by omega
  all_goals
    go_enter Tryz.func141, Tryz.ntmps141
    go_wp2_with fail
    go_ret2
    exact ⟨rfl, rfl⟩
/-- the bits of a group -/
theorem spWid_any (m n : Nat) (h1 : 1 ≤ m) (h4 : m ≤ 4) (hn : 1 ≤ n) (hg : n ≤ grpM m) (w : World) :
    Calls Tryz.prog 142 #[.int .i64 (m : Int), .int .i64 (n : Int)] w fun e w' => e = .returned (.int .i64 (widM m n : Nat)) ∧ Below w.heap.size w w' := by
  obtain rfl | rfl | rfl | rfl : m = 1 ∨ m = 2 ∨ m = 3 ∨ m = 4 := by omega
  · obtain rfl | rfl | rfl : n = 1 ∨ n = 2 ∨ n = 3 := by have : grpM 1 = 3 := rfl; omega
    all_goals
      go_enter Tryz.func142, Tryz.ntmps142
      go_wp2_with fail
      go_ret
      exact ⟨rfl, ba1 _ _⟩
  · obtain rfl | rfl : n = 1 ∨ n = 2 := by have : grpM 2 = 2 := rfl; omega
    all_goals
      go_enter Tryz.func142, Tryz.ntmps142
      go_wp2_with fail
      go_ret
      exact ⟨rfl, ba1 _ _⟩
  all_goals
    go_enter Tryz.func142, Tryz.ntmps142
    go_wp2_with fail
    go_ret
    exact ⟨rfl, Below.refl _ _⟩

end Go.Proofs.YtlcglclojlffgaaGreatDoor
namespace Go.Proofs.YtlcglclojlffgaaGreatDoor
open Go.RowKit

set_option maxRecDepth 100000 in
set_option maxHeartbeats 1000000 in
theorem spLen_any (m n : Nat) (h1 : 1 ≤ m) (h4 : m ≤ 4) (hn : 1 ≤ n) (hn2 : n ≤ 255) (w : World) :
    Calls Tryz.prog 135 #[.int .i64 (m : Int), .int .i64 (n : Int)] w fun e w' => e = .returned (.int .i64 (segW m n : Nat)) ∧ Below w.heap.size w w' := by
  have HG := Lib.hid (spGroup_any m h1 h4)
  have HW := Lib.hid (fun n hn hg w => spWid_any m n h1 h4 hn hg w)
  obtain ⟨bs, hbs⟩ : ∃ bs : Int, bs = (if m = 3 then (256 : Int) else ((baseM m : Nat) : Int)) := ⟨_, rfl⟩
  rw [← hbs] at HG
  have HT := Lib.hid (show txtW m n = n / grpM m * widM m (grpM m) + if n % grpM m > 0 then widM m (n % grpM m) else 0 from rfl)
  have HTL := Lib.hid (txtW_le m n)
  obtain ⟨hg1, hg3⟩ := grpM_bd m
  have HD := Lib.hid (widM_bd m)
  obtain ⟨s, hs⟩ : ∃ s, s = grpM m := ⟨_, rfl⟩
  rw [← hs] at HG HW HT hg1 hg3
  have hq : (n : Int).tdiv (s : Int) = ((n / s : Nat) : Int) := by rw [Int.tdiv_eq_ediv_of_nonneg (by omega)]; push_cast; rfl
  have hr : (n : Int).tmod (s : Int) = ((n % s : Nat) : Int) := by rw [Int.tmod_eq_emod_of_nonneg (by omega)]; push_cast; rfl
  have hql : n / s ≤ n := Nat.div_le_self _ _
  have hrl : n % s < s := Nat.mod_lt _ hg1
  obtain ⟨q, hqe⟩ : ∃ q, q = n / s := ⟨_, rfl⟩
  obtain ⟨r, hre⟩ : ∃ r, r = n % s := ⟨_, rfl⟩
  rw [← hqe] at hq hql HT
  rw [← hre] at hr hrl HT
  obtain ⟨v, hv⟩ : ∃ v, v = widM m s := ⟨_, rfl⟩
  have hv24 : v ≤ 24 := by have := HD.out s hg1 hg3; omega
  have HV := Lib.hid (fun w => hv ▸ HW.out s hg1 (Nat.le_refl _) w)
  rw [← hv] at HT
  obtain ⟨qv, hqv⟩ : ∃ qv : Nat, qv = q * v := ⟨_, rfl⟩
  have hqvi : (q : Int) * (v : Int) = (qv : Int) := by rw [hqv]; push_cast; rfl
  rw [← hqv] at HT
  have hqvl : qv ≤ 8 * n := by have h1 := HT.out; have h2 := HTL.out; omega
  have hs0 : ¬ ((s : Int) == 0) = true := by rw [beq_iff_eq]; omega
  clear hbs hs hqe hre hv hqv
  go_enter Tryz.func135, Tryz.ntmps135
  go_wp2_with fail
  refine (HG.out w).mono ?_
  rintro e w1 ⟨rfl, rfl⟩
  go_wp2_with fail
  refine wp_region_ext_tail 8 (by kernel_rfl) (by kernel_rfl) ?_
  simp only [List.take_succ_cons, List.take_zero, List.drop_succ_cons, List.drop_zero]
  repeat (go_big_quiet_step ((go_at_call 142; go_must (exact calls_ext _ (HV.out _)))))
  refine wpQuiet_nil ?_
  rintro _ ⟨s9, rfl⟩
  have hb9 := s9.below
  generalize s9.w = w2 at hb9 ⊢
  have HB2 := Lib.hid hb9
  clear hb9 s9
  by_cases hr0 : 0 < r
  · have hri : (0 : Int) < (r : Int) := by omega
    have HE := Lib.hid (show segW m n = 11 + (qv + widM m r) by rw [segW, HT.out, if_pos hr0])
    have HR := Lib.hid (fun w => HW.out r hr0 (by omega) w)
    obtain ⟨u, hu⟩ : ∃ u, u = widM m r := ⟨_, rfl⟩
    have hu24 : u ≤ 24 := by have := HD.out r hr0 (by omega); omega
    rw [← hu] at HE HR
    clear hu
    go_wp2_with fail
    refine (HR.out w2).mono ?_
    rintro e w3 ⟨rfl, hb3⟩
    have HB3 := Lib.hid (bt0 HB2.out hb3 (Nat.le_refl _))
    clear hb3
    go_wp2_with fail
    go_ret
    refine ⟨ret_int ?_, HB3.out⟩
    rw [HE.out]; push_cast; omega
  · have hri : ¬ (0 : Int) < (r : Int) := by omega
    have HE := Lib.hid (show segW m n = 11 + qv by rw [segW, HT.out, if_neg hr0, Nat.add_zero])
    go_wp2_with fail
    go_ret
    refine ⟨ret_int ?_, HB2.out⟩
    rw [HE.out]; push_cast; omega
/-- a cell of the reference's table -/
abbrev clV (x : Ch) : Value := .agg #[.int .i64 x.l, .int .i64 x.c, .int .i64 x.t, .int .i64 x.m]
set_option maxRecDepth 100000 in
set_option maxHeartbeats 1000000 in
theorem spBetter_any (x y : Ch) (w : World) :
    Calls Tryz.prog 136 #[clV x, clV y] w fun e w' => e = .returned (.bool (chB x y)) ∧ Below w.heap.size w w' := by
  obtain ⟨xl, xc, xt, xm⟩ := x
  obtain ⟨yl, yc, yt, ym⟩ := y
  by_cases h1 : xl = yl
  · by_cases h2 : xc = yc
    · by_cases h3 : xt = yt
      · subst h1 h2 h3
        have HE := Lib.hid (show chB ⟨xl, xc, xt, xm⟩ ⟨xl, xc, xt, ym⟩ = decide (xm < ym) by simp [chB])
        dsimp only [clV]
        go_enter Tryz.func136, Tryz.ntmps136
        go_wp2_with fail
        go_ret
        exact ⟨ret_bool HE.out.symm, ba2 _ _ _⟩
      · subst h1 h2
        have HE := Lib.hid (show chB ⟨xl, xc, xt, xm⟩ ⟨xl, xc, yt, ym⟩ = decide (yt < xt) by simp [chB, h3])
        have h3' : (xt == yt) = false := by rw [beq_eq_false_iff_ne]; exact h3
        dsimp only [clV]
        go_enter Tryz.func136, Tryz.ntmps136
        go_wp2_with fail
        go_ret
        exact ⟨ret_bool HE.out.symm, ba2 _ _ _⟩
    · subst h1
      have HE := Lib.hid (show chB ⟨xl, xc, xt, xm⟩ ⟨xl, yc, yt, ym⟩ = decide (xc < yc) by simp [chB, h2])
      have h3' : (xc == yc) = false := by rw [beq_eq_false_iff_ne]; exact h2
      dsimp only [clV]
      go_enter Tryz.func136, Tryz.ntmps136
      go_wp2_with fail
      go_ret
      exact ⟨ret_bool HE.out.symm, ba2 _ _ _⟩
  · have HE := Lib.hid (show chB ⟨xl, xc, xt, xm⟩ ⟨yl, yc, yt, ym⟩ = decide (xl < yl) by simp [chB, h1])
    have h3' : (xl == yl) = false := by rw [beq_eq_false_iff_ne]; exact h1
    dsimp only [clV]
    go_enter Tryz.func136, Tryz.ntmps136
    go_wp2_with fail
    go_ret
    exact ⟨ret_bool HE.out.symm, ba2 _ _ _⟩

end Go.Proofs.YtlcglclojlffgaaGreatDoor
