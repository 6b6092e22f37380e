import Derived.Test.YtlcglclojlffgaaGreatVSpSc
import Derived.Test.YtlcglclojlffgaaGreatVSgsI
namespace Go.Proofs.YtlcglclojlffgaaGreat
open Go.RowKit

set_option maxRecDepth 100000 in
set_option maxHeartbeats 4000000 in
theorem spBest_any (s : ByteArray) (w : World) (hs : s.size ≤ 400) :
    Calls Tryz.prog 94 #[.string s] w (RetSg w (segsC s.data.toList)) := by
  obtain ⟨S, hS⟩ : ∃ S, S = s.data.toList := ⟨_, rfl⟩
  have hSl : S.length = s.size := by rw [hS]; rfl
  have HS := Lib.hid hS
  have HSL := Lib.hid hSl
  rw [← hS]
  clear hS hSl
  go_enter Tryz.func94, Tryz.ntmps94
  go_wp2_with fail
  refine (spTable_any s _ hs).mono ?_
  rintro e w1 ⟨rfl, ht, hb⟩
  have HT := Lib.hid ht
  have HB := Lib.hid hb
  clear ht hb
  go_wp2_with fail
  go_loopw [4, 5] (fun v i wr => ∃ (k : Nat) (a : Option Addr) (cp : Nat) (out : List (Nat × List UInt8)), k ≤ s.size ∧ i = .int .i64 k ∧ v = .slice a out.length cp ∧ out ++ segsC (S.drop k) = segsC S ∧ out.length ≤ k ∧ sgE.Own wr w1.heap.size (.slice a out.length cp) out ∧ Below w1.heap.size w1 wr) (fun _ i _ => s.size - (intOf i).toNat)
  case atStart => exact ⟨0, _, _, [], Nat.zero_le _, rfl, rfl, rfl, Nat.le_refl _, Enc.Own.new sgE w1, ba1 _ _⟩
  case round =>
    obtain ⟨k, a, cp, out, hk, rfl, rfl, ho, hol, hown, hbr⟩ := hrel
    have HO := Lib.hid ho
    have HW := Lib.hid hown
    have HBr := Lib.hid hbr
    clear ho hown hbr
    by_cases hlt : k < s.size
    · have hki : (k : Int) < (s.size : Int) := by omega
      have hki2 : (k : Int) < (s.size : Int) + 1 := by omega
      obtain ⟨x1, x2, x3, x4, -⟩ := (HT.out.below HBr.out).cell (i := k) (by omega)
      have etf : tabF s.data.toList 0 k = hdC (S.drop k) := by unfold tabF; rw [if_neg (by omega), HS.out]
      have hne : S.drop k ≠ [] := fun e => by have := congrArg List.length e; rw [List.length_drop, HSL.out] at this; simp at this; omega
      obtain ⟨n, m, ht, hm, hn1, hnl, hn255, hm1, hm4, -, -, -⟩ := (hdC_ok hne).t
      rw [List.length_drop, HSL.out] at hnl
      have HSg := Lib.hid (show segsC (S.drop k) = (m, (S.drop k).take n) :: segsC (S.drop (k + n)) by
        cases hd : S.drop k with
        | nil => exact absurd hd hne
        | cons c l =>
          rw [hd] at ht hm
          rw [segsC_cons, ht, hm, ← hd, List.drop_drop]; rfl)
      obtain ⟨⟨yl, yc, yt, ym⟩, hye⟩ : ∃ x : Ch, x = hdC (S.drop k) := ⟨_, rfl⟩
      rw [etf, ← hye] at x3 x4
      rw [← hye] at ht hm
      dsimp only at x3 x4 ht hm
      subst ht hm
      have hlg := HT.out.lt
      have hlg2 : w.heap.size < wr.heap.size := by have := HBr.out.size; omega
      obtain ⟨q, hq⟩ : ∃ q, q = k + n := ⟨_, rfl⟩
      have hqi : (k : Int) + (n : Int) = (q : Int) := by omega
      have hqs : q ≤ s.size := by omega
      have hkq : k ≤ q := by omega
      have HQ := Lib.hid hq
      have hsr : w1.heap.size ≤ wr.heap.size := HBr.out.size
      clear etf hne hye hq x1 x2
      go_wp2_with fail
      refine wp_region_rt (Keep := KB) [20, 21, 22, 23, 24, 25, 26, 27, 28, 29, 30, 31, 32, 33, 34, 35, 36, 37] (fun us => _)
        [spE (.slice a out.length cp),
         spE (.slice (some ⟨w.heap.size, 0, none⟩) (s.size + 1) (s.size + 1)),
         spE (.int .i64 (k : Int)),
         spE (.pointer (some ⟨w.heap.size, k * 4, none⟩)),
         spE (.pointer (some ⟨w.heap.size, k * 4 + 3, none⟩)),
         spE (.int .i64 (m : Int)),
         spE (.string s),
         spE (.int .i64 (k : Int)),
         spE (.int .i64 (k : Int)),
         spE (.slice (some ⟨w.heap.size, 0, none⟩) (s.size + 1) (s.size + 1)),
         spE (.int .i64 (k : Int)),
         spE (.pointer (some ⟨w.heap.size, k * 4, none⟩)),
         spE (.pointer (some ⟨w.heap.size, k * 4 + 2, none⟩)),
         spE (.int .i64 (n : Int)),
         spE (.int .i64 (q : Int)),
         spE (.string (s.extract k q)),
         spE (.agg #[.int .i64 (m : Int), .string (s.extract k q)]),
         spSlc (w1.heap.size) #[.int .i64 (m : Int), .string (s.extract k q)] 108]
        (StX wr) (by kernel_rfl) (by kernel_rfl) (Nat.le_of_ble_eq_true rfl) (fun us => by simp [over, List.mapIdx_cons]; exact rfl) (stX0 _) kbr ?_ ?_
      · refine ⟨?_, ?_, ?_, ?_, ?_, ?_, ?_, ?_, ?_, ?_, ?_, ?_, ?_, ?_, ?_, ?_, ?_, ?_, trivial⟩
        all_goals (intro us wx hst hd; rw [if_pos (by kernel_rfl)]; dsimp only)
        · clear hd
          go_simp
          exact kb_same hst rfl
        · clear hd
          go_simp
          exact kb_same hst rfl
        · clear hd
          go_simp
          exact kb_same hst rfl
        · have d21 : us 21 = (.slice (some ⟨w.heap.size, 0, none⟩) (s.size + 1) (s.size + 1)) := hd ⟨1, .data⟩ (by simp) rfl
          have d22 : us 22 = (.int .i64 (k : Int)) := hd ⟨2, .data⟩ (by simp) rfl
          clear hd
          go_simp
          exact kb_same hst rfl
        · have d23 : us 23 = (.pointer (some ⟨w.heap.size, k * 4, none⟩)) := hd ⟨3, .data⟩ (by simp) rfl
          clear hd
          go_simp
          exact kb_same hst rfl
        · have d24 : us 24 = (.pointer (some ⟨w.heap.size, k * 4 + 3, none⟩)) := hd ⟨4, .data⟩ (by simp) rfl
          clear hd
          have hW := below_cell hst x4
          go_simp
          exact kb_same hst rfl
        · clear hd
          go_simp
          exact kb_same hst rfl
        · clear hd
          go_simp
          exact kb_same hst rfl
        · clear hd
          go_simp
          exact kb_same hst rfl
        · clear hd
          go_simp
          exact kb_same hst rfl
        · clear hd
          go_simp
          exact kb_same hst rfl
        · have d29 : us 29 = (.slice (some ⟨w.heap.size, 0, none⟩) (s.size + 1) (s.size + 1)) := hd ⟨9, .data⟩ (by simp) rfl
          have d30 : us 30 = (.int .i64 (k : Int)) := hd ⟨10, .data⟩ (by simp) rfl
          clear hd
          go_simp
          exact kb_same hst rfl
        · have d31 : us 31 = (.pointer (some ⟨w.heap.size, k * 4, none⟩)) := hd ⟨11, .data⟩ (by simp) rfl
          clear hd
          go_simp
          exact kb_same hst rfl
        · have d32 : us 32 = (.pointer (some ⟨w.heap.size, k * 4 + 2, none⟩)) := hd ⟨12, .data⟩ (by simp) rfl
          clear hd
          have hW := below_cell hst x3
          go_simp
          exact kb_same hst rfl
        · have d28 : us 28 = (.int .i64 (k : Int)) := hd ⟨8, .data⟩ (by simp) rfl
          have d33 : us 33 = (.int .i64 (n : Int)) := hd ⟨13, .data⟩ (by simp) rfl
          clear hd
          have hw : IntKind.i64.wrap (q : Int) = q := by rw [IntKind.wrap_i64]; omega
          go_simp
          exact kb_same hst rfl
        · have d26 : us 26 = (.string s) := hd ⟨6, .data⟩ (by simp) rfl
          have d27 : us 27 = (.int .i64 (k : Int)) := hd ⟨7, .data⟩ (by simp) rfl
          have d34 : us 34 = (.int .i64 (q : Int)) := hd ⟨14, .data⟩ (by simp) rfl
          clear hd
          go_simp
          exact kb_same hst rfl
        · have d25 : us 25 = (.int .i64 (m : Int)) := hd ⟨5, .data⟩ (by simp) rfl
          have d35 : us 35 = (.string (s.extract k q)) := hd ⟨15, .data⟩ (by simp) rfl
          clear hd
          go_simp
          exact kb_same hst rfl
        · have d36 : us 36 = (.agg #[.int .i64 (m : Int), .string (s.extract k q)]) := hd ⟨16, .data⟩ (by simp) rfl
          clear hd
          go_simp
          exact slc_new hst (by omega)
      · intro us wx hst hd
        have d20 : us 20 = (.slice a out.length cp) := hd 0 (by simp)
        have d37 := hd 17 (by simp)
        clear hd
        simp only [List.drop, List.length]
        rw [d20]
        obtain ⟨xs, hxs, hxs1, hxg⟩ := d37
        rw [hxs]
        have HXS := Lib.hid (show (⟨((S.drop k).take n).toArray⟩ : ByteArray) = s.extract k q by rw [ext_bytes, HS.out, HQ.out, Nat.add_sub_cancel_left])
        have hsx := hst.size
        have HWx := Lib.hid (HW.out.grown hst)
        have HBx := Lib.hid (bt0 HBr.out hst (Nat.le_refl _))
        clear d20
        refine wpList_append_sg rfl (.tmp 20) (.tmp 37) rfl w1.heap.size (.slice a out.length cp) out (m, (S.drop k).take n) rfl HWx.out xs rfl (by dsimp only; rw [HXS.out]; exact hxg) (by omega) (by omega) ?_
        intro a9 c9 l9 w9 he9 ho9 hg9 hb9
        have HE9 := Lib.hid he9
        have HB9 := Lib.hid (HBx.out.trans hb9)
        have HO9 := Lib.hid ho9
        have hy3 : w9.cell? ⟨w.heap.size, k * 4 + 2, none⟩ = some (.int .i64 (n : Int)) := by
          rw [hb9.cell (p := ⟨w.heap.size, k * 4 + 2, none⟩) (by dsimp only; omega)]
          exact below_cell hst x3
        have hx9 : w.heap.size < w9.heap.size := by have := hg9.size; omega
        clear he9 hb9 ho9 hg9 hst hxg x3 x4
        go_wp2_with fail
        refine ⟨⟨q, a9, c9, l9, by omega, by go_num, rfl, ?_, ?_, HO9.out, HB9.out⟩, by simp [intOf]; omega⟩
        · rw [HE9.out, ← HO.out, HSg.out, HQ.out, List.append_assoc]; rfl
        · rw [HE9.out, List.length_append]; simp; omega
    · have hki : ¬ (k : Int) < (s.size : Int) := by omega
      have HF := Lib.hid (show out = segsC S by
        have h := HO.out
        rw [List.drop_eq_nil_of_le (by rw [HSL.out]; omega)] at h
        simpa [segsC, segsF] using h)
      go_wp2_with fail
      go_ret
      refine ⟨a, cp, by rw [← HF.out]; rfl, ?_, HB.out.trans (HBr.out.mono HB.out.size)⟩
      rw [← HF.out]
      exact HW.out.weak HB.out.size
/-- the length of the best segmentation -/
def lngC (s : List UInt8) : Int × Int := if s.length ≤ 400 then ((hdC s).l, 0) else (0, 3)
set_option maxRecDepth 100000 in
set_option maxHeartbeats 1000000 in
theorem spBestLen_any (s : ByteArray) (w : World) (hl : s.size ≤ 1048576) :
    Calls Tryz.prog 92 #[.string s] w fun e w' => e = .returned (.tuple #[.int .i64 (lngC s.data.toList).1, .int .i64 (lngC s.data.toList).2]) ∧ Below w.heap.size w w' := by
  have hSl : s.data.toList.length = s.size := rfl
  by_cases hs : s.size ≤ 400
  · have HE := Lib.hid (show lngC s.data.toList = ((hdC s.data.toList).l, 0) by rw [lngC, if_pos (by omega)])
    have hsi : ¬ (400 : Int) < (s.size : Int) := by omega
    go_enter Tryz.func92, Tryz.ntmps92
    go_wp2_with fail
    refine (spTable_any s _ hs).mono ?_
    rintro e w1 ⟨rfl, ht, hb⟩
    obtain ⟨x1, -, -, -, -⟩ := ht.cell (i := 0) (by omega)
    rw [Nat.zero_mul] at x1
    have e0 : tabF s.data.toList 0 0 = hdC s.data.toList := by simp [tabF]
    rw [e0] at x1
    obtain ⟨X, hX⟩ : ∃ X, X = (hdC s.data.toList).l := ⟨_, rfl⟩
    rw [← hX] at x1 HE
    have hlt := ht.lt
    have HB := Lib.hid hb
    have h0 : (0 : Int) < (s.size : Int) + 1 := by omega
    clear ht hb e0 hX hSl
    go_wp2_with fail
    go_ret2
    exact ⟨by rw [HE.out]; rfl, HB.out⟩
  · have HE := Lib.hid (show lngC s.data.toList = (0, 3) by rw [lngC, if_neg (by omega)])
    have hsi : (400 : Int) < (s.size : Int) := by omega
    go_enter Tryz.func92, Tryz.ntmps92
    go_wp2_with fail
    go_ret2
    exact ⟨by rw [HE.out]; rfl, Below.refl _ _⟩

end Go.Proofs.YtlcglclojlffgaaGreat
