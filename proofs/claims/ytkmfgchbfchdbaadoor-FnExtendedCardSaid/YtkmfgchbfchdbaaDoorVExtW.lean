import Derived.Test.YtkmfgchbfchdbaaDoorVRecW
namespace Go.Proofs.YtkmfgchbfchdbaaDoor
open Go.RowKit

/-- a drawn text and a drawn record -/
def RetDX (w : World) (e : Ending) (w' : World) : Prop := ∃ (s : ByteArray) (r : Rc), e = .returned (.tuple #[.string s, .agg #[.int .i64 r.k, .int .i64 r.n]]) ∧ s.size ≤ 20001 ∧ Below w.heap.size w w'
set_option maxRecDepth 100000 in
set_option maxHeartbeats 1000000 in
theorem drawExtendJournal_any (a : Option Addr) (n c : Nat) (w : World) (hx : BytesAt w w.heap.size a n) (hn : n ≤ 4096) :
    Calls Tryd.prog 18 #[.slice a n c] w (RetDX w) := by
  have HB0 := Lib.hid (ba1 w (.cells #[.int .i64 0, .int .i64 0] 35 (0, 0)))
  have HX0 := Lib.hid (push_at w (.cells #[.int .i64 0, .int .i64 0] 35 (0, 0)))
  have HX : Hid (BytesAt (w.alloc (.cells #[.int .i64 0, .int .i64 0] 35 (0, 0))) (w.alloc (.cells #[.int .i64 0, .int .i64 0] 35 (0, 0))).heap.size a n) := Lib.hid (by
    have h := hx.kept (w' := w.alloc (.cells #[.int .i64 0, .int .i64 0] 35 (0, 0))) (fun k hk => HB0.out.block k hk)
    intro i hi
    obtain ⟨b, o, z, h1, h2, h3⟩ := h i hi
    exact ⟨b, o, z, h1, by simp; omega, h3⟩)
  clear hx
  go_enter Tryd.func18, Tryd.ntmps18
  go_wp2_with fail
  refine (l01From_any a n c _ HX.out hn).mono ?_
  rintro e w1 ⟨b, rfl, hb, hs1, hb1⟩
  have HS1 := Lib.hid hs1
  have HB1 := Lib.hid (bt0 HB0.out hb1 (Nat.le_refl _))
  have HX1 := Lib.hid (blkK hb1 HX0.out)
  have hwb : w.heap.size < b := by simp at hb; omega
  clear hs1 hb1 hb
  go_wp2_with fail
  refine (l32DrawText_any b w1 HS1.out).mono ?_
  rintro e w2 ⟨s, rfl, hz, hs2, hg2⟩
  have HS2 := Lib.hid hs2
  have HX2 := Lib.hid ((hg2.block w.heap.size (blkLt HX1.out) (fun e => by have := Option.some.inj e; omega)).trans HX1.out)
  have HB2 := Lib.hid (HB1.out.trans (below_of_grownBy hg2 HB1.out.size (fun k e => by have := Option.some.inj e; omega)))
  clear hs2 hg2
  go_wp2_with fail
  refine (l32Draw_any b w2 HS2.out).mono ?_
  rintro e w3 ⟨rk, ri, rfl, -, -, hs3, hg3⟩
  have HX3 := Lib.hid ((hg3.block w.heap.size (blkLt HX2.out) (fun e => by have := Option.some.inj e; omega)).trans HX2.out)
  have HB3 := Lib.hid (HB2.out.trans (below_of_grownBy hg3 HB2.out.size (fun k e => by have := Option.some.inj e; omega)))
  obtain ⟨hc3, hf3⟩ := heap_cellR HX3.out
  clear hs3 hg3
  go_wp2_with fail
  refine bodyPost_ret (v := .tuple #[.string s, .agg #[.int .i64 rk, .int .i64 ri]]) (by simp [results, Tryd.results18, go_sem, hc3]) rfl ⟨s, ⟨rk, ri⟩, rfl, hz, ?_⟩
  iterate 2 (refine Below.setCell ?_ (by dsimp only; omega) _)
  exact HB3.out

theorem extS_ok {s : ByteArray} {r : Rc} (h : (extS s r).2 = 0) : r.ok = true ∧ overS s = false ∧ (recS s).length < 300 ∧ extS s r = (textB (recS s ++ [r]), 0) := by
  have h2 := (recS_prop s).2.1
  unfold extS at h ⊢
  split at h
  · rename_i ho
    split at h
    · cases h
    · rename_i hv
      split at h
      · cases h
      · rename_i h3
        refine ⟨ho, by simpa using hv, by omega, ?_⟩
        rw [if_pos ho, if_neg hv, if_neg h3]
  · cases h
theorem app_ok {l : List Rc} {r : Rc} (h : ∀ x ∈ l, x.ok = true) (hr : r.ok = true) : ∀ x ∈ l ++ [r], x.ok = true := fun x hx => by
  rcases List.mem_append.1 hx with hx | hx
  · exact h x hx
  · simp at hx; subst hx; exact hr
theorem codeJ_all {l : List Rc} (h : l.length ≤ 300) (hok : ∀ r ∈ l, r.ok = true) : codeJ l = 0 := by
  unfold codeJ
  rw [if_neg (by omega), if_pos (List.all_eq_true.2 hok)]
theorem cnt_next {l : List Rc} {r : Rc} {j : Nat} (hj : r.k = j + 1) (h4 : j < 4) : ∃ z, (cntJ l r.n)[j]? = some z ∧ (cntJ (l ++ [r]) r.n)[j]? = some (z + 1) ∧ 0 ≤ z ∧ z ≤ l.length := by
  obtain ⟨z, h1, h2, h3, h5⟩ := cntJ_hit (l := l ++ [r]) (k := l.length) (r := r) (by simp) rfl hj h4
  rw [List.take_left' rfl] at h1 h5
  rw [List.take_of_length_le (by simp)] at h5
  refine ⟨z, h1, ?_, h2, h3⟩
  rw [← h5, List.getElem?_set]
  simp [cntJ_len, h4]

set_option maxRecDepth 100000 in
set_option maxHeartbeats 1000000 in
theorem extended_law (a : Option Addr) (n c : Nat) (w : World) (hx : BytesAt w w.heap.size a n) (hE : Env w) :
    Calls Tryd.prog 5 #[.slice a n c] w fun e w' => e = .returned (.bool true) ∧ Below w.heap.size w w' := by
  have HX := Lib.hid hx
  have HE := Lib.hid hE
  clear hx hE
  by_cases hbig : (4096 : Int) < n
  · go_enter Tryd.func5, Tryd.ntmps5
    go_wp2_with fail
    refine (big_any a n c _).mono ?_
    rintro e w' ⟨rfl, rfl⟩
    go_wp2_with fail
    go_ret
    exact ⟨rfl, Below.refl _ _⟩
  · go_enter Tryd.func5, Tryd.ntmps5
    go_wp2_with fail
    refine (big_any a n c _).mono ?_
    rintro e w0 ⟨rfl, rfl⟩
    go_wp2_with fail
    refine (drawExtendJournal_any a n c w0 HX.out (by omega)).mono ?_
    rintro e w1 ⟨s, r, rfl, hz, hb1⟩
    have HXR := Lib.hid (push_at w1 (.cells #[.int .i64 r.k, .int .i64 r.n] 35 (0, 0)))
    have HB1 := Lib.hid (bt0 hb1 (ba1 w1 (.cells #[.int .i64 r.k, .int .i64 r.n] 35 (0, 0))) (Nat.le_refl _))
    clear hb1 hbig
    go_wp2_with fail
    refine (extendJournal_any s r _ (by omega) (HE.out.next HB1.out)).mono ?_
    rintro e w2 ⟨rfl, hb2⟩
    have HB2 := Lib.hid (bt0 HB1.out hb2 (Nat.le_refl _))
    have HX2 := Lib.hid (blkK hb2 HXR.out)
    have hx2 := blkLt HX2.out
    have hc2 := (heap_cellR HX2.out).1
    have HXT := Lib.hid (fun h => extS_ok (s := s) (r := r) h)
    obtain ⟨j, hj⟩ : ∃ j, (extS s r).1 = j := ⟨_, rfl⟩
    obtain ⟨cd, hcd⟩ : ∃ cd, (extS s r).2 = cd := ⟨_, rfl⟩
    have HJ := Lib.hid hj
    have HCD := Lib.hid hcd
    rw [hj, hcd]
    clear hb2 hj hcd
    go_wp2_with fail
    refine (specExtendJournal_any s r w2 (by omega)).mono ?_
    rintro e w3 ⟨rfl, hb3⟩
    have HB3 := Lib.hid (bt0 HB2.out hb3 (Nat.le_refl _))
    have HX3 := Lib.hid (blkK hb3 HX2.out)
    rw [HJ.out, HCD.out]
    have e1 : (cd != cd) = false := by simp
    have e2 : (j.toList != j.toList) = false := by simp
    clear hb3 hc2 hx2
    by_cases hc0 : cd = 0
    · subst hc0
      obtain ⟨hok, hov, hl3, hext⟩ := HXT.out HCD.out
      have hjb : j = textB (recS s ++ [r]) := by rw [← HJ.out, hext]
      have hlok := (recS_prop s).1
      have h0 : codeJ (recS s) = 0 := codeJ_rec s
      obtain ⟨l, hl⟩ : ∃ l, recS s = l := ⟨_, rfl⟩
      rw [hl] at hl3 hjb hlok h0
      have hl4 : (l ++ [r]).length ≤ 300 := by simp; omega
      have hok2 := app_ok hlok hok
      have HR2 : Hid (recS j = l ++ [r]) := Lib.hid (by rw [hjb, recS_text hl4 hok2])
      have HO2 : Hid (overS j = false) := Lib.hid (by rw [hjb, overS_text hl4 hok2])
      have HO1 := Lib.hid hov
      have HL := Lib.hid hl
      have hjz : j.size ≤ 6000 := by rw [hjb]; exact textB_small hl4 hok2
      have HJZ : Hid ((textJ 0 0 (l ++ [r])).length = j.size) := Lib.hid (by rw [hjb]; rfl)
      have hin : inB r.n 0 199 = true := by rw [inB_iff]; exact ((r.ok_iff).1 hok).2
      have HCC1 : Hid (cntCode l r.n = 0) := Lib.hid (by rw [cntCode, if_pos h0, if_pos hin])
      have HCC2 : Hid (cntCode (l ++ [r]) r.n = 0) := Lib.hid (by rw [cntCode, if_pos (codeJ_all hl4 hok2), if_pos hin])
      obtain ⟨q, hq⟩ : ∃ q : Nat, r.k = (q : Int) + 1 := ⟨(r.k - 1).toNat, by have := (r.ok_iff).1 hok; omega⟩
      have hq4 : q < 4 := by have := (r.ok_iff).1 hok; omega
      obtain ⟨z, hz1, hz2, hz0, hzl⟩ := cnt_next (l := l) hq hq4
      have HZ1 := Lib.hid hz1
      have HZ2 := Lib.hid hz2
      have HQ := Lib.hid hq
      clear hok hov hext hjb hlok h0 hl hok2 hin hz1 hz2 HXT hq
      go_wp2_with fail
      refine (recoverJournal_any s w3 (by omega) (HE.out.next HB3.out)).mono ?_
      rintro e w4 ⟨aA, cA, l1, hl1, rfl, hoA, hb4⟩
      obtain rfl : l1 = l := hl1.trans HL.out
      have HOA := Lib.hid hoA
      have HB4 := Lib.hid (bt0 HB3.out hb4 (Nat.le_refl _))
      have HX4 := Lib.hid (blkK hb4 HX3.out)
      rw [HO1.out]
      obtain ⟨rv, hrv⟩ : ∃ rv, (s.size : Int) - ((textJ 0 0 l1).length : Int) = rv := ⟨_, rfl⟩
      simp only [Bool.false_eq_true, if_false]
      rw [hrv]
      clear hl1 hoA hb4 hrv
      go_wp2_with fail
      refine (recoverJournal_any j w4 (by omega) (HE.out.next HB4.out)).mono ?_
      rintro e w5 ⟨aB, cB, l2, hl2, rfl, hoB, hb5⟩
      obtain rfl : l2 = l1 ++ [r] := hl2.trans HR2.out
      have HOB := Lib.hid hoB
      have HOA5 := Lib.hid (HOA.out.grown hb5)
      have HB5 := Lib.hid (bt0 HB4.out hb5 (Nat.le_refl _))
      have HX5 := Lib.hid (blkK hb5 HX4.out)
      rw [HO2.out, HJZ.out]
      simp only [Bool.false_eq_true, if_false, Int.sub_self]
      obtain ⟨b, o, rfl, hbl, h0, h1⟩ := rc_at HOB.out.at (i := l1.length) (r := r) (by simp)
      obtain ⟨m, hm⟩ : ∃ m, (l1 ++ [r]).length = m := ⟨_, rfl⟩
      have hm1 : m = l1.length + 1 := by rw [← hm]; simp
      rw [hm]
      have HM := Lib.hid hm
      obtain ⟨p, hp⟩ : ∃ p, l1.length = p := ⟨_, rfl⟩
      have HP := Lib.hid hp
      rw [hp] at hm1 h0 h1 hl3 hzl ⊢
      subst hm1
      obtain ⟨hc5, hf5⟩ := heap_cellR HX5.out
      have hx5 := blkLt HX5.out
      have e3 : ((p : Int) + 1 != (p : Int) + 1) = false := by simp
      have e4 : (r.k != r.k) = false := by simp
      have e5 : (r.n != r.n) = false := by simp
      have e6 : IntKind.i64.wrap ((p : Int) + 1) = (p : Int) + 1 := IntWalk.i64_in _ (by omega)
      have e7 : IntKind.i64.wrap ((p : Int) + 1 - 1) = (p : Int) := by rw [show (p : Int) + 1 - 1 = (p : Int) by omega]; exact IntWalk.i64_in _ (by omega)
      clear hl2 hoB hb5 hm hp
      go_wp2_with fail
      refine wp_region_ext (by kernel_rfl) (by kernel_rfl) ?_
      repeat (go_big_quiet_step (fail))
      refine wpQuiet_nil ?_
      rintro _ ⟨sx, rfl⟩
      have HB6 := Lib.hid (bt0 HB5.out sx.below (Nat.le_refl _))
      have hsx := sx.below.size
      have hs6 : w1.heap.size < sx.w.heap.size := by omega
      have HOA6 := Lib.hid (HOA5.out.grown sx.below)
      have HOB6 := Lib.hid (HOB.out.grown sx.below)
      clear e3 e4 e5 e6 e7 h0 h1
      go_wp2_with fail
      rw [← HP.out]
      refine (countRecords_any aA l1 cA r.n sx.w (by rw [HP.out]; omega) HOA6.out.at).mono ?_
      rintro e w7 ⟨a7, c7, zs7, hz7, rfl, ho7, hb7⟩
      rw [HCC1.out, if_pos rfl] at hz7
      subst hz7
      rw [HCC1.out]
      have HB7 := Lib.hid (bt0 HB6.out hb7 (Nat.le_refl _))
      have HX7 := Lib.hid (blkK hb7 (blkK sx.below HX5.out))
      have HOB7 := Lib.hid (HOB6.out.grown hb7)
      have hx7 := blkLt HX7.out
      have hc7 := (heap_cellR HX7.out).1
      rw [cntJ_len] at ho7 ⊢
      have HO7 := Lib.hid ho7
      clear hb7 hc5 hf5 hx5 hs6 hsx ho7
      go_wp2_with fail
      have el : l1.length + 1 = (l1 ++ [r]).length := by simp
      rw [el]
      refine (countRecords_any (some ⟨b, o, none⟩) (l1 ++ [r]) cB r.n w7 (by simp; rw [HP.out]; omega) HOB7.out.at).mono ?_
      rintro e w8 ⟨a8, c8, zs8, hz8, rfl, ho8, hb8⟩
      rw [HCC2.out, if_pos rfl] at hz8
      subst hz8
      rw [HCC2.out]
      have HB8 := Lib.hid (bt0 HB7.out hb8 (Nat.le_refl _))
      have HX8 := Lib.hid (blkK hb8 HX7.out)
      rw [cntJ_len] at ho8 ⊢
      have hx8 := blkLt HX8.out
      have hc8 := (heap_cellR HX8.out).1
      have ho7 := HO7.out.grown hb8
      obtain ⟨g7, rfl, -, -, hg7⟩ := ho7.block (by rw [cntJ_len]; decide)
      obtain ⟨g8, rfl, -, -, hg8⟩ := ho8.block (by rw [cntJ_len]; decide)
      obtain ⟨z7, hz7, hcz7, -⟩ := ho7.cellAt rfl (k := q) (by rw [cntJ_len]; exact hq4)
      obtain ⟨z8, hz8, hcz8, -⟩ := ho8.cellAt rfl (k := q) (by rw [cntJ_len]; exact hq4)
      obtain rfl : z7 = z := by rw [HZ1.out] at hz7; exact (Option.some.inj hz7).symm
      obtain rfl : z8 = z7 + 1 := by rw [HZ2.out] at hz8; exact (Option.some.inj hz8).symm
      have e8 : IntKind.i64.wrap (r.k - 1) = (q : Int) := by rw [HQ.out, show (q : Int) + 1 - 1 = (q : Int) by omega]; exact IntWalk.i64_in _ (by omega)
      have e9 : IntKind.i64.wrap (z7 + 1) = z7 + 1 := IntWalk.i64_in _ (by omega)
      have e10 : (z7 + 1 == z7 + 1) = true := by simp
      have hq4i : (q : Int) < 4 := by omega
      clear hb8 ho7 ho8 hz7 hz8 hc7 hx7 el
      go_wp2_with fail
      refine wp_region_ext (by kernel_rfl) (by kernel_rfl) ?_
      repeat (go_big_quiet_step (fail))
      refine wpQuiet_nil ?_
      rintro _ ⟨sy, rfl⟩
      have HB9 := Lib.hid (bt0 HB8.out sy.below (Nat.le_refl _))
      go_wp2_with fail
      go_ret
      exact ⟨rfl, HB9.out⟩
    · have e3 : (cd == 0) = false := by simpa using hc0
      have e4 : (cd != 0) = true := by simpa using hc0
      clear hc0
      go_wp2_with fail
      go_ret
      exact ⟨rfl, HB3.out⟩

end Go.Proofs.YtkmfgchbfchdbaaDoor
