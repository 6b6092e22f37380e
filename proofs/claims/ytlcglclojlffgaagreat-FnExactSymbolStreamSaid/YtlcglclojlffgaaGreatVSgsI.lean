import Derived.Test.YtlcglclojlffgaaGreatVChoI
import Derived.Test.YtlcglclojlffgaaGreatVOwnS
namespace Go.Proofs.YtlcglclojlffgaaGreat
open Go.RowKit

theorem ext_bytes (s : ByteArray) (f k : Nat) : s.extract f k = ⟨((s.data.toList.drop f).take (k - f)).toArray⟩ := by
  have h : (s.extract f k).data.toList = (s.data.toList.drop f).take (k - f) := by simp [Array.toList_extract]
  rw [← h]
/-- a new slice of one thing, of the region's own -/
def SlcK (B : Nat) (cs : Array Value) (t : TypeId) (v : Value) (W : World) : Prop := ∃ b, v = .slice (some ⟨b, 0, none⟩) 1 1 ∧ B ≤ b ∧ W.heap[b]? = some (.cells cs t (0, 0))
def spSlc (B : Nat) (cs : Array Value) (t : TypeId) : Sp KB := ⟨SlcK B cs t, fun _ _ _ hk ⟨b, hv, hb, hg⟩ => ⟨b, hv, hb, blkK hk hg⟩⟩
theorem slc_new {w0 W : World} {B : Nat} {cs : Array Value} {t : TypeId} (hst : StX w0 W) (hB : B ≤ w0.heap.size) : RsR (StX w0) (spSlc B cs t) W (.slice (some ⟨W.heap.size, 0, none⟩) 1 1) (W.alloc (.cells cs t (0, 0))) :=
  kb_below hst (ba1 _ _) ⟨W.heap.size, rfl, Nat.le_trans hB hst.size, push_at _ _⟩
/-- rows of segments -/
def sgE : Enc (Nat × List UInt8) where
  enc x := [.int .i64 (x.1 : Int), .string ⟨x.2.toArray⟩]
  k := 2
  t := 108
  bytes := 24
  len _ := rfl
  one := by
    intro r u hu
    simp only [List.mem_cons, List.not_mem_nil, or_false] at hu
    rcases hu with rfl | rfl <;> rfl
  pos := by decide
theorem infoSg : (Tryz.prog.info? 108).map (fun i => (i.zero, i.size, i.bytes)) = some (some (.agg #[.int .i64 0, .string ⟨#[]⟩]), 2, 24) := by kernel_rfl
theorem sg_at {w : World} {a : Option Addr} {l : List (Nat × List UInt8)} (h : sgE.At w a l) {i : Nat} {r : Nat × List UInt8} (hr : l[i]? = some r) : ∃ b o, a = some ⟨b, o, none⟩ ∧ b < w.heap.size ∧ w.cell? ⟨b, o + i * 2, none⟩ = some (.int .i64 (r.1 : Int)) ∧ w.cell? ⟨b, o + i * 2 + 1, none⟩ = some (.string ⟨r.2.toArray⟩) := by
  obtain ⟨b, o, e, hc⟩ := h i r hr
  have h0 : w.cell? ⟨b, o + i * 2, none⟩ = some (.int .i64 (r.1 : Int)) := hc 0 _ rfl
  exact ⟨b, o, e, lt_of_cell h0, h0, hc 1 _ rfl⟩
theorem wpList_append_sg {ops : Array Oper} {rest : List Oper} {o : Oper} {a : Act} {Q : Exit → Act → World → Prop} {W : World} (hgd : o.guard = none) (s x : Operand)
    (ho : o.op = .call { callee := .builtin .append, args := #[s, x], argTypes := #[105, 105] })
    (base : Nat) (v : Value) (xs : List (Nat × List UInt8)) (y : Nat × List UInt8) (hs : a.eval s = v) (hown : sgE.Own W base v xs) (g : Nat) (hx : a.eval x = .slice (some ⟨g, 0, none⟩) 1 1)
    (hg : W.heap[g]? = some (.cells #[.int .i64 (y.1 : Int), .string ⟨y.2.toArray⟩] 108 (0, 0))) (hl : xs.length ≤ 1000000000) (hb : base ≤ W.heap.size)
    (h : ∀ a' c' xs' w', xs' = xs ++ [y] → sgE.Own w' base (.slice a' xs'.length c') xs' → W.grownBy w' v.ownBlock → Below base W w' → wpList Tryz.prog ops Q rest (a.put o.dst (.slice a' xs'.length c')) w') : wpList Tryz.prog ops Q (o :: rest) a W := by
  obtain ⟨i0, hi, y0, y1, y2⟩ := info_parts infoSg
  exact wpList_append_e sgE hgd s x _ ho Tryz.underlying105 i0 _ hi y0 y1 y2 rfl (by decide) base v xs y hs hown g _ hx hg rfl hl hb h
set_option maxRecDepth 100000 in
set_option maxHeartbeats 1000000 in
theorem bestLength_any (s : ByteArray) (w : World) (hs : s.size ≤ 400) :
    Calls Tryz.prog 37 #[.string s] w fun e w' => e = .returned (.int .i64 (hdC s.data.toList).l) ∧ Below w.heap.size w w' := by
  go_enter Tryz.func37, Tryz.ntmps37
  go_wp2_with fail
  refine (choices_any s _ hs).mono ?_
  rintro e w1 ⟨rfl, ht, hb⟩
  obtain ⟨x1, -, -, -, -⟩ := ht.cell (i := 0) (by omega)
  rw [Nat.zero_mul] at x1
  have e0 : tabF s.data.toList 0 0 = hdC s.data.toList := by simp [tabF]
  rw [e0] at x1
  obtain ⟨X, hX⟩ : ∃ X, X = (hdC s.data.toList).l := ⟨_, rfl⟩
  rw [← hX] at x1
  have HX := Lib.hid hX
  have hlt := ht.lt
  have HB := Lib.hid hb
  have h0 : (0 : Int) < (s.size : Int) + 1 := by omega
  clear ht hb e0 hX
  go_wp2_with fail
  go_ret
  exact ⟨ret_int HX.out, HB.out⟩
/-- segments of the call's own are handed back -/
def RetSg (w : World) (l : List (Nat × List UInt8)) (e : Ending) (w' : World) : Prop := ∃ a c, e = .returned (.slice a l.length c) ∧ sgE.Own w' w.heap.size (.slice a l.length c) l ∧ Below w.heap.size w w'
set_option maxRecDepth 100000 in
set_option maxHeartbeats 4000000 in
theorem bestSegments_any (s : ByteArray) (w : World) (hs : s.size ≤ 400) :
    Calls Tryz.prog 77 #[.string s] w (RetSg w (segsC s.data.toList)) := by
  obtain ⟨S, hS⟩ : ∃ S, S = s.data.toList := ⟨_, rfl⟩
  have hSl : S.length = s.size := by rw [hS]; rfl
  have HS := Lib.hid hS
  have HSL := Lib.hid hSl
  rw [← hS]
  clear hS hSl
  go_enter Tryz.func77, Tryz.ntmps77
  go_wp2_with fail
  refine (choices_any s _ hs).mono ?_
  rintro e w1 ⟨rfl, ht, hb⟩
  have HT := Lib.hid ht
  have HB := Lib.hid hb
  clear ht hb
  go_wp2_with fail
  go_loopw [4, 5, 6] (fun v i _ wr => ∃ (k : Nat) (a : Option Addr) (cp : Nat) (out : List (Nat × List UInt8)), k ≤ s.size ∧ i = .int .i64 k ∧ v = .slice a out.length cp ∧ out ++ segsC (S.drop k) = segsC S ∧ out.length ≤ k ∧ sgE.Own wr w1.heap.size (.slice a out.length cp) out ∧ Below w1.heap.size w1 wr) (fun _ i _ _ => s.size - (intOf i).toNat)
  case atStart => exact ⟨0, _, _, [], Nat.zero_le _, rfl, rfl, rfl, Nat.le_refl _, Enc.Own.new sgE w1, ba1 _ _⟩
  case round =>
    obtain ⟨k, a, cp, out, hk, rfl, rfl, ho, hol, hown, hbr⟩ := hrel
    have HO := Lib.hid ho
    have HW := Lib.hid hown
    have HBr := Lib.hid hbr
    clear ho hown hbr
    by_cases hlt : k < s.size
    · have hki : (k : Int) < (s.size : Int) := by omega
      have hki2 : (k : Int) < (s.size : Int) + 1 := by omega
      obtain ⟨x1, x2, x3, x4, -⟩ := (HT.out.below HBr.out).cell (i := k) (by omega)
      have etf : tabF s.data.toList 0 k = hdC (S.drop k) := by unfold tabF; rw [if_neg (by omega), HS.out]
      have hne : S.drop k ≠ [] := fun e => by have := congrArg List.length e; rw [List.length_drop, HSL.out] at this; simp at this; omega
      obtain ⟨n, m, ht, hm, hn1, hnl, hn255, hm1, hm4, -, -, -⟩ := (hdC_ok hne).t
      rw [List.length_drop, HSL.out] at hnl
      have HSg := Lib.hid (show segsC (S.drop k) = (m, (S.drop k).take n) :: segsC (S.drop (k + n)) by
        cases hd : S.drop k with
        | nil => exact absurd hd hne
        | cons c l =>
          rw [hd] at ht hm
          rw [segsC_cons, ht, hm, ← hd, List.drop_drop]; rfl)
      obtain ⟨⟨yl, yc, yt, ym⟩, hye⟩ : ∃ x : Ch, x = hdC (S.drop k) := ⟨_, rfl⟩
      rw [etf, ← hye] at x1 x2 x3 x4
      rw [← hye] at ht hm
      dsimp only at x1 x2 x3 x4 ht hm
      subst ht hm
      have hlg := HT.out.lt
      have hlg2 : w.heap.size < wr.heap.size := by have := HBr.out.size; omega
      clear etf hne hye
      go_wp2_with fail
      obtain ⟨xb, hxb⟩ : ∃ xb, xb = wr.heap.size := ⟨_, rfl⟩
      obtain ⟨w6, hw6⟩ : ∃ w6, w6 = wr.alloc (.cells #[.int .i64 yl, .int .i64 yc, .int .i64 (n : Int), .int .i64 (m : Int)] 100 (0, 0)) := ⟨_, rfl⟩
      have hx2 : w6.cell? ⟨xb, 2, none⟩ = some (.int .i64 (n : Int)) := by rw [hw6, hxb, (heap_cellR (push_at _ _)).1]; rfl
      have hx3 : w6.cell? ⟨xb, 3, none⟩ = some (.int .i64 (m : Int)) := by rw [hw6, hxb, (heap_cellR (push_at _ _)).1]; rfl
      have HB6 := Lib.hid (show Below w1.heap.size w1 w6 by rw [hw6]; exact bt0 HBr.out (ba1 _ _) (Nat.le_refl _))
      have HW6 := Lib.hid (show sgE.Own w6 w1.heap.size (.slice a out.length cp) out by rw [hw6]; exact HW.out.grown (ba1 _ _))
      have hs6 := HB6.out.size
      have HNE := Lib.hid (fun j (e : (Value.slice a out.length cp).ownBlock = some j) => show j < xb by rw [hxb]; exact HW.out.hi j e)
      have hx6 : xb < w6.heap.size := by rw [hw6, hxb]; simp
      obtain ⟨q, hq⟩ : ∃ q, q = k + n := ⟨_, rfl⟩
      have hqi : (k : Int) + (n : Int) = (q : Int) := by omega
      have hqs : q ≤ s.size := by omega
      have hkq : k ≤ q := by omega
      have HQ := Lib.hid hq
      try rw [← hw6]
      try rw [← hxb]
      clear hw6 hxb hq
      refine wp_region_rt (Keep := KB) [18, 19, 20, 21, 22, 23, 24, 25, 26, 27, 28, 29] (fun us => _)
        [spE (.slice a out.length cp),
         spE (.pointer (some ⟨xb, 3, none⟩)),
         spE (.int .i64 (m : Int)),
         spE (.string s),
         spE (.int .i64 (k : Int)),
         spE (.int .i64 (k : Int)),
         spE (.pointer (some ⟨xb, 2, none⟩)),
         spE (.int .i64 (n : Int)),
         spE (.int .i64 (q : Int)),
         spE (.string (s.extract k q)),
         spE (.agg #[.int .i64 (m : Int), .string (s.extract k q)]),
         spSlc (w1.heap.size) #[.int .i64 (m : Int), .string (s.extract k q)] 108]
        (StX w6) (by kernel_rfl) (by kernel_rfl) (Nat.le_of_ble_eq_true rfl) (fun us => by simp [over, List.mapIdx_cons]; exact rfl) (stX0 _) kbr ?_ ?_
      · refine ⟨?_, ?_, ?_, ?_, ?_, ?_, ?_, ?_, ?_, ?_, ?_, ?_, trivial⟩
        all_goals (intro us wx hst hd; rw [if_pos (by kernel_rfl)]; dsimp only)
        · clear hd
          go_simp
          exact kb_same hst rfl
        · clear hd
          go_simp
          exact kb_same hst rfl
        · have d19 : us 19 = (.pointer (some ⟨xb, 3, none⟩)) := hd ⟨1, .data⟩ (by simp) rfl
          clear hd
          have hW := below_cell hst hx3
          go_simp
          exact kb_same hst rfl
        · clear hd
          go_simp
          exact kb_same hst rfl
        · clear hd
          go_simp
          exact kb_same hst rfl
        · clear hd
          go_simp
          exact kb_same hst rfl
        · clear hd
          go_simp
          exact kb_same hst rfl
        · have d24 : us 24 = (.pointer (some ⟨xb, 2, none⟩)) := hd ⟨6, .data⟩ (by simp) rfl
          clear hd
          have hW := below_cell hst hx2
          go_simp
          exact kb_same hst rfl
        · have d23 : us 23 = (.int .i64 (k : Int)) := hd ⟨5, .data⟩ (by simp) rfl
          have d25 : us 25 = (.int .i64 (n : Int)) := hd ⟨7, .data⟩ (by simp) rfl
          clear hd
          have hw : IntKind.i64.wrap (q : Int) = q := by rw [IntKind.wrap_i64]; omega
          go_simp
          exact kb_same hst rfl
        · have d21 : us 21 = (.string s) := hd ⟨3, .data⟩ (by simp) rfl
          have d22 : us 22 = (.int .i64 (k : Int)) := hd ⟨4, .data⟩ (by simp) rfl
          have d26 : us 26 = (.int .i64 (q : Int)) := hd ⟨8, .data⟩ (by simp) rfl
          clear hd
          go_simp
          exact kb_same hst rfl
        · have d20 : us 20 = (.int .i64 (m : Int)) := hd ⟨2, .data⟩ (by simp) rfl
          have d27 : us 27 = (.string (s.extract k q)) := hd ⟨9, .data⟩ (by simp) rfl
          clear hd
          go_simp
          exact kb_same hst rfl
        · have d28 : us 28 = (.agg #[.int .i64 (m : Int), .string (s.extract k q)]) := hd ⟨10, .data⟩ (by simp) rfl
          clear hd
          go_simp
          exact slc_new hst (by omega)
      · intro us wx hst hd
        have d18 : us 18 = (.slice a out.length cp) := hd 0 (by simp)
        have d29 := hd 11 (by simp)
        clear hd
        simp only [List.drop, List.length]
        rw [d18]
        obtain ⟨xs, hxs, hxs1, hxg⟩ := d29
        rw [hxs]
        have hXS := Lib.hid (show (⟨((S.drop k).take n).toArray⟩ : ByteArray) = s.extract k q by rw [ext_bytes, HS.out, HQ.out, Nat.add_sub_cancel_left])
        have hsx := hst.size
        have HWx := Lib.hid (HW6.out.grown hst)
        have HBx := Lib.hid (bt0 HB6.out hst (Nat.le_refl _))
        have hy2 := below_cell hst hx2
        clear hx2 hx3 d18
        refine wpList_append_sg rfl (.tmp 18) (.tmp 29) rfl w1.heap.size (.slice a out.length cp) out (m, (S.drop k).take n) rfl HWx.out xs rfl (by dsimp only; rw [hXS.out]; exact hxg) (by omega) (by omega) ?_
        intro a9 c9 l9 w9 he9 ho9 hg9 hb9
        have HE9 := Lib.hid he9
        have hy3 : w9.cell? ⟨xb, 2, none⟩ = some (.int .i64 (n : Int)) := by
          rw [← hy2]
          simp only [World.cell?]
          rw [hg9.block xb (by omega) (fun e => Nat.lt_irrefl _ (HNE.out xb e.symm))]
        have hx9 : xb < w9.heap.size := by have := hg9.size; omega
        clear he9
        go_wp2_with fail
        refine ⟨⟨q, a9, c9, l9, by omega, by go_num, rfl, ?_, ?_, ho9, HBx.out.trans hb9⟩, by simp [intOf]; omega⟩
        · rw [HE9.out, ← HO.out, HSg.out, HQ.out, List.append_assoc]; rfl
        · rw [HE9.out, List.length_append]; simp; omega
    · have hki : ¬ (k : Int) < (s.size : Int) := by omega
      have HF := Lib.hid (show out = segsC S by
        have h := HO.out
        rw [List.drop_eq_nil_of_le (by rw [HSL.out]; omega)] at h
        simpa [segsC, segsF] using h)
      go_wp2_with fail
      go_ret
      refine ⟨a, cp, by rw [← HF.out]; rfl, ?_, HB.out.trans (HBr.out.mono HB.out.size)⟩
      rw [← HF.out]
      exact HW.out.weak HB.out.size

end Go.Proofs.YtlcglclojlffgaaGreat
