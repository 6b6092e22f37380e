import Derived.Test.YtlcglclojlffgaaGreatVSpSd
namespace Go.Proofs.YtlcglclojlffgaaGreat
open Go.RowKit

theorem OwnI.cap0 {w : World} {base : Nat} {a : Option Addr} {n c : Nat} {xs : List Int} (h : OwnI w base (.slice a n c) xs) : a = none → c = 0 := by
  intro e
  rcases h.2 with ⟨h1, h2⟩ | ⟨g, cap, cur, h1, r⟩
  · simp only [Value.slice.injEq] at h1; exact h1.2.2
  · simp only [Value.slice.injEq] at h1; rw [e] at h1; cases h1.1
/-- append of a list to an empty one of the call's own -/
theorem wpList_append_cp {ops : Array Oper} {rest : List Oper} {o : Oper} {a : Act} {Q : Exit → Act → World → Prop} {W : World} (hgd : o.guard = none) (s x : Operand)
    (ho : o.op = .call { callee := .builtin .append, args := #[s, x], argTypes := #[24, 24] })
    (base : Nat) (g : Nat) (hs : a.eval s = .slice (some ⟨g, 0, none⟩) 0 0) (hown : OwnI W base (.slice (some ⟨g, 0, none⟩) 0 0) []) (ax : Option Addr) (c n : Nat) (xs : List Int) (hn : n = xs.length) (hx : a.eval x = .slice ax n c) (hI : IntsAt W ax xs) (hS : Slc ax xs) (hcz : ax = none → c = 0) (hl : xs.length ≤ 1000000000) (hb : base ≤ W.heap.size)
    (h : ∀ a' c' xs' w', xs' = xs → OwnI w' base (.slice a' xs'.length c') xs' → Below base W w' → wpList Tryz.prog ops Q rest (a.put o.dst (.slice a' xs'.length c')) w') : wpList Tryz.prog ops Q (o :: rest) a W := by
  subst hn
  obtain ⟨i0, hi, y0, y1, y2⟩ := info_parts infoI
  obtain ⟨ha, hn⟩ := hS
  cases ax with
  | none =>
    obtain rfl := hn rfl
    obtain rfl := hcz rfl
    refine wpList_append_own_none hgd s x 24 ho base 2 i0 1 Tryz.underlying24 hi _ _ _ hs hown hx ?_
    exact h _ _ _ _ rfl hown (Below.refl _ _)
  | some ad =>
    obtain ⟨b, o', sp⟩ := ad
    obtain rfl := ha _ rfl
    refine wpList_append_own _ hgd s x 24 ho base 2 i0 (.int .i64 0) 1 8 Tryz.underlying24 hi y0 y1 y2 rfl (by decide) _ _ _ hs hown ⟨b, o', none⟩ xs.length c (xs.map (Value.int .i64)) hx (by simp) (ints_at hI) (ints_one _) (by simp only [List.length_nil]; unfold maxLen; omega) (by simp only [List.length_nil]; omega) hb ?_
    intro v' w1 h1 h2 _
    have ho := own_app h1 (by simp only [List.length_nil]; omega)
    obtain ⟨a', c', e, _⟩ := ho.read
    rw [e] at ho ⊢
    exact h a' c' _ w1 rfl ho (below_of_grownBy h2 hb (fun k hk => hown.lo k hk))
theorem bit_val (v k : Nat) (hv : v < 2 ^ 62) : bits .and .i64 ((v : Int) / 2 ^ k) 1 = (((v >>> k) % 2 : Nat) : Int) := by
  have e : ((v : Int) / 2 ^ k) = ((v / 2 ^ k : Nat) : Int) := by push_cast; rfl
  have h : v / 2 ^ k ≤ v := Nat.div_le_self _ _
  rw [e, Nat.shiftRight_eq_div_pow]
  generalize v / 2 ^ k = q at *
  rw [andOne _ (by omega) (by omega)]
  push_cast; rfl
/-- the first j bits of a number -/
theorem bitsC_take (v w j : Nat) (hj : j < w) : (bitsC v w).take (j + 1) = (bitsC v w).take j ++ [(((v >>> (w - 1 - j)) % 2 : Nat) : Int)] := by
  refine take_snoc' ?_
  unfold bitsC
  rw [List.getElem?_map, List.getElem?_range hj]
  rfl
set_option maxRecDepth 100000 in
set_option maxHeartbeats 1000000 in
theorem spApp_any (a : Option Addr) (xs : List Int) (n c v wd : Nat) (w : World) (hn : n = xs.length) (hx : IntsAt w a xs) (hs : Slc a xs) (hcz : a = none → c = 0) (hl : xs.length ≤ 100000) (hv : v < 2 ^ 62) (hw : wd ≤ 62) :
    Calls Tryz.prog 119 #[.slice a n c, .int .i64 (v : Int), .int .i64 (wd : Int)] w (RetSl w (xs ++ bitsC v wd)) := by
  subst hn
  have HX := Lib.hid (hx.below (ba1 w (.cells #[] 2 (0, 0))))
  have HS := Lib.hid hs
  have HO := Lib.hid (own_emptyB (w := w) (B := w.heap.size) (Nat.le_refl _) rfl)
  clear hx hs
  go_enter Tryz.func119, Tryz.ntmps119
  go_wp2_with (at_builtin; refine wpList_append_cp rfl (.tmp 9) (.tmp 10) rfl w.heap.size w.heap.size rfl HO.out a c _ xs rfl rfl HX.out HS.out hcz (by omega) (by simp) ?h9)
  case h9 =>
    intro a1 c1 l1 w1 he1 ho1 hb1
    have HE1 := Lib.hid he1
    have HO1 := Lib.hid ho1
    have HB1 := Lib.hid ((ba1 w (.cells #[] 2 (0, 0))).trans hb1)
    clear he1 ho1 hb1
    go_wp2_with fail
    go_loopw [7, 8] (fun u i wr => ∃ (k : Nat) (a2 : Option Addr) (c2 : Nat) (l2 : List Int), k ≤ wd ∧ i = .int .i64 ((k : Int) - 1) ∧ l2 = xs ++ (bitsC v wd).take (wd - k) ∧ u = .slice a2 l2.length c2 ∧ OwnI wr w.heap.size (.slice a2 l2.length c2) l2 ∧ Below w.heap.size w wr) (fun _ i _ => (intOf i + 1).toNat)
    case atStart => exact ⟨wd, a1, c1, l1, Nat.le_refl _, rfl, by rw [HE1.out, Nat.sub_self]; simp, rfl, HO1.out, HB1.out⟩
    case round =>
      obtain ⟨k, a2, c2, l2, hk, rfl, hl2, rfl, ho, hb⟩ := hrel
      have HL2 := Lib.hid hl2
      have HO2 := Lib.hid ho
      have HB2 := Lib.hid hb
      have hll : l2.length ≤ 1000000 := by
        rw [hl2, List.length_append, List.length_take, bitsC_len]; omega
      clear ho hb hl2
      rcases k with - | k
      · have e1 : (((0 : Nat) : Int) - 1) = -1 := by omega
        rw [e1]
        clear e1
        have HEE := Lib.hid (show l2 = xs ++ bitsC v wd by rw [HL2.out, Nat.sub_zero, List.take_of_length_le (by rw [bitsC_len]; exact Nat.le_refl _)])
        go_wp2_with fail
        go_ret
        rw [← HEE.out]
        exact ⟨a2, c2, rfl, HO2.out, HB2.out⟩
      · have e1 : (((k + 1 : Nat) : Int) - 1) = (k : Int) := by omega
        rw [e1]
        clear e1
        have HST := Lib.hid (show xs ++ (bitsC v wd).take (wd - k) = l2 ++ [(((v >>> k) % 2 : Nat) : Int)] by
          rw [HL2.out, show wd - k = (wd - (k + 1)) + 1 by omega, bitsC_take v wd _ (by omega), show wd - 1 - (wd - (k + 1)) = k by omega, List.append_assoc])
        have hbit := bit_val v k hv
        obtain ⟨z, hz⟩ : ∃ z : Nat, z = (v >>> k) % 2 := ⟨_, rfl⟩
        rw [← hz] at HST hbit
        have HP := Lib.hid (push_at wr (.cells #[.int .i64 (z : Int)] 2 (0, 0)))
        have HO3 := Lib.hid (HO2.out.grown (ba1 wr (.cells #[.int .i64 (z : Int)] 2 (0, 0))))
        have HB3 := Lib.hid (bt0 HB2.out (ba1 wr (.cells #[.int .i64 (z : Int)] 2 (0, 0))) (Nat.le_refl _))
        clear hz
        go_wp2_with (at_builtin; refine wpList_append_i1 rfl (.tmp 18) (.tmp 24) 24 Tryz.underlying24 rfl w.heap.size (.slice a2 l2.length c2) l2 (z : Int) rfl HO3.out wr.heap.size rfl HP.out (by omega) HB3.out.size ?h9)
        case h9 =>
          intro a5 c5 l5 w5 he5 ho5 hg5 hb5
          have HE5 := Lib.hid he5
          have HO5 := Lib.hid ho5
          have HB5 := Lib.hid (HB3.out.trans hb5)
          clear he5 ho5 hg5 hb5
          go_wp2_with fail
          exact ⟨⟨k, a5, c5, l5, by omega, by go_num, by rw [HE5.out, HST.out], rfl, HO5.out, HB5.out⟩, by simp [intOf]⟩

end Go.Proofs.YtlcglclojlffgaaGreat
