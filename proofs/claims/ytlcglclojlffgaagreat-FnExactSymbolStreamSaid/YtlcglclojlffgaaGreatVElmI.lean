import Derived.Test.YtlcglclojlffgaaGreatVPckI
import Derived.Test.YtlcglclojlffgaaGreatVNumI
import Derived.Test.YtlcglclojlffgaaGreatM4
namespace Go.Proofs.YtlcglclojlffgaaGreat
open Go.RowKit Go.Conc

/-- a number is received -/
theorem opsTo_recvI (d : Option Tmp) {ops : Array Oper} {Q : Exit → Act → World → Prop} {i : Nat} {rest : List Nat} {o : Oper} {a : Act} {z : Int} {zz : Value} {w : World} {b n : Nat} {l : List Int} {cl : Bool} (ho : ops[i]? = some o) (hw : Region.wanted o (yielded ops a.tmps) = true)
    (hd : o.dst = d) (hr : (execOp a.eval o).run Tryz.prog w = .ok (.comm #[rcase b zz] true (.recv true)) w) (hc : ChAt w b n (z :: l) cl)
    (h : ∀ w', ChAt w' b n l cl → w.grownBy w' (some b) → OpsTo Tryz.prog ops Q rest (a.put d (.tuple #[.int .i64 z, .bool true])) w') : OpsTo Tryz.prog ops Q (i :: rest) a w := by
  subst hd
  have hl := hc.lt
  obtain ⟨s, r, hg⟩ := hc
  have h2 := h (w.setChan b n ((((z :: l).map (Value.int .i64)).toArray).extract 1 (((z :: l).map (Value.int .i64)).toArray).size) cl s (r + 1) false)
    ⟨s, r + 1, by rw [heap_setChan _ _ _ _ _ _ _ _ hl]; simp; exact List.take_of_length_le (by simp)⟩
    ⟨rfl, rfl, rfl, by simp [World.setChan], fun k hk hne => by
      simp only [World.setChan]
      rw [Array.getElem?_setIfInBounds_ne (fun e => hne (by rw [e]))]⟩
  refine opsTo_recv ho hw hr hg (by simp) ?_
  have e : ((((z :: l).map (Value.int .i64)).toArray).extract 1 (((z :: l).map (Value.int .i64)).toArray).size) = (l.map (Value.int .i64)).toArray := by
    simp
    exact List.take_of_length_le (by simp)
  simpa [got] using h2
theorem opsTo_shutI (d : Option Tmp) {ops : Array Oper} {Q : Exit → Act → World → Prop} {i : Nat} {rest : List Nat} {o : Oper} {a : Act} {zz : Value} {w : World} {b n : Nat} (ho : ops[i]? = some o) (hw : Region.wanted o (yielded ops a.tmps) = true)
    (hd : o.dst = d) (hr : (execOp a.eval o).run Tryz.prog w = .ok (.comm #[rcase b zz] true (.recv true)) w) (hc : ChAt w b n [] true)
    (h : OpsTo Tryz.prog ops Q rest (a.put d (.tuple #[zz, .bool false])) w) : OpsTo Tryz.prog ops Q (i :: rest) a w := by
  subst hd
  obtain ⟨s, r, hg⟩ := hc
  exact opsTo_shut ho hw hr hg (by simpa [got] using h)
theorem or_bit (n : Nat) (b : Int) (hn : n < 1000000) (hb : b = 0 ∨ b = 1) : bits .or .i64 ((n : Int) * 2) b = (n : Int) * 2 + b := by
  have e : (n : Int) * 2 = ((n * 2 : Nat) : Int) := by push_cast; rfl
  rcases hb with rfl | rfl
  · have h := or64 (n * 2) 0 (by omega) (by omega)
    rw [Nat.or_zero] at h
    rw [e]
    simpa using h
  · have h := or64 (n * 2) 1 (by omega) (by omega)
    have h2 : n * 2 ||| 1 = n * 2 + 1 := by
      have := Nat.shiftLeft_add_eq_or_of_lt (i := 1) (b := 1) (by omega) n
      rw [Nat.shiftLeft_eq] at this
      simpa using this.symm
    rw [h2] at h
    rw [e]
    have h3 : ((n * 2 + 1 : Nat) : Int) = ((n * 2 : Nat) : Int) + 1 := by push_cast; rfl
    rw [← h3]
    exact h
theorem grownBy_low {w W W' : World} {row : Option Nat} (h : w.grownBy W row) (hb : Below w.heap.size W W') : w.grownBy W' row := ⟨hb.os.trans h.os, hb.tape.trans h.tape, hb.output.trans h.output, Nat.le_trans h.size hb.size, fun k hk hne => (hb.block k hk).trans (h.block k hk hne)⟩
theorem ChAt.low {B : Nat} {w w' : World} {b n : Nat} {l : List Int} {cl : Bool} (h : ChAt w b n l cl) (hb : Below B w w') (hlt : b < B) : ChAt w' b n l cl := by
  obtain ⟨s, r, h⟩ := h
  exact ⟨s, r, (hb.block b hlt).trans h⟩
theorem mod_up {k w h : Nat} (hh : h = k % w) : (h + 1 = w → (k + 1) % w = 0) ∧ (h + 1 < w → (k + 1) % w = h + 1) := by
  have e := Nat.div_add_mod k w
  rw [← hh] at e
  refine ⟨fun h1 => ?_, fun h1 => ?_⟩
  · rw [show k + 1 = w * (k / w + 1) by rw [Nat.mul_add, Nat.mul_one]; omega]
    exact Nat.mul_mod_right _ _
  · rw [show k + 1 = w * (k / w) + (h + 1) by omega, Nat.mul_add_mod]
    exact Nat.mod_eq_of_lt h1
/-- elements of the call's own are handed back -/
def RetElems (cb : Nat) (m : List Int) (w : World) (e : Ending) (w' : World) : Prop := ∃ a c m', m' = m ∧ e = .returned (.slice a m'.length c) ∧ OwnI w' w.heap.size (.slice a m'.length c) m' ∧ w.grownBy w' (some cb)
set_option maxRecDepth 100000 in
set_option maxHeartbeats 4000000 in
theorem elementsOf_any (cb room wd : Nat) (l : List Int) (w : World) (hc : ChAt w cb room l true) (hl : Bits l) (hll : l.length ≤ 100000) (hw : 1 ≤ wd) (hw8 : wd ≤ 16) :
    Calls Tryz.prog 38 #[.chan (some cb), .int .i64 (wd : Int)] w (RetElems cb (elemsC wd l) w) := by
  have HC := Lib.hid hc
  have HL := Lib.hid hl
  have hcb := hc.lt
  clear hc hl
  refine calls_of_wpN Tryz.func38 rfl (fun _ h => by obtain ⟨_, _, _, _, h, _⟩ := h; cases h) ?_
  simp only [Tryz.ntmps38, List.size_toArray, List.length_cons, List.length_nil, Nat.reduceAdd, Nat.reduceSub, Array.replicate_succ, Array.replicate_zero, List.push_toArray, List.append_toArray, List.nil_append, List.cons_append]
  refine wpN_seq_wp ?_
  go_wp2_with fail
  refine wpN_seq_wp ?_
  go_wp2_with fail
  refine wpN_seq_wp ?_
  go_wp2_with fail
  refine wpN_seq (wpN_seq_wp ?_)
  go_wp2_with fail
  refine wpN_block (wpN_loop (fun (k : Nat) A W => ∃ (a' : Option Addr) (c' : Nat) (m : List Int) (n : Int) (u8 u11 u12 u13 u14 u15 u16 u17 u18 u19 u20 u21 u22 u23 u24 u25 u26 : Value), A = ⟨#[.chan (some cb), .int .i64 (wd : Int), undef, undef, .slice none 0 0, .slice a' m.length c', .int .i64 n, .int .i64 ((k % wd : Nat) : Int), u8, .slice (some ⟨w.heap.size, 0, none⟩) 0 0, .chan (some cb), u11, u12, u13, u14, u15, u16, u17, u18, u19, u20, u21, u22, u23, u24, u25, u26, undef], []⟩ ∧ m = elemsC wd (l.take k) ∧ n = numB ((l.take k).drop (k - k % wd)) ∧ ChAt W cb room (l.drop k) true ∧ OwnI W w.heap.size (.slice a' m.length c') m ∧ w.grownBy W (some cb)) l.length ?h0 ?hr)
  case h0 => exact ⟨_, _, [], 0, undef, undef, undef, undef, undef, undef, undef, undef, undef, undef, undef, undef, undef, undef, undef, undef, undef, by simp, by simp [elemsC], by simp [numB], by simpa using HC.out.below (ba1 _ _), World.ownsRow_lit (base := w.heap.size) (size := 1) w #[] 0 (Nat.le_refl _) (by unfold maxLen; omega) rfl, grownBy_below (ba1 _ _) _⟩
  case hr =>
    rintro k A W hk ⟨a', c', m, n, u8, u11, u12, u13, u14, u15, u16, u17, u18, u19, u20, u21, u22, u23, u24, u25, u26, rfl, hm, hn, hc, ho, hg⟩
    have hml : m.length ≤ 100000 := by rw [hm, elemsC_len]; exact Nat.le_trans (Nat.div_le_self _ _) (by rw [List.length_take]; omega)
    have HM := Lib.hid hm
    have HN := Lib.hid hn
    have HCk := Lib.hid hc
    have HO := Lib.hid ho
    have HG := Lib.hid hg
    have hmod : k % wd < wd := Nat.mod_lt _ (by omega)
    have hws : w.heap.size ≤ W.heap.size := hg.size
    clear hm hc ho hg
    refine wpN_seq (wpN_region_l [0, 1] rfl ?_)
    by_cases hlt : k < l.length
    · obtain ⟨z, hz⟩ : ∃ z, l[k]? = some z := ⟨_, List.getElem?_eq_getElem hlt⟩
      have hzb := HL.out z (List.mem_of_getElem? hz)
      have hdr : l.drop k = z :: l.drop (k + 1) := by
        obtain ⟨h1, e⟩ := List.getElem?_eq_some_iff.1 hz
        rw [List.drop_eq_getElem_cons h1, e]
      have HZ := Lib.hid hz
      rw [hdr] at HCk
      refine opsTo_recvI (some 11) (zz := .int .i64 0) rfl rfl rfl (by simp [go_sem, rcase]) HCk.out ?_
      intro w5 hc5 hg5
      have HC5 := Lib.hid hc5
      have HO5 := Lib.hid (HO.out.other hg5 (fun j e h => by have := HO.out.lo j e; have := Option.some.inj h; omega))
      have HG5 := Lib.hid (grownBy_trans HG.out hg5)
      have hs5 : w.heap.size ≤ w5.heap.size := Nat.le_trans hws hg5.size
      clear hc5 hg5 hdr hz
      simp only [Act.put, List.setIfInBounds_toArray, List.set_cons_zero, List.set_cons_succ]
      refine opsTo_valD (some 12) rfl rfl rfl rfl ?_
      simp only [Act.put, List.setIfInBounds_toArray, List.set_cons_zero, List.set_cons_succ]
      refine opsTo_nil ?_
      show wpN _ _ _ _ _
      refine wpN_of_wp ?_
      obtain ⟨nn, hnn⟩ : ∃ nn : Nat, n = (nn : Int) ∧ nn < 2 ^ (k % wd) := by
        have hb := numB_bd (k % wd) ((l.take k).drop (k - k % wd)) (by rw [List.length_drop, List.length_take]; have := Nat.mod_le k wd; omega) (fun b hb => HL.out b (List.mem_of_mem_take (List.mem_of_mem_drop hb)))
        rw [← hn] at hb
        refine ⟨n.toNat, by omega, ?_⟩
        have h2 := hb.2
        have : ((2 : Int) ^ (k % wd)) = ((2 ^ (k % wd) : Nat) : Int) := by push_cast; rfl
        rw [this] at h2
        omega
      obtain ⟨rfl, hnb⟩ := hnn
      have hpw : 2 ^ (k % wd) ≤ 2 ^ 16 := Nat.pow_le_pow_right (by decide) (by omega)
      have hnb2 : nn < 65536 := by omega
      have hor := or_bit nn z (by omega) hzb
      have hz01 : 0 ≤ z ∧ z ≤ 1 := by omega
      have HPS := Lib.hid (part_snoc (w := wd) HZ.out)
      rw [← HN.out] at HPS
      clear hpw hnb hn hzb
      obtain ⟨h, hh⟩ : ∃ h, h = k % wd := ⟨_, rfl⟩
      rw [← hh]
      have HH := Lib.hid hh
      rw [← hh] at hmod
      clear hh
      by_cases hwh : h + 1 = wd
      · have hq : ((h : Int) + 1 == (wd : Int)) = true := by rw [beq_iff_eq]; omega
        have HE := Lib.hid (elemsC_take_whole hw hlt (by rw [← HH.out]; exact hwh))
        rw [HPS.out] at HE
        go_wp2_with (at_builtin; go_loud (refine wpList_append_i1a (o := _) rfl (.tmp 23) (.tmp 25) 24 Tryz.underlying24 rfl w.heap.size (.slice a' m.length c') m ((nn : Int) * 2 + z) rfl (HO5.out.grown (ba1 _ _)) w5.heap.size rfl (push_at _ _) (by omega) (by simp; omega) ?_); intro a8 c8 l8 w8 he8 hm8; have HE8 := Lib.hid he8; have HM8 := Lib.hid hm8; clear he8 hm8)
        have HB8 := Lib.hid (bt0 (Below.refl _ _) (ba1 w5 (.cells #[.int .i64 ((nn : Int) * 2 + z)] 2 (0, 0))) hs5 |>.trans HM8.out.below)
        have hm1 := (mod_up HH.out).1 hwh
        rw [hm1]
        refine ⟨by omega, a8, c8, l8, 0, _, _, _, _, _, _, _, _, _, _, _, _, _, _, _, _, _, rfl, by rw [HE8.out, HM.out, HE.out], ?_, HC5.out.low HB8.out hcb, HM8.out.own, grownBy_low HG5.out HB8.out⟩
        rw [Nat.sub_zero, List.drop_eq_nil_of_le (by rw [List.length_take]; omega)]; rfl
      · have hq : ((h : Int) + 1 == (wd : Int)) = false := by rw [beq_eq_false_iff_ne]; omega
        have HE := Lib.hid (elemsC_take_part hw hlt (by rw [← HH.out]; omega))
        have hm1 := (mod_up HH.out).2 (by omega)
        go_wp2_with fail
        rw [hm1]
        refine ⟨by omega, a', c', m, _, _, _, _, _, _, _, _, _, _, _, _, _, _, _, _, _, _, by congr, by rw [HE.out, HM.out], ?_, HC5.out, HO5.out, HG5.out⟩
        rw [show k + 1 - (h + 1) = k - k % wd by rw [← HH.out]; omega, HPS.out]
    · obtain rfl : k = l.length := by omega
      rw [List.drop_eq_nil_of_le (Nat.le_refl _)] at HCk
      refine opsTo_shutI (some 11) (zz := .int .i64 0) rfl rfl rfl (by simp [go_sem, rcase]) HCk.out ?_
      simp only [Act.put, List.setIfInBounds_toArray, List.set_cons_zero, List.set_cons_succ]
      refine opsTo_valD (some 12) rfl rfl rfl rfl ?_
      simp only [Act.put, List.setIfInBounds_toArray, List.set_cons_zero, List.set_cons_succ]
      refine opsTo_nil ?_
      show wpN _ _ _ _ _
      refine wpN_of_wp ?_
      rw [List.take_of_length_le (Nat.le_refl _)] at HM
      go_wp2_with fail
      refine wpN_of_wp ?_
      go_wp2_with fail
      refine bodyPost_ret (v := .slice a' m.length c') (by simp [results, Tryz.results38, go_sem]) rfl ?_
      exact ⟨a', c', m, HM.out, rfl, HO.out, HG.out⟩

end Go.Proofs.YtlcglclojlffgaaGreat
