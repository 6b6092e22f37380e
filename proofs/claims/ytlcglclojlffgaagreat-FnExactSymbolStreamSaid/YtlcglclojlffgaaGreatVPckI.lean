import Derived.Test.YtlcglclojlffgaaGreatVPakP
import Derived.Test.YtlcglclojlffgaaGreatVChP
import Derived.Test.YtlcglclojlffgaaGreatM0
namespace Go.Proofs.YtlcglclojlffgaaGreat
open Go.RowKit Go.Conc

theorem chan_info : ∃ i, Tryz.prog.info? 2 = some i ∧ i.bytes = 8 := by
  have h : (Tryz.prog.info? 2).map (·.bytes) = some 8 := by kernel_rfl
  obtain ⟨i, hi, hb⟩ := Option.map_eq_some_iff.1 h
  exact ⟨i, hi, hb⟩
theorem make_chan (n : Nat) (hn : n ≤ 100000) (w : World) : (Instr.makeChan 103 (.int .i64 (n : Int))).run Tryz.prog w = .ok (.chan (some w.heap.size)) (w.alloc (.chan n #[] false 0 0 false)) := by
  obtain ⟨i, hi, hb⟩ := chan_info
  simpa using run_makeChan (P := Tryz.prog) (w := w) Tryz.underlying103 hi .i64 n (by omega) (by rw [hb]; omega)
/-- a channel with room for n numbers holds l -/
def ChAt (w : World) (b n : Nat) (l : List Int) (cl : Bool) : Prop := ∃ s r, w.heap[b]? = some (.chan n (l.map (Value.int .i64)).toArray cl s r false)
theorem ChAt.lt {w : World} {b n : Nat} {l : List Int} {cl : Bool} (h : ChAt w b n l cl) : b < w.heap.size := by
  obtain ⟨s, r, h⟩ := h
  exact (Array.getElem?_eq_some_iff.1 h).1
theorem ChAt.below {w w' : World} {b n : Nat} {l : List Int} {cl : Bool} (h : ChAt w b n l cl) (hb : Below w.heap.size w w') : ChAt w' b n l cl := by
  have hl := h.lt
  obtain ⟨s, r, h⟩ := h
  exact ⟨s, r, (hb.block b hl).trans h⟩
/-- a number is sent -/
theorem opsTo_sendI {ops : Array Oper} {Q : Exit → Act → World → Prop} {i : Nat} {rest : List Nat} {o : Oper} {a : Act} {z : Int} {zz : Value} {w : World} {b n : Nat} {l : List Int} (ho : ops[i]? = some o) (hw : Region.wanted o (yielded ops a.tmps) = true)
    (hr : (execOp a.eval o).run Tryz.prog w = .ok (.comm #[scase b (.int .i64 z) zz] true .send) w) (hc : ChAt w b n l false) (hroom : l.length < n)
    (h : ∀ w', ChAt w' b n (l ++ [z]) false → (∀ B a0, Below B a0 w → B ≤ b → Below B a0 w') → (∀ k, k ≠ b → w'.heap[k]? = w.heap[k]?) → OpsTo Tryz.prog ops Q rest (a.put o.dst undef) w') : OpsTo Tryz.prog ops Q (i :: rest) a w := by
  have hl := hc.lt
  obtain ⟨s, r, hg⟩ := hc
  refine opsTo_send ho hw hr hg (by simpa using hroom) (h _ ⟨s + 1, r, ?_⟩ (fun B a0 hb hB => below_setChan hb hB _ _ _ _ _ _) (fun k hk => ?_))
  · rw [heap_setChan _ _ _ _ _ _ _ _ hl]
    simp
  · simp only [World.setChan]
    rw [Array.getElem?_setIfInBounds_ne (by omega)]
theorem patC_at (k : Nat) : (#[Value.int .i64 1, .int .i64 1, .int .i64 0, .int .i64 1, .int .i64 0, .int .i64 0] : Array Value)[k % 6]? = some (.int .i64 (patC k)) := by
  have h : k % 6 = 0 ∨ k % 6 = 1 ∨ k % 6 = 2 ∨ k % 6 = 3 ∨ k % 6 = 4 ∨ k % 6 = 5 := by omega
  unfold patC
  rcases h with h | h | h | h | h | h <;> rw [h] <;> simp
/-- the bits are handed back in a closed channel -/
def RetPack (room : Nat) (l : List Int) (w : World) (e : Ending) (w' : World) : Prop := e = .returned (.chan (some w.heap.size)) ∧ ChAt w' w.heap.size room l true ∧ Below w.heap.size w w'
set_option maxRecDepth 100000 in
set_option maxHeartbeats 4000000 in
theorem pack_any (a : Option Addr) (bits : List Int) (c room : Nat) (w : World) (hx : IntsAt w a bits) (hr : room ≤ 8192) (hn : bits.length ≤ room) :
    Calls Tryz.prog 39 #[.slice a bits.length c, .int .i64 (room : Int)] w (RetPack room (fillC bits room) w) := by
  have hmk := make_chan room (by omega)
  have HX := Lib.hid hx
  obtain ⟨left, hleft⟩ : ∃ left, left = room - bits.length := ⟨_, rfl⟩
  obtain ⟨en, hen⟩ : ∃ en, en = min left 3 := ⟨_, rfl⟩
  have HFC := Lib.hid (show fillC bits room = bits ++ List.replicate en 0 ++ (List.range (left - en)).map patC by rw [fillC, restC, ← hleft, ← hen, List.append_assoc])
  have hl1 : (room : Int) - (bits.length : Int) = (left : Int) := by omega
  have hmin : (if (3 : Int) < (left : Int) then 3 else (left : Int)) = (en : Int) := by split <;> omega
  have hen2 : en ≤ left := by omega
  have hlr : bits.length + left = room := by omega
  clear hx hleft hen
  refine calls_of_wpN Tryz.func39 rfl (fun _ h => by cases h.1) ?_
  simp only [Tryz.ntmps39, List.size_toArray, List.length_cons, List.length_nil, Nat.reduceAdd, Nat.reduceSub, Array.replicate_succ, Array.replicate_zero, List.push_toArray, List.append_toArray, List.nil_append, List.cons_append]
  refine wpN_seq_wp ?_
  go_wp2_with fail
  refine wpN_seq_wp ?_
  go_wp2_with fail
  clear hmk
  refine wpN_seq (wpN_seq_wp ?_)
  go_wp2_with fail
  refine wpN_block (wpN_loop (fun (k : Nat) A W => ∃ u7 u18 u19 u20 u21 u22 u23 : Value, A = ⟨#[.slice a bits.length c, .int .i64 (room : Int), undef, undef, .chan none, .chan (some w.heap.size), undef, u7, undef, undef, undef, undef, undef, .int .i64 (room : Int), .chan (some w.heap.size), .slice a bits.length c, .int .i64 (bits.length : Int), .int .i64 (k : Int), u18, u19, u20, u21, u22, u23, undef, undef, undef, undef, undef, undef, undef, undef, undef, undef, undef, undef, undef, undef, undef, undef, undef, undef, undef, undef, undef, undef, undef, undef, undef, undef, undef], []⟩ ∧ ChAt W w.heap.size room (bits.take k) false ∧ Below w.heap.size w W) bits.length ?h0 ?hr)
  case h0 => exact ⟨undef, undef, undef, undef, undef, undef, undef, rfl, ⟨0, 0, push_at _ _⟩, ba1 _ _⟩
  case hr =>
    rintro k A W hk ⟨u7, u18, u19, u20, u21, u22, u23, rfl, hc, hb⟩
    have HC := Lib.hid hc
    have HB := Lib.hid hb
    clear hc hb
    refine wpN_seq_wp ?_
    by_cases hlt : k < bits.length
    · have hki : (k : Int) < (bits.length : Int) := by omega
      obtain ⟨b1, o1, z, rfl, hz, hb1, hc1⟩ := (HX.out.below HB.out).at hlt
      have HZ := Lib.hid hz
      clear hz
      go_wp2_with fail
      refine wpN_seq_wp ?_
      go_wp2_with fail
      refine wpN_seq (wpN_block (wpN_seq_wp ?_))
      go_wp2_with fail
      refine wpN_region_l [0, 1, 2] rfl ?_
      refine opsTo_val rfl rfl rfl ?_
      simp only [Act.put, List.setIfInBounds_toArray]
      refine opsTo_val rfl rfl rfl ?_
      simp only [Act.put]
      refine opsTo_sendI (b := w.heap.size) (z := z) (zz := .tuple #[]) rfl rfl (by simp [execOp, scase, Act.eval]) HC.out (by rw [List.length_take]; omega) ?_
      rintro w9 hc9 hb9 -
      have HC9 := Lib.hid hc9
      have HB9 := Lib.hid (hb9 _ _ HB.out (Nat.le_refl _))
      clear hc9 hb9
      refine opsTo_nil ?_
      simp only [Act.put]
      show wpN _ _ _ _ _
      refine wpN_of_wp ?_
      go_wp2_with fail
      exact ⟨by omega, _, _, _, _, _, _, _, by congr, by rw [take_snoc' HZ.out]; exact HC9.out, HB9.out⟩
    · obtain rfl : k = bits.length := by omega
      rw [List.take_of_length_le (Nat.le_refl _)] at HC
      have hki : ¬ ((bits.length : Nat) : Int) < (bits.length : Int) := by omega
      go_wp2_with fail
      refine wpN_seq_wp ?_
      go_wp2_with fail
      refine wpN_seq_wp ?_
      go_wp2_with fail
      refine wpN_seq_wp ?_
      go_wp2_with fail
      refine wpN_seq (wpN_seq_wp ?_)
      go_wp2_with fail
      refine wpN_block (wpN_loop (fun (j : Nat) A W => ∃ u7 u18 u19 u20 u21 u22 u23 u30 u31 u32 u33 u34 u35 : Value, A = ⟨#[.slice a bits.length c, .int .i64 (room : Int), undef, undef, .chan none, .chan (some w.heap.size), undef, u7, .int .i64 (left : Int), .int .i64 (en : Int), .int .i64 (j : Int), undef, undef, .int .i64 (room : Int), .chan (some w.heap.size), .slice a bits.length c, .int .i64 (bits.length : Int), .int .i64 (bits.length : Int), u18, u19, u20, u21, u22, u23, .int .i64 (room : Int), .slice a bits.length c, .int .i64 (bits.length : Int), .int .i64 (left : Int), .int .i64 (left : Int), .int .i64 (en : Int), u30, u31, u32, u33, u34, u35, undef, undef, undef, undef, undef, undef, undef, undef, undef, undef, undef, undef, undef, undef, undef], []⟩ ∧ ChAt W w.heap.size room (bits ++ List.replicate j 0) false ∧ Below w.heap.size w W) en ?h0 ?hr)
      case h0 => exact ⟨_, _, _, _, _, _, _, _, _, _, _, _, _, rfl, by simpa using HC.out, HB.out⟩
      case hr =>
        rintro j A W2 hj ⟨u7, u18, u19, u20, u21, u22, u23, u30, u31, u32, u33, u34, u35, rfl, hc, hb⟩
        have HC2 := Lib.hid hc
        have HB2 := Lib.hid hb
        clear hc hb
        refine wpN_seq (wpN_seq_wp ?_)
        by_cases hlt : j < en
        · have hji : (j : Int) < (en : Int) := by omega
          go_wp2_with fail
          refine wpN_of_wp ?_
          go_wp2_with fail
          refine wpN_seq (wpN_block (wpN_region_l [0, 1] rfl ?_))
          refine opsTo_val rfl rfl rfl ?_
          simp only [Act.put, List.setIfInBounds_toArray]
          refine opsTo_sendI (b := w.heap.size) (z := 0) (zz := .tuple #[]) rfl rfl (by simp [execOp, scase, Act.eval]) HC2.out (by simp; omega) ?_
          rintro w9 hc9 hb9 -
          have HC9 := Lib.hid hc9
          have HB9 := Lib.hid (hb9 _ _ HB2.out (Nat.le_refl _))
          clear hc9 hb9
          refine opsTo_nil ?_
          simp only [Act.put]
          show wpN _ _ _ _ _
          refine wpN_of_wp ?_
          go_wp2_with fail
          exact ⟨by omega, _, _, _, _, _, _, _, _, _, _, _, _, _, by congr, by rw [List.replicate_succ', ← List.append_assoc]; exact HC9.out, HB9.out⟩
        · obtain rfl : j = en := by omega
          have hji : ¬ ((j : Nat) : Int) < (j : Int) := by omega
          go_wp2_with fail
          refine wpN_of_wp ?_
          go_wp2_with fail
          refine wpN_seq_wp ?_
          go_wp2_with fail
          obtain ⟨W3, hW3⟩ : ∃ W3, W3 = W2.alloc (.cells #[.int .i64 1, .int .i64 1, .int .i64 0, .int .i64 1, .int .i64 0, .int .i64 0] 104 (0, 0)) := ⟨_, rfl⟩
          obtain ⟨fb, hfb⟩ : ∃ fb, fb = W2.heap.size := ⟨_, rfl⟩
          have HC3 := Lib.hid (show ChAt W3 w.heap.size room (bits ++ List.replicate j 0) false by rw [hW3]; exact HC2.out.below (ba1 _ _))
          have HF3 := Lib.hid (show W3.heap[fb]? = some (.cells #[.int .i64 1, .int .i64 1, .int .i64 0, .int .i64 1, .int .i64 0, .int .i64 0] 104 (0, 0)) by rw [hW3, hfb]; exact push_at _ _)
          have HB3 := Lib.hid (show Below w.heap.size w W3 by rw [hW3]; exact bt0 HB2.out (ba1 _ _) (Nat.le_refl _))
          have hcf : fb ≠ w.heap.size := by rw [hfb]; have := HC2.out.lt; omega
          try rw [← hW3]
          try rw [← hfb]
          clear hW3 hfb
          refine wpN_seq (wpN_seq_wp ?_)
          go_wp2_with fail
          refine wpN_block (wpN_loop (fun (k : Nat) A W => ∃ u7 u18 u19 u20 u21 u22 u23 u30 u31 u32 u33 u34 u35 u37 u38 u39 u40 u41 u42 u43 u44 u45 u46 u47 u48 : Value, A = ⟨#[.slice a bits.length c, .int .i64 (room : Int), undef, undef, .chan none, .chan (some w.heap.size), undef, u7, .int .i64 (left : Int), .int .i64 (j : Int), .int .i64 (j : Int), .pointer (some ⟨fb, 0, none⟩), .int .i64 (k : Int), .int .i64 (room : Int), .chan (some w.heap.size), .slice a bits.length c, .int .i64 (bits.length : Int), .int .i64 (bits.length : Int), u18, u19, u20, u21, u22, u23, .int .i64 (room : Int), .slice a bits.length c, .int .i64 (bits.length : Int), .int .i64 (left : Int), .int .i64 (left : Int), .int .i64 (j : Int), u30, u31, u32, u33, u34, u35, .agg #[.int .i64 1, .int .i64 1, .int .i64 0, .int .i64 1, .int .i64 0, .int .i64 0], u37, u38, u39, u40, u41, u42, u43, u44, u45, u46, u47, u48, undef, undef], []⟩ ∧ ChAt W w.heap.size room (bits ++ List.replicate j 0 ++ (List.range k).map patC) false ∧ W.heap[fb]? = some (.cells #[.int .i64 1, .int .i64 1, .int .i64 0, .int .i64 1, .int .i64 0, .int .i64 0] 104 (0, 0)) ∧ Below w.heap.size w W) (left - j) ?h0 ?hr)
          case h0 => exact ⟨_, _, _, _, _, _, _, _, _, _, _, _, _, _, _, _, _, _, _, _, _, _, _, _, _, rfl, by simpa using HC3.out, HF3.out, HB3.out⟩
          case hr =>
            rintro k A W4 hk ⟨u7, u18, u19, u20, u21, u22, u23, u30, u31, u32, u33, u34, u35, u37, u38, u39, u40, u41, u42, u43, u44, u45, u46, u47, u48, rfl, hc, hf, hb⟩
            have HC4 := Lib.hid hc
            have HB4 := Lib.hid hb
            have HF4 := Lib.hid hf
            clear hc hb hf
            refine wpN_seq (wpN_seq_wp ?_)
            by_cases hlt : k < left - j
            · have hki : (k : Int) < (left : Int) - (j : Int) := by omega
              go_wp2_with fail
              refine wpN_of_wp ?_
              go_wp2_with fail
              refine wpN_seq (wpN_block (wpN_region_l [0, 1, 2, 3, 4, 5] rfl ?_))
              refine opsTo_val rfl rfl rfl ?_
              simp only [Act.put, List.setIfInBounds_toArray]
              refine opsTo_val rfl rfl rfl ?_
              simp only [Act.put]
              obtain ⟨q, hq⟩ : ∃ q, q = k % 6 := ⟨_, rfl⟩
              have hqt : (k : Int).tmod 6 = (q : Int) := by rw [Int.tmod_eq_emod_of_nonneg (by omega), hq]; omega
              have hk6i : (q : Int) < 6 := by omega
              have hcc : W4.cell? ⟨fb, q, none⟩ = some (.int .i64 (patC k)) := by rw [(heap_cellR HF4.out).1, hq]; exact patC_at k
              clear hq
              refine opsTo_val (v := .int .i64 (q : Int)) (w' := W4) rfl rfl (by go_simp) ?_
              simp only [Act.put]
              refine opsTo_val (v := .pointer (some ⟨fb, q, none⟩)) (w' := W4) rfl rfl (by go_simp) ?_
              simp only [Act.put]
              refine opsTo_val (v := .int .i64 (patC k)) (w' := W4) rfl rfl (by go_simp) ?_
              simp only [Act.put]
              refine opsTo_sendI (b := w.heap.size) (z := patC k) (zz := .tuple #[]) rfl rfl (by simp [execOp, scase, Act.eval]) HC4.out (by simp; omega) ?_
              rintro w9 hc9 hb9 hk9
              have HC9 := Lib.hid hc9
              have HB9 := Lib.hid (hb9 _ _ HB4.out (Nat.le_refl _))
              have HF9 := Lib.hid ((hk9 fb hcf).trans HF4.out)
              clear hc9 hb9 hk9 hk6i hcc hqt
              refine opsTo_nil ?_
              simp only [Act.put]
              show wpN _ _ _ _ _
              refine wpN_of_wp ?_
              go_wp2_with fail
              exact ⟨by omega, _, _, _, _, _, _, _, _, _, _, _, _, _, _, _, _, _, _, _, _, _, _, _, _, _, by congr, by rw [List.range_succ, List.map_append, ← List.append_assoc]; exact HC9.out, HF9.out, HB9.out⟩
            · obtain rfl : k = left - j := by omega
              have hki : ¬ (((left - j : Nat) : Nat) : Int) < (left : Int) - (j : Int) := by omega
              have HC5 := Lib.hid (show ChAt W4 w.heap.size room (fillC bits room) false by rw [HFC.out]; exact HC4.out)
              have hlc := HC5.out.lt
              obtain ⟨sn, rn, hch⟩ := HC5.out
              have hcl := fun ats ty => run_close_open (P := Tryz.prog) (w := W4) ats ty hch
              have HCE : Hid (ChAt { W4 with heap := W4.heap.setIfInBounds w.heap.size (.chan room ((fillC bits room).map (Value.int .i64)).toArray true sn rn false) } w.heap.size room (fillC bits room) true) := Lib.hid ⟨sn, rn, by simp [hlc]⟩
              have HBE := Lib.hid (below_setChan HB4.out (Nat.le_refl _) room ((fillC bits room).map (Value.int .i64)).toArray true sn rn false)
              clear hch
              go_wp2_with fail
              refine wpN_of_wp ?_
              go_wp2_with fail
              refine wpN_of_wp ?_
              go_wp2_with fail
              refine bodyPost_ret (v := .chan (some w.heap.size)) (by simp [results, Tryz.results39, go_sem]) rfl ?_
              exact ⟨rfl, HCE.out, HBE.out⟩

end Go.Proofs.YtlcglclojlffgaaGreat
