import Derived.Test.YtkmfgchbfchdbaaDoorVJnL
import Derived.Test.YtkmfgchbfchdbaaDoorVRG6
import Derived.Test.YtkmfgchbfchdbaaDoorM0
import Derived.ArgAppend
namespace Go.Proofs.YtkmfgchbfchdbaaDoor
open Go.RowKit

/-- bytes of the call's own, in regions -/
def spOwnB (base : Nat) (l : List UInt8) : Sp KB := ⟨fun v W => ∃ a c, v = .slice a l.length c ∧ OwnB W base (.slice a l.length c) l, fun _ _ _ hk ⟨a, c, e, h⟩ => ⟨a, c, e, h.grown hk⟩⟩

theorem OwnB.none_len {w : World} {base n c : Nat} {l : List UInt8} (h : OwnB w base (.slice none n c) l) : l.length = 0 ∧ n = 0 ∧ c = 0 := by
  rcases h.2 with ⟨e, h0⟩ | ⟨g, cap, cur, e, _⟩
  · cases e; exact ⟨h0, rfl, rfl⟩
  · cases e
theorem OwnB.cap {w : World} {base n c : Nat} {a : Option Addr} {l : List UInt8} (h : OwnB w base (.slice a n c) l) : n = l.length ∧ n ≤ c ∧ c ≤ maxLen := by
  rcases h.2 with ⟨e, h0⟩ | ⟨g, cap, cur, e, hb, hg, hn, hm, hs, ht⟩
  · cases e; exact ⟨h0.symm, Nat.zero_le _, Nat.zero_le _⟩
  · cases e; exact ⟨rfl, hn, hm⟩
theorem OwnB.some_at {w : World} {base n c : Nat} {b : Addr} {l : List UInt8} (h : OwnB w base (.slice (some b) n c) l) : ∃ g, b = ⟨g, 0, none⟩ ∧ ∀ j u, (Lib.byteCells l)[j]? = some u → w.cell? (b.add j) = some u := by
  rcases h.2 with ⟨e, h0⟩ | ⟨g, cap, cur, e, hb, hg, hn, hm, hs, ht⟩
  · cases e
  · cases e
    refine ⟨g, rfl, fun j u hj => ?_⟩
    have hjl : j < l.length := by
      have := (List.getElem?_eq_some_iff.1 hj).1
      simpa [Lib.byteCells] using this
    have := World.ownsRow.cellAt h j (by simpa [Lib.byteCells] using hjl)
    rw [Addr.add_lit, Nat.zero_add, this]; exact hj

/-- append of bytes to a slice without room, in a region -/
theorem leaves_app_b {o : Oper} {a : Act} {w : World} {R : Value → World → Prop} (s x : Operand)
    (ho : o.op = .call { callee := .builtin .append, args := #[s, x], argTypes := #[28, 28] })
    (base : Nat) (ao : Option Addr) (l : List UInt8) (c : Nat) (hs : a.eval s = .slice ao l.length l.length) (hown : OwnB w base (.slice ao l.length c) l)
    (base2 : Nat) (bo : Option Addr) (m : List UInt8) (c2 : Nat) (hx : a.eval x = .slice bo m.length c2) (hm : OwnB w base2 (.slice bo m.length c2) m) (h0 : 0 < m.length) (hl : l.length + m.length ≤ 1000000000)
    (h : ∀ v w', (∃ a' c', v = .slice a' (l ++ m).length c' ∧ OwnB w' w.heap.size (.slice a' (l ++ m).length c') (l ++ m)) → Below w.heap.size w w' → R v w') : leaves Tryd.prog o a w R := by
  obtain ⟨i0, hi, y0, y1, y2⟩ := info_parts infoU8
  have fin : ∀ v' w', w'.ownsRow w.heap.size 5 1 v' (l.length + m.length) (Lib.byteCells l ++ Lib.byteCells m) → w.grownBy w' none → R v' w' := fun v' w' h1 h2 => by
    have ho : OwnB w' w.heap.size v' (l ++ m) := by
      unfold OwnB
      rw [List.length_append, Lib.byteCells, List.map_append]
      exact h1
    obtain ⟨a', c', e, _⟩ := ho.read
    rw [e] at ho
    exact h v' w' ⟨a', c', e, ho⟩ (below_of_grownBy h2 (Nat.le_refl _) (fun k hk => by cases hk))
  cases bo with
  | none => have := hm.none_len; omega
  | some bd =>
    obtain ⟨g, -, hcm⟩ := hm.some_at
    have hml : (Lib.byteCells m).length = m.length * 1 := by simp [Lib.byteCells]
    cases ao with
    | some b =>
      obtain ⟨g2, -, hcl⟩ := hown.some_at
      obtain ⟨v', w', hrun, r1, r2⟩ := run_append_arg_grows (P := Tryd.prog) w 28 o.type 5 i0 (.int .u8 0) 1 1 Tryd.underlying28 hi y0 y1 y2 rfl (by decide) b l.length l.length (Lib.byteCells l) (by simp [Lib.byteCells]) hcl bd m.length c2 (Lib.byteCells m) hml hcm (by omega) (by unfold maxLen; omega) (by omega)
      unfold leaves
      simp [execOp, ho, resolve, invoke, builtin, hs, hx, hrun, leavesUpon, Result.andThen]
      exact fin _ _ r1 r2
    | none =>
      have hn := hown.none_len
      obtain rfl : l = [] := List.eq_nil_of_length_eq_zero hn.1
      obtain ⟨v', w', hrun, r1, r2, _⟩ := run_append_own (P := Tryd.prog) w w.heap.size 28 o.type 5 i0 (.int .u8 0) 1 1 Tryd.underlying28 hi y0 y1 y2 rfl (by decide) (.slice none 0 0) 0 [] (World.ownsRow_nil w _ _ 1) bd m.length c2 (Lib.byteCells m) hml hcm (fun u hu => by simp only [Lib.byteCells, List.mem_map] at hu; obtain ⟨x, _, rfl⟩ := hu; rfl) (by unfold maxLen; omega) (by omega) (Nat.le_refl _)
      unfold leaves
      simp [execOp, ho, resolve, invoke, builtin, hs, hx, hrun, leavesUpon, Result.andThen]
      exact fin _ _ (by simpa [Lib.byteCells] using r1) r2

/-- the journal at J holds the text l -/
def JSt (w : World) (J n : Nat) (s : Int) (l : List UInt8) : Prop := ∃ a c, JnAt w J (.slice a l.length c) n s ∧ OwnB w (J + 1) (.slice a l.length c) l
theorem JSt.below {w w' : World} {J n : Nat} {s : Int} {l : List UInt8} (h : JSt w J n s l) (hb : Below w.heap.size w w') : JSt w' J n s l := by
  obtain ⟨a, c, h1, h2⟩ := h
  exact ⟨a, c, blkK hb h1, h2.grown hb⟩

set_option maxRecDepth 100000 in
set_option maxHeartbeats 1000000 in
theorem add_any (J n : Nat) (s : Int) (l : List UInt8) (r : Rc) (w : World) (hj : JSt w J n s l) (hok : r.ok = true) (hn : n < 1000) (hs : 0 ≤ s ∧ s < 65521) (hl : l.length ≤ 100000) (ht : Tab w) :
    Calls Tryd.prog 35 #[.pointer (some ⟨J, 0, none⟩), .agg #[.int .i64 r.k, .int .i64 r.n]] w fun e w' => e = .returned (.tuple #[]) ∧ JSt w' J (n + 1) (nextJ n s r) (l ++ (lineJ n s r ++ [10])) ∧ w.grownBy w' (some J) := by
  obtain ⟨a, c, hj1, ho⟩ := hj
  have HJ := Lib.hid hj1
  have HO0 := Lib.hid ho
  have HT := Lib.hid ht
  have hjl : J < w.heap.size := blkLt hj1
  obtain ⟨L1, hL1⟩ : ∃ L1, lineJ n s r ++ [10] = L1 := ⟨_, rfl⟩
  have hlen : 0 < L1.length ∧ L1.length ≤ 20 := by have := lineJ_len hn hs hok; rw [← hL1]; simp; omega
  have HL := Lib.hid hL1
  clear hj1 ho ht
  go_enter Tryd.func35, Tryd.ntmps35
  go_wp2_with fail
  have HB0 := Lib.hid (ba1 w (.cells #[.int .i64 r.k, .int .i64 r.n] 35 (0, 0)))
  refine (line_any J n s _ r _ (blkK HB0.out HJ.out) hok hn hs (HT.out.next HB0.out)).mono ?_
  rintro e w1 ⟨a1, c1, l1, e1, rfl, ho1, hb1⟩
  obtain rfl : l1 = L1 := e1.trans HL.out
  have HB1 := Lib.hid (bt0 HB0.out hb1 (Nat.le_refl _))
  have HO1 := Lib.hid ho1
  have HO := Lib.hid (HO0.out.grown HB1.out)
  have HJ1 := Lib.hid (blkK HB1.out HJ.out)
  have hcap := HO.out.cap
  have hw1 : w.heap.size ≤ w1.heap.size := HB1.out.size
  clear ho1 hb1 e1
  go_wp2_with fail
  refine wp_region_rt (Keep := KB) [12, 13, 14, 15, 16, 17, 18, 19, 20, 21, 22, 23, 24, 25, 26, 27, 28, 29, 30, 31] (fun us => _)
    [spE (.pointer (some ⟨J, 0, none⟩)),
     spE (.pointer (some ⟨J, 0, none⟩)),
     spE (.pointer (some ⟨J, 0, none⟩)),
     spE (.pointer (some ⟨J, 0, none⟩)),
     spE (.slice a l.length c),
     spE (.pointer (some ⟨J, 0, none⟩)),
     spE (.pointer (some ⟨J, 0, none⟩)),
     spE (.pointer (some ⟨J, 0, none⟩)),
     spE (.slice a l.length c),
     spE (.int .i64 (l.length : Int)),
     spE (.pointer (some ⟨J, 0, none⟩)),
     spE (.pointer (some ⟨J, 0, none⟩)),
     spE (.pointer (some ⟨J, 0, none⟩)),
     spE (.slice a l.length c),
     spE (.int .i64 (l.length : Int)),
     spE (.slice a l.length l.length),
     spE (.slice a1 l1.length c1),
     spOwnB (w1.heap.size) (l ++ l1),
     spE (.pointer (some ⟨J, 0, none⟩)),
     spE (.pointer (some ⟨J, 0, none⟩))]
    (StX w1) (by kernel_rfl) (by kernel_rfl) (Nat.le_of_ble_eq_true rfl) (fun us => by simp [over, List.mapIdx_cons]; exact rfl) (stX0 _) kbr ?_ ?_
  · refine ⟨?_, ?_, ?_, ?_, ?_, ?_, ?_, ?_, ?_, ?_, ?_, ?_, ?_, ?_, ?_, ?_, ?_, ?_, ?_, ?_, trivial⟩
    all_goals (intro us wx hst hd; rw [if_pos (by kernel_rfl)]; dsimp only)
    · clear hd
      go_simp
      exact kb_same hst rfl
    · clear hd
      go_simp
      exact kb_same hst rfl
    · have d13 : us 13 = (.pointer (some ⟨J, 0, none⟩)) := hd ⟨1, .data⟩ (by simp) rfl
      clear hd
      go_simp
      exact kb_same hst rfl
    · have d14 : us 14 = (.pointer (some ⟨J, 0, none⟩)) := hd ⟨2, .data⟩ (by simp) rfl
      clear hd
      go_simp
      exact kb_same hst rfl
    · have d15 : us 15 = (.pointer (some ⟨J, 0, none⟩)) := hd ⟨3, .data⟩ (by simp) rfl
      clear hd
      have hc := (heap_cellR (blkK hst HJ1.out)).1
      go_simp
      exact kb_same hst rfl
    · clear hd
      go_simp
      exact kb_same hst rfl
    · have d17 : us 17 = (.pointer (some ⟨J, 0, none⟩)) := hd ⟨5, .data⟩ (by simp) rfl
      clear hd
      go_simp
      exact kb_same hst rfl
    · have d18 : us 18 = (.pointer (some ⟨J, 0, none⟩)) := hd ⟨6, .data⟩ (by simp) rfl
      clear hd
      go_simp
      exact kb_same hst rfl
    · have d19 : us 19 = (.pointer (some ⟨J, 0, none⟩)) := hd ⟨7, .data⟩ (by simp) rfl
      clear hd
      have hc := (heap_cellR (blkK hst HJ1.out)).1
      go_simp
      exact kb_same hst rfl
    · have d20 : us 20 = (.slice a l.length c) := hd ⟨8, .data⟩ (by simp) rfl
      clear hd
      go_simp
      exact kb_same hst rfl
    · clear hd
      go_simp
      exact kb_same hst rfl
    · have d22 : us 22 = (.pointer (some ⟨J, 0, none⟩)) := hd ⟨10, .data⟩ (by simp) rfl
      clear hd
      go_simp
      exact kb_same hst rfl
    · have d23 : us 23 = (.pointer (some ⟨J, 0, none⟩)) := hd ⟨11, .data⟩ (by simp) rfl
      clear hd
      go_simp
      exact kb_same hst rfl
    · have d24 : us 24 = (.pointer (some ⟨J, 0, none⟩)) := hd ⟨12, .data⟩ (by simp) rfl
      clear hd
      have hc := (heap_cellR (blkK hst HJ1.out)).1
      go_simp
      exact kb_same hst rfl
    · have d25 : us 25 = (.slice a l.length c) := hd ⟨13, .data⟩ (by simp) rfl
      clear hd
      go_simp
      exact kb_same hst rfl
    · have d16 : us 16 = (.slice a l.length c) := hd ⟨4, .data⟩ (by simp) rfl
      have d21 : us 21 = (.int .i64 (l.length : Int)) := hd ⟨9, .data⟩ (by simp) rfl
      have d26 : us 26 = (.int .i64 (l.length : Int)) := hd ⟨14, .data⟩ (by simp) rfl
      clear hd
      go_simp
      exact kb_same hst rfl
    · clear hd
      go_simp
      exact kb_same hst rfl
    · have d27 : us 27 = (.slice a l.length l.length) := hd ⟨15, .data⟩ (by simp) rfl
      have d28 : us 28 = (.slice a1 l1.length c1) := hd ⟨16, .data⟩ (by simp) rfl
      clear hd
      refine leaves_app_b _ _ rfl (J + 1) a l c (by simp [Act.eval, d27]) (HO.out.grown hst) (w.heap.size + 1) a1 l1 c1 (by simp [Act.eval, d28]) ((OwnB.weak HO1.out (by simp)).grown hst) hlen.1 (by omega) ?_
      rintro v w' ⟨a2, c2, rfl, ho2⟩ hb2
      exact kb_below hst hb2 ⟨a2, c2, rfl, ho2.weak hst.size⟩
    · have d12 : us 12 = (.pointer (some ⟨J, 0, none⟩)) := hd ⟨0, .data⟩ (by simp) rfl
      clear hd
      go_simp
      exact kb_same hst rfl
    · have d30 : us 30 = (.pointer (some ⟨J, 0, none⟩)) := hd ⟨18, .data⟩ (by simp) rfl
      clear hd
      go_simp
      exact kb_same hst rfl
  · intro us wx hst hd
    have d31 : us 31 = (.pointer (some ⟨J, 0, none⟩)) := hd 19 (by simp)
    have d29 := hd 17 (by simp)
    clear hd
    simp only [List.drop, List.length]
    rw [d31]
    obtain ⟨a2, c2, e29, ho2⟩ := d29
    rw [e29]
    have HL1 := Lib.hid hL1
    obtain ⟨N, hN⟩ : ∃ N, (l ++ l1).length = N := ⟨_, rfl⟩
    rw [hN] at ho2 ⊢
    have HN := Lib.hid hN
    have HO2 := Lib.hid ho2
    have HJx := Lib.hid (blkK hst HJ1.out)
    have HBx := Lib.hid (bt0 HB1.out hst (Nat.le_refl _))
    obtain ⟨hcx, hfx⟩ := heap_cellR HJx.out
    have e1 : IntKind.i64.wrap ((n : Int) + 1) = (n : Int) + 1 := IntWalk.i64_in _ (by omega)
    have hne : J < w1.heap.size := by omega
    clear ho2 hst e29 d31 hcap hN hL1
    go_wp2_with fail
    refine bodyPost_end (results_none rfl _ _ _) rfl ⟨rfl, ?_, ?_⟩
    · rw [HL1.out]
      refine ⟨a2, c2, ?_, ?_⟩
      all_goals rw [HN.out]
      · have h1 := src_set HJx.out 0 (Value.slice a2 N c2)
        have h2 := src_set h1 1 (Value.int .i64 ((n : Int) + 1))
        have h3 := src_set h2 2 (Value.int .i64 (nextJ n s r))
        simpa [JnAt] using h3
      · have hx : ∀ k, Value.ownBlock (.slice a2 N c2) = some k → some J ≠ some k := fun k hk e => by
          have := HO2.out.lo k hk
          have := Option.some.inj e
          omega
        exact (((HO2.out.other (grownBy_set _ _ _ _) hx).other (grownBy_set _ _ _ _) hx).other (grownBy_set _ _ _ _) hx).weak (by omega)
    · have hg2 : w.grownBy wx (some J) := ⟨HBx.out.os, HBx.out.tape, HBx.out.output, HBx.out.size, fun k hk _ => HBx.out.block k hk⟩
      exact grownBy_trans (grownBy_trans (grownBy_trans hg2 (grownBy_set _ _ _ _)) (grownBy_set _ _ _ _)) (grownBy_set _ _ _ _)

end Go.Proofs.YtkmfgchbfchdbaaDoor
