import Derived.Test.YtlcglclojlffgaaGreatDoorVEnv
import Derived.Test.YtlcglclojlffgaaGreatDoorM0
import Derived.Lib.AppendStr
import Derived.Laws.BytesArg
namespace Go.Proofs.YtlcglclojlffgaaGreatDoor
open Go.RowKit

/-- the slice v is the call's own and holds the bytes l -/
def OwnB (w : World) (base : Nat) (v : Value) (l : List UInt8) : Prop := w.ownsRow base 5 1 v l.length (Lib.byteCells l)
theorem infoU8 : (Tryz.prog.info? 5).map (fun i => (i.zero, i.size, i.bytes)) = some (some (.int .u8 0), 1, 1) := by kernel_rfl
theorem OwnB.nil (w : World) (base : Nat) : OwnB w base (.slice none 0 0) [] := World.ownsRow_nil _ _ _ _
theorem OwnB.grown {w w' : World} {base : Nat} {v : Value} {l : List UInt8} (h : OwnB w base v l) (hb : Below w.heap.size w w') : OwnB w' base v l :=
  h.kept (row := none) ⟨hb.os, hb.tape, hb.output, hb.size, fun k hk _ => hb.block k hk⟩ (by cases hv : v.ownBlock <;> simp)
theorem OwnB.lo {w : World} {base : Nat} {v : Value} {l : List UInt8} (h : OwnB w base v l) : ∀ k, v.ownBlock = some k → base ≤ k := fun k hk => (World.ownsRow.lt h k hk).1
theorem OwnB.hi {w : World} {base : Nat} {v : Value} {l : List UInt8} (h : OwnB w base v l) : ∀ k, v.ownBlock = some k → k < w.heap.size := fun k hk => (World.ownsRow.lt h k hk).2
theorem OwnB.weak {w : World} {base base' : Nat} {v : Value} {l : List UInt8} (h : OwnB w base v l) (hb : base' ≤ base) : OwnB w base' v l := by
  refine ⟨h.1, ?_⟩
  rcases h.2 with h2 | ⟨g, cap, cur, h1, hb', r⟩
  · exact Or.inl h2
  · exact Or.inr ⟨g, cap, cur, h1, by omega, r⟩
theorem OwnB.other {w w' : World} {base : Nat} {v : Value} {l : List UInt8} {row : Option Nat} (h : OwnB w base v l) (hg : w.grownBy w' row) (hne : ∀ k, v.ownBlock = some k → row ≠ some k) : OwnB w' base v l :=
  h.kept hg (by
    cases hv : v.ownBlock with
    | none => exact Or.inl rfl
    | some k => exact Or.inr (fun e => hne k hv e.symm))
/-- the bytes l lie at a -/
def BysAt (w : World) (a : Option Addr) (l : List UInt8) : Prop := ∀ i x, l[i]? = some x → ∃ b o, a = some ⟨b, o, none⟩ ∧ w.cell? ⟨b, o + i, none⟩ = some (.int .u8 x.toNat)
theorem BysAt.below {w w' : World} {a : Option Addr} {l : List UInt8} (h : BysAt w a l) (hb : Below w.heap.size w w') : BysAt w' a l := fun i x hx => by
  obtain ⟨b, o, e, hc⟩ := h i x hx
  exact ⟨b, o, e, by rw [hb.cell (p := ⟨b, o + i, none⟩) (lt_of_cell hc)]; exact hc⟩
theorem OwnB.read {w : World} {base : Nat} {v : Value} {l : List UInt8} (h : OwnB w base v l) : ∃ a c, v = .slice a l.length c ∧ BysAt w a l ∧ l.length ≤ maxLen := by
  have h2 := h.2
  rcases h2 with ⟨rfl, h0⟩ | ⟨g, cap, cur, rfl, hb, hg, hn, hm, hs, ht⟩
  · refine ⟨none, 0, by rw [h0], ?_, by rw [h0]; exact Nat.zero_le _⟩
    intro i x hx
    have := (List.getElem?_eq_some_iff.1 hx).1
    omega
  · refine ⟨some ⟨g, 0, none⟩, cap, rfl, ?_, by omega⟩
    intro i x hx
    refine ⟨g, 0, rfl, ?_⟩
    have hi := (List.getElem?_eq_some_iff.1 hx).1
    rw [Nat.zero_add, World.ownsRow.cellAt h i (by omega)]
    rw [Lib.byteCells, List.getElem?_map, hx]; rfl

/-- append of one byte -/
theorem wpList_append_b1 {ops : Array Oper} {rest : List Oper} {o : Oper} {a : Act} {Q : Exit → Act → World → Prop} {W : World} (hgd : o.guard = none) (s x : Operand)
    (ho : o.op = .call { callee := .builtin .append, args := #[s, x], argTypes := #[33, 33] })
    (base : Nat) (v : Value) (l : List UInt8) (z : UInt8) (hs : a.eval s = v) (hown : OwnB W base v l) (g : Nat) (hx : a.eval x = .slice (some ⟨g, 0, none⟩) 1 1)
    (hg : W.heap[g]? = some (.cells #[.int .u8 z.toNat] 5 (0, 0))) (hl : l.length ≤ 1000000000) (hb : base ≤ W.heap.size)
    (h : ∀ a' c' l' w', l' = l ++ [z] → OwnB w' base (.slice a' l'.length c') l' → Below base W w' → wpList Tryz.prog ops Q rest (a.put o.dst (.slice a' l'.length c')) w') : wpList Tryz.prog ops Q (o :: rest) a W := by
  obtain ⟨i0, hi, y0, y1, y2⟩ := info_parts infoU8
  refine wpList_append_own _ hgd s x 33 ho base 5 i0 _ 1 1 Tryz.underlying33 hi y0 y1 y2 rfl (by decide) v l.length (Lib.byteCells l) hs hown ⟨g, 0, none⟩ 1 1 [.int .u8 z.toNat] hx rfl ?_ ?_ (by unfold maxLen; omega) (by omega) hb
    (fun v' w' h1 h2 _ => ?_)
  · intro j u hu
    rw [Addr.add_lit, Nat.zero_add, (heap_cellR hg).1, ← hu]
    simp
  · intro u hu
    simp only [List.mem_singleton] at hu
    subst hu; rfl
  · have ho : OwnB w' base v' (l ++ [z]) := by
      unfold OwnB
      rw [List.length_append, Lib.byteCells, List.map_append]
      simpa [Lib.byteCells] using h1
    obtain ⟨a', c', e, _⟩ := ho.read
    rw [e] at ho ⊢
    exact h a' c' _ w' rfl ho (below_of_grownBy h2 hb (fun k hk => hown.lo k hk))
/-- append of a text -/
theorem wpList_append_bs {ops : Array Oper} {rest : List Oper} {o : Oper} {a : Act} {Q : Exit → Act → World → Prop} {W : World} (hgd : o.guard = none) (s x : Operand)
    (ho : o.op = .call { callee := .builtin .append, args := #[s, x], argTypes := #[33, 9] })
    (base : Nat) (v : Value) (l : List UInt8) (t : ByteArray) (hs : a.eval s = v) (hown : OwnB W base v l) (hx : a.eval x = .string t)
    (hl : l.length + t.size ≤ 1000000000) (hb : base ≤ W.heap.size)
    (h : ∀ a' c' l' w', l' = l ++ t.data.toList → OwnB w' base (.slice a' l'.length c') l' → Below base W w' → wpList Tryz.prog ops Q rest (a.put o.dst (.slice a' l'.length c')) w') : wpList Tryz.prog ops Q (o :: rest) a W := by
  obtain ⟨i0, hi, y0, y1, y2⟩ := info_parts infoU8
  refine Lib.wpList_append_own_string _ hgd s x 33 9 ho base 5 i0 Tryz.underlying33 Tryz.underlying9 hi y0 y1 y2 v l.length (Lib.byteCells l) hs hown t hx (by unfold maxLen; omega) (by omega) hb
    (fun v' w' h1 h2 _ => ?_)
  have ho : OwnB w' base v' (l ++ t.data.toList) := by
    unfold OwnB
    rw [List.length_append, Lib.byteCells, List.map_append]
    exact h1
  obtain ⟨a', c', e, _⟩ := ho.read
  rw [e] at ho ⊢
  exact h a' c' _ w' rfl ho (below_of_grownBy h2 hb (fun k hk => hown.lo k hk))
theorem tabBelow {w : World} {B : Nat} (h : Tab w) (hB : 5 < B) : Lib.TabBelow Tryz.prog B w "internal/strconv.uint64pow10" .u64 Lib.pow10Tab := fun _ hb => h.below hb hB
/-- strconv.AppendInt at bytes of the call's own -/
theorem appendInt_b (B : Nat) (n : Int) (v : Value) (l : List UInt8) (w : World) (h0 : -9223372036854775808 ≤ n) (h1 : n ≤ 9223372036854775807) (ho : OwnB w B v l) (hB : B ≤ w.heap.size) (hl : l.length ≤ 1000000000) (ht : Tab w) (hg : 5 < B) :
    Calls Tryz.prog 63 #[v, .int .i64 n, .int .i64 10] w fun e w' => ∃ a' c' l', l' = l ++ Lib.itoa n ∧ e = .returned (.slice a' l'.length c') ∧ OwnB w' B (.slice a' l'.length c') l' ∧ Below B w w' :=
  (Tryz.strconv_AppendInt_10 B l.length n h0 h1 v (Lib.byteCells l) w ho hB (by omega) (tabBelow ht hg)).mono fun e w' ⟨v', he, ho', hb, _⟩ => by
    have ho2 : OwnB w' B v' (l ++ Lib.itoa n) := by
      unfold OwnB
      rw [List.length_append, Lib.byteCells, List.map_append]
      exact ho'
    obtain ⟨a', c', e2, _⟩ := ho2.read
    rw [e2] at ho2
    exact ⟨a', c', _, rfl, by rw [he, e2], ho2, hb⟩
theorem nums_str (l : List UInt8) : strOfNums (l.map fun x => (x.toNat : Int)) = ⟨l.toArray⟩ := by
  unfold strOfNums
  congr 1
  rw [List.map_map]
  have : ((fun n : Int => UInt8.ofNat n.toNat) ∘ fun x : UInt8 => (x.toNat : Int)) = id := by funext x; simp
  rw [this, List.map_id]
theorem conv_at {w : World} {b o c : Nat} {l : List UInt8} (h : BysAt w (some ⟨b, o, none⟩) l) :
    (convert 33 9 (.slice (some ⟨b, o, none⟩) l.length c)).run Tryz.prog w = .ok (.string ⟨l.toArray⟩) w := by
  have := run_convert_bytes_arg (P := Tryz.prog) w 33 5 Tryz.underlying33 Tryz.underlying5 b o l.length c (l.map fun x => (x.toNat : Int)) (by simp) (fun i hi => by
    obtain ⟨b', o', e, hc⟩ := h i l[i] (List.getElem?_eq_getElem hi)
    simp only [Option.some.injEq, Addr.mk.injEq, and_true] at e
    obtain ⟨rfl, rfl⟩ := e
    rw [hc]
    simp [hi]) 9 Tryz.underlying9
  rw [nums_str] at this
  exact this
/-- bytes of the call's own as a string -/
theorem conv_own {w : World} {base : Nat} {a : Option Addr} {n c : Nat} {l : List UInt8} (h : OwnB w base (.slice a n c) l) :
    (convert 33 9 (.slice a n c)).run Tryz.prog w = .ok (.string ⟨l.toArray⟩) w := by
  obtain ⟨a', c', e, hb, _⟩ := h.read
  obtain ⟨rfl, rfl, rfl⟩ := Value.slice.inj e
  rcases h.2 with ⟨e2, h0⟩ | ⟨g, cap, cur, e2, _⟩
  · obtain ⟨rfl, _, rfl⟩ := Value.slice.inj e2
    have hl : l = [] := List.eq_nil_of_length_eq_zero h0
    subst hl
    exact run_convert_bytes_nil (P := Tryz.prog) w 33 5 Tryz.underlying33 Tryz.underlying5 _ _ 9 Tryz.underlying9
  · obtain ⟨rfl, _, rfl⟩ := Value.slice.inj e2
    exact conv_at hb

end Go.Proofs.YtlcglclojlffgaaGreatDoor
