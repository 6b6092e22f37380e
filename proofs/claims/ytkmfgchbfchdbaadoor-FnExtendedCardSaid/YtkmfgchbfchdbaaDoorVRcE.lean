import Derived.Test.YtkmfgchbfchdbaaDoorVOwnS
import Derived.Test.YtkmfgchbfchdbaaDoorVJn
namespace Go.Proofs.YtkmfgchbfchdbaaDoor
open Go.RowKit

/-- rows of records -/
def rcE : Enc Rc where
  enc r := [.int .i64 r.k, .int .i64 r.n]
  k := 2
  t := 35
  bytes := 16
  len _ := rfl
  one := by
    intro r u hu
    simp only [List.mem_cons, List.not_mem_nil, or_false] at hu
    rcases hu with rfl | rfl <;> rfl
  pos := by decide
theorem infoRc : (Tryd.prog.info? 35).map (fun i => (i.zero, i.size, i.bytes)) = some (some (.agg #[.int .i64 0, .int .i64 0]), 2, 16) := by kernel_rfl
/-- a record in memory -/
theorem rc_at {w : World} {a : Option Addr} {l : List Rc} (h : rcE.At w a l) {i : Nat} {r : Rc} (hr : l[i]? = some r) : ∃ b o, a = some ⟨b, o, none⟩ ∧ b < w.heap.size ∧ w.cell? ⟨b, o + i * 2, none⟩ = some (.int .i64 r.k) ∧ w.cell? ⟨b, o + i * 2 + 1, none⟩ = some (.int .i64 r.n) := by
  obtain ⟨b, o, e, hc⟩ := h i r hr
  have h0 : w.cell? ⟨b, o + i * 2, none⟩ = some (.int .i64 r.k) := hc 0 _ rfl
  exact ⟨b, o, e, lt_of_cell h0, h0, hc 1 _ rfl⟩

/-- append of one record to records of the call's own -/
theorem wpList_append_rc {ops : Array Oper} {rest : List Oper} {o : Oper} {a : Act} {Q : Exit → Act → World → Prop} {W : World} (hgd : o.guard = none) (s x : Operand)
    (ho : o.op = .call { callee := .builtin .append, args := #[s, x], argTypes := #[31, 31] })
    (base : Nat) (v : Value) (xs : List Rc) (y : Rc) (hs : a.eval s = v) (hown : rcE.Own W base v xs) (g : Nat) (hx : a.eval x = .slice (some ⟨g, 0, none⟩) 1 1)
    (hg : W.heap[g]? = some (.cells #[.int .i64 y.k, .int .i64 y.n] 35 (0, 0))) (hl : xs.length ≤ 1000000000) (hb : base ≤ W.heap.size)
    (h : ∀ a' c' xs' w', xs' = xs ++ [y] → rcE.Own w' base (.slice a' xs'.length c') xs' → W.grownBy w' v.ownBlock → Below base W w' → wpList Tryd.prog ops Q rest (a.put o.dst (.slice a' xs'.length c')) w') : wpList Tryd.prog ops Q (o :: rest) a W := by
  obtain ⟨i0, hi, y0, y1, y2⟩ := info_parts infoRc
  exact wpList_append_e rcE hgd s x _ ho Tryd.underlying31 i0 _ hi y0 y1 y2 rfl (by decide) base v xs y hs hown g _ hx hg rfl hl hb h

end Go.Proofs.YtkmfgchbfchdbaaDoor
