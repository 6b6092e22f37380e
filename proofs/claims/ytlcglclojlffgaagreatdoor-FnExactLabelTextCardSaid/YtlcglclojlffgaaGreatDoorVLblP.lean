import Derived.Test.YtlcglclojlffgaaGreatDoorVBoxT
import Derived.Test.YtlcglclojlffgaaGreatDoorM3
import Derived.Test.YtlcglclojlffgaaGreatDoorM4
namespace Go.Proofs.YtlcglclojlffgaaGreatDoor
open Go.RowKit

/-- a box on a label -/
structure Bx where
  row : Int
  col : Int
  rows : Int
  cols : Int
/-- rows of boxes -/
def bxE : Enc Bx where
  enc r := [.int .i64 r.row, .int .i64 r.col, .int .i64 r.rows, .int .i64 r.cols]
  k := 4
  t := 66
  bytes := 32
  len _ := rfl
  one := by
    intro r u hu
    simp only [List.mem_cons, List.not_mem_nil, or_false] at hu
    rcases hu with rfl | rfl | rfl | rfl <;> rfl
  pos := by decide
theorem infoBx : (Tryz.prog.info? 66).map (fun i => (i.zero, i.size, i.bytes)) = some (some (.agg #[.int .i64 0, .int .i64 0, .int .i64 0, .int .i64 0]), 4, 32) := by kernel_rfl
theorem wpList_append_bx {ops : Array Oper} {rest : List Oper} {o : Oper} {a : Act} {Q : Exit → Act → World → Prop} {W : World} (hgd : o.guard = none) (s x : Operand)
    (ho : o.op = .call { callee := .builtin .append, args := #[s, x], argTypes := #[62, 62] })
    (base : Nat) (v : Value) (xs : List Bx) (y : Bx) (hs : a.eval s = v) (hown : bxE.Own W base v xs) (g : Nat) (hx : a.eval x = .slice (some ⟨g, 0, none⟩) 1 1)
    (hg : W.heap[g]? = some (.cells #[.int .i64 y.row, .int .i64 y.col, .int .i64 y.rows, .int .i64 y.cols] 66 (0, 0))) (hl : xs.length ≤ 1000000000) (hb : base ≤ W.heap.size)
    (h : ∀ a' c' xs' w', xs' = xs ++ [y] → bxE.Own w' base (.slice a' xs'.length c') xs' → W.grownBy w' v.ownBlock → Below base W w' → wpList Tryz.prog ops Q rest (a.put o.dst (.slice a' xs'.length c')) w') : wpList Tryz.prog ops Q (o :: rest) a W := by
  obtain ⟨i0, hi, y0, y1, y2⟩ := info_parts infoBx
  exact wpList_append_e bxE hgd s x _ ho Tryz.underlying62 i0 _ hi y0 y1 y2 rfl (by decide) base v xs y hs hown g _ hx hg rfl hl hb h
/-- rows of items -/
def itE : Enc It where
  enc x := [.int .i64 x.kind, .int .i64 x.row, .int .i64 x.col, .int .i64 x.scale, .int .i64 x.tall, .int .i64 x.wide, .string x.name, .int .i64 x.level, .string x.text]
  k := 9
  t := 49
  bytes := 88
  len _ := rfl
  one := by
    intro r u hu
    simp only [List.mem_cons, List.not_mem_nil, or_false] at hu
    rcases hu with rfl | rfl | rfl | rfl | rfl | rfl | rfl | rfl | rfl <;> rfl
  pos := by decide
/-- an item in memory -/
theorem it_at {w : World} {a : Option Addr} {l : List It} (h : itE.At w a l) {i : Nat} {x : It} (hr : l[i]? = some x) : ∃ b o, a = some ⟨b, o, none⟩ ∧ b < w.heap.size ∧
    w.cell? ⟨b, o + i * 9, none⟩ = some (.int .i64 x.kind) ∧ w.cell? ⟨b, o + i * 9 + 1, none⟩ = some (.int .i64 x.row) ∧ w.cell? ⟨b, o + i * 9 + 2, none⟩ = some (.int .i64 x.col) ∧ w.cell? ⟨b, o + i * 9 + 3, none⟩ = some (.int .i64 x.scale) ∧ w.cell? ⟨b, o + i * 9 + 4, none⟩ = some (.int .i64 x.tall) ∧
    w.cell? ⟨b, o + i * 9 + 5, none⟩ = some (.int .i64 x.wide) ∧ w.cell? ⟨b, o + i * 9 + 6, none⟩ = some (.string x.name) ∧ w.cell? ⟨b, o + i * 9 + 7, none⟩ = some (.int .i64 x.level) ∧ w.cell? ⟨b, o + i * 9 + 8, none⟩ = some (.string x.text) := by
  obtain ⟨b, o, e, hc⟩ := h i x hr
  have h0 : w.cell? ⟨b, o + i * 9, none⟩ = some (.int .i64 x.kind) := hc 0 _ rfl
  exact ⟨b, o, e, lt_of_cell h0, h0, hc 1 _ rfl, hc 2 _ rfl, hc 3 _ rfl, hc 4 _ rfl, hc 5 _ rfl, hc 6 _ rfl, hc 7 _ rfl, hc 8 _ rfl⟩

/-- the box of an item on a label -/
def bxO (x : It) : Bx := ⟨x.row, x.col, ((boxI x).getD (0, 0)).1, ((boxI x).getD (0, 0)).2⟩
theorem bxO_some {x : It} {r c : Int} (h : boxI x = some (r, c)) : bxO x = ⟨x.row, x.col, r, c⟩ := by simp [bxO, h]
/-- the bounds of a box -/
theorem boxI_bd {x : It} {r c : Int} (h : boxI x = some (r, c)) : (1 ≤ r ∧ r ≤ 2000) ∧ (1 ≤ c ∧ c ≤ 2000) := by
  by_cases h1 : x.kind = 1
  · rw [boxI_text h1] at h
    split at h
    · next hh =>
      rw [scaledI_iff] at hh
      obtain ⟨-, ⟨⟨hs, -⟩, -⟩, l1, l2, -⟩ := hh
      simp only [Option.some.injEq, Prod.mk.injEq] at h
      obtain ⟨rfl, rfl⟩ := h
      have := mul_bd (a := 4 * (x.text.size : Int) - 1) (b := x.scale) (m := 159) (n := 8) (by omega) (by omega)
      omega
    · cases h
  by_cases h2 : x.kind = 2
  · rw [boxI_line h2] at h
    split at h
    · next hh =>
      simp only [Option.some.injEq, Prod.mk.injEq] at h
      omega
    · cases h
  by_cases h3 : x.kind = 3
  · rw [boxI_sym h3] at h
    split at h
    · next hh =>
      have hs := (scaledI_iff.1 hh.1).1.1
      split at h
      · next f hf =>
        rw [Option.map_eq_some_iff] at h
        obtain ⟨n, hn, h⟩ := h
        simp only [Prod.mk.injEq] at h
        obtain ⟨rfl, rfl⟩ := h
        have hm := smS_mem hn
        have ho := famN_ok hf
        have b1 := fam_sz (nm := f.name) (kd := f.kind) (p := f.fp) (k := f.fk) (g := f.fg) (szs := f.sizes) (cl := f.cols) (lvs := f.levels) ho hm
        have b2 := colsF_bd ho hm
        have e1 := mul_bd (a := n) (b := x.scale) (m := 41) (n := 8) (by omega) hs
        have e2 := mul_bd (a := colsF f n) (b := x.scale) (m := 125) (n := 8) b2 hs
        omega
      · cases h
    · cases h
  · rw [boxI_bad h1 h2 h3] at h; cases h
/-- a box lies on a raster -/
def cntB (R C row col r c : Int) : Bool := decide (0 ≤ row) && decide (0 ≤ col) && inB r 1 R && inB c 1 C && decide (row ≤ R - r) && decide (col ≤ C - c)
theorem onL_cnt {l : Lb} {x : It} {r c : Int} (h : boxI x = some (r, c)) : onL l x = cntB l.rows l.cols x.row x.col r c := by
  have hb := boxI_bd h
  unfold onL cntB
  rw [h, Bool.eq_iff_iff]
  simp only [inB, Bool.and_eq_true, decide_eq_true_eq]
  omega
theorem onL_none {l : Lb} {x : It} (h : boxI x = none) : onL l x = false := by unfold onL; rw [h]
theorem lbok_parts (l : Lb) : l.ok = (sizeB l.rows l.cols && decide (l.items.length ≤ 12) && l.items.all (onL l)) := by
  rw [Lb.ok, Bool.eq_iff_iff]
  simp only [sizeB, inB, Bool.and_eq_true, decide_eq_true_eq, and_assoc]

end Go.Proofs.YtlcglclojlffgaaGreatDoor
