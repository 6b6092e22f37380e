import Derived.Test.YtkmfgchbfchdbaaDoorVToI
import Derived.Test.YtkmfgchbfchdbaaDoorM0
import Derived.Laws.AppendOwnNone
import Derived.Deep.RegionHeld3
namespace Go.Proofs.YtkmfgchbfchdbaaDoor
open Go.RowKit

/-- the slice at address a holds the texts ss -/
def StrsAt (w : World) (a : Option Addr) (ss : List ByteArray) : Prop :=
  ∀ i (h : i < ss.length), ∃ b o, a = some ⟨b, o, none⟩ ∧ w.cell? ⟨b, o + i, none⟩ = some (.string ss[i])
theorem StrsAt.at {w : World} {a : Option Addr} {ss : List ByteArray} (H : StrsAt w a ss) {k : Nat} (hk : k < ss.length) :
    ∃ b o z, a = some ⟨b, o, none⟩ ∧ ss[k]? = some z ∧ b < w.heap.size ∧ w.cell? ⟨b, o + k, none⟩ = some (.string z) := by
  obtain ⟨b, o, ha, hc⟩ := H k hk
  exact ⟨b, o, ss[k], ha, List.getElem?_eq_getElem hk, lt_of_cell hc, hc⟩
theorem StrsAt.below {w w' : World} {a : Option Addr} {ss : List ByteArray} (H : StrsAt w a ss) (hb : Below w.heap.size w w') : StrsAt w' a ss := by
  intro i h
  obtain ⟨b, o, ha, hc⟩ := H i h
  exact ⟨b, o, ha, by rw [hb.cell (p := ⟨b, o + i, none⟩) (lt_of_cell hc)]; exact hc⟩
theorem StrsAt.grow {w w' : World} {a : Option Addr} {ss : List ByteArray} {B : Nat} (H : StrsAt w a ss) (hB : ∀ ad, a = some ad → ad.block < B) (hb : Below B w w') : StrsAt w' a ss := by
  intro i h
  obtain ⟨b, o, ha, hc⟩ := H i h
  exact ⟨b, o, ha, by rw [hb.cell (p := ⟨b, o + i, none⟩) (show b < B from hB _ ha)]; exact hc⟩
theorem StrsAt.nil {w : World} {a : Option Addr} : StrsAt w a [] := fun i h => absurd h (by simp)

/-- the slice v is the call's own and holds the texts ss -/
def OwnS (w : World) (base : Nat) (v : Value) (ss : List ByteArray) : Prop := w.ownsRow base 9 1 v ss.length (ss.map Value.string)
theorem OwnS.read {w : World} {base : Nat} {v : Value} {zs : List ByteArray} (h : OwnS w base v zs) : ∃ a c, v = .slice a zs.length c ∧ StrsAt w a zs := by
  unfold OwnS at h
  have h2 := h.2
  rcases h2 with ⟨rfl, h0⟩ | ⟨g, cap, cur, rfl, hb, hg, hn, hm, hs, ht⟩
  · refine ⟨none, 0, by rw [h0], ?_⟩
    intro i hi; omega
  · refine ⟨some ⟨g, 0, none⟩, cap, rfl, ?_⟩
    intro i hi
    refine ⟨g, 0, rfl, ?_⟩
    rw [Nat.zero_add, h.cellAt i (by omega)]
    simp [hi]
theorem OwnS.strs {w : World} {base : Nat} {a : Option Addr} {n c : Nat} {zs : List ByteArray} (h : OwnS w base (.slice a n c) zs) : StrsAt w a zs := by
  obtain ⟨a', c', e, hx⟩ := h.read
  obtain ⟨rfl, _, _⟩ := Value.slice.inj e
  exact hx
theorem OwnS.len {w : World} {base : Nat} {v : Value} {zs : List ByteArray} (h : OwnS w base v zs) : zs.length ≤ maxLen := by
  rcases h.2 with ⟨_, h0⟩ | ⟨g, cap, cur, rfl, hb, hg, hn, hm, hs, ht⟩
  · rw [h0]; exact Nat.zero_le _
  · omega
theorem OwnS.block {w : World} {base : Nat} {a : Option Addr} {n c : Nat} {zs : List ByteArray} (h : OwnS w base (.slice a n c) zs) (hk : 0 < zs.length) : ∃ g, a = some ⟨g, 0, none⟩ ∧ base ≤ g ∧ n = zs.length ∧ g < w.heap.size := by
  rcases h.2 with ⟨h1, h0⟩ | ⟨g, cap, cur, h1, hb, hg, _⟩
  · omega
  · simp only [Value.slice.injEq] at h1
    obtain ⟨rfl, rfl, rfl⟩ := h1
    exact ⟨g, rfl, hb, rfl, (Array.getElem?_eq_some_iff.1 hg).1⟩
theorem OwnS.grown {w w' : World} {base : Nat} {v : Value} {zs : List ByteArray} (h : OwnS w base v zs) (hb : Below w.heap.size w w') : OwnS w' base v zs :=
  h.kept (row := none) ⟨hb.os, hb.tape, hb.output, hb.size, fun k hk _ => hb.block k hk⟩ (by cases hv : v.ownBlock <;> simp)
theorem OwnS.weak {w : World} {base base' : Nat} {v : Value} {zs : List ByteArray} (h : OwnS w base v zs) (hb : base' ≤ base) : OwnS w base' v zs := by
  refine ⟨h.1, ?_⟩
  rcases h.2 with h2 | ⟨g, cap, cur, h1, hb', r⟩
  · exact Or.inl h2
  · exact Or.inr ⟨g, cap, cur, h1, by omega, r⟩
theorem OwnS.lo {w : World} {base : Nat} {v : Value} {zs : List ByteArray} (h : OwnS w base v zs) : ∀ k, v.ownBlock = some k → base ≤ k := fun k hk => (World.ownsRow.lt h k hk).1
theorem OwnS.hi {w : World} {base : Nat} {v : Value} {zs : List ByteArray} (h : OwnS w base v zs) : ∀ k, v.ownBlock = some k → k < w.heap.size := fun k hk => (World.ownsRow.lt h k hk).2
theorem OwnS.cellAt {w : World} {base g n c : Nat} {zs : List ByteArray} (h : OwnS w base (.slice (some ⟨g, 0, none⟩) n c) zs) (hn : n = zs.length) {k : Nat} (hk : k < zs.length) :
    ∃ z, zs[k]? = some z ∧ w.cell? ⟨g, k, none⟩ = some (.string z) ∧ w.frozen? ⟨g, k, none⟩ = false := by
  subst hn
  refine ⟨zs[k], by simp [hk], ?_, h.frozenAt k⟩
  rw [World.ownsRow.cellAt h k (by omega)]
  simp [hk]
theorem OwnS.stored {w : World} {base g n c : Nat} {zs : List ByteArray} (h : OwnS w base (.slice (some ⟨g, 0, none⟩) n c) zs) (hn : n = zs.length) (k : Nat) (z : ByteArray) :
    OwnS (w.setCell ⟨g, k, none⟩ (.string z)) base (.slice (some ⟨g, 0, none⟩) n c) (zs.set k z) ∧ w.grownBy (w.setCell ⟨g, k, none⟩ (.string z)) (some g) := by
  subst hn
  have hst := World.ownsRow.stored (h := h) k (.string z)
  refine ⟨?_, hst.2⟩
  unfold OwnS
  rw [List.map_set, List.length_set]
  exact hst.1
theorem OwnS.of_made {w : World} {base : Nat} {v : Value} {n : Nat} (h : w.ownsRow base 9 1 v n (madeCells #[.string ⟨#[]⟩] n).toList) : OwnS w base v (List.replicate n ⟨#[]⟩) := by
  unfold OwnS
  rw [toList_madeCells_one] at h
  simpa using h
theorem infoS : (Tryd.prog.info? 9).map (fun i => (i.zero, i.size, i.bytes)) = some (some (.string ⟨#[]⟩), 1, 16) := by kernel_rfl

theorem strs_at {w : World} {b o : Nat} {xs : List ByteArray} (h : StrsAt w (some ⟨b, o, none⟩) xs) : ∀ j u, (xs.map Value.string)[j]? = some u → w.cell? ((⟨b, o, none⟩ : Addr).add j) = some u := by
  intro j u hu
  rw [List.getElem?_map] at hu
  cases hx : xs[j]? with
  | none => rw [hx] at hu; cases hu
  | some x =>
    rw [hx] at hu
    obtain ⟨hj, rfl⟩ := List.getElem?_eq_some_iff.1 hx
    obtain ⟨b', o', e, hc⟩ := h j hj
    simp only [Option.some.injEq, Addr.mk.injEq, and_true] at e
    obtain ⟨rfl, rfl⟩ := e
    simp only [Option.map_some, Option.some.injEq] at hu
    subst hu
    rw [Addr.add_mid]
    exact hc

/-- after j rounds of a copy -/
def CopiedS (w : World) (base g : Nat) (xs : List ByteArray) (j : Nat) : Prop :=
  ∃ zs : List ByteArray, zs.length = xs.length ∧ OwnS w base (.slice (some ⟨g, 0, none⟩) xs.length xs.length) zs ∧ zs.take j = xs.take j
theorem CopiedS.step {w : World} {base g : Nat} {xs : List ByteArray} {j : Nat} {x : ByteArray} (h : CopiedS w base g xs j) (hx : xs[j]? = some x) : CopiedS (w.setCell ⟨g, j, none⟩ (.string x)) base g xs (j + 1) := by
  obtain ⟨zs, hl, ho, ht⟩ := h
  have hj : j < xs.length := (List.getElem?_eq_some_iff.1 hx).1
  refine ⟨zs.set j x, by simpa using hl, (ho.stored hl.symm j x).1, ?_⟩
  rw [take_snoc' hx, take_snoc' (zs := zs.set j x) (k := j) (z := x) (by simp [hl, hj]), List.take_set_of_le (Nat.le_refl _), ht]
theorem CopiedS.fin {w : World} {base g : Nat} {xs : List ByteArray} (h : CopiedS w base g xs xs.length) : OwnS w base (.slice (some ⟨g, 0, none⟩) xs.length xs.length) xs := by
  obtain ⟨zs, hl, ho, ht⟩ := h
  rw [List.take_of_length_le (by omega), List.take_of_length_le (by omega)] at ht
  rwa [ht] at ho

end Go.Proofs.YtkmfgchbfchdbaaDoor
