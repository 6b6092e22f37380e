import Derived.Test.YthnjfdhijpfekaaUDraw31
import Derived.Test.YthnjfdhijpfekaaUOwn2
namespace Go.Proofs.Ythnjfdhijpfekaa
open Go.RowKit

/-- a drawn session: a batch as l31Draw leaves it, a row of the call's own -/
def RetDrawn (w : World) (b : Nat) (e : Ending) (w' : World) : Prop :=
  ∃ (p : ByteArray) (x1 x2 x3 x4 : Int) (zs : List Int) (a : Option Addr) (c : Nat), e = .returned (.agg #[.string p, .int .i64 x1, .int .i64 x2, .int .i64 x3, .int .i64 x4, .slice a zs.length c]) ∧ p.size ≤ 13 ∧ (0 ≤ x1 ∧ x1 ≤ 999999999) ∧ (0 ≤ x2 ∧ x2 ≤ 999999999) ∧ (0 ≤ x3 ∧ x3 ≤ 999999999) ∧ (0 ≤ x4 ∧ x4 ≤ 999999999) ∧
    zs.length ≤ 300 ∧ (∀ z ∈ zs, -1 ≤ z ∧ z ≤ 5) ∧ IntsAt w' a zs ∧ Slc a zs ∧ (∀ ad, a = some ad → w.heap.size < ad.block) ∧ Src w' b ∧ w.grownBy w' (some b)

/-- the rows drawn so far -/
def Drawn (w0 : World) (b base : Nat) (lo hi : Int) (n : Nat) (v : Value) (wr : World) : Prop :=
  ∃ zs : List Int, zs.length = n ∧ (∀ z ∈ zs, lo ≤ z ∧ z ≤ hi) ∧ OwnI wr base v zs ∧ StB b w0 wr

theorem own_apart {w : World} {base b : Nat} {v : Value} {zs : List Int} (h : OwnI w base v zs) (hb : b < base) : v.ownBlock ≠ some b := by
  rcases h.2 with ⟨rfl, _⟩ | ⟨g, cap, cur, rfl, hg, _⟩
  · simp [Value.ownBlock]
  · simp [Value.ownBlock]; omega

theorem own_src {w w' : World} {base b : Nat} {v : Value} {zs : List Int} (h : OwnI w base v zs) (hb : b < base) (hg : w.grownBy w' (some b)) : OwnI w' base v zs :=
  h.kept (row := some b) hg (by have := own_apart h hb; cases hv : v.ownBlock <;> simp_all)

theorem own_at {w : World} {base : Nat} {v : Value} {zs : List Int} (h : OwnI w base v zs) : ∀ g, v.ownBlock = some g → base ≤ g := by
  rcases h.2 with ⟨rfl, _⟩ | ⟨g, cap, cur, rfl, hg, _⟩
  · simp [Value.ownBlock]
  · intro k e; simp [Value.ownBlock] at e; omega
theorem stB_own {b base : Nat} {w0 w wo w' : World} {v : Value} {zs : List Int} (hst : StB b w0 w) (ho : OwnI wo base v zs) (hg : w.grownBy w' v.ownBlock) (hb : b < base) (h0 : w0.heap.size ≤ base) : StB b w0 w' :=
  ⟨hst.1.kept hg (fun k e => by have := own_at ho k e; omega), hst.2.andThen hg (fun j e => Or.inl (by have := own_at ho j e; omega))⟩
theorem drawn_more {w0 w wo w' : World} {b base : Nat} {lo hi : Int} {v v0 : Value} {zs : List Int} {z : Int} (ho0 : OwnI wo base v0 zs) (hz : ∀ z ∈ zs, lo ≤ z ∧ z ≤ hi) (hl : lo ≤ z) (hh : z ≤ hi) (ho : w'.ownsRow base 2 1 v (zs.length + 1) (zs.map (Value.int .i64) ++ [.int .i64 z])) (hst : StB b w0 w) (hg : w.grownBy w' v0.ownBlock) (hb : b < base) (h0 : w0.heap.size ≤ base) :
    Drawn w0 b base lo hi (zs.length + 1) v w' := by
  have h1 : OwnI w' base v (zs ++ [z]) := by
    unfold OwnI
    rw [List.map_append, List.length_append]
    exact ho
  refine ⟨zs ++ [z], by simp, fun y hy => ?_, h1, stB_own hst ho0 hg hb h0⟩
  rcases List.mem_append.1 hy with hy | hy
  · exact hz y hy
  · simp at hy; subst hy; exact ⟨hl, hh⟩
theorem twoT {p : Value → Prop} {a b : Value} (ha : p a) (hb : p b) : ∀ i, i < 2 → ∃ u, (#[a, b] : Array Value)[i]? = some u ∧ p u
  | 0, _ => ⟨_, rfl, ha⟩
  | 1, _ => ⟨_, rfl, hb⟩
theorem sevenT {p : Value → Prop} {a b c d e f g : Value} (ha : p a) (hb : p b) (hc : p c) (hd : p d) (he : p e) (hf : p f) (hg : p g) : ∀ i, i < 7 → ∃ u, (#[a, b, c, d, e, f, g] : Array Value)[i]? = some u ∧ p u
  | 0, _ => ⟨_, rfl, ha⟩
  | 1, _ => ⟨_, rfl, hb⟩
  | 2, _ => ⟨_, rfl, hc⟩
  | 3, _ => ⟨_, rfl, hd⟩
  | 4, _ => ⟨_, rfl, he⟩
  | 5, _ => ⟨_, rfl, hf⟩
  | 6, _ => ⟨_, rfl, hg⟩

theorem intsAt_other {W : World} {a : Option Addr} {zs : List Int} (h : IntsAt W a zs) {R j : Nat} {v : Value} (hne : ∀ ad, a = some ad → ad.block ≠ R) : IntsAt (W.setCell ⟨R, j, none⟩ v) a zs := by
  intro i hi
  obtain ⟨g, o, ha, hc⟩ := h i hi
  refine ⟨g, o, ha, ?_⟩
  rw [← hc]
  exact World.cell?_of_block (a := ⟨g, o + i, none⟩) (heap_setCell_other W ⟨R, j, none⟩ g v (by have := hne _ ha; exact this))

/-- the end: the session lies in the result's box -/
theorem retDrawn_of {w W : World} {b : Nat} {v0 v1 v2 v3 v4 v5 : Value} {o : Obj} {w0 : World} (hlt : b < w.heap.size) (hw : (w.alloc o).grownBy w0 (some b)) (hst : StB b w0 W) {p : ByteArray} {x1 x2 x3 x4 : Int} (hb : p.size ≤ 13 ∧ (0 ≤ x1 ∧ x1 ≤ 999999999) ∧ (0 ≤ x2 ∧ x2 ≤ 999999999) ∧ (0 ≤ x3 ∧ x3 ≤ 999999999) ∧ (0 ≤ x4 ∧ x4 ≤ 999999999))
    {zs : List Int} {a : Option Addr} {c : Nat} (hl : zs.length ≤ 300) (hz : ∀ z ∈ zs, -1 ≤ z ∧ z ≤ 5) (hi : IntsAt W a zs) (hsl : Slc a zs) (hgt : ∀ ad, a = some ad → w.heap.size < ad.block) :
    RetDrawn w b (.returned (.agg #[.string p, .int .i64 x1, .int .i64 x2, .int .i64 x3, .int .i64 x4, .slice a zs.length c])) ((((((W.setCell ⟨w.heap.size, 0, none⟩ v0).setCell ⟨w.heap.size, 1, none⟩ v1).setCell ⟨w.heap.size, 2, none⟩ v2).setCell ⟨w.heap.size, 3, none⟩ v3).setCell ⟨w.heap.size, 4, none⟩ v4).setCell ⟨w.heap.size, 5, none⟩ v5) := by
  have hne : ∀ ad, a = some ad → ad.block ≠ w.heap.size := fun ad e => Nat.ne_of_gt (hgt ad e)
  have h0 : StB b w W := ⟨hst.1, grownBy_trans (World.grownBy_alloc _ _ _) (grownBy_trans hw hst.2)⟩
  have h5 := stB_set (v := v5) (i := 5) (stB_set (v := v4) (i := 4) (stB_set (v := v3) (i := 3) (stB_set (v := v2) (i := 2) (stB_set (v := v1) (i := 1) (stB_set (v := v0) (i := 0) h0 hlt (Nat.le_refl _)) hlt (Nat.le_refl _)) hlt (Nat.le_refl _)) hlt (Nat.le_refl _)) hlt (Nat.le_refl _)) hlt (Nat.le_refl _)
  exact ⟨p, x1, x2, x3, x4, zs, a, c, rfl, hb.1, hb.2.1, hb.2.2.1, hb.2.2.2.1, hb.2.2.2.2, hl, hz, intsAt_other (intsAt_other (intsAt_other (intsAt_other (intsAt_other (intsAt_other hi hne) hne) hne) hne) hne) hne, hsl, hgt, h5.1, h5.2⟩

theorem own_cap {w : World} {base n c : Nat} {a : Option Addr} {zs : List Int} (h : OwnI w base (.slice a n c) zs) : zs.length ≤ c := by
  rcases h.2 with ⟨h1, h2⟩ | ⟨g, cap, cur, h1, hg, _, h3, _⟩
  · omega
  · simp only [Value.slice.injEq] at h1; omega
/-- the rest behind the first -/
theorem ints_tail {w : World} {g : Nat} {zs : List Int} (h : IntsAt w (some ⟨g, 0, none⟩) zs) : IntsAt w (some ⟨g, 1, none⟩) zs.tail := by
  intro i hi
  obtain ⟨b, o, ha, hc⟩ := h (i + 1) (by simp at hi; omega)
  simp only [Option.some.injEq, Addr.mk.injEq, and_true] at ha
  obtain ⟨rfl, rfl⟩ := ha
  refine ⟨g, 1, rfl, ?_⟩
  rw [List.getElem_tail, ← hc, show (1 + i) = 0 + (i + 1) by omega]

end Go.Proofs.Ythnjfdhijpfekaa
