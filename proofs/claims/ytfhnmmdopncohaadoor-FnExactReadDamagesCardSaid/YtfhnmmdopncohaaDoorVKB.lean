import Derived.Test.YtfhnmmdopncohaaDoorM0
namespace Go.Proofs.YtfhnmmdopncohaaDoor
open Go.RowKit

/-! Regions that draw their order and only read or make memory: what stands in world w0 stands still. -/
def KB (W W' : World) : Prop := Below W.heap.size W W'
def StX (w0 W : World) : Prop := Below w0.heap.size w0 W
def spE (v : Value) : Sp KB := ⟨fun u _ => u = v, fun _ _ _ _ h => h⟩
/-- a slice of n cells, each as f tells -/
def RowF (n : Nat) (f : Nat → Value) (u : Value) (W : World) : Prop := ∃ b, u = .slice (some ⟨b, 0, none⟩) n n ∧ ∀ i, i < n → W.cell? ⟨b, i, none⟩ = some (f i)
theorem RowF.below {n : Nat} {f : Nat → Value} {u : Value} {W W' : World} (h : RowF n f u W) (hb : Below W.heap.size W W') : RowF n f u W' := by
  obtain ⟨b, e, hc⟩ := h
  exact ⟨b, e, fun i hi => by rw [hb.cell (p := ⟨b, i, none⟩) (lt_of_cell (hc i hi))]; exact hc i hi⟩
def spRow (n : Nat) (f : Nat → Value) : Sp KB := ⟨RowF n f, fun _ _ _ hk h => h.below hk⟩
theorem stX0 (w : World) : StX w w.drew := (Below.refl _ _).drew
theorem kbr (w : World) : KB w w := Below.refl _ _
theorem kb_same {w0 W : World} {s : Sp KB} {v : Value} (hst : StX w0 W) (h : s.holds v W) : RsR (StX w0) s W v W := ⟨hst, Below.refl _ _, h⟩
theorem kb_below {w0 W W' : World} {s : Sp KB} {v : Value} (hst : StX w0 W) (hb : Below W.heap.size W W') (h : s.holds v W') : RsR (StX w0) s W v W' := ⟨bt0 hst hb (Nat.le_refl _), hb, h⟩
/-- a slice of the call's own: blocks from base on -/
def spOwn (base : Nat) (zs : List Int) : Sp KB := ⟨fun v W => OwnI W base v zs, fun _ _ _ hk h => h.grown hk⟩

def spN (p : Value → Prop) : Sp (fun _ _ : World => True) := ⟨fun v _ => p v, fun _ _ _ _ h => h⟩
theorem n_same {St : World → Prop} {W : World} {s : Sp (fun _ _ : World => True)} {v : Value} (h : St W) (hs : s.holds v W) : RsR St s W v W := ⟨h, trivial, hs⟩

/-- a raster of the call's own -/
def RasV (base : Nat) (n m : Int) (zs : List Int) (v : Value) (W : World) : Prop := ∃ a c, v = .agg #[.int .i64 n, .int .i64 m, .slice a zs.length c] ∧ OwnI W base (.slice a zs.length c) zs
def spRas (base : Nat) (n m : Int) (zs : List Int) : Sp KB := ⟨RasV base n m zs, fun _ _ _ hk ⟨a, c, e, h⟩ => ⟨a, c, e, h.grown hk⟩⟩

end Go.Proofs.YtfhnmmdopncohaaDoor
