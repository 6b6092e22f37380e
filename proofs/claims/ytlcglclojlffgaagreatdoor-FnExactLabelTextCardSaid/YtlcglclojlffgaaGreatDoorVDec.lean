import Derived.Test.YtlcglclojlffgaaGreatDoorM0
import Derived.Test.YtlcglclojlffgaaGreatDoorShelf
import Derived.Lib.ItoaLen
import Derived.Lib.ItoaMem
namespace Go.Proofs.YtlcglclojlffgaaGreatDoor
open Go.RowKit

/-- the library's table of powers of ten lies in memory -/
def Tab (w : World) : Prop := Lib.TabIs Tryz.prog w "internal/strconv.uint64pow10" .u64 Lib.pow10Tab

theorem gTab : Tryz.prog.globalNamed "internal/strconv.uint64pow10" = some 5 := by kernel_rfl

theorem Tab.lt {w : World} (h : Tab w) : 5 < w.heap.size := by
  have hc := Lib.TabIs.cell h gTab 0 (by decide)
  exact lt_of_cell hc

theorem Tab.below {w w' : World} {B : Nat} (h : Tab w) (hb : Below B w w') (hB : 5 < B) : Tab w' :=
  var?_below hb gTab hB h

theorem Tab.next {w w' : World} (h : Tab w) (hb : Below w.heap.size w w') : Tab w' := h.below hb h.lt

theorem Tab.alloc {w : World} (h : Tab w) (o : Obj) : Tab (w.alloc o) := h.next ((Below.refl _ _).alloc (Nat.le_refl _) _)
theorem Tab.ext {w : World} (h : Tab w) (s : Ext w) : Tab s.w := h.next s.below

/-- a number in decimal -/
def decB (n : Int) : ByteArray := ⟨(Lib.itoa n).toArray⟩

theorem decB_size (n : Int) : (decB n).size = (Lib.itoa n).length := by simp [decB, ByteArray.size]

theorem below_grow (w : World) (k : Nat) (os : Array Obj) : Below w.heap.size w (Go.Sort.grow (w.drewN k) os) := by
  refine ⟨rfl, rfl, rfl, ?_, ?_⟩
  · simp [Go.Sort.grow, World.drewN]
  · intro i hi
    simp only [Go.Sort.grow, World.drewN]
    rw [Array.getElem?_append_left hi]

theorem formatInt_any (n : Int) (w : World) (h0 : -9223372036854775808 ≤ n) (h1 : n ≤ 9223372036854775807) (ht : Tab w) :
    Calls Tryz.prog 177 #[.int .i64 n, .int .i64 10] w fun e w' => e = .returned (.string (decB n)) ∧ Below w.heap.size w w' :=
  (Tryz.strconv_FormatInt_10 n h0 h1 w ht).mono fun _ _ ⟨he, k, os, hw⟩ => ⟨he, by rw [hw]; exact below_grow _ _ _⟩

end Go.Proofs.YtlcglclojlffgaaGreatDoor
