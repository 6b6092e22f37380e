import Derived.Test.YtpilkgcghlfdmaaGreatDoorM0
import Derived.Test.YtpilkgcghlfdmaaGreatDoorM1
import Derived.Laws.AppendOwnNone
import Derived.Deep.RegionHeld3
namespace Go.Proofs.YtpilkgcghlfdmaaGreatDoor
open Go.RowKit

/-- a slice of the call's own is handed back -/
def RetSl (w : World) (xs : List Int) (e : Ending) (w' : World) : Prop := ∃ a c, e = .returned (.slice a xs.length c) ∧ OwnI w' w.heap.size (.slice a xs.length c) xs ∧ Below w.heap.size w w'

theorem own_app {w : World} {B : Nat} {v : Value} {n : Nat} {xs : List Int} (h : w.ownsRow B 2 1 v n ([] ++ xs.map (Value.int .i64))) (hn : n = xs.length) : OwnI w B v xs := by
  subst hn
  simpa [OwnI] using h
theorem retSl_of {w w1 w2 : World} {B : Nat} {v : Value} {xs : List Int} (h : OwnI w2 w1.heap.size v xs) (hB : w.heap.size = B) (hB2 : B ≤ w1.heap.size) (hb : Below B w w2) : RetSl w xs (.returned v) w2 := by
  obtain ⟨a, c, rfl, _⟩ := h.read
  subst hB
  exact ⟨a, c, rfl, h.weak hB2, hb⟩

theorem ints_at {w : World} {b o : Nat} {xs : List Int} (h : IntsAt w (some ⟨b, o, none⟩) xs) : ∀ j u, (xs.map (Value.int .i64))[j]? = some u → w.cell? ((⟨b, o, none⟩ : Addr).add j) = some u := by
  intro j u hu
  rw [List.getElem?_map] at hu
  cases hx : xs[j]? with
  | none => rw [hx] at hu; cases hu
  | some x =>
    rw [hx] at hu
    obtain ⟨hj, rfl⟩ := List.getElem?_eq_some_iff.1 hx
    obtain ⟨b', o', e, hc⟩ := h j hj
    simp only [Option.some.injEq, Addr.mk.injEq, and_true] at e
    obtain ⟨rfl, rfl⟩ := e
    simp only [Option.map_some, Option.some.injEq] at hu
    subst hu
    rw [Addr.add_mid]
    exact hc
theorem ints_one (xs : List Int) : ∀ u ∈ xs.map (Value.int .i64), u.oneCell' = true := by
  intro u hu
  obtain ⟨x, _, rfl⟩ := List.mem_map.1 hu
  rfl

set_option maxHeartbeats 400000 in
theorem l01Own_any (a : Option Addr) (xs : List Int) (c : Nat) (w : World) (hx : IntsAt w a xs) (lx : xs.length ≤ 1099511627776) (hs : Slc a xs) :
    Calls Tryz.prog 92 #[.slice a xs.length c] w (RetSl w xs) := by
  obtain ⟨i0, hi, y0, y1, y2⟩ := info_parts infoI
  have hown0 : (w.alloc (.cells #[] 2 (0, 0))).ownsRow w.heap.size 2 1 (.slice (some ⟨w.heap.size, 0, none⟩) 0 0) 0 [] := World.ownsRow_lit (base := w.heap.size) (size := 1) w #[] 0 (Nat.le_refl _) (by unfold maxLen; omega) rfl
  have hl : xs.length ≤ maxLen := by unfold maxLen; omega
  obtain ⟨ha, hn⟩ := hs
  cases a with
  | none =>
    obtain rfl := hn rfl
    have HO0 := Lib.hid hown0
    clear hown0
    go_enter Tryz.func92, Tryz.ntmps92
    go_wp2_with (at_builtin; refine wpList_append_own_none rfl _ _ 35 rfl w.heap.size 2 i0 1 Tryz.underlying35 hi _ _ _ rfl HO0.out rfl ?_)
    go_ret
    exact ⟨some ⟨w.heap.size, 0, none⟩, 0, rfl, HO0.out, ba1 _ _⟩
  | some ad =>
    obtain ⟨b, o, s⟩ := ad
    obtain rfl := ha _ rfl
    have HX := Lib.hid (ints_at (hx.below (ba1 w (.cells #[] 2 (0, 0)))))
    have HO0 := Lib.hid hown0
    clear hx hn ha hown0
    go_enter Tryz.func92, Tryz.ntmps92
    go_wp2_with (at_builtin; refine wpList_append_own _ rfl _ _ 35 rfl w.heap.size 2 i0 (.int .i64 0) 1 8 Tryz.underlying35 hi y0 y1 y2 rfl (by decide) _ _ _ rfl HO0.out ⟨b, o, none⟩ xs.length c (xs.map (Value.int .i64)) rfl (by simp) HX.out (ints_one _) (by omega) (by omega) (by simp) ?_; intro v' w1 hown hg _)
    have ho := own_app hown (by omega)
    have hb := (ba1 w (.cells #[] 2 (0, 0))).trans (below_of_grownBy hg (B := w.heap.size) (by simp) (fun k h => by cases h; exact Nat.le_refl _))
    clear hown hg
    have HO := Lib.hid ho
    have HB := Lib.hid hb
    clear ho hb hi
    go_wp2_with fail
    go_ret
    exact retSl_of (w1 := w) HO.out rfl (Nat.le_refl _) HB.out

end Go.Proofs.YtpilkgcghlfdmaaGreatDoor
