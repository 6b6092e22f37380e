import Derived.Test.YtpilkgcghlfdmaaGreatDoorVLOwn
import Derived.Test.YtpilkgcghlfdmaaGreatDoorVTrans
import Derived.Test.YtpilkgcghlfdmaaGreatDoorVMu
import Derived.Test.YtpilkgcghlfdmaaGreatDoorM0
import Derived.Laws.AppendOwnNone
import Derived.Deep.RegionHeld3

namespace Go.Proofs.YtpilkgcghlfdmaaGreatDoor
open Go.RowKit

set_option maxHeartbeats 400000 in
theorem copyOf_any (a : Option Addr) (xs : List Int) (c : Nat) (w : World) (hx : IntsAt w a xs) (lx : xs.length ≤ 1099511627776) (ha : ∀ ad, a = some ad → ad.spot = none) (hn : a = none → xs = []) :
    Calls Tryz.prog 64 #[.slice a xs.length c] w (RetSl w xs) := by
  obtain ⟨i0, hi, y0, y1, y2⟩ := info_parts infoI
  have hl : xs.length ≤ maxLen := by unfold maxLen; omega
  cases a with
  | none =>
    obtain rfl := hn rfl
    go_enter Tryz.func64, Tryz.ntmps64
    go_wp2_with fail
    go_ret
    exact retSl_of (w1 := w) (World.ownsRow_nil _ _ _ _) rfl (Nat.le_refl _) (Below.refl _ _)
  | some ad =>
    obtain ⟨b, o, s⟩ := ad
    obtain rfl := ha _ rfl
    have HX := Lib.hid (ints_at hx)
    clear hx hn ha
    go_enter Tryz.func64, Tryz.ntmps64
    go_wp2_with (at_builtin; refine wpList_append_own _ rfl _ _ 35 rfl w.heap.size 2 i0 (.int .i64 0) 1 8 Tryz.underlying35 hi y0 y1 y2 rfl (by decide) _ _ _ rfl (World.ownsRow_nil _ _ _ _) ⟨b, o, none⟩ xs.length c (xs.map (Value.int .i64)) rfl (by simp) HX.out (ints_one _) (by omega) (by omega) (Nat.le_refl _) ?_; intro v' w1 hown hg _)
    have ho := own_app hown (by omega)
    have hb := below_of_grownBy hg (Nat.le_refl _) (fun k h => by cases h)
    clear hown hg
    have HO := Lib.hid ho
    have HB := Lib.hid hb
    clear ho hb hi
    go_wp2_with fail
    go_ret
    exact retSl_of (w1 := w) HO.out rfl (Nat.le_refl _) HB.out

/-- a keeper's cells -/
def kcs (st : Int) (p : ByteArray) (x1 x2 x3 x4 : Int) (v : Value) : Array Value := #[.int .i32 st, .int .u32 0, .string p, .int .i64 x1, .int .i64 x2, .int .i64 x3, .int .i64 x4, v]
/-- a keeper is handed back -/
def RetKeep (w : World) (p : ByteArray) (x1 x2 x3 x4 : Int) (xs : List Int) (e : Ending) (w' : World) : Prop :=
  ∃ b a c, e = .returned (.pointer (some ⟨b, 0, none⟩)) ∧ w'.heap[b]? = some (.cells (kcs 0 p x1 x2 x3 x4 (.slice a xs.length c)) 93 (0, 0)) ∧ OwnI w' w.heap.size (.slice a xs.length c) xs ∧
    w.heap.size ≤ b ∧ (∀ k, Value.ownBlock (.slice a xs.length c) = some k → k ≠ b) ∧ Below w.heap.size w w'

set_option maxHeartbeats 1000000 in
theorem keep_any (p : ByteArray) (x1 x2 x3 x4 : Int) (a : Option Addr) (xs : List Int) (c : Nat) (w : World) (hx : IntsAt w a xs) (lx : xs.length ≤ 1099511627776) (hs : Slc a xs) :
    Calls Tryz.prog 37 #[.agg #[.string p, .int .i64 x1, .int .i64 x2, .int .i64 x3, .int .i64 x4, .slice a xs.length c]] w (RetKeep w p x1 x2 x3 x4 xs) := by
  have HX := Lib.hid hx
  have HS := Lib.hid hs
  clear hx hs
  go_enter Tryz.func37, Tryz.ntmps37
  have hA0 : ∀ i, (w.alloc (.cells #[.string p, .int .i64 x1, .int .i64 x2, .int .i64 x3, .int .i64 x4, .slice a xs.length c] 37 (0, 0))).drew.cell? ⟨w.heap.size, i, none⟩ = #[Value.string p, .int .i64 x1, .int .i64 x2, .int .i64 x3, .int .i64 x4, .slice a xs.length c][i]? := fun i => by simp
  go_wp2_with fail
  go_region_held3 (fun w' => ∀ i, w'.cell? ⟨w.heap.size, i, none⟩ = #[Value.string p, .int .i64 x1, .int .i64 x2, .int .i64 x3, .int .i64 x4, .slice a xs.length c][i]?) (first | assumption | exact boxK (ba1 _ _) hA (by simp))
    ((go_at_call 64; go_must (refine (copyOf_any a xs c _ (HX.out.below ((ba1 _ _).drew)) lx HS.out.1 HS.out.2).mono ?_; rintro e w2 ⟨a2, c2, rfl, ho2, hb2⟩; have hA := box1 (undrew hb2); have HB := Lib.hid (bt1 (undrew hb2)); have HO := Lib.hid (ho2.weak (show w.heap.size ≤ _ by simp)); clear hb2 ho2)))
  go_wp2_with fail
  go_ret
  exact ⟨w2.heap.size, a2, c2, rfl, Array.getElem?_push_size, HO.out.grown (ba1 _ _), HB.out.size, fun k hk e => by have := HO.out.hi k hk; omega, HB.out.trans ((ba1 _ _).mono HB.out.size)⟩

/-- what a record does -/
def apOk (k i x3 : Int) (xs : List Int) : Bool := isRecB k i && decide (i < x3) && nextS k (xs.getD i.toNat 0) != 0
def apC (k i x3 : Int) (xs : List Int) : Int := if isRecB k i && decide (i < x3) then if nextS k (xs.getD i.toNat 0) != 0 then 0 else 5 else 2
def apXs (k i x3 : Int) (xs : List Int) : List Int := if apOk k i x3 xs then xs.set i.toNat (nextS k (xs.getD i.toNat 0)) else xs

/-- a keeper behind a record -/
def RetApply (B b base : Nat) (w : World) (p : ByteArray) (x1 x2 x3 x4 : Int) (v : Value) (xs : List Int) (code : Int) (e : Ending) (w' : World) : Prop :=
  e = .returned (.int .i64 code) ∧ w'.heap[b]? = some (.cells (kcs 0 p x1 x2 x3 x4 v) 93 (0, 0)) ∧ OwnI w' base v xs ∧ Below B w w'

theorem kcs_set (st st' : Int) (p : ByteArray) (x1 x2 x3 x4 : Int) (v : Value) : (kcs st p x1 x2 x3 x4 v).setIfInBounds 0 (.int .i32 st') = kcs st' p x1 x2 x3 x4 v := rfl
theorem heap_set0 {w : World} {b : Nat} {C : Array Value} {t : TypeId} {fr : Nat × Nat} (h : w.heap[b]? = some (.cells C t fr)) (i : Nat) (v : Value) : (w.setCell ⟨b, i, none⟩ v).heap[b]? = some (.cells (C.setIfInBounds i v) t fr) := by
  rw [setCell_eq_setRow w b i C t fr v h]
  exact setRow_heap w b _ _ t _ h
theorem own_setOther {w : World} {base b : Nat} {v : Value} {xs : List Int} (h : OwnI w base v xs) (hne : ∀ k, v.ownBlock = some k → k ≠ b) (i : Nat) (u : Value) : OwnI (w.setCell ⟨b, i, none⟩ u) base v xs :=
  h.other (row := some b) ⟨rfl, rfl, rfl, by simp, fun k _ hk => heap_setCell_other w ⟨b, i, none⟩ k u (fun e => hk (by simp [e]))⟩ (fun k hk e => hne k hk (Option.some.inj e).symm)

theorem locked {B b base : Nat} {k i : Int} {p : ByteArray} {x1 x2 x3 x4 : Int} {v : Value} {xs : List Int} {w W : World} (hb : w.heap[b]? = some (.cells (kcs 0 p x1 x2 x3 x4 v) 93 (0, 0))) (ho : OwnI w base v xs)
    (hne : ∀ g, v.ownBlock = some g → g ≠ b) (hB1 : B ≤ b) (hW : W = (w.alloc (.cells #[.int .i64 k, .int .i64 i] 53 (0, 0))).setCell ⟨b, 0, none⟩ (.int .i32 1)) :
    W.heap[b]? = some (.cells (kcs 1 p x1 x2 x3 x4 v) 93 (0, 0)) ∧ OwnI W base v xs ∧ Below B w W ∧ b < w.heap.size ∧ w.heap.size < W.heap.size ∧ (∀ j, W.cell? ⟨w.heap.size, j, none⟩ = (#[.int .i64 k, .int .i64 i] : Array Value)[j]?) ∧
      (∀ j, W.cell? ⟨b, j, none⟩ = (#[.int .i32 1, .int .u32 0, .string p, .int .i64 x1, .int .i64 x2, .int .i64 x3, .int .i64 x4, v] : Array Value)[j]?) := by
  have hlt : b < w.heap.size := (Array.getElem?_eq_some_iff.1 hb).1
  have h1 : (w.alloc (.cells #[.int .i64 k, .int .i64 i] 53 (0, 0))).heap[b]? = some (.cells (kcs 0 p x1 x2 x3 x4 v) 93 (0, 0)) := ((World.grownBy_alloc w _ none).block b hlt (by simp)).trans hb
  have h2 : W.heap[b]? = some (.cells (kcs 1 p x1 x2 x3 x4 v) 93 (0, 0)) := by
    rw [hW, heap_set0 h1]; rfl
  have h3 : W.heap[w.heap.size]? = some (.cells #[.int .i64 k, .int .i64 i] 53 (0, 0)) := by
    rw [hW, heap_setCell_other _ _ _ _ (by simp; omega)]
    exact Array.getElem?_push_size
  refine ⟨h2, ?_, ?_, hlt, ?_, fun j => by simp [World.cell?, h3], fun j => by simp [World.cell?, h2, kcs]⟩
  · rw [hW]
    exact own_setOther (ho.grown (ba1 _ _)) hne 0 _
  · rw [hW]
    exact ((ba1 _ _).mono (by omega)).setCell hB1 _
  · rw [hW]; simp

/-- the lock is given back -/
theorem unlocked {B b base : Nat} {p : ByteArray} {x1 x2 x3 x4 : Int} {v : Value} {xs : List Int} {code : Int} {w W : World} (h2 : W.heap[b]? = some (.cells (kcs 1 p x1 x2 x3 x4 v) 93 (0, 0))) (ho : OwnI W base v xs)
    (hne : ∀ g, v.ownBlock = some g → g ≠ b) (hB1 : B ≤ b) (hw : Below B w W) : RetApply B b base w p x1 x2 x3 x4 v xs code (.returned (.int .i64 code)) (W.setCell ⟨b, 0, none⟩ (.int .i32 0)) :=
  ⟨rfl, by rw [heap_set0 h2]; rfl, own_setOther ho hne 0 _, hw.setCell hB1 _⟩

set_option maxHeartbeats 1000000 in
theorem apply_no (B b base : Nat) (k i : Int) (p : ByteArray) (x1 x2 x3 x4 : Int) (v : Value) (xs : List Int) (w : World) (hb : w.heap[b]? = some (.cells (kcs 0 p x1 x2 x3 x4 v) 93 (0, 0))) (ho : OwnI w base v xs)
    (hne : ∀ g, v.ownBlock = some g → g ≠ b) (hB1 : B ≤ b) (hno : (isRecB k i && decide (i < x3)) = false) :
    Calls Tryz.prog 39 #[.pointer (some ⟨b, 0, none⟩), .agg #[.int .i64 k, .int .i64 i]] w (RetApply B b base w p x1 x2 x3 x4 v xs 2) := by
  have hlt : b < w.heap.size := (Array.getElem?_eq_some_iff.1 hb).1
  have h1 : (w.alloc (.cells #[.int .i64 k, .int .i64 i] 53 (0, 0))).heap[b]? = some (.cells (kcs 0 p x1 x2 x3 x4 v) 93 (0, 0)) := ((World.grownBy_alloc w _ none).block b hlt (by simp)).trans hb
  have hc0 : (w.alloc (.cells #[.int .i64 k, .int .i64 i] 53 (0, 0))).cell? ⟨b, 0, none⟩ = some (.int .i32 0) := by unfold World.cell?; rw [h1]; rfl
  have hf0 : (w.alloc (.cells #[.int .i64 k, .int .i64 i] 53 (0, 0))).frozen? ⟨b, 0, none⟩ = false := by unfold World.frozen?; rw [h1]; rfl
  have HC0 := Lib.hid hc0
  have HF0 := Lib.hid hf0
  clear h1 hc0 hf0
  have HBk := Lib.hid hb
  have HO := Lib.hid ho
  have HN := Lib.hid hne
  clear hb ho hne
  rcases (show isRecB k i = false ∨ (isRecB k i = true ∧ decide (x3 ≤ i) = true) by
    cases hh : isRecB k i
    · exact Or.inl rfl
    · rw [hh] at hno; simp at hno; exact Or.inr ⟨rfl, by simp; omega⟩) with h1 | ⟨h1, h2⟩
  all_goals
    clear hno
    go_enter_defers Tryz.func39, Tryz.ntmps39
    go_wp2_with fail
    refine (lock_any ⟨b, 0, none⟩ _ HC0.out HF0.out).mono ?_
    rintro e W ⟨rfl, hW⟩
    obtain ⟨g1, g2, g3, _, g5, hr, hk⟩ := locked HBk.out HO.out HN.out hB1 hW
    have G1 := Lib.hid g1
    have G2 := Lib.hid g2
    have G3 := Lib.hid g3
    have hlt' : b < W.heap.size := by omega
    clear g1 g2 g3 hW
    go_wp2_with fail
    refine wp_region_ext (by kernel_rfl) (by kernel_rfl) ?_
    repeat (go_big_quiet_step ((go_at_call 67; go_must (apply calls_ext; apply isRecord_val; assumption))))
    refine wpQuiet_nil ?_
    rintro _ ⟨s, rfl⟩
    go_wp2_with fail
    refine leaves_cons (f := 66) (args := #[.pointer (some ⟨b, 0, none⟩)]) (by simp) (by simp [go_sem]) ?_
    refine (unlock_def ⟨b, 0, none⟩ .returning _ ?_ ?_).mono ?_
    · rw [s.cell _ _ hlt', hk 0]; rfl
    · have := s.below.block b hlt'; simp [World.frozen?, this, G1.out]
    rintro e u' w'' ⟨rfl, rfl, rfl⟩
    exact ⟨_, results_tmp rfl _ _ _, unlocked ((s.below.block b hlt').trans G1.out) (G2.out.grown s.below) HN.out hB1 (G3.out.trans (s.below.mono (by omega)))⟩

set_option maxHeartbeats 1000000 in
theorem apply_st (B b base : Nat) (k i : Int) (p : ByteArray) (x1 x2 x3 x4 : Int) (a : Option Addr) (c : Nat) (xs : List Int) (w : World) (hb : w.heap[b]? = some (.cells (kcs 0 p x1 x2 x3 x4 (.slice a xs.length c)) 93 (0, 0))) (ho : OwnI w base (.slice a xs.length c) xs)
    (hne : ∀ g, Value.ownBlock (.slice a xs.length c) = some g → g ≠ b) (hB1 : B ≤ b) (h1 : isRecB k i = true) (h2 : i < x3) (hl : (xs.length : Int) = x3) (hx : ∀ x ∈ xs, 0 ≤ x ∧ x ≤ 4) (ht : nextS k (xs.getD i.toNat 0) = 0) :
    Calls Tryz.prog 39 #[.pointer (some ⟨b, 0, none⟩), .agg #[.int .i64 k, .int .i64 i]] w (RetApply B b base w p x1 x2 x3 x4 (.slice a xs.length c) xs 5) := by
  have hlt : b < w.heap.size := (Array.getElem?_eq_some_iff.1 hb).1
  have h1 : (w.alloc (.cells #[.int .i64 k, .int .i64 i] 53 (0, 0))).heap[b]? = some (.cells (kcs 0 p x1 x2 x3 x4 (.slice a xs.length c)) 93 (0, 0)) := ((World.grownBy_alloc w _ none).block b hlt (by simp)).trans hb
  have hc0 : (w.alloc (.cells #[.int .i64 k, .int .i64 i] 53 (0, 0))).cell? ⟨b, 0, none⟩ = some (.int .i32 0) := by unfold World.cell?; rw [h1]; rfl
  have hf0 : (w.alloc (.cells #[.int .i64 k, .int .i64 i] 53 (0, 0))).frozen? ⟨b, 0, none⟩ = false := by unfold World.frozen?; rw [h1]; rfl
  have HC0 := Lib.hid hc0
  have HF0 := Lib.hid hf0
  clear h1 hc0 hf0
  have HBk := Lib.hid hb
  have HO := Lib.hid ho
  have HN := Lib.hid hne
  clear hb ho hne
  obtain ⟨k0, i0⟩ : (1 ≤ k ∧ k ≤ 4) ∧ (0 ≤ i ∧ i ≤ 199) := by
    have h := h1; unfold isRecB at h; rw [Bool.and_eq_true, inB_iff, inB_iff] at h; exact h
  obtain ⟨k1, k4⟩ := k0
  obtain ⟨i1, i2⟩ := i0
  obtain ⟨j, rfl⟩ := Int.eq_ofNat_of_zero_le i1
  have hj : j < xs.length := by omega
  obtain ⟨g, rfl, hbg, _, hgl⟩ := HO.out.block (by omega)
  obtain ⟨x, hxj⟩ : ∃ x, xs[j]? = some x := ⟨_, List.getElem?_eq_getElem hj⟩
  have hxd : xs.getD j 0 = x := by rw [List.getD_eq_getElem?_getD, hxj]; rfl
  obtain ⟨x0, x4'⟩ := hx x (List.mem_of_getElem? hxj)
  rw [Int.toNat_natCast, hxd] at ht
  have hgb : g ≠ b := HN.out g rfl
  have h2' : decide (x3 ≤ (j : Int)) = false := by simp; omega
  have HXJ := Lib.hid hxj
  have HT := Lib.hid ht
  have HL := Lib.hid hl
  clear hx hxj hxd ht i1 hl h2
  go_enter_defers Tryz.func39, Tryz.ntmps39
  go_wp2_with fail
  refine (lock_any ⟨b, 0, none⟩ _ HC0.out HF0.out).mono ?_
  rintro e W ⟨rfl, hW⟩
  obtain ⟨g1, g2, g3, _, g5, hr, hk⟩ := locked HBk.out HO.out HN.out hB1 hW
  have G1 := Lib.hid g1
  have G2 := Lib.hid g2
  have G3 := Lib.hid g3
  have hlt' : b < W.heap.size := by omega
  obtain ⟨x', hx', hcg, hfg⟩ := g2.cellAt rfl hj
  obtain rfl : x' = x := Option.some.inj (hx'.symm.trans HXJ.out)
  have hgl' : g < W.heap.size := by omega
  have hj1 : (j : Int) < (xs.length : Int) := by omega
  have hj0 : (0 : Int) ≤ (j : Int) := by omega
  clear g1 g2 g3 hW hx'
  go_wp2_with fail
  refine wp_region_ext (by kernel_rfl) (by kernel_rfl) ?_
  repeat (go_big_quiet_step ((go_at_call 67; go_must (apply calls_ext; apply isRecord_val; assumption))))
  refine wpQuiet_nil ?_
  rintro _ ⟨s0, rfl⟩
  have hs0 := s0.below.size
  have hs1 : b < s0.w.heap.size := by omega
  have hs2 : w.heap.size < s0.w.heap.size := by omega
  have hs3 : g < s0.w.heap.size := by omega
  go_wp2_with fail
  refine wp_region_ext (by kernel_rfl) (by kernel_rfl) ?_
  repeat (go_big_quiet_step ((go_at_call 68; go_must (apply calls_ext; refine transition_val HT.out (b := false) rfl ?_ ?_ ?_ ?_ <;> omega))))
  refine wpQuiet_nil ?_
  rintro _ ⟨s, rfl⟩
  go_wp2_with fail
  refine leaves_cons (f := 66) (args := #[.pointer (some ⟨b, 0, none⟩)]) (by simp) (by simp [go_sem]) ?_
  refine (unlock_def ⟨b, 0, none⟩ .returning _ ?_ ?_).mono ?_
  · rw [s.cell _ _ hs1, s0.cell _ _ hlt', hk 0]; rfl
  · have h := (s.below.block b hs1).trans ((s0.below.block b hlt').trans G1.out); simp [World.frozen?, h]
  rintro e u' w'' ⟨rfl, rfl, rfl⟩
  exact ⟨_, results_tmp rfl _ _ _, unlocked ((s.below.block b hs1).trans ((s0.below.block b hlt').trans G1.out)) ((G2.out.grown s0.below).grown s.below) HN.out hB1 ((G3.out.trans (s0.below.mono (by omega))).trans (s.below.mono (by omega)))⟩

end Go.Proofs.YtpilkgcghlfdmaaGreatDoor
