import Derived.Test.YtkmfgchbfchdbaaDoorM0
import Derived.Test.YtkmfgchbfchdbaaDoorVJn
namespace Go.Proofs.YtkmfgchbfchdbaaDoor
open Go.RowKit

def wordJB (k : Int) : ByteArray := ⟨(wordJ k).toArray⟩
theorem wordJB_list (k : Int) : (wordJB k).data.toList = wordJ k := by simp [wordJB]
theorem wordJB_size (k : Int) : (wordJB k).size ≤ 5 := wordJ_len k

theorem ixW0 (w : World) : (Instr.index 129 (.agg #[.string ⟨#[112, 108, 97, 110]⟩, .string ⟨#[112, 114, 105, 110, 116]⟩, .string ⟨#[114, 101, 97, 100]⟩, .string ⟨#[118, 111, 105, 100]⟩]) (.int .i64 0)).run Tryd.prog w = .ok (.string ⟨#[112, 108, 97, 110]⟩) w := by kernel_rfl
theorem ixW1 (w : World) : (Instr.index 129 (.agg #[.string ⟨#[112, 108, 97, 110]⟩, .string ⟨#[112, 114, 105, 110, 116]⟩, .string ⟨#[114, 101, 97, 100]⟩, .string ⟨#[118, 111, 105, 100]⟩]) (.int .i64 1)).run Tryd.prog w = .ok (.string ⟨#[112, 114, 105, 110, 116]⟩) w := by kernel_rfl
theorem ixW2 (w : World) : (Instr.index 129 (.agg #[.string ⟨#[112, 108, 97, 110]⟩, .string ⟨#[112, 114, 105, 110, 116]⟩, .string ⟨#[114, 101, 97, 100]⟩, .string ⟨#[118, 111, 105, 100]⟩]) (.int .i64 2)).run Tryd.prog w = .ok (.string ⟨#[114, 101, 97, 100]⟩) w := by kernel_rfl
theorem ixW3 (w : World) : (Instr.index 129 (.agg #[.string ⟨#[112, 108, 97, 110]⟩, .string ⟨#[112, 114, 105, 110, 116]⟩, .string ⟨#[114, 101, 97, 100]⟩, .string ⟨#[118, 111, 105, 100]⟩]) (.int .i64 3)).run Tryd.prog w = .ok (.string ⟨#[118, 111, 105, 100]⟩) w := by kernel_rfl

set_option maxRecDepth 100000 in
set_option maxHeartbeats 400000 in
theorem recordWord_any (k : Int) (w : World) (h1 : 1 ≤ k) (h4 : k ≤ 4) :
    Calls Tryd.prog 69 #[.int .i64 k] w fun e w' => e = .returned (.string (wordJB k)) ∧ Below w.heap.size w w' := by
  have hk : k = 1 ∨ k = 2 ∨ k = 3 ∨ k = 4 := by omega
  have i0 := ixW0 w
  have i1 := ixW1 w
  have i2 := ixW2 w
  have i3 := ixW3 w
  rcases hk with rfl | rfl | rfl | rfl
  all_goals
    go_enter Tryd.func69, Tryd.ntmps69
    go_wp2_with fail
    go_ret
    exact ⟨rfl, Below.refl _ _⟩

/-- the journal at block J -/
def JnAt (w : World) (J : Nat) (v : Value) (n : Nat) (s : Int) : Prop := w.heap[J]? = some (.cells #[v, .int .i64 n, .int .i64 s] 67 (0, 0))
/-- a line and its sum are handed back -/
def RetLine (w : World) (l : List UInt8) (s : Int) (e : Ending) (w' : World) : Prop :=
  ∃ a c l', l' = l ∧ e = .returned (.tuple #[.slice a l'.length c, .int .i64 s]) ∧ OwnB w' w.heap.size (.slice a l'.length c) l' ∧ Below w.heap.size w w'
theorem sumJ_take {l : List UInt8} {s : Int} {k : Nat} {x : UInt8} (hx : l[k]? = some x) : sumJ s (l.take (k + 1)) = (131 * sumJ s (l.take k) + x.toNat + 1) % 65521 := by
  rw [take_snoc' hx, sumJ_snoc]

set_option maxRecDepth 100000 in
set_option maxHeartbeats 1000000 in
theorem line_any (J n : Nat) (s : Int) (v : Value) (r : Rc) (w : World) (hj : JnAt w J v n s) (hok : r.ok = true) (hn : n < 1000) (hs : 0 ≤ s ∧ s < 65521) (ht : Tab w) :
    Calls Tryd.prog 56 #[.pointer (some ⟨J, 0, none⟩), .agg #[.int .i64 r.k, .int .i64 r.n]] w (RetLine w (lineJ n s r ++ [10]) (nextJ n s r)) := by
  have hok' := (r.ok_iff).1 hok
  obtain ⟨k, i⟩ := r
  dsimp only at hok' ⊢
  have HJ := Lib.hid hj
  have HT := Lib.hid ht
  obtain ⟨hcj, hfj⟩ := heap_cellR hj
  have hjl : J < w.heap.size := blkLt hj
  clear hj ht hok
  go_enter Tryd.func56, Tryd.ntmps56
  go_wp2_with fail
  have HB0 := Lib.hid (ba1 w (.cells #[.int .i64 k, .int .i64 i] 35 (0, 0)))
  have hbx := push_at w (.cells #[.int .i64 k, .int .i64 i] 35 (0, 0))
  have HBX := Lib.hid hbx
  have hltg := HT.out.lt
  have HB_ := Lib.hid (Below.refl (w.heap.size + 1) (w.alloc (.cells #[.int .i64 k, .int .i64 i] 35 (0, 0))))
  refine (appendInt_b (w.heap.size + 1) (n : Int) _ [] _ (by omega) (by omega) (OwnB.nil _ _) (by simp) (by simp) (HT.out.next HB0.out) (by omega)).mono ?_
  rintro e w1 ⟨a1, c1, l1, he1, rfl, ho1, hb1⟩
  have HO1 := Lib.hid ho1
  have HB1 := Lib.hid hb1
  have hz1 : w.heap.size + 1 ≤ w1.heap.size := by have := hb1.size; simpa using this
  have hl1 : l1.length ≤ 3 := by
    have := itoa_len (n := (n : Int)) 2 (by omega) (by omega)
    rw [he1, List.nil_append]; omega
  have HE1 := Lib.hid he1
  clear he1 ho1 hb1 hbx hcj hfj
  go_wp2_with (at_builtin; refine wpList_append_b1 (o := _) (s := .tmp 15) (x := .tmp 16) rfl rfl (w.heap.size + 1) (.slice a1 l1.length c1) l1 32 rfl (HO1.out.grown (ba1 _ _)) w1.heap.size rfl (push_at w1 _) (by omega) (by simp; omega) ?h9)
  case h9 =>
  intro a2 c2 l2 w2 he2 ho2 hb2
  have HO2 := Lib.hid ho2
  have HB2 := Lib.hid (HB1.out.trans (((ba1 w1 (.cells #[.int .u8 32] 5 (0, 0))).mono hz1).trans hb2))
  have hz2 : w.heap.size + 1 ≤ w2.heap.size := by have := hb2.size; simp at this; omega
  have hl2 : l2.length ≤ l1.length + 1 := by rw [he2]; simp
  have HE2 := Lib.hid he2
  clear he2 ho2 hb2
  have hc2 := (heap_cellR ((HB2.out.block w.heap.size (Nat.lt_succ_self _)).trans HBX.out)).1
  go_wp2_with fail
  refine (recordWord_any k _ hok'.1.1 hok'.1.2).mono ?_
  rintro e w2b ⟨rfl, hb2b⟩
  have HO2b := Lib.hid (HO2.out.grown hb2b)
  have HB2b := Lib.hid (HB2.out.trans (hb2b.mono hz2))
  have hz2b : w.heap.size + 1 ≤ w2b.heap.size := Nat.le_trans hz2 hb2b.size
  have hws := wordJB_size k
  clear hb2b hc2
  go_wp2_with (at_builtin; refine wpList_append_bs (o := _) (s := .tmp 18) (x := .tmp 21) rfl rfl (w.heap.size + 1) (.slice a2 l2.length c2) l2 (wordJB k) rfl HO2b.out rfl (by omega) hz2b ?h9)
  case h9 =>
  intro a3 c3 l3 w3 he3 ho3 hb3
  have HO3 := Lib.hid ho3
  have HB3 := Lib.hid (HB2b.out.trans hb3)
  have hz3 : w.heap.size + 1 ≤ w3.heap.size := Nat.le_trans hz2b hb3.size
  have hl3 : l3.length ≤ l2.length + 5 := by
    have h9 : (wordJB k).data.toList.length = (wordJB k).size := rfl
    rw [he3, List.length_append]; omega
  have HE3 := Lib.hid he3
  clear he3 ho3 hb3
  go_wp2_with (at_builtin; refine wpList_append_b1 (o := _) (s := .tmp 23) (x := .tmp 24) rfl rfl (w.heap.size + 1) (.slice a3 l3.length c3) l3 32 rfl (HO3.out.grown (ba1 _ _)) w3.heap.size rfl (push_at w3 _) (by omega) (by simp; omega) ?h9)
  case h9 =>
  intro a4 c4 l4 w4 he4 ho4 hb4
  have HO4 := Lib.hid ho4
  have HB4 := Lib.hid (HB3.out.trans (((ba1 w3 (.cells #[.int .u8 32] 5 (0, 0))).mono hz3).trans hb4))
  have hz4 : w.heap.size + 1 ≤ w4.heap.size := by have := hb4.size; simp at this; omega
  have hl4 : l4.length ≤ l3.length + 1 := by rw [he4]; simp
  have HE4 := Lib.hid he4
  clear he4 ho4 hb4
  have hc4 := (heap_cellR ((HB4.out.block w.heap.size (Nat.lt_succ_self _)).trans HBX.out)).1
  go_wp2_with fail
  refine (appendInt_b (w.heap.size + 1) i _ l4 _ (by omega) (by omega) HO4.out hz4 (by omega) (HT.out.next (HB0.out.trans (HB4.out.mono (by omega)))) (by omega)).mono ?_
  rintro e w5 ⟨a5, c5, l5, he5, rfl, ho5, hb5⟩
  have HO5 := Lib.hid ho5
  have HB5 := Lib.hid (HB4.out.trans hb5)
  have hz5 : w.heap.size + 1 ≤ w5.heap.size := Nat.le_trans hz4 hb5.size
  have hl5 : l5.length ≤ l4.length + 3 := by
    have := itoa_len (n := i) 2 (by omega) (by omega)
    rw [he5, List.length_append]; omega
  have HE5 := Lib.hid he5
  clear he5 ho5 hb5
  have hj5 : w5.heap[J]? = some (.cells #[v, .int .i64 n, .int .i64 s] 67 (0, 0)) := (HB5.out.block J (by omega)).trans ((HB0.out.block J hjl).trans HJ.out)
  obtain ⟨hcj, hfj⟩ := heap_cellR hj5
  have hll : l5.length ≤ 20 := by omega
  have HHD : Hid (headJ n ⟨k, i⟩ = l5) := Lib.hid (by
    rw [HE5.out, HE4.out, HE3.out, HE2.out, HE1.out, wordJB_list, headJ]; simp)
  clear hc4 hj5
  have HSUM := Lib.hid (show nextJ n s ⟨k, i⟩ = sumJ s l5 by rw [nextJ, HHD.out])
  have hby := HO5.out.read
  obtain ⟨a5', c5', e5, hby, -⟩ := hby
  obtain ⟨rfl, -, rfl⟩ := Value.slice.inj e5
  have HBY := Lib.hid hby
  clear hby e5
  go_wp2_with fail
  go_loop [7, 9, 36] (fun q _ i => ∃ j : Nat, j ≤ l5.length ∧ i = .int .i64 j ∧ q = .int .i64 (sumJ s (l5.take j))) (fun _ _ i => l5.length - (intOf i).toNat)
  case atStart => exact ⟨0, Nat.zero_le _, rfl, rfl⟩
  case round =>
    obtain ⟨j, hj, rfl, rfl⟩ := hrel
    have hsr := sumJ_range hs (l5.take j)
    by_cases hlt : j < l5.length
    · obtain ⟨x, hx⟩ : ∃ x, l5[j]? = some x := ⟨_, List.getElem?_eq_getElem hlt⟩
      obtain ⟨bb, oo, rfl, hcx⟩ := HBY.out j x hx
      have hx8 : x.toNat < 256 := x.toNat_lt
      have HSS := Lib.hid (sumJ_take (s := s) hx)
      obtain ⟨q, hq⟩ : ∃ q, sumJ s (l5.take j) = q := ⟨_, rfl⟩
      rw [hq] at hsr HSS ⊢
      have e1 : IntKind.i64.wrap (131 * q) = 131 * q := IntWalk.i64_in _ (by omega)
      have e2 : IntKind.i64.wrap (x.toNat : Int) = (x.toNat : Int) := IntWalk.i64_in _ (by omega)
      have e3 : IntKind.i64.wrap (131 * q + (x.toNat : Int)) = 131 * q + (x.toNat : Int) := IntWalk.i64_in _ (by omega)
      have e4 : IntKind.i64.wrap (131 * q + (x.toNat : Int) + 1) = 131 * q + (x.toNat : Int) + 1 := IntWalk.i64_in _ (by omega)
      have e5 : (131 * q + (x.toNat : Int) + 1).tmod 65521 = (131 * q + (x.toNat : Int) + 1) % 65521 := Int.tmod_eq_emod_of_nonneg (by omega)
      clear hx hq hcj hfj
      go_wp2_with fail
      exact ⟨⟨j + 1, by omega, by go_num, by rw [HSS.out]⟩, by simp [intOf]; omega⟩
    · obtain rfl : j = l5.length := by omega
      have e9 : sumJ s (l5.take l5.length) = nextJ n s ⟨k, i⟩ := by rw [List.take_length, HSUM.out]
      rw [e9]
      have hnr := nextJ_range (n := n) (r := ⟨k, i⟩) hs
      obtain ⟨q, hq⟩ : ∃ q, nextJ n s ⟨k, i⟩ = q := ⟨_, rfl⟩
      have HQ := Lib.hid hq
      rw [hq] at hnr ⊢
      clear hsr e9 hq hcj hfj
      go_wp2_with (at_builtin; refine wpList_append_b1 (o := _) (s := .tmp 48) (x := .tmp 49) rfl rfl (w.heap.size + 1) (.slice a5 l5.length c5) l5 32 rfl (HO5.out.grown (ba1 _ _)) w5.heap.size rfl (push_at w5 _) (by omega) (by simp; omega) ?h9)
      case h9 =>
      intro a6 c6 l6 w6 he6 ho6 hb6
      have HO6 := Lib.hid ho6
      have HB6 := Lib.hid (HB5.out.trans (((ba1 w5 (.cells #[.int .u8 32] 5 (0, 0))).mono hz5).trans hb6))
      have hz6 : w.heap.size + 1 ≤ w6.heap.size := by have := hb6.size; simp at this; omega
      have hl6 : l6.length ≤ l5.length + 1 := by rw [he6]; simp
      have HE6 := Lib.hid he6
      clear he6 ho6 hb6
      go_wp2_with fail
      refine (appendInt_b (w.heap.size + 1) q _ l6 _ (by omega) (by omega) HO6.out hz6 (by omega) (HT.out.next (HB0.out.trans (HB6.out.mono (by omega)))) (by omega)).mono ?_
      rintro e w7 ⟨a7, c7, l7, he7, rfl, ho7, hb7⟩
      have HO7 := Lib.hid ho7
      have HB7 := Lib.hid (HB6.out.trans hb7)
      have hz7 : w.heap.size + 1 ≤ w7.heap.size := Nat.le_trans hz6 hb7.size
      have hl7 : l7.length ≤ l6.length + 5 := by
        have := itoa_len (n := q) 4 (by omega) (by omega)
        rw [he7, List.length_append]; omega
      have HE7 := Lib.hid he7
      clear he7 ho7 hb7
      go_wp2_with (at_builtin; refine wpList_append_b1 (o := _) (s := .tmp 54) (x := .tmp 55) rfl rfl (w.heap.size + 1) (.slice a7 l7.length c7) l7 10 rfl (HO7.out.grown (ba1 _ _)) w7.heap.size rfl (push_at w7 _) (by omega) (by simp; omega) ?h9)
      case h9 =>
      intro a8 c8 l8 w8 he8 ho8 hb8
      have HO8 := Lib.hid ho8
      have HB8 := Lib.hid (HB7.out.trans (((ba1 w7 (.cells #[.int .u8 10] 5 (0, 0))).mono hz7).trans hb8))
      have hz8 : w.heap.size + 1 ≤ w8.heap.size := by have := hb8.size; simp at this; omega
      have hl8 : l8.length ≤ l7.length + 1 := by rw [he8]; simp
      have HE8 := Lib.hid he8
      clear he8 ho8 hb8
      go_wp2_with fail
      have HFIN : Hid (l8 = lineJ n s ⟨k, i⟩ ++ [10]) := Lib.hid (by rw [HE8.out, HE7.out, HE6.out, lineJ, HHD.out, HQ.out]; simp)
      go_ret2
      exact ⟨a8, c8, l8, HFIN.out, by simp [HQ.out], HO8.out.weak (by omega), HB0.out.trans (HB8.out.mono (by omega))⟩

end Go.Proofs.YtkmfgchbfchdbaaDoor
