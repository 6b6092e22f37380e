import Derived.Test.YtnijdfdcjjbneaaDoorUStrS
import Derived.Test.YtnijdfdcjjbneaaDoorUIdx
import Derived.Laws.IdiomStrings
namespace Go.Proofs.YtnijdfdcjjbneaaDoor
open Go.RowKit

/-- what is left of a bound: less than none, or so many still -/
def RetLeft (w : World) (n : Nat) (l : Int) (e : Ending) (w' : World) : Prop :=
  ∃ r : Int, e = .returned (.int .i64 r) ∧ -1 ≤ r ∧ (0 ≤ r → (n : Int) ≤ l ∧ r ≤ l) ∧ w = w'

set_option maxHeartbeats 400000 in
theorem szStringS_any (a : Option Addr) (ss : List ByteArray) (c : Nat) (l : Int) (w : World) (hx : StrsAt w a ss) (hs : ∀ s ∈ ss, s.size ≤ maxLen) (hn : ss.length ≤ maxLen) (h0 : -1 ≤ l) (hl : l ≤ 1099511627776) :
    Calls Tryd.prog 17 #[.slice a ss.length c, .int .i64 l] w (RetLeft w ss.length l) := by
  unfold maxLen at hn
  have HS := Lib.hid hs
  clear hs
  by_cases h : l - ss.length < 0
  · go_enter Tryd.func17, Tryd.ntmps17
    go_wp2
    go_ret
    exact ⟨-1, rfl, by omega, fun h => by omega, rfl⟩
  · have HX := Lib.hid hx
    clear hx
    go_enter Tryd.func17, Tryd.ntmps17
    go_wp2
    go_loop [1, 5] (fun q i => ∃ k : Nat, ∃ r : Int, k ≤ ss.length ∧ i = .int .i64 k ∧ q = .int .i64 r ∧ 0 ≤ r ∧ r ≤ l) (fun _ i => ss.length - (intOf i).toNat)
    case atStart => exact ⟨0, _, Nat.zero_le _, rfl, rfl, by omega, by omega⟩
    case round =>
      obtain ⟨k, r, hk, rfl, rfl, r0, r1⟩ := hrel
      by_cases hlt : k < ss.length
      · obtain ⟨b1, o1, s, rfl, hsk, hb1, hc1⟩ := HX.out.at hlt
        have hsz : s.size ≤ 9223372036854775807 := by have := HS.out s (List.mem_of_getElem? hsk); unfold maxLen at this; omega
        clear hsk
        by_cases hneg : r - (s.size : Int) < 0
        · go_wp2
          go_ret
          exact ⟨-1, rfl, by omega, fun h => by omega, rfl⟩
        · go_wp2
          go_round
          case rel => exact ⟨k + 1, _, by omega, by go_num, rfl, by omega, by omega⟩
          case measure => simp [intOf]; omega
      · go_wp2
        go_ret
        exact ⟨r, rfl, by omega, fun _ => ⟨by omega, r1⟩, rfl⟩

theorem str_no {a b : ByteArray} (h : a ≠ b) : (a.toList == b.toList) = false := by
  rw [beq_eq_false_iff_ne, ByteArray.toList_eq, ByteArray.toList_eq]
  exact fun e => h (ByteArray.ext (Array.toList_inj.1 e))

set_option maxHeartbeats 400000 in
theorem eqStringS_any (a b : Option Addr) (xs : List ByteArray) (c d : Nat) (w : World) (hx : StrsAt w a xs) (hy : StrsAt w b xs) (lx : xs.length ≤ maxLen) :
    Calls Tryd.prog 23 #[.slice a xs.length c, .slice b xs.length d] w fun e w' => e = .returned (.bool true) ∧ Below w.heap.size w w' := by
  unfold maxLen at lx
  have hl' : (((xs.length : Nat) : Int) != ((xs.length : Nat) : Int)) = false := by simp
  go_enter Tryd.func23, Tryd.ntmps23
  go_wp2
  go_loopw [5] (fun i wr => ∃ k n : Nat, k ≤ xs.length ∧ i = .int .i64 k ∧ wr = w.drewN n) (fun i _ => xs.length - (intOf i).toNat)
  case atStart => exact ⟨0, 0, Nat.zero_le _, rfl, rfl⟩
  case round =>
    obtain ⟨k, n, hk, rfl, rfl⟩ := hrel
    by_cases hlt : k < xs.length
    · obtain ⟨b1, o1, x, rfl, hxk, hb1, hc1⟩ := hx.at hlt
      obtain ⟨b2, o2, y, rfl, hyk, hb2, hc2⟩ := hy.at hlt
      obtain rfl : x = y := Option.some.inj (hxk.symm.trans hyk)
      have hxy' : (x.toList == x.toList) = true := by simp
      clear hxk hyk hx hy
      go_wp2_with fail
      go_quiet (fail)
      go_wp2
      go_roundw
      case rel => exact ⟨k + 1, _, by omega, by go_num, rfl⟩
      case measure => simp [intOf]; omega
    · clear hx hy
      go_wp2
      go_ret
      exact ⟨rfl, ⟨rfl, rfl, rfl, Nat.le_refl _, fun _ _ => rfl⟩⟩

/-- some text is handed back -/
def RetTx (w : World) (e : Ending) (w' : World) : Prop := ∃ s : ByteArray, e = .returned (.string s) ∧ Below w.heap.size w w'
theorem pow10_step {n : Int} {t : Nat} (h : n < 10 ^ (t + 1)) : n / 10 < 10 ^ t := by
  rw [Int.pow_succ] at h
  omega
set_option maxHeartbeats 1000000 in
theorem markText_any (k : Int) (w : World) (k0 : 0 ≤ k) (k1 : k < 10 ^ 13) :
    Calls Tryd.prog 45 #[.int .i64 k] w (RetTx w) := by
  by_cases h : k ≤ 0
  · go_enter Tryd.func45, Tryd.ntmps45
    go_wp2_with fail
    go_ret
    exact ⟨_, rfl, Below.refl _ _⟩
  · have K1 := Lib.hid k1
    have k9 : k < 10000000000000 := k1
    clear k1
    go_enter Tryd.func45, Tryd.ntmps45
    go_wp2_with fail
    go_loopw [0, 3] (fun v o wr => ∃ (n : Int) (s : ByteArray) (t : Nat), v = .int .i64 n ∧ o = .string s ∧ 0 ≤ n ∧ n < 10 ^ t ∧ n < 10000000000000 ∧ s.size + t = 13 ∧ Below w.heap.size w wr) (fun v _ _ => (intOf v).toNat)
    case atStart => exact ⟨k, ⟨#[]⟩, 13, rfl, rfl, k0, K1.out, k9, rfl, Below.refl _ _⟩
    case round =>
      obtain ⟨n, s, t, rfl, rfl, n0, n1, n2, hst, hb⟩ := hrel
      have HB := Lib.hid hb
      have HN := Lib.hid n1
      have HT := Lib.hid hst
      have hs13 : s.size ≤ 13 := by omega
      clear hb n1 hst
      by_cases hn : 0 < n
      · obtain ⟨c, hc⟩ : ∃ c : UInt8, (c.toNat : Int) = 48 + n % 10 := ⟨UInt8.ofNat (48 + n % 10).toNat, by rw [UInt8.toNat_ofNat', Nat.mod_eq_of_lt (by omega)]; omega⟩
        have hw1 : IntKind.u8.wrap (48 + n % 10) = (c.toNat : Int) := by rw [hc]; exact IntWalk.u8_in _ (by omega)
        have hcv : (convert 22 9 (.slice (some ⟨wr.heap.size, 0, none⟩) 1 1)).run Tryd.prog (wr.alloc (.cells #[.int .u8 (c.toNat : Int)] 5 (0, 0))) = .ok (.string ⟨#[c]⟩) (wr.alloc (.cells #[.int .u8 (c.toNat : Int)] 5 (0, 0))) :=
          run_convert_bytes_back (P := Tryd.prog) _ 22 9 5 ⟨wr.heap.size, 0, none⟩ 1 [c] Tryd.underlying22 Tryd.underlying5 Tryd.underlying9 (fun j hj => by
            have hj0 : j = 0 := by simpa using hj
            subst hj0
            exact cell_one_new _ _ _ 0 _ rfl)
        have hs1 : (⟨#[c]⟩ : ByteArray).size + s.size ≤ 9223372036854775807 := by
          have : (⟨#[c]⟩ : ByteArray).size = 1 := rfl
          omega
        have HC := Lib.hid hc
        clear hc
        go_wp2_with fail
        obtain ⟨t', rfl⟩ : ∃ t', t = t' + 1 := by
          cases t with
          | zero => have := HN.out; simp at this; omega
          | succ t' => exact ⟨t', rfl⟩
        exact ⟨⟨n / 10, ⟨#[c]⟩ ++ s, t', rfl, rfl, by omega, pow10_step HN.out, by omega, by
          have := HT.out
          rw [ByteArray.size_append]
          have : (⟨#[c]⟩ : ByteArray).size = 1 := rfl
          omega, HB.out.alloc HB.out.size _⟩, by simp [intOf]; omega⟩
      · have hs1 : (⟨#[109]⟩ : ByteArray).size + s.size ≤ 9223372036854775807 := by
          have : (⟨#[109]⟩ : ByteArray).size = 1 := rfl
          omega
        go_wp2_with fail
        go_ret
        exact ⟨_, rfl, HB.out⟩

/-- while texts are written over -/
def MarkedS (w0 w : World) (base : Nat) (v : Value) (n : Nat) : Prop := ∃ zs : List ByteArray, zs.length = n ∧ OwnS w base v zs ∧ w0.grownBy w v.ownBlock
set_option maxHeartbeats 1000000 in
theorem markStringS_any (a : Option Addr) (xs : List ByteArray) (c base : Nat) (m : Int) (w : World) (ho : OwnS w base (.slice a xs.length c) xs) (lx : xs.length ≤ 1099511627776) (hm0 : 0 ≤ m) (hm : m ≤ 1099511627776) :
    Calls Tryd.prog 24 #[.slice a xs.length c, .int .i64 m] w fun e w' => e = .returned (.int .i64 (m + xs.length)) ∧ w.grownBy w' (Value.ownBlock (.slice a xs.length c)) := by
  have h0 : MarkedS w w base (.slice a xs.length c) xs.length := ⟨xs, rfl, ho, World.grownBy.refl _ _⟩
  have H0 := Lib.hid h0
  clear ho h0
  go_enter Tryd.func24, Tryd.ntmps24
  go_wp2_with fail
  go_loopw [1, 5] (fun q i wr => ∃ k : Nat, k ≤ xs.length ∧ i = .int .i64 k ∧ q = .int .i64 (m + k) ∧ MarkedS w wr base (.slice a xs.length c) xs.length) (fun _ i _ => xs.length - (intOf i).toNat)
  case atStart => exact ⟨0, Nat.zero_le _, rfl, by simp, H0.out⟩
  case round =>
    obtain ⟨k, hk, rfl, rfl, ht⟩ := hrel
    have HT := Lib.hid ht
    clear ht
    by_cases hlt : k < xs.length
    · go_wp2_with fail
      refine (markText_any _ _ (by omega) (by omega)).mono ?_
      rintro e w1 ⟨s, rfl, hb1⟩
      obtain ⟨zs, hl, ho, hg⟩ := HT.out
      have ho1 := ho.grown hb1
      have hg1 := grownBy_trans hg (⟨hb1.os, hb1.tape, hb1.output, hb1.size, fun i hi _ => hb1.block i hi⟩ : wr.grownBy w1 _)
      obtain ⟨g, rfl, hbg, hnn, hgl⟩ := ho1.block (by omega)
      clear hnn
      obtain ⟨z, _, hc1, hf1⟩ := ho1.cellAt hl.symm (k := k) (by omega)
      have HO1 := Lib.hid ho1
      have HG1 := Lib.hid hg1
      have HL := Lib.hid hl
      have hkx : (k : Int) < (xs.length : Int) := by omega
      clear hb1 ho hg ho1 hg1 hl
      go_wp2_with fail
      have HM : MarkedS w (w1.setCell ⟨g, k, none⟩ (.string s)) base (.slice (some ⟨g, 0, none⟩) xs.length c) xs.length := ⟨zs.set k s, by rw [List.length_set]; exact HL.out, (HO1.out.stored HL.out.symm k s).1, grownBy_trans HG1.out (HO1.out.stored HL.out.symm k s).2⟩
      go_roundw
      case rel => exact ⟨k + 1, by omega, by go_num, by go_num, HM⟩
      case measure => simp [intOf]; omega
    · obtain rfl : k = xs.length := by omega
      obtain ⟨zs, hl, ho, hg⟩ := HT.out
      have HG := Lib.hid hg
      clear hl ho hg
      go_wp2_with fail
      go_ret
      exact ⟨rfl, HG.out⟩

end Go.Proofs.YtnijdfdcjjbneaaDoor
