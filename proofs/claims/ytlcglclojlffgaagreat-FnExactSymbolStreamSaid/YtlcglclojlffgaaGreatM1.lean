import Derived.Test.YtlcglclojlffgaaGreatM0
import Derived.Laws.RangeString
import Derived.StillTail
import Derived.Laws.AppendOwnNone
import Derived.Deep.RegionHeld3
namespace Go.Proofs.YtlcglclojlffgaaGreat
open Go.RowKit

/-- the characters of a mode, as a string; the bits of its groups -/
def charS (m : Nat) : ByteArray := ⟨(chars m).toArray⟩
def widsM (m : Nat) : List Int := (List.range (grpM m)).map fun i => ((widM m (i + 1) : Nat) : Int)
theorem charS_size (m : Nat) : (charS m).size = (chars m).length := by simp [charS, ByteArray.size]
theorem chars_low (m : Nat) : ∀ c ∈ chars m, c.toNat < 128 := by unfold chars; split <;> decide
theorem chars_len (m : Nat) (h1 : 1 ≤ m) (h3 : m ≤ 3) : (chars m).length = baseM m := by
  obtain rfl | rfl | rfl : m = 1 ∨ m = 2 ∨ m = 3 := by omega
  all_goals rfl
theorem chars_le (m : Nat) : (chars m).length ≤ 45 := by unfold chars; split <;> decide
theorem idxC_at : ∀ (l : List UInt8) (x j : Int) (k : Nat), (∀ i c, i < k → l[i]? = some c → (c.toNat : Int) ≠ x) → (∃ c, l[k]? = some c ∧ (c.toNat : Int) = x) → idxC l x j = j + k
  | [], _, _, k, _, ⟨c, hc, _⟩ => by simp at hc
  | c :: l, x, j, 0, _, ⟨d, hd, he⟩ => by
    simp at hd
    subst hd
    rw [idxC, if_pos he]; simp
  | c :: l, x, j, k + 1, h, ⟨d, hd, he⟩ => by
    rw [idxC, if_neg (h 0 c (by omega) rfl), idxC_at l x (j + 1) k (fun i e hi hl => h (i + 1) e (by omega) (by simpa using hl)) ⟨d, by simpa using hd, he⟩]
    push_cast; omega
theorem idxC_none : ∀ (l : List UInt8) (x j : Int), (∀ c ∈ l, (c.toNat : Int) ≠ x) → idxC l x j = -1
  | [], _, _, _ => rfl
  | c :: l, x, j, h => by
    rw [idxC, if_neg (h c (by simp)), idxC_none l x (j + 1) (fun d hd => h d (by simp [hd]))]
/-- the next character -/
theorem next_char {P : Program} (w : World) (m k : Nat) (hk : k < (chars m).length) : ∃ (c : UInt8) (z : Nat), (chars m)[k]? = some c ∧ c.toNat = z ∧ z < 128 ∧ ∀ ty, (Instr.next (.pointer (some ⟨w.heap.size, 0, none⟩)) true ty).run P (w.iter (charS m) k) = .ok (.tuple #[.bool true, .int .i64 k, .int .i32 z]) (w.iter (charS m) (k + 1)) := by
  have hs : k < (charS m).size := by rw [charS_size]; exact hk
  have e : (charS m)[k]'hs = (chars m)[k] := rfl
  refine ⟨(chars m)[k], (chars m)[k].toNat, List.getElem?_eq_getElem hk, rfl, chars_low m _ (List.getElem_mem hk), fun ty => ?_⟩
  have h := run_next_ascii (P := P) w (charS m) k ty hs (by rw [e]; exact chars_low m _ (List.getElem_mem hk))
  rw [e] at h
  exact h
theorem iter_below (w : World) (s : ByteArray) (k : Nat) : Below w.heap.size w (w.iter s k) := ba1 w _

set_option maxRecDepth 100000 in
set_option maxHeartbeats 1000000 in
theorem value_listed (m : Nat) (h1 : 1 ≤ m) (h3 : m ≤ 3) (a : Option Addr) (n c : Nat) (x : Int) (w : World) :
    Calls Tryz.prog 174 #[.agg #[.string (charS m), .slice a n c], .int .i64 x] w fun e w' => e = .returned (.int .i64 (valC m x)) ∧ Below w.heap.size w w' := by
  have HV := Lib.hid (show valC m x = idxC (chars m) x 0 by unfold valC; rw [if_neg (by omega)])
  have hl := chars_le m
  go_enter Tryz.func174, Tryz.ntmps174
  go_wp2_with fail
  obtain ⟨w1, hw1⟩ : ∃ w1, w1 = w.alloc (.cells #[.string (charS m), .slice a n c] 159 (0, 0)) := ⟨_, rfl⟩
  have HB := Lib.hid (show Below w.heap.size w w1 by rw [hw1]; exact ba1 _ _)
  have hsz : w.heap.size + 1 = w1.heap.size := by rw [hw1]; simp
  try rw [← hw1]
  try rw [hsz]
  clear hw1
  go_loopw [5, 6] (fun _ _ wr => ∃ k : Nat, k ≤ (chars m).length ∧ wr = w1.iter (charS m) k ∧ ∀ i c, i < k → (chars m)[i]? = some c → (c.toNat : Int) ≠ x) (fun _ _ wr => (chars m).length - World.iterPos wr w1.heap.size)
  case atStart => exact ⟨0, Nat.zero_le _, rfl, fun i c h => by omega⟩
  case round =>
    obtain ⟨k, hk, rfl, hall⟩ := hrel
    have HA := Lib.hid hall
    clear hall
    by_cases hlt : k < (chars m).length
    · obtain ⟨ch, z, hc, hz, hz8, hnx⟩ := next_char (P := Tryz.prog) w1 m k hlt
      have HC := Lib.hid hc
      have HZ := Lib.hid hz
      clear hc hz
      by_cases hx : (z : Int) = x
      · have hx' : ((z : Int) == x) = true := by rw [beq_iff_eq]; exact hx
        have HX := Lib.hid hx
        clear hx
        go_wp2_with fail
        go_ret
        refine ⟨ret_int ?_, HB.out.trans ((iter_below w1 _ _).mono HB.out.size)⟩
        rw [HV.out, idxC_at _ x 0 k HA.out ⟨ch, HC.out, by rw [HZ.out, HX.out]⟩]; omega
      · have hx' : ((z : Int) == x) = false := by rw [beq_eq_false_iff_ne]; exact hx
        have HX := Lib.hid hx
        clear hx
        go_wp2_with fail
        refine ⟨⟨k + 1, by omega, rfl, fun i c hi he => ?_⟩, ?_⟩
        · by_cases hik : i = k
          · subst hik
            rw [HC.out] at he
            cases he
            rw [HZ.out]; exact HX.out
          · exact HA.out i c (by omega) he
        · simp [World.iterPos, World.iter_heap]; omega
    · have hnx := fun ty => run_next_end (P := Tryz.prog) w1 (charS m) k ty (by rw [charS_size]; omega)
      go_wp2_with fail
      go_ret
      refine ⟨ret_int ?_, HB.out.trans ((iter_below w1 _ _).mono HB.out.size)⟩
      rw [HV.out, idxC_none]
      intro c hc
      obtain ⟨i, hi, rfl⟩ := List.mem_iff_getElem.1 hc
      exact HA.out i _ (by omega) (List.getElem?_eq_getElem hi)

end Go.Proofs.YtlcglclojlffgaaGreat
namespace Go.Proofs.YtlcglclojlffgaaGreat
open Go.RowKit

set_option maxRecDepth 100000 in
set_option maxHeartbeats 1000000 in
theorem mul_any (F : Fd) (hF : FdOk F) (b x y : Nat) (hx : x < F.q) (hy : y < F.q) (w : World) (hA : CalcAt w b F) :
    Calls Tryz.prog 112 #[.pointer (some ⟨b, 0, none⟩), .int .i64 x, .int .i64 y] w (RetQ (.int .i64 (F.mul x y : Nat)) w) := by
  obtain ⟨-, h1, h2, h3⟩ := hA.cell
  have hq := hF.q_bd
  by_cases x0 : x = 0
  · subst x0
    rw [F.zero_mul]
    go_enter Tryz.func112, Tryz.ntmps112
    go_wp2_with fail
    go_ret
    exact ⟨rfl, 0, rfl⟩
  by_cases y0 : y = 0
  · subst y0
    rw [F.mul_zero]
    have hx0 : ((x : Int) == 0) = false := by rw [beq_eq_false_iff_ne]; omega
    clear x0
    go_enter Tryz.func112, Tryz.ntmps112
    go_wp2_with fail
    go_ret
    exact ⟨rfl, 0, rfl⟩
  have hx0 : ((x : Int) == 0) = false := by rw [beq_eq_false_iff_ne]; omega
  have hy0 : ((y : Int) == 0) = false := by rw [beq_eq_false_iff_ne]; omega
  obtain ⟨i, hi, hpi⟩ := F.log hF.runs hF.fit x0 hx
  obtain ⟨j, hj, hpj⟩ := F.log hF.runs hF.fit y0 hy
  have hcx := h3 i hi
  have hcy := h3 j hj
  rw [hpi] at hcx
  rw [hpj] at hcy
  have HM := Lib.hid (F.mul_pw hF.fit i j)
  rw [hpi, hpj] at HM
  have hm : (i + j) % (F.q - 1) < F.q - 1 := Nat.mod_lt _ (by omega)
  have hc := h2 _ hm
  rw [F.pw_mod hF.runs hF.fit] at hc
  have e0 : (x : Int) < 1021 := by omega
  have e00 : (y : Int) < 1021 := by omega
  have e2 : (i : Int) + (j : Int) ≤ 1000 := by omega
  have e1 : ((i : Int) + (j : Int)) % ((F.q : Int) - 1) = (((i + j) % (F.q - 1) : Nat) : Int) := by push_cast; rw [Int.natCast_sub (by omega)]; rfl
  rw [HM.out]
  clear h2 h3 hA hF hpi hpj x0 y0
  generalize (i + j) % (F.q - 1) = m at *
  go_enter Tryz.func112, Tryz.ntmps112
  go_wp2_with fail
  go_quiet (fail)
  go_wp2_with fail
  go_ret
  exact ⟨rfl, _, rfl⟩
set_option maxRecDepth 100000 in
set_option maxHeartbeats 1000000 in
theorem inv_any (F : Fd) (hF : FdOk F) (b x : Nat) (hx : x < F.q) (h0 : x ≠ 0) (w : World) (hA : CalcAt w b F) :
    ∃ v, F.IsInv x v ∧ v < F.q ∧ Calls Tryz.prog 111 #[.pointer (some ⟨b, 0, none⟩), .int .i64 x] w (RetQ (.int .i64 (v : Nat)) w) := by
  obtain ⟨-, h1, h2, h3⟩ := hA.cell
  have hq := hF.q_bd
  obtain ⟨i, hi, hpi⟩ := F.log hF.runs hF.fit h0 hx
  have hcx := h3 i hi
  rw [hpi] at hcx
  have hm : (F.q - 1 - i) % (F.q - 1) < F.q - 1 := Nat.mod_lt _ (by omega)
  have hc := h2 _ hm
  refine ⟨F.pw ((F.q - 1 - i) % (F.q - 1)), ⟨i, hi, hpi, rfl⟩, F.pw_lt hF.fit _, ?_⟩
  have e0 : (x : Int) < 1021 := by omega
  have e1 : ((F.q : Int) - 1 - (i : Int)) % ((F.q : Int) - 1) = (((F.q - 1 - i) % (F.q - 1) : Nat) : Int) := by
    rw [Int.natCast_emod, Int.natCast_sub (by omega), Int.natCast_sub (by omega)]; rfl
  clear h2 h3 hA hF hpi h0
  generalize (F.q - 1 - i) % (F.q - 1) = m at *
  go_enter Tryz.func111, Tryz.ntmps111
  go_wp2_with fail
  go_quiet (fail)
  go_wp2_with fail
  go_ret
  exact ⟨rfl, _, rfl⟩
set_option maxRecDepth 100000 in
set_option maxHeartbeats 1000000 in
theorem width_any (F : Fd) (hF : FdOk F) (b : Nat) (w : World) (hA : CalcAt w b F) :
    Calls Tryz.prog 35 #[.pointer (some ⟨b, 0, none⟩)] w (RetQ (.int .i64 F.k) w) := by
  have hk3 := hF.try'.k3
  have hk8 := hF.try'.k8
  have HA := Lib.hid hA
  have HQ := Lib.hid hF.try'.q
  have hq := hF.q_bd
  clear hA hF
  go_enter Tryz.func35, Tryz.ntmps35
  go_wp2_with fail
  go_loopw [3] (fun i wr => ∃ (k nn : Nat), k ≤ F.k ∧ i = .int .i64 k ∧ wr = w.drewN nn) (fun i _ => F.k - (intOf i).toNat)
  case atStart => exact ⟨0, 0, Nat.zero_le _, rfl, rfl⟩
  case round =>
    obtain ⟨k, nn, hk, rfl, rfl⟩ := hrel
    have h1 : w.cell? ⟨b, 1, none⟩ = some (.int .i64 F.q) := HA.out.cell.2.1
    obtain ⟨p, hp⟩ : ∃ p : Nat, p = 2 ^ (k + 1) := ⟨_, rfl⟩
    have hp8 : 2 ^ (k + 1) ≤ 2 ^ 9 := Nat.pow_le_pow_right (by omega) (by omega)
    have hwr : IntKind.i64.wrap (2 * 2 ^ k) = (p : Int) := by
      have hc : ((2 : Int) ^ k) = ((2 ^ k : Nat) : Int) := by push_cast; rfl
      rw [hc, show (2 : Int) * ((2 ^ k : Nat) : Int) = (p : Int) by rw [hp, Nat.pow_succ]; omega]
      exact wraps64 _ (by omega) (by omega)
    by_cases hlt : k < F.k
    · have hle : decide (p ≤ F.q) = true := by
        have h2 : 2 ^ (k + 1) ≤ 2 ^ F.k := Nat.pow_le_pow_right (by omega) hlt
        rw [HQ.out, decide_eq_true_iff]; omega
      clear hp
      go_wp2_with fail
      go_quiet (fail)
      go_wp2_with fail
      exact ⟨⟨k + 1, _, by omega, by go_num, rfl⟩, by simp [intOf]; omega⟩
    · have hle : decide (p ≤ F.q) = false := by
        have h2 : 2 ^ (F.k + 1) ≤ 2 ^ (k + 1) := Nat.pow_le_pow_right (by omega) (by omega)
        rw [Nat.pow_succ] at h2
        have := Nat.two_pow_pos F.k
        rw [HQ.out, decide_eq_false_iff_not]; omega
      clear hp
      have HK : Hid (k = F.k) := Lib.hid (by omega)
      go_wp2_with fail
      go_quiet (fail)
      go_wp2_with fail
      go_ret
      exact ⟨ret_int (by rw [HK.out]), _, World.drewN_drewN _ _ _⟩

end Go.Proofs.YtlcglclojlffgaaGreat
namespace Go.Proofs.YtlcglclojlffgaaGreat
open Go.RowKit

/-- the first n marks from k on -/
def marks (k : Int) (n : Nat) : List Int := (List.range n).map fun (i : Nat) => k + (i : Int)
theorem marks_len (k : Int) (n : Nat) : (marks k n).length = n := by simp [marks]
theorem marks_at {k : Int} {n i : Nat} (h : i < n) : (marks k n)[i]? = some (k + i) := by simp [marks, h]

/-- what 'held' answers: the next mark, or -1 -/
def heldOf (m : Int) (xs : List Int) : Int := if xs = marks m xs.length then m + xs.length else -1

set_option maxHeartbeats 400000 in
theorem heldInt64S_any (a : Option Addr) (xs : List Int) (c : Nat) (m : Int) (w : World) (hx : IntsAt w a xs)
    (lx : xs.length ≤ 1099511627776) (hm0 : 0 ≤ m) (hm : m ≤ 1099511627776) :
    Calls Tryz.prog 12 #[.slice a xs.length c, .int .i64 m] w fun e w' => e = .returned (.int .i64 (heldOf m xs)) ∧ w = w' := by
  go_enter Tryz.func12, Tryz.ntmps12
  go_wp2
  go_loop [1, 5] (fun q i => ∃ k : Nat, k ≤ xs.length ∧ i = .int .i64 k ∧ q = .int .i64 (m + k) ∧ xs.take k = marks m k) (fun _ i => xs.length - (intOf i).toNat)
  case atStart => exact ⟨0, Nat.zero_le _, rfl, by simp, rfl⟩
  case round =>
    obtain ⟨k, hk, rfl, rfl, ht⟩ := hrel
    have HT := Lib.hid ht
    clear ht
    by_cases hlt : k < xs.length
    · obtain ⟨b1, o1, x, rfl, hxk, hb1, hc1⟩ := hx.at hlt
      have HX := Lib.hid hxk
      clear hxk hx
      by_cases hxy : x = m + k
      · have hxy' : (x != m + k) = false := by simp [hxy]
        have HE := Lib.hid hxy
        clear hxy
        go_wp2
        go_round
        case rel => exact ⟨k + 1, by omega, by go_num, by go_num, by rw [take_snoc' HX.out, HT.out, HE.out]; simp [marks, List.range_succ]⟩
        case measure => simp [intOf]; omega
      · have hxy' : (x != m + k) = true := by simp [hxy]
        have HE := Lib.hid hxy
        clear hxy
        go_wp2
        go_ret
        refine ⟨ret_int ?_, rfl⟩
        rw [heldOf, if_neg]
        intro e
        have h1 := HX.out
        rw [e, marks_at hlt] at h1
        exact HE.out (Option.some.inj h1).symm
    · clear hx
      go_wp2
      go_ret
      have e : xs = marks m xs.length := by
        have := HT.out
        rw [List.take_of_length_le (by omega)] at this
        have hk' : k = xs.length := by omega
        subst hk'
        exact this
      exact ⟨ret_int (by rw [heldOf, if_pos e]; omega), rfl⟩

end Go.Proofs.YtlcglclojlffgaaGreat
namespace Go.Proofs.YtlcglclojlffgaaGreat
open Go.RowKit

theorem OwnI.other {w w' : World} {base : Nat} {v : Value} {zs : List Int} {row : Option Nat} (h : OwnI w base v zs) (hg : w.grownBy w' row) (hne : ∀ k, v.ownBlock = some k → row ≠ some k) : OwnI w' base v zs :=
  h.kept hg (by
    cases hv : v.ownBlock with
    | none => exact Or.inl rfl
    | some k => exact Or.inr (fun e => hne k hv e.symm))
theorem OwnI.lo {w : World} {base : Nat} {v : Value} {zs : List Int} (h : OwnI w base v zs) : ∀ k, v.ownBlock = some k → base ≤ k := fun k hk => (World.ownsRow.lt h k hk).1
theorem OwnI.hi {w : World} {base : Nat} {v : Value} {zs : List Int} (h : OwnI w base v zs) : ∀ k, v.ownBlock = some k → k < w.heap.size := fun k hk => (World.ownsRow.lt h k hk).2
theorem OwnI.ints {w : World} {base : Nat} {a : Option Addr} {n c : Nat} {zs : List Int} (h : OwnI w base (.slice a n c) zs) : IntsAt w a zs := by
  obtain ⟨a', c', e, hx⟩ := h.read
  obtain ⟨rfl, _, _⟩ := Value.slice.inj e
  exact hx
/-- how a slice of numbers is written -/
def Slc (a : Option Addr) (xs : List Int) : Prop := (∀ ad, a = some ad → ad.spot = none) ∧ (a = none → xs = [])
theorem OwnI.slc {w : World} {base : Nat} {a : Option Addr} {n c : Nat} {xs : List Int} (h : OwnI w base (.slice a n c) xs) : Slc a xs := by
  rcases h.2 with ⟨h1, h0⟩ | ⟨g, cap, cur, h1, _⟩
  · obtain ⟨rfl, _, _⟩ := Value.slice.inj h1
    exact ⟨fun ad e => (by cases e), fun _ => List.eq_nil_of_length_eq_zero (by simpa using h0)⟩
  · obtain ⟨rfl, _, _⟩ := Value.slice.inj h1
    exact ⟨fun ad e => (by cases e; rfl), fun e => (by cases e)⟩

theorem boxG {w w1 : World} {b : Nat} {cs : Array Value} {row : Option Nat} (hg : w.grownBy w1 row) (h : ∀ i, w.cell? ⟨b, i, none⟩ = cs[i]?) (hne : row ≠ some b) (h0 : 0 < cs.size) : ∀ i, w1.cell? ⟨b, i, none⟩ = cs[i]? := fun i => by
  have h1 : b < w.heap.size := boxLt h h0
  rw [World.cell?_of_block (w := w) (a := ⟨b, i, none⟩) (hg.block b h1 (fun e => hne e.symm))]
  exact h i
/-- two rows whose blocks lie on two sides of a number are two -/
theorem apartB {v : Value} {u : Value} {T : Nat} (h1 : ∀ k, v.ownBlock = some k → k < T) (h2 : ∀ k, u.ownBlock = some k → T ≤ k) : ∀ k, v.ownBlock = some k → u.ownBlock ≠ some k := fun k hk e => by
  have a := h1 k hk
  have b := h2 k e
  omega
theorem apartB' {v : Value} {u : Value} {T : Nat} (h1 : ∀ k, v.ownBlock = some k → k < T) (h2 : ∀ k, u.ownBlock = some k → T ≤ k) : ∀ k, u.ownBlock = some k → v.ownBlock ≠ some k := fun k hk e => by
  have a := h1 k e
  have b := h2 k hk
  omega
theorem below_row {B : Nat} {w w' : World} {v : Value} (h : w.grownBy w' v.ownBlock) (hB : B ≤ w.heap.size) (hr : ∀ k, v.ownBlock = some k → B ≤ k) : Below B w w' := below_of_grownBy h hB hr

theorem heldOf_marks (m : Int) (n : Nat) : heldOf m (marks m n) = m + n := by rw [heldOf, if_pos (by rw [marks_len]), marks_len]

theorem heldInt64S_marks {a : Option Addr} {n c : Nat} {m : Int} {w : World} (hx : IntsAt w a (marks m n)) (ln : n ≤ 1099511627776) (hm0 : 0 ≤ m) (hm : m ≤ 1099511627776) :
    Calls Tryz.prog 12 #[.slice a n c, .int .i64 m] w fun e w' => e = .returned (.int .i64 (m + n)) ∧ w = w' := by
  have := heldInt64S_any a (marks m n) c m w hx (by rw [marks_len]; exact ln) hm0 hm
  rw [marks_len, heldOf_marks] at this
  exact this

end Go.Proofs.YtlcglclojlffgaaGreat
namespace Go.Proofs.YtlcglclojlffgaaGreat
open Go.RowKit

/-! A region that draws its order: reads and calls that keep the world within a class, then a tail in one order. -/
section
variable {P : Program} {ops : Array Oper} {md : Region.Mode} {C : World → Prop}

def wpHeadQ (P : Program) (md : Region.Mode) (ops : Array Oper) (C : World → Prop) (n : Nat) (L : Array Bool → Act → Prop) : Nat → Array Bool → Act → Prop
  | 0, listed, a => L listed a
  | f + 1, listed, a =>
    Region.ready md ops listed ≠ [] ∧ ∀ i ∈ Region.ready md ops listed, i < n ∧ qOp P ops C i (wpHeadQ P md ops C n L f (listed.setIfInBounds i true)) a

theorem wpAny_of_headQ {n g : Nat} {L : Array Bool → Act → Prop} {Q' : Exit → Act → World → Prop} (hL : ∀ listed a w, C w → L listed a → wpAny P md ops Q' g listed a w) :
    ∀ (f : Nat) (listed : Array Bool) (a : Act) (w : World), C w → wpHeadQ P md ops C n L f listed a → wpAny P md ops Q' (f + g) listed a w
  | 0, listed, a, w, hw, h => by rw [Nat.zero_add]; exact hL _ _ _ hw h
  | f + 1, listed, a, w, hw, h => by
    rw [show f + 1 + g = (f + g) + 1 by omega]
    exact ⟨fun h0 => absurd h0 h.1, fun i hi => wpOp_of_qOp hw (fun a' w' hw' h' => wpAny_of_headQ hL f _ a' w' hw' h') (h.2 i hi).2⟩

theorem wpHeadQ_first {n i : Nat} {oi : Oper} {v : Value} {L : Array Bool → Act → Prop} (hi : ops[i]? = some oi) (hsel : ∀ (j : Nat) (o : Oper) cs b, ops[j]? = some o → o.op ≠ .select cs b)
    (hs : Region.sinkB md ops n = true) (hc : Region.chainB md ops n = true) (hn : n < ops.size) (hin : i < n)
    (hdone : ∀ listed a, L listed a → ∀ j ∈ Region.ready md ops listed, n ≤ j) :
    ∀ (f : Nat) (listed : Array Bool) (a : Act), HeadInv md ops n listed →
      (∀ j oj, ops[j]? = some oj → j ≠ i → listed.getD j true = false → (∀ e ∈ oj.after, Region.binds md e = true → e.on ≠ i) → oi.apart ops oj = true) →
      i ∈ Region.ready md ops listed → YieldsIn P ops C oi v a →
      wpHeadQ P md ops C n L f (listed.setIfInBounds i true) (a.put oi.dst v) → wpHeadQ P md ops C n L (f + 1) listed a := by
  intro f
  induction f with
  | zero =>
    intro listed a inv _ hr hy H
    have hun := (mem_ready.1 hr).1
    refine ⟨fun h => (by rw [h] at hr; cases hr), fun j hj => ?_⟩
    have hjn : j < n := by
      rcases Nat.lt_or_ge j n with h | h
      · exact h
      · exact absurd hj (tail_waits hs hc hn inv _ i rfl hin hun j h)
    refine ⟨hjn, ?_⟩
    by_cases hji : j = i
    · subst hji; exact hy.qOp hi H
    · have := hdone _ _ H j (ready_mono hj hji)
      omega
  | succ f ih =>
    intro listed a inv hfree hr hy H
    have hun := (mem_ready.1 hr).1
    refine ⟨fun h => (by rw [h] at hr; cases hr), fun j hj => ?_⟩
    have hjn : j < n := by
      rcases Nat.lt_or_ge j n with h | h
      · exact h
      · exact absurd hj (tail_waits hs hc hn inv _ i rfl hin hun j h)
    refine ⟨hjn, ?_⟩
    by_cases hji : j = i
    · subst hji; exact hy.qOp hi H
    · have h1 := (H.2 j (ready_mono hj hji)).2
      obtain ⟨hjun, oj, hoj, hall⟩ := mem_ready.1 hj
      have hnot : ∀ e ∈ oj.after, Region.binds md e = true → e.on ≠ i := fun e he hb heq => by
        have h1 := hall e he hb
        rw [heq, getD_both hun] at h1
        cases h1
      have h2 := qOp_put hoj (hfree j oj hoj hji hjun hnot) (fun cs b => hsel i oi cs b hi) (fun cs b => hsel j oj cs b hoj) hy h1
      have hfree' : ∀ k ok, ops[k]? = some ok → k ≠ i → (listed.setIfInBounds j true).getD k true = false →
          (∀ e ∈ ok.after, Region.binds md e = true → e.on ≠ i) → oi.apart ops ok = true := fun k ok hk hki hun hno => by
        refine hfree k ok hk hki ?_ hno
        by_cases hjk : j = k
        · subst hjk; exact hjun
        · rw [getD_set_ne true hjk] at hun; exact hun
      refine qOp_mono (fun a' h3 => ih (listed.setIfInBounds j true) a' (inv.set hj hjn) hfree' (ready_mono hr (Ne.symm hji)) h3.1 ?_) h2
      rw [Array.setIfInBounds_comm _ _ hji]
      exact h3.2

theorem wpHeadQ_lex {n g : Nat} {Lq : Act → Prop} (hsel : Region.noSelect ops = true) (hs : Region.sinkB md ops n = true) (hc : Region.chainB md ops n = true) (hn : n < ops.size) :
    ∀ (l : List Oper) (k : Nat) (listed : Array Bool) (a : Act), (∀ j, j < l.length → l[j]? = ops[k + j]?) → k + l.length = n → HeadInv md ops n listed →
    Region.lexHead md ops g l.length k listed = true → wpQuiet P ops C Lq l a →
    wpHeadQ P md ops C n (fun listed' a' => Region.seqB md ops g n listed' = true ∧ Lq a') l.length listed a
  | [], k, listed, a, _, hk, _, hB, h => by
    have : k = n := by simpa using hk
    subst this
    exact ⟨by simpa [Region.lexHead] using hB, h⟩
  | o :: l, k, listed, a, hl, hk, inv, hB, h => by
    have h0 : ops[k]? = some o := by simpa using (hl 0 (by simp)).symm
    simp only [List.length_cons, Region.lexHead, Bool.and_eq_true] at hB
    obtain ⟨⟨hr, hf⟩, hB'⟩ := hB
    have hkn : k < n := by simp only [List.length_cons] at hk; omega
    have hr' : k ∈ Region.ready md ops listed := by simpa using hr
    have hst : qOp P ops C k (wpQuiet P ops C Lq l) a := by unfold qOp; simp only [h0]; exact h
    obtain ⟨v, hy, hK⟩ := yieldsIn_of_qOp h0 hst
    exact wpHeadQ_first h0 (Region.noSelect_spec hsel) hs hc hn hkn (fun listed' a' hL => seqB_ready hL.1) l.length listed a inv (Region.free_spec h0 hf) hr' hy
      (wpHeadQ_lex hsel hs hc hn l (k + 1) _ _ (fun j hj => by have := hl (j + 1) (by simp; omega); simpa [Nat.add_assoc, Nat.add_comm 1 j] using this) (by simp only [List.length_cons] at hk; omega) (inv.set hr' hkn) hB' hK)
end

/-- **THE HEAD OF n OPERATIONS READS AND CALLS QUIETLY; THE TAIL COMES LAST, IN ITS ORDER.** -/
theorem wp_region_quiet_tail {P : Program} {C : World → Prop} {id : Nat} {Q : Exit → Act → World → Prop} {a : Act} {w : World} {l : List Oper} (n : Nat) (hm : P.follows .mixedOrders = true) (hB : Region.lexTailB .any l.toArray n = true) (hC : C w.drew)
    (h : wpQuiet P l.toArray C (fun a' => ∀ w', C w' → wpList P l.toArray Q (l.drop n) a' w') (l.take n) a) : (Code.region id l.toArray true).wp P Q a w := by
  simp only [Region.lexTailB, Bool.and_eq_true, decide_eq_true_eq] at hB
  obtain ⟨⟨⟨⟨hsel, hn⟩, hs⟩, hc⟩, hlex⟩ := hB
  have hn' : n < l.length := by simpa using hn
  have htl : (l.take n).length = n := by simp; omega
  have hdl : (l.drop n).length = l.toArray.size - n := by simp
  have inv0 : HeadInv .any l.toArray n (Array.replicate l.toArray.size false) :=
    ⟨by simp, fun j oj _ hl => (by rw [getD_replicate_false] at hl; cases hl), fun t _ ht => getD_in (by simpa using ht) (getD_replicate_false _ _)⟩
  have H := wpHeadQ_lex (md := .any) (g := l.toArray.size - n) hsel hs hc hn (l.take n) 0 _ a (fun j hj => by
    have hj' : j < n := by rw [htl] at hj; exact hj
    simp [hj']) (by simpa using htl) inv0 (by rw [htl]; exact hlex) h
  refine wp_region_any hm ?_
  have := wpAny_of_headQ (Q' := Q) (g := l.toArray.size - n) (fun listed a' w' hw' hL => by
    have := wpAny_of_seq (md := .any) (Q' := Q) (l.drop n) n listed a' w' (fun j => by simp [List.getElem?_drop]) (by rw [hdl]; exact hL.1) (hL.2 w' hw')
    rwa [hdl] at this) _ _ _ _ hC H
  rw [htl, show n + (l.toArray.size - n) = l.toArray.size by omega] at this
  exact this
theorem wp_region_ext_tail {P : Program} {id : Nat} {Q : Exit → Act → World → Prop} {a : Act} {w : World} {l : List Oper} (n : Nat) (hm : P.follows .mixedOrders = true) (hB : Region.lexTailB .any l.toArray n = true)
    (h : wpQuiet P l.toArray (fun w' => ∃ s : Ext w, w' = s.w) (fun a' => ∀ w', (∃ s : Ext w, w' = s.w) → wpList P l.toArray Q (l.drop n) a' w') (l.take n) a) : (Code.region id l.toArray true).wp P Q a w :=
  wp_region_quiet_tail (C := fun w' => ∃ s : Ext w, w' = s.w) n hm hB ⟨⟨_, (Below.refl _ _).drew⟩, rfl⟩ h

end Go.Proofs.YtlcglclojlffgaaGreat
namespace Go.Proofs.YtlcglclojlffgaaGreat
open Go.RowKit

theorem CalcAt.ext {w : World} {b : Nat} {F : Fd} (h : CalcAt w b F) (s : Ext w) : CalcAt s.w b F := h.below s.below
theorem ret_sl {a : Option Addr} {n m c : Nat} (h : n = m) : Ending.returned (.slice a n c) = .returned (.slice a m c) := by rw [h]
theorem make_poly (n : Nat) (hn : n ≤ 1099511627776) (w : World) :
    (Instr.makeSlice 112 (.int .i64 (n : Int)) (.int .i64 (n : Int))).run Tryz.prog w = .ok (.slice (some ⟨w.heap.size, 0, none⟩) n n) (w.alloc (.cells (madeCells #[.int .i64 0] n) 2)) := by
  obtain ⟨i0, hi, hz0, hz1, hz2⟩ := info_parts infoI
  have := run_make (P := Tryz.prog) w 112 2 i0 (.int .i64 0) Tryz.underlying112 hi hz0 .i64 .i64 n n (by omega) (Int.le_refl _) (by rw [hz2]; omega) (by omega)
  rw [hz1] at this
  simpa [Value.cells] using this
theorem ownI_made' (w : World) (n : Nat) (hn : n ≤ 1099511627776) : OwnI (w.alloc (.cells (madeCells #[.int .i64 0] n) 2)) w.heap.size (.slice (some ⟨w.heap.size, 0, none⟩) n n) (List.replicate n 0) :=
  OwnI.of_made (World.ownsRow_lit (base := w.heap.size) (size := 1) w (madeCells #[.int .i64 0] n) n (Nat.le_refl _) (by unfold maxLen; omega) (by rw [size_madeCells]; omega))
theorem natI_rep (n : Nat) : natI (List.replicate n 0) = List.replicate n 0 := by simp [natI]
theorem natI_set (zs : List Nat) (k x : Nat) : natI (zs.set k x) = (natI zs).set k (x : Int) := by simp [natI, List.map_set]
theorem natI_take (zs : List Nat) (k : Nat) : natI (zs.take k) = (natI zs).take k := by simp [natI, List.map_take]
theorem IntsAt.take {w : World} {a : Option Addr} {zs : List Int} (h : IntsAt w a zs) (k : Nat) : IntsAt w a (zs.take k) := by
  intro i hi
  rw [List.length_take] at hi
  obtain ⟨b, o, h1, h2⟩ := h i (by omega)
  exact ⟨b, o, h1, by rw [h2]; simp⟩
/-- a slice of the call's own, cut short -/
theorem OwnI.cut {w : World} {base : Nat} {a : Option Addr} {n c : Nat} {zs : List Int} (h : OwnI w base (.slice a n c) zs) (k : Nat) (hk : k ≤ zs.length) : OwnI w base (.slice a k c) (zs.take k) := by
  unfold OwnI World.ownsRow at h ⊢
  have e : (zs.take k).length = k := by rw [List.length_take]; omega
  rw [e]
  refine ⟨by simp [List.length_take]; omega, ?_⟩
  rcases h.2 with ⟨h1, h0⟩ | ⟨g, cap, cur, h1, hb, hg, hn, hm, hs, ht⟩
  · left
    have := Value.slice.inj h1
    obtain ⟨r1, r2, r3⟩ := this
    have h00 : k = 0 := by omega
    refine ⟨by rw [r1, h00, r3], h00⟩
  · right
    have := Value.slice.inj h1
    obtain ⟨r1, r2, r3⟩ := this
    refine ⟨g, cap, cur, by rw [r1, r3], hb, hg, by omega, hm, hs, ?_⟩
    rw [Nat.mul_one] at ht ⊢
    rw [List.map_take, ← ht, List.take_take, Nat.min_eq_left (by omega)]

/-- coefficients read from memory -/
theorem co_at {w : World} {a : Option Addr} {zs : List Nat} (H : IntsAt w a (natI zs)) {k : Nat} (hk : k < zs.length) :
    ∃ b o, a = some ⟨b, o, none⟩ ∧ b < w.heap.size ∧ w.cell? ⟨b, o + k, none⟩ = some (.int .i64 (co zs k : Nat)) := by
  obtain ⟨b, o, x, h1, h2, h3, h4⟩ := H.at (k := k) (by rw [natI_len]; exact hk)
  obtain ⟨z, hz, rfl⟩ := natI_at h2
  exact ⟨b, o, h1, h3, by rw [h4, co_some hz]⟩

set_option maxHeartbeats 1000000 in
theorem trim_any (a : Option Addr) (zs : List Nat) (n c : Nat) (w : World) (hn : n = zs.length) (hx : IntsAt w a (natI zs)) (hc : zs.length ≤ c) (lx : zs.length ≤ 1099511627776) (ha : a.map (fun x => x.add 0) = a) :
    Calls Tryz.prog 80 #[.slice a n c] w fun e w' => e = .returned (.slice a (trimN zs).length c) ∧ w = w' := by
  subst hn
  have HX := Lib.hid hx
  have HL := Lib.hid (trimN_len zs)
  clear hx
  have hci : (zs.length : Int) ≤ (c : Int) := by omega
  go_enter Tryz.func80, Tryz.ntmps80
  go_wp2_with fail
  go_loop [3] (fun i => ∃ k : Nat, k ≤ zs.length ∧ i = .int .i64 k ∧ trimK zs k = trimK zs zs.length) (fun i => (intOf i).toNat)
  case atStart => exact ⟨zs.length, Nat.le_refl _, rfl, rfl⟩
  case round =>
    obtain ⟨k, hk, rfl, hT⟩ := hrel
    have HT := Lib.hid hT
    clear hT
    have hkc : (k : Int) ≤ (c : Int) := by omega
    rcases k with - | k
    · have HR : Hid ((trimN zs).length = 0) := Lib.hid (by rw [HL.out, ← HT.out]; rfl)
      go_wp2_with fail
      go_ret
      exact ⟨ret_sl HR.out.symm, rfl⟩
    · obtain ⟨b1, o1, rfl, hb1, hc1⟩ := co_at HX.out (k := k) (by omega)
      have hk0 : (0 : Int) < ((k + 1 : Nat) : Int) := by omega
      by_cases h0 : co zs k = 0
      · have hz : (((co zs k : Nat) : Int) == 0) = true := by rw [beq_iff_eq]; omega
        have HR := Lib.hid (show trimK zs k = trimK zs zs.length by rw [← HT.out, trimK, if_pos h0])
        clear h0
        go_wp2_with fail
        exact ⟨⟨k, by omega, rfl, HR.out⟩, by simp [intOf]⟩
      · have hz : (((co zs k : Nat) : Int) == 0) = false := by rw [beq_eq_false_iff_ne]; omega
        have HR : Hid ((trimN zs).length = k + 1) := Lib.hid (by rw [HL.out, ← HT.out, trimK, if_neg h0])
        clear h0
        go_wp2_with fail
        go_ret
        exact ⟨ret_sl HR.out.symm, rfl⟩
set_option maxRecDepth 100000 in
set_option maxHeartbeats 2000000 in
theorem times_poly (F : Fd) (hF : FdOk F) (b : Nat) (a1 a2 : Option Addr) (p q : List Nat) (n1 n2 c1 c2 : Nat) (w : World) (e1 : n1 = p.length) (e2 : n2 = q.length) (hA : CalcAt w b F) (h1 : IntsAt w a1 (natI p)) (h2 : IntsAt w a2 (natI q)) (p1 : AllE F p) (q1 : AllE F q) (l1 : p.length ≤ 1000) (l2 : q.length ≤ 1000) :
    Calls Tryz.prog 114 #[.slice a1 n1 c1, .pointer (some ⟨b, 0, none⟩), .slice a2 n2 c2] w fun e w' => ∃ a c, e = .returned (.slice a (pMul F p q).length c) ∧ (pMul F p q).length ≤ c ∧ OwnI w' w.heap.size (.slice a (pMul F p q).length c) (natI (pMul F p q)) ∧ Below w.heap.size w w' := by
  subst e1 e2
  have HA := Lib.hid hA
  have H1 := Lib.hid h1
  have H2 := Lib.hid h2
  have HP := Lib.hid p1
  have HQ := Lib.hid q1
  clear hA h1 h2 p1 q1
  by_cases hp0 : p.length = 0
  · have e : pMul F p q = [] := by rw [pMul, if_pos (Or.inl hp0)]
    rw [e]
    clear e
    have hpi : ((p.length : Int) == 0) = true := by rw [beq_iff_eq]; omega
    go_enter Tryz.func114, Tryz.ntmps114
    go_wp2_with fail
    go_ret
    exact ⟨none, 0, rfl, Nat.le_refl _, World.ownsRow_nil _ _ _ _, Below.refl _ _⟩
  by_cases hq0 : q.length = 0
  · have e : pMul F p q = [] := by rw [pMul, if_pos (Or.inr hq0)]
    rw [e]
    clear e
    have hpi : ((p.length : Int) == 0) = false := by rw [beq_eq_false_iff_ne]; omega
    have hqi : ((q.length : Int) == 0) = true := by rw [beq_iff_eq]; omega
    clear hp0
    go_enter Tryz.func114, Tryz.ntmps114
    go_wp2_with fail
    go_ret
    exact ⟨none, 0, rfl, Nat.le_refl _, World.ownsRow_nil _ _ _ _, Below.refl _ _⟩
  have hpi : ((p.length : Int) == 0) = false := by rw [beq_eq_false_iff_ne]; omega
  have hqi : ((q.length : Int) == 0) = false := by rw [beq_eq_false_iff_ne]; omega
  obtain ⟨n, hn⟩ : ∃ n : Nat, n = p.length + q.length - 1 := ⟨_, rfl⟩
  have hni : (p.length : Int) + (q.length : Int) - 1 = (n : Int) := by omega
  have hmk := make_poly n (by omega)
  have HO := Lib.hid (ownI_made' w n (by omega))
  have HN := Lib.hid hn
  have hn2 : n ≤ 2000 := by omega
  have hpl : 0 < p.length := by omega
  have hql : 0 < q.length := by omega
  clear hp0 hq0 hn
  go_enter Tryz.func114, Tryz.ntmps114
  go_wp2_with fail
  go_loopw [8, 9, 10, 11, 29] (fun _ _ _ _ i wr => ∃ k : Nat, k ≤ p.length ∧ i = .int .i64 k ∧ OwnI wr w.heap.size (.slice (some ⟨w.heap.size, 0, none⟩) n n) (natI (mulTo F p q k)) ∧ Below w.heap.size w wr) (fun _ _ _ _ i _ => p.length - (intOf i).toNat)
  case atStart => exact ⟨0, Nat.zero_le _, rfl, by rw [mulTo, natI_rep, ← HN.out]; exact HO.out, ba1 _ _⟩
  case round =>
    obtain ⟨k, hk, rfl, ho, hb⟩ := hrel
    have HO1 := Lib.hid ho
    have HB1 := Lib.hid hb
    clear ho hb
    obtain ⟨wo, rfl⟩ : ∃ wo : World, wo = wr := ⟨_, rfl⟩
    by_cases hlt : k < p.length
    · obtain ⟨b1, o1, rfl, hb1, hc1⟩ := co_at (H1.out.below HB1.out) hlt
      have hki : (k : Int) < (p.length : Int) := by omega
      have HX := Lib.hid (show co p k < F.q from AllE.co hF.fit.q3 HP.out k)
      go_wp2_with fail
      go_loopw [10, 11, 36] (fun _ _ i wr => ∃ j : Nat, j ≤ q.length ∧ i = .int .i64 j ∧ OwnI wr w.heap.size (.slice (some ⟨w.heap.size, 0, none⟩) n n) (natI (rowAdd F (mulTo F p q k) k (co p k) q j)) ∧ Below w.heap.size w wr) (fun _ _ i _ => q.length - (intOf i).toNat)
      case atStart => exact ⟨0, Nat.zero_le _, rfl, HO1.out, HB1.out⟩
      case round =>
        obtain ⟨j, hj, rfl, ho, hb⟩ := hrel
        have HO2 := Lib.hid ho
        have HB2 := Lib.hid hb
        clear ho hb
        by_cases hjl : j < q.length
        · obtain ⟨b2, o2, rfl, hb2, hc2⟩ := co_at (H2.out.below HB2.out) hjl
          have hji : (j : Int) < (q.length : Int) := by omega
          have HY := Lib.hid (show co q j < F.q from AllE.co hF.fit.q3 HQ.out j)
          have hlen : (natI (rowAdd F (mulTo F p q k) k (co p k) q j)).length = n := by rw [natI_len, rowAdd_len, mulTo_len, HN.out]
          obtain ⟨z, hz, hcz, hfz⟩ := HO2.out.cellAt (k := k + j) hlen.symm (by omega)
          obtain ⟨z, hz', rfl⟩ := natI_at hz
          have HZ := Lib.hid (co_some hz')
          have HZL := Lib.hid (show z < F.q from (rowAdd_all hF.runs hF.fit (mulTo_all hF.runs hF.fit HP.out HQ.out k) HQ.out HX.out j) z (List.mem_of_getElem? hz'))
          clear hz hz' hlen
          have hkj : (k : Int) + (j : Int) < (n : Int) := by omega
          have hkj2 : IntKind.i64.wrap ((k : Int) + (j : Int)) = ((k + j : Nat) : Int) := by rw [wraps64 _ (by omega) (by omega)]; push_cast; rfl
          go_wp2_with fail
          have HAr := Lib.hid (HA.out.below HB2.out)
          have hwr : w.heap.size < wr.heap.size := by have := HO2.out.hi _ rfl; exact this
          refine wp_region_ext_tail 16 (by kernel_rfl) (by kernel_rfl) ?_
          simp only [List.take_succ_cons, List.take_zero, List.drop_succ_cons, List.drop_zero]
          repeat (go_big_quiet_step ((first
            | ((go_at_call 112; go_must (exact calls_ext _ ((mul_any F hF b _ _ HX.out HY.out _ (HAr.out.ext _)).mono (fun _ _ h => h.below)))))
            | ((go_at_call 129; go_must (exact calls_ext_same _ (add_any F hF b _ _ HZL.out (F.mul_lt hF.runs hF.fit HX.out HY.out) _ (HAr.out.ext _))))))))
          refine wpQuiet_nil ?_
          rintro _ ⟨s, rfl⟩
          go_wp2_with fail
          refine ⟨⟨j + 1, by omega, by go_num, ?_, (bt0 HB2.out s.below (by omega)).setCell (Nat.le_refl _) _⟩, by simp [intOf]; omega⟩
          have h1 := ((HO2.out.grown s.below).stored (by rw [natI_len, rowAdd_len, mulTo_len, HN.out]) (k + j) ((F.add z (F.mul (co p k) (co q j)) : Nat) : Int)).1
          rw [rowAdd, natI_set, HZ.out]
          exact h1
        · obtain rfl : j = q.length := by omega
          have hji : ¬ ((q.length : Nat) : Int) < (q.length : Int) := by omega
          go_wp2_with fail
          exact ⟨⟨k + 1, by omega, by go_num, HO2.out, HB2.out⟩, by simp [intOf]; omega⟩
    · obtain rfl : k = p.length := by omega
      have hki : ¬ ((p.length : Nat) : Int) < (p.length : Int) := by omega
      have HM := Lib.hid (show pMul F p q = trimN (mulTo F p q p.length) by rw [pMul, if_neg (by omega)])
      have HML := Lib.hid (show n = (mulTo F p q p.length).length by rw [mulTo_len, HN.out])
      go_wp2_with fail
      refine (trim_any (some ⟨w.heap.size, 0, none⟩) (mulTo F p q p.length) n n _ HML.out HO1.out.ints (by have := HML.out; omega) (by have := HML.out; omega) rfl).mono ?_
      rintro e w3 ⟨rfl, rfl⟩
      have hle := trimN_le (mulTo F p q p.length)
      have HR := Lib.hid (HO1.out.cut (trimN (mulTo F p q p.length)).length (by rw [natI_len]; exact hle))
      go_wp2_with fail
      go_ret
      rw [HM.out]
      refine ⟨_, _, rfl, by have := HML.out; omega, ?_, HB1.out⟩
      have h2 := HR.out
      rw [← natI_take] at h2
      have h3 : (mulTo F p q p.length).take (trimN (mulTo F p q p.length)).length = trimN (mulTo F p q p.length) := by
        rw [trimN_len, trimN]
      rwa [h3] at h2

end Go.Proofs.YtlcglclojlffgaaGreat
namespace Go.Proofs.YtlcglclojlffgaaGreat
open Go.RowKit

/-- a slice of the call's own is handed back -/
def RetSl (w : World) (xs : List Int) (e : Ending) (w' : World) : Prop := ∃ a c, e = .returned (.slice a xs.length c) ∧ OwnI w' w.heap.size (.slice a xs.length c) xs ∧ Below w.heap.size w w'

theorem own_app {w : World} {B : Nat} {v : Value} {n : Nat} {xs : List Int} (h : w.ownsRow B 2 1 v n ([] ++ xs.map (Value.int .i64))) (hn : n = xs.length) : OwnI w B v xs := by
  subst hn
  simpa [OwnI] using h
theorem retSl_of {w w1 w2 : World} {B : Nat} {v : Value} {xs : List Int} (h : OwnI w2 w1.heap.size v xs) (hB : w.heap.size = B) (hB2 : B ≤ w1.heap.size) (hb : Below B w w2) : RetSl w xs (.returned v) w2 := by
  obtain ⟨a, c, rfl, _⟩ := h.read
  subst hB
  exact ⟨a, c, rfl, h.weak hB2, hb⟩

theorem ints_at {w : World} {b o : Nat} {xs : List Int} (h : IntsAt w (some ⟨b, o, none⟩) xs) : ∀ j u, (xs.map (Value.int .i64))[j]? = some u → w.cell? ((⟨b, o, none⟩ : Addr).add j) = some u := by
  intro j u hu
  rw [List.getElem?_map] at hu
  cases hx : xs[j]? with
  | none => rw [hx] at hu; cases hu
  | some x =>
    rw [hx] at hu
    obtain ⟨hj, rfl⟩ := List.getElem?_eq_some_iff.1 hx
    obtain ⟨b', o', e, hc⟩ := h j hj
    simp only [Option.some.injEq, Addr.mk.injEq, and_true] at e
    obtain ⟨rfl, rfl⟩ := e
    simp only [Option.map_some, Option.some.injEq] at hu
    subst hu
    rw [Addr.add_mid]
    exact hc
theorem ints_one (xs : List Int) : ∀ u ∈ xs.map (Value.int .i64), u.oneCell' = true := by
  intro u hu
  obtain ⟨x, _, rfl⟩ := List.mem_map.1 hu
  rfl

set_option maxHeartbeats 400000 in
theorem l01Own_any (a : Option Addr) (xs : List Int) (c : Nat) (w : World) (hx : IntsAt w a xs) (lx : xs.length ≤ 1099511627776) (hs : Slc a xs) :
    Calls Tryz.prog 93 #[.slice a xs.length c] w (RetSl w xs) := by
  obtain ⟨i0, hi, y0, y1, y2⟩ := info_parts infoI
  have hown0 : (w.alloc (.cells #[] 2 (0, 0))).ownsRow w.heap.size 2 1 (.slice (some ⟨w.heap.size, 0, none⟩) 0 0) 0 [] := World.ownsRow_lit (base := w.heap.size) (size := 1) w #[] 0 (Nat.le_refl _) (by unfold maxLen; omega) rfl
  have hl : xs.length ≤ maxLen := by unfold maxLen; omega
  obtain ⟨ha, hn⟩ := hs
  cases a with
  | none =>
    obtain rfl := hn rfl
    have HO0 := Lib.hid hown0
    clear hown0
    go_enter Tryz.func93, Tryz.ntmps93
    go_wp2_with (at_builtin; refine wpList_append_own_none rfl _ _ 24 rfl w.heap.size 2 i0 1 Tryz.underlying24 hi _ _ _ rfl HO0.out rfl ?_)
    go_ret
    exact ⟨some ⟨w.heap.size, 0, none⟩, 0, rfl, HO0.out, ba1 _ _⟩
  | some ad =>
    obtain ⟨b, o, s⟩ := ad
    obtain rfl := ha _ rfl
    have HX := Lib.hid (ints_at (hx.below (ba1 w (.cells #[] 2 (0, 0)))))
    have HO0 := Lib.hid hown0
    clear hx hn ha hown0
    go_enter Tryz.func93, Tryz.ntmps93
    go_wp2_with (at_builtin; refine wpList_append_own _ rfl _ _ 24 rfl w.heap.size 2 i0 (.int .i64 0) 1 8 Tryz.underlying24 hi y0 y1 y2 rfl (by decide) _ _ _ rfl HO0.out ⟨b, o, none⟩ xs.length c (xs.map (Value.int .i64)) rfl (by simp) HX.out (ints_one _) (by omega) (by omega) (by simp) ?_; intro v' w1 hown hg _)
    have ho := own_app hown (by omega)
    have hb := (ba1 w (.cells #[] 2 (0, 0))).trans (below_of_grownBy hg (B := w.heap.size) (by simp) (fun k h => by cases h; exact Nat.le_refl _))
    clear hown hg
    have HO := Lib.hid ho
    have HB := Lib.hid hb
    clear ho hb hi
    go_wp2_with fail
    go_ret
    exact retSl_of (w1 := w) HO.out rfl (Nat.le_refl _) HB.out

end Go.Proofs.YtlcglclojlffgaaGreat
namespace Go.Proofs.YtlcglclojlffgaaGreat
open Go.RowKit

theorem Fd.IsInv.unique {F : Fd} (hr : F.Runs) {a b b' : Nat} (h : F.IsInv a b) (h' : F.IsInv a b') : b = b' := by
  obtain ⟨i, hi, e, rfl⟩ := h
  obtain ⟨j, hj, e', rfl⟩ := h'
  rcases Nat.lt_trichotomy i j with h | h | h
  · exact absurd (e.trans e'.symm) (F.pw_inj hr h hj)
  · rw [h]
  · exact absurd (e'.trans e.symm) (F.pw_inj hr h hi)
theorem inv_val {F : Fd} (hF : FdOk F) {b x v : Nat} (hx : x < F.q) (h0 : x ≠ 0) (hv : F.IsInv x v) (w : World) (hA : CalcAt w b F) :
    Calls Tryz.prog 111 #[.pointer (some ⟨b, 0, none⟩), .int .i64 x] w (RetQ (.int .i64 (v : Nat)) w) := by
  obtain ⟨v', h1, -, h3⟩ := inv_any F hF b x hx h0 w hA
  rw [hv.unique hF.runs h1]
  exact h3
theorem Fd.IsInv.lt {F : Fd} (hf : F.Fit) {a b : Nat} (h : F.IsInv a b) : b < F.q := by
  obtain ⟨i, -, -, rfl⟩ := h
  exact F.pw_lt hf _
theorem Fd.isInv_one {F : Fd} (hf : F.Fit) : F.IsInv 1 1 := ⟨0, by have := hf.q3; omega, rfl, by rw [Nat.sub_zero, Nat.mod_self]; rfl⟩
/-- the quotient when its j coefficients from n - 1 down are found -/
def quoTo (F : Fd) (p q : List Nat) (lead n : Nat) : Nat → List Nat
  | 0 => List.replicate n 0
  | j + 1 => (quoTo F p q lead n j).set (n - 1 - j) (F.mul (co (divTo F p q lead n j) (n - 1 - j + q.length - 1)) lead)
theorem quoTo_len (F : Fd) (p q : List Nat) (lead n : Nat) : ∀ j, (quoTo F p q lead n j).length = n
  | 0 => List.length_replicate
  | j + 1 => by rw [quoTo, List.length_set, quoTo_len F p q lead n j]
def pQuo (F : Fd) (p q : List Nat) (lead : Nat) : List Nat := if p.length < q.length then [] else trimN (quoTo F p q lead (p.length - q.length + 1) (p.length - q.length + 1))
/-- two polynomials of the call's own are handed back -/
def RetQR (w : World) (u v : List Nat) (e : Ending) (w' : World) : Prop :=
  ∃ a c a' c', e = .returned (.tuple #[.slice a u.length c, .slice a' v.length c']) ∧ OwnI w' w.heap.size (.slice a u.length c) (natI u) ∧ OwnI w' w.heap.size (.slice a' v.length c') (natI v) ∧ Below w.heap.size w w'

/-- a copy of a polynomial -/
theorem app_own {w1 : World} {B : Nat} {v : Value} {n : Nat} {p : List Nat} (h : w1.ownsRow B 2 1 v n ([] ++ (natI p).map (Value.int .i64))) (hn : n = (natI p).length) : OwnI w1 B v (natI p) := own_app h hn

set_option maxRecDepth 100000 in
set_option maxHeartbeats 4000000 in
theorem over_poly (F : Fd) (hF : FdOk F) (b v : Nat) (b1 o1 : Nat) (a2 : Option Addr) (p q : List Nat) (n1 n2 c1 c2 : Nat) (w : World) (e1 : n1 = p.length) (e2 : n2 = q.length) (hA : CalcAt w b F) (h1 : IntsAt w (some ⟨b1, o1, none⟩) (natI p)) (h2 : IntsAt w a2 (natI q)) (p1 : AllE F p) (q1 : AllE F q) (l1 : p.length ≤ 1000) (l2 : q.length ≤ 1000)
    (q0 : 1 ≤ q.length) (hv : F.IsInv (co q (q.length - 1)) v) (hl0 : co q (q.length - 1) ≠ 0) :
    Calls Tryz.prog 81 #[.slice (some ⟨b1, o1, none⟩) n1 c1, .pointer (some ⟨b, 0, none⟩), .slice a2 n2 c2] w (RetQR w (pQuo F p q v) (pRem F p q v)) := by
  subst e1 e2
  have HA := Lib.hid hA
  have H1 := Lib.hid (ints_at h1)
  have H2 := Lib.hid h2
  have HP := Lib.hid p1
  have HQ := Lib.hid q1
  have HV := Lib.hid hv
  have HL0 := Lib.hid hl0
  obtain ⟨i0, hi, y0, y1, y2⟩ := info_parts infoI
  have hl : (natI p).length = p.length := natI_len p
  clear hA h1 h2 p1 q1 hv hl0
  go_enter Tryz.func81, Tryz.ntmps81
  go_wp2_with (at_builtin; refine wpList_append_own _ rfl _ _ 112 rfl w.heap.size 2 i0 (.int .i64 0) 1 8 Tryz.underlying112 hi y0 y1 y2 rfl (by decide) _ _ _ rfl (World.ownsRow_nil _ _ _ _) ⟨b1, o1, none⟩ p.length c1 ((natI p).map (Value.int .i64)) rfl ?c1 H1.out (ints_one _) ?c2 ?c3 (Nat.le_refl _) ?_)
  case c1 => simp [natI]
  case c2 => unfold maxLen; omega
  case c3 => omega
  intro v' w1 hown hg _
  have HR1 := Lib.hid (app_own hown (by omega))
  have HB1 := Lib.hid (below_of_grownBy hg (Nat.le_refl _) (fun k h => by cases h))
  obtain ⟨a', c', hv', -⟩ := HR1.out.read
  rw [hl] at hv'
  subst hv'
  clear hown hg hl hi
  by_cases hlt : p.length < q.length
  · have hli : (p.length : Int) < (q.length : Int) := by omega
    have HU := Lib.hid (show pQuo F p q v = [] by rw [pQuo, if_pos hlt])
    have HM := Lib.hid (show pRem F p q v = p by rw [pRem, if_pos hlt])
    go_wp2_with fail
    go_ret2
    rw [HU.out, HM.out]
    exact ⟨none, 0, a', c', rfl, World.ownsRow_nil _ _ _ _, HR1.out, HB1.out⟩
  · have hli : ¬ (p.length : Int) < (q.length : Int) := by omega
    have HU := Lib.hid (show pQuo F p q v = trimN (quoTo F p q v (p.length - q.length + 1) (p.length - q.length + 1)) by rw [pQuo, if_neg hlt])
    have HM := Lib.hid (show pRem F p q v = trimN (divTo F p q v (p.length - q.length + 1) (p.length - q.length + 1)) by rw [pRem, if_neg hlt])
    obtain ⟨n, hn⟩ : ∃ n : Nat, n = p.length - q.length + 1 := ⟨_, rfl⟩
    rw [← hn] at HU HM
    have hni : (p.length : Int) - (q.length : Int) + 1 = (n : Int) := by omega
    have hn2 : n ≤ 1000 := by omega
    have hn1 : 1 ≤ n := by omega
    have hmk := make_poly n (by omega)
    have HN := Lib.hid (show p.length + 1 = n + q.length by omega)
    obtain ⟨gr, rfl, -, -, hgr⟩ := HR1.out.block (by rw [natI_len]; omega)
    have HO := Lib.hid ((ownI_made' w1 n (by omega)).weak HB1.out.size)
    have HR2 := Lib.hid (HR1.out.grown (ba1 w1 (.cells (madeCells #[.int .i64 0] n) 2 (0, 0))))
    have HB2 := Lib.hid (bt0 HB1.out (ba1 w1 (.cells (madeCells #[.int .i64 0] n) 2 (0, 0))) (Nat.le_refl _))
    clear hlt hn
    obtain ⟨b2, o2, rfl, hb2, hc2⟩ := co_at (H2.out.below HB2.out) (k := q.length - 1) (by omega)
    obtain ⟨m, hm⟩ : ∃ m : Nat, m = q.length - 1 := ⟨_, rfl⟩
    have HV' := Lib.hid (show co q m ≠ 0 ∧ F.IsInv (co q m) v ∧ co q m < F.q by rw [hm]; exact ⟨HL0.out, HV.out, HQ.out.co hF.fit.q3 _⟩)
    rw [← hm] at hc2
    have hmi : (q.length : Int) - 1 = (m : Int) := by omega
    have hm2 : (m : Int) < (q.length : Int) := by omega
    clear hm
    go_wp2_with fail
    refine (inv_val hF HV'.out.2.2 HV'.out.1 HV'.out.2.1 _ (HA.out.below HB2.out)).mono ?_
    rintro e w3 h3
    obtain ⟨rfl, hb3⟩ := h3.below
    have HO3 := Lib.hid (HO.out.grown hb3)
    have HR3 := Lib.hid (HR2.out.grown hb3)
    have HB3 := Lib.hid (bt0 HB2.out hb3 (Nat.le_refl _))
    clear h3 hb3 hc2 hb2
    go_wp2_with fail
    obtain ⟨gq, hgq⟩ : ∃ gq : Nat, gq = w1.heap.size := ⟨_, rfl⟩
    rw [← hgq] at HO3 hgr ⊢
    have HG := Lib.hid hgr
    have hne : gr ≠ gq := by omega
    clear HO HR1 HR2 HB1 HB2 hgq hgr hmk
    go_loopw [11, 12, 13, 14] (fun i _ _ _ wr => ∃ k : Nat, k ≤ n ∧ i = .int .i64 ((k : Int) - 1) ∧ OwnI wr w.heap.size (.slice (some ⟨gr, 0, none⟩) p.length c') (natI (divTo F p q v n (n - k))) ∧ OwnI wr w.heap.size (.slice (some ⟨gq, 0, none⟩) n n) (natI (quoTo F p q v n (n - k))) ∧ Below w.heap.size w wr) (fun i _ _ _ _ => ((intOf i) + 1).toNat)
    case atStart => exact ⟨n, Nat.le_refl _, rfl, by rw [Nat.sub_self]; exact HR3.out, by rw [Nat.sub_self, quoTo, natI_rep]; exact HO3.out, HB3.out⟩
    case round =>
      obtain ⟨k, hk, rfl, hr, ho, hb⟩ := hrel
      have HR := Lib.hid hr
      have HQo := Lib.hid ho
      have HB := Lib.hid hb
      clear hr ho hb
      obtain ⟨wo, rfl⟩ : ∃ wo : World, wo = wr := ⟨_, rfl⟩
      rcases k with - | k
      · have e1 : (((0 : Nat) : Int) - 1) = -1 := by omega
        rw [e1]
        rw [Nat.sub_zero] at HR HQo
        clear e1
        have HL1 := Lib.hid (divTo_len F p q v n n)
        have HL2 := Lib.hid (quoTo_len F p q v n n)
        have HPC := Lib.hid (show p.length ≤ c' by
          rcases HR.out.2 with ⟨h, _⟩ | ⟨g, cap, cur, h, -, -, hn, -⟩
          · cases h
          · have := Value.slice.inj h; have := divTo_len F p q v n n; rw [natI_len] at hn; omega)
        go_wp2_with fail
        refine (trim_any (some ⟨gq, 0, none⟩) (quoTo F p q v n n) n n _ HL2.out.symm HQo.out.ints (by have := HL2.out; omega) (by have := HL2.out; omega) rfl).mono ?_
        rintro e w5 ⟨rfl, rfl⟩
        go_wp2_with fail
        refine (trim_any (some ⟨gr, 0, none⟩) (divTo F p q v n n) p.length c' _ HL1.out.symm HR.out.ints (by have := HL1.out; have := HPC.out; omega) (by have := HL1.out; omega) rfl).mono ?_
        rintro e w5 ⟨rfl, rfl⟩
        go_wp2_with fail
        go_ret2
        rw [HU.out, HM.out]
        have hcut : ∀ l : List Nat, l.take (trimN l).length = trimN l := fun l => by rw [trimN_len, trimN]
        have h1 := HQo.out.cut (trimN (quoTo F p q v n n)).length (by rw [natI_len]; exact trimN_le _)
        have h2 := HR.out.cut (trimN (divTo F p q v n n)).length (by rw [natI_len]; exact trimN_le _)
        rw [← natI_take, hcut] at h1 h2
        exact ⟨_, _, _, _, rfl, h1, h2, HB.out⟩
      · have e1 : (((k + 1 : Nat) : Int) - 1) = (k : Int) := by omega
        rw [e1]
        clear e1
        obtain ⟨j, hj⟩ : ∃ j : Nat, j = n - (k + 1) := ⟨_, rfl⟩
        have hjk : n - k = j + 1 := by omega
        have hnj : n - 1 - j = k := by omega
        rw [← hj] at HR HQo
        have HJ := Lib.hid hjk
        have HNJ := Lib.hid hnj
        have hkn : (k : Int) < (n : Int) := by omega
        clear hj hjk hnj
        have hpl : (natI (divTo F p q v n j)).length = p.length := by rw [natI_len, divTo_len]
        have hN := HN.out
        have hkm : (k : Int) + (q.length : Int) - 1 = ((k + m : Nat) : Int) := by omega
        have hkm2 : ((k + m : Nat) : Int) < (p.length : Int) := by omega
        obtain ⟨z, hz, hcz, hfz⟩ := HR.out.cellAt (k := k + m) hpl.symm (by omega)
        obtain ⟨z, hz', rfl⟩ := natI_at hz
        have HDA := Lib.hid (divTo_all hF.runs hF.fit HP.out HQ.out (HV.out.lt hF.fit) (n := n) j)
        have HZ := Lib.hid (show co (divTo F p q v n j) (k + q.length - 1) = z by rw [show k + q.length - 1 = k + m by omega]; exact co_some hz')
        have HZL := Lib.hid (show z < F.q from HDA.out z (List.mem_of_getElem? hz'))
        clear hz hz' hpl hN
        go_wp2_with fail
        refine (mul_any F hF b z v HZL.out (HV.out.lt hF.fit) _ (HA.out.below HB.out)).mono ?_
        rintro e w4 h4
        obtain ⟨rfl, hb4⟩ := h4.below
        have HXL := Lib.hid (F.mul_lt hF.runs hF.fit HZL.out (HV.out.lt hF.fit))
        obtain ⟨x, hx⟩ : ∃ x, x = F.mul z v := ⟨_, rfl⟩
        rw [← hx] at HXL ⊢
        have HX := Lib.hid hx
        have hql2 : (natI (quoTo F p q v n j)).length = n := by rw [natI_len, quoTo_len]
        have HR4 := Lib.hid (HR.out.grown hb4)
        have HQ4 := Lib.hid (HQo.out.grown hb4)
        have HB4 := Lib.hid (bt0 HB.out hb4 (Nat.le_refl _))
        obtain ⟨zq, -, hcq, hfq⟩ := HQ4.out.cellAt (k := k) hql2.symm (by omega)
        have HQ5 := Lib.hid (show OwnI (w4.setCell ⟨gq, k, none⟩ (.int .i64 (x : Nat))) w.heap.size (.slice (some ⟨gq, 0, none⟩) n n) (natI (quoTo F p q v n (j + 1))) by
          have h := (HQ4.out.stored hql2.symm k (x : Int)).1
          rw [quoTo, HNJ.out, HZ.out, ← HX.out, natI_set]
          exact h)
        have HR5 := Lib.hid (HR4.out.other (grownBy_set w4 gq k (.int .i64 (x : Nat))) (fun k hk e => by cases hk; exact hne (Option.some.inj e).symm))
        have HB5 := Lib.hid (HB4.out.setCell (p := ⟨gq, k, none⟩) (HQ4.out.lo gq rfl) (.int .i64 (x : Nat)))
        clear h4 hb4 hx hql2 hcz hfz
        by_cases hx0 : x = 0
        · have hx0' : (((x : Nat) : Int) == 0) = true := by rw [beq_iff_eq]; omega
          have HD := Lib.hid (show divTo F p q v n (j + 1) = divTo F p q v n j by
            rw [divTo, HNJ.out, HZ.out, ← HX.out, hx0]; exact rowSub_zero hF.fit.q3 HDA.out _)
          clear hx0
          go_wp2_with fail
          exact ⟨⟨k, by omega, rfl, by rw [HJ.out, HD.out]; exact HR5.out, by rw [HJ.out]; exact HQ5.out, HB5.out⟩, by simp [intOf]⟩
        · have hx0' : (((x : Nat) : Int) == 0) = false := by rw [beq_eq_false_iff_ne]; omega
          have HD := Lib.hid (show divTo F p q v n (j + 1) = rowSub F (divTo F p q v n j) k x q q.length by
            rw [divTo, HNJ.out, HZ.out, ← HX.out])
          clear hx0
          go_wp2_with fail
          go_loopw [13, 14, 64] (fun _ _ i wr => ∃ i' : Nat, i' ≤ q.length ∧ i = .int .i64 i' ∧ OwnI wr w.heap.size (.slice (some ⟨gr, 0, none⟩) p.length c') (natI (rowSub F (divTo F p q v n j) k x q i')) ∧ OwnI wr w.heap.size (.slice (some ⟨gq, 0, none⟩) n n) (natI (quoTo F p q v n (j + 1))) ∧ Below w.heap.size w wr) (fun _ _ i _ => q.length - (intOf i).toNat)
          case atStart => exact ⟨0, Nat.zero_le _, rfl, HR5.out, HQ5.out, HB5.out⟩
          case round =>
            obtain ⟨i, hi, rfl, hr, ho, hb⟩ := hrel
            have HR6 := Lib.hid hr
            have HQ6 := Lib.hid ho
            have HB6 := Lib.hid hb
            clear hr ho hb hcq hfq
            by_cases hil : i < q.length
            · obtain ⟨b3, o3, e3, hb3, hc3⟩ := co_at (H2.out.below HB6.out) hil
              simp only [Option.some.injEq, Addr.mk.injEq, and_true] at e3
              obtain ⟨rfl, rfl⟩ := e3
              have hii : (i : Int) < (q.length : Int) := by omega
              have HY := Lib.hid (show co q i < F.q from HQ.out.co hF.fit.q3 i)
              have hlen : (natI (rowSub F (divTo F p q v n j) k x q i)).length = p.length := by rw [natI_len, rowSub_len, divTo_len]
              have hN := HN.out
              obtain ⟨y, hy, hcy, hfy⟩ := HR6.out.cellAt (k := k + i) hlen.symm (by omega)
              obtain ⟨y, hy', rfl⟩ := natI_at hy
              have HYc := Lib.hid (co_some hy')
              have HYL := Lib.hid (show y < F.q from (rowSub_all hF.runs hF.fit HDA.out HQ.out HXL.out i) y (List.mem_of_getElem? hy'))
              have HLEN := Lib.hid hlen
              have hki : (k : Int) + (i : Int) < (p.length : Int) := by omega
              have hki2 : IntKind.i64.wrap ((k : Int) + (i : Int)) = ((k + i : Nat) : Int) := by rw [wraps64 _ (by omega) (by omega)]; push_cast; rfl
              have HAr := Lib.hid (HA.out.below HB6.out)
              have hwr : gr < wr.heap.size := HR6.out.hi _ rfl
              clear hy hy' hlen hN
              go_wp2_with fail
              refine wp_region_ext_tail 16 (by kernel_rfl) (by kernel_rfl) ?_
              simp only [List.take_succ_cons, List.take_zero, List.drop_succ_cons, List.drop_zero]
              repeat (go_big_quiet_step ((first
                | ((go_at_call 112; go_must (exact calls_ext _ ((mul_any F hF b _ _ HXL.out HY.out _ (HAr.out.ext _)).mono (fun _ _ h => h.below)))))
                | ((go_at_call 113; go_must (exact calls_ext_same _ (sub_any F hF b _ _ HYL.out (F.mul_lt hF.runs hF.fit HXL.out HY.out) _ (HAr.out.ext _))))))))
              refine wpQuiet_nil ?_
              rintro _ ⟨s, rfl⟩
              go_wp2_with fail
              refine ⟨⟨i + 1, by omega, by go_num, ?_, ?_, (bt0 HB6.out s.below (Nat.le_refl _)).setCell (HR6.out.lo gr rfl) _⟩, by simp [intOf]; omega⟩
              · have h1 := ((HR6.out.grown s.below).stored HLEN.out.symm (k + i) ((F.add y (F.neg (F.mul x (co q i))) : Nat) : Int)).1
                rw [rowSub, natI_set, HYc.out]
                exact h1
              · exact (HQ6.out.grown s.below).other (grownBy_set s.w gr (k + i) _) (fun k hk e => by cases hk; exact hne (Option.some.inj e))
            · obtain rfl : i = q.length := by omega
              have hii : ¬ ((q.length : Nat) : Int) < (q.length : Int) := by omega
              go_wp2_with fail
              exact ⟨⟨k, by omega, rfl, by rw [HJ.out, HD.out]; exact HR6.out, by rw [HJ.out]; exact HQ6.out, HB6.out⟩, by simp [intOf]⟩

end Go.Proofs.YtlcglclojlffgaaGreat
namespace Go.Proofs.YtlcglclojlffgaaGreat

/-- a layout in numbers -/
structure Lay where
  data : Int
  checks : Int
  count : Int
def Lay.share (l : Lay) (b : Int) : Int := l.data / l.count + if l.count - l.data % l.count ≤ b then 1 else 0
def Lay.total (l : Lay) : Int := l.data + l.count * l.checks
def codB (q len checks : Int) : Bool := decide (1 ≤ checks) && decide (checks ≤ 64) && decide (checks + 1 ≤ len) && decide (len ≤ 255) && decide (len < q)
def Lay.ok (l : Lay) (q : Int) : Bool := decide (1 ≤ l.count) && decide (l.count ≤ 16) && decide (l.count ≤ l.data) && decide (l.data ≤ 1500) && decide (1 ≤ l.checks) && decide (l.checks ≤ 64) && decide (l.total ≤ 1500) &&
  codB q (l.share 0 + l.checks) l.checks && codB q (l.share (l.count - 1) + l.checks) l.checks
/-- the elements of a symbol -/
def Fam.elems (f : Fam) (size : Int) : Int := if f.kind = 2 then size * f.cols else (dcnt size : Int) / f.fk
def Fam.lay (f : Fam) (size level : Int) : Lay :=
  let e := f.elems size
  let m := if ((2 ^ f.fk.toNat : Nat) : Int) - 1 ≤ 255 then ((2 ^ f.fk.toNat : Nat) : Int) - 1 else 255
  let count := (e + m - 1) / m
  let x := e * f.levels.getD level.toNat 0 / 100 / count
  let y := if x ≤ 64 then x else 64
  let checks := if 2 ≤ y then y else 2
  ⟨e - count * checks, checks, count⟩

end Go.Proofs.YtlcglclojlffgaaGreat
namespace Go.Proofs.YtlcglclojlffgaaGreat
open Go.RowKit

/-- a valid binary field in numbers -/
structure FV (p k g : Int) (F : Fd) : Prop where
  ok : FldOk p k g F
  b : fldB p k g = true
  e : F = bF k.toNat g.toNat
theorem fv_of {p k g : Int} (h : fldB p k g = true) : FV p k g (bF k.toNat g.toNat) := ⟨fldB_ok h, h, rfl⟩
theorem FV.fd {p k g : Int} {F : Fd} (h : FV p k g F) : FdOk F := h.ok.ok
theorem calc_fv {p k g : Int} {F : Fd} (h : FV p k g F) (w : World) :
    Calls Tryz.prog 33 #[.agg #[.int .i64 p, .int .i64 k, .int .i64 g]] w (RetCalc true F w) := by
  have h2 := calc_two k g w
  have hp := h.ok.p
  have hb := h.b
  subst hp
  rw [hb, ← h.e] at h2
  exact h2

/-- a coder in memory -/
def CoderAt (w : World) (d b : Nat) (F : Fd) (len chk : Int) : Prop := w.heap[d]? = some (.cells #[.pointer (some ⟨b, 0, none⟩), .int .i64 len, .int .i64 chk] 111 (0, 0)) ∧ CalcAt w b F
theorem CoderAt.below {w w' : World} {d b : Nat} {F : Fd} {len chk : Int} (h : CoderAt w d b F len chk) (hb : Below w.heap.size w w') : CoderAt w' d b F len chk := ⟨blkK hb h.1, h.2.below hb⟩
theorem CoderAt.cell {w : World} {d b : Nat} {F : Fd} {len chk : Int} (h : CoderAt w d b F len chk) : w.cell? ⟨d, 0, none⟩ = some (.pointer (some ⟨b, 0, none⟩)) ∧ w.cell? ⟨d, 1, none⟩ = some (.int .i64 len) ∧ w.cell? ⟨d, 2, none⟩ = some (.int .i64 chk) := by
  have hc := (heap_cellR h.1).1
  exact ⟨by rw [hc]; rfl, by rw [hc]; rfl, by rw [hc]; rfl⟩
/-- a coder is handed back, or none -/
def RetCoder (ok : Bool) (F : Fd) (len chk : Int) (w : World) (e : Ending) (w' : World) : Prop :=
  Below w.heap.size w w' ∧ ∃ a, e = .returned (.tuple #[.pointer a, .bool ok]) ∧ (ok = true → ∃ d b, a = some ⟨d, 0, none⟩ ∧ CoderAt w' d b F len chk)
set_option maxRecDepth 100000 in
set_option maxHeartbeats 1000000 in
theorem coder_any {p k g : Int} {F : Fd} (h : FV p k g F) (len chk : Int) (w : World) :
    Calls Tryz.prog 44 #[.agg #[.int .i64 p, .int .i64 k, .int .i64 g, .int .i64 len, .int .i64 chk]] w (RetCoder (codB F.q len chk) F len chk w) := by
  have H := Lib.hid h
  have hq := h.fd.q_bd
  clear h
  rcases Bool.eq_false_or_eq_true (inB chk 1 64) with h1 | h1
  · have hc := inB_iff.1 h1
    have hw : wrap64 (chk + 1) = chk + 1 := by unfold wrap64; omega
    rcases Bool.eq_false_or_eq_true (inB len (chk + 1) 255) with h2 | h2
    · have hl := inB_iff.1 h2
      by_cases h3 : len < F.q
      · have HR := Lib.hid (show codB F.q len chk = true by simp [codB]; omega)
        have h3' : decide ((F.q : Int) ≤ len) = false := by simp; omega
        clear h3 hw
        go_enter Tryz.func44, Tryz.ntmps44
        go_wp2_with fail
        refine (inRange_any _ _ _ _).mono ?_
        rw [h1]
        rintro e w' ⟨rfl, rfl⟩
        go_wp2_with fail
        refine (inRange_any _ _ _ _).mono ?_
        rw [h2]
        rintro e w' ⟨rfl, rfl⟩
        go_wp2_with fail
        refine (calc_fv H.out _).mono ?_
        rintro e w1 ⟨hb1, a1, rfl, ha⟩
        obtain ⟨b, rfl, -, hA⟩ := ha rfl
        have HB := Lib.hid (bt1 hb1)
        have HA := Lib.hid hA
        have hqc := hA.cell.2.1
        have hbox := box1 hb1
        have hz : w.heap.size < w1.heap.size := by have := hb1.size; simp at this; omega
        clear hb1 hA ha
        go_wp2_with fail
        go_quiet (fail)
        go_wp2_with fail
        go_ret2
        rw [HR.out]
        have hn := bt0 HB.out ((Below.refl _ _).drew) (Nat.le_refl _)
        exact ⟨bt0 (HB.out.trans (below_drewN (Below.refl _ _) nq)) (ba1 _ _) (Nat.le_refl _), _, rfl, fun _ => ⟨_, b, rfl, push_at _ _, (HA.out.below (below_drewN (Below.refl _ _) nq)).below (ba1 _ _)⟩⟩
      · have HR := Lib.hid (show codB F.q len chk = false by simp [codB]; omega)
        have h3' : decide ((F.q : Int) ≤ len) = true := by simp; omega
        clear h3 hw
        go_enter Tryz.func44, Tryz.ntmps44
        go_wp2_with fail
        refine (inRange_any _ _ _ _).mono ?_
        rw [h1]
        rintro e w' ⟨rfl, rfl⟩
        go_wp2_with fail
        refine (inRange_any _ _ _ _).mono ?_
        rw [h2]
        rintro e w' ⟨rfl, rfl⟩
        go_wp2_with fail
        refine (calc_fv H.out _).mono ?_
        rintro e w1 ⟨hb1, a1, rfl, ha⟩
        obtain ⟨b, rfl, -, hA⟩ := ha rfl
        have HB := Lib.hid (bt1 hb1)
        have hqc := hA.cell.2.1
        have hbox := box1 hb1
        have hz : w.heap.size < w1.heap.size := by have := hb1.size; simp at this; omega
        clear hb1 hA ha
        go_wp2_with fail
        go_quiet (fail)
        go_wp2_with fail
        go_ret2
        rw [HR.out]
        exact ⟨HB.out.trans (below_drewN (Below.refl _ _) nq), none, rfl, fun h => by cases h⟩
    · have hl := inB_not.1 h2
      have HR := Lib.hid (show codB F.q len chk = false by simp [codB]; omega)
      clear hw
      go_enter Tryz.func44, Tryz.ntmps44
      go_wp2_with fail
      refine (inRange_any _ _ _ _).mono ?_
      rw [h1]
      rintro e w' ⟨rfl, rfl⟩
      go_wp2_with fail
      refine (inRange_any _ _ _ _).mono ?_
      rw [h2]
      rintro e w' ⟨rfl, rfl⟩
      go_wp2_with fail
      go_ret2
      rw [HR.out]
      exact ⟨ba1 _ _, none, rfl, fun h => by cases h⟩
  · have hc := inB_not.1 h1
    have HR := Lib.hid (show codB F.q len chk = false by simp [codB]; omega)
    go_enter Tryz.func44, Tryz.ntmps44
    go_wp2_with fail
    refine (inRange_any _ _ _ _).mono ?_
    rw [h1]
    rintro e w' ⟨rfl, rfl⟩
    go_wp2_with fail
    go_ret2
    rw [HR.out]
    exact ⟨ba1 _ _, none, rfl, fun h => by cases h⟩
set_option maxHeartbeats 1000000 in
theorem isCode_any {p k g : Int} {F : Fd} (h : FV p k g F) (len chk : Int) (w : World) :
    Calls Tryz.prog 71 #[.agg #[.int .i64 p, .int .i64 k, .int .i64 g, .int .i64 len, .int .i64 chk]] w fun e w' => e = .returned (.bool (codB F.q len chk)) ∧ Below w.heap.size w w' := by
  have H := Lib.hid h
  clear h
  go_enter Tryz.func71, Tryz.ntmps71
  go_wp2_with fail
  refine (coder_any H.out len chk _).mono ?_
  rintro e w1 ⟨hb1, a1, rfl, -⟩
  have HB := Lib.hid (bt1 hb1)
  clear hb1
  go_wp2_with fail
  go_ret
  exact ⟨rfl, HB.out⟩
set_option maxHeartbeats 1000000 in
theorem total_any (p k g d c n : Int) (w : World) (hd : 0 ≤ d) (hd2 : d ≤ 100000) (hc : 0 ≤ c) (hc2 : c ≤ 1000) (hn : 0 ≤ n) (hn2 : n ≤ 1000) :
    Calls Tryz.prog 46 #[.agg #[.int .i64 p, .int .i64 k, .int .i64 g, .int .i64 d, .int .i64 c, .int .i64 n]] w fun e w' => e = .returned (.int .i64 (Lay.total ⟨d, c, n⟩)) ∧ Below w.heap.size w w' := by
  have h1 : 0 ≤ n * c := Int.mul_nonneg hn hc
  have h2 : n * c ≤ 1000 * 1000 := Int.mul_le_mul hn2 hc2 hc (by omega)
  have HR := Lib.hid (show Lay.total ⟨d, c, n⟩ = d + n * c from rfl)
  obtain ⟨m, hm⟩ : ∃ m, m = n * c := ⟨_, rfl⟩
  rw [← hm] at h1 h2 HR
  have hw : wrap64 (n * c) = m := by rw [← hm]; unfold wrap64; omega
  clear hm
  go_enter Tryz.func46, Tryz.ntmps46
  go_wp2_with fail
  go_ret
  exact ⟨ret_int HR.out.symm, ba1 _ _⟩
set_option maxHeartbeats 1000000 in
theorem share_any (p k g d c n b : Int) (w : World) (hd : 0 ≤ d) (hd2 : d ≤ 1500) (hn : 1 ≤ n) (hn2 : n ≤ 16) :
    Calls Tryz.prog 42 #[.agg #[.int .i64 p, .int .i64 k, .int .i64 g, .int .i64 d, .int .i64 c, .int .i64 n], .int .i64 b] w fun e w' => e = .returned (.int .i64 (Lay.share ⟨d, c, n⟩ b)) ∧ Below w.heap.size w w' := by
  have h1 : 0 ≤ d % n := Int.emod_nonneg _ (by omega)
  have h2 : d % n < n := Int.emod_lt_of_pos _ (by omega)
  have h3 : 0 ≤ d / n := Int.ediv_nonneg hd (by omega)
  have h4 : d / n ≤ d := Int.ediv_le_self _ hd
  by_cases hc : n - d % n ≤ b
  · have HR := Lib.hid (show Lay.share ⟨d, c, n⟩ b = d / n + 1 by simp only [Lay.share]; rw [if_pos hc])
    have hdec : decide (n - d % n ≤ b) = true := by simpa using hc
    clear hc
    go_enter Tryz.func42, Tryz.ntmps42
    go_wp2_with fail
    go_quiet (fail)
    go_wp2_with fail
    go_ret
    exact ⟨ret_int HR.out.symm, (ba1 _ _).trans (below_drewN (Below.refl _ _) nq)⟩
  · have HR := Lib.hid (show Lay.share ⟨d, c, n⟩ b = d / n by simp only [Lay.share]; rw [if_neg hc, Int.add_zero])
    have hdec : decide (n - d % n ≤ b) = false := by simpa using hc
    clear hc
    go_enter Tryz.func42, Tryz.ntmps42
    go_wp2_with fail
    go_quiet (fail)
    go_wp2_with fail
    go_ret
    exact ⟨ret_int HR.out.symm, (ba1 _ _).trans (below_drewN (Below.refl _ _) nq)⟩
theorem share_bd {d c n b : Int} (hd : 0 ≤ d) (hd2 : d ≤ 1500) (hn : 1 ≤ n) : 0 ≤ Lay.share ⟨d, c, n⟩ b ∧ Lay.share ⟨d, c, n⟩ b ≤ 1501 := by
  have h3 : 0 ≤ d / n := Int.ediv_nonneg hd (by omega)
  have h4 : d / n ≤ d := Int.ediv_le_self _ hd
  simp only [Lay.share]
  split <;> omega
set_option maxHeartbeats 1000000 in
theorem layCode_any (p k g d c n b : Int) (w : World) (hd : 0 ≤ d) (hd2 : d ≤ 1500) (hc : 0 ≤ c) (hc2 : c ≤ 1000) (hn : 1 ≤ n) (hn2 : n ≤ 16) :
    Calls Tryz.prog 43 #[.agg #[.int .i64 p, .int .i64 k, .int .i64 g, .int .i64 d, .int .i64 c, .int .i64 n], .int .i64 b] w fun e w' => e = .returned (.agg #[.int .i64 p, .int .i64 k, .int .i64 g, .int .i64 (Lay.share ⟨d, c, n⟩ b + c), .int .i64 c]) ∧ Below w.heap.size w w' := by
  have hs := share_bd (c := c) (b := b) hd hd2 hn
  obtain ⟨s, hS⟩ : ∃ s, s = Lay.share ⟨d, c, n⟩ b := ⟨_, rfl⟩
  have HS := Lib.hid hS
  rw [← hS] at hs
  clear hS
  go_enter Tryz.func43, Tryz.ntmps43
  go_wp2_with fail
  have hbox1 := heap2 w (.cells #[.int .i64 p, .int .i64 k, .int .i64 g, .int .i64 d, .int .i64 c, .int .i64 n] 40 (0, 0)) (.cells #[.int .i64 0, .int .i64 0, .int .i64 0, .int .i64 0, .int .i64 0] 73 (0, 0))
  have HB := Lib.hid (ba2 w (.cells #[.int .i64 p, .int .i64 k, .int .i64 g, .int .i64 d, .int .i64 c, .int .i64 n] 40 (0, 0)) (.cells #[.int .i64 0, .int .i64 0, .int .i64 0, .int .i64 0, .int .i64 0] 73 (0, 0)))
  obtain ⟨W, hW⟩ : ∃ W, W = (w.alloc (.cells #[.int .i64 p, .int .i64 k, .int .i64 g, .int .i64 d, .int .i64 c, .int .i64 n] 40 (0, 0))).alloc (.cells #[.int .i64 0, .int .i64 0, .int .i64 0, .int .i64 0, .int .i64 0] 73 (0, 0)) := ⟨_, rfl⟩
  rw [← hW] at hbox1 HB ⊢
  clear hW
  obtain ⟨hc1, hf1⟩ := heap_cellR hbox1.1
  obtain ⟨hc3, hf3⟩ := heap_cellR hbox1.2
  have hz1 : w.heap.size < W.heap.size := blkLt hbox1.1
  have hz3 : w.heap.size + 1 < W.heap.size := blkLt hbox1.2
  clear hbox1
  refine wp_region_ext_tail 11 (by kernel_rfl) (by kernel_rfl) ?_
  simp only [List.take_succ_cons, List.take_zero, List.drop_succ_cons, List.drop_zero]
  repeat (go_big_quiet_step ((go_at_call 42; go_must (exact calls_ext _ (share_any p k g d c n b _ hd hd2 hn hn2)))))
  refine wpQuiet_nil ?_
  rintro _ ⟨s', rfl⟩
  have hz' : w.heap.size + 1 < s'.w.heap.size := by have := s'.below.size; omega
  have HB2 := Lib.hid (bt0 HB.out s'.below (Nat.le_refl _))
  have hw : wrap64 (s + c) = s + c := by unfold wrap64; omega
  rw [← HS.out]
  go_wp2_with fail
  refine bodyPost_ret (v := .agg #[.int .i64 p, .int .i64 k, .int .i64 g, .int .i64 (s + c), .int .i64 c]) (by simp [results, Tryz.results43, go_sem, hc3, hz3, hw]) rfl ⟨by rw [HS.out], ?_⟩
  iterate 5 (refine Below.setCell ?_ (by dsimp only; omega) _)
  exact HB2.out
set_option maxRecDepth 100000 in
set_option maxHeartbeats 2000000 in
theorem isLayout_any {p k g : Int} {F : Fd} (h : FV p k g F) (d c n : Int) (w : World) :
    Calls Tryz.prog 32 #[.agg #[.int .i64 p, .int .i64 k, .int .i64 g, .int .i64 d, .int .i64 c, .int .i64 n]] w fun e w' => e = .returned (.bool (Lay.ok ⟨d, c, n⟩ F.q)) ∧ Below w.heap.size w w' := by
  have H := Lib.hid h
  clear h
  rcases Bool.eq_false_or_eq_true (inB n 1 16) with h1 | h1
  · have hn := inB_iff.1 h1
    rcases Bool.eq_false_or_eq_true (inB d n 1500) with h2 | h2
    · have hd := inB_iff.1 h2
      rcases Bool.eq_false_or_eq_true (inB c 1 64) with h3 | h3
      · have hc := inB_iff.1 h3
        by_cases h4 : 1500 < Lay.total ⟨d, c, n⟩
        · have HR := Lib.hid (show Lay.ok ⟨d, c, n⟩ F.q = false by simp only [Lay.ok]; simp; omega)
          have h4' : decide (1500 < Lay.total ⟨d, c, n⟩) = true := by simpa using h4
          clear h4
          go_enter Tryz.func32, Tryz.ntmps32
          go_wp2_with fail
          refine (inRange_any _ _ _ _).mono ?_
          rw [h1]
          rintro e w' ⟨rfl, rfl⟩
          go_wp2_with fail
          refine (inRange_any _ _ _ _).mono ?_
          rw [h2]
          rintro e w' ⟨rfl, rfl⟩
          go_wp2_with fail
          refine (inRange_any _ _ _ _).mono ?_
          rw [h3]
          rintro e w' ⟨rfl, rfl⟩
          go_wp2_with fail
          refine (total_any p k g d c n _ (by omega) (by omega) (by omega) (by omega) (by omega) (by omega)).mono ?_
          rintro e w1 ⟨rfl, hb1⟩
          have hbox := box1 hb1
          have HB1 := Lib.hid (bt1 hb1)
          have hz : w.heap.size < w1.heap.size := by have := hb1.size; simp at this; omega
          clear hb1
          go_wp2_with fail
          go_ret
          exact ⟨ret_bool HR.out.symm, HB1.out⟩
        · rcases Bool.eq_false_or_eq_true (codB F.q (Lay.share ⟨d, c, n⟩ 0 + c) c) with h5 | h5
          · have HR := Lib.hid (show Lay.ok ⟨d, c, n⟩ F.q = codB F.q (Lay.share ⟨d, c, n⟩ (n - 1) + c) c by
              simp only [Lay.ok]; rw [h5]; simp; omega)
            have H5 := Lib.hid h5
            have h4' : decide (1500 < Lay.total ⟨d, c, n⟩) = false := by simpa using h4
            clear h4 h5
            go_enter Tryz.func32, Tryz.ntmps32
            go_wp2_with fail
            refine (inRange_any _ _ _ _).mono ?_
            rw [h1]
            rintro e w' ⟨rfl, rfl⟩
            go_wp2_with fail
            refine (inRange_any _ _ _ _).mono ?_
            rw [h2]
            rintro e w' ⟨rfl, rfl⟩
            go_wp2_with fail
            refine (inRange_any _ _ _ _).mono ?_
            rw [h3]
            rintro e w' ⟨rfl, rfl⟩
            go_wp2_with fail
            refine (total_any p k g d c n _ (by omega) (by omega) (by omega) (by omega) (by omega) (by omega)).mono ?_
            rintro e w1 ⟨rfl, hb1⟩
            have hbox := box1 hb1
            have HB1 := Lib.hid (bt1 hb1)
            have hz : w.heap.size < w1.heap.size := by have := hb1.size; simp at this; omega
            clear hb1
            go_wp2_with fail
            refine (layCode_any p k g d c n 0 _ (by omega) (by omega) (by omega) (by omega) (by omega) (by omega)).mono ?_
            rintro e w2 ⟨rfl, hb2⟩
            have hbox2 := boxK hb2 hbox (by simp)
            have hz2 : w.heap.size < w2.heap.size := by have := hb2.size; omega
            have HB2 := Lib.hid (bt0 HB1.out hb2 (Nat.le_refl _))
            clear hb2 hbox
            go_wp2_with fail
            refine (isCode_any H.out _ _ _).mono ?_
            rw [H5.out]
            rintro e w3 ⟨rfl, hb3⟩
            have hbox3 := boxK hb3 hbox2 (by simp)
            have hz3 : w.heap.size < w3.heap.size := by have := hb3.size; omega
            have HB3 := Lib.hid (bt0 HB2.out hb3 (Nat.le_refl _))
            clear hb3 hbox2
            go_wp2_with fail
            refine (layCode_any p k g d c n (n - 1) _ (by omega) (by omega) (by omega) (by omega) (by omega) (by omega)).mono ?_
            rintro e w4 ⟨rfl, hb4⟩
            have HB4 := Lib.hid (bt0 HB3.out hb4 (Nat.le_refl _))
            clear hb4 hbox3
            go_wp2_with fail
            refine (isCode_any H.out _ _ _).mono ?_
            rintro e w5 ⟨rfl, hb5⟩
            have HB5 := Lib.hid (bt0 HB4.out hb5 (Nat.le_refl _))
            clear hb5
            go_wp2_with fail
            go_ret
            exact ⟨ret_bool HR.out.symm, HB5.out⟩
          · have HR := Lib.hid (show Lay.ok ⟨d, c, n⟩ F.q = false by simp only [Lay.ok]; rw [h5]; simp)
            have H5 := Lib.hid h5
            have h4' : decide (1500 < Lay.total ⟨d, c, n⟩) = false := by simpa using h4
            clear h4 h5
            go_enter Tryz.func32, Tryz.ntmps32
            go_wp2_with fail
            refine (inRange_any _ _ _ _).mono ?_
            rw [h1]
            rintro e w' ⟨rfl, rfl⟩
            go_wp2_with fail
            refine (inRange_any _ _ _ _).mono ?_
            rw [h2]
            rintro e w' ⟨rfl, rfl⟩
            go_wp2_with fail
            refine (inRange_any _ _ _ _).mono ?_
            rw [h3]
            rintro e w' ⟨rfl, rfl⟩
            go_wp2_with fail
            refine (total_any p k g d c n _ (by omega) (by omega) (by omega) (by omega) (by omega) (by omega)).mono ?_
            rintro e w1 ⟨rfl, hb1⟩
            have hbox := box1 hb1
            have HB1 := Lib.hid (bt1 hb1)
            have hz : w.heap.size < w1.heap.size := by have := hb1.size; simp at this; omega
            clear hb1
            go_wp2_with fail
            refine (layCode_any p k g d c n 0 _ (by omega) (by omega) (by omega) (by omega) (by omega) (by omega)).mono ?_
            rintro e w2 ⟨rfl, hb2⟩
            have hbox2 := boxK hb2 hbox (by simp)
            have hz2 : w.heap.size < w2.heap.size := by have := hb2.size; omega
            have HB2 := Lib.hid (bt0 HB1.out hb2 (Nat.le_refl _))
            clear hb2 hbox
            go_wp2_with fail
            refine (isCode_any H.out _ _ _).mono ?_
            rw [H5.out]
            rintro e w3 ⟨rfl, hb3⟩
            have HB3 := Lib.hid (bt0 HB2.out hb3 (Nat.le_refl _))
            clear hb3
            go_wp2_with fail
            go_ret
            exact ⟨ret_bool HR.out.symm, HB3.out⟩
      · have hc := inB_not.1 h3
        have HR := Lib.hid (show Lay.ok ⟨d, c, n⟩ F.q = false by simp only [Lay.ok]; simp; omega)
        go_enter Tryz.func32, Tryz.ntmps32
        go_wp2_with fail
        refine (inRange_any _ _ _ _).mono ?_
        rw [h1]
        rintro e w' ⟨rfl, rfl⟩
        go_wp2_with fail
        refine (inRange_any _ _ _ _).mono ?_
        rw [h2]
        rintro e w' ⟨rfl, rfl⟩
        go_wp2_with fail
        refine (inRange_any _ _ _ _).mono ?_
        rw [h3]
        rintro e w' ⟨rfl, rfl⟩
        go_wp2_with fail
        go_ret
        exact ⟨ret_bool HR.out.symm, ba1 _ _⟩
    · have hd := inB_not.1 h2
      have HR := Lib.hid (show Lay.ok ⟨d, c, n⟩ F.q = false by simp only [Lay.ok]; simp; omega)
      go_enter Tryz.func32, Tryz.ntmps32
      go_wp2_with fail
      refine (inRange_any _ _ _ _).mono ?_
      rw [h1]
      rintro e w' ⟨rfl, rfl⟩
      go_wp2_with fail
      refine (inRange_any _ _ _ _).mono ?_
      rw [h2]
      rintro e w' ⟨rfl, rfl⟩
      go_wp2_with fail
      go_ret
      exact ⟨ret_bool HR.out.symm, ba1 _ _⟩
  · have hn := inB_not.1 h1
    have HR := Lib.hid (show Lay.ok ⟨d, c, n⟩ F.q = false by simp only [Lay.ok]; simp; omega)
    go_enter Tryz.func32, Tryz.ntmps32
    go_wp2_with fail
    refine (inRange_any _ _ _ _).mono ?_
    rw [h1]
    rintro e w' ⟨rfl, rfl⟩
    go_wp2_with fail
    go_ret
    exact ⟨ret_bool HR.out.symm, ba1 _ _⟩

end Go.Proofs.YtlcglclojlffgaaGreat
namespace Go.Proofs.YtlcglclojlffgaaGreat
open Go.RowKit

/-- a binary field that may have generators or not -/
structure FdB (F : Fd) : Prop where
  bin : F.bin = true
  k3 : 3 ≤ F.k
  k8 : F.k ≤ 8
  fit : F.Fit
theorem FdB.q {F : Fd} (h : FdB F) : F.q = 2 ^ F.k := (h.fit.bin h.bin).1
theorem FdB.q_bd {F : Fd} (h : FdB F) : 8 ≤ F.q ∧ F.q ≤ 256 := by
  rw [h.q]
  exact ⟨Nat.pow_le_pow_right (n := 2) (by omega) h.k3, Nat.pow_le_pow_right (n := 2) (by omega) h.k8⟩
theorem FdB.g_bd {F : Fd} (h : FdB F) : F.g < 512 := by
  have h1 := (h.fit.bin h.bin).2.2
  have h2 : 2 ^ (F.k + 1) ≤ 2 ^ 9 := Nat.pow_le_pow_right (by omega) (by have := h.k8; omega)
  omega
/-- a field as a value -/
abbrev fV (F : Fd) : Value := .agg #[.int .i64 2, .int .i64 (F.k : Int), .int .i64 (F.g : Int)]
theorem bit_test (x m : Nat) (hx : x < 2 ^ 62) : (bits .and .i64 ((x : Int) / 2 ^ m) 1 == 1) = x.testBit m := by
  have e : ((x : Int) / 2 ^ m) = ((x / 2 ^ m : Nat) : Int) := by push_cast; rfl
  have h : x / 2 ^ m ≤ x := Nat.div_le_self _ _
  rw [e, Nat.testBit_eq_decide_div_mod_eq]
  generalize x / 2 ^ m = q at *
  rw [andOne _ (by omega) (by omega)]
  by_cases h1 : q % 2 = 1
  · rw [decide_eq_true h1, beq_iff_eq]; omega
  · rw [decide_eq_false h1, beq_eq_false_iff_ne]; omega
theorem shl_lt {a m n d : Nat} (ha : a < 2 ^ n) (hm : m ≤ d) : a <<< m < 2 ^ (n + d) := by
  rw [Nat.shiftLeft_eq]
  calc a * 2 ^ m < 2 ^ n * 2 ^ m := Nat.mul_lt_mul_of_pos_right ha (Nat.pow_pos (by omega))
    _ = 2 ^ (n + m) := (Nat.pow_add ..).symm
    _ ≤ 2 ^ (n + d) := Nat.pow_le_pow_right (by omega) (by omega)
theorem wrap_nat (q : Nat) (h : q < 2 ^ 62) : wrap64 (q : Int) = q := by unfold wrap64; omega
theorem shl_nat (a m : Nat) (h : a <<< m < 2 ^ 62) : wrap64 ((a : Int) * 2 ^ m) = ((a <<< m : Nat) : Int) := by
  have e : ((a : Int) * 2 ^ m) = ((a <<< m : Nat) : Int) := by rw [Nat.shiftLeft_eq]; push_cast; rfl
  rw [e]; exact wrap_nat _ h
/-- a number and a shift added: as the machine does it -/
theorem xor_shl (c a m : Nat) (hc : c < 2 ^ 20) (ha : a <<< m < 2 ^ 20) : ∃ y z : Nat, wrap64 ((a : Int) * 2 ^ m) = (y : Int) ∧ bits .xor .i64 (c : Int) (y : Int) = (z : Int) ∧ z = c ^^^ (a <<< m) ∧ z < 2 ^ 20 :=
  ⟨_, _, shl_nat a m (Nat.lt_trans ha (by decide)), xor64 c (a <<< m) (Nat.lt_trans hc (by decide)) (Nat.lt_trans ha (by decide)), rfl, Nat.xor_lt_two_pow hc ha⟩
theorem clm_lt {a b : Nat} (ha : a < 2 ^ 8) : ∀ {n : Nat}, n ≤ 8 → clm a b n < 2 ^ 16
  | 0, _ => by simp [clm]
  | n + 1, h => by
    rw [clm]
    refine Nat.xor_lt_two_pow (clm_lt ha (by omega)) ?_
    split
    · exact shl_lt (n := 8) (d := 8) ha (by omega)
    · decide
theorem pow_small {k : Nat} (h : k ≤ 8) : wrap64 (2 ^ k) = ((2 ^ k : Nat) : Int) := by
  have h1 : 2 ^ k ≤ 2 ^ 8 := Nat.pow_le_pow_right (n := 2) (by omega) h
  have e : (2 ^ k : Int) = ((2 ^ k : Nat) : Int) := by push_cast; rfl
  rw [e]; exact wrap_nat _ (Nat.lt_of_le_of_lt h1 (by decide))
set_option maxRecDepth 100000 in
set_option maxHeartbeats 1000000 in
theorem spSize_any (F : Fd) (h : FdB F) (w : World) :
    Calls Tryz.prog 51 #[fV F] w fun e w' => e = .returned (.int .i64 (F.q : Int)) ∧ Below w.heap.size w w' := by
  have hq := h.q
  have hk := h.k8
  have hk3 := h.k3
  rw [hq, ← pow_small hk]
  clear hq h
  go_enter Tryz.func51, Tryz.ntmps51
  go_wp2_with fail
  go_ret
  exact ⟨rfl, ba1 _ _⟩
set_option maxRecDepth 100000 in
set_option maxHeartbeats 1000000 in
theorem spMul_any (F : Fd) (h : FdB F) (a b : Nat) (ha : a < F.q) (hb : b < F.q) (w : World) :
    Calls Tryz.prog 117 #[fV F, .int .i64 (a : Int), .int .i64 (b : Int)] w fun e w' => e = .returned (.int .i64 (F.mulB a b : Nat)) ∧ Below w.heap.size w w' := by
  have hq := h.q_bd
  have hk := h.k8
  have hk3 := h.k3
  have hg := h.g_bd
  have H := Lib.hid h
  clear h
  obtain ⟨k, hke⟩ : ∃ k, k = F.k := ⟨_, rfl⟩
  obtain ⟨g, hge⟩ : ∃ g, g = F.g := ⟨_, rfl⟩
  have HK := Lib.hid hke
  have HG := Lib.hid hge
  rw [fV, ← hke, ← hge]
  rw [← hke] at hk hk3
  rw [← hge] at hg
  clear hke hge
  go_enter Tryz.func117, Tryz.ntmps117
  go_wp2_with fail
  have hx := push_at w (.cells #[.int .i64 2, .int .i64 (k : Int), .int .i64 (g : Int)] 30 (0, 0))
  have HB0 := Lib.hid (ba1 w (.cells #[.int .i64 2, .int .i64 (k : Int), .int .i64 (g : Int)] 30 (0, 0)))
  obtain ⟨w1, hw1⟩ : ∃ w1, w1 = w.alloc (.cells #[.int .i64 2, .int .i64 (k : Int), .int .i64 (g : Int)] 30 (0, 0)) := ⟨_, rfl⟩
  rw [← hw1] at hx HB0 ⊢
  obtain ⟨hcA, hfA⟩ := heap_cellR hx
  have hltA := blkLt hx
  clear hw1 hx
  go_loopw [7, 8] (fun o i wr => ∃ m : Nat, m ≤ k ∧ i = .int .i64 m ∧ o = .int .i64 (clm a b m : Nat) ∧ wr = w1) (fun _ i _ => k - (intOf i).toNat)
  case atStart => exact ⟨0, Nat.zero_le _, rfl, rfl, rfl⟩
  case round =>
    obtain ⟨m, hm, rfl, rfl, rfl⟩ := hrel
    by_cases hlt : m < k
    · have hmi : (m : Int) < (k : Int) := by omega
      have hbt := bit_test b m (by omega)
      obtain ⟨y, z, hsn, hxr, hz, -⟩ := xor_shl (clm a b m) a m (Nat.lt_trans (clm_lt (a := a) (b := b) (n := m) (by omega) (by omega)) (by decide)) (Nat.lt_trans (shl_lt (n := 8) (d := 8) (by omega) (by omega)) (by decide))
      have HST := Lib.hid (show clm a b (m + 1) = clm a b m ^^^ (if b.testBit m then a <<< m else 0) from rfl)
      have HZ := Lib.hid hz
      clear hz
      cases hc : b.testBit m with
      | true =>
        rw [hc] at hbt HST
        clear hc
        go_wp2_with fail
        exact ⟨⟨m + 1, by omega, by push_cast; rfl, by rw [HST.out, if_pos rfl, HZ.out], trivial⟩, by simp [intOf]; omega⟩
      | false =>
        rw [hc] at hbt HST
        clear hc
        go_wp2_with fail
        exact ⟨⟨m + 1, by omega, by push_cast; rfl, by rw [HST.out, if_neg (by simp), Nat.xor_zero], trivial⟩, by simp [intOf]; omega⟩
    · obtain rfl : m = k := by omega
      have hmi : ¬ (m : Int) < (m : Int) := by omega
      have hc0 : clm a b m < 2 ^ 16 := clm_lt (by omega) hk
      obtain ⟨c, hce⟩ : ∃ c, c = clm a b m := ⟨_, rfl⟩
      have HC := Lib.hid (show redN m g (m + 1) c = F.mulB a b by rw [hce, Fd.mulB, HK.out, HG.out])
      rw [← hce] at hc0 ⊢
      clear hce
      go_wp2_with fail
      go_loopw [7, 9] (fun o i wq => ∃ j x : Nat, i = .int .i64 j ∧ o = .int .i64 x ∧ m ≤ j + 1 ∧ j ≤ 2 * m ∧ x < 2 ^ 20 ∧ redN m g (j + 1 - m) x = F.mulB a b ∧ wq = wr) (fun _ i _ => (intOf i).toNat)
      case atStart => exact ⟨2 * m, c, by push_cast; rfl, rfl, by omega, Nat.le_refl _, Nat.lt_trans hc0 (by decide), by rw [show 2 * m + 1 - m = m + 1 by omega]; exact HC.out, rfl⟩
      case round =>
        obtain ⟨j, x, rfl, rfl, hj1, hj2, hx, hred, rfl⟩ := hrel
        have HR := Lib.hid hred
        clear hred
        by_cases hj : m ≤ j
        · have hji : (m : Int) ≤ (j : Int) := by omega
          have hbt := bit_test x j (Nat.lt_trans hx (by decide))
          obtain ⟨y, z, hsn, hxr, hz, hz2⟩ := xor_shl x g (j - m) hx (Nat.lt_of_lt_of_le (shl_lt (n := 9) (d := 8) hg (by omega)) (by decide))
          have hjm : (j : Int) - (m : Int) = ((j - m : Nat) : Int) := by omega
          have HST := Lib.hid (show redN m g (j + 1 - m) x = redN m g (j - m) (if x.testBit j then x ^^^ (g <<< (j - m)) else x) by
            rw [show j + 1 - m = (j - m) + 1 by omega, redN, rstep, show m + (j - m) = j by omega])
          have HZ := Lib.hid hz
          clear hz
          cases hc : x.testBit j with
          | true =>
            rw [hc] at hbt HST
            clear hc
            go_wp2_with fail
            exact ⟨⟨j - 1, z, by go_num, rfl, by omega, by omega, hz2, by rw [show j - 1 + 1 - m = j - m by omega, HZ.out]; rw [← HR.out, HST.out, if_pos rfl], trivial⟩, by simp [intOf]; omega⟩
          | false =>
            rw [hc] at hbt HST
            clear hc
            go_wp2_with fail
            exact ⟨⟨j - 1, x, by go_num, rfl, by omega, by omega, hx, by rw [show j - 1 + 1 - m = j - m by omega]; rw [← HR.out, HST.out, if_neg (by simp)], trivial⟩, by simp [intOf]; omega⟩
        · have hji : ¬ (m : Int) ≤ (j : Int) := by omega
          have HE := Lib.hid (show x = F.mulB a b by have h1 := HR.out; rwa [show j + 1 - m = 0 by omega] at h1)
          go_wp2_with fail
          go_ret
          exact ⟨by rw [← HE.out]; rfl, HB0.out⟩

end Go.Proofs.YtlcglclojlffgaaGreat
namespace Go.Proofs.YtlcglclojlffgaaGreat
open Go.RowKit

/-- a valid binary field -/
structure FdR (F : Fd) : Prop extends FdB F where
  runs : F.Runs
theorem FV.r {p k g : Int} {F : Fd} (h : FV p k g F) : FdR F := ⟨⟨h.ok.bin, h.ok.k3, h.ok.k8, h.ok.fit⟩, h.ok.runs⟩
theorem FV.v {p k g : Int} {F : Fd} (h : FV p k g F) : Value.agg #[.int .i64 p, .int .i64 k, .int .i64 g] = fV F := by rw [h.ok.p, h.ok.k, h.ok.g]
theorem spMulR_any (F : Fd) (h : FdB F) (a b : Nat) (ha : a < F.q) (hb : b < F.q) (w : World) :
    Calls Tryz.prog 117 #[fV F, .int .i64 (a : Int), .int .i64 (b : Int)] w fun e w' => e = .returned (.int .i64 (F.mul a b : Nat)) ∧ Below w.heap.size w w' := by
  rw [show F.mul a b = F.mulB a b by simp [Fd.mul, h.bin]]
  exact spMul_any F h a b ha hb w
theorem spGen_any (F : Fd) (h : FdB F) (w : World) :
    Calls Tryz.prog 125 #[fV F] w fun e w' => e = .returned (.int .i64 2) ∧ Below w.heap.size w w' := by
  have hk3 := h.k3
  clear h
  go_enter Tryz.func125, Tryz.ntmps125
  go_wp2_with fail
  go_ret
  exact ⟨rfl, ba1 _ _⟩
theorem spNeg_any (F : Fd) (h : FdB F) (a : Nat) (w : World) :
    Calls Tryz.prog 100 #[fV F, .int .i64 (a : Int)] w fun e w' => e = .returned (.int .i64 (F.neg a : Nat)) ∧ Below w.heap.size w w' := by
  have hk3 := h.k3
  have HR := Lib.hid (show F.neg a = a by simp [Fd.neg, h.bin])
  clear h
  go_enter Tryz.func100, Tryz.ntmps100
  go_wp2_with fail
  go_ret
  exact ⟨by rw [HR.out]; rfl, ba1 _ _⟩
theorem spAdd_any (F : Fd) (h : FdB F) (a b : Nat) (ha : a < F.q) (hb : b < F.q) (w : World) :
    Calls Tryz.prog 124 #[fV F, .int .i64 (a : Int), .int .i64 (b : Int)] w fun e w' => e = .returned (.int .i64 (F.add a b : Nat)) ∧ Below w.heap.size w w' := by
  have hk3 := h.k3
  have hq := h.q_bd
  obtain ⟨z, hz⟩ : ∃ z, z = a ^^^ b := ⟨_, rfl⟩
  have HR := Lib.hid (show F.add a b = z by simp [Fd.add, h.bin, hz])
  have hx := xor64 a b (Nat.lt_trans (show a < 2 ^ 9 by omega) (by decide)) (Nat.lt_trans (show b < 2 ^ 9 by omega) (by decide))
  rw [← hz] at hx
  clear h hz
  go_enter Tryz.func124, Tryz.ntmps124
  go_wp2_with fail
  go_ret
  exact ⟨by rw [HR.out]; rfl, ba1 _ _⟩
set_option maxRecDepth 100000 in
set_option maxHeartbeats 1000000 in
theorem spPow_any (F : Fd) (h : FdR F) (a n : Nat) (ha : a < F.q) (hn : n < 2 ^ 8) (w : World) :
    Calls Tryz.prog 134 #[fV F, .int .i64 (a : Int), .int .i64 (n : Int)] w fun e w' => e = .returned (.int .i64 (powS F 8 a n 1 : Nat)) ∧ Below w.heap.size w w' := by
  have hq := h.q_bd
  have H := Lib.hid h
  clear h
  obtain ⟨R, hR⟩ : ∃ R, R = powS F 8 a n 1 := ⟨_, rfl⟩
  have HR := Lib.hid hR
  rw [← hR]
  clear hR
  go_enter Tryz.func134, Tryz.ntmps134
  go_wp2_with fail
  have hx := push_at w (.cells #[.int .i64 2, .int .i64 (F.k : Int), .int .i64 (F.g : Int)] 30 (0, 0))
  have HB0 := Lib.hid (ba1 w (.cells #[.int .i64 2, .int .i64 (F.k : Int), .int .i64 (F.g : Int)] 30 (0, 0)))
  obtain ⟨w1, hw1⟩ : ∃ w1, w1 = w.alloc (.cells #[.int .i64 2, .int .i64 (F.k : Int), .int .i64 (F.g : Int)] 30 (0, 0)) := ⟨_, rfl⟩
  rw [← hw1] at hx HB0 ⊢
  have HX1 := Lib.hid hx
  clear hw1 hx
  go_loopw [1, 2, 7] (fun x y o wr => ∃ f a' n' o' : Nat, x = .int .i64 a' ∧ y = .int .i64 n' ∧ o = .int .i64 o' ∧ a' < F.q ∧ o' < F.q ∧ n' < 2 ^ f ∧ f ≤ 8 ∧ powS F f a' n' o' = R ∧ wr.heap[w.heap.size]? = some (.cells #[.int .i64 2, .int .i64 (F.k : Int), .int .i64 (F.g : Int)] 30 (0, 0)) ∧ Below w.heap.size w wr) (fun _ y _ _ => (intOf y).toNat)
  case atStart => exact ⟨8, a, n, 1, rfl, rfl, rfl, ha, by omega, hn, Nat.le_refl _, HR.out.symm, HX1.out, HB0.out⟩
  case round =>
    obtain ⟨f, a', n', o', rfl, rfl, rfl, ha', ho', hn', hf, hp, hx, hb⟩ := hrel
    have HP := Lib.hid hp
    have HX := Lib.hid hx
    have HB := Lib.hid hb
    obtain ⟨hcA, hfA⟩ := heap_cellR HX.out
    have hltA := blkLt HX.out
    have hn'' : n' < 256 := Nat.lt_of_lt_of_le hn' (Nat.pow_le_pow_right (n := 2) (by omega) hf)
    clear hp hx hb
    by_cases h0 : n' = 0
    · subst h0
      have HE := Lib.hid (show o' = R by
        have h1 := HP.out
        cases f with
        | zero => exact h1
        | succ f => rwa [powS, if_pos rfl] at h1)
      go_wp2_with fail
      go_ret
      exact ⟨by rw [← HE.out]; rfl, HB.out⟩
    · obtain ⟨f, rfl⟩ : ∃ f', f = f' + 1 := by
        cases f with
        | zero => exact absurd (show n' = 0 by simpa using hn') h0
        | succ f => exact ⟨f, rfl⟩
      have hn2 : n' / 2 < 2 ^ f := by rw [Nat.pow_succ] at hn'; omega
      have HN2 := Lib.hid hn2
      have HP2 := Lib.hid (show powS F f (F.mul a' a') (n' / 2) (if n' % 2 = 1 then F.mul o' a' else o') = R by
        have h1 := HP.out
        rwa [powS, if_neg h0] at h1)
      have hpos : (0 : Int) < (n' : Int) := by omega
      obtain ⟨n2, hn2e⟩ : ∃ n2, n2 = n' / 2 := ⟨_, rfl⟩
      have hdv : IntKind.i64.wrap ((n' : Int).tdiv 2) = (n2 : Int) := by rw [IntKind.wrap_i64, Int.tdiv_eq_ediv_of_nonneg (by omega)]; omega
      have hn2l : n2 < n' := by omega
      rw [← hn2e] at HN2 HP2
      have HN2E := Lib.hid hn2e
      clear hn2 hn' hn2e
      by_cases h1 : n' % 2 = 1
      · have hm : (n' : Int) % 2 = 1 := by omega
        rw [if_pos h1] at HP2
        go_wp2_with fail
        refine (spMulR_any F H.out.toFdB o' a' ho' ha' _).mono ?_
        rintro e w2 ⟨rfl, hb2⟩
        have HX2 := Lib.hid (blkK hb2 HX.out)
        have HB2 := Lib.hid (bt0 HB.out hb2 (Nat.le_refl _))
        have hoa := Fd.mul_lt H.out.runs H.out.fit ho' ha'
        clear hb2 hcA hfA hltA
        obtain ⟨hcA, hfA⟩ := heap_cellR HX2.out
        have hltA := blkLt HX2.out
        go_wp2_with fail
        clear hcA hfA hltA
        refine (spMulR_any F H.out.toFdB a' a' ha' ha' w2).mono ?_
        rintro e w3 ⟨rfl, hb3⟩
        have HX3 := Lib.hid (blkK hb3 HX2.out)
        have HB3 := Lib.hid (bt0 HB2.out hb3 (Nat.le_refl _))
        obtain ⟨hcA, hfA⟩ := heap_cellR HX3.out
        have hltA := blkLt HX3.out
        have haa := Fd.mul_lt H.out.runs H.out.fit ha' ha'
        clear hb3
        go_wp2_with fail
        exact ⟨⟨f, F.mul a' a', n2, F.mul o' a', rfl, by rw [HN2E.out]; push_cast; rfl, rfl, haa, hoa, HN2.out, by omega, HP2.out, HX3.out, HB3.out⟩, by simp [intOf]; omega⟩
      · have hm : (n' : Int) % 2 = 0 := by omega
        rw [if_neg h1] at HP2
        go_wp2_with fail
        clear hcA hfA hltA
        refine (spMulR_any F H.out.toFdB a' a' ha' ha' wr).mono ?_
        rintro e w3 ⟨rfl, hb3⟩
        have HX3 := Lib.hid (blkK hb3 HX.out)
        have HB3 := Lib.hid (bt0 HB.out hb3 (Nat.le_refl _))
        obtain ⟨hcA, hfA⟩ := heap_cellR HX3.out
        have hltA := blkLt HX3.out
        have haa := Fd.mul_lt H.out.runs H.out.fit ha' ha'
        clear hb3
        go_wp2_with fail
        exact ⟨⟨f, F.mul a' a', n2, o', rfl, by rw [HN2E.out]; push_cast; rfl, rfl, haa, ho', HN2.out, by omega, HP2.out, HX3.out, HB3.out⟩, by simp [intOf]; omega⟩

set_option maxRecDepth 100000 in
theorem spInv_any (F : Fd) (h : FdR F) (a b : Nat) (ha : a < F.q) (hab : F.IsInv a b) (w : World) :
    Calls Tryz.prog 123 #[fV F, .int .i64 (a : Int)] w fun e w' => e = .returned (.int .i64 (b : Int)) ∧ Below w.heap.size w w' := by
  have hq := h.q_bd
  have H := Lib.hid h
  have HR := Lib.hid (Fd.inv_pow h.runs h.fit hab 8 (by omega))
  clear h hab
  go_enter Tryz.func123, Tryz.ntmps123
  go_wp2_with fail
  have hx := push_at w (.cells #[.int .i64 2, .int .i64 (F.k : Int), .int .i64 (F.g : Int)] 30 (0, 0))
  have HB0 := Lib.hid (ba1 w (.cells #[.int .i64 2, .int .i64 (F.k : Int), .int .i64 (F.g : Int)] 30 (0, 0)))
  obtain ⟨w1, hw1⟩ : ∃ w1, w1 = w.alloc (.cells #[.int .i64 2, .int .i64 (F.k : Int), .int .i64 (F.g : Int)] 30 (0, 0)) := ⟨_, rfl⟩
  rw [← hw1] at hx HB0 ⊢
  obtain ⟨hcA, hfA⟩ := heap_cellR hx
  have hltA := blkLt hx
  have hq2 : (F.q : Int) - 2 = ((F.q - 2 : Nat) : Int) := by omega
  clear hw1 hx
  refine wp_region_ext_tail 6 (by kernel_rfl) (by kernel_rfl) ?_
  simp only [List.take_succ_cons, List.take_zero, List.drop_succ_cons, List.drop_zero]
  repeat (go_big_quiet_step ((first
    | (go_at_call 51; go_must (exact calls_ext _ (spSize_any F H.out.toFdB _)))
    | (go_at_call 134; go_must (exact calls_ext _ (spPow_any F H.out a (F.q - 2) ha (by omega) _))))))
  refine wpQuiet_nil ?_
  rintro _ ⟨s', rfl⟩
  have HB2 := Lib.hid (bt0 HB0.out s'.below (Nat.le_refl _))
  rw [HR.out]
  go_wp2_with fail
  go_ret
  exact ⟨rfl, HB2.out⟩

end Go.Proofs.YtlcglclojlffgaaGreat
namespace Go.Proofs.YtlcglclojlffgaaGreat
open Go.RowKit

theorem mulB_two {F : Fd} (h : FdB F) {x : Nat} (hx : x < F.q) : F.mul x 2 = F.T x := by
  have hk := h.k3
  have e : ∀ n, clm x 2 (n + 2) = x <<< 1 := fun n => by
    induction n with
    | zero => simp [clm, Nat.testBit_succ]
    | succ n ih =>
      rw [show n + 1 + 2 = (n + 2) + 1 by omega, clm, ih, if_neg, Nat.xor_zero]
      rw [Nat.testBit_lt_two_pow (Nat.lt_of_lt_of_le (show 2 < 2 ^ 2 by decide) (Nat.pow_le_pow_right (by omega) (by omega)))]
      simp
  obtain ⟨m, hm⟩ : ∃ m, F.k = m + 2 := ⟨F.k - 2, by omega⟩
  have hlt : x <<< 1 < 2 ^ (F.k + 1) := by rw [Nat.shiftLeft_eq, Nat.pow_succ]; have := h.q; omega
  rw [Fd.mul, if_pos h.bin, Fd.mulB, T_bin F h.bin]
  have e2 : clm x 2 F.k = x <<< 1 := by
    have := e m
    rwa [← hm] at this
  rw [e2, show F.k + 1 = 1 + F.k by omega, redN_low' _ _ 1 _ hlt]
  rfl
theorem pw_one {F : Fd} (h : FdB F) : F.pw 1 = 2 := by
  have hk := h.k3
  show F.T 1 = 2
  rw [T_bin F h.bin, rstep, if_neg]
  · rfl
  · rw [Nat.testBit_lt_two_pow (Nat.lt_of_lt_of_le (show 1 <<< 1 < 2 ^ 3 by decide) (Nat.pow_le_pow_right (by omega) hk))]
    simp
theorem runs_end {F : Fd} (h : FdB F) {n : Nat} (h1 : 1 ≤ n) (hn : n ≤ F.q) (hall : ∀ i, i < n → F.pw i ≠ 0 ∧ (0 < i → F.pw i ≠ 1)) (hx : F.pw n = 1 ∨ F.pw n = 0 ∨ n = F.q) :
    decide F.Runs = (decide (F.pw n = 1) && decide (n = F.q - 1)) := by
  have hq := h.q_bd
  by_cases hr : F.Runs
  · rw [decide_eq_true hr]
    obtain ⟨r1, r2⟩ := hr
    have hnq : n ≠ F.q := fun e => (hall (F.q - 1) (by omega)).2 (by omega) r2
    have hn2 : n = F.q - 1 := by
      apply Classical.byContradiction
      intro hne
      have := r1 n (by omega)
      rcases hx with h2 | h2 | h2
      · exact this.2 (by omega) h2
      · exact this.1 h2
      · exact hnq h2
    rw [hn2, r2]; simp
  · rw [decide_eq_false hr]
    symm
    rw [Bool.and_eq_false_iff]
    by_cases hp : F.pw n = 1
    · right
      rw [decide_eq_false]
      rintro rfl
      exact hr ⟨hall, hp⟩
    · left; rw [decide_eq_false hp]
set_option maxRecDepth 100000 in
set_option maxHeartbeats 2000000 in
theorem spRuns_any (F : Fd) (h : FdB F) (w : World) :
    Calls Tryz.prog 90 #[fV F, .int .i64 2] w fun e w' => e = .returned (.bool (decide F.Runs)) ∧ Below w.heap.size w w' := by
  have hq := h.q_bd
  have H := Lib.hid h
  clear h
  obtain ⟨R, hR⟩ : ∃ R, R = decide F.Runs := ⟨_, rfl⟩
  have HR := Lib.hid hR
  rw [← hR]
  clear hR
  go_enter Tryz.func90, Tryz.ntmps90
  go_wp2_with fail
  have hx := push_at w (.cells #[.int .i64 2, .int .i64 (F.k : Int), .int .i64 (F.g : Int)] 30 (0, 0))
  have HB0 := Lib.hid (ba1 w (.cells #[.int .i64 2, .int .i64 (F.k : Int), .int .i64 (F.g : Int)] 30 (0, 0)))
  obtain ⟨w1, hw1⟩ : ∃ w1, w1 = w.alloc (.cells #[.int .i64 2, .int .i64 (F.k : Int), .int .i64 (F.g : Int)] 30 (0, 0)) := ⟨_, rfl⟩
  rw [← hw1] at hx HB0 ⊢
  have HX1 := Lib.hid hx
  clear hw1 hx
  go_loopw [5, 6] (fun x m wr => ∃ n : Nat, 1 ≤ n ∧ n ≤ F.q ∧ m = .int .i64 n ∧ x = .int .i64 (F.pw n : Nat) ∧ (∀ i, i < n → F.pw i ≠ 0 ∧ (0 < i → F.pw i ≠ 1)) ∧ wr.heap[w.heap.size]? = some (.cells #[.int .i64 2, .int .i64 (F.k : Int), .int .i64 (F.g : Int)] 30 (0, 0)) ∧ Below w.heap.size w wr) (fun _ m _ => F.q - (intOf m).toNat)
  case atStart => exact ⟨1, Nat.le_refl _, by omega, rfl, by rw [pw_one H.out]; rfl, fun i hi => by
      obtain rfl : i = 0 := by omega
      exact ⟨by simp [Fd.pw], fun h => absurd h (by omega)⟩, HX1.out, HB0.out⟩
  case round =>
    obtain ⟨n, hn1, hn2, rfl, rfl, hall, hx, hb⟩ := hrel
    have HALL := Lib.hid hall
    have HX := Lib.hid hx
    have HB := Lib.hid hb
    obtain ⟨hcA, hfA⟩ := heap_cellR HX.out
    have hltA := blkLt HX.out
    obtain ⟨x, hxe⟩ : ∃ x, x = F.pw n := ⟨_, rfl⟩
    have HXE := Lib.hid hxe
    have hxq : x < F.q := by rw [hxe]; exact Fd.pw_lt H.out.fit n
    rw [← hxe]
    clear hx hb hall hxe
    by_cases hx1 : x = 1
    · subst hx1
      have HE := Lib.hid (show R = decide (n = F.q - 1) by
        rw [HR.out, runs_end H.out hn1 hn2 HALL.out (.inl HXE.out.symm), ← HXE.out]; simp)
      go_wp2_with fail
      refine (spSize_any F H.out wr).mono ?_
      rintro e w2 ⟨rfl, hb2⟩
      have HB2 := Lib.hid (bt0 HB.out hb2 (Nat.le_refl _))
      clear hb2
      go_wp2_with fail
      go_ret
      exact ⟨by rw [HE.out]; exact ret_bool (by rw [Bool.eq_iff_iff, beq_iff_eq, decide_eq_true_eq]; omega), HB2.out⟩
    · have hx1b : ((x : Int) != 1) = true := by rw [bne_iff_ne]; omega
      have hx1c : ((x : Int) == 1) = false := by rw [beq_eq_false_iff_ne]; omega
      by_cases hx0 : x = 0
      · have HE := Lib.hid (show R = false by
          rw [HR.out, runs_end H.out hn1 hn2 HALL.out (.inr (.inl (by rw [← HXE.out, hx0]))), ← HXE.out, decide_eq_false hx1]; rfl)
        have hx0b : ((x : Int) != 0) = false := by rw [bne_eq_false_iff_eq]; omega
        go_wp2_with fail
        go_ret
        exact ⟨by rw [HE.out]; rfl, HB.out⟩
      · have hx0b : ((x : Int) != 0) = true := by rw [bne_iff_ne]; omega
        go_wp2_with fail
        refine (spSize_any F H.out wr).mono ?_
        rintro e w2 ⟨rfl, hb2⟩
        have HX2 := Lib.hid (blkK hb2 HX.out)
        have HB2 := Lib.hid (bt0 HB.out hb2 (Nat.le_refl _))
        clear hb2 hcA hfA hltA
        by_cases hnq : n = F.q
        · have HE := Lib.hid (show R = false by
            rw [HR.out, runs_end H.out hn1 hn2 HALL.out (.inr (.inr hnq)), ← HXE.out, decide_eq_false hx1]; rfl)
          have hni : ¬ (n : Int) < (F.q : Int) := by omega
          go_wp2_with fail
          go_ret
          exact ⟨by rw [HE.out]; rfl, HB2.out⟩
        · have hni : (n : Int) < (F.q : Int) := by omega
          obtain ⟨hcA, hfA⟩ := heap_cellR HX2.out
          have hltA := blkLt HX2.out
          go_wp2_with fail
          refine (spMulR_any F H.out x 2 hxq (by omega) w2).mono ?_
          rintro e w3 ⟨rfl, hb3⟩
          have HX3 := Lib.hid (blkK hb3 HX2.out)
          have HB3 := Lib.hid (bt0 HB2.out hb3 (Nat.le_refl _))
          have HM := Lib.hid (show F.mul x 2 = F.pw (n + 1) by rw [mulB_two H.out hxq, HXE.out]; rfl)
          clear hb3
          go_wp2_with fail
          refine ⟨⟨n + 1, by omega, by omega, by push_cast; rfl, by rw [HM.out], fun i hi => ?_, HX3.out, HB3.out⟩, by simp [intOf]; omega⟩
          rcases Nat.lt_or_eq_of_le (show i ≤ n by omega) with h1 | rfl
          · exact HALL.out i h1
          · rw [← HXE.out]; exact ⟨hx0, fun _ => hx1⟩

end Go.Proofs.YtlcglclojlffgaaGreat
namespace Go.Proofs.YtlcglclojlffgaaGreat
open Go.RowKit

/-- a field of power 1, in two numbers -/
abbrev gV (p g : Int) : Value := .agg #[.int .i64 p, .int .i64 1, .int .i64 g]
theorem spIn_any (n lo hi : Int) (w : World) :
    Calls Tryz.prog 23 #[.int .i64 n, .int .i64 lo, .int .i64 hi] w fun e w' => e = .returned (.bool (inB n lo hi)) ∧ w = w' := by
  rw [inB]
  by_cases h1 : lo ≤ n
  · by_cases h2 : n ≤ hi
    · rw [decide_eq_true ⟨h1, h2⟩]
      go_enter Tryz.func23, Tryz.ntmps23
      go_wp2_with fail
      go_ret
      exact ⟨rfl, rfl⟩
    · rw [decide_eq_false (fun h => h2 h.2)]
      go_enter Tryz.func23, Tryz.ntmps23
      go_wp2_with fail
      go_ret
      exact ⟨rfl, rfl⟩
  · rw [decide_eq_false (fun h => h1 h.1)]
    go_enter Tryz.func23, Tryz.ntmps23
    go_wp2_with fail
    go_ret
    exact ⟨rfl, rfl⟩
theorem spSize1_any (p g : Int) (w : World) :
    Calls Tryz.prog 51 #[gV p g] w fun e w' => e = .returned (.int .i64 p) ∧ Below w.heap.size w w' := by
  go_enter Tryz.func51, Tryz.ntmps51
  go_wp2_with fail
  go_ret
  exact ⟨rfl, ba1 _ _⟩
theorem spMul1_any (p g x y : Int) (hp : 2 ≤ p) (hp2 : p ≤ 1021) (hx : 0 ≤ x ∧ x ≤ 1021) (hy : 0 ≤ y ∧ y ≤ 1021) (w : World) :
    Calls Tryz.prog 117 #[gV p g, .int .i64 x, .int .i64 y] w fun e w' => (∃ z : Int, 0 ≤ z ∧ z < p ∧ e = .returned (.int .i64 z)) ∧ Below w.heap.size w w' := by
  have h1 : 0 ≤ x * y := Int.mul_nonneg hx.1 hy.1
  have h2 : x * y ≤ 1021 * 1021 := Int.mul_le_mul hx.2 hy.2 hy.1 (by omega)
  obtain ⟨m, hm⟩ : ∃ m, m = x * y := ⟨_, rfl⟩
  rw [← hm] at h1 h2
  have hw : IntKind.i64.wrap (x * y) = m := by rw [← hm, IntKind.wrap_i64]; omega
  have hw2 : wrap64 (x * y) = m := by rw [← hm]; unfold wrap64; omega
  have hr1 : 0 ≤ m % p := Int.emod_nonneg _ (by omega)
  have hr2 : m % p < p := Int.emod_lt_of_pos _ (by omega)
  clear hm
  go_enter Tryz.func117, Tryz.ntmps117
  go_wp2_with fail
  go_ret
  exact ⟨⟨m % p, hr1, hr2, rfl⟩, ba1 _ _⟩
set_option maxRecDepth 100000 in
set_option maxHeartbeats 1000000 in
theorem spPrime_any (n : Int) (h1 : 3 ≤ n) (h2 : n ≤ 1021) (w : World) :
    Calls Tryz.prog 89 #[.int .i64 n] w fun e w' => (∃ b, e = .returned (.bool b)) ∧ w = w' := by
  go_enter Tryz.func89, Tryz.ntmps89
  go_wp2_with fail
  go_loopw [3] (fun i wr => ∃ d : Nat, 2 ≤ d ∧ d ≤ 40 ∧ i = .int .i64 d ∧ wr = w) (fun i _ => 41 - (intOf i).toNat)
  case atStart => exact ⟨2, by omega, by omega, rfl, rfl⟩
  case round =>
    obtain ⟨d, hd1, hd2, rfl, rfl⟩ := hrel
    have hm : (d : Int) * (d : Int) = ((d * d : Nat) : Int) := by push_cast; rfl
    obtain ⟨q, hq⟩ : ∃ q, q = d * d := ⟨_, rfl⟩
    rw [← hq] at hm
    have hqb : q ≤ 1600 := by rw [hq]; exact Nat.mul_le_mul hd2 hd2
    have hd33 : (q : Int) ≤ n → d < 40 := fun h => by
      apply Classical.byContradiction
      intro hc
      have : d = 40 := by omega
      subst this
      omega
    clear hq
    by_cases hle : (q : Int) ≤ n
    · have hd := hd33 hle
      obtain ⟨r, hr⟩ : ∃ r, r = n % (d : Int) := ⟨_, rfl⟩
      by_cases hz : r = 0
      · have hz2 : n % (d : Int) = 0 := by rw [← hr, hz]
        clear hr hz
        go_wp2_with fail
        go_ret
        exact ⟨⟨_, rfl⟩, rfl⟩
      · have hz2 : ¬ n % (d : Int) = 0 := by rw [← hr]; exact hz
        clear hr hz
        go_wp2_with fail
        exact ⟨⟨d + 1, by omega, by omega, by push_cast; rfl, trivial⟩, by simp [intOf]; omega⟩
    · have h22 : 2 ≤ n := by omega
      go_wp2_with fail
      go_ret
      exact ⟨.inr rfl, rfl⟩

set_option maxRecDepth 100000 in
set_option maxHeartbeats 2000000 in
theorem spRuns1_any (p g x : Int) (hp : 3 ≤ p) (hp2 : p ≤ 1021) (hx : 0 ≤ x ∧ x ≤ 1021) (w : World) :
    Calls Tryz.prog 90 #[gV p g, .int .i64 x] w fun e w' => (∃ b, e = .returned (.bool b)) ∧ Below w.heap.size w w' := by
  go_enter Tryz.func90, Tryz.ntmps90
  go_wp2_with fail
  have hz := push_at w (.cells #[.int .i64 p, .int .i64 1, .int .i64 g] 30 (0, 0))
  have HB0 := Lib.hid (ba1 w (.cells #[.int .i64 p, .int .i64 1, .int .i64 g] 30 (0, 0)))
  obtain ⟨w1, hw1⟩ : ∃ w1, w1 = w.alloc (.cells #[.int .i64 p, .int .i64 1, .int .i64 g] 30 (0, 0)) := ⟨_, rfl⟩
  rw [← hw1] at hz HB0 ⊢
  have HX1 := Lib.hid hz
  clear hw1 hz
  go_loopw [5, 6] (fun y m wr => ∃ (n : Nat) (z : Int), 1 ≤ n ∧ n ≤ 1022 ∧ m = .int .i64 n ∧ y = .int .i64 z ∧ (0 ≤ z ∧ z ≤ 1021) ∧ wr.heap[w.heap.size]? = some (.cells #[.int .i64 p, .int .i64 1, .int .i64 g] 30 (0, 0)) ∧ Below w.heap.size w wr) (fun _ m _ => 1023 - (intOf m).toNat)
  case atStart => exact ⟨1, x, Nat.le_refl _, by omega, rfl, rfl, hx, HX1.out, HB0.out⟩
  case round =>
    obtain ⟨n, z, hn1, hn2, rfl, rfl, hzb, hx', hb⟩ := hrel
    have HX := Lib.hid hx'
    have HB := Lib.hid hb
    obtain ⟨hcA, hfA⟩ := heap_cellR HX.out
    have hltA := blkLt HX.out
    clear hx' hb
    by_cases hz1 : z = 1
    · subst hz1
      go_wp2_with fail
      refine (spSize1_any p g wr).mono ?_
      rintro e w2 ⟨rfl, hb2⟩
      have HB2 := Lib.hid (bt0 HB.out hb2 (Nat.le_refl _))
      clear hb2
      go_wp2_with fail
      go_ret
      exact ⟨⟨_, rfl⟩, HB2.out⟩
    · have hx1b : (z != 1) = true := by rw [bne_iff_ne]; exact hz1
      have hx1c : (z == 1) = false := by rw [beq_eq_false_iff_ne]; exact hz1
      by_cases hz0 : z = 0
      · subst hz0
        clear hx1b hx1c
        go_wp2_with fail
        go_ret
        exact ⟨⟨_, rfl⟩, HB.out⟩
      · have hx0b : (z != 0) = true := by rw [bne_iff_ne]; exact hz0
        go_wp2_with fail
        refine (spSize1_any p g wr).mono ?_
        rintro e w2 ⟨rfl, hb2⟩
        have HX2 := Lib.hid (blkK hb2 HX.out)
        have HB2 := Lib.hid (bt0 HB.out hb2 (Nat.le_refl _))
        clear hb2 hcA hfA hltA
        by_cases hni : (n : Int) < p
        · obtain ⟨hcA, hfA⟩ := heap_cellR HX2.out
          have hltA := blkLt HX2.out
          go_wp2_with fail
          refine (spMul1_any p g z x (by omega) hp2 hzb hx w2).mono ?_
          rintro e w3 ⟨⟨z2, hz21, hz22, rfl⟩, hb3⟩
          have HX3 := Lib.hid (blkK hb3 HX2.out)
          have HB3 := Lib.hid (bt0 HB2.out hb3 (Nat.le_refl _))
          clear hb3
          go_wp2_with fail
          exact ⟨⟨n + 1, z2, by omega, by omega, by push_cast; rfl, rfl, ⟨hz21, by omega⟩, HX3.out, HB3.out⟩, by simp [intOf]; omega⟩
        · go_wp2_with fail
          go_ret
          exact ⟨⟨_, rfl⟩, HB2.out⟩

end Go.Proofs.YtlcglclojlffgaaGreat
namespace Go.Proofs.YtlcglclojlffgaaGreat
open Go.RowKit

/-- the reference says whether a field is valid: exactly so for a field whose power is not 1 -/
def RetFld (p k g : Int) (w : World) (e : Ending) (w' : World) : Prop := ∃ b, e = .returned (.bool b) ∧ (k ≠ 1 → b = fldB p k g) ∧ (k = 1 → b = true → 3 ≤ p) ∧ Below w.heap.size w w'
theorem retFld_no {p k g : Int} {w w' : World} (hb : Below w.heap.size w w') (h : fldB p k g = false) : RetFld p k g w (.returned (.bool false)) w' := ⟨false, rfl, fun _ => h.symm, fun _ e => (by cases e), hb⟩
theorem retFld_1 {p g : Int} {w w' : World} {b : Bool} (hb : Below w.heap.size w w') (h : 3 ≤ p) : RetFld p 1 g w (.returned (.bool b)) w' := ⟨b, rfl, fun e => absurd rfl e, fun _ _ => h, hb⟩
theorem fldB_1 (p g : Int) : fldB p 1 g = false := by simp [fldB]
set_option maxRecDepth 100000 in
set_option maxHeartbeats 2000000 in
theorem spField1_any (p g : Int) (w : World) :
    Calls Tryz.prog 54 #[gV p g] w (RetFld p 1 g w) := by
  have HN := Lib.hid (fldB_1 p g)
  go_enter Tryz.func54, Tryz.ntmps54
  go_wp2_with fail
  have hz := push_at w (.cells #[.int .i64 p, .int .i64 1, .int .i64 g] 30 (0, 0))
  have HB0 := Lib.hid (ba1 w (.cells #[.int .i64 p, .int .i64 1, .int .i64 g] 30 (0, 0)))
  obtain ⟨w1, hw1⟩ : ∃ w1, w1 = w.alloc (.cells #[.int .i64 p, .int .i64 1, .int .i64 g] 30 (0, 0)) := ⟨_, rfl⟩
  rw [← hw1] at hz HB0 ⊢
  have HX1 := Lib.hid hz
  obtain ⟨hcA, hfA⟩ := heap_cellR hz
  have hltA := blkLt hz
  clear hw1 hz
  refine (spIn_any p 3 1021 w1).mono ?_
  rintro e w2 ⟨rfl, rfl⟩
  by_cases h1 : 3 ≤ p ∧ p ≤ 1021
  · rw [inB, decide_eq_true h1]
    go_wp2_with fail
    refine (spPrime_any p h1.1 h1.2 w1).mono ?_
    rintro e w2 ⟨⟨b1, rfl⟩, rfl⟩
    cases b1 with
    | false =>
      go_wp2_with fail
      go_ret
      exact retFld_no HB0.out HN.out
    | true =>
      have hw : wrap64 (p - 1) = p - 1 := by unfold wrap64; omega
      go_wp2_with fail
      refine (spIn_any g 1 (p - 1) w1).mono ?_
      rintro e w2 ⟨rfl, rfl⟩
      by_cases h2 : 1 ≤ g ∧ g ≤ p - 1
      · rw [inB, decide_eq_true h2]
        obtain ⟨h21, h22⟩ := h2
        obtain ⟨h11, h12⟩ := h1
        clear hw
        go_wp2_with fail
        clear hcA hfA hltA
        go_loopw [3] (fun i wr => ∃ d : Int, 1 ≤ d ∧ d ≤ g ∧ i = .int .i64 d ∧ wr.heap[w.heap.size]? = some (.cells #[.int .i64 p, .int .i64 1, .int .i64 g] 30 (0, 0)) ∧ Below w.heap.size w wr) (fun i _ => (g - intOf i).toNat)
        case atStart => exact ⟨1, Int.le_refl _, h21, rfl, HX1.out, HB0.out⟩
        case round =>
          obtain ⟨d, hd1, hd2, rfl, hx', hb⟩ := hrel
          have HX := Lib.hid hx'
          have HB := Lib.hid hb
          obtain ⟨hcA, hfA⟩ := heap_cellR HX.out
          have hltA := blkLt HX.out
          clear hx' hb
          by_cases hdg : d < g
          · go_wp2_with fail
            refine (spRuns1_any p g d h11 h12 (by omega) wr).mono ?_
            rintro e w2 ⟨⟨b2, rfl⟩, hb2⟩
            have HX2 := Lib.hid (blkK hb2 HX.out)
            have HB2 := Lib.hid (bt0 HB.out hb2 (Nat.le_refl _))
            clear hb2 hcA hfA hltA
            cases b2 with
            | true =>
              go_wp2_with fail
              go_ret
              exact retFld_no HB2.out HN.out
            | false =>
              go_wp2_with fail
              exact ⟨⟨d + 1, by omega, by omega, rfl, HX2.out, HB2.out⟩, by simp [intOf]; omega⟩
          · go_wp2_with fail
            refine (spRuns1_any p g g h11 h12 (by omega) wr).mono ?_
            rintro e w2 ⟨⟨b2, rfl⟩, hb2⟩
            have HB2 := Lib.hid (bt0 HB.out hb2 (Nat.le_refl _))
            clear hb2
            go_wp2_with fail
            go_ret
            exact retFld_1 HB2.out h11
      · rw [inB, decide_eq_false h2]
        clear hw
        go_wp2_with fail
        go_ret
        exact retFld_no HB0.out HN.out
  · rw [inB, decide_eq_false h1]
    go_wp2_with fail
    go_ret
    exact retFld_no HB0.out HN.out

/-- the field that the numbers say, when they lie as they should -/
theorem fdB_of {k g : Int} (hk : 3 ≤ k ∧ k ≤ 8) (hg : ((2 ^ k.toNat : Nat) : Int) ≤ g ∧ g ≤ ((2 * 2 ^ k.toNat : Nat) : Int) - 1) : FdB (bF k.toNat g.toNat) := by
  have h8 : 2 ^ 3 ≤ 2 ^ k.toNat := Nat.pow_le_pow_right (by omega) (by omega)
  refine ⟨rfl, ?_, ?_, ⟨?_, ?_, ?_⟩⟩
  · show 3 ≤ k.toNat; omega
  · show k.toNat ≤ 8; omega
  · show 3 ≤ 2 ^ k.toNat; omega
  · intro _
    refine ⟨rfl, ?_, ?_⟩
    · show 2 ^ k.toNat ≤ g.toNat; omega
    · show g.toNat < 2 ^ (k.toNat + 1); rw [Nat.pow_succ]; omega
  · intro h; cases h
theorem pow_small2 {k : Nat} (h : k ≤ 8) : wrap64 (2 * 2 ^ k) = 2 * ((2 ^ k : Nat) : Int) := by
  have h1 : 2 ^ k ≤ 2 ^ 8 := Nat.pow_le_pow_right (n := 2) (by omega) h
  have e : (2 ^ k : Int) = ((2 ^ k : Nat) : Int) := by push_cast; rfl
  rw [e]
  generalize 2 ^ k = q at *
  unfold wrap64; omega
set_option maxRecDepth 100000 in
set_option maxHeartbeats 2000000 in
theorem spField2_any (p k g : Int) (hk1 : k ≠ 1) (w : World) :
    Calls Tryz.prog 54 #[.agg #[.int .i64 p, .int .i64 k, .int .i64 g]] w (RetFld p k g w) := by
  by_cases hp : p = 2
  · subst hp
    by_cases hk : 3 ≤ k ∧ k ≤ 8
    · obtain ⟨n, rfl⟩ : ∃ n : Nat, k = n := ⟨k.toNat, by omega⟩
      have hn8 : n ≤ 8 := by omega
      have hw1 := pow_small hn8
      have hw2 := pow_small2 hn8
      obtain ⟨q, hq⟩ : ∃ q, q = 2 ^ n := ⟨_, rfl⟩
      have HQ := Lib.hid hq
      have hq8 : q ≤ 256 := by rw [hq]; exact Nat.le_trans (Nat.pow_le_pow_right (n := 2) (by omega) hn8) (by decide)
      rw [← hq] at hw1 hw2
      clear hq
      have hw3 : wrap64 (2 * (q : Int) - 1) = 2 * (q : Int) - 1 := by unfold wrap64; omega
      go_enter Tryz.func54, Tryz.ntmps54
      go_wp2_with fail
      have hz := push_at w (.cells #[.int .i64 2, .int .i64 (n : Int), .int .i64 g] 30 (0, 0))
      have HB0 := Lib.hid (ba1 w (.cells #[.int .i64 2, .int .i64 (n : Int), .int .i64 g] 30 (0, 0)))
      obtain ⟨w1, hw1'⟩ : ∃ w1, w1 = w.alloc (.cells #[.int .i64 2, .int .i64 (n : Int), .int .i64 g] 30 (0, 0)) := ⟨_, rfl⟩
      rw [← hw1'] at hz HB0 ⊢
      obtain ⟨hcA, hfA⟩ := heap_cellR hz
      have hltA := blkLt hz
      clear hw1' hz
      refine (spIn_any n 3 8 w1).mono ?_
      rintro e w2 ⟨rfl, rfl⟩
      rw [inB, decide_eq_true hk]
      go_wp2_with fail
      refine (spIn_any g q (2 * q - 1) w1).mono ?_
      rintro e w2 ⟨rfl, rfl⟩
      by_cases hg : (q : Int) ≤ g ∧ g ≤ 2 * q - 1
      · rw [inB, decide_eq_true hg]
        have hfd : FdB (bF n g.toNat) := by
          have h1 := fdB_of (k := (n : Int)) (g := g) hk (by
            have h2 := HQ.out
            rw [show ((n : Int)).toNat = n from rfl]
            generalize 2 ^ n = z at *
            omega)
          exact h1
        have HFD := Lib.hid hfd
        have HRS := Lib.hid (show fldB 2 n g = decide (bF n g.toNat).Runs by
          have h2 := HQ.out
          unfold fldB
          rw [show ((n : Int)).toNat = n from rfl, ← h2, decide_eq_true hk.1, decide_eq_true hk.2, decide_eq_true hg.1, decide_eq_true (show g < ((2 * q : Nat) : Int) by omega)]
          rfl)
        have hgn : ((g.toNat : Nat) : Int) = g := by omega
        have hcall := spRuns_any (bF n g.toNat) hfd w1
        rw [fV, show (bF n g.toNat).k = n from rfl, show (bF n g.toNat).g = g.toNat from rfl, hgn] at hcall
        have HC := Lib.hid hcall
        clear hcall hfd hgn hw1 hw2 hw3
        go_wp2_with fail
        refine HC.out.mono ?_
        rintro e w2 ⟨rfl, hb2⟩
        have HB2 := Lib.hid (bt0 HB0.out hb2 (Nat.le_refl _))
        clear hb2
        obtain ⟨R, hR⟩ : ∃ R, R = decide (bF n g.toNat).Runs := ⟨_, rfl⟩
        rw [← hR] at HRS ⊢
        clear hR
        go_wp2_with fail
        go_ret
        exact ⟨R, rfl, fun _ => HRS.out.symm, fun e => absurd e hk1, HB2.out⟩
      · rw [inB, decide_eq_false hg]
        have HN := Lib.hid (show fldB 2 n g = false by
          have h2 := HQ.out
          cases hb : fldB 2 n g with
          | false => rfl
          | true =>
            simp only [fldB, Bool.and_eq_true, decide_eq_true_eq] at hb
            rw [show ((n : Int)).toNat = n from rfl, ← h2] at hb
            exact absurd ⟨hb.1.1.2, by have := hb.1.2; omega⟩ hg)
        clear hw1 hw2 hw3
        go_wp2_with fail
        go_ret
        exact retFld_no HB0.out HN.out
    · have HN := Lib.hid (show fldB 2 k g = false by
        cases hb : fldB 2 k g with
        | false => rfl
        | true =>
          simp only [fldB, Bool.and_eq_true, decide_eq_true_eq] at hb
          exact absurd ⟨hb.1.1.1.1.2, hb.1.1.1.2⟩ hk)
      have hk1b : (k == 1) = false := by rw [beq_eq_false_iff_ne]; exact hk1
      go_enter Tryz.func54, Tryz.ntmps54
      go_wp2_with fail
      refine (spIn_any k 3 8 _).mono ?_
      rintro e w2 ⟨rfl, rfl⟩
      rw [inB, decide_eq_false hk]
      go_wp2_with fail
      go_ret
      exact retFld_no (ba1 _ _) HN.out
  · have HN := Lib.hid (show fldB p k g = false by simp [fldB, hp])
    have hk1b : (k == 1) = false := by rw [beq_eq_false_iff_ne]; exact hk1
    have hpb : (p != 2) = true := by rw [bne_iff_ne]; exact hp
    go_enter Tryz.func54, Tryz.ntmps54
    go_wp2_with fail
    go_ret
    exact retFld_no (ba1 _ _) HN.out

theorem spField_any (p k g : Int) (w : World) :
    Calls Tryz.prog 54 #[.agg #[.int .i64 p, .int .i64 k, .int .i64 g]] w (RetFld p k g w) := by
  by_cases h : k = 1
  · subst h; exact spField1_any p g w
  · exact spField2_any p k g h w
/-- the reference says yes to a valid binary field -/
theorem spField_yes {p k g : Int} (h : fldB p k g = true) (w : World) :
    Calls Tryz.prog 54 #[.agg #[.int .i64 p, .int .i64 k, .int .i64 g]] w fun e w' => e = .returned (.bool true) ∧ Below w.heap.size w w' := by
  refine (spField_any p k g w).mono ?_
  rintro e w' ⟨b, rfl, h1, -, hb⟩
  have hk : k ≠ 1 := fun e => by rw [e, fldB_1] at h; cases h
  rw [h1 hk, h]
  exact ⟨rfl, hb⟩

end Go.Proofs.YtlcglclojlffgaaGreat
namespace Go.Proofs.YtlcglclojlffgaaGreat
open Go.RowKit

theorem name_no {s : ByteArray} {k : Nat} {h : k < s.size} (hx : s[k].toNat < 97 ∨ 122 < s[k].toNat) : nameB s.data.toList = false := by
  have h1 : (s.data.toList.all fun c => decide (97 ≤ c.toNat) && decide (c.toNat ≤ 122)) = false := by
    rw [List.all_eq_false]
    refine ⟨s[k], ?_, by simp; omega⟩
    exact List.getElem_mem (l := s.data.toList) (by simpa using h)
  rw [nameB, h1]; rfl
theorem name_yes {s : ByteArray} (h : ∀ i (hi : i < s.size), 97 ≤ s[i].toNat ∧ s[i].toNat ≤ 122) : nameB s.data.toList = inB (s.size : Int) 1 8 := by
  have h1 : (s.data.toList.all fun c => decide (97 ≤ c.toNat) && decide (c.toNat ≤ 122)) = true := by
    rw [List.all_eq_true]
    intro x hx
    obtain ⟨i, hi, rfl⟩ := List.mem_iff_getElem.1 hx
    have := h i (by simpa using hi)
    rw [Bool.and_eq_true, decide_eq_true_eq, decide_eq_true_eq]
    exact this
  have hl : s.data.toList.length = s.size := rfl
  rw [nameB, h1, hl, Bool.eq_iff_iff]
  simp [inB]; omega
theorem ris_no {lo hi : Int} {l : List Int} {k : Nat} (hk : k < l.length) (h : (l.getD k 0 < lo ∨ hi < l.getD k 0) ∨ (0 < k ∧ l.getD k 0 ≤ l.getD (k - 1) 0)) : risB lo hi l = false := by
  rw [risB, decide_eq_false_iff_not]
  intro h2
  have := h2 k hk
  omega
theorem getD_of {l : List Int} {k : Nat} {x : Int} (h : l[k]? = some x) : l.getD k 0 = x := by rw [List.getD_eq_getElem?_getD, h]; rfl
set_option maxHeartbeats 1000000 in
theorem isName_any (s : ByteArray) (w : World) (hs : s.size ≤ 1048576) :
    Calls Tryz.prog 63 #[.string s] w fun e w' => e = .returned (.bool (nameB s.data.toList)) ∧ w = w' := by
  have hl : s.data.toList.length = s.size := rfl
  have HL := Lib.hid hl
  clear hl
  go_enter Tryz.func63, Tryz.ntmps63
  go_wp2_with fail
  go_loop [3] (fun i => ∃ k : Nat, k ≤ s.size ∧ i = .int .i64 k ∧ ∀ i (hi : i < s.size), i < k → 97 ≤ s[i].toNat ∧ s[i].toNat ≤ 122) (fun i => s.size - (intOf i).toNat)
  case atStart => exact ⟨0, Nat.zero_le _, rfl, fun i _ h => by omega⟩
  case round =>
    obtain ⟨k, hk, rfl, hall⟩ := hrel
    have HA := Lib.hid hall
    clear hall
    by_cases hlt : k < s.size
    · have hki : (k : Int) < (s.size : Int) := by omega
      by_cases h1 : s[k].toNat < 97
      · have HR := Lib.hid (name_no (h := hlt) (Or.inl h1))
        have hd : decide (((s[k].toNat : Nat) : Int) < 97) = true := by simp; omega
        go_wp2_with fail
        go_ret
        exact ⟨ret_bool HR.out.symm, rfl⟩
      · have hd : decide (((s[k].toNat : Nat) : Int) < 97) = false := by simp; omega
        by_cases h2 : 122 < s[k].toNat
        · have HR := Lib.hid (name_no (h := hlt) (Or.inr h2))
          have hd2 : decide ((122 : Int) < ((s[k].toNat : Nat) : Int)) = true := by simp; omega
          clear h1 h2
          go_wp2_with fail
          go_ret
          exact ⟨ret_bool HR.out.symm, rfl⟩
        · have hd2 : decide ((122 : Int) < ((s[k].toNat : Nat) : Int)) = false := by simp; omega
          have HK : Hid (97 ≤ s[k].toNat ∧ s[k].toNat ≤ 122) := Lib.hid (by omega)
          clear h1 h2
          go_wp2_with fail
          refine ⟨⟨k + 1, by omega, by go_num, fun i hi hik => ?_⟩, by simp [intOf]; omega⟩
          by_cases e : i = k
          · subst e; exact HK.out
          · exact HA.out i hi (by omega)
    · have hki : ¬ (k : Int) < (s.size : Int) := by omega
      have HR := Lib.hid (name_yes (s := s) (fun i hi => HA.out i hi (by omega)))
      go_wp2_with fail
      refine (inRange_any _ _ _ _).mono ?_
      rintro e w' ⟨rfl, rfl⟩
      go_wp2_with fail
      go_ret
      exact ⟨ret_bool HR.out.symm, rfl⟩
set_option maxHeartbeats 1000000 in
theorem rises_any (lo hi : Int) (a : Option Addr) (xs : List Int) (c : Nat) (w : World) (hx : IntsAt w a xs) (lx : xs.length ≤ 1099511627776) :
    Calls Tryz.prog 64 #[.slice a xs.length c, .int .i64 lo, .int .i64 hi] w fun e w' => e = .returned (.bool (risB lo hi xs)) ∧ w = w' := by
  have HX := Lib.hid hx
  clear hx
  go_enter Tryz.func64, Tryz.ntmps64
  go_wp2_with fail
  go_loop [7, 8, 11] (fun _ _ i => ∃ k : Nat, k ≤ xs.length ∧ i = .int .i64 k ∧ ∀ i, i < k → (lo ≤ xs.getD i 0 ∧ xs.getD i 0 ≤ hi) ∧ (0 < i → xs.getD (i - 1) 0 < xs.getD i 0)) (fun _ _ i => xs.length - (intOf i).toNat)
  case atStart => exact ⟨0, Nat.zero_le _, rfl, fun i h => by omega⟩
  case round =>
    obtain ⟨k, hk, rfl, hall⟩ := hrel
    have HA := Lib.hid hall
    clear hall
    by_cases hlt : k < xs.length
    · obtain ⟨b1, o1, x, rfl, hxk, hb1, hc1⟩ := HX.out.at hlt
      have hki : (k : Int) < (xs.length : Int) := by omega
      have HG := Lib.hid (getD_of hxk)
      clear hxk
      rcases Bool.eq_false_or_eq_true (inB x lo hi) with hin | hin
      · have hin' := inB_iff.1 hin
        by_cases hk0 : k = 0
        · have hk0' : ¬ (0 : Int) < (k : Int) := by omega
          have HK : Hid (∀ i, i < k + 1 → (lo ≤ xs.getD i 0 ∧ xs.getD i 0 ≤ hi) ∧ (0 < i → xs.getD (i - 1) 0 < xs.getD i 0)) := Lib.hid (fun i hi => by
            obtain rfl : i = k := by omega
            rw [HG.out]
            exact ⟨hin', fun h => by omega⟩)
          clear hk0
          go_wp2_with fail
          refine (inRange_any _ _ _ _).mono ?_
          rw [hin]
          rintro e w' ⟨rfl, rfl⟩
          go_wp2_with fail
          exact ⟨⟨k + 1, by omega, by go_num, HK.out⟩, by simp [intOf]; omega⟩
        · obtain ⟨k, rfl⟩ : ∃ k', k = k' + 1 := ⟨k - 1, by omega⟩
          obtain ⟨b2, o2, y, e2, hyk, hb2, hc2⟩ := HX.out.at (k := k) (by omega)
          simp only [Option.some.injEq, Addr.mk.injEq, and_true] at e2
          obtain ⟨rfl, rfl⟩ := e2
          have HY := Lib.hid (getD_of hyk)
          have hk0' : (0 : Int) < ((k + 1 : Nat) : Int) := by omega
          clear hyk hk0
          by_cases hxy : x ≤ y
          · have hd : decide (x ≤ y) = true := decide_eq_true hxy
            have HR := Lib.hid (ris_no (lo := lo) (hi := hi) hlt (Or.inr ⟨by omega, by rw [HG.out, Nat.add_sub_cancel, HY.out]; exact hxy⟩))
            clear hxy
            go_wp2_with fail
            refine (inRange_any _ _ _ _).mono ?_
            rw [hin]
            rintro e w' ⟨rfl, rfl⟩
            go_wp2_with fail
            go_ret
            exact ⟨ret_bool HR.out.symm, rfl⟩
          · have hd : decide (x ≤ y) = false := decide_eq_false hxy
            have HK : Hid (∀ i, i < k + 1 + 1 → (lo ≤ xs.getD i 0 ∧ xs.getD i 0 ≤ hi) ∧ (0 < i → xs.getD (i - 1) 0 < xs.getD i 0)) := Lib.hid (fun i hi => by
              by_cases e : i = k + 1
              · subst e
                rw [HG.out, Nat.add_sub_cancel, HY.out]
                exact ⟨hin', fun h => by omega⟩
              · exact HA.out i (by omega))
            clear hxy
            go_wp2_with fail
            refine (inRange_any _ _ _ _).mono ?_
            rw [hin]
            rintro e w' ⟨rfl, rfl⟩
            go_wp2_with fail
            exact ⟨⟨k + 1 + 1, by omega, by go_num, HK.out⟩, by simp [intOf]; omega⟩
      · have hin' := inB_not.1 hin
        have HR := Lib.hid (ris_no (lo := lo) (hi := hi) hlt (Or.inl (by rw [HG.out]; exact hin')))
        go_wp2_with fail
        refine (inRange_any _ _ _ _).mono ?_
        rw [hin]
        rintro e w' ⟨rfl, rfl⟩
        go_wp2_with fail
        go_ret
        exact ⟨ret_bool HR.out.symm, rfl⟩
    · have hki : ¬ (k : Int) < (xs.length : Int) := by omega
      have HR := Lib.hid (show risB lo hi xs = true by
        rw [risB, decide_eq_true_iff]
        exact fun i hi => HA.out i (by omega))
      go_wp2_with fail
      go_ret
      exact ⟨ret_bool HR.out.symm, rfl⟩
set_option maxHeartbeats 400000 in
theorem isMsz_any (n : Int) (w : World) (h1 : -9223372036854775808 ≤ n) (h2 : n ≤ 9223372036854775807) :
    Calls Tryz.prog 65 #[.int .i64 n] w fun e w' => e = .returned (.bool (msz n)) ∧ w = w' := by
  rcases Bool.eq_false_or_eq_true (inB n 17 41) with hi | hi
  · have hn := inB_iff.1 hi
    have HR := Lib.hid (show msz n = (n % 4 == 1) by simp [msz]; omega)
    go_enter Tryz.func65, Tryz.ntmps65
    go_wp2_with fail
    refine (inRange_any _ _ _ _).mono ?_
    rw [hi]
    rintro e w' ⟨rfl, rfl⟩
    go_wp2_with fail
    go_ret
    exact ⟨ret_bool HR.out.symm, rfl⟩
  · have hn := inB_not.1 hi
    have HR := Lib.hid (show msz n = false by simp [msz]; omega)
    go_enter Tryz.func65, Tryz.ntmps65
    go_wp2_with fail
    refine (inRange_any _ _ _ _).mono ?_
    rw [hi]
    rintro e w' ⟨rfl, rfl⟩
    go_wp2_with fail
    go_ret
    exact ⟨ret_bool HR.out.symm, rfl⟩

end Go.Proofs.YtlcglclojlffgaaGreat
namespace Go.Proofs.YtlcglclojlffgaaGreat
open Go.RowKit

set_option maxHeartbeats 400000 in
theorem isPrime_even (n : Int) (w : World) (h1 : 4 ≤ n) (h2 : n ≤ 100000) (h3 : n % 2 = 0) :
    Calls Tryz.prog 72 #[.int .i64 n] w fun e w' => e = .returned (.bool false) ∧ w = w' := by
  have hd : decide (n < 2) = false := by simp; omega
  have he : (n % 2 == 0) = true := by rw [beq_iff_eq]; exact h3
  clear h3
  go_enter Tryz.func72, Tryz.ntmps72
  go_wp2_with fail
  refine wp_loop_rounds 1 ?_
  rw [rounds_succ]
  go_wp2_with fail
  go_ret
  exact ⟨rfl, rfl⟩
set_option maxHeartbeats 400000 in
theorem isField_two (k g : Int) (w : World) :
    Calls Tryz.prog 66 #[.agg #[.int .i64 2, .int .i64 k, .int .i64 g]] w fun e w' => e = .returned (.bool (fldB 2 k g)) ∧ Below w.heap.size w w' := by
  go_enter Tryz.func66, Tryz.ntmps66
  go_wp2_with fail
  refine (calc_two k g _).mono ?_
  rintro e w1 ⟨hb1, a1, rfl, -⟩
  have HB := Lib.hid (bt1 hb1)
  clear hb1
  go_wp2_with fail
  go_ret
  exact ⟨rfl, HB.out⟩
/-- the field of a size: its power and its least polynomial -/
def Least (k g : Nat) : Prop := 4 ≤ k ∧ k ≤ 8 ∧ 2 ^ k ≤ g ∧ g < 2 * 2 ^ k ∧ fldB 2 k g = true ∧ ∀ p, 2 ^ k ≤ p → p < g → fldB 2 k p = false
set_option maxRecDepth 100000 in
set_option maxHeartbeats 1000000 in
theorem fieldOf_any (S k g : Nat) (hS : S = 2 ^ k) (h : Least k g) (w : World) :
    Calls Tryz.prog 67 #[.int .i64 S] w fun e w' => e = .returned (.tuple #[.agg #[.int .i64 2, .int .i64 k, .int .i64 g], .int .i64 0]) ∧ Below w.heap.size w w' := by
  obtain ⟨h4, h8, hg1, hg2, hgt, hgl⟩ := h
  have hs16 : 2 ^ 4 ≤ 2 ^ k := Nat.pow_le_pow_right (by omega) h4
  have hs256 : 2 ^ k ≤ 2 ^ 8 := Nat.pow_le_pow_right (by omega) h8
  have hev : (S : Int) % 2 = 0 := by
    obtain ⟨j, rfl⟩ : ∃ j, k = j + 1 := ⟨k - 1, by omega⟩
    rw [hS, Nat.pow_succ]; omega
  have HE := Lib.hid hev
  rw [← hS] at hs16 hs256 hg1 hg2 hgl
  have HS := Lib.hid hS
  have HT := Lib.hid hgt
  have HL := Lib.hid hgl
  have hin : inB (S : Int) 3 1021 = true := inB_iff.2 (by omega)
  clear hev hS hgt hgl
  go_enter Tryz.func67, Tryz.ntmps67
  go_wp2_with fail
  refine (inRange_any _ _ _ _).mono ?_
  rw [hin]
  rintro e w' ⟨rfl, rfl⟩
  go_wp2_with fail
  refine (isPrime_even _ _ (by omega) (by omega) HE.out).mono ?_
  rintro e w' ⟨rfl, rfl⟩
  go_wp2_with fail
  obtain ⟨W, hW⟩ : ∃ W, W = w.alloc (.cells #[.int .i64 0, .int .i64 0, .int .i64 0] 30 (0, 0)) := ⟨_, rfl⟩
  rw [← hW]
  have HB0 := Lib.hid (show Below w.heap.size w W by rw [hW]; exact ba1 _ _)
  have hr := heap_cellR (show W.heap[w.heap.size]? = some (.cells #[.int .i64 0, .int .i64 0, .int .i64 0] 30 (0, 0)) by rw [hW]; exact push_at _ _)
  have HR := Lib.hid (show W.heap[w.heap.size]? = some (.cells #[.int .i64 0, .int .i64 0, .int .i64 0] 30 (0, 0)) by rw [hW]; exact push_at _ _)
  have hlt0 : w.heap.size < W.heap.size := by rw [hW]; simp
  clear hW
  go_loopw [7, 8, 9] (fun p _ _ wr => ∃ k' : Nat, 3 ≤ k' ∧ k' ≤ k ∧ p = .int .i64 k' ∧ wr = W) (fun p _ _ _ => k - (intOf p).toNat)
  case atStart => exact ⟨3, by omega, by omega, rfl, rfl⟩
  case round =>
    obtain ⟨k', hk3, hk, rfl, hwr⟩ := hrel
    obtain rfl : W = wr := hwr.symm
    obtain ⟨P, hP⟩ : ∃ P : Nat, P = 2 ^ k' := ⟨_, rfl⟩
    have hPb : P ≤ S := by rw [hP, HS.out]; exact Nat.pow_le_pow_right (by omega) hk
    have hw : wrap64 ((2 : Int) ^ k') = (P : Int) := by
      have hc : ((2 : Int) ^ k') = ((2 ^ k' : Nat) : Int) := by push_cast; rfl
      rw [hc, ← hP]; unfold wrap64; omega
    have hk8 : (k' : Int) ≤ 8 := by omega
    by_cases hlt : k' < k
    · have hne : P < S := by rw [hP, HS.out]; exact Nat.pow_lt_pow_right (by omega) hlt
      have hb : (((S : Nat) : Int) != (P : Int)) = true := by rw [bne_iff_ne]; omega
      clear hP
      go_wp2_with fail
      exact ⟨⟨k' + 1, by omega, by omega, by go_num, trivial⟩, by simp [intOf]; omega⟩
    · obtain rfl : k' = k := by omega
      have hPS : P = S := by rw [hP, HS.out]
      subst hPS
      have hb : (((P : Nat) : Int) != (P : Int)) = false := by simp
      clear hP
      go_wp2_with fail
      go_loopw [8, 9] (fun p _ wr => ∃ p' : Nat, P ≤ p' ∧ p' ≤ g ∧ p = .int .i64 p' ∧ Below W.heap.size W wr) (fun p _ _ => g + 1 - (intOf p).toNat)
      case atStart => exact ⟨P, Nat.le_refl _, hg1, rfl, Below.refl _ _⟩
      case round =>
        obtain ⟨p', hp1, hp2, rfl, hb2⟩ := hrel
        have HB := Lib.hid hb2
        have hlt2 : decide ((p' : Int) < 2 * (P : Int)) = true := by simp; omega
        clear hb2
        by_cases hpg : p' < g
        · have HF := Lib.hid (show fldB 2 (k' : Int) (p' : Int) = false from HL.out p' hp1 hpg)
          go_wp2_with fail
          refine (isField_two _ _ _).mono ?_
          rw [HF.out]
          rintro e w2 ⟨rfl, hb3⟩
          have HB2 := Lib.hid (bt0 HB.out (bt1 hb3) (Nat.le_refl _))
          clear hb3
          go_wp2_with fail
          exact ⟨⟨p' + 1, by omega, by omega, by go_num, HB2.out⟩, by simp [intOf]; omega⟩
        · obtain rfl : p' = g := by omega
          go_wp2_with fail
          refine (isField_two _ _ _).mono ?_
          rw [HT.out]
          rintro e w2 ⟨rfl, hb3⟩
          obtain ⟨hx, hf⟩ := heap_cellR (blkK hb3 (push_at wr (.cells #[.int .i64 2, .int .i64 k', .int .i64 p'] 30 (0, 0))))
          have HB2 := Lib.hid (bt0 HB.out (bt1 hb3) (Nat.le_refl _))
          obtain ⟨hr0, hf0⟩ := heap_cellR (blk HB2.out HR.out hlt0)
          clear hb3 hr
          go_wp2_with fail
          refine bodyPost_ret (v := .tuple #[.agg #[.int .i64 2, .int .i64 k', .int .i64 p'], .int .i64 0]) (by simp [results, Tryz.results67, go_sem, hr0]) rfl ⟨rfl, ?_⟩
          iterate 3 (refine Below.setCell ?_ (by dsimp only; omega) _)
          exact HB0.out.trans (HB2.out.mono HB0.out.size)

set_option maxRecDepth 100000 in
theorem least5 : Least 5 37 := by
  refine ⟨by decide, by decide, by decide, by decide, by decide +kernel, fun p h1 h2 => ?_⟩
  have h3 : p = 32 ∨ p = 33 ∨ p = 34 ∨ p = 35 ∨ p = 36 := by omega
  rcases h3 with rfl | rfl | rfl | rfl | rfl <;> decide +kernel
theorem fieldOf_32 (w : World) :
    Calls Tryz.prog 67 #[.int .i64 32] w fun e w' => e = .returned (.tuple #[.agg #[.int .i64 2, .int .i64 5, .int .i64 37], .int .i64 0]) ∧ Below w.heap.size w w' := fieldOf_any 32 5 37 rfl least5 w

/-- a list holds a number -/
def hasI (xs : List Int) (n : Int) : Bool := xs.contains n
theorem hasI_no {xs : List Int} {n : Int} (h : ∀ i, i < xs.length → xs.getD i 0 ≠ n) : hasI xs n = false := by
  rw [hasI, Bool.eq_false_iff]
  intro hc
  rw [List.contains_iff_mem] at hc
  obtain ⟨i, hi, e⟩ := List.mem_iff_getElem.1 hc
  exact h i hi (by rw [getD_of (List.getElem?_eq_getElem hi), e])
theorem hasI_yes {xs : List Int} {n : Int} {k : Nat} (h : xs[k]? = some n) : hasI xs n = true := by
  rw [hasI, List.contains_iff_mem]
  exact List.mem_of_getElem? h
/-- an index is handed back, negative if there is none -/
def RetIdx (ok : Bool) (w : World) (e : Ending) (w' : World) : Prop := ∃ k : Int, e = .returned (.int .i64 k) ∧ decide (0 ≤ k) = ok ∧ -1 ≤ k ∧ k ≤ 1099511627776 ∧ w = w'
set_option maxHeartbeats 1000000 in
theorem index_i (a : Option Addr) (xs : List Int) (c : Nat) (n : Int) (w : World) (hx : IntsAt w a xs) (lx : xs.length ≤ 1099511627776) :
    Calls Tryz.prog 102 #[.slice a xs.length c, .int .i64 n] w (RetIdx (hasI xs n) w) := by
  have HX := Lib.hid hx
  clear hx
  go_enter Tryz.func102, Tryz.ntmps102
  go_wp2_with fail
  go_loop [5, 8] (fun _ i => ∃ k : Nat, k ≤ xs.length ∧ i = .int .i64 k ∧ ∀ i, i < k → xs.getD i 0 ≠ n) (fun _ i => xs.length - (intOf i).toNat)
  case atStart => exact ⟨0, Nat.zero_le _, rfl, fun i h => by omega⟩
  case round =>
    obtain ⟨k, hk, rfl, hall⟩ := hrel
    have HA := Lib.hid hall
    clear hall
    by_cases hlt : k < xs.length
    · obtain ⟨b1, o1, x, rfl, hxk, hb1, hc1⟩ := HX.out.at hlt
      have hki : (k : Int) < (xs.length : Int) := by omega
      have HG := Lib.hid hxk
      clear hxk
      by_cases he : n = x
      · have hd : (n == x) = true := by rw [beq_iff_eq]; exact he
        have HR := Lib.hid (hasI_yes (n := n) (by rw [he]; exact HG.out))
        clear he
        go_wp2_with fail
        go_ret
        exact ⟨k, rfl, by rw [HR.out]; simp, by omega, by omega, rfl⟩
      · have hd : (n == x) = false := by rw [beq_eq_false_iff_ne]; exact he
        have HN := Lib.hid he
        clear he
        go_wp2_with fail
        refine ⟨⟨k + 1, by omega, by go_num, fun i hi => ?_⟩, by simp [intOf]; omega⟩
        by_cases e : i = k
        · subst e
          rw [getD_of HG.out]
          exact fun h => HN.out h.symm
        · exact HA.out i (by omega)
    · have hki : ¬ (k : Int) < (xs.length : Int) := by omega
      have HR := Lib.hid (hasI_no (xs := xs) (n := n) (fun i hi => HA.out i (by omega)))
      go_wp2_with fail
      go_ret
      exact ⟨-1, rfl, by rw [HR.out]; rfl, by omega, by omega, rfl⟩
set_option maxHeartbeats 400000 in
theorem contains_i (a : Option Addr) (xs : List Int) (c : Nat) (n : Int) (w : World) (hx : IntsAt w a xs) (lx : xs.length ≤ 1099511627776) :
    Calls Tryz.prog 68 #[.slice a xs.length c, .int .i64 n] w fun e w' => e = .returned (.bool (hasI xs n)) ∧ w = w' := by
  have HX := Lib.hid hx
  clear hx
  go_enter Tryz.func68, Tryz.ntmps68
  go_wp2_with fail
  refine (index_i a xs c n _ HX.out lx).mono ?_
  rintro e w' ⟨k, rfl, hk, hk1, hk2, rfl⟩
  have HK := Lib.hid hk
  clear hk
  go_wp2_with fail
  go_ret
  exact ⟨ret_bool HK.out, rfl⟩
set_option maxHeartbeats 400000 in
theorem hasSize_any (nm : ByteArray) (kd p k g : Int) (a1 : Option Addr) (szs : List Int) (c1 : Nat) (cl : Int) (a2 : Option Addr) (lvs : List Int) (c2 : Nat) (n : Int) (w : World) (hx : IntsAt w a1 szs) (lx : szs.length ≤ 1099511627776) :
    Calls Tryz.prog 29 #[(.agg #[.string nm, .int .i64 kd, .int .i64 p, .int .i64 k, .int .i64 g, .slice a1 szs.length c1, .int .i64 cl, .slice a2 lvs.length c2]), .int .i64 n] w fun e w' => e = .returned (.bool (hasI szs n)) ∧ Below w.heap.size w w' := by
  have HX := Lib.hid hx
  clear hx
  go_enter Tryz.func29, Tryz.ntmps29
  go_wp2_with fail
  refine (contains_i a1 szs c1 n _ (HX.out.below (ba1 _ _)) lx).mono ?_
  rintro e w' ⟨rfl, rfl⟩
  go_wp2_with fail
  go_ret
  exact ⟨rfl, ba1 _ _⟩
set_option maxHeartbeats 400000 in
theorem hasLevel_any (nm : ByteArray) (kd p k g : Int) (a1 : Option Addr) (szs : List Int) (c1 : Nat) (cl : Int) (a2 : Option Addr) (lvs : List Int) (c2 : Nat) (n : Int) (w : World) (lx : lvs.length ≤ 1099511627776) :
    Calls Tryz.prog 30 #[(.agg #[.string nm, .int .i64 kd, .int .i64 p, .int .i64 k, .int .i64 g, .slice a1 szs.length c1, .int .i64 cl, .slice a2 lvs.length c2]), .int .i64 n] w fun e w' => e = .returned (.bool (inB n 0 ((lvs.length : Int) - 1))) ∧ Below w.heap.size w w' := by
  go_enter Tryz.func30, Tryz.ntmps30
  go_wp2_with fail
  refine (inRange_any _ _ _ _).mono ?_
  rintro e w' ⟨rfl, rfl⟩
  go_wp2_with fail
  go_ret
  exact ⟨rfl, ba1 _ _⟩

end Go.Proofs.YtlcglclojlffgaaGreat
namespace Go.Proofs.YtlcglclojlffgaaGreat
open Go.RowKit

set_option maxRecDepth 100000 in
theorem spPrime_32 (w : World) :
    Calls Tryz.prog 89 #[.int .i64 32] w fun e w' => e = .returned (.bool false) ∧ w = w' := by
  go_enter Tryz.func89, Tryz.ntmps89
  go_wp2_with fail
  go_loopw [3] (fun i wr => i = .int .i64 2 ∧ wr = w) (fun i _ => (intOf i).toNat)
  case atStart => exact ⟨rfl, rfl⟩
  case round =>
    obtain ⟨rfl, rfl⟩ := hrel
    go_wp2_with fail
    go_ret
    exact ⟨rfl, rfl⟩
theorem spField_bin (p k g : Int) (hk : k ≠ 1) (w : World) :
    Calls Tryz.prog 54 #[.agg #[.int .i64 p, .int .i64 k, .int .i64 g]] w fun e w' => e = .returned (.bool (fldB p k g)) ∧ Below w.heap.size w w' := by
  refine (spField_any p k g w).mono ?_
  rintro e w' ⟨b, rfl, h1, -, hb⟩
  rw [h1 hk]
  exact ⟨rfl, hb⟩
set_option maxRecDepth 100000 in
set_option maxHeartbeats 1000000 in
theorem spFieldOf_32 (w : World) :
    Calls Tryz.prog 87 #[.int .i64 32] w fun e w' => e = .returned (.tuple #[.agg #[.int .i64 2, .int .i64 5, .int .i64 37], .int .i64 0]) ∧ Below w.heap.size w w' := by
  go_enter Tryz.func87, Tryz.ntmps87
  go_wp2_with fail
  have hz := push_at w (.cells #[.int .i64 0, .int .i64 0, .int .i64 0] 30 (0, 0))
  have HB0 := Lib.hid (ba1 w (.cells #[.int .i64 0, .int .i64 0, .int .i64 0] 30 (0, 0)))
  obtain ⟨w1, hw1⟩ : ∃ w1, w1 = w.alloc (.cells #[.int .i64 0, .int .i64 0, .int .i64 0] 30 (0, 0)) := ⟨_, rfl⟩
  rw [← hw1] at hz HB0 ⊢
  have HX1 := Lib.hid hz
  clear hw1 hz
  refine (spIn_any 32 3 1021 w1).mono ?_
  rintro e w2 ⟨rfl, rfl⟩
  rw [show inB 32 3 1021 = true from rfl]
  go_wp2_with fail
  refine (spPrime_32 w1).mono ?_
  rintro e w2 ⟨rfl, rfl⟩
  go_wp2_with fail
  go_loopw [3, 6, 7, 8] (fun _ i _ _ wr => ∃ q : Nat, 3 ≤ q ∧ q ≤ 5 ∧ i = .int .i64 q ∧ wr = w1) (fun _ i _ _ _ => 6 - (intOf i).toNat)
  case atStart => exact ⟨3, by omega, by omega, rfl, rfl⟩
  case round =>
    obtain ⟨q, hq1, hq2, rfl, rfl⟩ := hrel
    by_cases hq : q = 5
    · subst hq
      rw [show ((5 : Nat) : Int) = (5 : Int) from rfl]
      obtain ⟨-, -, hg1, -, ht, hl⟩ := least5
      have HL := Lib.hid hl
      have HT := Lib.hid ht
      have hlt0 := blkLt HX1.out
      obtain ⟨W, hW⟩ : ∃ W : World, W = wr := ⟨_, rfl⟩
      subst hW
      clear hl ht hg1
      go_wp2_with fail
      go_loopw [3, 7, 8] (fun _ p _ wq => ∃ d : Nat, 32 ≤ d ∧ d ≤ 37 ∧ p = .int .i64 d ∧ Below W.heap.size W wq) (fun _ p _ _ => 38 - (intOf p).toNat)
      case atStart => exact ⟨32, by omega, by omega, rfl, Below.refl _ _⟩
      case round =>
        obtain ⟨d, hd1, hd2, rfl, hb2⟩ := hrel
        have HB := Lib.hid hb2
        have hlt2 : (d : Int) < 64 := by omega
        clear hb2
        by_cases hpg : d < 37
        · have HF := Lib.hid (show fldB 2 5 (d : Int) = false from HL.out d hd1 hpg)
          go_wp2_with fail
          refine (spField_bin _ _ _ (by decide) _).mono ?_
          rw [HF.out]
          rintro e w2 ⟨rfl, hb3⟩
          have HB2 := Lib.hid (bt0 HB.out (bt1 hb3) (Nat.le_refl _))
          clear hb3
          go_wp2_with fail
          exact ⟨⟨d + 1, by omega, by omega, by push_cast; rfl, HB2.out⟩, by simp [intOf]; omega⟩
        · obtain rfl : d = 37 := by omega
          go_wp2_with fail
          refine (spField_bin _ _ _ (by decide) _).mono ?_
          rw [show fldB 2 5 37 = true from HT.out]
          rintro e w2 ⟨rfl, hb3⟩
          obtain ⟨hx, hf⟩ := heap_cellR (blkK hb3 (push_at wr (.cells #[.int .i64 2, .int .i64 5, .int .i64 37] 30 (0, 0))))
          have HB2 := Lib.hid (bt0 HB.out (bt1 hb3) (Nat.le_refl _))
          obtain ⟨hr0, hf0⟩ := heap_cellR (blk HB2.out HX1.out hlt0)
          clear hb3
          go_wp2_with fail
          refine bodyPost_ret (v := .tuple #[.agg #[.int .i64 2, .int .i64 5, .int .i64 37], .int .i64 0]) (by simp [results, Tryz.results87, go_sem, hr0]) rfl ⟨rfl, ?_⟩
          iterate 3 (refine Below.setCell ?_ (by dsimp only; omega) _)
          exact HB0.out.trans (HB2.out.mono HB0.out.size)
    · have hq34 : q = 3 ∨ q = 4 := by omega
      rcases hq34 with rfl | rfl
      · go_wp2_with fail
        exact ⟨⟨4, by omega, by omega, rfl, trivial⟩, by simp [intOf]⟩
      · go_wp2_with fail
        exact ⟨⟨5, by omega, by omega, rfl, trivial⟩, by simp [intOf]⟩

end Go.Proofs.YtlcglclojlffgaaGreat
namespace Go.Proofs.YtlcglclojlffgaaGreat
open Go.RowKit

theorem infoP : (Tryz.prog.info? 112).map (fun i => (i.size)) = some 1 := by kernel_rfl
theorem natI_pair (x y : Nat) : natI [x, y] = [(x : Int), (y : Int)] := rfl
theorem power_int {F : Fd} (hF : FdOk F) {b : Nat} (n : Int) (m : Nat) (hm : n = m) (hn : m ≤ 1000000) {w : World} (hA : CalcAt w b F) :
    Calls Tryz.prog 115 #[.pointer (some ⟨b, 0, none⟩), .int .i64 n] w fun e w' => e = .returned (.int .i64 (F.pw m : Nat)) ∧ Below w.heap.size w w' := by
  subst hm
  exact (power_any F hF b m hn w hA).mono fun _ _ h => h.below
theorem ints_lit {w : World} {g : Nat} {cs : Array Value} {t : TypeId} {zs : List Int} (h : w.heap[g]? = some (.cells cs t (0, 0))) (hc : cs = (zs.map (Value.int .i64)).toArray) : IntsAt w (some ⟨g, 0, none⟩) zs := by
  intro i hi
  refine ⟨g, 0, rfl, ?_⟩
  rw [Nat.zero_add, (heap_cellR h).1, hc]
  simp [hi]
/-- a polynomial of the call's own is handed back -/
def RetPl (w : World) (p : List Nat) (e : Ending) (w' : World) : Prop := ∃ a c, e = .returned (.slice a p.length c) ∧ p.length ≤ c ∧ OwnI w' w.heap.size (.slice a p.length c) (natI p) ∧ Below w.heap.size w w'
set_option maxRecDepth 100000 in
set_option maxHeartbeats 2000000 in
theorem generator_any (F : Fd) (hF : FdOk F) (d b : Nat) (len : Int) (chk : Nat) (w : World) (hc : chk ≤ 64) (hA : CoderAt w d b F len chk) :
    Calls Tryz.prog 82 #[.pointer (some ⟨d, 0, none⟩)] w (RetPl w (genP F chk)) := by
  have HA := Lib.hid hA
  clear hA
  go_enter Tryz.func82, Tryz.ntmps82
  go_wp2_with fail
  go_loopw [3, 4] (fun v i wr => ∃ (j : Nat) (a : Option Addr) (c : Nat), j ≤ chk ∧ i = .int .i64 ((j : Int) + 1) ∧ v = .slice a (genP F j).length c ∧ (genP F j).length ≤ c ∧ OwnI wr w.heap.size (.slice a (genP F j).length c) (natI (genP F j)) ∧ Below w.heap.size w wr) (fun _ i _ => chk + 1 - (intOf i).toNat)
  case atStart => exact ⟨0, _, 1, Nat.zero_le _, rfl, rfl, Nat.le_refl _, World.ownsRow_lit (base := w.heap.size) (size := 1) w #[.int .i64 1] 1 (Nat.le_refl _) (by unfold maxLen; omega) rfl, ba1 _ _⟩
  case round =>
    obtain ⟨j, a, c, hj, rfl, rfl, hlc, ho, hb⟩ := hrel
    have HO := Lib.hid ho
    have HB := Lib.hid hb
    have HAr := Lib.hid (HA.out.below hb)
    obtain ⟨hc0, hc1, hc2⟩ := HAr.out.cell
    have hd : d < wr.heap.size := blkLt HAr.out.1
    have HT := Lib.hid (genP_top hF.runs hF.fit j)
    clear ho hb
    by_cases hlt : j < chk
    · have hdec : decide ((j : Int) + 1 ≤ (chk : Int)) = true := by simp; omega
      go_wp2_with fail
      have HJI := Lib.hid (show (j : Int) + 1 = ((j + 1 : Nat) : Int) by push_cast; rfl)
      have HM := Lib.hid (show j + 1 ≤ 1000000 by omega)
      have HPA := Lib.hid (genP_all hF.runs hF.fit j)
      have HQA : Hid (AllE F [F.neg (F.pw (j + 1)), 1]) := Lib.hid (fun x hx => by
        have := hF.fit.q3
        have := F.neg_lt (F.pw_lt hF.fit (j + 1))
        simp only [List.mem_cons, List.not_mem_nil, or_false] at hx
        omega)
      have HL1 := Lib.hid (show (genP F j).length ≤ 1000 by rw [HT.out.1]; omega)
      have HL2 : Hid ([F.neg (F.pw (j + 1)), 1].length ≤ 1000) := Lib.hid (by simp)
      have HGS := Lib.hid (show pMul F (genP F j) [F.neg (F.pw (j + 1)), 1] = genP F (j + 1) from rfl)
      go_region_held3 (fun w' => w'.cell? ⟨d, 0, none⟩ = some (.pointer (some ⟨b, 0, none⟩))) (first | assumption | exact (World.cell?_alloc_lt _ _ _ (by exact ‹d < _›)).trans ‹_›)
        ((first
          | (go_at_call 115; go_must (refine (power_int hF ((j : Int) + 1) (j + 1) HJI.out HM.out (HAr.out.2.below ((Below.refl _ _).drew))).mono ?_; rintro e w2 ⟨rfl, hb2⟩; have HB2 := Lib.hid (undrew hb2); have hS2 := (HAr.out.below HB2.out).cell.1; have hd2 : d < w2.heap.size := blkLt (HAr.out.below HB2.out).1; clear hb2))
          | (go_at_call 83; go_must (refine (neg_any F hF b (F.pw (j + 1)) _ (HAr.out.below HB2.out).2).mono ?_; rintro e w3 ⟨rfl, rfl⟩))
          | (go_at_call 114; go_must (refine (times_poly F hF b _ _ (genP F j) [F.neg (F.pw (j + 1)), 1] _ 2 _ _ _ rfl rfl (((HAr.out.below HB2.out).below (ba1 _ _)).2) ((HO.out.grown HB2.out).grown (ba1 _ _)).ints (ints_lit (push_at _ _) rfl) HPA.out HQA.out HL1.out HL2.out).mono ?_; rintro e w4 ⟨a4, c4, rfl, hl4, ho4, hb4⟩; have hS4 := (((HAr.out.below HB2.out).below (ba1 _ _)).below hb4).cell.1; have HO4 := Lib.hid ho4; have HB4 := Lib.hid (bt1 hb4); clear ho4 hb4))))
      rw [HGS.out] at HO4 hl4 ⊢
      go_wp2_with fail
      exact ⟨⟨j + 1, a4, c4, by omega, by go_num, rfl, hl4, HO4.out.weak (by have := HB.out.size; have := HB2.out.size; simp; omega), bt0 (HB.out.trans (HB2.out.mono HB.out.size)) HB4.out (Nat.le_refl _)⟩, by simp [intOf]; omega⟩
    · obtain rfl : j = chk := by omega
      have hdec : decide ((j : Int) + 1 ≤ (j : Int)) = false := by simp; omega
      go_wp2_with fail
      go_ret
      exact ⟨a, c, rfl, hlc, HO.out, HB.out⟩

end Go.Proofs.YtlcglclojlffgaaGreat
namespace Go.Proofs.YtlcglclojlffgaaGreat
open Go.RowKit

/-- append of one number -/
theorem wpList_append_i1 {ops : Array Oper} {rest : List Oper} {o : Oper} {a : Act} {Q : Exit → Act → World → Prop} {W : World} (hgd : o.guard = none) (s x : Operand) (T : TypeId) (hT : Tryz.prog.underlying T = some (.slice 2))
    (ho : o.op = .call { callee := .builtin .append, args := #[s, x], argTypes := #[T, T] })
    (base : Nat) (v : Value) (l : List Int) (z : Int) (hs : a.eval s = v) (hown : OwnI W base v l) (g : Nat) (hx : a.eval x = .slice (some ⟨g, 0, none⟩) 1 1)
    (hg : W.heap[g]? = some (.cells #[.int .i64 z] 2 (0, 0))) (hl : l.length ≤ 1000000000) (hb : base ≤ W.heap.size)
    (h : ∀ a' c' l' w', l' = l ++ [z] → OwnI w' base (.slice a' l'.length c') l' → W.grownBy w' v.ownBlock → Below base W w' → wpList Tryz.prog ops Q rest (a.put o.dst (.slice a' l'.length c')) w') : wpList Tryz.prog ops Q (o :: rest) a W := by
  obtain ⟨i0, hi, y0, y1, y2⟩ := info_parts infoI
  refine wpList_append_own _ hgd s x T ho base 2 i0 _ 1 8 hT hi y0 y1 y2 rfl (by decide) v l.length (l.map (Value.int .i64)) hs hown ⟨g, 0, none⟩ 1 1 [.int .i64 z] hx rfl ?_ ?_ (by unfold maxLen; omega) (by omega) hb
    (fun v' w' h1 h2 _ => ?_)
  · intro j u hu
    rw [Addr.add_lit, Nat.zero_add, (heap_cellR hg).1, ← hu]
    simp
  · intro u hu
    simp only [List.mem_singleton] at hu
    subst hu; rfl
  · have ho : OwnI w' base v' (l ++ [z]) := by
      unfold OwnI
      rw [List.length_append, List.map_append]
      exact h1
    obtain ⟨a', c', e, _⟩ := ho.read
    rw [e] at ho ⊢
    exact h a' c' _ w' rfl ho h2 (below_of_grownBy h2 hb (fun k hk => hown.lo k hk))
/-- append of numbers read elsewhere -/
theorem wpList_append_is {ops : Array Oper} {rest : List Oper} {o : Oper} {a : Act} {Q : Exit → Act → World → Prop} {W : World} (hgd : o.guard = none) (s x : Operand) (T : TypeId) (hT : Tryz.prog.underlying T = some (.slice 2))
    (ho : o.op = .call { callee := .builtin .append, args := #[s, x], argTypes := #[T, T] })
    (base : Nat) (v : Value) (l m : List Int) (hs : a.eval s = v) (hown : OwnI W base v l) (b1 o1 n c : Nat) (hn : n = m.length) (hx : a.eval x = .slice (some ⟨b1, o1, none⟩) n c)
    (hg : IntsAt W (some ⟨b1, o1, none⟩) m) (hl : l.length + m.length ≤ 1000000000) (hb : base ≤ W.heap.size)
    (h : ∀ a' c' l' w', l' = l ++ m → OwnI w' base (.slice a' l'.length c') l' → W.grownBy w' v.ownBlock → Below base W w' → wpList Tryz.prog ops Q rest (a.put o.dst (.slice a' l'.length c')) w') : wpList Tryz.prog ops Q (o :: rest) a W := by
  subst hn
  obtain ⟨i0, hi, y0, y1, y2⟩ := info_parts infoI
  refine wpList_append_own _ hgd s x T ho base 2 i0 _ 1 8 hT hi y0 y1 y2 rfl (by decide) v l.length (l.map (Value.int .i64)) hs hown ⟨b1, o1, none⟩ m.length c (m.map (Value.int .i64)) hx (by simp) (ints_at hg) (ints_one m) (by unfold maxLen; omega) (by omega) hb
    (fun v' w' h1 h2 _ => ?_)
  have ho : OwnI w' base v' (l ++ m) := by
    unfold OwnI
    rw [List.length_append, List.map_append]
    exact h1
  obtain ⟨a', c', e, _⟩ := ho.read
  rw [e] at ho ⊢
  exact h a' c' _ w' rfl ho h2 (below_of_grownBy h2 hb (fun k hk => hown.lo k hk))

end Go.Proofs.YtlcglclojlffgaaGreat
