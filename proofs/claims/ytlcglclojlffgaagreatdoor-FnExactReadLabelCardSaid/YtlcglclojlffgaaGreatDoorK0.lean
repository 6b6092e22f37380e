import Derived.Test.YtlcglclojlffgaaGreatDoorRows
import Derived.WalkKit
import Derived.WalkSpells
import Derived.WalkLawsBesides
import Derived.Deep.QuietTactic
import Derived.BigQuiet
import Derived.Deep.RegionLaw
import Derived.Deep.DeepFit
import Derived.Deep.DeepMust
import Derived.Lib.Hide
import Derived.IntWalk
import Derived.Laws.AppendOwnNone
import Derived.Deep.RegionHeld3
import Derived.Maps.AppendAt
import Derived.Maps.OwnOps
import Derived.Maps.Views
import Derived.DeepKeys4
import Derived.StillTail
import Derived.Laws.EntriesVeiled
namespace Go.Proofs.YtlcglclojlffgaaGreatDoor
open Go.RowKit

theorem bcell {W w1 : World} {B : Nat} (hb : Below B W w1) : (∀ b o, b < B → w1.cell? ⟨b, o, none⟩ = W.cell? ⟨b, o, none⟩) ∧ (∀ b o, b < B → w1.frozen? ⟨b, o, none⟩ = W.frozen? ⟨b, o, none⟩) :=
  ⟨fun b o h => hb.cell (p := ⟨b, o, none⟩) h, fun b o h => hb.frozen (p := ⟨b, o, none⟩) h⟩

theorem lt_of_cell {w : World} {b o : Nat} {v : Value} (h : w.cell? ⟨b, o, none⟩ = some v) : b < w.heap.size := World.block_lt_of_cell? w ⟨b, o, none⟩ h

theorem ba1 (w : World) (o : Obj) : Below w.heap.size w (w.alloc o) := (Below.refl _ _).alloc (Nat.le_refl _) _
theorem ba2 (w : World) (o o' : Obj) : Below w.heap.size w ((w.alloc o).alloc o') := (ba1 w o).alloc (by simp) _
theorem ba3 (w : World) (o o' o'' : Obj) : Below w.heap.size w (((w.alloc o).alloc o').alloc o'') := (ba2 w o o').alloc (by simp; omega) _
theorem bt0 {B : Nat} {a b c : World} (h : Below B a b) (k : Below b.heap.size b c) (hB : B ≤ a.heap.size) : Below B a c := h.trans (k.mono (Nat.le_trans hB h.size))
theorem bt1 {w w1 : World} {o : Obj} (h : Below (w.alloc o).heap.size (w.alloc o) w1) : Below w.heap.size w w1 := bt0 (ba1 w o) h (Nat.le_refl _)
theorem bt2 {w w1 : World} {o o' : Obj} (h : Below ((w.alloc o).alloc o').heap.size ((w.alloc o).alloc o') w1) : Below w.heap.size w w1 := bt0 (ba2 w o o') h (Nat.le_refl _)
/-- a new block's cells, behind a call -/
theorem box1 {w w1 : World} {cs : Array Value} {t : TypeId} (hb : Below (w.alloc (.cells cs t)).heap.size (w.alloc (.cells cs t)) w1) : ∀ i, w1.cell? ⟨w.heap.size, i, none⟩ = cs[i]? := fun i => by
  rw [hb.cell (p := ⟨w.heap.size, i, none⟩) (by simp)]; simp
theorem boxK {w w1 : World} {b : Nat} {cs : Array Value} (hb : Below w.heap.size w w1) (h : ∀ i, w.cell? ⟨b, i, none⟩ = cs[i]?) (h0 : 0 < cs.size) : ∀ i, w1.cell? ⟨b, i, none⟩ = cs[i]? := fun i => by
  have h1 : b < w.heap.size := lt_of_cell (v := cs[0]) (by rw [h 0]; simp [h0])
  rw [hb.cell (p := ⟨b, i, none⟩) h1]; exact h i
/-- the slice at address a holds the numbers zs -/
def IntsAt (w : World) (a : Option Addr) (zs : List Int) : Prop :=
  ∀ i (h : i < zs.length), ∃ b o, a = some ⟨b, o, none⟩ ∧ w.cell? ⟨b, o + i, none⟩ = some (.int .i64 zs[i])

theorem IntsAt.at {w : World} {a : Option Addr} {zs : List Int} (H : IntsAt w a zs) {k : Nat} (hk : k < zs.length) :
    ∃ b o z, a = some ⟨b, o, none⟩ ∧ zs[k]? = some z ∧ b < w.heap.size ∧ w.cell? ⟨b, o + k, none⟩ = some (.int .i64 z) := by
  obtain ⟨b, o, ha, hc⟩ := H k hk
  exact ⟨b, o, zs[k], ha, List.getElem?_eq_getElem hk, lt_of_cell hc, hc⟩

theorem IntsAt.below {w w' : World} {a : Option Addr} {zs : List Int} (H : IntsAt w a zs) (hb : Below w.heap.size w w') : IntsAt w' a zs := by
  intro i h
  obtain ⟨b, o, ha, hc⟩ := H i h
  exact ⟨b, o, ha, by rw [hb.cell (p := ⟨b, o + i, none⟩) (lt_of_cell hc)]; exact hc⟩

theorem IntsAt.nil {w : World} {a : Option Addr} : IntsAt w a [] := fun i h => absurd h (by simp)

theorem take_snoc' {α : Type} {zs : List α} {k : Nat} {z : α} (h : zs[k]? = some z) : zs.take (k + 1) = zs.take k ++ [z] := by
  rw [List.take_add_one, h]; rfl

theorem ret_int {k : IntKind} {a b : Int} (h : a = b) : Ending.returned (.int k a) = .returned (.int k b) := by rw [h]
theorem ret_str {a b : ByteArray} (h : a = b) : Ending.returned (.string a) = .returned (.string b) := by rw [h]
theorem ret_bool {a b : Bool} (h : a = b) : Ending.returned (.bool a) = .returned (.bool b) := by rw [h]

/-- the worlds that keep all that is in w -/
def Ext (w : World) : Type := { w' : World // Below w.heap.size w w' }
instance extNonempty (w : World) : Nonempty (Ext w) := ⟨⟨w, Below.refl _ _⟩⟩
def Ext.w {w : World} (s : Ext w) : World := s.1
theorem Ext.below {w : World} (s : Ext w) : Below w.heap.size w s.w := s.2
@[go_sem] theorem Ext.cell {w : World} (s : Ext w) (b o : Nat) (h : b < w.heap.size) : s.w.cell? ⟨b, o, none⟩ = w.cell? ⟨b, o, none⟩ := s.2.cell (p := ⟨b, o, none⟩) h
@[go_sem] theorem Ext.frozen {w : World} (s : Ext w) (b o : Nat) (h : b < w.heap.size) : s.w.frozen? ⟨b, o, none⟩ = w.frozen? ⟨b, o, none⟩ := s.2.frozen (p := ⟨b, o, none⟩) h

theorem wp_region_ext {P : Program} {id : Nat} {Q : Exit → Act → World → Prop} {a : Act} {w : World} {l : List Oper} (hm : P.follows .mixedOrders = true) (hB : Region.lexB .any l.toArray = true)
    (h : wpQuiet P l.toArray (fun w' => ∃ s : Ext w, w' = s.w) (fun a' => ∀ w', (∃ s : Ext w, w' = s.w) → Q .normal a' w') l a) : (Code.region id l.toArray true).wp P Q a w :=
  wp_region_quiet (C := fun w' => ∃ s : Ext w, w' = s.w) hm hB ⟨⟨_, (Below.refl _ _).drew⟩, rfl⟩ (by simpa using h)

theorem calls_ext {P : Program} {f : FuncId} {args : Array Value} {w : World} {v : Value} (s : Ext w)
    (h : Calls P f args s.w fun e w' => e = .returned v ∧ Below s.w.heap.size s.w w') : Calls P f args s.w fun e w'' => e = .returned v ∧ ∃ s' : Ext w, w'' = s'.w :=
  h.mono fun _ w' ⟨he, hb⟩ => ⟨he, ⟨w', s.below.trans (hb.mono s.below.size)⟩, rfl⟩
/-- the slice v is the call's own (blocks from base on) and holds the numbers zs -/
def OwnI (w : World) (base : Nat) (v : Value) (zs : List Int) : Prop := w.ownsRow base 2 1 v zs.length (zs.map (Value.int .i64))

theorem OwnI.read {w : World} {base : Nat} {v : Value} {zs : List Int} (h : OwnI w base v zs) : ∃ a c, v = .slice a zs.length c ∧ IntsAt w a zs := by
  unfold OwnI at h
  have h2 := h.2
  rcases h2 with ⟨rfl, h0⟩ | ⟨g, cap, cur, rfl, hb, hg, hn, hm, hs, ht⟩
  · refine ⟨none, 0, by rw [h0], ?_⟩
    intro i hi; omega
  · refine ⟨some ⟨g, 0, none⟩, cap, rfl, ?_⟩
    intro i hi
    refine ⟨g, 0, rfl, ?_⟩
    rw [Nat.zero_add, h.cellAt i (by omega)]
    simp [hi]

theorem OwnI.len {w : World} {base : Nat} {v : Value} {zs : List Int} (h : OwnI w base v zs) : zs.length ≤ maxLen := by
  rcases h.2 with ⟨_, h0⟩ | ⟨g, cap, cur, rfl, hb, hg, hn, hm, hs, ht⟩
  · rw [h0]; exact Nat.zero_le _
  · omega

/-- a slice of the call's own that is not empty -/
theorem OwnI.block {w : World} {base : Nat} {a : Option Addr} {n c : Nat} {zs : List Int} (h : OwnI w base (.slice a n c) zs) (hk : 0 < zs.length) : ∃ g, a = some ⟨g, 0, none⟩ ∧ base ≤ g ∧ n = zs.length ∧ g < w.heap.size := by
  rcases h.2 with ⟨h1, h0⟩ | ⟨g, cap, cur, h1, hb, hg, _⟩
  · omega
  · simp only [Value.slice.injEq] at h1
    obtain ⟨rfl, rfl, rfl⟩ := h1
    exact ⟨g, rfl, hb, rfl, (Array.getElem?_eq_some_iff.1 hg).1⟩

theorem OwnI.grown {w w' : World} {base : Nat} {v : Value} {zs : List Int} (h : OwnI w base v zs) (hb : Below w.heap.size w w') : OwnI w' base v zs :=
  h.kept (row := none) ⟨hb.os, hb.tape, hb.output, hb.size, fun k hk _ => hb.block k hk⟩ (by cases hv : v.ownBlock <;> simp)

theorem OwnI.weak {w : World} {base base' : Nat} {v : Value} {zs : List Int} (h : OwnI w base v zs) (hb : base' ≤ base) : OwnI w base' v zs := by
  refine ⟨h.1, ?_⟩
  rcases h.2 with h2 | ⟨g, cap, cur, h1, hb', r⟩
  · exact Or.inl h2
  · exact Or.inr ⟨g, cap, cur, h1, by omega, r⟩

theorem OwnI.setOld {w : World} {base : Nat} {v : Value} {zs : List Int} (h : OwnI w base v zs) {a : Addr} (ha : a.block < base) (u : Value) : OwnI (w.setCell a u) base v zs := ownsRow_setCell_below h ha u

theorem OwnI.drew {w : World} {base : Nat} {v : Value} {zs : List Int} (h : OwnI w base v zs) : OwnI w.drew base v zs := h

theorem grownBy_trans {a b c : World} {row : Option Nat} (h : a.grownBy b row) (k : b.grownBy c row) : a.grownBy c row :=
  ⟨k.os.trans h.os, k.tape.trans h.tape, k.output.trans h.output, Nat.le_trans h.size k.size, fun i hi hr => (k.block i (Nat.lt_of_lt_of_le hi h.size) hr).trans (h.block i hi hr)⟩

theorem below_of_grownBy {B : Nat} {w w' : World} {row : Option Nat} (h : w.grownBy w' row) (hB : B ≤ w.heap.size) (hr : ∀ k, row = some k → B ≤ k) : Below B w w' :=
  (Below.refl B w).grown h hB hr


theorem infoI : (Tryz.prog.info? 2).map (fun i => (i.zero, i.size, i.bytes)) = some (some (.int .i64 0), 1, 8) := by kernel_rfl

theorem OwnI.cellAt {w : World} {base g n c : Nat} {zs : List Int} (h : OwnI w base (.slice (some ⟨g, 0, none⟩) n c) zs) (hn : n = zs.length) {k : Nat} (hk : k < zs.length) :
    ∃ z, zs[k]? = some z ∧ w.cell? ⟨g, k, none⟩ = some (.int .i64 z) ∧ w.frozen? ⟨g, k, none⟩ = false := by
  subst hn
  refine ⟨zs[k], by simp [hk], ?_, h.frozenAt k⟩
  rw [World.ownsRow.cellAt h k (by omega)]
  simp [hk]

theorem OwnI.stored {w : World} {base g n c : Nat} {zs : List Int} (h : OwnI w base (.slice (some ⟨g, 0, none⟩) n c) zs) (hn : n = zs.length) (k : Nat) (z : Int) :
    OwnI (w.setCell ⟨g, k, none⟩ (.int .i64 z)) base (.slice (some ⟨g, 0, none⟩) n c) (zs.set k z) ∧ w.grownBy (w.setCell ⟨g, k, none⟩ (.int .i64 z)) (some g) := by
  subst hn
  have hst := World.ownsRow.stored (h := h) k (.int .i64 z)
  refine ⟨?_, hst.2⟩
  unfold OwnI
  rw [List.map_set, List.length_set]
  exact hst.1

theorem OwnI.of_made {w : World} {base : Nat} {v : Value} {n : Nat} (h : w.ownsRow base 2 1 v n (madeCells #[.int .i64 0] n).toList) : OwnI w base v (List.replicate n 0) := by
  unfold OwnI
  rw [toList_madeCells_one] at h
  simpa using h

theorem heap_cellR {w : World} {g : Nat} {C : Array Value} {t : TypeId} (h : w.heap[g]? = some (.cells C t (0, 0))) : (∀ i, w.cell? ⟨g, i, none⟩ = C[i]?) ∧ (∀ i, w.frozen? ⟨g, i, none⟩ = false) := ⟨fun i => by simp [World.cell?, h], fun i => by simp [World.frozen?, h]⟩

end Go.Proofs.YtlcglclojlffgaaGreatDoor
namespace Go.Proofs.YtlcglclojlffgaaGreatDoor

/-- a field in four numbers: is it binary, the power, the size, the polynomial or the generator -/
structure Fd where
  bin : Bool
  k : Nat
  q : Nat
  g : Nat

def rstep (k g j x : Nat) : Nat := if x.testBit j then x ^^^ (g <<< (j - k)) else x
/-- times the generator -/
def Fd.T (F : Fd) (x : Nat) : Nat := if F.bin then rstep F.k F.g F.k (x <<< 1) else x * F.g % F.q
def Fd.pw (F : Fd) : Nat → Nat
  | 0 => 1
  | n + 1 => F.T (F.pw n)
def Fd.it (F : Fd) : Nat → Nat → Nat
  | 0, x => x
  | n + 1, x => F.T (F.it n x)
theorem Fd.it_add (F : Fd) (i j x : Nat) : F.it (i + j) x = F.it i (F.it j x) := by
  induction i with
  | zero => simp [Fd.it]
  | succ i ih => rw [show i + 1 + j = (i + j) + 1 by omega, Fd.it, ih, Fd.it]
theorem Fd.pw_it (F : Fd) (n : Nat) : F.pw n = F.it n 1 := by
  induction n with
  | zero => rfl
  | succ n ih => rw [Fd.pw, Fd.it, ih]
theorem Fd.pw_add (F : Fd) (i j : Nat) : F.pw (i + j) = F.it i (F.pw j) := by rw [F.pw_it, F.it_add, ← F.pw_it]

def redN (k g : Nat) : Nat → Nat → Nat
  | 0, x => x
  | m + 1, x => redN k g m (rstep k g (k + m) x)
theorem rstep_xor (k g j x y : Nat) : rstep k g j (x ^^^ y) = rstep k g j x ^^^ rstep k g j y := by
  unfold rstep
  rw [Nat.testBit_xor]
  cases x.testBit j <;> cases y.testBit j <;> simp
  · rw [Nat.xor_assoc]
  · rw [Nat.xor_assoc, Nat.xor_assoc, Nat.xor_comm y]
  · rw [Nat.xor_assoc x (g <<< (j - k)), Nat.xor_comm y (g <<< (j - k)), ← Nat.xor_assoc (g <<< (j - k)) (g <<< (j - k)) y, Nat.xor_self, Nat.zero_xor]
theorem redN_xor (k g : Nat) : ∀ m x y, redN k g m (x ^^^ y) = redN k g m x ^^^ redN k g m y
  | 0, x, y => rfl
  | m + 1, x, y => by rw [redN, rstep_xor, redN_xor k g m, redN, redN]
theorem rstep_two (k g m x : Nat) : rstep k g (k + m + 1) (x <<< 1) = rstep k g (k + m) x <<< 1 := by
  unfold rstep
  rw [Nat.testBit_shiftLeft, show k + m + 1 - 1 = k + m by omega, show k + m + 1 - k = m + 1 by omega, show k + m - k = m by omega]
  have : (k + m + 1 ≥ 1) := by omega
  simp only [this, decide_true, Bool.true_and]
  split
  · rw [Nat.shiftLeft_xor_distrib, Nat.shiftLeft_add]
  · rfl
theorem redN_two (k g : Nat) : ∀ m x, redN k g (m + 1) (x <<< 1) = rstep k g k (redN k g m x <<< 1)
  | 0, x => rfl
  | m + 1, x => by
    rw [redN, show k + (m + 1) = k + m + 1 by omega, rstep_two, redN_two k g m, redN]
theorem redN_low (k g m x : Nat) (h : x < 2 ^ (k + m)) : redN k g (m + 1) x = redN k g m x := by
  rw [redN, rstep, Nat.testBit_lt_two_pow h]; rfl
theorem redN_low' (k g m x : Nat) (h : x < 2 ^ (k + m)) : ∀ d, redN k g (m + d) x = redN k g m x
  | 0 => rfl
  | d + 1 => by
    rw [← Nat.add_assoc, redN_low, redN_low' k g m x h d]
    exact Nat.lt_of_lt_of_le h (Nat.pow_le_pow_right (by omega) (by omega))

variable (F : Fd) (hb : F.bin = true)
include hb
theorem T_bin (x : Nat) : F.T x = rstep F.k F.g F.k (x <<< 1) := by simp [Fd.T, hb]
theorem T_xor (x y : Nat) : F.T (x ^^^ y) = F.T x ^^^ F.T y := by
  rw [T_bin F hb, T_bin F hb, T_bin F hb, Nat.shiftLeft_xor_distrib, rstep_xor]
theorem it_xor (x y : Nat) : ∀ i, F.it i (x ^^^ y) = F.it i x ^^^ F.it i y
  | 0 => rfl
  | i + 1 => by rw [Fd.it, it_xor x y i, T_xor F hb, Fd.it, Fd.it]
theorem it_zero : ∀ i, F.it i 0 = 0
  | 0 => rfl
  | i + 1 => by rw [Fd.it, it_zero i, T_bin F hb]; simp [rstep]
theorem redN_it (a : Nat) : ∀ m, redN F.k F.g m (a <<< m) = F.it m a
  | 0 => by simp [redN, Fd.it]
  | m + 1 => by rw [Nat.shiftLeft_add, redN_two, redN_it a m, Fd.it, T_bin F hb]
omit hb in
/-- the sum of the shifts of a by the bits of b below n -/
def clm (a b : Nat) : Nat → Nat
  | 0 => 0
  | n + 1 => clm a b n ^^^ (if b.testBit n then a <<< n else 0)
theorem redN_clm (a b : Nat) (ha : a < 2 ^ F.k) : ∀ n d, redN F.k F.g (n + d) (clm a b n) = (List.range n).foldl (fun s m => s ^^^ (if b.testBit m then F.it m a else 0)) 0
  | 0, d => by
    rw [clm]
    have : ∀ m, redN F.k F.g m 0 = 0 := by
      intro m
      induction m with
      | zero => rfl
      | succ m ih => rw [redN, rstep]; simp [ih]
    rw [this]; rfl
  | n + 1, d => by
    rw [clm, redN_xor, List.range_succ, List.foldl_append, show n + 1 + d = n + (d + 1) by omega, redN_clm a b ha n (d + 1)]
    simp only [List.foldl_cons, List.foldl_nil]
    congr 1
    split
    · rw [← redN_it F hb, redN_low']
      rw [Nat.shiftLeft_eq, Nat.pow_add]
      exact Nat.mul_lt_mul_of_pos_right ha (Nat.two_pow_pos n)
    · have : ∀ m, redN F.k F.g m 0 = 0 := by
        intro m
        induction m with
        | zero => rfl
        | succ m ih => rw [redN, rstep]; simp [ih]
      rw [this]
theorem it_low (hg : 2 ^ F.k ≤ F.g) : ∀ m, m < F.k → F.it m 1 = 2 ^ m
  | 0, _ => rfl
  | m + 1, h => by
    rw [Fd.it, it_low hg m (by omega), T_bin F hb, rstep, Nat.testBit_lt_two_pow]
    · simp [Nat.shiftLeft_eq, Nat.pow_succ]
    · rw [Nat.shiftLeft_eq, ← Nat.pow_add]
      exact Nat.pow_lt_pow_right (by omega) (by omega)
theorem fold_it (a b i : Nat) (hg : 2 ^ F.k ≤ F.g) (hai : a = F.it i 1) : ∀ n, n ≤ F.k → (List.range n).foldl (fun s m => s ^^^ (if b.testBit m then F.it m a else 0)) 0 = F.it i (b % 2 ^ n)
  | 0, _ => by simp [it_zero F hb, Nat.mod_one]
  | n + 1, h => by
    rw [List.range_succ, List.foldl_append, fold_it a b i hg hai n (by omega)]
    simp only [List.foldl_cons, List.foldl_nil]
    have e : b % 2 ^ (n + 1) = (b % 2 ^ n) ^^^ (if b.testBit n then 2 ^ n else 0) := by
      apply Nat.eq_of_testBit_eq
      intro j
      rw [Nat.testBit_xor, Nat.testBit_mod_two_pow, Nat.testBit_mod_two_pow]
      by_cases hj : j = n
      · subst hj
        cases b.testBit j <;> simp [Nat.testBit_two_pow_self]
      · have : (if b.testBit n then 2 ^ n else 0).testBit j = false := by
          split
          · rw [Nat.testBit_two_pow]; simp; omega
          · simp
        rw [this]
        have : decide (j < n + 1) = decide (j < n) := by
          by_cases h1 : j < n
          · simp [h1]; omega
          · simp [h1]; omega
        rw [this]; simp
    rw [e, it_xor F hb]
    congr 1
    split
    · rw [hai, ← it_low F hb hg n (by omega), ← F.it_add, ← F.it_add, Nat.add_comm]
    · rw [it_zero F hb]

/-- the reference's product -/
def Fd.mulB (F : Fd) (a b : Nat) : Nat := redN F.k F.g (F.k + 1) (clm a b F.k)
theorem mulB_pw (hg : 2 ^ F.k ≤ F.g) (i j : Nat) (hi : F.pw i < 2 ^ F.k) (hj : F.pw j < 2 ^ F.k) : F.mulB (F.pw i) (F.pw j) = F.pw (i + j) := by
  rw [Fd.mulB, redN_clm F hb _ _ hi, fold_it F hb _ _ i hg (F.pw_it i) _ (Nat.le_refl _), Nat.mod_eq_of_lt hj, F.pw_add]

omit hb
/-- the field's numbers are as they should be -/
structure Fd.Fit (F : Fd) : Prop where
  q3 : 3 ≤ F.q
  bin : F.bin = true → F.q = 2 ^ F.k ∧ 2 ^ F.k ≤ F.g ∧ F.g < 2 ^ (F.k + 1)
  num : F.bin = false → F.g < F.q
theorem Fd.T_lt {F : Fd} (h : F.Fit) {x : Nat} (hx : x < F.q) : F.T x < F.q := by
  cases hb : F.bin with
  | false =>
    simp only [Fd.T, hb]
    exact Nat.mod_lt _ (by have := h.q3; omega)
  | true =>
    obtain ⟨h1, h2, h3⟩ := h.bin hb
    rw [T_bin F hb, rstep, h1]
    rw [h1] at hx
    have h4 : x <<< 1 < 2 ^ (F.k + 1) := by rw [Nat.shiftLeft_eq, Nat.pow_succ]; omega
    split
    · rename_i hk
      simp only [Nat.sub_self, Nat.shiftLeft_zero]
      apply Nat.lt_pow_two_of_testBit
      intro i hi
      rw [Nat.testBit_xor]
      rcases Nat.eq_or_lt_of_le hi with rfl | hi
      · rw [hk, Nat.testBit_of_two_pow_le_and_two_pow_add_one_gt h2 h3]; rfl
      · rw [Nat.testBit_lt_two_pow (Nat.lt_of_lt_of_le h4 (Nat.pow_le_pow_right (by omega) hi)), Nat.testBit_lt_two_pow (Nat.lt_of_lt_of_le h3 (Nat.pow_le_pow_right (by omega) hi))]; rfl
    · rename_i hk
      apply Nat.lt_pow_two_of_testBit
      intro i hi
      rcases Nat.eq_or_lt_of_le hi with rfl | hi
      · simpa using hk
      · exact Nat.testBit_lt_two_pow (Nat.lt_of_lt_of_le h4 (Nat.pow_le_pow_right (by omega) hi))
theorem Fd.pw_lt {F : Fd} (h : F.Fit) : ∀ n, F.pw n < F.q
  | 0 => by have := h.q3; simp [Fd.pw]; omega
  | n + 1 => F.T_lt h (F.pw_lt h n)
/-- the powers of the generator run through all elements but 0 -/
def Fd.Runs (F : Fd) : Prop := (∀ n, n < F.q - 1 → F.pw n ≠ 0 ∧ (0 < n → F.pw n ≠ 1)) ∧ F.pw (F.q - 1) = 1
theorem Fd.pw_per {F : Fd} (hr : F.Runs) (n : Nat) : F.pw (n + (F.q - 1)) = F.pw n := by rw [F.pw_add, hr.2, ← F.pw_it]
theorem Fd.pw_mod {F : Fd} (hr : F.Runs) (h : F.Fit) (n : Nat) : F.pw (n % (F.q - 1)) = F.pw n := by
  have h3 := h.q3
  induction n using Nat.strongRecOn with
  | _ n ih =>
    by_cases hn : n < F.q - 1
    · rw [Nat.mod_eq_of_lt hn]
    · have e : n = (n - (F.q - 1)) + (F.q - 1) := by omega
      rw [e, Nat.add_mod_right, ih _ (by omega), F.pw_per hr]
theorem Fd.pw_ne {F : Fd} (hr : F.Runs) (h : F.Fit) (n : Nat) : F.pw n ≠ 0 := by
  rw [← F.pw_mod hr h]
  exact (hr.1 _ (Nat.mod_lt _ (by have := h.q3; omega))).1
theorem Fd.pw_inj {F : Fd} (hr : F.Runs) {i j : Nat} (hij : i < j) (hj : j < F.q - 1) : F.pw i ≠ F.pw j := by
  intro e
  have h1 : F.pw (F.q - 1 - i + i) = F.pw (F.q - 1 - i + j) := by rw [F.pw_add, F.pw_add, e]
  rw [show F.q - 1 - i + i = F.q - 1 by omega, hr.2, show F.q - 1 - i + j = (j - i) + (F.q - 1) by omega, F.pw_per hr] at h1
  exact (hr.1 (j - i) (by omega)).2 (by omega) h1.symm
theorem pigeon : ∀ (n : Nat) (f : Nat → Nat), (∀ i, i < n → f i < n) → (∀ i j, i < j → j < n → f i ≠ f j) → ∀ y, y < n → ∃ i, i < n ∧ f i = y
  | 0, _, _, _, y, hy => by omega
  | n + 1, f, hf, hi, y, hy => by
    -- g: f with the value n put in the place of f n
    by_cases hfn : f n = y
    · exact ⟨n, by omega, hfn⟩
    -- swap: values below n
    let s : Nat → Nat := fun x => if f x = n then f n else f x
    have hs : ∀ i, i < n → s i < n := by
      intro i hin
      have h1 := hf i (by omega)
      have h2 := hf n (by omega)
      have h3 := hi i n hin (by omega)
      show (if f i = n then f n else f i) < n
      split <;> omega
    have hsi : ∀ i j, i < j → j < n → s i ≠ s j := by
      intro i j hij hjn
      have h1 := hi i j hij (by omega)
      have h2 := hi i n (by omega) (by omega)
      have h3 := hi j n (by omega) (by omega)
      show (if f i = n then f n else f i) ≠ (if f j = n then f n else f j)
      split <;> split <;> omega
    by_cases hyn : y = n
    · subst hyn
      -- f n < y; find i with s i = f n
      have h2 := hf y (by omega)
      obtain ⟨i, h4, h5⟩ := pigeon y s hs hsi (f y) (by omega)
      refine ⟨i, by omega, ?_⟩
      have h6 := hi i y h4 (by omega)
      change (if f i = y then f y else f i) = f y at h5
      split at h5 <;> omega
    · obtain ⟨i, h4, h5⟩ := pigeon n s hs hsi y (by omega)
      refine ⟨i, by omega, ?_⟩
      change (if f i = n then f n else f i) = y at h5
      split at h5 <;> omega
/-- each element but 0 is a power of the generator -/
theorem Fd.log {F : Fd} (hr : F.Runs) (h : F.Fit) {x : Nat} (h0 : x ≠ 0) (hx : x < F.q) : ∃ i, i < F.q - 1 ∧ F.pw i = x := by
  obtain ⟨i, hi, e⟩ := pigeon (F.q - 1) (fun i => F.pw i - 1) (fun i hi => by have h1 := F.pw_lt h i; have h2 := F.pw_ne hr h i; have := h.q3; show F.pw i - 1 < _; omega)
    (fun i j hij hj e => by
      have h1 := F.pw_ne hr h i
      have h2 := F.pw_ne hr h j
      have h3 := F.pw_inj hr hij hj
      change F.pw i - 1 = F.pw j - 1 at e
      omega) (x - 1) (by omega)
  have h1 := F.pw_ne hr h i
  change F.pw i - 1 = x - 1 at e
  exact ⟨i, hi, by omega⟩

/-- the product -/
def Fd.mul (F : Fd) (a b : Nat) : Nat := if F.bin then F.mulB a b else a * b % F.q
def Fd.add (F : Fd) (a b : Nat) : Nat := if F.bin then a ^^^ b else (a + b) % F.q
theorem Fd.pw_num {F : Fd} (hb : F.bin = false) (h : F.Fit) : ∀ n, F.pw n = F.g ^ n % F.q
  | 0 => by rw [Fd.pw, Nat.pow_zero, Nat.mod_eq_of_lt]; have := h.q3; omega
  | n + 1 => by
    rw [Fd.pw, F.pw_num hb h n, Nat.pow_succ]
    simp only [Fd.T, hb]
    exact Nat.mod_mul_mod _ _ _
theorem Fd.mul_pw {F : Fd} (h : F.Fit) (i j : Nat) : F.mul (F.pw i) (F.pw j) = F.pw (i + j) := by
  unfold Fd.mul
  cases hb : F.bin with
  | false => simp only [Bool.false_eq_true, if_false]; rw [F.pw_num hb h, F.pw_num hb h, F.pw_num hb h, ← Nat.mul_mod, Nat.pow_add]
  | true =>
    simp only [if_true]
    obtain ⟨h1, h2, h3⟩ := h.bin hb
    exact mulB_pw F hb h2 i j (h1 ▸ F.pw_lt h i) (h1 ▸ F.pw_lt h j)
theorem redN_zero (k g : Nat) : ∀ m, redN k g m 0 = 0
  | 0 => rfl
  | m + 1 => by rw [redN, rstep]; simp [redN_zero k g m]
theorem clm_zero (b : Nat) : ∀ n, clm 0 b n = 0
  | 0 => rfl
  | n + 1 => by rw [clm, clm_zero b n]; simp
theorem clm_zero_right (a : Nat) : ∀ n, clm a 0 n = 0
  | 0 => rfl
  | n + 1 => by rw [clm, clm_zero_right a n]; simp
theorem Fd.mul_zero (F : Fd) (a : Nat) : F.mul a 0 = 0 := by
  unfold Fd.mul Fd.mulB
  split
  · rw [clm_zero_right, redN_zero]
  · simp
theorem Fd.zero_mul (F : Fd) (a : Nat) : F.mul 0 a = 0 := by
  unfold Fd.mul Fd.mulB
  split
  · rw [clm_zero, redN_zero]
  · simp
end Go.Proofs.YtlcglclojlffgaaGreatDoor
namespace Go.Proofs.YtlcglclojlffgaaGreatDoor

/-- a matrix size -/
def msz (n : Int) : Bool := decide (17 ≤ n) && decide (n ≤ 41) && n % 4 == 1
theorem msz_cases {n : Int} (h : msz n = true) : n = 17 ∨ n = 21 ∨ n = 25 ∨ n = 29 ∨ n = 33 ∨ n = 37 ∨ n = 41 := by
  simp [msz] at h; omega
def absI (n : Int) : Int := if n < 0 then -n else n
/-- the greater distance -/
def dst (r c : Int) : Int := if absI r ≤ absI c then absI c else absI r
/-- the program's finder pattern round its middle -/
def findI (r c : Int) : Int := if dst r c = 2 ∨ dst r c = 4 then 0 else 1
def midI (n r : Int) : Int := if n / 2 < r then n - 4 else 3
def inF (n r c : Int) : Bool := (midI n r == 3 || midI n c == 3) && decide (dst (r - midI n r) (c - midI n c) ≤ 4)
/-- the program's fixed cells -/
def fixI (n r c : Int) : Int :=
  if inF n r c then findI (r - midI n r) (c - midI n c)
  else if r = 6 ∧ 8 ≤ c ∧ c ≤ n - 9 then 1 - c % 2
  else if c = 6 ∧ 8 ≤ r ∧ r ≤ n - 9 then 1 - r % 2
  else if r = n - 8 ∧ c = 8 then 1 else -1
/-- the reference's finder -/
def findS (r c : Int) : Int := if 4 < dst (r - 3) (c - 3) then -1 else if dst (r - 3) (c - 3) = 2 ∨ dst (r - 3) (c - 3) = 4 then 0 else 1
def fixS (n r c : Int) : Int :=
  if 0 ≤ findS r c then findS r c
  else if 0 ≤ findS r (c - (n - 7)) then findS r (c - (n - 7))
  else if 0 ≤ findS (r - (n - 7)) c then findS (r - (n - 7)) c
  else if r = 6 ∧ 8 ≤ c ∧ c ≤ n - 9 then 1 - c % 2
  else if c = 6 ∧ 8 ≤ r ∧ r ≤ n - 9 then 1 - r % 2
  else if r = n - 8 ∧ c = 8 then 1 else -1
/-- the places of the format -/
def fmtA : List (Int × Int) := [(8, 0), (8, 1), (8, 2), (8, 3), (8, 4), (8, 5), (8, 7), (8, 8), (7, 8), (5, 8), (4, 8), (3, 8), (2, 8), (1, 8), (0, 8)]
def fmtB (n : Int) : List (Int × Int) := [(n - 1, 8), (n - 2, 8), (n - 3, 8), (n - 4, 8), (n - 5, 8), (n - 6, 8), (n - 7, 8), (8, n - 8), (8, n - 7), (8, n - 6), (8, n - 5), (8, n - 4), (8, n - 3), (8, n - 2), (8, n - 1)]
/-- a place that is no data cell -/
def takenI (n r c : Int) : Bool := decide (0 ≤ fixI n r c) || (fmtA.contains (r, c)) || ((fmtB n).contains (r, c))
/-- the places of a pair of columns -/
def colI (n right : Int) (up : Bool) : List (Int × Int) :=
  ((List.range (2 * n.toNat)).map fun (k : Nat) => ((if up then n - 1 - (k : Int) / 2 else (k : Int) / 2), right - (k : Int) % 2)).filter fun p => !takenI n p.1 p.2
/-- the columns from the right on, in pairs -/
def rightsI : Nat → Int → List Int
  | 0, _ => []
  | f + 1, r => if 0 < r then (if r = 6 then 5 else r) :: rightsI f ((if r = 6 then 5 else r) - 2) else []
def placesF (n : Int) : List Int → Bool → List (Int × Int)
  | [], _ => []
  | r :: l, up => colI n r up ++ placesF n l (!up)
def placesI (n : Int) : List (Int × Int) := placesF n (rightsI n.toNat (n - 1)) true
/-- the reference's count of data cells -/
def cntS (n : Nat) : Int := -30 + (((List.range (n * n)).filter fun i => decide (fixS n (i / n : Nat) (i % n : Nat) < 0)).length : Int)

end Go.Proofs.YtlcglclojlffgaaGreatDoor
namespace Go.Proofs.YtlcglclojlffgaaGreatDoor

/-- the number of data cells -/
def dcnt (n : Int) : Nat := if n = 17 then 64 else if n = 21 then 208 else if n = 25 then 384 else if n = 29 then 592 else if n = 33 then 832 else if n = 37 then 1104 else 1408
set_option maxRecDepth 100000 in
theorem places_len {n : Int} (h : msz n = true) : (placesI n).length = dcnt n := by
  rcases msz_cases h with rfl | rfl | rfl | rfl | rfl | rfl | rfl <;> decide +kernel
set_option maxRecDepth 100000 in
theorem cntS_eq {n : Int} (h : msz n = true) : cntS n.toNat = dcnt n := by
  rcases msz_cases h with rfl | rfl | rfl | rfl | rfl | rfl | rfl <;> decide +kernel
theorem dcnt_bd (n : Int) : 64 ≤ dcnt n ∧ dcnt n ≤ 1408 := by unfold dcnt; repeat' split
                                                              all_goals omega

end Go.Proofs.YtlcglclojlffgaaGreatDoor
namespace Go.Proofs.YtlcglclojlffgaaGreatDoor

instance (F : Fd) : Decidable F.Runs := inferInstanceAs (Decidable (_ ∧ _))
/-- the binary field with a power and a polynomial -/
def bF (k g : Nat) : Fd := ⟨true, k, 2 ^ k, g⟩
/-- a valid binary field: prime, power, polynomial -/
def fldB (p k g : Int) : Bool := decide (p = 2) && decide (3 ≤ k) && decide (k ≤ 8) && decide (((2 ^ k.toNat : Nat) : Int) ≤ g) && decide (g < ((2 * 2 ^ k.toNat : Nat) : Int)) && decide (bF k.toNat g.toNat).Runs
structure FldOk (p k g : Int) (F : Fd) : Prop where
  p : p = 2
  k : k = F.k
  g : g = F.g
  k3 : 3 ≤ F.k
  k8 : F.k ≤ 8
  self : F = bF F.k F.g
  fit : F.Fit
  runs : F.Runs
theorem fldB_ok {p k g : Int} (h : fldB p k g = true) : FldOk p k g (bF k.toNat g.toNat) := by
  simp only [fldB, Bool.and_eq_true, decide_eq_true_eq] at h
  obtain ⟨⟨⟨⟨⟨h1, h2⟩, h3⟩, h4⟩, h5⟩, h6⟩ := h
  have hp : 1 ≤ 2 ^ k.toNat := Nat.one_le_two_pow
  have h8 : 2 ^ 3 ≤ 2 ^ k.toNat := Nat.pow_le_pow_right (by omega) (by omega)
  refine ⟨h1, ?_, ?_, ?_, ?_, rfl, ⟨?_, ?_, ?_⟩, h6⟩
  · show k = (k.toNat : Int); omega
  · show g = (g.toNat : Int); omega
  · show 3 ≤ k.toNat; omega
  · show k.toNat ≤ 8; omega
  · show 3 ≤ 2 ^ k.toNat; omega
  · intro _
    refine ⟨rfl, ?_, ?_⟩
    · show 2 ^ k.toNat ≤ g.toNat; omega
    · show g.toNat < 2 ^ (k.toNat + 1); rw [Nat.pow_succ]; omega
  · intro h; cases h
theorem FldOk.q {p k g : Int} {F : Fd} (h : FldOk p k g F) : F.q = 2 ^ F.k := by rw [h.self]; rfl
theorem FldOk.bin {p k g : Int} {F : Fd} (h : FldOk p k g F) : F.bin = true := by rw [h.self]; rfl
theorem FldOk.q_bd {p k g : Int} {F : Fd} (h : FldOk p k g F) : 8 ≤ F.q ∧ F.q ≤ 256 := by
  rw [h.q]
  exact ⟨Nat.pow_le_pow_right (n := 2) (by omega) h.k3, Nat.pow_le_pow_right (n := 2) (by omega) h.k8⟩
/-- a list that rises within bounds -/
def risB (lo hi : Int) (l : List Int) : Bool := decide (∀ i, i < l.length → (lo ≤ l.getD i 0 ∧ l.getD i 0 ≤ hi) ∧ (0 < i → l.getD (i - 1) 0 < l.getD i 0))
def nameB (s : List UInt8) : Bool := (s.all fun c => decide (97 ≤ c.toNat) && decide (c.toNat ≤ 122)) && decide (1 ≤ s.length) && decide (s.length ≤ 8)
/-- a family in numbers -/
structure Fam where
  name : ByteArray
  kind : Int
  fp : Int
  fk : Int
  fg : Int
  sizes : List Int
  cols : Int
  levels : List Int
def Fam.ok (f : Fam) : Bool := nameB f.name.data.toList && decide (1 ≤ f.levels.length) && decide (f.levels.length ≤ 4) && risB 1 80 f.levels && decide (1 ≤ f.sizes.length) && decide (f.sizes.length ≤ 8) &&
  if f.kind = 1 then f.sizes.all msz && fldB f.fp f.fk f.fg && decide (f.cols = 0) && risB 17 41 f.sizes
  else if f.kind = 2 then decide (f.fp = 2) && decide (f.fk = 5) && decide (f.fg = 37) && decide (1 ≤ f.cols) && decide (f.cols ≤ 8) && risB 3 24 f.sizes else false

end Go.Proofs.YtlcglclojlffgaaGreatDoor
namespace Go.Proofs.YtlcglclojlffgaaGreatDoor

/-- a layout in numbers -/
structure Lay where
  data : Int
  checks : Int
  count : Int
def Lay.share (l : Lay) (b : Int) : Int := l.data / l.count + if l.count - l.data % l.count ≤ b then 1 else 0
def Lay.total (l : Lay) : Int := l.data + l.count * l.checks
def codB (q len checks : Int) : Bool := decide (1 ≤ checks) && decide (checks ≤ 64) && decide (checks + 1 ≤ len) && decide (len ≤ 255) && decide (len < q)
def Lay.ok (l : Lay) (q : Int) : Bool := decide (1 ≤ l.count) && decide (l.count ≤ 16) && decide (l.count ≤ l.data) && decide (l.data ≤ 1500) && decide (1 ≤ l.checks) && decide (l.checks ≤ 64) && decide (l.total ≤ 1500) &&
  codB q (l.share 0 + l.checks) l.checks && codB q (l.share (l.count - 1) + l.checks) l.checks
/-- the elements of a symbol -/
def Fam.elems (f : Fam) (size : Int) : Int := if f.kind = 2 then size * f.cols else (dcnt size : Int) / f.fk
def Fam.lay (f : Fam) (size level : Int) : Lay :=
  let e := f.elems size
  let m := if ((2 ^ f.fk.toNat : Nat) : Int) - 1 ≤ 255 then ((2 ^ f.fk.toNat : Nat) : Int) - 1 else 255
  let count := (e + m - 1) / m
  let x := e * f.levels.getD level.toNat 0 / 100 / count
  let y := if x ≤ 64 then x else 64
  let checks := if 2 ≤ y then y else 2
  ⟨e - count * checks, checks, count⟩

end Go.Proofs.YtlcglclojlffgaaGreatDoor
namespace Go.Proofs.YtlcglclojlffgaaGreatDoor

/-- a best segmentation of the rest of a message: its length, its segments, the bytes and the mode of the first -/
structure Ch where
  l : Int
  c : Int
  t : Int
  m : Int
def chZ : Ch := ⟨0, 0, 0, 0⟩
def chB (a b : Ch) : Bool := if a.l != b.l then decide (a.l < b.l) else if a.c != b.c then decide (a.c < b.c) else if a.t != b.t then decide (b.t < a.t) else decide (a.m < b.m)

/-- the characters of the modes 1 to 3 -/
def chars : Nat → List UInt8
  | 1 => [48, 49, 50, 51, 52, 53, 54, 55, 56, 57]
  | 2 => [48, 49, 50, 51, 52, 53, 54, 55, 56, 57, 65, 66, 67, 68, 69, 70, 71, 72, 73, 74, 75, 76, 77, 78, 79, 80, 81, 82, 83, 84, 85, 86, 87, 88, 89, 90, 32, 33, 35, 38, 40, 41, 43, 45, 47]
  | _ => [97, 98, 99, 100, 101, 102, 103, 104, 105, 106, 107, 108, 109, 110, 111, 112, 113, 114, 115, 116, 117, 118, 119, 120, 121, 122, 32, 10, 44, 46, 39, 63]
/-- the index of the first one of these characters that a number is, or -1 -/
def idxC : List UInt8 → Int → Int → Int
  | [], _, _ => -1
  | c :: l, b, k => if (c.toNat : Int) = b then k else idxC l b (k + 1)
def valC (m : Nat) (b : Int) : Int := if m = 4 then b else idxC (chars m) b 0
theorem idxC_ge : ∀ (l : List UInt8) (b k : Int), 0 ≤ k → idxC l b k = -1 ∨ (k ≤ idxC l b k ∧ idxC l b k < k + l.length)
  | [], _, _, _ => Or.inl rfl
  | c :: l, b, k, hk => by
    rw [idxC, List.length_cons]
    split
    · right; omega
    · rcases idxC_ge l b (k + 1) (by omega) with h | h
      · left; exact h
      · right; omega
theorem valC_ge (m : Nat) (b : Int) (hb : 0 ≤ b) : -1 ≤ valC m b := by
  unfold valC
  split
  · omega
  · rcases idxC_ge (chars m) b 0 (by omega) with h | h <;> omega
theorem valC_le (m : Nat) (b : Int) (hb2 : b ≤ 255) : valC m b ≤ 255 := by
  unfold valC
  split
  · omega
  · have hl : (chars m).length ≤ 45 := by unfold chars; split <;> decide
    rcases idxC_ge (chars m) b 0 (by omega) with h | h <;> omega
/-- a byte has a value in a mode -/
def inM (m : Nat) (b : UInt8) : Bool := decide (0 ≤ valC m b.toNat)
theorem inM_four (b : UInt8) : inM 4 b = true := by simp [inM, valC]

/-- bytes of a group; bits of a group -/
def grpM (m : Nat) : Nat := match m with | 1 => 3 | 2 => 2 | _ => 1
def widM (m g : Nat) : Nat := match m with
  | 1 => (match g with | 1 => 4 | 2 => 7 | 3 => 10 | _ => 0)
  | 2 => (match g with | 1 => 6 | 2 => 11 | _ => 0)
  | 3 => 5
  | _ => 8
def baseM (m : Nat) : Nat := match m with | 1 => 10 | 2 => 45 | 3 => 32 | _ => 256
theorem grpM_bd (m : Nat) : 1 ≤ grpM m ∧ grpM m ≤ 3 := by unfold grpM; split <;> decide
theorem widM_bd (m g : Nat) (hg : 1 ≤ g) (hg2 : g ≤ 3) : widM m g ≤ 8 * g := by
  unfold widM
  split
  · split <;> omega
  · split <;> omega
  · omega
  · omega
/-- the bits of the text of n bytes -/
def txtW (m n : Nat) : Nat := n / grpM m * widM m (grpM m) + if n % grpM m > 0 then widM m (n % grpM m) else 0
def segW (m n : Nat) : Nat := 11 + txtW m n
theorem txtW_le (m n : Nat) : txtW m n ≤ 8 * n := by
  unfold txtW
  obtain ⟨h1, h2⟩ := grpM_bd m
  have h3 := widM_bd m (grpM m) h1 h2
  have h4 : n / grpM m * widM m (grpM m) ≤ n / grpM m * (8 * grpM m) := Nat.mul_le_mul_left _ h3
  have h5 := Nat.div_add_mod n (grpM m)
  have h6 : n / grpM m * (8 * grpM m) = 8 * (grpM m * (n / grpM m)) := by
    rw [Nat.mul_comm, Nat.mul_assoc]
  have h7 := Nat.mod_lt n (show 0 < grpM m by omega)
  split
  · rename_i h8
    have h9 := widM_bd m (n % grpM m) h8 (by omega)
    omega
  · omega
theorem segW_le (m n : Nat) (hn : 1 ≤ n) : segW m n ≤ 19 * n := by have := txtW_le m n; unfold segW; omega

/-- how many bytes in a row have a value in a mode, at most those of a segment -/
def runL (m : Nat) : List UInt8 → Nat
  | [] => 0
  | c :: l => if inM m c then min (runL m l + 1) 255 else 0
theorem runL_le (m : Nat) : ∀ s, runL m s ≤ s.length ∧ runL m s ≤ 255
  | [] => by simp [runL]
  | c :: l => by
    have := runL_le m l
    rw [runL, List.length_cons]
    split <;> omega
theorem runL_in (m : Nat) : ∀ (s : List UInt8) (k : Nat) (c : UInt8), k < runL m s → s[k]? = some c → inM m c = true
  | [], _, _, h, _ => by simp [runL] at h
  | c :: l, k, d, h, e => by
    rw [runL] at h
    split at h
    · rename_i hc
      rcases k with - | k
      · simp at e; rw [← e]; exact hc
      · exact runL_in m l k d (by omega) (by simpa using e)
    · omega
theorem runL_out (m : Nat) : ∀ (s : List UInt8) (c : UInt8), runL m s < 255 → s[runL m s]? = some c → inM m c = false
  | [], _, _, e => by simp at e
  | c :: l, d, h, e => by
    rw [runL] at h e
    split at h
    · rename_i hc
      rw [if_pos hc] at e
      have h2 : min (runL m l + 1) 255 = runL m l + 1 := by omega
      rw [h2, List.getElem?_cons_succ] at e
      exact runL_out m l d (by omega) e
    · rename_i hc
      rw [if_neg hc, List.getElem?_cons_zero] at e
      rw [← Option.some.inj e]
      simpa using hc
theorem runL_four : ∀ (s : List UInt8), s ≠ [] → 1 ≤ runL 4 s
  | [], h => absurd rfl h
  | c :: l, _ => by rw [runL, if_pos (inM_four c)]; omega

/-- a candidate: n bytes in mode m, then the best of the rest -/
def candC (tab : List Ch) (m n : Nat) : Ch := ⟨(segW m n : Int) + (tab.getD (n - 1) chZ).l, (tab.getD (n - 1) chZ).c + 1, n, m⟩
def betC (b x : Ch) : Ch := if b.c = 0 ∨ chB x b = true then x else b
/-- the candidates of 1 to n bytes -/
def tryC (tab : List Ch) (m : Nat) : Nat → Ch → Ch
  | 0, b => b
  | n + 1, b => betC (tryC tab m n b) (candC tab m (n + 1))
/-- the candidates of the modes 1 to m -/
def modC (s : List UInt8) (tab : List Ch) : Nat → Ch
  | 0 => chZ
  | m + 1 => tryC tab (m + 1) (runL (m + 1) s) (modC s tab m)
/-- the best segmentations of all endings of a message -/
def tabC : List UInt8 → List Ch
  | [] => [chZ]
  | c :: l => modC (c :: l) (tabC l) 4 :: tabC l
theorem tabC_len : ∀ s, (tabC s).length = s.length + 1
  | [] => rfl
  | c :: l => by rw [tabC, List.length_cons, tabC_len l, List.length_cons]
theorem tabC_drop : ∀ (s : List UInt8) (k : Nat), k ≤ s.length → (tabC s).drop k = tabC (s.drop k)
  | s, 0, _ => by simp
  | [], k + 1, h => by simp at h
  | c :: l, k + 1, h => by rw [tabC, List.drop_succ_cons, List.drop_succ_cons]; exact tabC_drop l k (by simpa using h)
def hdC (s : List UInt8) : Ch := (tabC s).headD chZ
theorem tabC_at (s : List UInt8) (k : Nat) (h : k ≤ s.length) : (tabC s)[k]? = some (hdC (s.drop k)) := by
  have h1 : (tabC s)[k]? = ((tabC s).drop k)[0]? := by simp
  rw [h1, tabC_drop s k h]
  unfold hdC
  have h2 := tabC_len (s.drop k)
  cases h3 : tabC (s.drop k) with
  | nil => rw [h3] at h2; simp at h2
  | cons x r => rfl

/-- what holds of a best segmentation of some bytes -/
structure ChOk (s : List UInt8) (x : Ch) : Prop where
  t : ∃ n m : Nat, x.t = n ∧ x.m = m ∧ 1 ≤ n ∧ n ≤ s.length ∧ n ≤ 255 ∧ 1 ≤ m ∧ m ≤ 4 ∧ n ≤ runL m s ∧ x.l = (segW m n : Int) + (hdC (s.drop n)).l ∧ x.c = (hdC (s.drop n)).c + 1
/-- bounds of what stands in the table -/
def ChBd (n : Nat) (x : Ch) : Prop := 0 ≤ x.l ∧ x.l ≤ 19 * n ∧ 0 ≤ x.c ∧ x.c ≤ n
theorem betC_or (b x : Ch) : betC b x = x ∨ (betC b x = b ∧ b.c ≠ 0) := by
  unfold betC
  split
  · exact Or.inl rfl
  · rename_i h
    exact Or.inr ⟨rfl, fun e => h (Or.inl e)⟩
theorem tryC_ok {P : Ch → Prop} {tab : List Ch} {m : Nat} (b : Ch) (hb : b.c = 0 ∨ P b) : ∀ n, (∀ k, 1 ≤ k → k ≤ n → P (candC tab m k)) → (tryC tab m n b = b ∨ P (tryC tab m n b)) ∧ ((tryC tab m n b).c = 0 ∨ P (tryC tab m n b)) ∧ (1 ≤ n → P (tryC tab m n b))
  | 0, _ => ⟨Or.inl rfl, hb, fun h => by omega⟩
  | n + 1, h => by
    obtain ⟨h1, h2, h3⟩ := tryC_ok b hb n (fun k hk hk2 => h k hk (by omega))
    rw [tryC]
    have hx := h (n + 1) (by omega) (Nat.le_refl _)
    have hP : P (betC (tryC tab m n b) (candC tab m (n + 1))) := by
      rcases betC_or (tryC tab m n b) (candC tab m (n + 1)) with e | ⟨e, he⟩
      · rw [e]; exact hx
      · rw [e]; rcases h2 with h | h
        · exact absurd h he
        · exact h
    exact ⟨Or.inr hP, Or.inr hP, fun _ => hP⟩
theorem modC_ok {P : Ch → Prop} {s : List UInt8} {tab : List Ch} (h : ∀ m k : Nat, 1 ≤ m → m ≤ 4 → 1 ≤ k → k ≤ runL m s → P (candC tab m k)) : ∀ n, n ≤ 4 → (modC s tab n).c = 0 ∨ P (modC s tab n)
  | 0, _ => Or.inl rfl
  | n + 1, hn => by
    rw [modC]
    exact (tryC_ok _ (modC_ok h n (by omega)) _ (fun k hk hk2 => h (n + 1) k (by omega) hn hk hk2)).2.1
theorem modC_four {P : Ch → Prop} {s : List UInt8} {tab : List Ch} (hs : s ≠ []) (h : ∀ m k : Nat, 1 ≤ m → m ≤ 4 → 1 ≤ k → k ≤ runL m s → P (candC tab m k)) : P (modC s tab 4) := by
  show P (tryC tab 4 (runL 4 s) (modC s tab 3))
  exact (tryC_ok _ (modC_ok h 3 (by omega)) _ (fun k hk hk2 => h 4 k (by omega) (by omega) hk hk2)).2.2 (runL_four s hs)
theorem hdC_ok {s : List UInt8} (hs : s ≠ []) : ChOk s (hdC s) := by
  cases s with
  | nil => exact absurd rfl hs
  | cons c l =>
    show ChOk (c :: l) (modC (c :: l) (tabC l) 4)
    apply modC_four hs
    intro m k hm hm4 hk hkr
    have h1 := runL_le m (c :: l)
    have h2 : (tabC l).getD (k - 1) chZ = hdC ((c :: l).drop k) := by
      obtain ⟨j, rfl⟩ : ∃ j, k = j + 1 := ⟨k - 1, by omega⟩
      rw [List.drop_succ_cons, Nat.add_sub_cancel, List.getD_eq_getElem?_getD, tabC_at l j (by simp at h1; omega)]
      rfl
    exact ⟨k, m, rfl, rfl, hk, by omega, by omega, hm, hm4, hkr, by rw [candC, h2], by rw [candC, h2]⟩
theorem hdC_bd : ∀ (n : Nat) (s : List UInt8), s.length ≤ n → ChBd s.length (hdC s)
  | n, [], _ => by simp [ChBd, hdC, tabC, chZ]
  | 0, c :: l, h => by simp at h
  | n + 1, c :: l, h => by
    obtain ⟨k, m, h1, h2, h3, h4, h5, h6, h7, h8, h9, h10⟩ := (hdC_ok (s := c :: l) (by simp)).t
    have h11 := hdC_bd n ((c :: l).drop k) (by rw [List.length_drop]; omega)
    rw [List.length_drop] at h11
    obtain ⟨g1, g2, g3, g4⟩ := h11
    have h12 := segW_le m k h3
    exact ⟨by omega, by omega, by omega, by omega⟩
end Go.Proofs.YtlcglclojlffgaaGreatDoor
namespace Go.Proofs.YtlcglclojlffgaaGreatDoor

/-- the built-in families -/
def libF : List Fam :=
  [⟨⟨#[116, 105, 108, 101]⟩, 1, 2, 4, 19, [17, 21, 25], 0, [20, 40]⟩,
   ⟨⟨#[112, 97, 110, 101, 108]⟩, 1, 2, 6, 67, [17, 21, 25, 29, 33], 0, [15, 30, 60]⟩,
   ⟨⟨#[112, 108, 97, 116, 101]⟩, 1, 2, 8, 285, [17, 21, 25, 29, 33, 37, 41], 0, [10, 20, 30, 50]⟩,
   ⟨⟨#[115, 116, 97, 99, 107]⟩, 2, 2, 5, 37, [4, 6, 8, 12, 16, 24], 4, [25, 50]⟩,
   ⟨⟨#[114, 105, 98, 98, 111, 110]⟩, 2, 2, 5, 37, [3, 4, 5], 8, [30]⟩]
/-- the family with a name -/
def famN (nm : ByteArray) : Option Fam := libF.find? fun f => decide (f.name = nm)
/-- the elements that a message needs, if it has a payload at all -/
def needS (k : Nat) (S : List UInt8) : Int := if 1 ≤ ((hdC S).l + k - 1) / k then ((hdC S).l + k - 1) / k else 1
def payS (k : Nat) (S : List UInt8) : Option Int := if S.length ≤ 400 ∧ needS k S ≤ 1500 then some (needS k S) else none
/-- the smallest size of a symbol with a message -/
def smS (f : Fam) (lev : Int) (S : List UInt8) : Option Int :=
  if 0 ≤ lev ∧ lev < f.levels.length then
    match payS f.fk.toNat S with
    | some need => f.sizes.find? fun n => (f.lay n lev).ok ((2 ^ f.fk.toNat : Nat) : Int) && decide (need ≤ (f.lay n lev).data)
    | none => none
  else none
/-- an item of a label -/
structure It where
  kind : Int
  row : Int
  col : Int
  scale : Int
  tall : Int
  wide : Int
  name : ByteArray
  level : Int
  text : ByteArray
/-- a byte has a glyph -/
def glyB (b : Int) : Bool := decide (b = 32) || (decide (48 ≤ b) && decide (b ≤ 57)) || (decide (65 ≤ b) && decide (b ≤ 90))
def colsF (f : Fam) (n : Int) : Int := if f.kind = 1 then n else 15 + 11 * (f.cols + 2)
def scaledI (x : It) : Bool := decide (1 ≤ x.scale) && decide (x.scale ≤ 8) && decide (x.tall = 0) && decide (x.wide = 0)
def plainI (x : It) : Bool := decide (x.name = ⟨#[]⟩) && decide (x.level = 0)
/-- the rows and columns of the box of an item -/
def boxI (x : It) : Option (Int × Int) :=
  if x.kind = 1 then
    if plainI x = true ∧ scaledI x = true ∧ 1 ≤ x.text.size ∧ x.text.size ≤ 40 ∧ (x.text.data.toList.all fun b => glyB b.toNat) = true then some (5 * x.scale, (4 * x.text.size - 1) * x.scale) else none
  else if x.kind = 2 then
    if plainI x = true ∧ x.scale = 0 ∧ x.text = ⟨#[]⟩ ∧ (1 ≤ x.tall ∧ x.tall ≤ 400) ∧ 1 ≤ x.wide ∧ x.wide ≤ 400 then some (x.tall, x.wide) else none
  else if x.kind = 3 then
    if scaledI x = true ∧ (x.text.data.toList.contains 10) = false then
      match famN x.name with
      | some f => (smS f x.level x.text.data.toList).map fun n => (n * x.scale, colsF f n * x.scale)
      | none => none
    else none
  else none
structure Lb where
  rows : Int
  cols : Int
  items : List It
/-- an item lies on a label -/
def onL (l : Lb) (x : It) : Bool :=
  match boxI x with
  | some (r, c) => decide (r ≤ l.rows) && decide (c ≤ l.cols) && decide (0 ≤ x.row) && decide (x.row ≤ l.rows - r) && decide (0 ≤ x.col) && decide (x.col ≤ l.cols - c)
  | none => false
def Lb.ok (l : Lb) : Bool := decide (1 ≤ l.rows) && decide (l.rows ≤ 400) && decide (1 ≤ l.cols) && decide (l.cols ≤ 400) && decide (l.rows * l.cols ≤ 40000) && decide (l.items.length ≤ 12) && l.items.all (onL l)

end Go.Proofs.YtlcglclojlffgaaGreatDoor
namespace Go.Proofs.YtlcglclojlffgaaGreatDoor
open Go.RowKit

/-- low <= n <= high -/
def inB (n lo hi : Int) : Bool := decide (lo ≤ n ∧ n ≤ hi)
theorem inB_iff {n lo hi : Int} : inB n lo hi = true ↔ lo ≤ n ∧ n ≤ hi := by simp [inB]
theorem inB_not {n lo hi : Int} : inB n lo hi = false ↔ n < lo ∨ hi < n := by simp [inB]; omega

set_option maxHeartbeats 400000 in
theorem inRange_any (n lo hi : Int) (w : World) :
    Calls Tryz.prog 71 #[.int .i64 n, .int .i64 lo, .int .i64 hi] w fun e w' => e = .returned (.bool (inB n lo hi)) ∧ w = w' := by
  have e : inB n lo hi = (decide (lo ≤ n) && decide (n ≤ hi)) := by simp [inB]
  rw [e]
  clear e
  go_enter Tryz.func71, Tryz.ntmps71
  go_wp2
  all_goals go_ret
  all_goals exact ⟨ret_bool (by simp; try omega), rfl⟩

set_option maxHeartbeats 400000 in
theorem l01In_any (n lo hi : Int) (w : World) :
    Calls Tryz.prog 44 #[.int .i64 n, .int .i64 lo, .int .i64 hi] w fun e w' => e = .returned (.bool (inB n lo hi)) ∧ w = w' := by
  have e : inB n lo hi = (decide (lo ≤ n) && decide (n ≤ hi)) := by simp [inB]
  rw [e]
  clear e
  go_enter Tryz.func44, Tryz.ntmps44
  go_wp2
  all_goals go_ret
  all_goals exact ⟨ret_bool (by simp; try omega), rfl⟩

theorem inRange_val {n lo hi : Int} {b : Bool} {w : World} (h : inB n lo hi = b) :
    Calls Tryz.prog 71 #[.int .i64 n, .int .i64 lo, .int .i64 hi] w fun e w' => e = .returned (.bool b) ∧ w = w' := h ▸ inRange_any n lo hi w
theorem l01In_val {n lo hi : Int} {b : Bool} {w : World} (h : inB n lo hi = b) :
    Calls Tryz.prog 44 #[.int .i64 n, .int .i64 lo, .int .i64 hi] w fun e w' => e = .returned (.bool b) ∧ w = w' := h ▸ l01In_any n lo hi w

end Go.Proofs.YtlcglclojlffgaaGreatDoor
namespace Go.Proofs.YtlcglclojlffgaaGreatDoor
open Go.RowKit

/-! A REGION THAT DRAWS ITS ORDER, each operation by what it leaves: whatever the order, what each operation has left stands at the end, if nothing that comes in between does away with it. -/

/-- how many are not listed -/
def unl : List Bool → Nat
  | [] => 0
  | b :: r => (if b then 0 else 1) + unl r
theorem unl_set : ∀ (l : List Bool) (i : Nat), l[i]? = some false → unl (l.set i true) + 1 = unl l
  | [], i, h => by simp at h
  | b :: r, 0, h => by simp at h; subst h; simp [unl]; omega
  | b :: r, i + 1, h => by
    have := unl_set r i (by simpa using h)
    simp only [List.set_cons_succ, unl]
    omega
theorem unl_zero : ∀ (l : List Bool), unl l = 0 → ∀ i, l.getD i true = true
  | [], _, i => by simp
  | b :: r, h, i => by
    simp only [unl] at h
    cases b with
    | false => simp at h
    | true =>
      cases i with
      | zero => simp
      | succ i => simpa using unl_zero r (by simpa using h) i
theorem unl_replicate (n : Nat) : unl (List.replicate n false) = n := by
  induction n with
  | zero => rfl
  | succ n ih => simp [List.replicate_succ, unl, ih]; omega

/-- the frame with the values us in the slots ds -/
def over (a : Act) (ds : List Nat) (us : Nat → Value) : Act := { a with tmps := a.tmps.mapIdx fun t v => if ds.contains t then us t else v }
/-- one value more -/
def upd (us : Nat → Value) (d : Option Nat) (v : Value) : Nat → Value :=
  match d with
  | some d => fun t => if t = d then v else us t
  | none => us
theorem upd_ne {us : Nat → Value} {d : Option Nat} {v : Value} {t : Nat} (h : d ≠ some t) : upd us d v t = us t := by
  cases d with
  | none => rfl
  | some d => simp only [upd]; rw [if_neg (fun e => h (by rw [e]))]

theorem over_put {a : Act} {ds : List Nat} {us : Nat → Value} {d : Option Nat} {v : Value} (h : ∀ t, d = some t → ds.contains t = true) : (over a ds us).put d v = over a ds (upd us d v) := by
  cases d with
  | none => rfl
  | some t =>
    have ht := h t rfl
    simp only [Act.put, over]
    congr 1
    apply Array.ext_getElem?
    intro i
    rw [Array.getElem?_setIfInBounds]
    simp only [Array.getElem?_mapIdx, Array.size_mapIdx]
    by_cases e : t = i
    · subst e
      simp only [if_true]
      by_cases hb : t < a.tmps.size
      · simp only [hb, if_true, Array.getElem?_eq_getElem hb, Option.map_some, ht, upd]
      · simp only [hb, if_false, Array.getElem?_eq_none (Nat.le_of_not_lt hb), Option.map_none]
    · simp only [e, if_false, upd, show ¬ i = t from fun h => e h.symm]

variable {P : Program} {ops : Array Oper} {Q : Exit → Act → World → Prop}

theorem getD_toList (l : Array Bool) (i : Nat) (d : Bool) : l.getD i d = l.toList.getD i d := by simp [Array.getD_eq_getD_getElem?, List.getD_eq_getElem?_getD]

/-- what stands while the head is under way -/
structure Under (ops : Array Oper) (m : Nat) (a0 : Act) (ds : List Nat) (G : Nat → (Nat → Value) → World → Prop) (St : World → Prop) (listed : Array Bool) (a : Act) (w : World) : Prop where
  size : listed.size = ops.size
  tail : ∀ j, m ≤ j → j < ops.size → listed.getD j true = false
  closed : ∀ j o, ops[j]? = some o → listed.getD j false = true → ∀ e ∈ o.after, Region.binds .any e = true → listed.getD e.on false = true
  st : St w
  left : ∃ us, a = over a0 ds us ∧ ∀ j, j < m → listed.getD j false = true → G j us w

theorem getD_set_true {listed : Array Bool} {i j : Nat} (h : listed.getD j false = true) : (listed.setIfInBounds i true).getD j false = true := by
  rw [getD_toList, Array.toList_setIfInBounds, List.getD_eq_getElem?_getD, List.getElem?_set]
  rw [getD_toList, List.getD_eq_getElem?_getD] at h
  by_cases e : i = j
  · subst e
    cases hx : listed.toList[i]? with
    | none => rw [hx] at h; simp at h
    | some b =>
      have h3 := (List.getElem?_eq_some_iff.1 hx).1
      rw [if_pos rfl, if_pos h3]; rfl
  · rw [if_neg e]; exact h
theorem getD_set_other {listed : Array Bool} {i j : Nat} {d : Bool} (e : i ≠ j) : (listed.setIfInBounds i true).getD j d = listed.getD j d := by
  rw [getD_toList, Array.toList_setIfInBounds, List.getD_eq_getElem?_getD, List.getElem?_set, if_neg e, ← List.getD_eq_getElem?_getD, ← getD_toList]

/-- what one operation of the head owes: IN EVERY FRAME AND WORLD in which what it waits for stands, it leaves what is said of it, and does away with nothing -/
def Owes (P : Program) (ops : Array Oper) (Q : Exit → Act → World → Prop) (a0 : Act) (ds : List Nat) (G : Nat → (Nat → Value) → World → Prop) (St : World → Prop) (Keep : World → World → Prop) (i : Nat) (o : Oper) : Prop :=
  ∀ (us : Nat → Value) (w : World), St w → (∀ e ∈ o.after, Region.binds .any e = true → G e.on us w) →
    if Region.wanted o (yielded ops (over a0 ds us).tmps) then o.wp P (over a0 ds us) w (fun a' w' => ∃ v, a' = (over a0 ds us).put o.dst v ∧ St w' ∧ Keep w w' ∧ G i (upd us o.dst v) w') Q
    else G i (upd us o.dst undef) w

end Go.Proofs.YtlcglclojlffgaaGreatDoor
namespace Go.Proofs.YtlcglclojlffgaaGreatDoor
open Go.RowKit

/-- what one operation yields, and the world that it leaves -/
def leavesUpon (P : Program) (R : Value → World → Prop) : Result Next → Prop
  | .ok (.value v) w' => R v w'
  | .ok .skip w' => R undef w'
  | .ok (.enter f args) w' => Calls P f args w' (fun e w'' => ∃ v, e = .returned v ∧ R v w'')
  | _ => False
def leaves (P : Program) (o : Oper) (a : Act) (w : World) (R : Value → World → Prop) : Prop := leavesUpon P R ((execOp a.eval o).run P w)
attribute [go_sem] leavesUpon leaves

theorem wp_of_leaves {P : Program} {o : Oper} {a : Act} {w : World} {R : Value → World → Prop} {K : Act → World → Prop} {Q : Exit → Act → World → Prop} (h : ∀ v w', R v w' → K (a.put o.dst v) w') (hh : leaves P o a w R) : o.wp P a w K Q := by
  unfold leaves at hh
  unfold Oper.wp
  generalize (execOp a.eval o).run P w = r at *
  cases r with
  | ok n w' =>
    cases n <;> simp only [leavesUpon] at hh <;> simp only [Oper.upon]
    case value v => exact h _ _ hh
    case skip => exact h _ _ hh
    case enter f args => exact hh.mono fun e w'' ⟨v, he, hr⟩ => by subst he; exact h _ _ hr
  | halt x w' => simp only [leavesUpon] at hh

/-- behind an operation: it has kept what it had to, and what is said of it holds -/
def RgR (G : Nat → (Nat → Value) → World → Prop) (St : World → Prop) (Keep : World → World → Prop) (us : Nat → Value) (w : World) (i : Nat) (d : Option Nat) (v : Value) (w' : World) : Prop :=
  St w' ∧ Keep w w' ∧ G i (upd us d v) w'
/-- the head's operations, one by one -/
def rgAll (P : Program) (ops : Array Oper) (A : (Nat → Value) → Act) (G : Nat → (Nat → Value) → World → Prop) (St : World → Prop) (Keep : World → World → Prop) : Nat → List Oper → Prop
  | _, [] => True
  | i, o :: r => (∀ (us : Nat → Value) (w : World), St w → (∀ e ∈ o.after, Region.binds .any e = true → G e.on us w) →
      if Region.wanted o (yielded ops (A us).tmps) then leaves P o (A us) w (RgR G St Keep us w i o.dst) else G i (upd us o.dst undef) w) ∧ rgAll P ops A G St Keep (i + 1) r

theorem rgAll_at {P : Program} {ops : Array Oper} {A : (Nat → Value) → Act} {G : Nat → (Nat → Value) → World → Prop} {St : World → Prop} {Keep : World → World → Prop} : ∀ (l : List Oper) (k : Nat), rgAll P ops A G St Keep k l → ∀ i o, l[i]? = some o →
    ∀ (us : Nat → Value) (w : World), St w → (∀ e ∈ o.after, Region.binds .any e = true → G e.on us w) →
      if Region.wanted o (yielded ops (A us).tmps) then leaves P o (A us) w (RgR G St Keep us w (k + i) o.dst) else G (k + i) (upd us o.dst undef) w
  | [], _, _, i, o, h => by simp at h
  | o' :: r, k, hall, 0, o, h => by simp at h; subst h; exact hall.1
  | o' :: r, k, hall, i + 1, o, h => by
    have := rgAll_at r (k + 1) hall.2 i o (by simpa using h)
    rw [show k + 1 + i = k + (i + 1) by omega] at this
    exact this

end Go.Proofs.YtlcglclojlffgaaGreatDoor
namespace Go.Proofs.YtlcglclojlffgaaGreatDoor
open Go.RowKit

/-- what is said of an operation's value: it stays true while the world is kept -/
structure Sp (Keep : World → World → Prop) where
  holds : Value → World → Prop
  kept : ∀ v w w', Keep w w' → holds v w → holds v w'

/-- what is said of operation j -/
def depHolds {Keep : World → World → Prop} (l : List Oper) (sp : List (Sp Keep)) (us : Nat → Value) (w : World) (j : Nat) : Prop :=
  match l[j]?, sp[j]? with
  | some o, some s => match o.dst with
    | some d => s.holds (us d) w
    | none => True
  | _, _ => True
def supOf (l : List Oper) (j : Nat) : List Nat :=
  match l[j]? with
  | some o => o.dst.toList
  | none => []

theorem depHolds_kept {Keep : World → World → Prop} {l : List Oper} {sp : List (Sp Keep)} {us : Nat → Value} {w w' : World} {j : Nat} (hk : Keep w w') (h : depHolds l sp us w j) : depHolds l sp us w' j := by
  unfold depHolds at *
  split
  · rename_i o s ho hs
    simp only [ho, hs] at h
    split
    · rename_i d hd
      simp only [hd] at h
      exact s.kept _ _ _ hk h
    · trivial
  · trivial
theorem depHolds_sup {Keep : World → World → Prop} {l : List Oper} {sp : List (Sp Keep)} {us us' : Nat → Value} {w : World} {j : Nat} (he : ∀ t ∈ supOf l j, us t = us' t) (h : depHolds l sp us w j) : depHolds l sp us' w j := by
  unfold depHolds at *
  split
  · rename_i o s ho hs
    simp only [ho, hs] at h
    split
    · rename_i d hd
      simp only [hd] at h
      have := he d (by simp [supOf, ho, hd])
      rwa [← this]
    · trivial
  · trivial

/-- behind an operation -/
def RsR {Keep : World → World → Prop} (St : World → Prop) (s : Sp Keep) (w : World) (v : Value) (w' : World) : Prop := St w' ∧ Keep w w' ∧ s.holds v w'
def rsAll (P : Program) (l : List Oper) (A : (Nat → Value) → Act) {Keep : World → World → Prop} (sp : List (Sp Keep)) (St : World → Prop) : List Oper → List (Sp Keep) → Prop
  | o :: r, s :: t => (∀ (us : Nat → Value) (w : World), St w → (∀ e ∈ o.after, Region.binds .any e = true → depHolds l sp us w e.on) →
      if Region.wanted o (yielded l.toArray (A us).tmps) then leaves P o (A us) w (RsR St s w) else s.holds undef w) ∧ rsAll P l A sp St r t
  | _, _ => True

theorem rg_of_rs {P : Program} {l : List Oper} {A : (Nat → Value) → Act} {Keep : World → World → Prop} {sp : List (Sp Keep)} {St : World → Prop} : ∀ (r : List Oper) (t : List (Sp Keep)) (k : Nat), r.length = t.length → (∀ j, r[j]? = some r[j]! → l[k + j]? = r[j]?) → (∀ j, j < r.length → l[k + j]? = r[j]?) → (∀ j, j < t.length → sp[k + j]? = t[j]?) → rsAll P l A sp St r t →
    rgAll P l.toArray A (fun i us w => depHolds l sp us w i) St Keep k r
  | [], [], _, _, _, _, _, _ => trivial
  | o :: r, s :: t, k, hlen, hx, hl, hs, h => by
    refine ⟨fun us w hst hd => ?_, rg_of_rs r t (k + 1) (by simpa using hlen) (fun j _ => ?_) (fun j hj => ?_) (fun j hj => ?_) h.2⟩
    · have h1 := h.1 us w hst hd
      have e1 : l[k]? = some o := by simpa using hl 0 (by simp)
      have e2 : sp[k]? = some s := by simpa using hs 0 (by simp)
      have dep : ∀ v w', s.holds v w' → depHolds l sp (upd us o.dst v) w' k := fun v w' hv => by
        unfold depHolds
        simp only [e1, e2]
        cases hd : o.dst with
        | none => trivial
        | some d => simpa [upd] using hv
      by_cases hw : Region.wanted o (yielded l.toArray (A us).tmps) = true
      · rw [if_pos hw] at h1 ⊢
        unfold leaves at *
        generalize (execOp (A us).eval o).run P w = q at *
        cases q with
        | ok n w' =>
          cases n <;> simp only [leavesUpon] at h1 ⊢
          case value v => exact ⟨h1.1, h1.2.1, dep _ _ h1.2.2⟩
          case skip => exact ⟨h1.1, h1.2.1, dep _ _ h1.2.2⟩
          case enter f args => exact h1.mono fun e w'' ⟨v, he, hr⟩ => ⟨v, he, hr.1, hr.2.1, dep _ _ hr.2.2⟩
        | halt x w' => simp only [leavesUpon] at h1
      · rw [if_neg hw] at h1 ⊢
        exact dep _ _ h1
    · have := hl (j + 1)
      by_cases hj : j < r.length
      · have := this (by simpa using hj)
        simpa [Nat.add_assoc, Nat.add_comm 1 j] using this
      · rename_i hh
        rw [List.getElem?_eq_none (by omega)] at hh; cases hh
    · have := hl (j + 1) (by simpa using hj)
      simpa [Nat.add_assoc, Nat.add_comm 1 j] using this
    · have := hs (j + 1) (by simpa using hj)
      simpa [Nat.add_assoc, Nat.add_comm 1 j] using this

end Go.Proofs.YtlcglclojlffgaaGreatDoor
namespace Go.Proofs.YtlcglclojlffgaaGreatDoor
open Go.RowKit

/-! Regions that draw their order and only read or make memory: what stands in world w0 stands still. -/
def KB (W W' : World) : Prop := Below W.heap.size W W'
def StX (w0 W : World) : Prop := Below w0.heap.size w0 W
def spE (v : Value) : Sp KB := ⟨fun u _ => u = v, fun _ _ _ _ h => h⟩
/-- a slice of n cells, each as f tells -/
def RowF (n : Nat) (f : Nat → Value) (u : Value) (W : World) : Prop := ∃ b, u = .slice (some ⟨b, 0, none⟩) n n ∧ ∀ i, i < n → W.cell? ⟨b, i, none⟩ = some (f i)
theorem RowF.below {n : Nat} {f : Nat → Value} {u : Value} {W W' : World} (h : RowF n f u W) (hb : Below W.heap.size W W') : RowF n f u W' := by
  obtain ⟨b, e, hc⟩ := h
  exact ⟨b, e, fun i hi => by rw [hb.cell (p := ⟨b, i, none⟩) (lt_of_cell (hc i hi))]; exact hc i hi⟩
theorem stX0 (w : World) : StX w w.drew := (Below.refl _ _).drew
theorem kbr (w : World) : KB w w := Below.refl _ _
theorem kb_same {w0 W : World} {s : Sp KB} {v : Value} (hst : StX w0 W) (h : s.holds v W) : RsR (StX w0) s W v W := ⟨hst, Below.refl _ _, h⟩
theorem kb_below {w0 W W' : World} {s : Sp KB} {v : Value} (hst : StX w0 W) (hb : Below W.heap.size W W') (h : s.holds v W') : RsR (StX w0) s W v W' := ⟨bt0 hst hb (Nat.le_refl _), hb, h⟩
end Go.Proofs.YtlcglclojlffgaaGreatDoor
namespace Go.Proofs.YtlcglclojlffgaaGreatDoor
open Go.RowKit

theorem push_at (w : World) (A : Obj) : (w.alloc A).heap[w.heap.size]? = some A := Array.getElem?_push_size
theorem push_old {w : World} {i : Nat} {A B : Obj} (h : w.heap[i]? = some B) : (w.alloc A).heap[i]? = some B := ((ba1 w A).block i (Array.getElem?_eq_some_iff.1 h).1).trans h
theorem heap2 (w : World) (A B : Obj) : ((w.alloc A).alloc B).heap[w.heap.size]? = some A ∧ ((w.alloc A).alloc B).heap[w.heap.size + 1]? = some B := by
  refine ⟨push_old (push_at w A), ?_⟩
  have h := push_at (w.alloc A) B
  rw [World.size_alloc] at h
  exact h
theorem heap3 (w : World) (A B C : Obj) : (((w.alloc A).alloc B).alloc C).heap[w.heap.size]? = some A ∧ (((w.alloc A).alloc B).alloc C).heap[w.heap.size + 1]? = some B ∧ (((w.alloc A).alloc B).alloc C).heap[w.heap.size + 1 + 1]? = some C := by
  refine ⟨push_old (heap2 w A B).1, push_old (heap2 w A B).2, ?_⟩
  have h := push_at ((w.alloc A).alloc B) C
  rw [World.size_alloc, World.size_alloc] at h
  exact h
theorem blk {w w' : World} {B i : Nat} {A : Obj} (hb : Below B w w') (h : w.heap[i]? = some A) (hB : i < B) : w'.heap[i]? = some A := (hb.block i hB).trans h
theorem blkK {w w' : World} {i : Nat} {A : Obj} (hb : Below w.heap.size w w') (h : w.heap[i]? = some A) : w'.heap[i]? = some A := (hb.block i (Array.getElem?_eq_some_iff.1 h).1).trans h
theorem blkLt {w : World} {i : Nat} {A : Obj} (h : w.heap[i]? = some A) : i < w.heap.size := (Array.getElem?_eq_some_iff.1 h).1

end Go.Proofs.YtlcglclojlffgaaGreatDoor
namespace Go.Proofs.YtlcglclojlffgaaGreatDoor
open Go.RowKit

/-- n bytes at a, in blocks below base -/
def BytesAt (w : World) (base : Nat) (a : Option Addr) (n : Nat) : Prop :=
  ∀ i, i < n → ∃ b o z, a = some ⟨b, o, none⟩ ∧ b < base ∧ w.cell? ⟨b, o + i, none⟩ = some (.int .u8 z) ∧ 0 ≤ z ∧ z ≤ 255

theorem BytesAt.kept {w w' : World} {base : Nat} {a : Option Addr} {n : Nat} (h : BytesAt w base a n) (hb : ∀ k, k < base → w'.heap[k]? = w.heap[k]?) : BytesAt w' base a n := by
  intro i hi
  obtain ⟨b, o, z, ha, hlt, hc, hz⟩ := h i hi
  exact ⟨b, o, z, ha, hlt, by rw [World.cell?_of_block (w := w) (a := ⟨b, o + i, none⟩) (hb b hlt)]; exact hc, hz⟩

/-- block b is a source of drawn numbers -/
def SrcAt (w : World) (b : Nat) (a : Option Addr) (n c : Nat) (at_ seed : Int) (base : Nat) : Prop :=
  base ≤ b ∧ BytesAt w base a n ∧ w.heap[b]? = some (.cells #[.slice a n c, .int .i64 at_, .int .i64 seed] 91 (0, 0)) ∧ n ≤ 4096 ∧ 0 ≤ at_ ∧ at_ ≤ n ∧ 0 ≤ seed ∧ seed < 2147483647
def Src (w : World) (b : Nat) : Prop := ∃ a n c at_ seed base, SrcAt w b a n c at_ seed base

theorem Src.lt {w : World} {b : Nat} (h : Src w b) : b < w.heap.size := by
  obtain ⟨a, n, c, at_, seed, base, _, _, hb, _⟩ := h
  exact (Array.getElem?_eq_some_iff.1 hb).1

/-- a source stays one while other blocks are written or made -/
theorem Src.kept {w w' : World} {b : Nat} {row : Option Nat} (h : Src w b) (hg : w.grownBy w' row) (hne : ∀ k, row = some k → b < k) : Src w' b := by
  have hlt := h.lt
  obtain ⟨a, n, c, at_, seed, base, h1, h2, h3, h4⟩ := h
  refine ⟨a, n, c, at_, seed, base, h1, h2.kept (fun k hk => hg.block k (by omega) (fun e => by have := hne k e.symm; omega)), ?_, h4⟩
  rw [hg.block b hlt (fun e => by have := hne b e.symm; omega)]
  exact h3
theorem Src.below {w w' : World} {b : Nat} (h : Src w b) (hb : Below w.heap.size w w') : Src w' b :=
  h.kept (row := none) ⟨hb.os, hb.tape, hb.output, hb.size, fun k hk _ => hb.block k hk⟩ (fun k e => by cases e)

/-- a number is drawn -/
def RetNum (w : World) (b : Nat) (n : Int) (e : Ending) (w' : World) : Prop :=
  ∃ r : Int, e = .returned (.int .i64 r) ∧ 0 ≤ r ∧ (r < n ∨ r = 0) ∧ Src w' b ∧ w.grownBy w' (some b)

theorem RetNum.mk {w w' : World} {b : Nat} {n : Int} {a : Option Addr} {m c : Nat} {at_ seed at2 seed2 r : Int} {base : Nat} (h : SrcAt w b a m c at_ seed base)
    (h' : w'.heap[b]? = some (.cells #[.slice a m c, .int .i64 at2, .int .i64 seed2] 91 (0, 0))) (hg : w.grownBy w' (some b)) (h1 : 0 ≤ at2) (h2 : at2 ≤ m) (h3 : 0 ≤ seed2) (h4 : seed2 < 2147483647) (h5 : 0 ≤ r) (h6 : r < n ∨ r = 0) :
    RetNum w b n (.returned (.int .i64 r)) w' := by
  obtain ⟨q1, q2, q3, q4, _⟩ := h
  have hlt : b < w.heap.size := (Array.getElem?_eq_some_iff.1 q3).1
  exact ⟨r, rfl, h5, h6, ⟨a, m, c, at2, seed2, base, q1, q2.kept (fun k hk => hg.block k (by omega) (fun e => by have := Option.some.inj e; omega)), h', q4, h1, h2, h3, h4⟩, hg⟩

theorem src_set {w : World} {b : Nat} {C : Array Value} {t : TypeId} {fr : Nat × Nat} (h : w.heap[b]? = some (.cells C t fr)) (i : Nat) (v : Value) : (w.setCell ⟨b, i, none⟩ v).heap[b]? = some (.cells (C.setIfInBounds i v) t fr) := by
  rw [setCell_eq_setRow w b i C t fr v h]
  exact setRow_heap w b _ _ t _ h
theorem grownBy_set (w : World) (b i : Nat) (v : Value) : w.grownBy (w.setCell ⟨b, i, none⟩ v) (some b) :=
  ⟨rfl, rfl, rfl, by simp, fun k _ hk => heap_setCell_other w ⟨b, i, none⟩ k v (fun e => hk (by simp [e]))⟩

end Go.Proofs.YtlcglclojlffgaaGreatDoor
namespace Go.Proofs.YtlcglclojlffgaaGreatDoor
open Go.RowKit

/-- five numbers as a value -/
abbrev ar5 (x0 x1 x2 x3 x4 : Int) : Value := .agg #[.int .i64 x0, .int .i64 x1, .int .i64 x2, .int .i64 x3, .int .i64 x4]
/-- the rows of a glyph and whether there is one are handed back -/
def RetGl (b : Int) (w : World) (e : Ending) (w' : World) : Prop := (∃ x0 x1 x2 x3 x4 : Int, e = .returned (.tuple #[ar5 x0 x1 x2 x3 x4, .bool (glyB b)])) ∧ Below w.heap.size w w'
theorem glyB_eq (b : Int) : glyB b = (decide (b = 32) || inB b 48 57 || inB b 65 90) := by
  rw [glyB, Bool.eq_iff_iff]
  simp [inB]

/-- the rows while they are read -/
def GlySt (w : World) (wr : World) : Prop :=
  (∃ x0 x1 x2 x3 x4 : Int, wr.heap[w.heap.size + 1]? = some (.cells #[.int .i64 x0, .int .i64 x1, .int .i64 x2, .int .i64 x3, .int .i64 x4] 224 (0, 0))) ∧
    wr.heap[w.heap.size]? = some (.cells #[.int .i64 0, .int .i64 0, .int .i64 0, .int .i64 0, .int .i64 0] 224 (0, 0)) ∧ Below w.heap.size w wr
set_option maxRecDepth 100000 in
set_option maxHeartbeats 4000000 in
theorem glyph_any (b : Int) (w : World) :
    Calls Tryz.prog 166 #[.int .i64 b] w (RetGl b w) := by
  have HG := Lib.hid (glyB_eq b)
  obtain ⟨R, hR⟩ : ∃ R, R = glyB b := ⟨_, rfl⟩
  unfold RetGl
  rw [← hR] at HG ⊢
  clear hR
  by_cases h32 : b = 32
  · subst h32
    obtain rfl : R = true := by rw [HG.out]; rfl
    go_enter Tryz.func166, Tryz.ntmps166
    go_wp2_with fail
    refine bodyPost_ret (v := .tuple #[ar5 0 0 0 0 0, .bool true]) (by simp [results, Tryz.results166, go_sem]) rfl ⟨⟨0, 0, 0, 0, 0, rfl⟩, ?_⟩
    first
      | exact ba2 _ _ _
      | (iterate 5 (refine Below.setCell ?_ (by dsimp only; omega) _)
         exact ba2 _ _ _)
  · have h32b : (b == 32) = false := by rw [beq_eq_false_iff_ne]; exact h32
    have HE2 := heap2 w (.cells #[.int .i64 0, .int .i64 0, .int .i64 0, .int .i64 0, .int .i64 0] 224 (0, 0)) (.cells #[.int .i64 0, .int .i64 0, .int .i64 0, .int .i64 0, .int .i64 0] 224 (0, 0))
    have HH := Lib.hid HE2
    clear HE2
    rcases Bool.eq_false_or_eq_true (inB b 48 57 || inB b 65 90) with hd | hd
    · obtain rfl : R = true := by rw [HG.out, Bool.or_assoc, hd, Bool.or_true]
      go_enter Tryz.func166, Tryz.ntmps166
      rcases Bool.eq_false_or_eq_true (inB b 48 57) with h1 | h1
      rotate_left
      rcases Bool.eq_false_or_eq_true (inB b 65 90) with h2 | h2
      rotate_left
      · rw [h1, h2] at hd; cases hd
      all_goals
        have hbd : (48 ≤ b ∧ b ≤ 57) ∨ (65 ≤ b ∧ b ≤ 90) := by
          first
            | exact .inl (inB_iff.1 h1)
            | exact .inr (inB_iff.1 h2)
        clear hd
        go_wp2_with (go_at_call 71; refine (inRange_any _ _ _ _).mono ?_; (first | rw [h1] | rw [h2]); rintro e w' ⟨rfl, rfl⟩)
        generalize hS : ByteArray.mk _ = S
        first
          | (obtain ⟨A, hA, hA1, hAS⟩ : ∃ A : Nat, b - 48 = (A : Int) ∧ A ≤ 100 ∧ 5 * A + 5 ≤ S.size :=
              ⟨(b - 48).toNat, by have := inB_iff.1 h1; omega, by have := inB_iff.1 h1; omega, by have := inB_iff.1 h1; rw [← hS]; show 5 * (b - 48).toNat + 5 ≤ 50; omega⟩
             rw [hA])
          | (obtain ⟨A, hA, hA1, hAS⟩ : ∃ A : Nat, b - 65 = (A : Int) ∧ A ≤ 100 ∧ 5 * A + 5 ≤ S.size :=
              ⟨(b - 65).toNat, by have := inB_iff.1 h2; omega, by have := inB_iff.1 h2; omega, by have := inB_iff.1 h2; rw [← hS]; show 5 * (b - 65).toNat + 5 ≤ 130; omega⟩
             rw [hA])
        clear hS
        go_loopw [24] (fun i wr => ∃ j : Nat, j ≤ 5 ∧ i = .int .i64 (j : Int) ∧ GlySt w wr) (fun i _ => 5 - (intOf i).toNat)
        case atStart => exact ⟨0, by omega, rfl, ⟨_, _, _, _, _, HH.out.2⟩, HH.out.1, ba2 _ _ _⟩
        case round =>
          obtain ⟨j, hj, rfl, ⟨x0, x1, x2, x3, x4, hx⟩, h0, hbr⟩ := hrel
          have H0 := Lib.hid h0
          have HX := Lib.hid hx
          have HBR := Lib.hid hbr
          obtain ⟨hcX, hfX⟩ := heap_cellR hx
          obtain ⟨hcR, hfR⟩ := heap_cellR h0
          have hlX := blkLt hx
          have hlR := blkLt h0
          clear h0 hx hbr
          by_cases hlt : j < 5
          · have hji : (j : Int) < 5 := by omega
            obtain ⟨m, hm⟩ : ∃ m : Nat, m = 5 * A + j := ⟨_, rfl⟩
            have hmi : 5 * (A : Int) + (j : Int) = (m : Int) := by omega
            have hms : m < S.size := by omega
            clear hm
            go_wp2_with fail
            generalize (((S[m].toNat : Nat) : Int) - 48) % 256 = z
            have hs := src_set HX.out j (.int .i64 z)
            refine ⟨⟨j + 1, by omega, rfl, ?_, (heap_setCell_other _ ⟨w.heap.size + 1, j, none⟩ _ _ (by dsimp only; omega)).trans H0.out, HBR.out.setCell (by dsimp only; omega) _⟩, by simp [intOf]; omega⟩
            obtain rfl | rfl | rfl | rfl | rfl : j = 0 ∨ j = 1 ∨ j = 2 ∨ j = 3 ∨ j = 4 := by omega
            · exact ⟨z, x1, x2, x3, x4, hs⟩
            · exact ⟨x0, z, x2, x3, x4, hs⟩
            · exact ⟨x0, x1, z, x3, x4, hs⟩
            · exact ⟨x0, x1, x2, z, x4, hs⟩
            · exact ⟨x0, x1, x2, x3, z, hs⟩
          · have hji : ¬ (j : Int) < 5 := by omega
            go_wp2_with fail
            refine bodyPost_ret (v := .tuple #[ar5 x0 x1 x2 x3 x4, .bool true]) (by simp [results, Tryz.results166, go_sem, hcR]) rfl ⟨⟨x0, x1, x2, x3, x4, rfl⟩, ?_⟩
            iterate 5 (refine Below.setCell ?_ (by dsimp only; omega) _)
            exact HBR.out
    · obtain rfl : R = false := by rw [HG.out, Bool.or_assoc, hd, decide_eq_false h32]; rfl
      have h1 : inB b 48 57 = false := by revert hd; cases inB b 48 57 <;> simp
      have h2 : inB b 65 90 = false := by revert hd; cases inB b 65 90 <;> simp
      clear hd
      go_enter Tryz.func166, Tryz.ntmps166
      go_wp2_with (go_at_call 71; refine (inRange_any _ _ _ _).mono ?_; (first | rw [h1] | rw [h2]); rintro e w' ⟨rfl, rfl⟩)
      refine bodyPost_ret (v := .tuple #[ar5 0 0 0 0 0, .bool false]) (by simp [results, Tryz.results166, go_sem]) rfl ⟨⟨0, 0, 0, 0, 0, rfl⟩, ?_⟩
      first
        | exact ba2 _ _ _
        | (iterate 5 (refine Below.setCell ?_ (by dsimp only; omega) _)
           exact ba2 _ _ _)

end Go.Proofs.YtlcglclojlffgaaGreatDoor
namespace Go.Proofs.YtlcglclojlffgaaGreatDoor
open Go.RowKit

/-- an item as a value -/
abbrev itV (x : It) : Value := .agg #[.int .i64 x.kind, .int .i64 x.row, .int .i64 x.col, .int .i64 x.scale, .int .i64 x.tall, .int .i64 x.wide, .string x.name, .int .i64 x.level, .string x.text]
/-- the rows and columns of a box are handed back -/
def RetBx (w : World) (o : Option (Int × Int)) (e : Ending) (w' : World) : Prop :=
  Below w.heap.size w w' ∧ ((∃ r c, o = some (r, c) ∧ e = .returned (.tuple #[.int .i64 r, .int .i64 c, .bool true])) ∨ (o = none ∧ e = .returned (.tuple #[.int .i64 0, .int .i64 0, .bool false])))
theorem below_dn {B n : Nat} {a b : World} (h : Below B a b) : Below B a (b.drewN n) := h.trans ⟨rfl, rfl, rfl, Nat.le_refl _, fun _ _ => rfl⟩
theorem bytes_ne {nm : ByteArray} (h : nm ≠ ⟨#[]⟩) : (nm.toList == []) = false := by
  rw [beq_eq_false_iff_ne, ne_eq, ByteArray.toList_eq]
  intro e
  exact h (ByteArray.ext (Array.toList_inj.1 e))
theorem plainI_iff {x : It} : plainI x = true ↔ x.name = ⟨#[]⟩ ∧ x.level = 0 := by simp [plainI]
theorem scaledI_iff {x : It} : scaledI x = true ↔ ((1 ≤ x.scale ∧ x.scale ≤ 8) ∧ x.tall = 0) ∧ x.wide = 0 := by simp [scaledI]
theorem boxI_line {x : It} (hk : x.kind = 2) : boxI x = if plainI x = true ∧ x.scale = 0 ∧ x.text = ⟨#[]⟩ ∧ (1 ≤ x.tall ∧ x.tall ≤ 400) ∧ 1 ≤ x.wide ∧ x.wide ≤ 400 then some (x.tall, x.wide) else none := by
  rw [boxI, if_neg (by rw [hk]; decide), if_pos hk]
theorem boxI_text {x : It} (hk : x.kind = 1) : boxI x = if plainI x = true ∧ scaledI x = true ∧ 1 ≤ x.text.size ∧ x.text.size ≤ 40 ∧ (x.text.data.toList.all fun b => glyB b.toNat) = true then some (5 * x.scale, (4 * x.text.size - 1) * x.scale) else none := by
  rw [boxI, if_pos hk]

set_option maxRecDepth 100000 in
set_option maxHeartbeats 4000000 in
theorem lineBox_any (x : It) (w : World) (hk : x.kind = 2) :
    Calls Tryz.prog 167 #[itV x] w (RetBx w (boxI x)) := by
  have HN := Lib.hid (fun h => (boxI_line hk).trans (if_neg h))
  have HY := Lib.hid (fun h => (boxI_line hk).trans (if_pos h))
  obtain ⟨O, hO⟩ : ∃ O, O = boxI x := ⟨_, rfl⟩
  rw [← hO] at HN HY ⊢
  rw [plainI_iff] at HN HY
  obtain ⟨kd, row, col, sc, tall, wide, nm, lev, tx⟩ := x
  dsimp only at hk HN HY ⊢
  subst hk
  clear hO
  have HB := Lib.hid (ba1 w (.cells #[.int .i64 2, .int .i64 row, .int .i64 col, .int .i64 sc, .int .i64 tall, .int .i64 wide, .string nm, .int .i64 lev, .string tx] 112 (0, 0)))
  go_enter Tryz.func167, Tryz.ntmps167
  rcases Bool.eq_false_or_eq_true (inB tall 1 400) with h1 | h1
  rotate_left
  · have HR := Lib.hid (HN.out (fun h => by rw [inB_iff.2 (by omega)] at h1; cases h1))
    go_wp2_with (go_at_call 71; refine (inRange_any _ _ _ _).mono ?_; rw [h1]; rintro e w' ⟨rfl, rfl⟩)
    exact bodyPost_ret (v := .tuple #[.int .i64 0, .int .i64 0, .bool false]) (by simp [results, Tryz.results167, go_sem]) rfl ⟨HB.out, .inr ⟨HR.out, rfl⟩⟩
  rcases Bool.eq_false_or_eq_true (inB wide 1 400) with h2 | h2
  rotate_left
  · have HR := Lib.hid (HN.out (fun h => by rw [inB_iff.2 (by omega)] at h2; cases h2))
    go_wp2_with (go_at_call 71; refine (inRange_any _ _ _ _).mono ?_; (first | rw [h1] | rw [h2]); rintro e w' ⟨rfl, rfl⟩)
    exact bodyPost_ret (v := .tuple #[.int .i64 0, .int .i64 0, .bool false]) (by simp [results, Tryz.results167, go_sem]) rfl ⟨HB.out, .inr ⟨HR.out, rfl⟩⟩
  by_cases h3 : sc = 0
  rotate_left
  · have HR := Lib.hid (HN.out (fun h => h3 h.2.1))
    have h3b : (sc == 0) = false := by rw [beq_eq_false_iff_ne]; exact h3
    go_wp2_with (go_at_call 71; refine (inRange_any _ _ _ _).mono ?_; (first | rw [h1] | rw [h2]); rintro e w' ⟨rfl, rfl⟩)
    exact bodyPost_ret (v := .tuple #[.int .i64 0, .int .i64 0, .bool false]) (by simp [results, Tryz.results167, go_sem]) rfl ⟨HB.out, .inr ⟨HR.out, rfl⟩⟩
  subst h3
  by_cases h4 : nm = ⟨#[]⟩
  rotate_left
  · have HR := Lib.hid (HN.out (fun h => h4 h.1.1))
    have h4b := bytes_ne h4
    clear h4
    go_wp2_with (go_at_call 71; refine (inRange_any _ _ _ _).mono ?_; (first | rw [h1] | rw [h2]); rintro e w' ⟨rfl, rfl⟩)
    exact bodyPost_ret (v := .tuple #[.int .i64 0, .int .i64 0, .bool false]) (by simp [results, Tryz.results167, go_sem]) rfl ⟨HB.out, .inr ⟨HR.out, rfl⟩⟩
  subst h4
  by_cases h5 : lev = 0
  rotate_left
  · have HR := Lib.hid (HN.out (fun h => h5 h.1.2))
    have h5b : (lev == 0) = false := by rw [beq_eq_false_iff_ne]; exact h5
    go_wp2_with (go_at_call 71; refine (inRange_any _ _ _ _).mono ?_; (first | rw [h1] | rw [h2]); rintro e w' ⟨rfl, rfl⟩)
    exact bodyPost_ret (v := .tuple #[.int .i64 0, .int .i64 0, .bool false]) (by simp [results, Tryz.results167, go_sem]) rfl ⟨HB.out, .inr ⟨HR.out, rfl⟩⟩
  subst h5
  by_cases h6 : tx = ⟨#[]⟩
  rotate_left
  · have HR := Lib.hid (HN.out (fun h => h6 h.2.2.1))
    have h6b := bytes_ne h6
    clear h6
    go_wp2_with (go_at_call 71; refine (inRange_any _ _ _ _).mono ?_; (first | rw [h1] | rw [h2]); rintro e w' ⟨rfl, rfl⟩)
    exact bodyPost_ret (v := .tuple #[.int .i64 0, .int .i64 0, .bool false]) (by simp [results, Tryz.results167, go_sem]) rfl ⟨HB.out, .inr ⟨HR.out, rfl⟩⟩
  subst h6
  have HR := Lib.hid (HY.out ⟨⟨rfl, rfl⟩, rfl, rfl, inB_iff.1 h1, inB_iff.1 h2⟩)
  go_wp2_with (go_at_call 71; refine (inRange_any _ _ _ _).mono ?_; (first | rw [h1] | rw [h2]); rintro e w' ⟨rfl, rfl⟩)
  go_quiet (fail)
  go_wp2_with fail
  exact bodyPost_ret (v := .tuple #[.int .i64 tall, .int .i64 wide, .bool true]) (by simp [results, Tryz.results167, go_sem]) rfl ⟨below_dn HB.out, .inl ⟨_, _, HR.out, rfl⟩⟩

theorem all_gly_no {l : List UInt8} {k : Nat} {x : UInt8} (h : l[k]? = some x) (hx : glyB x.toNat = false) : (l.all fun b => glyB b.toNat) = false := by
  rw [List.all_eq_false]; exact ⟨x, List.mem_of_getElem? h, by rw [hx]; decide⟩
set_option maxRecDepth 100000 in
set_option maxHeartbeats 4000000 in
theorem textBox_any (x : It) (w : World) (hk : x.kind = 1) :
    Calls Tryz.prog 163 #[itV x] w (RetBx w (boxI x)) := by
  have HN := Lib.hid (fun h => (boxI_text hk).trans (if_neg h))
  have HY := Lib.hid (fun h => (boxI_text hk).trans (if_pos h))
  obtain ⟨O, hO⟩ : ∃ O, O = boxI x := ⟨_, rfl⟩
  rw [← hO] at HN HY ⊢
  rw [plainI_iff, scaledI_iff] at HN HY
  obtain ⟨kd, row, col, sc, tall, wide, nm, lev, tx⟩ := x
  dsimp only at hk HN HY ⊢
  subst hk
  clear hO
  have HK := Lib.hid (push_at w (.cells #[.int .i64 1, .int .i64 row, .int .i64 col, .int .i64 sc, .int .i64 tall, .int .i64 wide, .string nm, .int .i64 lev, .string tx] 111 (0, 0)))
  have HB := Lib.hid (ba1 w (.cells #[.int .i64 1, .int .i64 row, .int .i64 col, .int .i64 sc, .int .i64 tall, .int .i64 wide, .string nm, .int .i64 lev, .string tx] 111 (0, 0)))
  go_enter Tryz.func163, Tryz.ntmps163
  rcases Bool.eq_false_or_eq_true (inB (tx.size : Int) 1 40) with h1 | h1
  rotate_left
  · have HR := Lib.hid (HN.out (fun h => by rw [inB_iff.2 (by omega)] at h1; cases h1))
    go_wp2_with (go_at_call 71; refine (inRange_any _ _ _ _).mono ?_; rw [h1]; rintro e w' ⟨rfl, rfl⟩)
    exact bodyPost_ret (v := .tuple #[.int .i64 0, .int .i64 0, .bool false]) (by simp [results, Tryz.results163, go_sem]) rfl ⟨HB.out, .inr ⟨HR.out, rfl⟩⟩
  rcases Bool.eq_false_or_eq_true (inB sc 1 8) with h2 | h2
  rotate_left
  · have HR := Lib.hid (HN.out (fun h => by rw [inB_iff.2 (by omega)] at h2; cases h2))
    go_wp2_with (go_at_call 71; refine (inRange_any _ _ _ _).mono ?_; (first | rw [h1] | rw [h2]); rintro e w' ⟨rfl, rfl⟩)
    exact bodyPost_ret (v := .tuple #[.int .i64 0, .int .i64 0, .bool false]) (by simp [results, Tryz.results163, go_sem]) rfl ⟨HB.out, .inr ⟨HR.out, rfl⟩⟩
  by_cases h3 : tall = 0
  rotate_left
  · have HR := Lib.hid (HN.out (fun h => h3 h.2.1.1.2))
    have h3b : (tall == 0) = false := by rw [beq_eq_false_iff_ne]; exact h3
    go_wp2_with (go_at_call 71; refine (inRange_any _ _ _ _).mono ?_; (first | rw [h1] | rw [h2]); rintro e w' ⟨rfl, rfl⟩)
    exact bodyPost_ret (v := .tuple #[.int .i64 0, .int .i64 0, .bool false]) (by simp [results, Tryz.results163, go_sem]) rfl ⟨HB.out, .inr ⟨HR.out, rfl⟩⟩
  subst h3
  by_cases h4 : wide = 0
  rotate_left
  · have HR := Lib.hid (HN.out (fun h => h4 h.2.1.2))
    have h4b : (wide == 0) = false := by rw [beq_eq_false_iff_ne]; exact h4
    go_wp2_with (go_at_call 71; refine (inRange_any _ _ _ _).mono ?_; (first | rw [h1] | rw [h2]); rintro e w' ⟨rfl, rfl⟩)
    exact bodyPost_ret (v := .tuple #[.int .i64 0, .int .i64 0, .bool false]) (by simp [results, Tryz.results163, go_sem]) rfl ⟨HB.out, .inr ⟨HR.out, rfl⟩⟩
  subst h4
  by_cases h5 : nm = ⟨#[]⟩
  rotate_left
  · have HR := Lib.hid (HN.out (fun h => h5 h.1.1))
    have h5b := bytes_ne h5
    clear h5
    go_wp2_with (go_at_call 71; refine (inRange_any _ _ _ _).mono ?_; (first | rw [h1] | rw [h2]); rintro e w' ⟨rfl, rfl⟩)
    exact bodyPost_ret (v := .tuple #[.int .i64 0, .int .i64 0, .bool false]) (by simp [results, Tryz.results163, go_sem]) rfl ⟨HB.out, .inr ⟨HR.out, rfl⟩⟩
  subst h5
  by_cases h6 : lev = 0
  rotate_left
  · have HR := Lib.hid (HN.out (fun h => h6 h.1.2))
    have h6b : (lev == 0) = false := by rw [beq_eq_false_iff_ne]; exact h6
    go_wp2_with (go_at_call 71; refine (inRange_any _ _ _ _).mono ?_; (first | rw [h1] | rw [h2]); rintro e w' ⟨rfl, rfl⟩)
    exact bodyPost_ret (v := .tuple #[.int .i64 0, .int .i64 0, .bool false]) (by simp [results, Tryz.results163, go_sem]) rfl ⟨HB.out, .inr ⟨HR.out, rfl⟩⟩
  subst h6
  have HL := Lib.hid (inB_iff.1 h1)
  have HSC := Lib.hid (inB_iff.1 h2)
  have hsz : tx.data.toList.length = tx.size := rfl
  have HSZ := Lib.hid hsz
  clear hsz
  go_wp2_with (go_at_call 71; refine (inRange_any _ _ _ _).mono ?_; (first | rw [h1] | rw [h2]); rintro e w' ⟨rfl, rfl⟩)
  clear h1 h2
  have htl : tx.size ≤ 40 := by have := HL.out; omega
  go_loopw [6] (fun i wr => ∃ j : Nat, j ≤ tx.size ∧ i = .int .i64 (j : Int) ∧ ((tx.data.toList.take j).all fun b => glyB b.toNat) = true ∧ Below (w.heap.size + 1) (w.alloc (.cells #[.int .i64 1, .int .i64 row, .int .i64 col, .int .i64 sc, .int .i64 0, .int .i64 0, .string ⟨#[]⟩, .int .i64 0, .string tx] 111 (0, 0))) wr) (fun i _ => tx.size - (intOf i).toNat)
  case atStart => exact ⟨0, Nat.zero_le _, rfl, rfl, Below.refl _ _⟩
  case round =>
    obtain ⟨j, hj, rfl, hall, hbr⟩ := hrel
    have HA := Lib.hid hall
    have hk := blkK (hbr.mono (by simp)) HK.out
    have HBR := Lib.hid (bt0 HB.out (hbr.mono (by simp)) (Nat.le_refl _))
    have HB0 := Lib.hid hbr
    obtain ⟨hcA, hfA⟩ := heap_cellR hk
    have hlA := blkLt hk
    clear hall hbr hk
    by_cases hlt : j < tx.size
    · have hji : (j : Int) < (tx.size : Int) := by omega
      have HXK := Lib.hid (show tx.data.toList[j]? = some tx[j] by rw [List.getElem?_eq_getElem (by rw [HSZ.out]; exact hlt)]; rfl)
      obtain ⟨x, hx⟩ : ∃ x, x = tx[j] := ⟨_, rfl⟩
      rw [← hx] at HXK
      go_wp2_with fail
      rw [← hx]
      have hwx : wrap64 ((x.toNat : Nat) : Int) = (x.toNat : Int) := by have := x.toNat_lt; unfold wrap64; omega
      rw [hwx]
      refine (glyph_any _ _).mono ?_
      rintro e w2 ⟨⟨y0, y1, y2, y3, y4, rfl⟩, hb2⟩
      have HB2 := Lib.hid (bt0 HBR.out hb2 (Nat.le_refl _))
      have HB3 := Lib.hid (HB0.out.trans (hb2.mono (by have := HB0.out.size; simpa using this)))
      have hz2 : w.heap.size < w2.heap.size := by have := hb2.size; omega
      clear hb2 hx hwx
      rcases Bool.eq_false_or_eq_true (glyB x.toNat) with hg | hg
      · have HG := Lib.hid hg
        rw [hg]
        clear hg
        go_wp2_with fail
        refine ⟨⟨j + 1, by omega, by go_num, ?_, HB3.out.alloc (by have := HB3.out.size; simpa using this) _⟩, by simp [intOf]; omega⟩
        rw [take_snoc' HXK.out, List.all_append, HA.out]
        simp [HG.out]
      · have HR := Lib.hid (HN.out (fun h => by have h2 := all_gly_no HXK.out hg; rw [h2] at h; cases h.2.2.2.2))
        rw [hg]
        clear hg
        go_wp2_with fail
        exact bodyPost_ret (v := .tuple #[.int .i64 0, .int .i64 0, .bool false]) (by simp [results, Tryz.results163, go_sem]) rfl ⟨bt0 HB2.out (ba1 _ _) (Nat.le_refl _), .inr ⟨HR.out, rfl⟩⟩
    · have hji : ¬ (j : Int) < (tx.size : Int) := by omega
      have hall : (tx.data.toList.all fun b => glyB b.toNat) = true := by
        have h := HA.out
        rwa [List.take_of_length_le (by rw [HSZ.out]; omega)] at h
      have HL' := HL.out
      have HR := Lib.hid (HY.out ⟨by simp, by simp only [and_true]; exact HSC.out, by omega, by omega, hall⟩)
      have hs := HSC.out
      have hb : 3 * 1 ≤ (4 * (tx.size : Int) - 1) * sc ∧ (4 * (tx.size : Int) - 1) * sc ≤ 159 * 8 := ⟨Int.mul_le_mul (by omega) (by omega) (by omega) (by omega), Int.mul_le_mul (by omega) (by omega) (by omega) (by omega)⟩
      obtain ⟨Z, hZ⟩ : ∃ Z, (4 * (tx.size : Int) - 1) * sc = Z := ⟨_, rfl⟩
      rw [hZ] at hb HR
      have hwz : wrap64 ((4 * (tx.size : Int) - 1) * sc) = Z := by rw [hZ]; unfold wrap64; omega
      clear hall
      go_wp2_with fail
      go_quiet (fail)
      go_wp2_with fail
      exact bodyPost_ret (v := .tuple #[.int .i64 (5 * sc), .int .i64 Z, .bool true]) (by simp [results, Tryz.results163, go_sem]) rfl ⟨below_dn HBR.out, .inl ⟨_, _, HR.out, rfl⟩⟩

end Go.Proofs.YtlcglclojlffgaaGreatDoor
namespace Go.Proofs.YtlcglclojlffgaaGreatDoor
open Go.RowKit

/-- the first n marks from k on -/
def marks (k : Int) (n : Nat) : List Int := (List.range n).map fun (i : Nat) => k + (i : Int)
theorem marks_len (k : Int) (n : Nat) : (marks k n).length = n := by simp [marks]
theorem marks_at {k : Int} {n i : Nat} (h : i < n) : (marks k n)[i]? = some (k + i) := by simp [marks, h]

end Go.Proofs.YtlcglclojlffgaaGreatDoor
namespace Go.Proofs.YtlcglclojlffgaaGreatDoor
open Go.RowKit

theorem OwnI.other {w w' : World} {base : Nat} {v : Value} {zs : List Int} {row : Option Nat} (h : OwnI w base v zs) (hg : w.grownBy w' row) (hne : ∀ k, v.ownBlock = some k → row ≠ some k) : OwnI w' base v zs :=
  h.kept hg (by
    cases hv : v.ownBlock with
    | none => exact Or.inl rfl
    | some k => exact Or.inr (fun e => hne k hv e.symm))
theorem OwnI.lo {w : World} {base : Nat} {v : Value} {zs : List Int} (h : OwnI w base v zs) : ∀ k, v.ownBlock = some k → base ≤ k := fun k hk => (World.ownsRow.lt h k hk).1
theorem OwnI.hi {w : World} {base : Nat} {v : Value} {zs : List Int} (h : OwnI w base v zs) : ∀ k, v.ownBlock = some k → k < w.heap.size := fun k hk => (World.ownsRow.lt h k hk).2
theorem OwnI.ints {w : World} {base : Nat} {a : Option Addr} {n c : Nat} {zs : List Int} (h : OwnI w base (.slice a n c) zs) : IntsAt w a zs := by
  obtain ⟨a', c', e, hx⟩ := h.read
  obtain ⟨rfl, _, _⟩ := Value.slice.inj e
  exact hx
end Go.Proofs.YtlcglclojlffgaaGreatDoor
namespace Go.Proofs.YtlcglclojlffgaaGreatDoor
open Go.RowKit

/-- append of one number -/
theorem wpList_append_i1 {ops : Array Oper} {rest : List Oper} {o : Oper} {a : Act} {Q : Exit → Act → World → Prop} {W : World} (hgd : o.guard = none) (s x : Operand) (T : TypeId) (hT : Tryz.prog.underlying T = some (.slice 2))
    (ho : o.op = .call { callee := .builtin .append, args := #[s, x], argTypes := #[T, T] })
    (base : Nat) (v : Value) (l : List Int) (z : Int) (hs : a.eval s = v) (hown : OwnI W base v l) (g : Nat) (hx : a.eval x = .slice (some ⟨g, 0, none⟩) 1 1)
    (hg : W.heap[g]? = some (.cells #[.int .i64 z] 2 (0, 0))) (hl : l.length ≤ 1000000000) (hb : base ≤ W.heap.size)
    (h : ∀ a' c' l' w', l' = l ++ [z] → OwnI w' base (.slice a' l'.length c') l' → W.grownBy w' v.ownBlock → Below base W w' → wpList Tryz.prog ops Q rest (a.put o.dst (.slice a' l'.length c')) w') : wpList Tryz.prog ops Q (o :: rest) a W := by
  obtain ⟨i0, hi, y0, y1, y2⟩ := info_parts infoI
  refine wpList_append_own _ hgd s x T ho base 2 i0 _ 1 8 hT hi y0 y1 y2 rfl (by decide) v l.length (l.map (Value.int .i64)) hs hown ⟨g, 0, none⟩ 1 1 [.int .i64 z] hx rfl ?_ ?_ (by unfold maxLen; omega) (by omega) hb
    (fun v' w' h1 h2 _ => ?_)
  · intro j u hu
    rw [Addr.add_lit, Nat.zero_add, (heap_cellR hg).1, ← hu]
    simp
  · intro u hu
    simp only [List.mem_singleton] at hu
    subst hu; rfl
  · have ho : OwnI w' base v' (l ++ [z]) := by
      unfold OwnI
      rw [List.length_append, List.map_append]
      exact h1
    obtain ⟨a', c', e, _⟩ := ho.read
    rw [e] at ho ⊢
    exact h a' c' _ w' rfl ho h2 (below_of_grownBy h2 hb (fun k hk => hown.lo k hk))
end Go.Proofs.YtlcglclojlffgaaGreatDoor
namespace Go.Proofs.YtlcglclojlffgaaGreatDoor
open Go.RowKit

/-! Lists of places with whole-number rows and columns. -/
/-- a place's cells -/
def plZ (p : Int × Int) : List Value := [.int .i64 p.1, .int .i64 p.2]
/-- the slice v is the call's own and holds the places ps -/
def OwnZ (w : World) (base : Nat) (v : Value) (ps : List (Int × Int)) : Prop := w.ownsRow base 299 2 v ps.length (ps.flatMap plZ)
/-- places at an address -/
def PlZAt (w : World) (a : Option Addr) (ps : List (Int × Int)) : Prop := ∀ i (h : i < ps.length), ∃ b o, a = some ⟨b, o, none⟩ ∧ w.cell? ⟨b, o + i * 2, none⟩ = some (.int .i64 (ps[i]).1) ∧ w.cell? ⟨b, o + i * 2 + 1, none⟩ = some (.int .i64 (ps[i]).2)
theorem PlZAt.below {w w' : World} {a : Option Addr} {ps : List (Int × Int)} (H : PlZAt w a ps) (hb : Below w.heap.size w w') : PlZAt w' a ps := fun i h => by
  obtain ⟨b, o, ha, h0, h1⟩ := H i h
  have hl := lt_of_cell h0
  exact ⟨b, o, ha, ((bcell hb).1 b _ hl).trans h0, ((bcell hb).1 b _ hl).trans h1⟩
theorem zflat_at : ∀ (ps : List (Int × Int)) (i : Nat) (p : Int × Int), ps[i]? = some p → ∀ j, j < 2 → (ps.flatMap plZ)[i * 2 + j]? = (plZ p)[j]?
  | [], i, d, h, _, _ => by simp at h
  | e :: ds, 0, d, h, j, hj => by
    simp at h
    subst h
    rw [List.flatMap_cons, Nat.zero_mul, Nat.zero_add, List.getElem?_append_left (by simpa [plZ] using hj)]
  | e :: ds, i + 1, d, h, j, hj => by
    have ih := zflat_at ds i d (by simpa using h) j hj
    rw [List.flatMap_cons, List.getElem?_append_right (by simp [plZ]; omega), ← ih]
    congr 1
    simp [plZ]; omega
theorem zflat_len : ∀ ps : List (Int × Int), (ps.flatMap plZ).length = ps.length * 2
  | [] => rfl
  | e :: ds => by rw [List.flatMap_cons, List.length_append, zflat_len ds]; simp [plZ]; omega
theorem zflat_one {ps : List (Int × Int)} : ∀ u ∈ ps.flatMap plZ, u.oneCell' = true := by
  intro u hu
  obtain ⟨p, _, hp⟩ := List.mem_flatMap.1 hu
  simp only [plZ, List.mem_cons, List.not_mem_nil, or_false] at hp
  rcases hp with rfl | rfl <;> rfl
theorem OwnZ.pls {w : World} {base : Nat} {a : Option Addr} {n c : Nat} {ps : List (Int × Int)} (h : OwnZ w base (.slice a n c) ps) : PlZAt w a ps := by
  intro i hi
  have hd := List.getElem?_eq_getElem hi
  rcases h.2 with ⟨h1, h0⟩ | ⟨g, cap, cur, h1, hb, hg, q1, q2, q3, q4⟩
  · omega
  · simp only [Value.slice.injEq] at h1
    obtain ⟨rfl, rfl, rfl⟩ := h1
    have hc : ∀ j, j < 2 → w.cell? ⟨g, i * 2 + j, none⟩ = (plZ ps[i])[j]? := fun j hj => by
      have h2 := World.ownsRow.cellAt h (i * 2 + j) (by omega)
      rw [h2, zflat_at ps i _ hd j hj]
    refine ⟨g, 0, rfl, ?_, ?_⟩
    · rw [Nat.zero_add]; exact hc 0 (by omega)
    · rw [Nat.zero_add]; exact hc 1 (by omega)
theorem OwnZ.read {w : World} {base : Nat} {v : Value} {ps : List (Int × Int)} (h : OwnZ w base v ps) : ∃ a c, v = .slice a ps.length c := by
  rcases h.2 with ⟨rfl, h0⟩ | ⟨g, cap, cur, rfl, _⟩
  · exact ⟨none, 0, by rw [h0]⟩
  · exact ⟨_, _, rfl⟩
theorem OwnZ.lo {w : World} {base : Nat} {v : Value} {ps : List (Int × Int)} (h : OwnZ w base v ps) : ∀ g, v.ownBlock = some g → base ≤ g := by
  rcases h.2 with ⟨rfl, _⟩ | ⟨g, cap, cur, rfl, hg, _⟩
  · simp [Value.ownBlock]
  · intro k e; simp [Value.ownBlock] at e; omega
theorem OwnZ.lt {w : World} {base : Nat} {v : Value} {ps : List (Int × Int)} (h : OwnZ w base v ps) (hp : 1 ≤ ps.length) : ∀ g, v.ownBlock = some g → g < w.heap.size := by
  intro k e
  obtain ⟨a, c, rfl⟩ := h.read
  obtain ⟨b, o, rfl, h0, _⟩ := h.pls 0 hp
  simp [Value.ownBlock] at e
  subst e
  exact lt_of_cell h0
theorem OwnZ.other {w w' : World} {base : Nat} {v : Value} {ps : List (Int × Int)} {row : Option Nat} (h : OwnZ w base v ps) (hg : w.grownBy w' row) (hne : ∀ k, v.ownBlock = some k → row ≠ some k) : OwnZ w' base v ps :=
  h.kept hg (by
    cases hv : v.ownBlock with
    | none => exact Or.inl rfl
    | some k => exact Or.inr (fun e => hne k hv e.symm))
theorem OwnZ.grown {w w' : World} {base : Nat} {v : Value} {ps : List (Int × Int)} (h : OwnZ w base v ps) (hb : Below w.heap.size w w') : OwnZ w' base v ps :=
  h.other (row := none) ⟨hb.os, hb.tape, hb.output, hb.size, fun k hk _ => hb.block k hk⟩ (fun k _ e => by cases e)
theorem OwnZ.weak {w : World} {base base' : Nat} {v : Value} {ps : List (Int × Int)} (h : OwnZ w base v ps) (hb : base' ≤ base) : OwnZ w base' v ps := by
  refine ⟨h.1, ?_⟩
  rcases h.2 with h2 | ⟨g, cap, cur, h1, hb', r⟩
  · exact Or.inl h2
  · exact Or.inr ⟨g, cap, cur, h1, by omega, r⟩
theorem OwnZ.new (w : World) : OwnZ (w.alloc (.cells #[] 299 (0, 0))) w.heap.size (.slice (some ⟨w.heap.size, 0, none⟩) 0 0) [] :=
  World.ownsRow_lit (base := w.heap.size) (size := 2) w #[] 0 (Nat.le_refl _) (by unfold maxLen; omega) rfl
theorem OwnZ.nil (w : World) (base : Nat) : OwnZ w base (.slice none 0 0) [] := ⟨by simp, Or.inl ⟨rfl, rfl⟩⟩
theorem infoZ : (Tryz.prog.info? 299).map (fun i => (i.zero, i.size, i.bytes)) = some (some (.agg #[.int .i64 0, .int .i64 0]), 2, 16) := by kernel_rfl
/-- append of places that stand in a block of their own -/
theorem wpList_append_zs {ops : Array Oper} {rest : List Oper} {o : Oper} {a : Act} {Q : Exit → Act → World → Prop} {W : World} (hgd : o.guard = none) (s x : Operand) (T : TypeId) (hT : Tryz.prog.underlying T = some (.slice 299))
    (ho : o.op = .call { callee := .builtin .append, args := #[s, x], argTypes := #[T, T] })
    (base : Nat) (v : Value) (l m : List (Int × Int)) (hs : a.eval s = v) (hown : OwnZ W base v l) (g n : Nat) (hn : n = m.length) (hx : a.eval x = .slice (some ⟨g, 0, none⟩) n n)
    (hg : W.heap[g]? = some (.cells (m.flatMap plZ).toArray 299 (0, 0))) (hl : l.length + m.length ≤ 100000000) (hb : base ≤ W.heap.size)
    (h : ∀ a' c' l' w', l' = l ++ m → OwnZ w' base (.slice a' l'.length c') l' → W.grownBy w' v.ownBlock → Below base W w' → ((Value.slice a' l'.length c').ownBlock = v.ownBlock ∨ (Value.slice a' l'.length c').ownBlock = some W.heap.size) → wpList Tryz.prog ops Q rest (a.put o.dst (.slice a' l'.length c')) w') : wpList Tryz.prog ops Q (o :: rest) a W := by
  subst hn
  obtain ⟨i0, hi, y0, y1, y2⟩ := info_parts infoZ
  refine wpList_append_own_at _ hgd s x T ho base 299 i0 _ 2 16 hT hi y0 y1 y2 rfl (by decide) v l.length (l.flatMap plZ) hs hown ⟨g, 0, none⟩ m.length m.length (m.flatMap plZ) hx (zflat_len m) ?_ zflat_one (by unfold maxLen; omega) (by omega) hb
    (fun v' w' h1 h2 _ h4 => ?_)
  · intro j u hu
    rw [Addr.add_lit, Nat.zero_add, (heap_cellR hg).1, ← hu]
    simp
  · have ho : OwnZ w' base v' (l ++ m) := by
      unfold OwnZ
      rw [List.length_append, List.flatMap_append]
      exact h1
    obtain ⟨a', c', e, _⟩ := ho.read
    exact h a' c' _ w' rfl ho h2 (below_of_grownBy h2 hb (fun k hk => hown.lo k hk)) h4

end Go.Proofs.YtlcglclojlffgaaGreatDoor
namespace Go.Proofs.YtlcglclojlffgaaGreatDoor
open Go.RowKit Go.Maps

/-! A map from places to truth values. -/
theorem laidP : laidOutB Tryz.prog = true := by kernel_rfl
theorem rowP : (299 : TypeId) < Tryz.prog.types.size := of_decide_eq_true (by kernel_rfl)
theorem pos_succ {a n : Nat} (h : a < n) : ∃ d, n = d + 1 := ⟨n - 1, by omega⟩
theorem deepP : Tryz.prog.keyTypeAt 2 299 = true := by kernel_rfl
theorem lawP : Keyed Tryz.prog 299 := Keyed.of_law (deep_law_laid laidP (m := 2) (by omega) rowP deepP (by rw [Tryz.underlying299]))
theorem keyTyP : Tryz.prog.keyType 299 = true := by kernel_rfl
theorem cellsP : Tryz.prog.cellsOf 299 = 2 := by kernel_rfl
theorem cellsI64m : Tryz.prog.cellsOf 2 = 1 := by kernel_rfl
theorem zeroBl (w : World) : (zeroValue 4).run Tryz.prog w = .ok (.bool false) w := by kernel_rfl
theorem sizeS : ∃ d, Tryz.prog.types.size = d + 1 := pos_succ rowP
/-- a place as a value -/
def plV (p : Int × Int) : Value := .agg #[.int .i64 p.1, .int .i64 p.2]
theorem plV_inj {p q : Int × Int} (h : plV p = plV q) : p = q := by
  obtain ⟨a, b⟩ := p
  obtain ⟨c, d⟩ := q
  simp [plV] at h
  rw [h.1, h.2]
theorem wf64 {z : Int} (h : -9223372036854775808 ≤ z ∧ z ≤ 9223372036854775807) : (Lit.int .i64 z).wf = true := by
  have e := wrap64_wf z
  rwa [IntWalk.wrap64_in _ (by omega)] at e
theorem keyP {r c : Int} (hr : (Lit.int .i64 r).wf = true) (hc : (Lit.int .i64 c).wf = true) : ∃ kl, keyOf Tryz.prog 299 (plV (r, c)) = some kl := by
  obtain ⟨d, hd⟩ := sizeS
  refine ⟨.string (keyBytes [.int .i64 r, .int .i64 c]), ?_⟩
  unfold keyOf
  rw [hd]
  simp [Tryz.underlying299, keyTyP, Value.formed, cellsP, plV, Value.cells, Program.keyLits, cellsI64m, Tryz.underlying2, hr, hc]
/-- the map at block b holds the places that T says -/
def Held (w : World) (b n : Nat) (T : Int × Int → Bool) : Prop :=
  ∃ D : DataW Unit, w.ownsMap Tryz.prog 299 (plainElem Tryz.prog 4) b n D ∧ IsMap D ∧ ∀ p kl, keyOf Tryz.prog 299 (plV p) = some kl → D.atKey kl (.lit (.bool false)) = .lit (.bool (T p))
theorem Held.made (w : World) : Held (w.alloc (.map #[] 0)) w.heap.size 0 (fun _ => false) := ⟨.map [], World.ownsMap_made _ _ _ _, isMap_empty, fun _ _ _ => rfl⟩
theorem Held.kept {w w' : World} {b n : Nat} {T : Int × Int → Bool} {row : Option Nat} (h : Held w b n T) (hg : w.grownBy w' row) (hne : some b ≠ row) : Held w' b n T := by
  obtain ⟨D, h1, h2, h3⟩ := h
  exact ⟨D, h1.kept hg hne, h2, h3⟩
theorem Held.lt {w : World} {b n : Nat} {T : Int × Int → Bool} (h : Held w b n T) : b < w.heap.size := by
  obtain ⟨D, h1, h2, h3⟩ := h
  exact h1.lt
theorem Held.below {w w' : World} {b n : Nat} {T : Int × Int → Bool} (h : Held w b n T) (hb : Below w.heap.size w w') : Held w' b n T :=
  h.kept (row := none) ⟨hb.os, hb.tape, hb.output, hb.size, fun k hk _ => hb.block k hk⟩ (by simp)
theorem Held.like {w : World} {b n : Nat} {T T' : Int × Int → Bool} (h : Held w b n T) (e : ∀ p, T p = T' p) : Held w b n T' := by
  obtain ⟨D, h1, h2, h3⟩ := h
  exact ⟨D, h1, h2, fun p kl hk => by rw [← e]; exact h3 p kl hk⟩
/-- m[p] = true at the operation -/
theorem wpList_mapSet {ops : Array Oper} {rest : List Oper} {o : Oper} {a : Act} {Q : Exit → Act → World → Prop} {w : World} (hg : o.guard = none) (m x v : Operand) (t : TypeId) (hop : o.op = Op.mapUpdate t m x v)
    (ht : Tryz.prog.underlying t = some (.map 299 4)) (b n : Nat) (T : Int × Int → Bool) (hm : a.eval m = .map (some b)) (hown : Held w b n T) (hn : n < maxLen) (r c : Int) (hr : (Lit.int .i64 r).wf = true) (hc : (Lit.int .i64 c).wf = true)
    (hx : a.eval x = plV (r, c)) (hv : a.eval v = .bool true)
    (hK : ∀ w', Held w' b (n + 1) (fun p => decide (p = (r, c)) || T p) → w.grownBy w' (some b) → wpList Tryz.prog ops Q rest (a.put o.dst undef) w') : wpList Tryz.prog ops Q (o :: rest) a w := by
  obtain ⟨D, h1, h2, h3⟩ := hown
  obtain ⟨kl, hk⟩ := keyP hr hc
  refine wpList_mapUpdate_own w hg m x v t hop 299 4 lawP ht _ b n D hm h1 hn _ _ kl hx hv hk _ [] (plainElem_bool Tryz.underlying4 true) (fun w' r1 r2 => hK w' ⟨_, r1, h2.put _ _, fun p kl' hk' => ?_⟩ r2)
  by_cases e : p = (r, c)
  · rw [e] at hk' ⊢
    have hk2 := Option.some.inj (hk.symm.trans hk')
    rw [← hk2]
    rw [atKey_put_same h2 (lawP.key hk)]
    simp
  · rw [atKey_put_other (show kl' ≠ kl from fun e2 => by subst e2; exact e (plV_inj (lawP.inj hk' hk))), h3 p kl' hk']
    simp [e]
theorem plainElem_bool_inv {P : Program} {e : TypeId} (he : P.underlying e = some .bool) {v : Value} {b : Bool} {ps : List MemPlace} (h : plainElem (H := Unit) P e v = some (.lit (.bool b), ps)) : v = .bool b := by
  unfold plainElem at h
  rw [he] at h
  cases v <;> simp at h
  · exact congrArg _ h.1
/-- m[p] at the operation -/
theorem wpList_mapGet {ops : Array Oper} {rest : List Oper} {o : Oper} {a : Act} {Q : Exit → Act → World → Prop} {w : World} (hg : o.guard = none) (m x : Operand) (t : TypeId) (hop : o.op = Op.lookup t m x false)
    (ht : Tryz.prog.underlying t = some (.map 299 4)) (b n : Nat) (T : Int × Int → Bool) (hm : a.eval m = .map (some b)) (hown : Held w b n T) (r c : Int) (hr : (Lit.int .i64 r).wf = true) (hc : (Lit.int .i64 c).wf = true)
    (hx : a.eval x = plV (r, c)) (hK : wpList Tryz.prog ops Q rest (a.put o.dst (.bool (T (r, c)))) w) : wpList Tryz.prog ops Q (o :: rest) a w := by
  obtain ⟨D, h1, h2, h3⟩ := hown
  obtain ⟨kl, hk⟩ := keyP hr hc
  refine wpList_plain hg fun K' hK' => ?_
  obtain ⟨v, ps, hrun, hv⟩ := h1.lookup lawP ht (zeroBl w) (plainElem_bool Tryz.underlying4 false) hk
  rw [h3 _ _ hk] at hv
  have e := plainElem_bool_inv Tryz.underlying4 hv
  subst e
  unfold Oper.wp
  simp [execOp, hop, hm, hx, hrun, Result.andThen]
  exact hK' _ _ hK

end Go.Proofs.YtlcglclojlffgaaGreatDoor
namespace Go.Proofs.YtlcglclojlffgaaGreatDoor
open Go.RowKit

/-! A region that draws its order: reads and calls that keep the world within a class, then a tail in one order. -/
section
variable {P : Program} {ops : Array Oper} {md : Region.Mode} {C : World → Prop}

def wpHeadQ (P : Program) (md : Region.Mode) (ops : Array Oper) (C : World → Prop) (n : Nat) (L : Array Bool → Act → Prop) : Nat → Array Bool → Act → Prop
  | 0, listed, a => L listed a
  | f + 1, listed, a =>
    Region.ready md ops listed ≠ [] ∧ ∀ i ∈ Region.ready md ops listed, i < n ∧ qOp P ops C i (wpHeadQ P md ops C n L f (listed.setIfInBounds i true)) a

theorem wpAny_of_headQ {n g : Nat} {L : Array Bool → Act → Prop} {Q' : Exit → Act → World → Prop} (hL : ∀ listed a w, C w → L listed a → wpAny P md ops Q' g listed a w) :
    ∀ (f : Nat) (listed : Array Bool) (a : Act) (w : World), C w → wpHeadQ P md ops C n L f listed a → wpAny P md ops Q' (f + g) listed a w
  | 0, listed, a, w, hw, h => by rw [Nat.zero_add]; exact hL _ _ _ hw h
  | f + 1, listed, a, w, hw, h => by
    rw [show f + 1 + g = (f + g) + 1 by omega]
    exact ⟨fun h0 => absurd h0 h.1, fun i hi => wpOp_of_qOp hw (fun a' w' hw' h' => wpAny_of_headQ hL f _ a' w' hw' h') (h.2 i hi).2⟩

theorem wpHeadQ_first {n i : Nat} {oi : Oper} {v : Value} {L : Array Bool → Act → Prop} (hi : ops[i]? = some oi) (hsel : ∀ (j : Nat) (o : Oper) cs b, ops[j]? = some o → o.op ≠ .select cs b)
    (hs : Region.sinkB md ops n = true) (hc : Region.chainB md ops n = true) (hn : n < ops.size) (hin : i < n)
    (hdone : ∀ listed a, L listed a → ∀ j ∈ Region.ready md ops listed, n ≤ j) :
    ∀ (f : Nat) (listed : Array Bool) (a : Act), HeadInv md ops n listed →
      (∀ j oj, ops[j]? = some oj → j ≠ i → listed.getD j true = false → (∀ e ∈ oj.after, Region.binds md e = true → e.on ≠ i) → oi.apart ops oj = true) →
      i ∈ Region.ready md ops listed → YieldsIn P ops C oi v a →
      wpHeadQ P md ops C n L f (listed.setIfInBounds i true) (a.put oi.dst v) → wpHeadQ P md ops C n L (f + 1) listed a := by
  intro f
  induction f with
  | zero =>
    intro listed a inv _ hr hy H
    have hun := (mem_ready.1 hr).1
    refine ⟨fun h => (by rw [h] at hr; cases hr), fun j hj => ?_⟩
    have hjn : j < n := by
      rcases Nat.lt_or_ge j n with h | h
      · exact h
      · exact absurd hj (tail_waits hs hc hn inv _ i rfl hin hun j h)
    refine ⟨hjn, ?_⟩
    by_cases hji : j = i
    · subst hji; exact hy.qOp hi H
    · have := hdone _ _ H j (ready_mono hj hji)
      omega
  | succ f ih =>
    intro listed a inv hfree hr hy H
    have hun := (mem_ready.1 hr).1
    refine ⟨fun h => (by rw [h] at hr; cases hr), fun j hj => ?_⟩
    have hjn : j < n := by
      rcases Nat.lt_or_ge j n with h | h
      · exact h
      · exact absurd hj (tail_waits hs hc hn inv _ i rfl hin hun j h)
    refine ⟨hjn, ?_⟩
    by_cases hji : j = i
    · subst hji; exact hy.qOp hi H
    · have h1 := (H.2 j (ready_mono hj hji)).2
      obtain ⟨hjun, oj, hoj, hall⟩ := mem_ready.1 hj
      have hnot : ∀ e ∈ oj.after, Region.binds md e = true → e.on ≠ i := fun e he hb heq => by
        have h1 := hall e he hb
        rw [heq, getD_both hun] at h1
        cases h1
      have h2 := qOp_put hoj (hfree j oj hoj hji hjun hnot) (fun cs b => hsel i oi cs b hi) (fun cs b => hsel j oj cs b hoj) hy h1
      have hfree' : ∀ k ok, ops[k]? = some ok → k ≠ i → (listed.setIfInBounds j true).getD k true = false →
          (∀ e ∈ ok.after, Region.binds md e = true → e.on ≠ i) → oi.apart ops ok = true := fun k ok hk hki hun hno => by
        refine hfree k ok hk hki ?_ hno
        by_cases hjk : j = k
        · subst hjk; exact hjun
        · rw [getD_set_ne true hjk] at hun; exact hun
      refine qOp_mono (fun a' h3 => ih (listed.setIfInBounds j true) a' (inv.set hj hjn) hfree' (ready_mono hr (Ne.symm hji)) h3.1 ?_) h2
      rw [Array.setIfInBounds_comm _ _ hji]
      exact h3.2

theorem wpHeadQ_lex {n g : Nat} {Lq : Act → Prop} (hsel : Region.noSelect ops = true) (hs : Region.sinkB md ops n = true) (hc : Region.chainB md ops n = true) (hn : n < ops.size) :
    ∀ (l : List Oper) (k : Nat) (listed : Array Bool) (a : Act), (∀ j, j < l.length → l[j]? = ops[k + j]?) → k + l.length = n → HeadInv md ops n listed →
    Region.lexHead md ops g l.length k listed = true → wpQuiet P ops C Lq l a →
    wpHeadQ P md ops C n (fun listed' a' => Region.seqB md ops g n listed' = true ∧ Lq a') l.length listed a
  | [], k, listed, a, _, hk, _, hB, h => by
    have : k = n := by simpa using hk
    subst this
    exact ⟨by simpa [Region.lexHead] using hB, h⟩
  | o :: l, k, listed, a, hl, hk, inv, hB, h => by
    have h0 : ops[k]? = some o := by simpa using (hl 0 (by simp)).symm
    simp only [List.length_cons, Region.lexHead, Bool.and_eq_true] at hB
    obtain ⟨⟨hr, hf⟩, hB'⟩ := hB
    have hkn : k < n := by simp only [List.length_cons] at hk; omega
    have hr' : k ∈ Region.ready md ops listed := by simpa using hr
    have hst : qOp P ops C k (wpQuiet P ops C Lq l) a := by unfold qOp; simp only [h0]; exact h
    obtain ⟨v, hy, hK⟩ := yieldsIn_of_qOp h0 hst
    exact wpHeadQ_first h0 (Region.noSelect_spec hsel) hs hc hn hkn (fun listed' a' hL => seqB_ready hL.1) l.length listed a inv (Region.free_spec h0 hf) hr' hy
      (wpHeadQ_lex hsel hs hc hn l (k + 1) _ _ (fun j hj => by have := hl (j + 1) (by simp; omega); simpa [Nat.add_assoc, Nat.add_comm 1 j] using this) (by simp only [List.length_cons] at hk; omega) (inv.set hr' hkn) hB' hK)
end

/-- **THE HEAD OF n OPERATIONS READS AND CALLS QUIETLY; THE TAIL COMES LAST, IN ITS ORDER.** -/
theorem wp_region_quiet_tail {P : Program} {C : World → Prop} {id : Nat} {Q : Exit → Act → World → Prop} {a : Act} {w : World} {l : List Oper} (n : Nat) (hm : P.follows .mixedOrders = true) (hB : Region.lexTailB .any l.toArray n = true) (hC : C w.drew)
    (h : wpQuiet P l.toArray C (fun a' => ∀ w', C w' → wpList P l.toArray Q (l.drop n) a' w') (l.take n) a) : (Code.region id l.toArray true).wp P Q a w := by
  simp only [Region.lexTailB, Bool.and_eq_true, decide_eq_true_eq] at hB
  obtain ⟨⟨⟨⟨hsel, hn⟩, hs⟩, hc⟩, hlex⟩ := hB
  have hn' : n < l.length := by simpa using hn
  have htl : (l.take n).length = n := by simp; omega
  have hdl : (l.drop n).length = l.toArray.size - n := by simp
  have inv0 : HeadInv .any l.toArray n (Array.replicate l.toArray.size false) :=
    ⟨by simp, fun j oj _ hl => (by rw [getD_replicate_false] at hl; cases hl), fun t _ ht => getD_in (by simpa using ht) (getD_replicate_false _ _)⟩
  have H := wpHeadQ_lex (md := .any) (g := l.toArray.size - n) hsel hs hc hn (l.take n) 0 _ a (fun j hj => by
    have hj' : j < n := by rw [htl] at hj; exact hj
    simp [hj']) (by simpa using htl) inv0 (by rw [htl]; exact hlex) h
  refine wp_region_any hm ?_
  have := wpAny_of_headQ (Q' := Q) (g := l.toArray.size - n) (fun listed a' w' hw' hL => by
    have := wpAny_of_seq (md := .any) (Q' := Q) (l.drop n) n listed a' w' (fun j => by simp [List.getElem?_drop]) (by rw [hdl]; exact hL.1) (hL.2 w' hw')
    rwa [hdl] at this) _ _ _ _ hC H
  rw [htl, show n + (l.toArray.size - n) = l.toArray.size by omega] at this
  exact this
theorem wp_region_ext_tail {P : Program} {id : Nat} {Q : Exit → Act → World → Prop} {a : Act} {w : World} {l : List Oper} (n : Nat) (hm : P.follows .mixedOrders = true) (hB : Region.lexTailB .any l.toArray n = true)
    (h : wpQuiet P l.toArray (fun w' => ∃ s : Ext w, w' = s.w) (fun a' => ∀ w', (∃ s : Ext w, w' = s.w) → wpList P l.toArray Q (l.drop n) a' w') (l.take n) a) : (Code.region id l.toArray true).wp P Q a w :=
  wp_region_quiet_tail (C := fun w' => ∃ s : Ext w, w' = s.w) n hm hB ⟨⟨_, (Below.refl _ _).drew⟩, rfl⟩ h

end Go.Proofs.YtlcglclojlffgaaGreatDoor
namespace Go.Proofs.YtlcglclojlffgaaGreatDoor
open Go.RowKit

/-- two lists of places in blocks of their own -/
structure TwoZ (w wr : World) (va vb : Value) (A B : List (Int × Int)) : Prop where
  a : OwnZ wr w.heap.size va A
  b : OwnZ wr w.heap.size vb B
  ne : ∃ ka kb, va.ownBlock = some ka ∧ vb.ownBlock = some kb ∧ ka ≠ kb ∧ ka < wr.heap.size ∧ kb < wr.heap.size
  below : Below w.heap.size w wr
theorem TwoZ.swap {w wr : World} {va vb : Value} {A B : List (Int × Int)} (h : TwoZ w wr va vb A B) : TwoZ w wr vb va B A := by
  obtain ⟨ka, kb, e1, e2, e3, e4, e5⟩ := h.ne
  exact ⟨h.b, h.a, ⟨kb, ka, e2, e1, fun e => e3 e.symm, e5, e4⟩, h.below⟩
theorem TwoZ.grown {w wr w2 : World} {va vb : Value} {A B : List (Int × Int)} (h : TwoZ w wr va vb A B) (hb : Below wr.heap.size wr w2) : TwoZ w w2 va vb A B := by
  obtain ⟨ka, kb, e1, e2, e3, e4, e5⟩ := h.ne
  have := hb.size
  exact ⟨h.a.grown hb, h.b.grown hb, ⟨ka, kb, e1, e2, e3, by omega, by omega⟩, bt0 h.below hb (Nat.le_refl _)⟩
theorem TwoZ.more {w W w' : World} {va va' vb : Value} {A A' B : List (Int × Int)} (h : TwoZ w W va vb A B) (ho : OwnZ w' w.heap.size va' A') (hp : 1 ≤ A'.length) (hg : W.grownBy w' va.ownBlock) (hb : Below w.heap.size W w')
    (hat : va'.ownBlock = va.ownBlock ∨ va'.ownBlock = some W.heap.size) : TwoZ w w' va' vb A' B := by
  obtain ⟨ka, kb, e1, e2, e3, e4, e5⟩ := h.ne
  have hs := hg.size
  refine ⟨ho, h.b.other hg (fun k hk e => ?_), ?_, h.below.trans hb⟩
  · rw [e1] at e; rw [e2] at hk
    have h1 := Option.some.inj e
    have h2 := Option.some.inj hk
    omega
  · rcases hat with h1 | h1
    · exact ⟨ka, kb, h1.trans e1, e2, e3, by omega, by omega⟩
    · exact ⟨W.heap.size, kb, h1, e2, by omega, ho.lt hp _ h1, by omega⟩
/-- two lists of places are handed back -/
def RetTwoZ (w : World) (A B : List (Int × Int)) (e : Ending) (w' : World) : Prop :=
  ∃ a c b d, e = .returned (.tuple #[.slice a A.length c, .slice b B.length d]) ∧ TwoZ w w' (.slice a A.length c) (.slice b B.length d) A B
theorem fmtA_1 : ∀ c, c < 6 → fmtA.take c ++ [(8, (c : Int))] = fmtA.take (c + 1) := by decide
theorem fmtA_2 : fmtA.take 6 ++ [(8, 7), (8, 8), (7, 8)] = fmtA.take 9 := by decide
theorem fmtA_3 : ∀ j, j < 6 → fmtA.take (9 + j) ++ [(5 - (j : Int), 8)] = fmtA.take (9 + (j + 1)) := by decide
theorem fmtB_1 (n : Int) : ∀ j, j < 7 → (fmtB n).take j ++ [(n - 1 - (j : Int), 8)] = (fmtB n).take (j + 1) := by
  intro j hj
  rcases (show j = 0 ∨ j = 1 ∨ j = 2 ∨ j = 3 ∨ j = 4 ∨ j = 5 ∨ j = 6 by omega) with rfl | rfl | rfl | rfl | rfl | rfl | rfl <;> simp [fmtB] <;> omega
theorem fmtB_2 (n : Int) : ∀ j, j < 8 → (fmtB n).take (7 + j) ++ [(8, n - 8 + (j : Int))] = (fmtB n).take (7 + (j + 1)) := by
  intro j hj
  rcases (show j = 0 ∨ j = 1 ∨ j = 2 ∨ j = 3 ∨ j = 4 ∨ j = 5 ∨ j = 6 ∨ j = 7 by omega) with rfl | rfl | rfl | rfl | rfl | rfl | rfl | rfl <;> simp [fmtB] <;> omega
theorem fmt_takeA : fmtA.take 15 = fmtA := by decide
theorem fmt_takeB (n : Int) : (fmtB n).take 15 = fmtB n := rfl
theorem fmtA_len (k : Nat) : (fmtA.take k).length ≤ 15 := by rw [List.length_take]; exact Nat.min_le_right _ _
theorem fmtB_len (n : Int) (k : Nat) : ((fmtB n).take k).length ≤ 15 := by rw [List.length_take]; exact Nat.min_le_right _ _
theorem snoc_pos (l m : List (Int × Int)) (h : 1 ≤ m.length) : 1 ≤ (l ++ m).length := by rw [List.length_append]; omega

set_option maxRecDepth 100000 in
set_option maxHeartbeats 4000000 in
theorem formats_any (n : Int) (w : World) (hn : 17 ≤ n) (hn2 : n ≤ 41) :
    Calls Tryz.prog 238 #[.int .i64 n] w (RetTwoZ w fmtA (fmtB n)) := by
  have HS0 := Lib.hid (show TwoZ w ((w.alloc (.cells #[] 299 (0, 0))).alloc (.cells #[] 299 (0, 0))) (.slice (some ⟨w.heap.size, 0, none⟩) 0 0) (.slice (some ⟨w.heap.size + 1, 0, none⟩) 0 0) (fmtA.take 0) ((fmtB n).take 0) from by
    have h1 : (w.alloc (.cells #[] 299 (0, 0))).heap.size = w.heap.size + 1 := by simp
    refine ⟨(OwnZ.new w).grown (ba1 _ _), ?_, ⟨w.heap.size, w.heap.size + 1, rfl, rfl, by omega, by simp; omega, by simp⟩, ba2 _ _ _⟩
    have h2 := OwnZ.new (w.alloc (.cells #[] 299 (0, 0)))
    rw [h1] at h2
    exact h2.weak (by omega))
  go_enter Tryz.func238, Tryz.ntmps238
  go_wp2_with fail
  go_loopw [4, 6] (fun f c wr => ∃ (c' : Nat) (fa : Option Addr) (fc : Nat) (l : List (Int × Int)), c' ≤ 6 ∧ c = .int .i64 c' ∧ l = fmtA.take c' ∧ f = .slice fa l.length fc ∧ TwoZ w wr f (.slice (some ⟨w.heap.size + 1, 0, none⟩) 0 0) l []) (fun _ c _ => 6 - (intOf c).toNat)
  case atStart => exact ⟨0, _, _, [], by omega, rfl, rfl, rfl, HS0.out⟩
  case round =>
    obtain ⟨c', fa, fc, l, hc, rfl, hl, rfl, hst⟩ := hrel
    have HST := Lib.hid hst
    have HE := Lib.hid hl
    clear hst hl
    by_cases hlt : c' < 6
    · have hlti : (c' : Int) ≤ 5 := by omega
      have HL := Lib.hid (fmtA_1 c' hlt)
      have HLn := Lib.hid (show l.length ≤ 15 by rw [HE.out]; exact fmtA_len c')
      go_wp2_with (at_builtin; refine wpList_append_zs (o := _) rfl (.tmp 16) (.tmp 19) 282 Tryz.underlying282 rfl w.heap.size (.slice fa l.length fc) l [(8, (c' : Int))] rfl (HST.out.a.grown (ba1 _ _)) wr.heap.size 1 rfl rfl (push_at _ _) ?c3 ?c4 ?h8)
      case c3 => have := HLn.out; first | omega | (simp; omega)
      case c4 => have := HST.out.below.size; first | omega | (simp; omega)
      case h8 =>
      intro a8 c8 l8 w8 he8 ho8 hg8 hb8 hat8
      have HT8 := Lib.hid ((HST.out.grown (ba1 _ _)).more ho8 (by rw [he8]; exact snoc_pos _ _ (Nat.le_refl _)) hg8 hb8 (hat8.imp id (fun h => by simpa using h)))
      rw [HE.out, HL.out] at he8
      have HE8 := Lib.hid he8
      clear ho8 hg8 hb8 hat8 he8
      go_wp2_with fail
      exact ⟨⟨c' + 1, _, _, l8, by omega, by go_num, HE8.out, rfl, HT8.out⟩, by simp [intOf]; omega⟩
    · have hlti : ¬ (c' : Int) ≤ 5 := by omega
      have hc6 : c' = 6 := by omega
      subst hc6
      have HLn := Lib.hid (show l.length ≤ 15 by rw [HE.out]; exact fmtA_len 6)
      go_wp2_with (at_builtin; refine wpList_append_zs (o := _) rfl (.tmp 21) (.tmp 25) 282 Tryz.underlying282 rfl w.heap.size (.slice fa l.length fc) l [(8, 7), (8, 8), (7, 8)] rfl (HST.out.a.grown (ba1 _ _)) wr.heap.size 3 rfl rfl (push_at _ _) ?c3 ?c4 ?h8)
      case c3 => have := HLn.out; first | omega | (simp; omega)
      case c4 => have := HST.out.below.size; first | omega | (simp; omega)
      case h8 =>
      intro a8 c8 l8 w8 he8 ho8 hg8 hb8 hat8
      have HT8 := Lib.hid ((HST.out.grown (ba1 _ _)).more ho8 (by rw [he8]; exact snoc_pos _ _ (by decide)) hg8 hb8 (hat8.imp id (fun h => by simpa using h)))
      rw [HE.out, fmtA_2] at he8
      have HE8 := Lib.hid he8
      clear ho8 hg8 hb8 hat8 he8 HST HLn HE HS0
      go_wp2_with fail
      go_loopw [4, 7] (fun f c wr => ∃ (j : Nat) (fa : Option Addr) (fc : Nat) (l : List (Int × Int)), j ≤ 6 ∧ c = .int .i64 (5 - (j : Int)) ∧ l = fmtA.take (9 + j) ∧ f = .slice fa l.length fc ∧ TwoZ w wr f (.slice (some ⟨w.heap.size + 1, 0, none⟩) 0 0) l []) (fun _ c _ => (1 + intOf c).toNat)
      case atStart => exact ⟨0, _, _, l8, by omega, rfl, HE8.out, rfl, HT8.out⟩
      case round =>
        obtain ⟨j, fa, fc, l, hj, rfl, hl, rfl, hst⟩ := hrel
        have HST := Lib.hid hst
        have HE := Lib.hid hl
        clear hst hl HT8 HE8
        by_cases hlt : j < 6
        · have hlti : (0 : Int) ≤ 5 - (j : Int) := by omega
          have HL := Lib.hid (fmtA_3 j hlt)
          have HLn := Lib.hid (show l.length ≤ 15 by rw [HE.out]; exact fmtA_len _)
          go_wp2_with (at_builtin; refine wpList_append_zs (o := _) rfl (.tmp 31) (.tmp 34) 282 Tryz.underlying282 rfl w.heap.size (.slice fa l.length fc) l [(5 - (j : Int), 8)] rfl (HST.out.a.grown (ba1 _ _)) wr.heap.size 1 rfl rfl (push_at _ _) ?c3 ?c4 ?h8)
          case c3 => have := HLn.out; first | omega | (simp; omega)
          case c4 => have := HST.out.below.size; first | omega | (simp; omega)
          case h8 =>
          intro a9 c9 l9 w9 he9 ho9 hg9 hb9 hat9
          have HT9 := Lib.hid ((HST.out.grown (ba1 _ _)).more ho9 (by rw [he9]; exact snoc_pos _ _ (Nat.le_refl _)) hg9 hb9 (hat9.imp id (fun h => by simpa using h)))
          rw [HE.out, HL.out] at he9
          have HE9 := Lib.hid he9
          clear ho9 hg9 hb9 hat9 he9
          go_wp2_with fail
          exact ⟨⟨j + 1, _, _, l9, by omega, by go_num, HE9.out, rfl, HT9.out⟩, by simp [intOf]; omega⟩
        · have hj6 : j = 6 := by omega
          subst hj6
          have HEA := Lib.hid (show l = fmtA by rw [HE.out]; exact fmt_takeA)
          clear HE
          have HTs := Lib.hid HST.out.swap
          clear HST
          rw [show (5 : Int) - ((6 : Nat) : Int) = -1 from rfl]
          go_wp2_with fail
          go_loopw [5, 8] (fun f c wr => ∃ (j : Nat) (fb : Option Addr) (fd : Nat) (m : List (Int × Int)), j ≤ 7 ∧ c = .int .i64 (n - 1 - (j : Int)) ∧ m = (fmtB n).take j ∧ f = .slice fb m.length fd ∧ TwoZ w wr f (.slice fa l.length fc) m l) (fun _ c _ => (intOf c - n + 8).toNat)
          case atStart => exact ⟨0, _, _, [], by omega, by go_num, rfl, rfl, HTs.out⟩
          case round =>
            obtain ⟨j, fb, fd, m, hj, rfl, hl, rfl, hst⟩ := hrel
            have HST := Lib.hid hst
            have HE := Lib.hid hl
            clear hst hl HTs
            by_cases hlt : j < 7
            · have hlti : n - 7 ≤ n - 1 - (j : Int) := by omega
              have HL := Lib.hid (fmtB_1 n j hlt)
              have HLn := Lib.hid (show m.length ≤ 15 by rw [HE.out]; exact fmtB_len _ _)
              go_wp2_with (at_builtin; refine wpList_append_zs (o := _) rfl (.tmp 44) (.tmp 47) 282 Tryz.underlying282 rfl w.heap.size (.slice fb m.length fd) m [(n - 1 - (j : Int), 8)] rfl (HST.out.a.grown (ba1 _ _)) wr.heap.size 1 rfl rfl (push_at _ _) ?c3 ?c4 ?h8)
              case c3 => have := HLn.out; first | omega | (simp; omega)
              case c4 => have := HST.out.below.size; first | omega | (simp; omega)
              case h8 =>
              intro a9 c9 l9 w9 he9 ho9 hg9 hb9 hat9
              have HT9 := Lib.hid ((HST.out.grown (ba1 _ _)).more ho9 (by rw [he9]; exact snoc_pos _ _ (Nat.le_refl _)) hg9 hb9 (hat9.imp id (fun h => by simpa using h)))
              rw [HE.out, HL.out] at he9
              have HE9 := Lib.hid he9
              clear ho9 hg9 hb9 hat9 he9
              go_wp2_with fail
              exact ⟨⟨j + 1, _, _, l9, by omega, by go_num, HE9.out, rfl, HT9.out⟩, by simp [intOf]; omega⟩
            · have hlti : ¬ n - 7 ≤ n - 1 - (j : Int) := by omega
              have hj7 : j = 7 := by omega
              subst hj7
              rw [show n - 1 - ((7 : Nat) : Int) = n - 8 by omega] at hlti ⊢
              go_wp2_with fail
              go_loopw [5, 9] (fun f c wr => ∃ (j : Nat) (fb : Option Addr) (fd : Nat) (m : List (Int × Int)), j ≤ 8 ∧ c = .int .i64 (n - 8 + (j : Int)) ∧ m = (fmtB n).take (7 + j) ∧ f = .slice fb m.length fd ∧ TwoZ w wr f (.slice fa l.length fc) m l) (fun _ c _ => (n - intOf c).toNat)
              case atStart => exact ⟨0, _, _, m, by omega, by go_num, HE.out, rfl, HST.out⟩
              case round =>
                obtain ⟨j, fb, fd, m, hj, rfl, hl, rfl, hst⟩ := hrel
                have HST := Lib.hid hst
                have HE := Lib.hid hl
                clear hst hl
                by_cases hlt : j < 8
                · have hlti : n - 8 + (j : Int) < n := by omega
                  have HL := Lib.hid (fmtB_2 n j hlt)
                  have HLn := Lib.hid (show m.length ≤ 15 by rw [HE.out]; exact fmtB_len _ _)
                  go_wp2_with (at_builtin; refine wpList_append_zs (o := _) rfl (.tmp 56) (.tmp 59) 282 Tryz.underlying282 rfl w.heap.size (.slice fb m.length fd) m [(8, n - 8 + (j : Int))] rfl (HST.out.a.grown (ba1 _ _)) wr.heap.size 1 rfl rfl (push_at _ _) ?c3 ?c4 ?h8)
                  case c3 => have := HLn.out; first | omega | (simp; omega)
                  case c4 => have := HST.out.below.size; first | omega | (simp; omega)
                  case h8 =>
                  intro a9 c9 l9 w9 he9 ho9 hg9 hb9 hat9
                  have HT9 := Lib.hid ((HST.out.grown (ba1 _ _)).more ho9 (by rw [he9]; exact snoc_pos _ _ (Nat.le_refl _)) hg9 hb9 (hat9.imp id (fun h => by simpa using h)))
                  rw [HE.out, HL.out] at he9
                  have HE9 := Lib.hid he9
                  clear ho9 hg9 hb9 hat9 he9
                  go_wp2_with fail
                  exact ⟨⟨j + 1, _, _, l9, by omega, by go_num, HE9.out, rfl, HT9.out⟩, by simp [intOf]; omega⟩
                · have hlti : ¬ n - 8 + (j : Int) < n := by omega
                  have hj8 : j = 8 := by omega
                  subst hj8
                  have HEB := Lib.hid (show m = fmtB n by rw [HE.out]; exact fmt_takeB n)
                  go_wp2_with fail
                  go_ret2
                  have h1 := HEB.out
                  have h2 := HEA.out
                  subst h1 h2
                  exact ⟨_, _, _, _, rfl, HST.out.swap⟩

end Go.Proofs.YtlcglclojlffgaaGreatDoor
namespace Go.Proofs.YtlcglclojlffgaaGreatDoor
open Go.RowKit

set_option maxHeartbeats 400000 in
theorem dist_any (n : Int) (w : World) (h1 : -100000 ≤ n) (h2 : n ≤ 100000) :
    Calls Tryz.prog 251 #[.int .i64 n] w fun e w' => e = .returned (.int .i64 (absI n)) ∧ w = w' := by
  go_enter Tryz.func251, Tryz.ntmps251
  go_wp2_with fail
  all_goals go_ret
  all_goals exact ⟨ret_int (by unfold absI; split <;> omega), rfl⟩
set_option maxHeartbeats 400000 in
theorem finder_any (r c : Int) (w : World) (h1 : -1000 ≤ r) (h2 : r ≤ 1000) (h3 : -1000 ≤ c) (h4 : c ≤ 1000) :
    Calls Tryz.prog 253 #[.int .i64 r, .int .i64 c] w fun e w' => e = .returned (.int .i64 (findI r c)) ∧ w = w' := by
  obtain ⟨d, hd⟩ : ∃ d, d = dst r c := ⟨_, rfl⟩
  have HF := Lib.hid (show findI r c = if d = 2 ∨ d = 4 then 0 else 1 by rw [findI, hd])
  have HD := Lib.hid (show (if absI r < absI c then absI c else absI r) = d by rw [hd, dst]; split <;> split <;> omega)
  clear hd
  have hcase : (d = 2 ∨ d = 4) ∨ ¬ (d = 2 ∨ d = 4) := Classical.em _
  rcases hcase with hc | hc
  · have HV := Lib.hid (show findI r c = 0 by rw [HF.out, if_pos hc])
    have hdd := HD.out
    rcases hc with rfl | rfl
    all_goals
      clear HF
      go_enter Tryz.func253, Tryz.ntmps253
      go_wp2_with fail
      refine (dist_any r _ (by omega) (by omega)).mono ?_
      rintro e w' ⟨rfl, rfl⟩
      go_wp2_with fail
      refine (dist_any c _ (by omega) (by omega)).mono ?_
      rintro e w' ⟨rfl, rfl⟩
      go_wp2_with fail
      all_goals go_ret
      all_goals exact ⟨ret_int HV.out.symm, rfl⟩
  · have HV := Lib.hid (show findI r c = 1 by rw [HF.out, if_neg hc])
    have hdd := HD.out
    have d2 : (d == 2) = false := by rw [beq_eq_false_iff_ne]; omega
    have d4 : (d == 4) = false := by rw [beq_eq_false_iff_ne]; omega
    clear HF hc
    go_enter Tryz.func253, Tryz.ntmps253
    go_wp2_with fail
    refine (dist_any r _ (by omega) (by omega)).mono ?_
    rintro e w' ⟨rfl, rfl⟩
    go_wp2_with fail
    refine (dist_any c _ (by omega) (by omega)).mono ?_
    rintro e w' ⟨rfl, rfl⟩
    go_wp2_with fail
    all_goals go_ret
    all_goals exact ⟨ret_int HV.out.symm, rfl⟩
set_option maxHeartbeats 1000000 in
theorem middle_any (n r c : Int) (w : World) (hn : 17 ≤ n) (hn2 : n ≤ 41) :
    Calls Tryz.prog 250 #[.int .i64 n, .agg #[.int .i64 r, .int .i64 c]] w fun e w' => e = .returned (.agg #[.int .i64 (midI n r), .int .i64 (midI n c)]) ∧ Below w.heap.size w w' := by
  by_cases e1 : n / 2 < r
  · by_cases e2 : n / 2 < c
    · have h1 : midI n r = n - 4 := by rw [midI, if_pos e1]
      have h2 : midI n c = n - 4 := by rw [midI, if_pos e2]
      rw [h1, h2]
      clear h1 h2
      go_enter Tryz.func250, Tryz.ntmps250
      go_wp2_with fail
      refine bodyPost_ret (v := .agg #[.int .i64 (n - 4), .int .i64 (n - 4)]) (by simp [results, Tryz.results250, go_sem]) rfl ⟨rfl, ?_⟩
      exact ba3 _ _ _ _
    · have h1 : midI n r = n - 4 := by rw [midI, if_pos e1]
      have h2 : midI n c = 3 := by rw [midI, if_neg e2]
      rw [h1, h2]
      clear h1 h2
      go_enter Tryz.func250, Tryz.ntmps250
      go_wp2_with fail
      refine bodyPost_ret (v := .agg #[.int .i64 (n - 4), .int .i64 (3)]) (by simp [results, Tryz.results250, go_sem]) rfl ⟨rfl, ?_⟩
      exact ba3 _ _ _ _
  · by_cases e2 : n / 2 < c
    · have h1 : midI n r = 3 := by rw [midI, if_neg e1]
      have h2 : midI n c = n - 4 := by rw [midI, if_pos e2]
      rw [h1, h2]
      clear h1 h2
      go_enter Tryz.func250, Tryz.ntmps250
      go_wp2_with fail
      refine bodyPost_ret (v := .agg #[.int .i64 (3), .int .i64 (n - 4)]) (by simp [results, Tryz.results250, go_sem]) rfl ⟨rfl, ?_⟩
      exact ba3 _ _ _ _
    · have h1 : midI n r = 3 := by rw [midI, if_neg e1]
      have h2 : midI n c = 3 := by rw [midI, if_neg e2]
      rw [h1, h2]
      clear h1 h2
      go_enter Tryz.func250, Tryz.ntmps250
      go_wp2_with fail
      refine bodyPost_ret (v := .agg #[.int .i64 (3), .int .i64 (3)]) (by simp [results, Tryz.results250, go_sem]) rfl ⟨rfl, ?_⟩
      exact ba3 _ _ _ _

end Go.Proofs.YtlcglclojlffgaaGreatDoor
namespace Go.Proofs.YtlcglclojlffgaaGreatDoor
open Go.RowKit

theorem midI_bd {n r : Int} (hn : 17 ≤ n) (hn2 : n ≤ 41) : 3 ≤ midI n r ∧ midI n r ≤ 37 := by unfold midI; split <;> omega
theorem quietS {P : Program} {f : FuncId} {args : Array Value} {w : World} {n : Nat} {v : Value} (h : Calls P f args (w.drewN n) fun e w' => e = .returned v ∧ w.drewN n = w') : Calls P f args (w.drewN n) fun e w'' => e = .returned v ∧ ∃ m, w'' = w.drewN m :=
  Calls.quiet_of_same (h.mono fun _ _ ⟨h1, h2⟩ => ⟨h1, h2.symm⟩)
set_option maxHeartbeats 1000000 in
theorem pat3_any (n r c : Int) (w : World) (hn : 17 ≤ n) (hn2 : n ≤ 41) :
    Calls Tryz.prog 254 #[.int .i64 n, .agg #[.int .i64 r, .int .i64 c]] w fun e w' => e = .returned (.bool (decide (r = 6 ∧ 8 ≤ c ∧ c ≤ n - 9))) ∧ Below w.heap.size w w' := by
  by_cases h : r = 6
  · subst h
    have HR := Lib.hid (show decide ((6 : Int) = 6 ∧ 8 ≤ c ∧ c ≤ n - 9) = inB c 8 (n - 9) by simp [inB])
    go_enter Tryz.func254, Tryz.ntmps254
    go_wp2_with fail
    refine (inRange_any _ _ _ _).mono ?_
    rintro e w' ⟨rfl, rfl⟩
    go_wp2_with fail
    go_ret
    exact ⟨ret_bool HR.out.symm, ba1 _ _⟩
  · have h' : (r == 6) = false := by rw [beq_eq_false_iff_ne]; exact h
    have HR := Lib.hid (show decide (r = 6 ∧ 8 ≤ c ∧ c ≤ n - 9) = false by simp; omega)
    clear h
    go_enter Tryz.func254, Tryz.ntmps254
    go_wp2_with fail
    go_ret
    exact ⟨ret_bool HR.out.symm, ba1 _ _⟩
set_option maxHeartbeats 1000000 in
theorem pat5_any (n r c : Int) (w : World) (hn : 17 ≤ n) (hn2 : n ≤ 41) :
    Calls Tryz.prog 256 #[.int .i64 n, .agg #[.int .i64 r, .int .i64 c]] w fun e w' => e = .returned (.bool (decide (c = 6 ∧ 8 ≤ r ∧ r ≤ n - 9))) ∧ Below w.heap.size w w' := by
  by_cases h : c = 6
  · subst h
    have HR := Lib.hid (show decide ((6 : Int) = 6 ∧ 8 ≤ r ∧ r ≤ n - 9) = inB r 8 (n - 9) by simp [inB])
    go_enter Tryz.func256, Tryz.ntmps256
    go_wp2_with fail
    refine (inRange_any _ _ _ _).mono ?_
    rintro e w' ⟨rfl, rfl⟩
    go_wp2_with fail
    go_ret
    exact ⟨ret_bool HR.out.symm, ba1 _ _⟩
  · have h' : (c == 6) = false := by rw [beq_eq_false_iff_ne]; exact h
    have HR := Lib.hid (show decide (c = 6 ∧ 8 ≤ r ∧ r ≤ n - 9) = false by simp; omega)
    clear h
    go_enter Tryz.func256, Tryz.ntmps256
    go_wp2_with fail
    go_ret
    exact ⟨ret_bool HR.out.symm, ba1 _ _⟩
set_option maxHeartbeats 1000000 in
theorem pat4_any (n r c : Int) (w : World) (hc : 0 ≤ c) (hc2 : c ≤ 41) :
    Calls Tryz.prog 255 #[.int .i64 n, .agg #[.int .i64 r, .int .i64 c]] w fun e w' => e = .returned (.int .i64 (1 - c % 2)) ∧ Below w.heap.size w w' := by
  go_enter Tryz.func255, Tryz.ntmps255
  go_wp2_with fail
  go_ret
  exact ⟨rfl, ba1 _ _⟩
set_option maxHeartbeats 1000000 in
theorem pat6_any (n r c : Int) (w : World) (hr : 0 ≤ r) (hr2 : r ≤ 41) :
    Calls Tryz.prog 257 #[.int .i64 n, .agg #[.int .i64 r, .int .i64 c]] w fun e w' => e = .returned (.int .i64 (1 - r % 2)) ∧ Below w.heap.size w w' := by
  go_enter Tryz.func257, Tryz.ntmps257
  go_wp2_with fail
  go_ret
  exact ⟨rfl, ba1 _ _⟩
set_option maxHeartbeats 1000000 in
theorem pat8_any (n r c : Int) (w : World) :
    Calls Tryz.prog 259 #[.int .i64 n, .agg #[.int .i64 r, .int .i64 c]] w fun e w' => e = .returned (.int .i64 1) ∧ Below w.heap.size w w' := by
  go_enter Tryz.func259, Tryz.ntmps259
  go_wp2_with fail
  go_ret
  first | exact ⟨rfl, ba1 _ _⟩ | exact ⟨rfl, Below.refl _ _⟩
set_option maxHeartbeats 1000000 in
theorem pat7_any (n r c : Int) (w : World) (hn : 17 ≤ n) (hn2 : n ≤ 41) :
    Calls Tryz.prog 258 #[.int .i64 n, .agg #[.int .i64 r, .int .i64 c]] w fun e w' => e = .returned (.bool (decide (r = n - 8 ∧ c = 8))) ∧ Below w.heap.size w w' := by
  go_enter Tryz.func258, Tryz.ntmps258
  go_wp2_with fail
  all_goals go_ret
  all_goals exact ⟨ret_bool (by simp_all), ba1 _ _⟩
set_option maxHeartbeats 1000000 in
theorem pat2_any (n r c : Int) (w : World) (hn : 17 ≤ n) (hn2 : n ≤ 41) (hr : 0 ≤ r) (hr2 : r ≤ 41) (hc : 0 ≤ c) (hc2 : c ≤ 41) :
    Calls Tryz.prog 252 #[.int .i64 n, .agg #[.int .i64 r, .int .i64 c]] w fun e w' => e = .returned (.int .i64 (findI (r - midI n r) (c - midI n c))) ∧ Below w.heap.size w w' := by
  have hu := midI_bd (r := r) hn hn2
  have hv := midI_bd (r := c) hn hn2
  go_enter Tryz.func252, Tryz.ntmps252
  go_wp2_with fail
  refine (middle_any n r c _ hn hn2).mono ?_
  rintro e w1 ⟨rfl, hb1⟩
  have hbox := box1 hb1
  have hz : w.heap.size < w1.heap.size := by have := hb1.size; simp at this; omega
  have HB := Lib.hid (bt1 hb1)
  clear hb1
  go_wp2_with fail
  refine (finder_any _ _ _ (by omega) (by omega) (by omega) (by omega)).mono ?_
  rintro e w2 ⟨rfl, rfl⟩
  go_wp2_with fail
  go_ret
  exact ⟨rfl, bt0 HB.out (ba1 _ _) (Nat.le_refl _)⟩

theorem inF_eq (n r c d : Int) (hd : d = dst (r - midI n r) (c - midI n c)) : inF n r c = ((midI n r == 3 || midI n c == 3) && decide (d ≤ 4)) := by rw [inF, hd]
set_option maxRecDepth 100000 in
set_option maxHeartbeats 2000000 in
theorem pat1_any (n r c : Int) (w : World) (hn : 17 ≤ n) (hn2 : n ≤ 41) (hr : 0 ≤ r) (hr2 : r ≤ 41) (hc : 0 ≤ c) (hc2 : c ≤ 41) :
    Calls Tryz.prog 249 #[.int .i64 n, .agg #[.int .i64 r, .int .i64 c]] w fun e w' => e = .returned (.bool (inF n r c)) ∧ Below w.heap.size w w' := by
  have hu := midI_bd (r := r) hn hn2
  have hv := midI_bd (r := c) hn hn2
  obtain ⟨d, hd⟩ : ∃ d, d = dst (r - midI n r) (c - midI n c) := ⟨_, rfl⟩
  have HI := Lib.hid (inF_eq n r c d hd)
  have HM := Lib.hid (fun W => middle_any n r c W hn hn2)
  obtain ⟨u, hu'⟩ : ∃ u, u = midI n r := ⟨_, rfl⟩
  obtain ⟨v, hv'⟩ : ∃ v, v = midI n c := ⟨_, rfl⟩
  rw [← hu'] at hu hd HI HM
  rw [← hv'] at hv hd HI HM
  have HD := Lib.hid (show (if absI (r - u) < absI (c - v) then absI (c - v) else absI (r - u)) = d by rw [hd, dst]; split <;> split <;> omega)
  clear hu' hv' hd
  by_cases g : u = 3 ∨ v = 3
  · have HR := Lib.hid (show inF n r c = decide (d ≤ 4) by
      rw [HI.out]
      rcases g with rfl | rfl <;> simp)
    rcases (show u = 3 ∨ (u ≠ 3 ∧ v = 3) by omega) with rfl | ⟨gu, rfl⟩
    all_goals
      first | (have gu' : (u == 3) = false := by rw [beq_eq_false_iff_ne]; exact gu) | skip
      clear g
      first | clear gu | skip
      go_enter Tryz.func249, Tryz.ntmps249
      go_wp2_with fail
      refine (HM.out _).mono ?_
      rintro e w1 ⟨rfl, hb1⟩
      have hbox := box1 hb1
      have hz : w.heap.size < w1.heap.size := by have := hb1.size; simp at this; omega
      have HB := Lib.hid (bt1 hb1)
      have hdd := HD.out
      clear hb1
      go_wp2_with fail
      go_quiet ((go_at_call 251; exact quietS (dist_any _ _ (by omega) (by omega))))
      go_wp2_with fail
      go_ret
      exact ⟨ret_bool HR.out.symm, bt0 HB.out ((ba1 _ _).trans (below_drewN (Below.refl _ _) nq)) (Nat.le_refl _)⟩
  · have HR := Lib.hid (show inF n r c = false by
      rw [HI.out]
      have h1 : (u == 3) = false := by rw [beq_eq_false_iff_ne]; omega
      have h2 : (v == 3) = false := by rw [beq_eq_false_iff_ne]; omega
      rw [h1, h2]; rfl)
    have h1 : (u == 3) = false := by rw [beq_eq_false_iff_ne]; omega
    have h2 : (v == 3) = false := by rw [beq_eq_false_iff_ne]; omega
    clear g
    go_enter Tryz.func249, Tryz.ntmps249
    go_wp2_with fail
    refine (HM.out _).mono ?_
    rintro e w1 ⟨rfl, hb1⟩
    have hbox := box1 hb1
    have hz : w.heap.size < w1.heap.size := by have := hb1.size; simp at this; omega
    have HB := Lib.hid (bt1 hb1)
    clear hb1
    go_wp2_with fail
    go_quiet (fail)
    go_wp2_with fail
    go_ret
    exact ⟨ret_bool HR.out.symm, bt0 HB.out ((ba1 _ _).trans (below_drewN (Below.refl _ _) nq)) (Nat.le_refl _)⟩

end Go.Proofs.YtlcglclojlffgaaGreatDoor
