import Derived.Test.YtlcglclojlffgaaGreatDoorL0
import Derived.StillTail
import Derived.Laws.AppendOwnNone
import Derived.Deep.RegionHeld3
import Derived.BigQuiet
import Derived.Maps.AppendAt
import Derived.Maps.OwnOps
import Derived.Maps.Views
import Derived.DeepKeys4
import Derived.Laws.EntriesVeiled
namespace Go.Proofs.YtlcglclojlffgaaGreatDoor
open Go.RowKit

set_option maxRecDepth 100000 in
set_option maxHeartbeats 1000000 in
theorem width_any (F : Fd) (hF : FdOk F) (b : Nat) (w : World) (hA : CalcAt w b F) :
    Calls Tryz.prog 194 #[.pointer (some ⟨b, 0, none⟩)] w (RetQ (.int .i64 F.k) w) := by
  have hk3 := hF.try'.k3
  have hk8 := hF.try'.k8
  have HA := Lib.hid hA
  have HQ := Lib.hid hF.try'.q
  have hq := hF.q_bd
  clear hA hF
  go_enter Tryz.func194, Tryz.ntmps194
  go_wp2_with fail
  go_loopw [3] (fun i wr => ∃ (k nn : Nat), k ≤ F.k ∧ i = .int .i64 k ∧ wr = w.drewN nn) (fun i _ => F.k - (intOf i).toNat)
  case atStart => exact ⟨0, 0, Nat.zero_le _, rfl, rfl⟩
  case round =>
    obtain ⟨k, nn, hk, rfl, rfl⟩ := hrel
    have h1 : w.cell? ⟨b, 1, none⟩ = some (.int .i64 F.q) := HA.out.cell.2.1
    obtain ⟨p, hp⟩ : ∃ p : Nat, p = 2 ^ (k + 1) := ⟨_, rfl⟩
    have hp8 : 2 ^ (k + 1) ≤ 2 ^ 9 := Nat.pow_le_pow_right (by omega) (by omega)
    have hwr : IntKind.i64.wrap (2 * 2 ^ k) = (p : Int) := by
      have hc : ((2 : Int) ^ k) = ((2 ^ k : Nat) : Int) := by push_cast; rfl
      rw [hc, show (2 : Int) * ((2 ^ k : Nat) : Int) = (p : Int) by rw [hp, Nat.pow_succ]; omega]
      exact wraps64 _ (by omega) (by omega)
    by_cases hlt : k < F.k
    · have hle : decide (p ≤ F.q) = true := by
        have h2 : 2 ^ (k + 1) ≤ 2 ^ F.k := Nat.pow_le_pow_right (by omega) hlt
        rw [HQ.out, decide_eq_true_iff]; omega
      clear hp
      go_wp2_with fail
      go_quiet (fail)
      go_wp2_with fail
      exact ⟨⟨k + 1, _, by omega, by go_num, rfl⟩, by simp [intOf]; omega⟩
    · have hle : decide (p ≤ F.q) = false := by
        have h2 : 2 ^ (F.k + 1) ≤ 2 ^ (k + 1) := Nat.pow_le_pow_right (by omega) (by omega)
        rw [Nat.pow_succ] at h2
        have := Nat.two_pow_pos F.k
        rw [HQ.out, decide_eq_false_iff_not]; omega
      clear hp
      have HK : Hid (k = F.k) := Lib.hid (by omega)
      go_wp2_with fail
      go_quiet (fail)
      go_wp2_with fail
      go_ret
      exact ⟨ret_int (by rw [HK.out]), _, World.drewN_drewN _ _ _⟩

end Go.Proofs.YtlcglclojlffgaaGreatDoor
namespace Go.Proofs.YtlcglclojlffgaaGreatDoor
open Go.RowKit

/-! A region that draws its order: reads and calls that keep the world within a class, then a tail in one order. -/
section
variable {P : Program} {ops : Array Oper} {md : Region.Mode} {C : World → Prop}

def wpHeadQ (P : Program) (md : Region.Mode) (ops : Array Oper) (C : World → Prop) (n : Nat) (L : Array Bool → Act → Prop) : Nat → Array Bool → Act → Prop
  | 0, listed, a => L listed a
  | f + 1, listed, a =>
    Region.ready md ops listed ≠ [] ∧ ∀ i ∈ Region.ready md ops listed, i < n ∧ qOp P ops C i (wpHeadQ P md ops C n L f (listed.setIfInBounds i true)) a

theorem wpAny_of_headQ {n g : Nat} {L : Array Bool → Act → Prop} {Q' : Exit → Act → World → Prop} (hL : ∀ listed a w, C w → L listed a → wpAny P md ops Q' g listed a w) :
    ∀ (f : Nat) (listed : Array Bool) (a : Act) (w : World), C w → wpHeadQ P md ops C n L f listed a → wpAny P md ops Q' (f + g) listed a w
  | 0, listed, a, w, hw, h => by rw [Nat.zero_add]; exact hL _ _ _ hw h
  | f + 1, listed, a, w, hw, h => by
    rw [show f + 1 + g = (f + g) + 1 by omega]
    exact ⟨fun h0 => absurd h0 h.1, fun i hi => wpOp_of_qOp hw (fun a' w' hw' h' => wpAny_of_headQ hL f _ a' w' hw' h') (h.2 i hi).2⟩

theorem wpHeadQ_first {n i : Nat} {oi : Oper} {v : Value} {L : Array Bool → Act → Prop} (hi : ops[i]? = some oi) (hsel : ∀ (j : Nat) (o : Oper) cs b, ops[j]? = some o → o.op ≠ .select cs b)
    (hs : Region.sinkB md ops n = true) (hc : Region.chainB md ops n = true) (hn : n < ops.size) (hin : i < n)
    (hdone : ∀ listed a, L listed a → ∀ j ∈ Region.ready md ops listed, n ≤ j) :
    ∀ (f : Nat) (listed : Array Bool) (a : Act), HeadInv md ops n listed →
      (∀ j oj, ops[j]? = some oj → j ≠ i → listed.getD j true = false → (∀ e ∈ oj.after, Region.binds md e = true → e.on ≠ i) → oi.apart ops oj = true) →
      i ∈ Region.ready md ops listed → YieldsIn P ops C oi v a →
      wpHeadQ P md ops C n L f (listed.setIfInBounds i true) (a.put oi.dst v) → wpHeadQ P md ops C n L (f + 1) listed a := by
  intro f
  induction f with
  | zero =>
    intro listed a inv _ hr hy H
    have hun := (mem_ready.1 hr).1
    refine ⟨fun h => (by rw [h] at hr; cases hr), fun j hj => ?_⟩
    have hjn : j < n := by
      rcases Nat.lt_or_ge j n with h | h
      · exact h
      · exact absurd hj (tail_waits hs hc hn inv _ i rfl hin hun j h)
    refine ⟨hjn, ?_⟩
    by_cases hji : j = i
    · subst hji; exact hy.qOp hi H
    · have := hdone _ _ H j (ready_mono hj hji)
      omega
  | succ f ih =>
    intro listed a inv hfree hr hy H
    have hun := (mem_ready.1 hr).1
    refine ⟨fun h => (by rw [h] at hr; cases hr), fun j hj => ?_⟩
    have hjn : j < n := by
      rcases Nat.lt_or_ge j n with h | h
      · exact h
      · exact absurd hj (tail_waits hs hc hn inv _ i rfl hin hun j h)
    refine ⟨hjn, ?_⟩
    by_cases hji : j = i
    · subst hji; exact hy.qOp hi H
    · have h1 := (H.2 j (ready_mono hj hji)).2
      obtain ⟨hjun, oj, hoj, hall⟩ := mem_ready.1 hj
      have hnot : ∀ e ∈ oj.after, Region.binds md e = true → e.on ≠ i := fun e he hb heq => by
        have h1 := hall e he hb
        rw [heq, getD_both hun] at h1
        cases h1
      have h2 := qOp_put hoj (hfree j oj hoj hji hjun hnot) (fun cs b => hsel i oi cs b hi) (fun cs b => hsel j oj cs b hoj) hy h1
      have hfree' : ∀ k ok, ops[k]? = some ok → k ≠ i → (listed.setIfInBounds j true).getD k true = false →
          (∀ e ∈ ok.after, Region.binds md e = true → e.on ≠ i) → oi.apart ops ok = true := fun k ok hk hki hun hno => by
        refine hfree k ok hk hki ?_ hno
        by_cases hjk : j = k
        · subst hjk; exact hjun
        · rw [getD_set_ne true hjk] at hun; exact hun
      refine qOp_mono (fun a' h3 => ih (listed.setIfInBounds j true) a' (inv.set hj hjn) hfree' (ready_mono hr (Ne.symm hji)) h3.1 ?_) h2
      rw [Array.setIfInBounds_comm _ _ hji]
      exact h3.2

theorem wpHeadQ_lex {n g : Nat} {Lq : Act → Prop} (hsel : Region.noSelect ops = true) (hs : Region.sinkB md ops n = true) (hc : Region.chainB md ops n = true) (hn : n < ops.size) :
    ∀ (l : List Oper) (k : Nat) (listed : Array Bool) (a : Act), (∀ j, j < l.length → l[j]? = ops[k + j]?) → k + l.length = n → HeadInv md ops n listed →
    Region.lexHead md ops g l.length k listed = true → wpQuiet P ops C Lq l a →
    wpHeadQ P md ops C n (fun listed' a' => Region.seqB md ops g n listed' = true ∧ Lq a') l.length listed a
  | [], k, listed, a, _, hk, _, hB, h => by
    have : k = n := by simpa using hk
    subst this
    exact ⟨by simpa [Region.lexHead] using hB, h⟩
  | o :: l, k, listed, a, hl, hk, inv, hB, h => by
    have h0 : ops[k]? = some o := by simpa using (hl 0 (by simp)).symm
    simp only [List.length_cons, Region.lexHead, Bool.and_eq_true] at hB
    obtain ⟨⟨hr, hf⟩, hB'⟩ := hB
    have hkn : k < n := by simp only [List.length_cons] at hk; omega
    have hr' : k ∈ Region.ready md ops listed := by simpa using hr
    have hst : qOp P ops C k (wpQuiet P ops C Lq l) a := by unfold qOp; simp only [h0]; exact h
    obtain ⟨v, hy, hK⟩ := yieldsIn_of_qOp h0 hst
    exact wpHeadQ_first h0 (Region.noSelect_spec hsel) hs hc hn hkn (fun listed' a' hL => seqB_ready hL.1) l.length listed a inv (Region.free_spec h0 hf) hr' hy
      (wpHeadQ_lex hsel hs hc hn l (k + 1) _ _ (fun j hj => by have := hl (j + 1) (by simp; omega); simpa [Nat.add_assoc, Nat.add_comm 1 j] using this) (by simp only [List.length_cons] at hk; omega) (inv.set hr' hkn) hB' hK)
end

/-- **THE HEAD OF n OPERATIONS READS AND CALLS QUIETLY; THE TAIL COMES LAST, IN ITS ORDER.** -/
theorem wp_region_quiet_tail {P : Program} {C : World → Prop} {id : Nat} {Q : Exit → Act → World → Prop} {a : Act} {w : World} {l : List Oper} (n : Nat) (hm : P.follows .mixedOrders = true) (hB : Region.lexTailB .any l.toArray n = true) (hC : C w.drew)
    (h : wpQuiet P l.toArray C (fun a' => ∀ w', C w' → wpList P l.toArray Q (l.drop n) a' w') (l.take n) a) : (Code.region id l.toArray true).wp P Q a w := by
  simp only [Region.lexTailB, Bool.and_eq_true, decide_eq_true_eq] at hB
  obtain ⟨⟨⟨⟨hsel, hn⟩, hs⟩, hc⟩, hlex⟩ := hB
  have hn' : n < l.length := by simpa using hn
  have htl : (l.take n).length = n := by simp; omega
  have hdl : (l.drop n).length = l.toArray.size - n := by simp
  have inv0 : HeadInv .any l.toArray n (Array.replicate l.toArray.size false) :=
    ⟨by simp, fun j oj _ hl => (by rw [getD_replicate_false] at hl; cases hl), fun t _ ht => getD_in (by simpa using ht) (getD_replicate_false _ _)⟩
  have H := wpHeadQ_lex (md := .any) (g := l.toArray.size - n) hsel hs hc hn (l.take n) 0 _ a (fun j hj => by
    have hj' : j < n := by rw [htl] at hj; exact hj
    simp [hj']) (by simpa using htl) inv0 (by rw [htl]; exact hlex) h
  refine wp_region_any hm ?_
  have := wpAny_of_headQ (Q' := Q) (g := l.toArray.size - n) (fun listed a' w' hw' hL => by
    have := wpAny_of_seq (md := .any) (Q' := Q) (l.drop n) n listed a' w' (fun j => by simp [List.getElem?_drop]) (by rw [hdl]; exact hL.1) (hL.2 w' hw')
    rwa [hdl] at this) _ _ _ _ hC H
  rw [htl, show n + (l.toArray.size - n) = l.toArray.size by omega] at this
  exact this
theorem wp_region_ext_tail {P : Program} {id : Nat} {Q : Exit → Act → World → Prop} {a : Act} {w : World} {l : List Oper} (n : Nat) (hm : P.follows .mixedOrders = true) (hB : Region.lexTailB .any l.toArray n = true)
    (h : wpQuiet P l.toArray (fun w' => ∃ s : Ext w, w' = s.w) (fun a' => ∀ w', (∃ s : Ext w, w' = s.w) → wpList P l.toArray Q (l.drop n) a' w') (l.take n) a) : (Code.region id l.toArray true).wp P Q a w :=
  wp_region_quiet_tail (C := fun w' => ∃ s : Ext w, w' = s.w) n hm hB ⟨⟨_, (Below.refl _ _).drew⟩, rfl⟩ h

end Go.Proofs.YtlcglclojlffgaaGreatDoor
namespace Go.Proofs.YtlcglclojlffgaaGreatDoor
open Go.RowKit

theorem CalcAt.ext {w : World} {b : Nat} {F : Fd} (h : CalcAt w b F) (s : Ext w) : CalcAt s.w b F := h.below s.below
theorem IntsAt.take {w : World} {a : Option Addr} {zs : List Int} (h : IntsAt w a zs) (k : Nat) : IntsAt w a (zs.take k) := by
  intro i hi
  rw [List.length_take] at hi
  obtain ⟨b, o, h1, h2⟩ := h i (by omega)
  exact ⟨b, o, h1, by rw [h2]; simp⟩
/-- a slice of the call's own, cut short -/
theorem OwnI.cut {w : World} {base : Nat} {a : Option Addr} {n c : Nat} {zs : List Int} (h : OwnI w base (.slice a n c) zs) (k : Nat) (hk : k ≤ zs.length) : OwnI w base (.slice a k c) (zs.take k) := by
  unfold OwnI World.ownsRow at h ⊢
  have e : (zs.take k).length = k := by rw [List.length_take]; omega
  rw [e]
  refine ⟨by simp [List.length_take]; omega, ?_⟩
  rcases h.2 with ⟨h1, h0⟩ | ⟨g, cap, cur, h1, hb, hg, hn, hm, hs, ht⟩
  · left
    have := Value.slice.inj h1
    obtain ⟨r1, r2, r3⟩ := this
    have h00 : k = 0 := by omega
    refine ⟨by rw [r1, h00, r3], h00⟩
  · right
    have := Value.slice.inj h1
    obtain ⟨r1, r2, r3⟩ := this
    refine ⟨g, cap, cur, by rw [r1, r3], hb, hg, by omega, hm, hs, ?_⟩
    rw [Nat.mul_one] at ht ⊢
    rw [List.map_take, ← ht, List.take_take, Nat.min_eq_left (by omega)]

end Go.Proofs.YtlcglclojlffgaaGreatDoor
namespace Go.Proofs.YtlcglclojlffgaaGreatDoor
open Go.RowKit

theorem Fd.IsInv.lt {F : Fd} (hf : F.Fit) {a b : Nat} (h : F.IsInv a b) : b < F.q := by
  obtain ⟨i, -, -, rfl⟩ := h
  exact F.pw_lt hf _
end Go.Proofs.YtlcglclojlffgaaGreatDoor
namespace Go.Proofs.YtlcglclojlffgaaGreatDoor

/-- a layout in numbers -/
structure Lay where
  data : Int
  checks : Int
  count : Int
def Lay.share (l : Lay) (b : Int) : Int := l.data / l.count + if l.count - l.data % l.count ≤ b then 1 else 0
def Lay.total (l : Lay) : Int := l.data + l.count * l.checks
def codB (q len checks : Int) : Bool := decide (1 ≤ checks) && decide (checks ≤ 64) && decide (checks + 1 ≤ len) && decide (len ≤ 255) && decide (len < q)
def Lay.ok (l : Lay) (q : Int) : Bool := decide (1 ≤ l.count) && decide (l.count ≤ 16) && decide (l.count ≤ l.data) && decide (l.data ≤ 1500) && decide (1 ≤ l.checks) && decide (l.checks ≤ 64) && decide (l.total ≤ 1500) &&
  codB q (l.share 0 + l.checks) l.checks && codB q (l.share (l.count - 1) + l.checks) l.checks
/-- the elements of a symbol -/
def Fam.elems (f : Fam) (size : Int) : Int := if f.kind = 2 then size * f.cols else (dcnt size : Int) / f.fk
def Fam.lay (f : Fam) (size level : Int) : Lay :=
  let e := f.elems size
  let m := if ((2 ^ f.fk.toNat : Nat) : Int) - 1 ≤ 255 then ((2 ^ f.fk.toNat : Nat) : Int) - 1 else 255
  let count := (e + m - 1) / m
  let x := e * f.levels.getD level.toNat 0 / 100 / count
  let y := if x ≤ 64 then x else 64
  let checks := if 2 ≤ y then y else 2
  ⟨e - count * checks, checks, count⟩

end Go.Proofs.YtlcglclojlffgaaGreatDoor
namespace Go.Proofs.YtlcglclojlffgaaGreatDoor
open Go.RowKit

/-- a valid binary field in numbers -/
structure FV (p k g : Int) (F : Fd) : Prop where
  ok : FldOk p k g F
  b : fldB p k g = true
  e : F = bF k.toNat g.toNat
theorem fv_of {p k g : Int} (h : fldB p k g = true) : FV p k g (bF k.toNat g.toNat) := ⟨fldB_ok h, h, rfl⟩
theorem FV.fd {p k g : Int} {F : Fd} (h : FV p k g F) : FdOk F := h.ok.ok
theorem calc_fv {p k g : Int} {F : Fd} (h : FV p k g F) (w : World) :
    Calls Tryz.prog 192 #[.agg #[.int .i64 p, .int .i64 k, .int .i64 g]] w (RetCalc true F w) := by
  have h2 := calc_two k g w
  have hp := h.ok.p
  have hb := h.b
  subst hp
  rw [hb, ← h.e] at h2
  exact h2

/-- a coder in memory -/
def CoderAt (w : World) (d b : Nat) (F : Fd) (len chk : Int) : Prop := w.heap[d]? = some (.cells #[.pointer (some ⟨b, 0, none⟩), .int .i64 len, .int .i64 chk] 285 (0, 0)) ∧ CalcAt w b F
theorem CoderAt.below {w w' : World} {d b : Nat} {F : Fd} {len chk : Int} (h : CoderAt w d b F len chk) (hb : Below w.heap.size w w') : CoderAt w' d b F len chk := ⟨blkK hb h.1, h.2.below hb⟩
theorem CoderAt.cell {w : World} {d b : Nat} {F : Fd} {len chk : Int} (h : CoderAt w d b F len chk) : w.cell? ⟨d, 0, none⟩ = some (.pointer (some ⟨b, 0, none⟩)) ∧ w.cell? ⟨d, 1, none⟩ = some (.int .i64 len) ∧ w.cell? ⟨d, 2, none⟩ = some (.int .i64 chk) := by
  have hc := (heap_cellR h.1).1
  exact ⟨by rw [hc]; rfl, by rw [hc]; rfl, by rw [hc]; rfl⟩
/-- a coder is handed back, or none -/
def RetCoder (ok : Bool) (F : Fd) (len chk : Int) (w : World) (e : Ending) (w' : World) : Prop :=
  Below w.heap.size w w' ∧ ∃ a, e = .returned (.tuple #[.pointer a, .bool ok]) ∧ (ok = true → ∃ d b, a = some ⟨d, 0, none⟩ ∧ CoderAt w' d b F len chk)
set_option maxRecDepth 100000 in
set_option maxHeartbeats 1000000 in
theorem coder_any {p k g : Int} {F : Fd} (h : FV p k g F) (len chk : Int) (w : World) :
    Calls Tryz.prog 210 #[.agg #[.int .i64 p, .int .i64 k, .int .i64 g, .int .i64 len, .int .i64 chk]] w (RetCoder (codB F.q len chk) F len chk w) := by
  have H := Lib.hid h
  have hq := h.fd.q_bd
  clear h
  rcases Bool.eq_false_or_eq_true (inB chk 1 64) with h1 | h1
  · have hc := inB_iff.1 h1
    have hw : wrap64 (chk + 1) = chk + 1 := by unfold wrap64; omega
    rcases Bool.eq_false_or_eq_true (inB len (chk + 1) 255) with h2 | h2
    · have hl := inB_iff.1 h2
      by_cases h3 : len < F.q
      · have HR := Lib.hid (show codB F.q len chk = true by simp [codB]; omega)
        have h3' : decide ((F.q : Int) ≤ len) = false := by simp; omega
        clear h3 hw
        go_enter Tryz.func210, Tryz.ntmps210
        go_wp2_with fail
        refine (inRange_any _ _ _ _).mono ?_
        rw [h1]
        rintro e w' ⟨rfl, rfl⟩
        go_wp2_with fail
        refine (inRange_any _ _ _ _).mono ?_
        rw [h2]
        rintro e w' ⟨rfl, rfl⟩
        go_wp2_with fail
        refine (calc_fv H.out _).mono ?_
        rintro e w1 ⟨hb1, a1, rfl, ha⟩
        obtain ⟨b, rfl, -, hA⟩ := ha rfl
        have HB := Lib.hid (bt1 hb1)
        have HA := Lib.hid hA
        have hqc := hA.cell.2.1
        have hbox := box1 hb1
        have hz : w.heap.size < w1.heap.size := by have := hb1.size; simp at this; omega
        clear hb1 hA ha
        go_wp2_with fail
        go_quiet (fail)
        go_wp2_with fail
        go_ret2
        rw [HR.out]
        have hn := bt0 HB.out ((Below.refl _ _).drew) (Nat.le_refl _)
        exact ⟨bt0 (HB.out.trans (below_drewN (Below.refl _ _) nq)) (ba1 _ _) (Nat.le_refl _), _, rfl, fun _ => ⟨_, b, rfl, push_at _ _, (HA.out.below (below_drewN (Below.refl _ _) nq)).below (ba1 _ _)⟩⟩
      · have HR := Lib.hid (show codB F.q len chk = false by simp [codB]; omega)
        have h3' : decide ((F.q : Int) ≤ len) = true := by simp; omega
        clear h3 hw
        go_enter Tryz.func210, Tryz.ntmps210
        go_wp2_with fail
        refine (inRange_any _ _ _ _).mono ?_
        rw [h1]
        rintro e w' ⟨rfl, rfl⟩
        go_wp2_with fail
        refine (inRange_any _ _ _ _).mono ?_
        rw [h2]
        rintro e w' ⟨rfl, rfl⟩
        go_wp2_with fail
        refine (calc_fv H.out _).mono ?_
        rintro e w1 ⟨hb1, a1, rfl, ha⟩
        obtain ⟨b, rfl, -, hA⟩ := ha rfl
        have HB := Lib.hid (bt1 hb1)
        have hqc := hA.cell.2.1
        have hbox := box1 hb1
        have hz : w.heap.size < w1.heap.size := by have := hb1.size; simp at this; omega
        clear hb1 hA ha
        go_wp2_with fail
        go_quiet (fail)
        go_wp2_with fail
        go_ret2
        rw [HR.out]
        exact ⟨HB.out.trans (below_drewN (Below.refl _ _) nq), none, rfl, fun h => by cases h⟩
    · have hl := inB_not.1 h2
      have HR := Lib.hid (show codB F.q len chk = false by simp [codB]; omega)
      clear hw
      go_enter Tryz.func210, Tryz.ntmps210
      go_wp2_with fail
      refine (inRange_any _ _ _ _).mono ?_
      rw [h1]
      rintro e w' ⟨rfl, rfl⟩
      go_wp2_with fail
      refine (inRange_any _ _ _ _).mono ?_
      rw [h2]
      rintro e w' ⟨rfl, rfl⟩
      go_wp2_with fail
      go_ret2
      rw [HR.out]
      exact ⟨ba1 _ _, none, rfl, fun h => by cases h⟩
  · have hc := inB_not.1 h1
    have HR := Lib.hid (show codB F.q len chk = false by simp [codB]; omega)
    go_enter Tryz.func210, Tryz.ntmps210
    go_wp2_with fail
    refine (inRange_any _ _ _ _).mono ?_
    rw [h1]
    rintro e w' ⟨rfl, rfl⟩
    go_wp2_with fail
    go_ret2
    rw [HR.out]
    exact ⟨ba1 _ _, none, rfl, fun h => by cases h⟩
set_option maxHeartbeats 1000000 in
theorem isCode_any {p k g : Int} {F : Fd} (h : FV p k g F) (len chk : Int) (w : World) :
    Calls Tryz.prog 198 #[.agg #[.int .i64 p, .int .i64 k, .int .i64 g, .int .i64 len, .int .i64 chk]] w fun e w' => e = .returned (.bool (codB F.q len chk)) ∧ Below w.heap.size w w' := by
  have H := Lib.hid h
  clear h
  go_enter Tryz.func198, Tryz.ntmps198
  go_wp2_with fail
  refine (coder_any H.out len chk _).mono ?_
  rintro e w1 ⟨hb1, a1, rfl, -⟩
  have HB := Lib.hid (bt1 hb1)
  clear hb1
  go_wp2_with fail
  go_ret
  exact ⟨rfl, HB.out⟩
set_option maxHeartbeats 1000000 in
theorem total_any (p k g d c n : Int) (w : World) (hd : 0 ≤ d) (hd2 : d ≤ 100000) (hc : 0 ≤ c) (hc2 : c ≤ 1000) (hn : 0 ≤ n) (hn2 : n ≤ 1000) :
    Calls Tryz.prog 197 #[.agg #[.int .i64 p, .int .i64 k, .int .i64 g, .int .i64 d, .int .i64 c, .int .i64 n]] w fun e w' => e = .returned (.int .i64 (Lay.total ⟨d, c, n⟩)) ∧ Below w.heap.size w w' := by
  have h1 : 0 ≤ n * c := Int.mul_nonneg hn hc
  have h2 : n * c ≤ 1000 * 1000 := Int.mul_le_mul hn2 hc2 hc (by omega)
  have HR := Lib.hid (show Lay.total ⟨d, c, n⟩ = d + n * c from rfl)
  obtain ⟨m, hm⟩ : ∃ m, m = n * c := ⟨_, rfl⟩
  rw [← hm] at h1 h2 HR
  have hw : wrap64 (n * c) = m := by rw [← hm]; unfold wrap64; omega
  clear hm
  go_enter Tryz.func197, Tryz.ntmps197
  go_wp2_with fail
  go_ret
  exact ⟨ret_int HR.out.symm, ba1 _ _⟩
set_option maxHeartbeats 1000000 in
theorem share_any (p k g d c n b : Int) (w : World) (hd : 0 ≤ d) (hd2 : d ≤ 1500) (hn : 1 ≤ n) (hn2 : n ≤ 16) :
    Calls Tryz.prog 211 #[.agg #[.int .i64 p, .int .i64 k, .int .i64 g, .int .i64 d, .int .i64 c, .int .i64 n], .int .i64 b] w fun e w' => e = .returned (.int .i64 (Lay.share ⟨d, c, n⟩ b)) ∧ Below w.heap.size w w' := by
  have h1 : 0 ≤ d % n := Int.emod_nonneg _ (by omega)
  have h2 : d % n < n := Int.emod_lt_of_pos _ (by omega)
  have h3 : 0 ≤ d / n := Int.ediv_nonneg hd (by omega)
  have h4 : d / n ≤ d := Int.ediv_le_self _ hd
  by_cases hc : n - d % n ≤ b
  · have HR := Lib.hid (show Lay.share ⟨d, c, n⟩ b = d / n + 1 by simp only [Lay.share]; rw [if_pos hc])
    have hdec : decide (n - d % n ≤ b) = true := by simpa using hc
    clear hc
    go_enter Tryz.func211, Tryz.ntmps211
    go_wp2_with fail
    go_quiet (fail)
    go_wp2_with fail
    go_ret
    exact ⟨ret_int HR.out.symm, (ba1 _ _).trans (below_drewN (Below.refl _ _) nq)⟩
  · have HR := Lib.hid (show Lay.share ⟨d, c, n⟩ b = d / n by simp only [Lay.share]; rw [if_neg hc, Int.add_zero])
    have hdec : decide (n - d % n ≤ b) = false := by simpa using hc
    clear hc
    go_enter Tryz.func211, Tryz.ntmps211
    go_wp2_with fail
    go_quiet (fail)
    go_wp2_with fail
    go_ret
    exact ⟨ret_int HR.out.symm, (ba1 _ _).trans (below_drewN (Below.refl _ _) nq)⟩
theorem share_bd {d c n b : Int} (hd : 0 ≤ d) (hd2 : d ≤ 1500) (hn : 1 ≤ n) : 0 ≤ Lay.share ⟨d, c, n⟩ b ∧ Lay.share ⟨d, c, n⟩ b ≤ 1501 := by
  have h3 : 0 ≤ d / n := Int.ediv_nonneg hd (by omega)
  have h4 : d / n ≤ d := Int.ediv_le_self _ hd
  simp only [Lay.share]
  split <;> omega
set_option maxHeartbeats 1000000 in
theorem layCode_any (p k g d c n b : Int) (w : World) (hd : 0 ≤ d) (hd2 : d ≤ 1500) (hc : 0 ≤ c) (hc2 : c ≤ 1000) (hn : 1 ≤ n) (hn2 : n ≤ 16) :
    Calls Tryz.prog 199 #[.agg #[.int .i64 p, .int .i64 k, .int .i64 g, .int .i64 d, .int .i64 c, .int .i64 n], .int .i64 b] w fun e w' => e = .returned (.agg #[.int .i64 p, .int .i64 k, .int .i64 g, .int .i64 (Lay.share ⟨d, c, n⟩ b + c), .int .i64 c]) ∧ Below w.heap.size w w' := by
  have hs := share_bd (c := c) (b := b) hd hd2 hn
  obtain ⟨s, hS⟩ : ∃ s, s = Lay.share ⟨d, c, n⟩ b := ⟨_, rfl⟩
  have HS := Lib.hid hS
  rw [← hS] at hs
  clear hS
  go_enter Tryz.func199, Tryz.ntmps199
  go_wp2_with fail
  have hbox1 := heap2 w (.cells #[.int .i64 p, .int .i64 k, .int .i64 g, .int .i64 d, .int .i64 c, .int .i64 n] 146 (0, 0)) (.cells #[.int .i64 0, .int .i64 0, .int .i64 0, .int .i64 0, .int .i64 0] 189 (0, 0))
  have HB := Lib.hid (ba2 w (.cells #[.int .i64 p, .int .i64 k, .int .i64 g, .int .i64 d, .int .i64 c, .int .i64 n] 146 (0, 0)) (.cells #[.int .i64 0, .int .i64 0, .int .i64 0, .int .i64 0, .int .i64 0] 189 (0, 0)))
  obtain ⟨W, hW⟩ : ∃ W, W = (w.alloc (.cells #[.int .i64 p, .int .i64 k, .int .i64 g, .int .i64 d, .int .i64 c, .int .i64 n] 146 (0, 0))).alloc (.cells #[.int .i64 0, .int .i64 0, .int .i64 0, .int .i64 0, .int .i64 0] 189 (0, 0)) := ⟨_, rfl⟩
  rw [← hW] at hbox1 HB ⊢
  clear hW
  obtain ⟨hc1, hf1⟩ := heap_cellR hbox1.1
  obtain ⟨hc3, hf3⟩ := heap_cellR hbox1.2
  have hz1 : w.heap.size < W.heap.size := blkLt hbox1.1
  have hz3 : w.heap.size + 1 < W.heap.size := blkLt hbox1.2
  clear hbox1
  refine wp_region_ext_tail 11 (by kernel_rfl) (by kernel_rfl) ?_
  simp only [List.take_succ_cons, List.take_zero, List.drop_succ_cons, List.drop_zero]
  repeat (go_big_quiet_step ((go_at_call 211; go_must (exact calls_ext _ (share_any p k g d c n b _ hd hd2 hn hn2)))))
  refine wpQuiet_nil ?_
  rintro _ ⟨s', rfl⟩
  have hz' : w.heap.size + 1 < s'.w.heap.size := by have := s'.below.size; omega
  have HB2 := Lib.hid (bt0 HB.out s'.below (Nat.le_refl _))
  have hw : wrap64 (s + c) = s + c := by unfold wrap64; omega
  rw [← HS.out]
  go_wp2_with fail
  refine bodyPost_ret (v := .agg #[.int .i64 p, .int .i64 k, .int .i64 g, .int .i64 (s + c), .int .i64 c]) (by simp [results, Tryz.results199, go_sem, hc3, hz3, hw]) rfl ⟨by rw [HS.out], ?_⟩
  iterate 5 (refine Below.setCell ?_ (by dsimp only; omega) _)
  exact HB2.out
set_option maxRecDepth 100000 in
set_option maxHeartbeats 2000000 in
theorem isLayout_any {p k g : Int} {F : Fd} (h : FV p k g F) (d c n : Int) (w : World) :
    Calls Tryz.prog 184 #[.agg #[.int .i64 p, .int .i64 k, .int .i64 g, .int .i64 d, .int .i64 c, .int .i64 n]] w fun e w' => e = .returned (.bool (Lay.ok ⟨d, c, n⟩ F.q)) ∧ Below w.heap.size w w' := by
  have H := Lib.hid h
  clear h
  rcases Bool.eq_false_or_eq_true (inB n 1 16) with h1 | h1
  · have hn := inB_iff.1 h1
    rcases Bool.eq_false_or_eq_true (inB d n 1500) with h2 | h2
    · have hd := inB_iff.1 h2
      rcases Bool.eq_false_or_eq_true (inB c 1 64) with h3 | h3
      · have hc := inB_iff.1 h3
        by_cases h4 : 1500 < Lay.total ⟨d, c, n⟩
        · have HR := Lib.hid (show Lay.ok ⟨d, c, n⟩ F.q = false by simp only [Lay.ok]; simp; omega)
          have h4' : decide (1500 < Lay.total ⟨d, c, n⟩) = true := by simpa using h4
          clear h4
          go_enter Tryz.func184, Tryz.ntmps184
          go_wp2_with fail
          refine (inRange_any _ _ _ _).mono ?_
          rw [h1]
          rintro e w' ⟨rfl, rfl⟩
          go_wp2_with fail
          refine (inRange_any _ _ _ _).mono ?_
          rw [h2]
          rintro e w' ⟨rfl, rfl⟩
          go_wp2_with fail
          refine (inRange_any _ _ _ _).mono ?_
          rw [h3]
          rintro e w' ⟨rfl, rfl⟩
          go_wp2_with fail
          refine (total_any p k g d c n _ (by omega) (by omega) (by omega) (by omega) (by omega) (by omega)).mono ?_
          rintro e w1 ⟨rfl, hb1⟩
          have hbox := box1 hb1
          have HB1 := Lib.hid (bt1 hb1)
          have hz : w.heap.size < w1.heap.size := by have := hb1.size; simp at this; omega
          clear hb1
          go_wp2_with fail
          go_ret
          exact ⟨ret_bool HR.out.symm, HB1.out⟩
        · rcases Bool.eq_false_or_eq_true (codB F.q (Lay.share ⟨d, c, n⟩ 0 + c) c) with h5 | h5
          · have HR := Lib.hid (show Lay.ok ⟨d, c, n⟩ F.q = codB F.q (Lay.share ⟨d, c, n⟩ (n - 1) + c) c by
              simp only [Lay.ok]; rw [h5]; simp; omega)
            have H5 := Lib.hid h5
            have h4' : decide (1500 < Lay.total ⟨d, c, n⟩) = false := by simpa using h4
            clear h4 h5
            go_enter Tryz.func184, Tryz.ntmps184
            go_wp2_with fail
            refine (inRange_any _ _ _ _).mono ?_
            rw [h1]
            rintro e w' ⟨rfl, rfl⟩
            go_wp2_with fail
            refine (inRange_any _ _ _ _).mono ?_
            rw [h2]
            rintro e w' ⟨rfl, rfl⟩
            go_wp2_with fail
            refine (inRange_any _ _ _ _).mono ?_
            rw [h3]
            rintro e w' ⟨rfl, rfl⟩
            go_wp2_with fail
            refine (total_any p k g d c n _ (by omega) (by omega) (by omega) (by omega) (by omega) (by omega)).mono ?_
            rintro e w1 ⟨rfl, hb1⟩
            have hbox := box1 hb1
            have HB1 := Lib.hid (bt1 hb1)
            have hz : w.heap.size < w1.heap.size := by have := hb1.size; simp at this; omega
            clear hb1
            go_wp2_with fail
            refine (layCode_any p k g d c n 0 _ (by omega) (by omega) (by omega) (by omega) (by omega) (by omega)).mono ?_
            rintro e w2 ⟨rfl, hb2⟩
            have hbox2 := boxK hb2 hbox (by simp)
            have hz2 : w.heap.size < w2.heap.size := by have := hb2.size; omega
            have HB2 := Lib.hid (bt0 HB1.out hb2 (Nat.le_refl _))
            clear hb2 hbox
            go_wp2_with fail
            refine (isCode_any H.out _ _ _).mono ?_
            rw [H5.out]
            rintro e w3 ⟨rfl, hb3⟩
            have hbox3 := boxK hb3 hbox2 (by simp)
            have hz3 : w.heap.size < w3.heap.size := by have := hb3.size; omega
            have HB3 := Lib.hid (bt0 HB2.out hb3 (Nat.le_refl _))
            clear hb3 hbox2
            go_wp2_with fail
            refine (layCode_any p k g d c n (n - 1) _ (by omega) (by omega) (by omega) (by omega) (by omega) (by omega)).mono ?_
            rintro e w4 ⟨rfl, hb4⟩
            have HB4 := Lib.hid (bt0 HB3.out hb4 (Nat.le_refl _))
            clear hb4 hbox3
            go_wp2_with fail
            refine (isCode_any H.out _ _ _).mono ?_
            rintro e w5 ⟨rfl, hb5⟩
            have HB5 := Lib.hid (bt0 HB4.out hb5 (Nat.le_refl _))
            clear hb5
            go_wp2_with fail
            go_ret
            exact ⟨ret_bool HR.out.symm, HB5.out⟩
          · have HR := Lib.hid (show Lay.ok ⟨d, c, n⟩ F.q = false by simp only [Lay.ok]; rw [h5]; simp)
            have H5 := Lib.hid h5
            have h4' : decide (1500 < Lay.total ⟨d, c, n⟩) = false := by simpa using h4
            clear h4 h5
            go_enter Tryz.func184, Tryz.ntmps184
            go_wp2_with fail
            refine (inRange_any _ _ _ _).mono ?_
            rw [h1]
            rintro e w' ⟨rfl, rfl⟩
            go_wp2_with fail
            refine (inRange_any _ _ _ _).mono ?_
            rw [h2]
            rintro e w' ⟨rfl, rfl⟩
            go_wp2_with fail
            refine (inRange_any _ _ _ _).mono ?_
            rw [h3]
            rintro e w' ⟨rfl, rfl⟩
            go_wp2_with fail
            refine (total_any p k g d c n _ (by omega) (by omega) (by omega) (by omega) (by omega) (by omega)).mono ?_
            rintro e w1 ⟨rfl, hb1⟩
            have hbox := box1 hb1
            have HB1 := Lib.hid (bt1 hb1)
            have hz : w.heap.size < w1.heap.size := by have := hb1.size; simp at this; omega
            clear hb1
            go_wp2_with fail
            refine (layCode_any p k g d c n 0 _ (by omega) (by omega) (by omega) (by omega) (by omega) (by omega)).mono ?_
            rintro e w2 ⟨rfl, hb2⟩
            have hbox2 := boxK hb2 hbox (by simp)
            have hz2 : w.heap.size < w2.heap.size := by have := hb2.size; omega
            have HB2 := Lib.hid (bt0 HB1.out hb2 (Nat.le_refl _))
            clear hb2 hbox
            go_wp2_with fail
            refine (isCode_any H.out _ _ _).mono ?_
            rw [H5.out]
            rintro e w3 ⟨rfl, hb3⟩
            have HB3 := Lib.hid (bt0 HB2.out hb3 (Nat.le_refl _))
            clear hb3
            go_wp2_with fail
            go_ret
            exact ⟨ret_bool HR.out.symm, HB3.out⟩
      · have hc := inB_not.1 h3
        have HR := Lib.hid (show Lay.ok ⟨d, c, n⟩ F.q = false by simp only [Lay.ok]; simp; omega)
        go_enter Tryz.func184, Tryz.ntmps184
        go_wp2_with fail
        refine (inRange_any _ _ _ _).mono ?_
        rw [h1]
        rintro e w' ⟨rfl, rfl⟩
        go_wp2_with fail
        refine (inRange_any _ _ _ _).mono ?_
        rw [h2]
        rintro e w' ⟨rfl, rfl⟩
        go_wp2_with fail
        refine (inRange_any _ _ _ _).mono ?_
        rw [h3]
        rintro e w' ⟨rfl, rfl⟩
        go_wp2_with fail
        go_ret
        exact ⟨ret_bool HR.out.symm, ba1 _ _⟩
    · have hd := inB_not.1 h2
      have HR := Lib.hid (show Lay.ok ⟨d, c, n⟩ F.q = false by simp only [Lay.ok]; simp; omega)
      go_enter Tryz.func184, Tryz.ntmps184
      go_wp2_with fail
      refine (inRange_any _ _ _ _).mono ?_
      rw [h1]
      rintro e w' ⟨rfl, rfl⟩
      go_wp2_with fail
      refine (inRange_any _ _ _ _).mono ?_
      rw [h2]
      rintro e w' ⟨rfl, rfl⟩
      go_wp2_with fail
      go_ret
      exact ⟨ret_bool HR.out.symm, ba1 _ _⟩
  · have hn := inB_not.1 h1
    have HR := Lib.hid (show Lay.ok ⟨d, c, n⟩ F.q = false by simp only [Lay.ok]; simp; omega)
    go_enter Tryz.func184, Tryz.ntmps184
    go_wp2_with fail
    refine (inRange_any _ _ _ _).mono ?_
    rw [h1]
    rintro e w' ⟨rfl, rfl⟩
    go_wp2_with fail
    go_ret
    exact ⟨ret_bool HR.out.symm, ba1 _ _⟩

end Go.Proofs.YtlcglclojlffgaaGreatDoor
namespace Go.Proofs.YtlcglclojlffgaaGreatDoor
open Go.RowKit

/-- a binary field that may have generators or not -/
structure FdB (F : Fd) : Prop where
  bin : F.bin = true
  k3 : 3 ≤ F.k
  k8 : F.k ≤ 8
  fit : F.Fit
theorem FdB.q {F : Fd} (h : FdB F) : F.q = 2 ^ F.k := (h.fit.bin h.bin).1
theorem FdB.q_bd {F : Fd} (h : FdB F) : 8 ≤ F.q ∧ F.q ≤ 256 := by
  rw [h.q]
  exact ⟨Nat.pow_le_pow_right (n := 2) (by omega) h.k3, Nat.pow_le_pow_right (n := 2) (by omega) h.k8⟩
theorem FdB.g_bd {F : Fd} (h : FdB F) : F.g < 512 := by
  have h1 := (h.fit.bin h.bin).2.2
  have h2 : 2 ^ (F.k + 1) ≤ 2 ^ 9 := Nat.pow_le_pow_right (by omega) (by have := h.k8; omega)
  omega
/-- a field as a value -/
abbrev fV (F : Fd) : Value := .agg #[.int .i64 2, .int .i64 (F.k : Int), .int .i64 (F.g : Int)]
theorem bit_test (x m : Nat) (hx : x < 2 ^ 62) : (bits .and .i64 ((x : Int) / 2 ^ m) 1 == 1) = x.testBit m := by
  have e : ((x : Int) / 2 ^ m) = ((x / 2 ^ m : Nat) : Int) := by push_cast; rfl
  have h : x / 2 ^ m ≤ x := Nat.div_le_self _ _
  rw [e, Nat.testBit_eq_decide_div_mod_eq]
  generalize x / 2 ^ m = q at *
  rw [andOne _ (by omega) (by omega)]
  by_cases h1 : q % 2 = 1
  · rw [decide_eq_true h1, beq_iff_eq]; omega
  · rw [decide_eq_false h1, beq_eq_false_iff_ne]; omega
theorem shl_lt {a m n d : Nat} (ha : a < 2 ^ n) (hm : m ≤ d) : a <<< m < 2 ^ (n + d) := by
  rw [Nat.shiftLeft_eq]
  calc a * 2 ^ m < 2 ^ n * 2 ^ m := Nat.mul_lt_mul_of_pos_right ha (Nat.pow_pos (by omega))
    _ = 2 ^ (n + m) := (Nat.pow_add ..).symm
    _ ≤ 2 ^ (n + d) := Nat.pow_le_pow_right (by omega) (by omega)
theorem wrap_nat (q : Nat) (h : q < 2 ^ 62) : wrap64 (q : Int) = q := by unfold wrap64; omega
theorem shl_nat (a m : Nat) (h : a <<< m < 2 ^ 62) : wrap64 ((a : Int) * 2 ^ m) = ((a <<< m : Nat) : Int) := by
  have e : ((a : Int) * 2 ^ m) = ((a <<< m : Nat) : Int) := by rw [Nat.shiftLeft_eq]; push_cast; rfl
  rw [e]; exact wrap_nat _ h
/-- a number and a shift added: as the machine does it -/
theorem xor_shl (c a m : Nat) (hc : c < 2 ^ 20) (ha : a <<< m < 2 ^ 20) : ∃ y z : Nat, wrap64 ((a : Int) * 2 ^ m) = (y : Int) ∧ bits .xor .i64 (c : Int) (y : Int) = (z : Int) ∧ z = c ^^^ (a <<< m) ∧ z < 2 ^ 20 :=
  ⟨_, _, shl_nat a m (Nat.lt_trans ha (by decide)), xor64 c (a <<< m) (Nat.lt_trans hc (by decide)) (Nat.lt_trans ha (by decide)), rfl, Nat.xor_lt_two_pow hc ha⟩
theorem clm_lt {a b : Nat} (ha : a < 2 ^ 8) : ∀ {n : Nat}, n ≤ 8 → clm a b n < 2 ^ 16
  | 0, _ => by simp [clm]
  | n + 1, h => by
    rw [clm]
    refine Nat.xor_lt_two_pow (clm_lt ha (by omega)) ?_
    split
    · exact shl_lt (n := 8) (d := 8) ha (by omega)
    · decide
theorem pow_small {k : Nat} (h : k ≤ 8) : wrap64 (2 ^ k) = ((2 ^ k : Nat) : Int) := by
  have h1 : 2 ^ k ≤ 2 ^ 8 := Nat.pow_le_pow_right (n := 2) (by omega) h
  have e : (2 ^ k : Int) = ((2 ^ k : Nat) : Int) := by push_cast; rfl
  rw [e]; exact wrap_nat _ (Nat.lt_of_le_of_lt h1 (by decide))
set_option maxRecDepth 100000 in
set_option maxHeartbeats 1000000 in
theorem spSize_any (F : Fd) (h : FdB F) (w : World) :
    Calls Tryz.prog 122 #[fV F] w fun e w' => e = .returned (.int .i64 (F.q : Int)) ∧ Below w.heap.size w w' := by
  have hq := h.q
  have hk := h.k8
  have hk3 := h.k3
  rw [hq, ← pow_small hk]
  clear hq h
  go_enter Tryz.func122, Tryz.ntmps122
  go_wp2_with fail
  go_ret
  exact ⟨rfl, ba1 _ _⟩
set_option maxRecDepth 100000 in
set_option maxHeartbeats 1000000 in
theorem spMul_any (F : Fd) (h : FdB F) (a b : Nat) (ha : a < F.q) (hb : b < F.q) (w : World) :
    Calls Tryz.prog 133 #[fV F, .int .i64 (a : Int), .int .i64 (b : Int)] w fun e w' => e = .returned (.int .i64 (F.mulB a b : Nat)) ∧ Below w.heap.size w w' := by
  have hq := h.q_bd
  have hk := h.k8
  have hk3 := h.k3
  have hg := h.g_bd
  have H := Lib.hid h
  clear h
  obtain ⟨k, hke⟩ : ∃ k, k = F.k := ⟨_, rfl⟩
  obtain ⟨g, hge⟩ : ∃ g, g = F.g := ⟨_, rfl⟩
  have HK := Lib.hid hke
  have HG := Lib.hid hge
  rw [fV, ← hke, ← hge]
  rw [← hke] at hk hk3
  rw [← hge] at hg
  clear hke hge
  go_enter Tryz.func133, Tryz.ntmps133
  go_wp2_with fail
  have hx := push_at w (.cells #[.int .i64 2, .int .i64 (k : Int), .int .i64 (g : Int)] 121 (0, 0))
  have HB0 := Lib.hid (ba1 w (.cells #[.int .i64 2, .int .i64 (k : Int), .int .i64 (g : Int)] 121 (0, 0)))
  obtain ⟨w1, hw1⟩ : ∃ w1, w1 = w.alloc (.cells #[.int .i64 2, .int .i64 (k : Int), .int .i64 (g : Int)] 121 (0, 0)) := ⟨_, rfl⟩
  rw [← hw1] at hx HB0 ⊢
  obtain ⟨hcA, hfA⟩ := heap_cellR hx
  have hltA := blkLt hx
  clear hw1 hx
  go_loopw [7, 8] (fun o i wr => ∃ m : Nat, m ≤ k ∧ i = .int .i64 m ∧ o = .int .i64 (clm a b m : Nat) ∧ wr = w1) (fun _ i _ => k - (intOf i).toNat)
  case atStart => exact ⟨0, Nat.zero_le _, rfl, rfl, rfl⟩
  case round =>
    obtain ⟨m, hm, rfl, rfl, rfl⟩ := hrel
    by_cases hlt : m < k
    · have hmi : (m : Int) < (k : Int) := by omega
      have hbt := bit_test b m (by omega)
      obtain ⟨y, z, hsn, hxr, hz, -⟩ := xor_shl (clm a b m) a m (Nat.lt_trans (clm_lt (a := a) (b := b) (n := m) (by omega) (by omega)) (by decide)) (Nat.lt_trans (shl_lt (n := 8) (d := 8) (by omega) (by omega)) (by decide))
      have HST := Lib.hid (show clm a b (m + 1) = clm a b m ^^^ (if b.testBit m then a <<< m else 0) from rfl)
      have HZ := Lib.hid hz
      clear hz
      cases hc : b.testBit m with
      | true =>
        rw [hc] at hbt HST
        clear hc
        go_wp2_with fail
        exact ⟨⟨m + 1, by omega, by push_cast; rfl, by rw [HST.out, if_pos rfl, HZ.out], trivial⟩, by simp [intOf]; omega⟩
      | false =>
        rw [hc] at hbt HST
        clear hc
        go_wp2_with fail
        exact ⟨⟨m + 1, by omega, by push_cast; rfl, by rw [HST.out, if_neg (by simp), Nat.xor_zero], trivial⟩, by simp [intOf]; omega⟩
    · obtain rfl : m = k := by omega
      have hmi : ¬ (m : Int) < (m : Int) := by omega
      have hc0 : clm a b m < 2 ^ 16 := clm_lt (by omega) hk
      obtain ⟨c, hce⟩ : ∃ c, c = clm a b m := ⟨_, rfl⟩
      have HC := Lib.hid (show redN m g (m + 1) c = F.mulB a b by rw [hce, Fd.mulB, HK.out, HG.out])
      rw [← hce] at hc0 ⊢
      clear hce
      go_wp2_with fail
      go_loopw [7, 9] (fun o i wq => ∃ j x : Nat, i = .int .i64 j ∧ o = .int .i64 x ∧ m ≤ j + 1 ∧ j ≤ 2 * m ∧ x < 2 ^ 20 ∧ redN m g (j + 1 - m) x = F.mulB a b ∧ wq = wr) (fun _ i _ => (intOf i).toNat)
      case atStart => exact ⟨2 * m, c, by push_cast; rfl, rfl, by omega, Nat.le_refl _, Nat.lt_trans hc0 (by decide), by rw [show 2 * m + 1 - m = m + 1 by omega]; exact HC.out, rfl⟩
      case round =>
        obtain ⟨j, x, rfl, rfl, hj1, hj2, hx, hred, rfl⟩ := hrel
        have HR := Lib.hid hred
        clear hred
        by_cases hj : m ≤ j
        · have hji : (m : Int) ≤ (j : Int) := by omega
          have hbt := bit_test x j (Nat.lt_trans hx (by decide))
          obtain ⟨y, z, hsn, hxr, hz, hz2⟩ := xor_shl x g (j - m) hx (Nat.lt_of_lt_of_le (shl_lt (n := 9) (d := 8) hg (by omega)) (by decide))
          have hjm : (j : Int) - (m : Int) = ((j - m : Nat) : Int) := by omega
          have HST := Lib.hid (show redN m g (j + 1 - m) x = redN m g (j - m) (if x.testBit j then x ^^^ (g <<< (j - m)) else x) by
            rw [show j + 1 - m = (j - m) + 1 by omega, redN, rstep, show m + (j - m) = j by omega])
          have HZ := Lib.hid hz
          clear hz
          cases hc : x.testBit j with
          | true =>
            rw [hc] at hbt HST
            clear hc
            go_wp2_with fail
            exact ⟨⟨j - 1, z, by go_num, rfl, by omega, by omega, hz2, by rw [show j - 1 + 1 - m = j - m by omega, HZ.out]; rw [← HR.out, HST.out, if_pos rfl], trivial⟩, by simp [intOf]; omega⟩
          | false =>
            rw [hc] at hbt HST
            clear hc
            go_wp2_with fail
            exact ⟨⟨j - 1, x, by go_num, rfl, by omega, by omega, hx, by rw [show j - 1 + 1 - m = j - m by omega]; rw [← HR.out, HST.out, if_neg (by simp)], trivial⟩, by simp [intOf]; omega⟩
        · have hji : ¬ (m : Int) ≤ (j : Int) := by omega
          have HE := Lib.hid (show x = F.mulB a b by have h1 := HR.out; rwa [show j + 1 - m = 0 by omega] at h1)
          go_wp2_with fail
          go_ret
          exact ⟨by rw [← HE.out]; rfl, HB0.out⟩

end Go.Proofs.YtlcglclojlffgaaGreatDoor
namespace Go.Proofs.YtlcglclojlffgaaGreatDoor
open Go.RowKit

/-- a valid binary field -/
structure FdR (F : Fd) : Prop extends FdB F where
  runs : F.Runs
theorem FV.r {p k g : Int} {F : Fd} (h : FV p k g F) : FdR F := ⟨⟨h.ok.bin, h.ok.k3, h.ok.k8, h.ok.fit⟩, h.ok.runs⟩
theorem FV.v {p k g : Int} {F : Fd} (h : FV p k g F) : Value.agg #[.int .i64 p, .int .i64 k, .int .i64 g] = fV F := by rw [h.ok.p, h.ok.k, h.ok.g]
theorem spMulR_any (F : Fd) (h : FdB F) (a b : Nat) (ha : a < F.q) (hb : b < F.q) (w : World) :
    Calls Tryz.prog 133 #[fV F, .int .i64 (a : Int), .int .i64 (b : Int)] w fun e w' => e = .returned (.int .i64 (F.mul a b : Nat)) ∧ Below w.heap.size w w' := by
  rw [show F.mul a b = F.mulB a b by simp [Fd.mul, h.bin]]
  exact spMul_any F h a b ha hb w
end Go.Proofs.YtlcglclojlffgaaGreatDoor
namespace Go.Proofs.YtlcglclojlffgaaGreatDoor
open Go.RowKit

theorem mulB_two {F : Fd} (h : FdB F) {x : Nat} (hx : x < F.q) : F.mul x 2 = F.T x := by
  have hk := h.k3
  have e : ∀ n, clm x 2 (n + 2) = x <<< 1 := fun n => by
    induction n with
    | zero => simp [clm, Nat.testBit_succ]
    | succ n ih =>
      rw [show n + 1 + 2 = (n + 2) + 1 by omega, clm, ih, if_neg, Nat.xor_zero]
      rw [Nat.testBit_lt_two_pow (Nat.lt_of_lt_of_le (show 2 < 2 ^ 2 by decide) (Nat.pow_le_pow_right (by omega) (by omega)))]
      simp
  obtain ⟨m, hm⟩ : ∃ m, F.k = m + 2 := ⟨F.k - 2, by omega⟩
  have hlt : x <<< 1 < 2 ^ (F.k + 1) := by rw [Nat.shiftLeft_eq, Nat.pow_succ]; have := h.q; omega
  rw [Fd.mul, if_pos h.bin, Fd.mulB, T_bin F h.bin]
  have e2 : clm x 2 F.k = x <<< 1 := by
    have := e m
    rwa [← hm] at this
  rw [e2, show F.k + 1 = 1 + F.k by omega, redN_low' _ _ 1 _ hlt]
  rfl
theorem pw_one {F : Fd} (h : FdB F) : F.pw 1 = 2 := by
  have hk := h.k3
  show F.T 1 = 2
  rw [T_bin F h.bin, rstep, if_neg]
  · rfl
  · rw [Nat.testBit_lt_two_pow (Nat.lt_of_lt_of_le (show 1 <<< 1 < 2 ^ 3 by decide) (Nat.pow_le_pow_right (by omega) hk))]
    simp
theorem runs_end {F : Fd} (h : FdB F) {n : Nat} (h1 : 1 ≤ n) (hn : n ≤ F.q) (hall : ∀ i, i < n → F.pw i ≠ 0 ∧ (0 < i → F.pw i ≠ 1)) (hx : F.pw n = 1 ∨ F.pw n = 0 ∨ n = F.q) :
    decide F.Runs = (decide (F.pw n = 1) && decide (n = F.q - 1)) := by
  have hq := h.q_bd
  by_cases hr : F.Runs
  · rw [decide_eq_true hr]
    obtain ⟨r1, r2⟩ := hr
    have hnq : n ≠ F.q := fun e => (hall (F.q - 1) (by omega)).2 (by omega) r2
    have hn2 : n = F.q - 1 := by
      apply Classical.byContradiction
      intro hne
      have := r1 n (by omega)
      rcases hx with h2 | h2 | h2
      · exact this.2 (by omega) h2
      · exact this.1 h2
      · exact hnq h2
    rw [hn2, r2]; simp
  · rw [decide_eq_false hr]
    symm
    rw [Bool.and_eq_false_iff]
    by_cases hp : F.pw n = 1
    · right
      rw [decide_eq_false]
      rintro rfl
      exact hr ⟨hall, hp⟩
    · left; rw [decide_eq_false hp]
set_option maxRecDepth 100000 in
set_option maxHeartbeats 2000000 in
theorem spRuns_any (F : Fd) (h : FdB F) (w : World) :
    Calls Tryz.prog 120 #[fV F, .int .i64 2] w fun e w' => e = .returned (.bool (decide F.Runs)) ∧ Below w.heap.size w w' := by
  have hq := h.q_bd
  have H := Lib.hid h
  clear h
  obtain ⟨R, hR⟩ : ∃ R, R = decide F.Runs := ⟨_, rfl⟩
  have HR := Lib.hid hR
  rw [← hR]
  clear hR
  go_enter Tryz.func120, Tryz.ntmps120
  go_wp2_with fail
  have hx := push_at w (.cells #[.int .i64 2, .int .i64 (F.k : Int), .int .i64 (F.g : Int)] 121 (0, 0))
  have HB0 := Lib.hid (ba1 w (.cells #[.int .i64 2, .int .i64 (F.k : Int), .int .i64 (F.g : Int)] 121 (0, 0)))
  obtain ⟨w1, hw1⟩ : ∃ w1, w1 = w.alloc (.cells #[.int .i64 2, .int .i64 (F.k : Int), .int .i64 (F.g : Int)] 121 (0, 0)) := ⟨_, rfl⟩
  rw [← hw1] at hx HB0 ⊢
  have HX1 := Lib.hid hx
  clear hw1 hx
  go_loopw [5, 6] (fun x m wr => ∃ n : Nat, 1 ≤ n ∧ n ≤ F.q ∧ m = .int .i64 n ∧ x = .int .i64 (F.pw n : Nat) ∧ (∀ i, i < n → F.pw i ≠ 0 ∧ (0 < i → F.pw i ≠ 1)) ∧ wr.heap[w.heap.size]? = some (.cells #[.int .i64 2, .int .i64 (F.k : Int), .int .i64 (F.g : Int)] 121 (0, 0)) ∧ Below w.heap.size w wr) (fun _ m _ => F.q - (intOf m).toNat)
  case atStart => exact ⟨1, Nat.le_refl _, by omega, rfl, by rw [pw_one H.out]; rfl, fun i hi => by
      obtain rfl : i = 0 := by omega
      exact ⟨by simp [Fd.pw], fun h => absurd h (by omega)⟩, HX1.out, HB0.out⟩
  case round =>
    obtain ⟨n, hn1, hn2, rfl, rfl, hall, hx, hb⟩ := hrel
    have HALL := Lib.hid hall
    have HX := Lib.hid hx
    have HB := Lib.hid hb
    obtain ⟨hcA, hfA⟩ := heap_cellR HX.out
    have hltA := blkLt HX.out
    obtain ⟨x, hxe⟩ : ∃ x, x = F.pw n := ⟨_, rfl⟩
    have HXE := Lib.hid hxe
    have hxq : x < F.q := by rw [hxe]; exact Fd.pw_lt H.out.fit n
    rw [← hxe]
    clear hx hb hall hxe
    by_cases hx1 : x = 1
    · subst hx1
      have HE := Lib.hid (show R = decide (n = F.q - 1) by
        rw [HR.out, runs_end H.out hn1 hn2 HALL.out (.inl HXE.out.symm), ← HXE.out]; simp)
      go_wp2_with fail
      refine (spSize_any F H.out wr).mono ?_
      rintro e w2 ⟨rfl, hb2⟩
      have HB2 := Lib.hid (bt0 HB.out hb2 (Nat.le_refl _))
      clear hb2
      go_wp2_with fail
      go_ret
      exact ⟨by rw [HE.out]; exact ret_bool (by rw [Bool.eq_iff_iff, beq_iff_eq, decide_eq_true_eq]; omega), HB2.out⟩
    · have hx1b : ((x : Int) != 1) = true := by rw [bne_iff_ne]; omega
      have hx1c : ((x : Int) == 1) = false := by rw [beq_eq_false_iff_ne]; omega
      by_cases hx0 : x = 0
      · have HE := Lib.hid (show R = false by
          rw [HR.out, runs_end H.out hn1 hn2 HALL.out (.inr (.inl (by rw [← HXE.out, hx0]))), ← HXE.out, decide_eq_false hx1]; rfl)
        have hx0b : ((x : Int) != 0) = false := by rw [bne_eq_false_iff_eq]; omega
        go_wp2_with fail
        go_ret
        exact ⟨by rw [HE.out]; rfl, HB.out⟩
      · have hx0b : ((x : Int) != 0) = true := by rw [bne_iff_ne]; omega
        go_wp2_with fail
        refine (spSize_any F H.out wr).mono ?_
        rintro e w2 ⟨rfl, hb2⟩
        have HX2 := Lib.hid (blkK hb2 HX.out)
        have HB2 := Lib.hid (bt0 HB.out hb2 (Nat.le_refl _))
        clear hb2 hcA hfA hltA
        by_cases hnq : n = F.q
        · have HE := Lib.hid (show R = false by
            rw [HR.out, runs_end H.out hn1 hn2 HALL.out (.inr (.inr hnq)), ← HXE.out, decide_eq_false hx1]; rfl)
          have hni : ¬ (n : Int) < (F.q : Int) := by omega
          go_wp2_with fail
          go_ret
          exact ⟨by rw [HE.out]; rfl, HB2.out⟩
        · have hni : (n : Int) < (F.q : Int) := by omega
          obtain ⟨hcA, hfA⟩ := heap_cellR HX2.out
          have hltA := blkLt HX2.out
          go_wp2_with fail
          refine (spMulR_any F H.out x 2 hxq (by omega) w2).mono ?_
          rintro e w3 ⟨rfl, hb3⟩
          have HX3 := Lib.hid (blkK hb3 HX2.out)
          have HB3 := Lib.hid (bt0 HB2.out hb3 (Nat.le_refl _))
          have HM := Lib.hid (show F.mul x 2 = F.pw (n + 1) by rw [mulB_two H.out hxq, HXE.out]; rfl)
          clear hb3
          go_wp2_with fail
          refine ⟨⟨n + 1, by omega, by omega, by push_cast; rfl, by rw [HM.out], fun i hi => ?_, HX3.out, HB3.out⟩, by simp [intOf]; omega⟩
          rcases Nat.lt_or_eq_of_le (show i ≤ n by omega) with h1 | rfl
          · exact HALL.out i h1
          · rw [← HXE.out]; exact ⟨hx0, fun _ => hx1⟩

end Go.Proofs.YtlcglclojlffgaaGreatDoor
namespace Go.Proofs.YtlcglclojlffgaaGreatDoor
open Go.RowKit

/-- a field of power 1, in two numbers -/
abbrev gV (p g : Int) : Value := .agg #[.int .i64 p, .int .i64 1, .int .i64 g]
theorem spIn_any (n lo hi : Int) (w : World) :
    Calls Tryz.prog 44 #[.int .i64 n, .int .i64 lo, .int .i64 hi] w fun e w' => e = .returned (.bool (inB n lo hi)) ∧ w = w' := by
  rw [inB]
  by_cases h1 : lo ≤ n
  · by_cases h2 : n ≤ hi
    · rw [decide_eq_true ⟨h1, h2⟩]
      go_enter Tryz.func44, Tryz.ntmps44
      go_wp2_with fail
      go_ret
      exact ⟨rfl, rfl⟩
    · rw [decide_eq_false (fun h => h2 h.2)]
      go_enter Tryz.func44, Tryz.ntmps44
      go_wp2_with fail
      go_ret
      exact ⟨rfl, rfl⟩
  · rw [decide_eq_false (fun h => h1 h.1)]
    go_enter Tryz.func44, Tryz.ntmps44
    go_wp2_with fail
    go_ret
    exact ⟨rfl, rfl⟩
theorem spSize1_any (p g : Int) (w : World) :
    Calls Tryz.prog 122 #[gV p g] w fun e w' => e = .returned (.int .i64 p) ∧ Below w.heap.size w w' := by
  go_enter Tryz.func122, Tryz.ntmps122
  go_wp2_with fail
  go_ret
  exact ⟨rfl, ba1 _ _⟩
theorem spMul1_any (p g x y : Int) (hp : 2 ≤ p) (hp2 : p ≤ 1021) (hx : 0 ≤ x ∧ x ≤ 1021) (hy : 0 ≤ y ∧ y ≤ 1021) (w : World) :
    Calls Tryz.prog 133 #[gV p g, .int .i64 x, .int .i64 y] w fun e w' => (∃ z : Int, 0 ≤ z ∧ z < p ∧ e = .returned (.int .i64 z)) ∧ Below w.heap.size w w' := by
  have h1 : 0 ≤ x * y := Int.mul_nonneg hx.1 hy.1
  have h2 : x * y ≤ 1021 * 1021 := Int.mul_le_mul hx.2 hy.2 hy.1 (by omega)
  obtain ⟨m, hm⟩ : ∃ m, m = x * y := ⟨_, rfl⟩
  rw [← hm] at h1 h2
  have hw : IntKind.i64.wrap (x * y) = m := by rw [← hm, IntKind.wrap_i64]; omega
  have hw2 : wrap64 (x * y) = m := by rw [← hm]; unfold wrap64; omega
  have hr1 : 0 ≤ m % p := Int.emod_nonneg _ (by omega)
  have hr2 : m % p < p := Int.emod_lt_of_pos _ (by omega)
  clear hm
  go_enter Tryz.func133, Tryz.ntmps133
  go_wp2_with fail
  go_ret
  exact ⟨⟨m % p, hr1, hr2, rfl⟩, ba1 _ _⟩
set_option maxRecDepth 100000 in
set_option maxHeartbeats 1000000 in
theorem spPrime_any (n : Int) (h1 : 3 ≤ n) (h2 : n ≤ 1021) (w : World) :
    Calls Tryz.prog 119 #[.int .i64 n] w fun e w' => (∃ b, e = .returned (.bool b)) ∧ w = w' := by
  go_enter Tryz.func119, Tryz.ntmps119
  go_wp2_with fail
  go_loopw [3] (fun i wr => ∃ d : Nat, 2 ≤ d ∧ d ≤ 40 ∧ i = .int .i64 d ∧ wr = w) (fun i _ => 41 - (intOf i).toNat)
  case atStart => exact ⟨2, by omega, by omega, rfl, rfl⟩
  case round =>
    obtain ⟨d, hd1, hd2, rfl, rfl⟩ := hrel
    have hm : (d : Int) * (d : Int) = ((d * d : Nat) : Int) := by push_cast; rfl
    obtain ⟨q, hq⟩ : ∃ q, q = d * d := ⟨_, rfl⟩
    rw [← hq] at hm
    have hqb : q ≤ 1600 := by rw [hq]; exact Nat.mul_le_mul hd2 hd2
    have hd33 : (q : Int) ≤ n → d < 40 := fun h => by
      apply Classical.byContradiction
      intro hc
      have : d = 40 := by omega
      subst this
      omega
    clear hq
    by_cases hle : (q : Int) ≤ n
    · have hd := hd33 hle
      obtain ⟨r, hr⟩ : ∃ r, r = n % (d : Int) := ⟨_, rfl⟩
      by_cases hz : r = 0
      · have hz2 : n % (d : Int) = 0 := by rw [← hr, hz]
        clear hr hz
        go_wp2_with fail
        go_ret
        exact ⟨⟨_, rfl⟩, rfl⟩
      · have hz2 : ¬ n % (d : Int) = 0 := by rw [← hr]; exact hz
        clear hr hz
        go_wp2_with fail
        exact ⟨⟨d + 1, by omega, by omega, by push_cast; rfl, trivial⟩, by simp [intOf]; omega⟩
    · have h22 : 2 ≤ n := by omega
      go_wp2_with fail
      go_ret
      exact ⟨.inr rfl, rfl⟩

set_option maxRecDepth 100000 in
set_option maxHeartbeats 2000000 in
theorem spRuns1_any (p g x : Int) (hp : 3 ≤ p) (hp2 : p ≤ 1021) (hx : 0 ≤ x ∧ x ≤ 1021) (w : World) :
    Calls Tryz.prog 120 #[gV p g, .int .i64 x] w fun e w' => (∃ b, e = .returned (.bool b)) ∧ Below w.heap.size w w' := by
  go_enter Tryz.func120, Tryz.ntmps120
  go_wp2_with fail
  have hz := push_at w (.cells #[.int .i64 p, .int .i64 1, .int .i64 g] 121 (0, 0))
  have HB0 := Lib.hid (ba1 w (.cells #[.int .i64 p, .int .i64 1, .int .i64 g] 121 (0, 0)))
  obtain ⟨w1, hw1⟩ : ∃ w1, w1 = w.alloc (.cells #[.int .i64 p, .int .i64 1, .int .i64 g] 121 (0, 0)) := ⟨_, rfl⟩
  rw [← hw1] at hz HB0 ⊢
  have HX1 := Lib.hid hz
  clear hw1 hz
  go_loopw [5, 6] (fun y m wr => ∃ (n : Nat) (z : Int), 1 ≤ n ∧ n ≤ 1022 ∧ m = .int .i64 n ∧ y = .int .i64 z ∧ (0 ≤ z ∧ z ≤ 1021) ∧ wr.heap[w.heap.size]? = some (.cells #[.int .i64 p, .int .i64 1, .int .i64 g] 121 (0, 0)) ∧ Below w.heap.size w wr) (fun _ m _ => 1023 - (intOf m).toNat)
  case atStart => exact ⟨1, x, Nat.le_refl _, by omega, rfl, rfl, hx, HX1.out, HB0.out⟩
  case round =>
    obtain ⟨n, z, hn1, hn2, rfl, rfl, hzb, hx', hb⟩ := hrel
    have HX := Lib.hid hx'
    have HB := Lib.hid hb
    obtain ⟨hcA, hfA⟩ := heap_cellR HX.out
    have hltA := blkLt HX.out
    clear hx' hb
    by_cases hz1 : z = 1
    · subst hz1
      go_wp2_with fail
      refine (spSize1_any p g wr).mono ?_
      rintro e w2 ⟨rfl, hb2⟩
      have HB2 := Lib.hid (bt0 HB.out hb2 (Nat.le_refl _))
      clear hb2
      go_wp2_with fail
      go_ret
      exact ⟨⟨_, rfl⟩, HB2.out⟩
    · have hx1b : (z != 1) = true := by rw [bne_iff_ne]; exact hz1
      have hx1c : (z == 1) = false := by rw [beq_eq_false_iff_ne]; exact hz1
      by_cases hz0 : z = 0
      · subst hz0
        clear hx1b hx1c
        go_wp2_with fail
        go_ret
        exact ⟨⟨_, rfl⟩, HB.out⟩
      · have hx0b : (z != 0) = true := by rw [bne_iff_ne]; exact hz0
        go_wp2_with fail
        refine (spSize1_any p g wr).mono ?_
        rintro e w2 ⟨rfl, hb2⟩
        have HX2 := Lib.hid (blkK hb2 HX.out)
        have HB2 := Lib.hid (bt0 HB.out hb2 (Nat.le_refl _))
        clear hb2 hcA hfA hltA
        by_cases hni : (n : Int) < p
        · obtain ⟨hcA, hfA⟩ := heap_cellR HX2.out
          have hltA := blkLt HX2.out
          go_wp2_with fail
          refine (spMul1_any p g z x (by omega) hp2 hzb hx w2).mono ?_
          rintro e w3 ⟨⟨z2, hz21, hz22, rfl⟩, hb3⟩
          have HX3 := Lib.hid (blkK hb3 HX2.out)
          have HB3 := Lib.hid (bt0 HB2.out hb3 (Nat.le_refl _))
          clear hb3
          go_wp2_with fail
          exact ⟨⟨n + 1, z2, by omega, by omega, by push_cast; rfl, rfl, ⟨hz21, by omega⟩, HX3.out, HB3.out⟩, by simp [intOf]; omega⟩
        · go_wp2_with fail
          go_ret
          exact ⟨⟨_, rfl⟩, HB2.out⟩

end Go.Proofs.YtlcglclojlffgaaGreatDoor
namespace Go.Proofs.YtlcglclojlffgaaGreatDoor
open Go.RowKit

/-- the reference says whether a field is valid: exactly so for a field whose power is not 1 -/
def RetFld (p k g : Int) (w : World) (e : Ending) (w' : World) : Prop := ∃ b, e = .returned (.bool b) ∧ (k ≠ 1 → b = fldB p k g) ∧ (k = 1 → b = true → 3 ≤ p) ∧ Below w.heap.size w w'
theorem retFld_no {p k g : Int} {w w' : World} (hb : Below w.heap.size w w') (h : fldB p k g = false) : RetFld p k g w (.returned (.bool false)) w' := ⟨false, rfl, fun _ => h.symm, fun _ e => (by cases e), hb⟩
theorem retFld_1 {p g : Int} {w w' : World} {b : Bool} (hb : Below w.heap.size w w') (h : 3 ≤ p) : RetFld p 1 g w (.returned (.bool b)) w' := ⟨b, rfl, fun e => absurd rfl e, fun _ _ => h, hb⟩
theorem fldB_1 (p g : Int) : fldB p 1 g = false := by simp [fldB]
set_option maxRecDepth 100000 in
set_option maxHeartbeats 2000000 in
theorem spField1_any (p g : Int) (w : World) :
    Calls Tryz.prog 105 #[gV p g] w (RetFld p 1 g w) := by
  have HN := Lib.hid (fldB_1 p g)
  go_enter Tryz.func105, Tryz.ntmps105
  go_wp2_with fail
  have hz := push_at w (.cells #[.int .i64 p, .int .i64 1, .int .i64 g] 121 (0, 0))
  have HB0 := Lib.hid (ba1 w (.cells #[.int .i64 p, .int .i64 1, .int .i64 g] 121 (0, 0)))
  obtain ⟨w1, hw1⟩ : ∃ w1, w1 = w.alloc (.cells #[.int .i64 p, .int .i64 1, .int .i64 g] 121 (0, 0)) := ⟨_, rfl⟩
  rw [← hw1] at hz HB0 ⊢
  have HX1 := Lib.hid hz
  obtain ⟨hcA, hfA⟩ := heap_cellR hz
  have hltA := blkLt hz
  clear hw1 hz
  refine (spIn_any p 3 1021 w1).mono ?_
  rintro e w2 ⟨rfl, rfl⟩
  by_cases h1 : 3 ≤ p ∧ p ≤ 1021
  · rw [inB, decide_eq_true h1]
    go_wp2_with fail
    refine (spPrime_any p h1.1 h1.2 w1).mono ?_
    rintro e w2 ⟨⟨b1, rfl⟩, rfl⟩
    cases b1 with
    | false =>
      go_wp2_with fail
      go_ret
      exact retFld_no HB0.out HN.out
    | true =>
      have hw : wrap64 (p - 1) = p - 1 := by unfold wrap64; omega
      go_wp2_with fail
      refine (spIn_any g 1 (p - 1) w1).mono ?_
      rintro e w2 ⟨rfl, rfl⟩
      by_cases h2 : 1 ≤ g ∧ g ≤ p - 1
      · rw [inB, decide_eq_true h2]
        obtain ⟨h21, h22⟩ := h2
        obtain ⟨h11, h12⟩ := h1
        clear hw
        go_wp2_with fail
        clear hcA hfA hltA
        go_loopw [3] (fun i wr => ∃ d : Int, 1 ≤ d ∧ d ≤ g ∧ i = .int .i64 d ∧ wr.heap[w.heap.size]? = some (.cells #[.int .i64 p, .int .i64 1, .int .i64 g] 121 (0, 0)) ∧ Below w.heap.size w wr) (fun i _ => (g - intOf i).toNat)
        case atStart => exact ⟨1, Int.le_refl _, h21, rfl, HX1.out, HB0.out⟩
        case round =>
          obtain ⟨d, hd1, hd2, rfl, hx', hb⟩ := hrel
          have HX := Lib.hid hx'
          have HB := Lib.hid hb
          obtain ⟨hcA, hfA⟩ := heap_cellR HX.out
          have hltA := blkLt HX.out
          clear hx' hb
          by_cases hdg : d < g
          · go_wp2_with fail
            refine (spRuns1_any p g d h11 h12 (by omega) wr).mono ?_
            rintro e w2 ⟨⟨b2, rfl⟩, hb2⟩
            have HX2 := Lib.hid (blkK hb2 HX.out)
            have HB2 := Lib.hid (bt0 HB.out hb2 (Nat.le_refl _))
            clear hb2 hcA hfA hltA
            cases b2 with
            | true =>
              go_wp2_with fail
              go_ret
              exact retFld_no HB2.out HN.out
            | false =>
              go_wp2_with fail
              exact ⟨⟨d + 1, by omega, by omega, rfl, HX2.out, HB2.out⟩, by simp [intOf]; omega⟩
          · go_wp2_with fail
            refine (spRuns1_any p g g h11 h12 (by omega) wr).mono ?_
            rintro e w2 ⟨⟨b2, rfl⟩, hb2⟩
            have HB2 := Lib.hid (bt0 HB.out hb2 (Nat.le_refl _))
            clear hb2
            go_wp2_with fail
            go_ret
            exact retFld_1 HB2.out h11
      · rw [inB, decide_eq_false h2]
        clear hw
        go_wp2_with fail
        go_ret
        exact retFld_no HB0.out HN.out
  · rw [inB, decide_eq_false h1]
    go_wp2_with fail
    go_ret
    exact retFld_no HB0.out HN.out

/-- the field that the numbers say, when they lie as they should -/
theorem fdB_of {k g : Int} (hk : 3 ≤ k ∧ k ≤ 8) (hg : ((2 ^ k.toNat : Nat) : Int) ≤ g ∧ g ≤ ((2 * 2 ^ k.toNat : Nat) : Int) - 1) : FdB (bF k.toNat g.toNat) := by
  have h8 : 2 ^ 3 ≤ 2 ^ k.toNat := Nat.pow_le_pow_right (by omega) (by omega)
  refine ⟨rfl, ?_, ?_, ⟨?_, ?_, ?_⟩⟩
  · show 3 ≤ k.toNat; omega
  · show k.toNat ≤ 8; omega
  · show 3 ≤ 2 ^ k.toNat; omega
  · intro _
    refine ⟨rfl, ?_, ?_⟩
    · show 2 ^ k.toNat ≤ g.toNat; omega
    · show g.toNat < 2 ^ (k.toNat + 1); rw [Nat.pow_succ]; omega
  · intro h; cases h
theorem pow_small2 {k : Nat} (h : k ≤ 8) : wrap64 (2 * 2 ^ k) = 2 * ((2 ^ k : Nat) : Int) := by
  have h1 : 2 ^ k ≤ 2 ^ 8 := Nat.pow_le_pow_right (n := 2) (by omega) h
  have e : (2 ^ k : Int) = ((2 ^ k : Nat) : Int) := by push_cast; rfl
  rw [e]
  generalize 2 ^ k = q at *
  unfold wrap64; omega
set_option maxRecDepth 100000 in
set_option maxHeartbeats 2000000 in
theorem spField2_any (p k g : Int) (hk1 : k ≠ 1) (w : World) :
    Calls Tryz.prog 105 #[.agg #[.int .i64 p, .int .i64 k, .int .i64 g]] w (RetFld p k g w) := by
  by_cases hp : p = 2
  · subst hp
    by_cases hk : 3 ≤ k ∧ k ≤ 8
    · obtain ⟨n, rfl⟩ : ∃ n : Nat, k = n := ⟨k.toNat, by omega⟩
      have hn8 : n ≤ 8 := by omega
      have hw1 := pow_small hn8
      have hw2 := pow_small2 hn8
      obtain ⟨q, hq⟩ : ∃ q, q = 2 ^ n := ⟨_, rfl⟩
      have HQ := Lib.hid hq
      have hq8 : q ≤ 256 := by rw [hq]; exact Nat.le_trans (Nat.pow_le_pow_right (n := 2) (by omega) hn8) (by decide)
      rw [← hq] at hw1 hw2
      clear hq
      have hw3 : wrap64 (2 * (q : Int) - 1) = 2 * (q : Int) - 1 := by unfold wrap64; omega
      go_enter Tryz.func105, Tryz.ntmps105
      go_wp2_with fail
      have hz := push_at w (.cells #[.int .i64 2, .int .i64 (n : Int), .int .i64 g] 121 (0, 0))
      have HB0 := Lib.hid (ba1 w (.cells #[.int .i64 2, .int .i64 (n : Int), .int .i64 g] 121 (0, 0)))
      obtain ⟨w1, hw1'⟩ : ∃ w1, w1 = w.alloc (.cells #[.int .i64 2, .int .i64 (n : Int), .int .i64 g] 121 (0, 0)) := ⟨_, rfl⟩
      rw [← hw1'] at hz HB0 ⊢
      obtain ⟨hcA, hfA⟩ := heap_cellR hz
      have hltA := blkLt hz
      clear hw1' hz
      refine (spIn_any n 3 8 w1).mono ?_
      rintro e w2 ⟨rfl, rfl⟩
      rw [inB, decide_eq_true hk]
      go_wp2_with fail
      refine (spIn_any g q (2 * q - 1) w1).mono ?_
      rintro e w2 ⟨rfl, rfl⟩
      by_cases hg : (q : Int) ≤ g ∧ g ≤ 2 * q - 1
      · rw [inB, decide_eq_true hg]
        have hfd : FdB (bF n g.toNat) := by
          have h1 := fdB_of (k := (n : Int)) (g := g) hk (by
            have h2 := HQ.out
            rw [show ((n : Int)).toNat = n from rfl]
            generalize 2 ^ n = z at *
            omega)
          exact h1
        have HFD := Lib.hid hfd
        have HRS := Lib.hid (show fldB 2 n g = decide (bF n g.toNat).Runs by
          have h2 := HQ.out
          unfold fldB
          rw [show ((n : Int)).toNat = n from rfl, ← h2, decide_eq_true hk.1, decide_eq_true hk.2, decide_eq_true hg.1, decide_eq_true (show g < ((2 * q : Nat) : Int) by omega)]
          rfl)
        have hgn : ((g.toNat : Nat) : Int) = g := by omega
        have hcall := spRuns_any (bF n g.toNat) hfd w1
        rw [fV, show (bF n g.toNat).k = n from rfl, show (bF n g.toNat).g = g.toNat from rfl, hgn] at hcall
        have HC := Lib.hid hcall
        clear hcall hfd hgn hw1 hw2 hw3
        go_wp2_with fail
        refine HC.out.mono ?_
        rintro e w2 ⟨rfl, hb2⟩
        have HB2 := Lib.hid (bt0 HB0.out hb2 (Nat.le_refl _))
        clear hb2
        obtain ⟨R, hR⟩ : ∃ R, R = decide (bF n g.toNat).Runs := ⟨_, rfl⟩
        rw [← hR] at HRS ⊢
        clear hR
        go_wp2_with fail
        go_ret
        exact ⟨R, rfl, fun _ => HRS.out.symm, fun e => absurd e hk1, HB2.out⟩
      · rw [inB, decide_eq_false hg]
        have HN := Lib.hid (show fldB 2 n g = false by
          have h2 := HQ.out
          cases hb : fldB 2 n g with
          | false => rfl
          | true =>
            simp only [fldB, Bool.and_eq_true, decide_eq_true_eq] at hb
            rw [show ((n : Int)).toNat = n from rfl, ← h2] at hb
            exact absurd ⟨hb.1.1.2, by have := hb.1.2; omega⟩ hg)
        clear hw1 hw2 hw3
        go_wp2_with fail
        go_ret
        exact retFld_no HB0.out HN.out
    · have HN := Lib.hid (show fldB 2 k g = false by
        cases hb : fldB 2 k g with
        | false => rfl
        | true =>
          simp only [fldB, Bool.and_eq_true, decide_eq_true_eq] at hb
          exact absurd ⟨hb.1.1.1.1.2, hb.1.1.1.2⟩ hk)
      have hk1b : (k == 1) = false := by rw [beq_eq_false_iff_ne]; exact hk1
      go_enter Tryz.func105, Tryz.ntmps105
      go_wp2_with fail
      refine (spIn_any k 3 8 _).mono ?_
      rintro e w2 ⟨rfl, rfl⟩
      rw [inB, decide_eq_false hk]
      go_wp2_with fail
      go_ret
      exact retFld_no (ba1 _ _) HN.out
  · have HN := Lib.hid (show fldB p k g = false by simp [fldB, hp])
    have hk1b : (k == 1) = false := by rw [beq_eq_false_iff_ne]; exact hk1
    have hpb : (p != 2) = true := by rw [bne_iff_ne]; exact hp
    go_enter Tryz.func105, Tryz.ntmps105
    go_wp2_with fail
    go_ret
    exact retFld_no (ba1 _ _) HN.out

theorem spField_any (p k g : Int) (w : World) :
    Calls Tryz.prog 105 #[.agg #[.int .i64 p, .int .i64 k, .int .i64 g]] w (RetFld p k g w) := by
  by_cases h : k = 1
  · subst h; exact spField1_any p g w
  · exact spField2_any p k g h w
/-- the reference says yes to a valid binary field -/
theorem spField_yes {p k g : Int} (h : fldB p k g = true) (w : World) :
    Calls Tryz.prog 105 #[.agg #[.int .i64 p, .int .i64 k, .int .i64 g]] w fun e w' => e = .returned (.bool true) ∧ Below w.heap.size w w' := by
  refine (spField_any p k g w).mono ?_
  rintro e w' ⟨b, rfl, h1, -, hb⟩
  have hk : k ≠ 1 := fun e => by rw [e, fldB_1] at h; cases h
  rw [h1 hk, h]
  exact ⟨rfl, hb⟩

end Go.Proofs.YtlcglclojlffgaaGreatDoor
namespace Go.Proofs.YtlcglclojlffgaaGreatDoor
open Go.RowKit

theorem name_no {s : ByteArray} {k : Nat} {h : k < s.size} (hx : s[k].toNat < 97 ∨ 122 < s[k].toNat) : nameB s.data.toList = false := by
  have h1 : (s.data.toList.all fun c => decide (97 ≤ c.toNat) && decide (c.toNat ≤ 122)) = false := by
    rw [List.all_eq_false]
    refine ⟨s[k], ?_, by simp; omega⟩
    exact List.getElem_mem (l := s.data.toList) (by simpa using h)
  rw [nameB, h1]; rfl
theorem name_yes {s : ByteArray} (h : ∀ i (hi : i < s.size), 97 ≤ s[i].toNat ∧ s[i].toNat ≤ 122) : nameB s.data.toList = inB (s.size : Int) 1 8 := by
  have h1 : (s.data.toList.all fun c => decide (97 ≤ c.toNat) && decide (c.toNat ≤ 122)) = true := by
    rw [List.all_eq_true]
    intro x hx
    obtain ⟨i, hi, rfl⟩ := List.mem_iff_getElem.1 hx
    have := h i (by simpa using hi)
    rw [Bool.and_eq_true, decide_eq_true_eq, decide_eq_true_eq]
    exact this
  have hl : s.data.toList.length = s.size := rfl
  rw [nameB, h1, hl, Bool.eq_iff_iff]
  simp [inB]; omega
theorem ris_no {lo hi : Int} {l : List Int} {k : Nat} (hk : k < l.length) (h : (l.getD k 0 < lo ∨ hi < l.getD k 0) ∨ (0 < k ∧ l.getD k 0 ≤ l.getD (k - 1) 0)) : risB lo hi l = false := by
  rw [risB, decide_eq_false_iff_not]
  intro h2
  have := h2 k hk
  omega
theorem getD_of {l : List Int} {k : Nat} {x : Int} (h : l[k]? = some x) : l.getD k 0 = x := by rw [List.getD_eq_getElem?_getD, h]; rfl
set_option maxHeartbeats 1000000 in
theorem isName_any (s : ByteArray) (w : World) (hs : s.size ≤ 1048576) :
    Calls Tryz.prog 187 #[.string s] w fun e w' => e = .returned (.bool (nameB s.data.toList)) ∧ w = w' := by
  have hl : s.data.toList.length = s.size := rfl
  have HL := Lib.hid hl
  clear hl
  go_enter Tryz.func187, Tryz.ntmps187
  go_wp2_with fail
  go_loop [3] (fun i => ∃ k : Nat, k ≤ s.size ∧ i = .int .i64 k ∧ ∀ i (hi : i < s.size), i < k → 97 ≤ s[i].toNat ∧ s[i].toNat ≤ 122) (fun i => s.size - (intOf i).toNat)
  case atStart => exact ⟨0, Nat.zero_le _, rfl, fun i _ h => by omega⟩
  case round =>
    obtain ⟨k, hk, rfl, hall⟩ := hrel
    have HA := Lib.hid hall
    clear hall
    by_cases hlt : k < s.size
    · have hki : (k : Int) < (s.size : Int) := by omega
      by_cases h1 : s[k].toNat < 97
      · have HR := Lib.hid (name_no (h := hlt) (Or.inl h1))
        have hd : decide (((s[k].toNat : Nat) : Int) < 97) = true := by simp; omega
        go_wp2_with fail
        go_ret
        exact ⟨ret_bool HR.out.symm, rfl⟩
      · have hd : decide (((s[k].toNat : Nat) : Int) < 97) = false := by simp; omega
        by_cases h2 : 122 < s[k].toNat
        · have HR := Lib.hid (name_no (h := hlt) (Or.inr h2))
          have hd2 : decide ((122 : Int) < ((s[k].toNat : Nat) : Int)) = true := by simp; omega
          clear h1 h2
          go_wp2_with fail
          go_ret
          exact ⟨ret_bool HR.out.symm, rfl⟩
        · have hd2 : decide ((122 : Int) < ((s[k].toNat : Nat) : Int)) = false := by simp; omega
          have HK : Hid (97 ≤ s[k].toNat ∧ s[k].toNat ≤ 122) := Lib.hid (by omega)
          clear h1 h2
          go_wp2_with fail
          refine ⟨⟨k + 1, by omega, by go_num, fun i hi hik => ?_⟩, by simp [intOf]; omega⟩
          by_cases e : i = k
          · subst e; exact HK.out
          · exact HA.out i hi (by omega)
    · have hki : ¬ (k : Int) < (s.size : Int) := by omega
      have HR := Lib.hid (name_yes (s := s) (fun i hi => HA.out i hi (by omega)))
      go_wp2_with fail
      refine (inRange_any _ _ _ _).mono ?_
      rintro e w' ⟨rfl, rfl⟩
      go_wp2_with fail
      go_ret
      exact ⟨ret_bool HR.out.symm, rfl⟩
set_option maxHeartbeats 1000000 in
theorem rises_any (lo hi : Int) (a : Option Addr) (xs : List Int) (c : Nat) (w : World) (hx : IntsAt w a xs) (lx : xs.length ≤ 1099511627776) :
    Calls Tryz.prog 188 #[.slice a xs.length c, .int .i64 lo, .int .i64 hi] w fun e w' => e = .returned (.bool (risB lo hi xs)) ∧ w = w' := by
  have HX := Lib.hid hx
  clear hx
  go_enter Tryz.func188, Tryz.ntmps188
  go_wp2_with fail
  go_loop [7, 8, 11] (fun _ _ i => ∃ k : Nat, k ≤ xs.length ∧ i = .int .i64 k ∧ ∀ i, i < k → (lo ≤ xs.getD i 0 ∧ xs.getD i 0 ≤ hi) ∧ (0 < i → xs.getD (i - 1) 0 < xs.getD i 0)) (fun _ _ i => xs.length - (intOf i).toNat)
  case atStart => exact ⟨0, Nat.zero_le _, rfl, fun i h => by omega⟩
  case round =>
    obtain ⟨k, hk, rfl, hall⟩ := hrel
    have HA := Lib.hid hall
    clear hall
    by_cases hlt : k < xs.length
    · obtain ⟨b1, o1, x, rfl, hxk, hb1, hc1⟩ := HX.out.at hlt
      have hki : (k : Int) < (xs.length : Int) := by omega
      have HG := Lib.hid (getD_of hxk)
      clear hxk
      rcases Bool.eq_false_or_eq_true (inB x lo hi) with hin | hin
      · have hin' := inB_iff.1 hin
        by_cases hk0 : k = 0
        · have hk0' : ¬ (0 : Int) < (k : Int) := by omega
          have HK : Hid (∀ i, i < k + 1 → (lo ≤ xs.getD i 0 ∧ xs.getD i 0 ≤ hi) ∧ (0 < i → xs.getD (i - 1) 0 < xs.getD i 0)) := Lib.hid (fun i hi => by
            obtain rfl : i = k := by omega
            rw [HG.out]
            exact ⟨hin', fun h => by omega⟩)
          clear hk0
          go_wp2_with fail
          refine (inRange_any _ _ _ _).mono ?_
          rw [hin]
          rintro e w' ⟨rfl, rfl⟩
          go_wp2_with fail
          exact ⟨⟨k + 1, by omega, by go_num, HK.out⟩, by simp [intOf]; omega⟩
        · obtain ⟨k, rfl⟩ : ∃ k', k = k' + 1 := ⟨k - 1, by omega⟩
          obtain ⟨b2, o2, y, e2, hyk, hb2, hc2⟩ := HX.out.at (k := k) (by omega)
          simp only [Option.some.injEq, Addr.mk.injEq, and_true] at e2
          obtain ⟨rfl, rfl⟩ := e2
          have HY := Lib.hid (getD_of hyk)
          have hk0' : (0 : Int) < ((k + 1 : Nat) : Int) := by omega
          clear hyk hk0
          by_cases hxy : x ≤ y
          · have hd : decide (x ≤ y) = true := decide_eq_true hxy
            have HR := Lib.hid (ris_no (lo := lo) (hi := hi) hlt (Or.inr ⟨by omega, by rw [HG.out, Nat.add_sub_cancel, HY.out]; exact hxy⟩))
            clear hxy
            go_wp2_with fail
            refine (inRange_any _ _ _ _).mono ?_
            rw [hin]
            rintro e w' ⟨rfl, rfl⟩
            go_wp2_with fail
            go_ret
            exact ⟨ret_bool HR.out.symm, rfl⟩
          · have hd : decide (x ≤ y) = false := decide_eq_false hxy
            have HK : Hid (∀ i, i < k + 1 + 1 → (lo ≤ xs.getD i 0 ∧ xs.getD i 0 ≤ hi) ∧ (0 < i → xs.getD (i - 1) 0 < xs.getD i 0)) := Lib.hid (fun i hi => by
              by_cases e : i = k + 1
              · subst e
                rw [HG.out, Nat.add_sub_cancel, HY.out]
                exact ⟨hin', fun h => by omega⟩
              · exact HA.out i (by omega))
            clear hxy
            go_wp2_with fail
            refine (inRange_any _ _ _ _).mono ?_
            rw [hin]
            rintro e w' ⟨rfl, rfl⟩
            go_wp2_with fail
            exact ⟨⟨k + 1 + 1, by omega, by go_num, HK.out⟩, by simp [intOf]; omega⟩
      · have hin' := inB_not.1 hin
        have HR := Lib.hid (ris_no (lo := lo) (hi := hi) hlt (Or.inl (by rw [HG.out]; exact hin')))
        go_wp2_with fail
        refine (inRange_any _ _ _ _).mono ?_
        rw [hin]
        rintro e w' ⟨rfl, rfl⟩
        go_wp2_with fail
        go_ret
        exact ⟨ret_bool HR.out.symm, rfl⟩
    · have hki : ¬ (k : Int) < (xs.length : Int) := by omega
      have HR := Lib.hid (show risB lo hi xs = true by
        rw [risB, decide_eq_true_iff]
        exact fun i hi => HA.out i (by omega))
      go_wp2_with fail
      go_ret
      exact ⟨ret_bool HR.out.symm, rfl⟩
set_option maxHeartbeats 400000 in
theorem isMsz_any (n : Int) (w : World) (h1 : -9223372036854775808 ≤ n) (h2 : n ≤ 9223372036854775807) :
    Calls Tryz.prog 189 #[.int .i64 n] w fun e w' => e = .returned (.bool (msz n)) ∧ w = w' := by
  rcases Bool.eq_false_or_eq_true (inB n 17 41) with hi | hi
  · have hn := inB_iff.1 hi
    have HR := Lib.hid (show msz n = (n % 4 == 1) by simp [msz]; omega)
    go_enter Tryz.func189, Tryz.ntmps189
    go_wp2_with fail
    refine (inRange_any _ _ _ _).mono ?_
    rw [hi]
    rintro e w' ⟨rfl, rfl⟩
    go_wp2_with fail
    go_ret
    exact ⟨ret_bool HR.out.symm, rfl⟩
  · have hn := inB_not.1 hi
    have HR := Lib.hid (show msz n = false by simp [msz]; omega)
    go_enter Tryz.func189, Tryz.ntmps189
    go_wp2_with fail
    refine (inRange_any _ _ _ _).mono ?_
    rw [hi]
    rintro e w' ⟨rfl, rfl⟩
    go_wp2_with fail
    go_ret
    exact ⟨ret_bool HR.out.symm, rfl⟩

end Go.Proofs.YtlcglclojlffgaaGreatDoor
namespace Go.Proofs.YtlcglclojlffgaaGreatDoor
open Go.RowKit

set_option maxHeartbeats 400000 in
theorem isPrime_even (n : Int) (w : World) (h1 : 4 ≤ n) (h2 : n ≤ 100000) (h3 : n % 2 = 0) :
    Calls Tryz.prog 203 #[.int .i64 n] w fun e w' => e = .returned (.bool false) ∧ w = w' := by
  have hd : decide (n < 2) = false := by simp; omega
  have he : (n % 2 == 0) = true := by rw [beq_iff_eq]; exact h3
  clear h3
  go_enter Tryz.func203, Tryz.ntmps203
  go_wp2_with fail
  refine wp_loop_rounds 1 ?_
  rw [rounds_succ]
  go_wp2_with fail
  go_ret
  exact ⟨rfl, rfl⟩
set_option maxHeartbeats 400000 in
theorem isField_two (k g : Int) (w : World) :
    Calls Tryz.prog 190 #[.agg #[.int .i64 2, .int .i64 k, .int .i64 g]] w fun e w' => e = .returned (.bool (fldB 2 k g)) ∧ Below w.heap.size w w' := by
  go_enter Tryz.func190, Tryz.ntmps190
  go_wp2_with fail
  refine (calc_two k g _).mono ?_
  rintro e w1 ⟨hb1, a1, rfl, -⟩
  have HB := Lib.hid (bt1 hb1)
  clear hb1
  go_wp2_with fail
  go_ret
  exact ⟨rfl, HB.out⟩
/-- the field of a size: its power and its least polynomial -/
def Least (k g : Nat) : Prop := 4 ≤ k ∧ k ≤ 8 ∧ 2 ^ k ≤ g ∧ g < 2 * 2 ^ k ∧ fldB 2 k g = true ∧ ∀ p, 2 ^ k ≤ p → p < g → fldB 2 k p = false
set_option maxRecDepth 100000 in
set_option maxHeartbeats 1000000 in
theorem fieldOf_any (S k g : Nat) (hS : S = 2 ^ k) (h : Least k g) (w : World) :
    Calls Tryz.prog 191 #[.int .i64 S] w fun e w' => e = .returned (.tuple #[.agg #[.int .i64 2, .int .i64 k, .int .i64 g], .int .i64 0]) ∧ Below w.heap.size w w' := by
  obtain ⟨h4, h8, hg1, hg2, hgt, hgl⟩ := h
  have hs16 : 2 ^ 4 ≤ 2 ^ k := Nat.pow_le_pow_right (by omega) h4
  have hs256 : 2 ^ k ≤ 2 ^ 8 := Nat.pow_le_pow_right (by omega) h8
  have hev : (S : Int) % 2 = 0 := by
    obtain ⟨j, rfl⟩ : ∃ j, k = j + 1 := ⟨k - 1, by omega⟩
    rw [hS, Nat.pow_succ]; omega
  have HE := Lib.hid hev
  rw [← hS] at hs16 hs256 hg1 hg2 hgl
  have HS := Lib.hid hS
  have HT := Lib.hid hgt
  have HL := Lib.hid hgl
  have hin : inB (S : Int) 3 1021 = true := inB_iff.2 (by omega)
  clear hev hS hgt hgl
  go_enter Tryz.func191, Tryz.ntmps191
  go_wp2_with fail
  refine (inRange_any _ _ _ _).mono ?_
  rw [hin]
  rintro e w' ⟨rfl, rfl⟩
  go_wp2_with fail
  refine (isPrime_even _ _ (by omega) (by omega) HE.out).mono ?_
  rintro e w' ⟨rfl, rfl⟩
  go_wp2_with fail
  obtain ⟨W, hW⟩ : ∃ W, W = w.alloc (.cells #[.int .i64 0, .int .i64 0, .int .i64 0] 121 (0, 0)) := ⟨_, rfl⟩
  rw [← hW]
  have HB0 := Lib.hid (show Below w.heap.size w W by rw [hW]; exact ba1 _ _)
  have hr := heap_cellR (show W.heap[w.heap.size]? = some (.cells #[.int .i64 0, .int .i64 0, .int .i64 0] 121 (0, 0)) by rw [hW]; exact push_at _ _)
  have HR := Lib.hid (show W.heap[w.heap.size]? = some (.cells #[.int .i64 0, .int .i64 0, .int .i64 0] 121 (0, 0)) by rw [hW]; exact push_at _ _)
  have hlt0 : w.heap.size < W.heap.size := by rw [hW]; simp
  clear hW
  go_loopw [7, 8, 9] (fun p _ _ wr => ∃ k' : Nat, 3 ≤ k' ∧ k' ≤ k ∧ p = .int .i64 k' ∧ wr = W) (fun p _ _ _ => k - (intOf p).toNat)
  case atStart => exact ⟨3, by omega, by omega, rfl, rfl⟩
  case round =>
    obtain ⟨k', hk3, hk, rfl, hwr⟩ := hrel
    obtain rfl : W = wr := hwr.symm
    obtain ⟨P, hP⟩ : ∃ P : Nat, P = 2 ^ k' := ⟨_, rfl⟩
    have hPb : P ≤ S := by rw [hP, HS.out]; exact Nat.pow_le_pow_right (by omega) hk
    have hw : wrap64 ((2 : Int) ^ k') = (P : Int) := by
      have hc : ((2 : Int) ^ k') = ((2 ^ k' : Nat) : Int) := by push_cast; rfl
      rw [hc, ← hP]; unfold wrap64; omega
    have hk8 : (k' : Int) ≤ 8 := by omega
    by_cases hlt : k' < k
    · have hne : P < S := by rw [hP, HS.out]; exact Nat.pow_lt_pow_right (by omega) hlt
      have hb : (((S : Nat) : Int) != (P : Int)) = true := by rw [bne_iff_ne]; omega
      clear hP
      go_wp2_with fail
      exact ⟨⟨k' + 1, by omega, by omega, by go_num, trivial⟩, by simp [intOf]; omega⟩
    · obtain rfl : k' = k := by omega
      have hPS : P = S := by rw [hP, HS.out]
      subst hPS
      have hb : (((P : Nat) : Int) != (P : Int)) = false := by simp
      clear hP
      go_wp2_with fail
      go_loopw [8, 9] (fun p _ wr => ∃ p' : Nat, P ≤ p' ∧ p' ≤ g ∧ p = .int .i64 p' ∧ Below W.heap.size W wr) (fun p _ _ => g + 1 - (intOf p).toNat)
      case atStart => exact ⟨P, Nat.le_refl _, hg1, rfl, Below.refl _ _⟩
      case round =>
        obtain ⟨p', hp1, hp2, rfl, hb2⟩ := hrel
        have HB := Lib.hid hb2
        have hlt2 : decide ((p' : Int) < 2 * (P : Int)) = true := by simp; omega
        clear hb2
        by_cases hpg : p' < g
        · have HF := Lib.hid (show fldB 2 (k' : Int) (p' : Int) = false from HL.out p' hp1 hpg)
          go_wp2_with fail
          refine (isField_two _ _ _).mono ?_
          rw [HF.out]
          rintro e w2 ⟨rfl, hb3⟩
          have HB2 := Lib.hid (bt0 HB.out (bt1 hb3) (Nat.le_refl _))
          clear hb3
          go_wp2_with fail
          exact ⟨⟨p' + 1, by omega, by omega, by go_num, HB2.out⟩, by simp [intOf]; omega⟩
        · obtain rfl : p' = g := by omega
          go_wp2_with fail
          refine (isField_two _ _ _).mono ?_
          rw [HT.out]
          rintro e w2 ⟨rfl, hb3⟩
          obtain ⟨hx, hf⟩ := heap_cellR (blkK hb3 (push_at wr (.cells #[.int .i64 2, .int .i64 k', .int .i64 p'] 121 (0, 0))))
          have HB2 := Lib.hid (bt0 HB.out (bt1 hb3) (Nat.le_refl _))
          obtain ⟨hr0, hf0⟩ := heap_cellR (blk HB2.out HR.out hlt0)
          clear hb3 hr
          go_wp2_with fail
          refine bodyPost_ret (v := .tuple #[.agg #[.int .i64 2, .int .i64 k', .int .i64 p'], .int .i64 0]) (by simp [results, Tryz.results191, go_sem, hr0]) rfl ⟨rfl, ?_⟩
          iterate 3 (refine Below.setCell ?_ (by dsimp only; omega) _)
          exact HB0.out.trans (HB2.out.mono HB0.out.size)

set_option maxRecDepth 100000 in
theorem least5 : Least 5 37 := by
  refine ⟨by decide, by decide, by decide, by decide, by decide +kernel, fun p h1 h2 => ?_⟩
  have h3 : p = 32 ∨ p = 33 ∨ p = 34 ∨ p = 35 ∨ p = 36 := by omega
  rcases h3 with rfl | rfl | rfl | rfl | rfl <;> decide +kernel
theorem fieldOf_32 (w : World) :
    Calls Tryz.prog 191 #[.int .i64 32] w fun e w' => e = .returned (.tuple #[.agg #[.int .i64 2, .int .i64 5, .int .i64 37], .int .i64 0]) ∧ Below w.heap.size w w' := fieldOf_any 32 5 37 rfl least5 w

/-- a list holds a number -/
def hasI (xs : List Int) (n : Int) : Bool := xs.contains n
theorem hasI_no {xs : List Int} {n : Int} (h : ∀ i, i < xs.length → xs.getD i 0 ≠ n) : hasI xs n = false := by
  rw [hasI, Bool.eq_false_iff]
  intro hc
  rw [List.contains_iff_mem] at hc
  obtain ⟨i, hi, e⟩ := List.mem_iff_getElem.1 hc
  exact h i hi (by rw [getD_of (List.getElem?_eq_getElem hi), e])
theorem hasI_yes {xs : List Int} {n : Int} {k : Nat} (h : xs[k]? = some n) : hasI xs n = true := by
  rw [hasI, List.contains_iff_mem]
  exact List.mem_of_getElem? h
set_option maxHeartbeats 400000 in
theorem hasLevel_any (nm : ByteArray) (kd p k g : Int) (a1 : Option Addr) (szs : List Int) (c1 : Nat) (cl : Int) (a2 : Option Addr) (lvs : List Int) (c2 : Nat) (n : Int) (w : World) (lx : lvs.length ≤ 1099511627776) :
    Calls Tryz.prog 180 #[(.agg #[.string nm, .int .i64 kd, .int .i64 p, .int .i64 k, .int .i64 g, .slice a1 szs.length c1, .int .i64 cl, .slice a2 lvs.length c2]), .int .i64 n] w fun e w' => e = .returned (.bool (inB n 0 ((lvs.length : Int) - 1))) ∧ Below w.heap.size w w' := by
  go_enter Tryz.func180, Tryz.ntmps180
  go_wp2_with fail
  refine (inRange_any _ _ _ _).mono ?_
  rintro e w' ⟨rfl, rfl⟩
  go_wp2_with fail
  go_ret
  exact ⟨rfl, ba1 _ _⟩

end Go.Proofs.YtlcglclojlffgaaGreatDoor
namespace Go.Proofs.YtlcglclojlffgaaGreatDoor
open Go.RowKit

set_option maxRecDepth 100000 in
theorem spPrime_32 (w : World) :
    Calls Tryz.prog 119 #[.int .i64 32] w fun e w' => e = .returned (.bool false) ∧ w = w' := by
  go_enter Tryz.func119, Tryz.ntmps119
  go_wp2_with fail
  go_loopw [3] (fun i wr => i = .int .i64 2 ∧ wr = w) (fun i _ => (intOf i).toNat)
  case atStart => exact ⟨rfl, rfl⟩
  case round =>
    obtain ⟨rfl, rfl⟩ := hrel
    go_wp2_with fail
    go_ret
    exact ⟨rfl, rfl⟩
theorem spField_bin (p k g : Int) (hk : k ≠ 1) (w : World) :
    Calls Tryz.prog 105 #[.agg #[.int .i64 p, .int .i64 k, .int .i64 g]] w fun e w' => e = .returned (.bool (fldB p k g)) ∧ Below w.heap.size w w' := by
  refine (spField_any p k g w).mono ?_
  rintro e w' ⟨b, rfl, h1, -, hb⟩
  rw [h1 hk]
  exact ⟨rfl, hb⟩
set_option maxRecDepth 100000 in
set_option maxHeartbeats 1000000 in
theorem spFieldOf_32 (w : World) :
    Calls Tryz.prog 103 #[.int .i64 32] w fun e w' => e = .returned (.tuple #[.agg #[.int .i64 2, .int .i64 5, .int .i64 37], .int .i64 0]) ∧ Below w.heap.size w w' := by
  go_enter Tryz.func103, Tryz.ntmps103
  go_wp2_with fail
  have hz := push_at w (.cells #[.int .i64 0, .int .i64 0, .int .i64 0] 121 (0, 0))
  have HB0 := Lib.hid (ba1 w (.cells #[.int .i64 0, .int .i64 0, .int .i64 0] 121 (0, 0)))
  obtain ⟨w1, hw1⟩ : ∃ w1, w1 = w.alloc (.cells #[.int .i64 0, .int .i64 0, .int .i64 0] 121 (0, 0)) := ⟨_, rfl⟩
  rw [← hw1] at hz HB0 ⊢
  have HX1 := Lib.hid hz
  clear hw1 hz
  refine (spIn_any 32 3 1021 w1).mono ?_
  rintro e w2 ⟨rfl, rfl⟩
  rw [show inB 32 3 1021 = true from rfl]
  go_wp2_with fail
  refine (spPrime_32 w1).mono ?_
  rintro e w2 ⟨rfl, rfl⟩
  go_wp2_with fail
  go_loopw [3, 6, 7, 8] (fun _ i _ _ wr => ∃ q : Nat, 3 ≤ q ∧ q ≤ 5 ∧ i = .int .i64 q ∧ wr = w1) (fun _ i _ _ _ => 6 - (intOf i).toNat)
  case atStart => exact ⟨3, by omega, by omega, rfl, rfl⟩
  case round =>
    obtain ⟨q, hq1, hq2, rfl, rfl⟩ := hrel
    by_cases hq : q = 5
    · subst hq
      rw [show ((5 : Nat) : Int) = (5 : Int) from rfl]
      obtain ⟨-, -, hg1, -, ht, hl⟩ := least5
      have HL := Lib.hid hl
      have HT := Lib.hid ht
      have hlt0 := blkLt HX1.out
      obtain ⟨W, hW⟩ : ∃ W : World, W = wr := ⟨_, rfl⟩
      subst hW
      clear hl ht hg1
      go_wp2_with fail
      go_loopw [3, 7, 8] (fun _ p _ wq => ∃ d : Nat, 32 ≤ d ∧ d ≤ 37 ∧ p = .int .i64 d ∧ Below W.heap.size W wq) (fun _ p _ _ => 38 - (intOf p).toNat)
      case atStart => exact ⟨32, by omega, by omega, rfl, Below.refl _ _⟩
      case round =>
        obtain ⟨d, hd1, hd2, rfl, hb2⟩ := hrel
        have HB := Lib.hid hb2
        have hlt2 : (d : Int) < 64 := by omega
        clear hb2
        by_cases hpg : d < 37
        · have HF := Lib.hid (show fldB 2 5 (d : Int) = false from HL.out d hd1 hpg)
          go_wp2_with fail
          refine (spField_bin _ _ _ (by decide) _).mono ?_
          rw [HF.out]
          rintro e w2 ⟨rfl, hb3⟩
          have HB2 := Lib.hid (bt0 HB.out (bt1 hb3) (Nat.le_refl _))
          clear hb3
          go_wp2_with fail
          exact ⟨⟨d + 1, by omega, by omega, by push_cast; rfl, HB2.out⟩, by simp [intOf]; omega⟩
        · obtain rfl : d = 37 := by omega
          go_wp2_with fail
          refine (spField_bin _ _ _ (by decide) _).mono ?_
          rw [show fldB 2 5 37 = true from HT.out]
          rintro e w2 ⟨rfl, hb3⟩
          obtain ⟨hx, hf⟩ := heap_cellR (blkK hb3 (push_at wr (.cells #[.int .i64 2, .int .i64 5, .int .i64 37] 121 (0, 0))))
          have HB2 := Lib.hid (bt0 HB.out (bt1 hb3) (Nat.le_refl _))
          obtain ⟨hr0, hf0⟩ := heap_cellR (blk HB2.out HX1.out hlt0)
          clear hb3
          go_wp2_with fail
          refine bodyPost_ret (v := .tuple #[.agg #[.int .i64 2, .int .i64 5, .int .i64 37], .int .i64 0]) (by simp [results, Tryz.results103, go_sem, hr0]) rfl ⟨rfl, ?_⟩
          iterate 3 (refine Below.setCell ?_ (by dsimp only; omega) _)
          exact HB0.out.trans (HB2.out.mono HB0.out.size)
    · have hq34 : q = 3 ∨ q = 4 := by omega
      rcases hq34 with rfl | rfl
      · go_wp2_with fail
        exact ⟨⟨4, by omega, by omega, rfl, trivial⟩, by simp [intOf]⟩
      · go_wp2_with fail
        exact ⟨⟨5, by omega, by omega, rfl, trivial⟩, by simp [intOf]⟩

end Go.Proofs.YtlcglclojlffgaaGreatDoor
namespace Go.Proofs.YtlcglclojlffgaaGreatDoor
open Go.RowKit

/-- append of one number -/
theorem wpList_append_i1 {ops : Array Oper} {rest : List Oper} {o : Oper} {a : Act} {Q : Exit → Act → World → Prop} {W : World} (hgd : o.guard = none) (s x : Operand) (T : TypeId) (hT : Tryz.prog.underlying T = some (.slice 2))
    (ho : o.op = .call { callee := .builtin .append, args := #[s, x], argTypes := #[T, T] })
    (base : Nat) (v : Value) (l : List Int) (z : Int) (hs : a.eval s = v) (hown : OwnI W base v l) (g : Nat) (hx : a.eval x = .slice (some ⟨g, 0, none⟩) 1 1)
    (hg : W.heap[g]? = some (.cells #[.int .i64 z] 2 (0, 0))) (hl : l.length ≤ 1000000000) (hb : base ≤ W.heap.size)
    (h : ∀ a' c' l' w', l' = l ++ [z] → OwnI w' base (.slice a' l'.length c') l' → W.grownBy w' v.ownBlock → Below base W w' → wpList Tryz.prog ops Q rest (a.put o.dst (.slice a' l'.length c')) w') : wpList Tryz.prog ops Q (o :: rest) a W := by
  obtain ⟨i0, hi, y0, y1, y2⟩ := info_parts infoI
  refine wpList_append_own _ hgd s x T ho base 2 i0 _ 1 8 hT hi y0 y1 y2 rfl (by decide) v l.length (l.map (Value.int .i64)) hs hown ⟨g, 0, none⟩ 1 1 [.int .i64 z] hx rfl ?_ ?_ (by unfold maxLen; omega) (by omega) hb
    (fun v' w' h1 h2 _ => ?_)
  · intro j u hu
    rw [Addr.add_lit, Nat.zero_add, (heap_cellR hg).1, ← hu]
    simp
  · intro u hu
    simp only [List.mem_singleton] at hu
    subst hu; rfl
  · have ho : OwnI w' base v' (l ++ [z]) := by
      unfold OwnI
      rw [List.length_append, List.map_append]
      exact h1
    obtain ⟨a', c', e, _⟩ := ho.read
    rw [e] at ho ⊢
    exact h a' c' _ w' rfl ho h2 (below_of_grownBy h2 hb (fun k hk => hown.lo k hk))
end Go.Proofs.YtlcglclojlffgaaGreatDoor
namespace Go.Proofs.YtlcglclojlffgaaGreatDoor
open Go.RowKit

theorem quiet_same' {P : Program} {f : FuncId} {args : Array Value} {w : World} {n : Nat} {v : Value} (h : Calls P f args (w.drewN n) fun e w' => e = .returned v ∧ w.drewN n = w') : Calls P f args (w.drewN n) fun e w'' => e = .returned v ∧ ∃ m, w'' = w.drewN m :=
  Calls.quiet_of_same (h.mono fun _ _ ⟨h1, h2⟩ => ⟨h1, h2.symm⟩)
end Go.Proofs.YtlcglclojlffgaaGreatDoor
namespace Go.Proofs.YtlcglclojlffgaaGreatDoor
open Go.RowKit

set_option maxRecDepth 100000 in
set_option maxHeartbeats 1000000 in
theorem spName_any (s : ByteArray) (w : World) (hs : s.size ≤ 1048576) :
    Calls Tryz.prog 104 #[.string s] w fun e w' => e = .returned (.bool (nameB s.data.toList)) ∧ w = w' := by
  have hl : s.data.toList.length = s.size := rfl
  have HL := Lib.hid hl
  clear hl
  go_enter Tryz.func104, Tryz.ntmps104
  go_wp2_with fail
  go_loop [3] (fun i => ∃ k : Nat, k ≤ s.size ∧ i = .int .i64 k ∧ ∀ i (hi : i < s.size), i < k → 97 ≤ s[i].toNat ∧ s[i].toNat ≤ 122) (fun i => s.size - (intOf i).toNat)
  case atStart => exact ⟨0, Nat.zero_le _, rfl, fun i _ h => by omega⟩
  case round =>
    obtain ⟨k, hk, rfl, hall⟩ := hrel
    have HA := Lib.hid hall
    clear hall
    by_cases hlt : k < s.size
    · have hki : (k : Int) < (s.size : Int) := by omega
      by_cases h1 : s[k].toNat < 97
      · have HR := Lib.hid (name_no (h := hlt) (Or.inl h1))
        have hd : decide (((s[k].toNat : Nat) : Int) < 97) = true := by simp; omega
        go_wp2_with fail
        go_ret
        exact ⟨ret_bool HR.out.symm, rfl⟩
      · have hd : decide (((s[k].toNat : Nat) : Int) < 97) = false := by simp; omega
        by_cases h2 : 122 < s[k].toNat
        · have HR := Lib.hid (name_no (h := hlt) (Or.inr h2))
          have hd2 : decide ((122 : Int) < ((s[k].toNat : Nat) : Int)) = true := by simp; omega
          clear h1 h2
          go_wp2_with fail
          go_ret
          exact ⟨ret_bool HR.out.symm, rfl⟩
        · have hd2 : decide ((122 : Int) < ((s[k].toNat : Nat) : Int)) = false := by simp; omega
          have HK : Hid (97 ≤ s[k].toNat ∧ s[k].toNat ≤ 122) := Lib.hid (by omega)
          clear h1 h2
          go_wp2_with fail
          refine ⟨⟨k + 1, by omega, by go_num, fun i hi hik => ?_⟩, by simp [intOf]; omega⟩
          by_cases e : i = k
          · subst e; exact HK.out
          · exact HA.out i hi (by omega)
    · have hki : ¬ (k : Int) < (s.size : Int) := by omega
      have HR := Lib.hid (name_yes (s := s) (fun i hi => HA.out i hi (by omega)))
      by_cases h1 : 1 ≤ s.size
      · have h1' : (1 : Int) ≤ (s.size : Int) := by omega
        by_cases h8 : s.size ≤ 8
        · have h8' : (s.size : Int) ≤ 8 := by omega
          have HE := Lib.hid (HR.out.trans (decide_eq_true ⟨h1', h8'⟩))
          go_wp2_with fail
          go_ret
          exact ⟨ret_bool HE.out.symm, rfl⟩
        · have h8' : ¬ (s.size : Int) ≤ 8 := by omega
          have HE := Lib.hid (HR.out.trans (decide_eq_false (fun h => h8' h.2)))
          go_wp2_with fail
          go_ret
          exact ⟨ret_bool HE.out.symm, rfl⟩
      · have h1' : ¬ (1 : Int) ≤ (s.size : Int) := by omega
        have HE := Lib.hid (HR.out.trans (decide_eq_false (fun h => h1' h.1)))
        go_wp2_with fail
        go_ret
        exact ⟨ret_bool HE.out.symm, rfl⟩
theorem spIn_val {n lo hi : Int} {b : Bool} {w : World} (h : inB n lo hi = b) :
    Calls Tryz.prog 44 #[.int .i64 n, .int .i64 lo, .int .i64 hi] w fun e w' => e = .returned (.bool b) ∧ w = w' := h ▸ spIn_any n lo hi w
/-- a list that rises, not empty and not too long -/
def risS (most : Nat) (lo hi : Int) (xs : List Int) : Bool := decide (1 ≤ xs.length) && decide (xs.length ≤ most) && risB lo hi xs
set_option maxRecDepth 100000 in
set_option maxHeartbeats 2000000 in
theorem spRises_any (most : Nat) (hm : most ≤ 8) (lo hi : Int) (a : Option Addr) (xs : List Int) (c : Nat) (w : World) (hx : IntsAt w a xs) (lx : xs.length ≤ 1099511627776) :
    Calls Tryz.prog 106 #[.slice a xs.length c, .int .i64 (most : Int), .int .i64 lo, .int .i64 hi] w fun e w' => e = .returned (.bool (risS most lo hi xs)) ∧ ∃ n, w' = w.drewN n := by
  have HX := Lib.hid hx
  clear hx
  obtain ⟨R, hR⟩ : ∃ R, R = risS most lo hi xs := ⟨_, rfl⟩
  have HR := Lib.hid hR
  rw [← hR]
  clear hR
  by_cases h1 : 1 ≤ xs.length
  · have h1' : ¬ ((xs.length : Nat) : Int) < 1 := by omega
    by_cases h2 : xs.length ≤ most
    · have h2' : ¬ (most : Int) < (xs.length : Int) := by omega
      have HR2 := Lib.hid (show R = risB lo hi xs by rw [HR.out, risS, decide_eq_true h1, decide_eq_true h2]; rfl)
      clear HR
      go_enter Tryz.func106, Tryz.ntmps106
      go_wp2_with fail
      go_loopw [9] (fun i wr => ∃ k n : Nat, k ≤ xs.length ∧ i = .int .i64 k ∧ (∀ i, i < k → (lo ≤ xs.getD i 0 ∧ xs.getD i 0 ≤ hi) ∧ (0 < i → xs.getD (i - 1) 0 < xs.getD i 0)) ∧ wr = w.drewN n) (fun i _ => xs.length - (intOf i).toNat)
      case atStart => exact ⟨0, 0, Nat.zero_le _, rfl, fun i h => by omega, rfl⟩
      case round =>
        obtain ⟨k, n, hk, rfl, hall, hwr⟩ := hrel
        have HA := Lib.hid hall
        have HWR := Lib.hid hwr
        have HXr := Lib.hid (show IntsAt wr a xs by rw [hwr]; exact HX.out.below (below_drewN (Below.refl _ _) _))
        clear hall hwr
        by_cases hlt : k < xs.length
        · obtain ⟨b1, o1, x, rfl, hxk, hb1, hc1⟩ := HXr.out.at hlt
          have hki : (k : Int) < (xs.length : Int) := by omega
          have HG := Lib.hid (getD_of hxk)
          clear hxk
          rcases Bool.eq_false_or_eq_true (inB x lo hi) with hin | hin
          · have hin' := inB_iff.1 hin
            have HIN := Lib.hid (fun w => spIn_val (w := w) hin)
            by_cases hk0 : k = 0
            · have hk0' : decide (0 < k) = false := by simp; omega
              have HK : Hid (∀ i, i < k + 1 → (lo ≤ xs.getD i 0 ∧ xs.getD i 0 ≤ hi) ∧ (0 < i → xs.getD (i - 1) 0 < xs.getD i 0)) := Lib.hid (fun i hi => by
                obtain rfl : i = k := by omega
                rw [HG.out]
                exact ⟨hin', fun h => by omega⟩)
              clear hk0 hin
              go_wp2_with fail
              go_quiet ((go_at_call 44; go_must (exact quiet_same' (HIN.out _))))
              go_wp2_with fail
              exact ⟨⟨k + 1, _, by omega, by go_num, HK.out, by rw [HWR.out, World.drewN_drewN]⟩, by simp [intOf]; omega⟩
            · obtain ⟨k, rfl⟩ : ∃ k', k = k' + 1 := ⟨k - 1, by omega⟩
              obtain ⟨b2, o2, y, e2, hyk, hb2, hc2⟩ := HXr.out.at (k := k) (by omega)
              simp only [Option.some.injEq, Addr.mk.injEq, and_true] at e2
              obtain ⟨rfl, rfl⟩ := e2
              have HY := Lib.hid (getD_of hyk)
              have hk0' : decide (0 < k + 1) = true := by simp
              have hk1' : ((k + 1 : Nat) : Int) - 1 = (k : Int) := by omega
              clear hyk hk0 hin
              by_cases hxy : x ≤ y
              · have hd : decide (x ≤ y) = true := decide_eq_true hxy
                have HE := Lib.hid (HR2.out.trans (ris_no (lo := lo) (hi := hi) hlt (Or.inr ⟨by omega, by rw [HG.out, Nat.add_sub_cancel, HY.out]; exact hxy⟩)))
                clear hxy
                go_wp2_with fail
                go_quiet ((go_at_call 44; go_must (exact quiet_same' (HIN.out _))))
                go_wp2_with fail
                go_ret
                exact ⟨ret_bool HE.out.symm, _, by rw [HWR.out, World.drewN_drewN]⟩
              · have hd : decide (x ≤ y) = false := decide_eq_false hxy
                have HK : Hid (∀ i, i < k + 1 + 1 → (lo ≤ xs.getD i 0 ∧ xs.getD i 0 ≤ hi) ∧ (0 < i → xs.getD (i - 1) 0 < xs.getD i 0)) := Lib.hid (fun i hi => by
                  by_cases e : i = k + 1
                  · subst e
                    rw [HG.out, Nat.add_sub_cancel, HY.out]
                    exact ⟨hin', fun _ => by omega⟩
                  · exact HA.out i (by omega))
                clear hxy
                go_wp2_with fail
                go_quiet ((go_at_call 44; go_must (exact quiet_same' (HIN.out _))))
                go_wp2_with fail
                exact ⟨⟨k + 1 + 1, _, by omega, by go_num, HK.out, by rw [HWR.out, World.drewN_drewN]⟩, by simp [intOf]; omega⟩
          · have HIN := Lib.hid (fun w => spIn_val (w := w) hin)
            have HE := Lib.hid (HR2.out.trans (ris_no (lo := lo) (hi := hi) hlt (Or.inl (by
              rw [HG.out]
              have h1 : ¬ (lo ≤ x ∧ x ≤ hi) := of_decide_eq_false hin
              omega))))
            clear hin
            go_wp2_with fail
            go_quiet ((go_at_call 44; go_must (exact quiet_same' (HIN.out _))))
            go_wp2_with fail
            go_ret
            exact ⟨ret_bool HE.out.symm, _, by rw [HWR.out, World.drewN_drewN]⟩
        · have hki : ¬ (k : Int) < (xs.length : Int) := by omega
          have HE := Lib.hid (HR2.out.trans (decide_eq_true (fun i hi => HA.out i (by omega))))
          go_wp2_with fail
          go_ret
          exact ⟨ret_bool HE.out.symm, _, HWR.out⟩
    · have h2' : (most : Int) < (xs.length : Int) := by omega
      have HE := Lib.hid (show R = false by rw [HR.out, risS, decide_eq_false h2]; simp)
      go_enter Tryz.func106, Tryz.ntmps106
      go_wp2_with fail
      go_ret
      exact ⟨ret_bool HE.out.symm, 0, rfl⟩
  · have h1' : ((xs.length : Nat) : Int) < 1 := by omega
    have HE := Lib.hid (show R = false by rw [HR.out, risS, decide_eq_false h1]; rfl)
    go_enter Tryz.func106, Tryz.ntmps106
    go_wp2_with fail
    go_ret
    exact ⟨ret_bool HE.out.symm, 0, rfl⟩

end Go.Proofs.YtlcglclojlffgaaGreatDoor
namespace Go.Proofs.YtlcglclojlffgaaGreatDoor
open Go.RowKit

/-! Lists of places with whole-number rows and columns. -/
/-- a place's cells -/
def plZ (p : Int × Int) : List Value := [.int .i64 p.1, .int .i64 p.2]
/-- the slice v is the call's own and holds the places ps -/
def OwnZ (w : World) (base : Nat) (v : Value) (ps : List (Int × Int)) : Prop := w.ownsRow base 299 2 v ps.length (ps.flatMap plZ)
/-- places at an address -/
def PlZAt (w : World) (a : Option Addr) (ps : List (Int × Int)) : Prop := ∀ i (h : i < ps.length), ∃ b o, a = some ⟨b, o, none⟩ ∧ w.cell? ⟨b, o + i * 2, none⟩ = some (.int .i64 (ps[i]).1) ∧ w.cell? ⟨b, o + i * 2 + 1, none⟩ = some (.int .i64 (ps[i]).2)
theorem PlZAt.below {w w' : World} {a : Option Addr} {ps : List (Int × Int)} (H : PlZAt w a ps) (hb : Below w.heap.size w w') : PlZAt w' a ps := fun i h => by
  obtain ⟨b, o, ha, h0, h1⟩ := H i h
  have hl := lt_of_cell h0
  exact ⟨b, o, ha, ((bcell hb).1 b _ hl).trans h0, ((bcell hb).1 b _ hl).trans h1⟩
theorem zflat_at : ∀ (ps : List (Int × Int)) (i : Nat) (p : Int × Int), ps[i]? = some p → ∀ j, j < 2 → (ps.flatMap plZ)[i * 2 + j]? = (plZ p)[j]?
  | [], i, d, h, _, _ => by simp at h
  | e :: ds, 0, d, h, j, hj => by
    simp at h
    subst h
    rw [List.flatMap_cons, Nat.zero_mul, Nat.zero_add, List.getElem?_append_left (by simpa [plZ] using hj)]
  | e :: ds, i + 1, d, h, j, hj => by
    have ih := zflat_at ds i d (by simpa using h) j hj
    rw [List.flatMap_cons, List.getElem?_append_right (by simp [plZ]; omega), ← ih]
    congr 1
    simp [plZ]; omega
theorem zflat_len : ∀ ps : List (Int × Int), (ps.flatMap plZ).length = ps.length * 2
  | [] => rfl
  | e :: ds => by rw [List.flatMap_cons, List.length_append, zflat_len ds]; simp [plZ]; omega
theorem zflat_one {ps : List (Int × Int)} : ∀ u ∈ ps.flatMap plZ, u.oneCell' = true := by
  intro u hu
  obtain ⟨p, _, hp⟩ := List.mem_flatMap.1 hu
  simp only [plZ, List.mem_cons, List.not_mem_nil, or_false] at hp
  rcases hp with rfl | rfl <;> rfl
theorem OwnZ.pls {w : World} {base : Nat} {a : Option Addr} {n c : Nat} {ps : List (Int × Int)} (h : OwnZ w base (.slice a n c) ps) : PlZAt w a ps := by
  intro i hi
  have hd := List.getElem?_eq_getElem hi
  rcases h.2 with ⟨h1, h0⟩ | ⟨g, cap, cur, h1, hb, hg, q1, q2, q3, q4⟩
  · omega
  · simp only [Value.slice.injEq] at h1
    obtain ⟨rfl, rfl, rfl⟩ := h1
    have hc : ∀ j, j < 2 → w.cell? ⟨g, i * 2 + j, none⟩ = (plZ ps[i])[j]? := fun j hj => by
      have h2 := World.ownsRow.cellAt h (i * 2 + j) (by omega)
      rw [h2, zflat_at ps i _ hd j hj]
    refine ⟨g, 0, rfl, ?_, ?_⟩
    · rw [Nat.zero_add]; exact hc 0 (by omega)
    · rw [Nat.zero_add]; exact hc 1 (by omega)
theorem OwnZ.read {w : World} {base : Nat} {v : Value} {ps : List (Int × Int)} (h : OwnZ w base v ps) : ∃ a c, v = .slice a ps.length c := by
  rcases h.2 with ⟨rfl, h0⟩ | ⟨g, cap, cur, rfl, _⟩
  · exact ⟨none, 0, by rw [h0]⟩
  · exact ⟨_, _, rfl⟩
theorem OwnZ.lo {w : World} {base : Nat} {v : Value} {ps : List (Int × Int)} (h : OwnZ w base v ps) : ∀ g, v.ownBlock = some g → base ≤ g := by
  rcases h.2 with ⟨rfl, _⟩ | ⟨g, cap, cur, rfl, hg, _⟩
  · simp [Value.ownBlock]
  · intro k e; simp [Value.ownBlock] at e; omega
theorem OwnZ.lt {w : World} {base : Nat} {v : Value} {ps : List (Int × Int)} (h : OwnZ w base v ps) (hp : 1 ≤ ps.length) : ∀ g, v.ownBlock = some g → g < w.heap.size := by
  intro k e
  obtain ⟨a, c, rfl⟩ := h.read
  obtain ⟨b, o, rfl, h0, _⟩ := h.pls 0 hp
  simp [Value.ownBlock] at e
  subst e
  exact lt_of_cell h0
theorem OwnZ.other {w w' : World} {base : Nat} {v : Value} {ps : List (Int × Int)} {row : Option Nat} (h : OwnZ w base v ps) (hg : w.grownBy w' row) (hne : ∀ k, v.ownBlock = some k → row ≠ some k) : OwnZ w' base v ps :=
  h.kept hg (by
    cases hv : v.ownBlock with
    | none => exact Or.inl rfl
    | some k => exact Or.inr (fun e => hne k hv e.symm))
theorem OwnZ.grown {w w' : World} {base : Nat} {v : Value} {ps : List (Int × Int)} (h : OwnZ w base v ps) (hb : Below w.heap.size w w') : OwnZ w' base v ps :=
  h.other (row := none) ⟨hb.os, hb.tape, hb.output, hb.size, fun k hk _ => hb.block k hk⟩ (fun k _ e => by cases e)
theorem OwnZ.weak {w : World} {base base' : Nat} {v : Value} {ps : List (Int × Int)} (h : OwnZ w base v ps) (hb : base' ≤ base) : OwnZ w base' v ps := by
  refine ⟨h.1, ?_⟩
  rcases h.2 with h2 | ⟨g, cap, cur, h1, hb', r⟩
  · exact Or.inl h2
  · exact Or.inr ⟨g, cap, cur, h1, by omega, r⟩
theorem OwnZ.new (w : World) : OwnZ (w.alloc (.cells #[] 299 (0, 0))) w.heap.size (.slice (some ⟨w.heap.size, 0, none⟩) 0 0) [] :=
  World.ownsRow_lit (base := w.heap.size) (size := 2) w #[] 0 (Nat.le_refl _) (by unfold maxLen; omega) rfl
theorem OwnZ.nil (w : World) (base : Nat) : OwnZ w base (.slice none 0 0) [] := ⟨by simp, Or.inl ⟨rfl, rfl⟩⟩
theorem infoZ : (Tryz.prog.info? 299).map (fun i => (i.zero, i.size, i.bytes)) = some (some (.agg #[.int .i64 0, .int .i64 0]), 2, 16) := by kernel_rfl
/-- append of places that stand in a block of their own -/
theorem wpList_append_zs {ops : Array Oper} {rest : List Oper} {o : Oper} {a : Act} {Q : Exit → Act → World → Prop} {W : World} (hgd : o.guard = none) (s x : Operand) (T : TypeId) (hT : Tryz.prog.underlying T = some (.slice 299))
    (ho : o.op = .call { callee := .builtin .append, args := #[s, x], argTypes := #[T, T] })
    (base : Nat) (v : Value) (l m : List (Int × Int)) (hs : a.eval s = v) (hown : OwnZ W base v l) (g n : Nat) (hn : n = m.length) (hx : a.eval x = .slice (some ⟨g, 0, none⟩) n n)
    (hg : W.heap[g]? = some (.cells (m.flatMap plZ).toArray 299 (0, 0))) (hl : l.length + m.length ≤ 100000000) (hb : base ≤ W.heap.size)
    (h : ∀ a' c' l' w', l' = l ++ m → OwnZ w' base (.slice a' l'.length c') l' → W.grownBy w' v.ownBlock → Below base W w' → ((Value.slice a' l'.length c').ownBlock = v.ownBlock ∨ (Value.slice a' l'.length c').ownBlock = some W.heap.size) → wpList Tryz.prog ops Q rest (a.put o.dst (.slice a' l'.length c')) w') : wpList Tryz.prog ops Q (o :: rest) a W := by
  subst hn
  obtain ⟨i0, hi, y0, y1, y2⟩ := info_parts infoZ
  refine wpList_append_own_at _ hgd s x T ho base 299 i0 _ 2 16 hT hi y0 y1 y2 rfl (by decide) v l.length (l.flatMap plZ) hs hown ⟨g, 0, none⟩ m.length m.length (m.flatMap plZ) hx (zflat_len m) ?_ zflat_one (by unfold maxLen; omega) (by omega) hb
    (fun v' w' h1 h2 _ h4 => ?_)
  · intro j u hu
    rw [Addr.add_lit, Nat.zero_add, (heap_cellR hg).1, ← hu]
    simp
  · have ho : OwnZ w' base v' (l ++ m) := by
      unfold OwnZ
      rw [List.length_append, List.flatMap_append]
      exact h1
    obtain ⟨a', c', e, _⟩ := ho.read
    exact h a' c' _ w' rfl ho h2 (below_of_grownBy h2 hb (fun k hk => hown.lo k hk)) h4

end Go.Proofs.YtlcglclojlffgaaGreatDoor
namespace Go.Proofs.YtlcglclojlffgaaGreatDoor
open Go.RowKit Go.Maps

/-! A map from places to truth values. -/
theorem laidP : laidOutB Tryz.prog = true := by kernel_rfl
theorem rowP : (299 : TypeId) < Tryz.prog.types.size := of_decide_eq_true (by kernel_rfl)
theorem pos_succ {a n : Nat} (h : a < n) : ∃ d, n = d + 1 := ⟨n - 1, by omega⟩
theorem deepP : Tryz.prog.keyTypeAt 2 299 = true := by kernel_rfl
theorem lawP : Keyed Tryz.prog 299 := Keyed.of_law (deep_law_laid laidP (m := 2) (by omega) rowP deepP (by rw [Tryz.underlying299]))
theorem keyTyP : Tryz.prog.keyType 299 = true := by kernel_rfl
theorem cellsP : Tryz.prog.cellsOf 299 = 2 := by kernel_rfl
theorem cellsI64m : Tryz.prog.cellsOf 2 = 1 := by kernel_rfl
theorem zeroBl (w : World) : (zeroValue 4).run Tryz.prog w = .ok (.bool false) w := by kernel_rfl
theorem sizeS : ∃ d, Tryz.prog.types.size = d + 1 := pos_succ rowP
/-- a place as a value -/
def plV (p : Int × Int) : Value := .agg #[.int .i64 p.1, .int .i64 p.2]
theorem plV_inj {p q : Int × Int} (h : plV p = plV q) : p = q := by
  obtain ⟨a, b⟩ := p
  obtain ⟨c, d⟩ := q
  simp [plV] at h
  rw [h.1, h.2]
theorem wf64 {z : Int} (h : -9223372036854775808 ≤ z ∧ z ≤ 9223372036854775807) : (Lit.int .i64 z).wf = true := by
  have e := wrap64_wf z
  rwa [IntWalk.wrap64_in _ (by omega)] at e
theorem keyP {r c : Int} (hr : (Lit.int .i64 r).wf = true) (hc : (Lit.int .i64 c).wf = true) : ∃ kl, keyOf Tryz.prog 299 (plV (r, c)) = some kl := by
  obtain ⟨d, hd⟩ := sizeS
  refine ⟨.string (keyBytes [.int .i64 r, .int .i64 c]), ?_⟩
  unfold keyOf
  rw [hd]
  simp [Tryz.underlying299, keyTyP, Value.formed, cellsP, plV, Value.cells, Program.keyLits, cellsI64m, Tryz.underlying2, hr, hc]
/-- the map at block b holds the places that T says -/
def Held (w : World) (b n : Nat) (T : Int × Int → Bool) : Prop :=
  ∃ D : DataW Unit, w.ownsMap Tryz.prog 299 (plainElem Tryz.prog 4) b n D ∧ IsMap D ∧ ∀ p kl, keyOf Tryz.prog 299 (plV p) = some kl → D.atKey kl (.lit (.bool false)) = .lit (.bool (T p))
theorem Held.made (w : World) : Held (w.alloc (.map #[] 0)) w.heap.size 0 (fun _ => false) := ⟨.map [], World.ownsMap_made _ _ _ _, isMap_empty, fun _ _ _ => rfl⟩
theorem Held.kept {w w' : World} {b n : Nat} {T : Int × Int → Bool} {row : Option Nat} (h : Held w b n T) (hg : w.grownBy w' row) (hne : some b ≠ row) : Held w' b n T := by
  obtain ⟨D, h1, h2, h3⟩ := h
  exact ⟨D, h1.kept hg hne, h2, h3⟩
theorem Held.lt {w : World} {b n : Nat} {T : Int × Int → Bool} (h : Held w b n T) : b < w.heap.size := by
  obtain ⟨D, h1, h2, h3⟩ := h
  exact h1.lt
theorem Held.below {w w' : World} {b n : Nat} {T : Int × Int → Bool} (h : Held w b n T) (hb : Below w.heap.size w w') : Held w' b n T :=
  h.kept (row := none) ⟨hb.os, hb.tape, hb.output, hb.size, fun k hk _ => hb.block k hk⟩ (by simp)
theorem Held.like {w : World} {b n : Nat} {T T' : Int × Int → Bool} (h : Held w b n T) (e : ∀ p, T p = T' p) : Held w b n T' := by
  obtain ⟨D, h1, h2, h3⟩ := h
  exact ⟨D, h1, h2, fun p kl hk => by rw [← e]; exact h3 p kl hk⟩
/-- m[p] = true at the operation -/
theorem wpList_mapSet {ops : Array Oper} {rest : List Oper} {o : Oper} {a : Act} {Q : Exit → Act → World → Prop} {w : World} (hg : o.guard = none) (m x v : Operand) (t : TypeId) (hop : o.op = Op.mapUpdate t m x v)
    (ht : Tryz.prog.underlying t = some (.map 299 4)) (b n : Nat) (T : Int × Int → Bool) (hm : a.eval m = .map (some b)) (hown : Held w b n T) (hn : n < maxLen) (r c : Int) (hr : (Lit.int .i64 r).wf = true) (hc : (Lit.int .i64 c).wf = true)
    (hx : a.eval x = plV (r, c)) (hv : a.eval v = .bool true)
    (hK : ∀ w', Held w' b (n + 1) (fun p => decide (p = (r, c)) || T p) → w.grownBy w' (some b) → wpList Tryz.prog ops Q rest (a.put o.dst undef) w') : wpList Tryz.prog ops Q (o :: rest) a w := by
  obtain ⟨D, h1, h2, h3⟩ := hown
  obtain ⟨kl, hk⟩ := keyP hr hc
  refine wpList_mapUpdate_own w hg m x v t hop 299 4 lawP ht _ b n D hm h1 hn _ _ kl hx hv hk _ [] (plainElem_bool Tryz.underlying4 true) (fun w' r1 r2 => hK w' ⟨_, r1, h2.put _ _, fun p kl' hk' => ?_⟩ r2)
  by_cases e : p = (r, c)
  · rw [e] at hk' ⊢
    have hk2 := Option.some.inj (hk.symm.trans hk')
    rw [← hk2]
    rw [atKey_put_same h2 (lawP.key hk)]
    simp
  · rw [atKey_put_other (show kl' ≠ kl from fun e2 => by subst e2; exact e (plV_inj (lawP.inj hk' hk))), h3 p kl' hk']
    simp [e]
theorem plainElem_bool_inv {P : Program} {e : TypeId} (he : P.underlying e = some .bool) {v : Value} {b : Bool} {ps : List MemPlace} (h : plainElem (H := Unit) P e v = some (.lit (.bool b), ps)) : v = .bool b := by
  unfold plainElem at h
  rw [he] at h
  cases v <;> simp at h
  · exact congrArg _ h.1
/-- m[p] at the operation -/
theorem wpList_mapGet {ops : Array Oper} {rest : List Oper} {o : Oper} {a : Act} {Q : Exit → Act → World → Prop} {w : World} (hg : o.guard = none) (m x : Operand) (t : TypeId) (hop : o.op = Op.lookup t m x false)
    (ht : Tryz.prog.underlying t = some (.map 299 4)) (b n : Nat) (T : Int × Int → Bool) (hm : a.eval m = .map (some b)) (hown : Held w b n T) (r c : Int) (hr : (Lit.int .i64 r).wf = true) (hc : (Lit.int .i64 c).wf = true)
    (hx : a.eval x = plV (r, c)) (hK : wpList Tryz.prog ops Q rest (a.put o.dst (.bool (T (r, c)))) w) : wpList Tryz.prog ops Q (o :: rest) a w := by
  obtain ⟨D, h1, h2, h3⟩ := hown
  obtain ⟨kl, hk⟩ := keyP hr hc
  refine wpList_plain hg fun K' hK' => ?_
  obtain ⟨v, ps, hrun, hv⟩ := h1.lookup lawP ht (zeroBl w) (plainElem_bool Tryz.underlying4 false) hk
  rw [h3 _ _ hk] at hv
  have e := plainElem_bool_inv Tryz.underlying4 hv
  subst e
  unfold Oper.wp
  simp [execOp, hop, hm, hx, hrun, Result.andThen]
  exact hK' _ _ hK

end Go.Proofs.YtlcglclojlffgaaGreatDoor
namespace Go.Proofs.YtlcglclojlffgaaGreatDoor
open Go.RowKit

/-- two lists of places in blocks of their own -/
structure TwoZ (w wr : World) (va vb : Value) (A B : List (Int × Int)) : Prop where
  a : OwnZ wr w.heap.size va A
  b : OwnZ wr w.heap.size vb B
  ne : ∃ ka kb, va.ownBlock = some ka ∧ vb.ownBlock = some kb ∧ ka ≠ kb ∧ ka < wr.heap.size ∧ kb < wr.heap.size
  below : Below w.heap.size w wr
theorem TwoZ.swap {w wr : World} {va vb : Value} {A B : List (Int × Int)} (h : TwoZ w wr va vb A B) : TwoZ w wr vb va B A := by
  obtain ⟨ka, kb, e1, e2, e3, e4, e5⟩ := h.ne
  exact ⟨h.b, h.a, ⟨kb, ka, e2, e1, fun e => e3 e.symm, e5, e4⟩, h.below⟩
theorem TwoZ.grown {w wr w2 : World} {va vb : Value} {A B : List (Int × Int)} (h : TwoZ w wr va vb A B) (hb : Below wr.heap.size wr w2) : TwoZ w w2 va vb A B := by
  obtain ⟨ka, kb, e1, e2, e3, e4, e5⟩ := h.ne
  have := hb.size
  exact ⟨h.a.grown hb, h.b.grown hb, ⟨ka, kb, e1, e2, e3, by omega, by omega⟩, bt0 h.below hb (Nat.le_refl _)⟩
theorem TwoZ.more {w W w' : World} {va va' vb : Value} {A A' B : List (Int × Int)} (h : TwoZ w W va vb A B) (ho : OwnZ w' w.heap.size va' A') (hp : 1 ≤ A'.length) (hg : W.grownBy w' va.ownBlock) (hb : Below w.heap.size W w')
    (hat : va'.ownBlock = va.ownBlock ∨ va'.ownBlock = some W.heap.size) : TwoZ w w' va' vb A' B := by
  obtain ⟨ka, kb, e1, e2, e3, e4, e5⟩ := h.ne
  have hs := hg.size
  refine ⟨ho, h.b.other hg (fun k hk e => ?_), ?_, h.below.trans hb⟩
  · rw [e1] at e; rw [e2] at hk
    have h1 := Option.some.inj e
    have h2 := Option.some.inj hk
    omega
  · rcases hat with h1 | h1
    · exact ⟨ka, kb, h1.trans e1, e2, e3, by omega, by omega⟩
    · exact ⟨W.heap.size, kb, h1, e2, by omega, ho.lt hp _ h1, by omega⟩
/-- two lists of places are handed back -/
def RetTwoZ (w : World) (A B : List (Int × Int)) (e : Ending) (w' : World) : Prop :=
  ∃ a c b d, e = .returned (.tuple #[.slice a A.length c, .slice b B.length d]) ∧ TwoZ w w' (.slice a A.length c) (.slice b B.length d) A B
theorem fmtA_1 : ∀ c, c < 6 → fmtA.take c ++ [(8, (c : Int))] = fmtA.take (c + 1) := by decide
theorem fmtA_2 : fmtA.take 6 ++ [(8, 7), (8, 8), (7, 8)] = fmtA.take 9 := by decide
theorem fmtA_3 : ∀ j, j < 6 → fmtA.take (9 + j) ++ [(5 - (j : Int), 8)] = fmtA.take (9 + (j + 1)) := by decide
theorem fmtB_1 (n : Int) : ∀ j, j < 7 → (fmtB n).take j ++ [(n - 1 - (j : Int), 8)] = (fmtB n).take (j + 1) := by
  intro j hj
  rcases (show j = 0 ∨ j = 1 ∨ j = 2 ∨ j = 3 ∨ j = 4 ∨ j = 5 ∨ j = 6 by omega) with rfl | rfl | rfl | rfl | rfl | rfl | rfl <;> simp [fmtB] <;> omega
theorem fmtB_2 (n : Int) : ∀ j, j < 8 → (fmtB n).take (7 + j) ++ [(8, n - 8 + (j : Int))] = (fmtB n).take (7 + (j + 1)) := by
  intro j hj
  rcases (show j = 0 ∨ j = 1 ∨ j = 2 ∨ j = 3 ∨ j = 4 ∨ j = 5 ∨ j = 6 ∨ j = 7 by omega) with rfl | rfl | rfl | rfl | rfl | rfl | rfl | rfl <;> simp [fmtB] <;> omega
theorem fmt_takeA : fmtA.take 15 = fmtA := by decide
theorem fmt_takeB (n : Int) : (fmtB n).take 15 = fmtB n := rfl
theorem fmtA_len (k : Nat) : (fmtA.take k).length ≤ 15 := by rw [List.length_take]; exact Nat.min_le_right _ _
theorem fmtB_len (n : Int) (k : Nat) : ((fmtB n).take k).length ≤ 15 := by rw [List.length_take]; exact Nat.min_le_right _ _
theorem snoc_pos (l m : List (Int × Int)) (h : 1 ≤ m.length) : 1 ≤ (l ++ m).length := by rw [List.length_append]; omega

set_option maxRecDepth 100000 in
set_option maxHeartbeats 4000000 in
theorem formats_any (n : Int) (w : World) (hn : 17 ≤ n) (hn2 : n ≤ 41) :
    Calls Tryz.prog 238 #[.int .i64 n] w (RetTwoZ w fmtA (fmtB n)) := by
  have HS0 := Lib.hid (show TwoZ w ((w.alloc (.cells #[] 299 (0, 0))).alloc (.cells #[] 299 (0, 0))) (.slice (some ⟨w.heap.size, 0, none⟩) 0 0) (.slice (some ⟨w.heap.size + 1, 0, none⟩) 0 0) (fmtA.take 0) ((fmtB n).take 0) from by
    have h1 : (w.alloc (.cells #[] 299 (0, 0))).heap.size = w.heap.size + 1 := by simp
    refine ⟨(OwnZ.new w).grown (ba1 _ _), ?_, ⟨w.heap.size, w.heap.size + 1, rfl, rfl, by omega, by simp; omega, by simp⟩, ba2 _ _ _⟩
    have h2 := OwnZ.new (w.alloc (.cells #[] 299 (0, 0)))
    rw [h1] at h2
    exact h2.weak (by omega))
  go_enter Tryz.func238, Tryz.ntmps238
  go_wp2_with fail
  go_loopw [4, 6] (fun f c wr => ∃ (c' : Nat) (fa : Option Addr) (fc : Nat) (l : List (Int × Int)), c' ≤ 6 ∧ c = .int .i64 c' ∧ l = fmtA.take c' ∧ f = .slice fa l.length fc ∧ TwoZ w wr f (.slice (some ⟨w.heap.size + 1, 0, none⟩) 0 0) l []) (fun _ c _ => 6 - (intOf c).toNat)
  case atStart => exact ⟨0, _, _, [], by omega, rfl, rfl, rfl, HS0.out⟩
  case round =>
    obtain ⟨c', fa, fc, l, hc, rfl, hl, rfl, hst⟩ := hrel
    have HST := Lib.hid hst
    have HE := Lib.hid hl
    clear hst hl
    by_cases hlt : c' < 6
    · have hlti : (c' : Int) ≤ 5 := by omega
      have HL := Lib.hid (fmtA_1 c' hlt)
      have HLn := Lib.hid (show l.length ≤ 15 by rw [HE.out]; exact fmtA_len c')
      go_wp2_with (at_builtin; refine wpList_append_zs (o := _) rfl (.tmp 16) (.tmp 19) 282 Tryz.underlying282 rfl w.heap.size (.slice fa l.length fc) l [(8, (c' : Int))] rfl (HST.out.a.grown (ba1 _ _)) wr.heap.size 1 rfl rfl (push_at _ _) ?c3 ?c4 ?h8)
      case c3 => have := HLn.out; first | omega | (simp; omega)
      case c4 => have := HST.out.below.size; first | omega | (simp; omega)
      case h8 =>
      intro a8 c8 l8 w8 he8 ho8 hg8 hb8 hat8
      have HT8 := Lib.hid ((HST.out.grown (ba1 _ _)).more ho8 (by rw [he8]; exact snoc_pos _ _ (Nat.le_refl _)) hg8 hb8 (hat8.imp id (fun h => by simpa using h)))
      rw [HE.out, HL.out] at he8
      have HE8 := Lib.hid he8
      clear ho8 hg8 hb8 hat8 he8
      go_wp2_with fail
      exact ⟨⟨c' + 1, _, _, l8, by omega, by go_num, HE8.out, rfl, HT8.out⟩, by simp [intOf]; omega⟩
    · have hlti : ¬ (c' : Int) ≤ 5 := by omega
      have hc6 : c' = 6 := by omega
      subst hc6
      have HLn := Lib.hid (show l.length ≤ 15 by rw [HE.out]; exact fmtA_len 6)
      go_wp2_with (at_builtin; refine wpList_append_zs (o := _) rfl (.tmp 21) (.tmp 25) 282 Tryz.underlying282 rfl w.heap.size (.slice fa l.length fc) l [(8, 7), (8, 8), (7, 8)] rfl (HST.out.a.grown (ba1 _ _)) wr.heap.size 3 rfl rfl (push_at _ _) ?c3 ?c4 ?h8)
      case c3 => have := HLn.out; first | omega | (simp; omega)
      case c4 => have := HST.out.below.size; first | omega | (simp; omega)
      case h8 =>
      intro a8 c8 l8 w8 he8 ho8 hg8 hb8 hat8
      have HT8 := Lib.hid ((HST.out.grown (ba1 _ _)).more ho8 (by rw [he8]; exact snoc_pos _ _ (by decide)) hg8 hb8 (hat8.imp id (fun h => by simpa using h)))
      rw [HE.out, fmtA_2] at he8
      have HE8 := Lib.hid he8
      clear ho8 hg8 hb8 hat8 he8 HST HLn HE HS0
      go_wp2_with fail
      go_loopw [4, 7] (fun f c wr => ∃ (j : Nat) (fa : Option Addr) (fc : Nat) (l : List (Int × Int)), j ≤ 6 ∧ c = .int .i64 (5 - (j : Int)) ∧ l = fmtA.take (9 + j) ∧ f = .slice fa l.length fc ∧ TwoZ w wr f (.slice (some ⟨w.heap.size + 1, 0, none⟩) 0 0) l []) (fun _ c _ => (1 + intOf c).toNat)
      case atStart => exact ⟨0, _, _, l8, by omega, rfl, HE8.out, rfl, HT8.out⟩
      case round =>
        obtain ⟨j, fa, fc, l, hj, rfl, hl, rfl, hst⟩ := hrel
        have HST := Lib.hid hst
        have HE := Lib.hid hl
        clear hst hl HT8 HE8
        by_cases hlt : j < 6
        · have hlti : (0 : Int) ≤ 5 - (j : Int) := by omega
          have HL := Lib.hid (fmtA_3 j hlt)
          have HLn := Lib.hid (show l.length ≤ 15 by rw [HE.out]; exact fmtA_len _)
          go_wp2_with (at_builtin; refine wpList_append_zs (o := _) rfl (.tmp 31) (.tmp 34) 282 Tryz.underlying282 rfl w.heap.size (.slice fa l.length fc) l [(5 - (j : Int), 8)] rfl (HST.out.a.grown (ba1 _ _)) wr.heap.size 1 rfl rfl (push_at _ _) ?c3 ?c4 ?h8)
          case c3 => have := HLn.out; first | omega | (simp; omega)
          case c4 => have := HST.out.below.size; first | omega | (simp; omega)
          case h8 =>
          intro a9 c9 l9 w9 he9 ho9 hg9 hb9 hat9
          have HT9 := Lib.hid ((HST.out.grown (ba1 _ _)).more ho9 (by rw [he9]; exact snoc_pos _ _ (Nat.le_refl _)) hg9 hb9 (hat9.imp id (fun h => by simpa using h)))
          rw [HE.out, HL.out] at he9
          have HE9 := Lib.hid he9
          clear ho9 hg9 hb9 hat9 he9
          go_wp2_with fail
          exact ⟨⟨j + 1, _, _, l9, by omega, by go_num, HE9.out, rfl, HT9.out⟩, by simp [intOf]; omega⟩
        · have hj6 : j = 6 := by omega
          subst hj6
          have HEA := Lib.hid (show l = fmtA by rw [HE.out]; exact fmt_takeA)
          clear HE
          have HTs := Lib.hid HST.out.swap
          clear HST
          rw [show (5 : Int) - ((6 : Nat) : Int) = -1 from rfl]
          go_wp2_with fail
          go_loopw [5, 8] (fun f c wr => ∃ (j : Nat) (fb : Option Addr) (fd : Nat) (m : List (Int × Int)), j ≤ 7 ∧ c = .int .i64 (n - 1 - (j : Int)) ∧ m = (fmtB n).take j ∧ f = .slice fb m.length fd ∧ TwoZ w wr f (.slice fa l.length fc) m l) (fun _ c _ => (intOf c - n + 8).toNat)
          case atStart => exact ⟨0, _, _, [], by omega, by go_num, rfl, rfl, HTs.out⟩
          case round =>
            obtain ⟨j, fb, fd, m, hj, rfl, hl, rfl, hst⟩ := hrel
            have HST := Lib.hid hst
            have HE := Lib.hid hl
            clear hst hl HTs
            by_cases hlt : j < 7
            · have hlti : n - 7 ≤ n - 1 - (j : Int) := by omega
              have HL := Lib.hid (fmtB_1 n j hlt)
              have HLn := Lib.hid (show m.length ≤ 15 by rw [HE.out]; exact fmtB_len _ _)
              go_wp2_with (at_builtin; refine wpList_append_zs (o := _) rfl (.tmp 44) (.tmp 47) 282 Tryz.underlying282 rfl w.heap.size (.slice fb m.length fd) m [(n - 1 - (j : Int), 8)] rfl (HST.out.a.grown (ba1 _ _)) wr.heap.size 1 rfl rfl (push_at _ _) ?c3 ?c4 ?h8)
              case c3 => have := HLn.out; first | omega | (simp; omega)
              case c4 => have := HST.out.below.size; first | omega | (simp; omega)
              case h8 =>
              intro a9 c9 l9 w9 he9 ho9 hg9 hb9 hat9
              have HT9 := Lib.hid ((HST.out.grown (ba1 _ _)).more ho9 (by rw [he9]; exact snoc_pos _ _ (Nat.le_refl _)) hg9 hb9 (hat9.imp id (fun h => by simpa using h)))
              rw [HE.out, HL.out] at he9
              have HE9 := Lib.hid he9
              clear ho9 hg9 hb9 hat9 he9
              go_wp2_with fail
              exact ⟨⟨j + 1, _, _, l9, by omega, by go_num, HE9.out, rfl, HT9.out⟩, by simp [intOf]; omega⟩
            · have hlti : ¬ n - 7 ≤ n - 1 - (j : Int) := by omega
              have hj7 : j = 7 := by omega
              subst hj7
              rw [show n - 1 - ((7 : Nat) : Int) = n - 8 by omega] at hlti ⊢
              go_wp2_with fail
              go_loopw [5, 9] (fun f c wr => ∃ (j : Nat) (fb : Option Addr) (fd : Nat) (m : List (Int × Int)), j ≤ 8 ∧ c = .int .i64 (n - 8 + (j : Int)) ∧ m = (fmtB n).take (7 + j) ∧ f = .slice fb m.length fd ∧ TwoZ w wr f (.slice fa l.length fc) m l) (fun _ c _ => (n - intOf c).toNat)
              case atStart => exact ⟨0, _, _, m, by omega, by go_num, HE.out, rfl, HST.out⟩
              case round =>
                obtain ⟨j, fb, fd, m, hj, rfl, hl, rfl, hst⟩ := hrel
                have HST := Lib.hid hst
                have HE := Lib.hid hl
                clear hst hl
                by_cases hlt : j < 8
                · have hlti : n - 8 + (j : Int) < n := by omega
                  have HL := Lib.hid (fmtB_2 n j hlt)
                  have HLn := Lib.hid (show m.length ≤ 15 by rw [HE.out]; exact fmtB_len _ _)
                  go_wp2_with (at_builtin; refine wpList_append_zs (o := _) rfl (.tmp 56) (.tmp 59) 282 Tryz.underlying282 rfl w.heap.size (.slice fb m.length fd) m [(8, n - 8 + (j : Int))] rfl (HST.out.a.grown (ba1 _ _)) wr.heap.size 1 rfl rfl (push_at _ _) ?c3 ?c4 ?h8)
                  case c3 => have := HLn.out; first | omega | (simp; omega)
                  case c4 => have := HST.out.below.size; first | omega | (simp; omega)
                  case h8 =>
                  intro a9 c9 l9 w9 he9 ho9 hg9 hb9 hat9
                  have HT9 := Lib.hid ((HST.out.grown (ba1 _ _)).more ho9 (by rw [he9]; exact snoc_pos _ _ (Nat.le_refl _)) hg9 hb9 (hat9.imp id (fun h => by simpa using h)))
                  rw [HE.out, HL.out] at he9
                  have HE9 := Lib.hid he9
                  clear ho9 hg9 hb9 hat9 he9
                  go_wp2_with fail
                  exact ⟨⟨j + 1, _, _, l9, by omega, by go_num, HE9.out, rfl, HT9.out⟩, by simp [intOf]; omega⟩
                · have hlti : ¬ n - 8 + (j : Int) < n := by omega
                  have hj8 : j = 8 := by omega
                  subst hj8
                  have HEB := Lib.hid (show m = fmtB n by rw [HE.out]; exact fmt_takeB n)
                  go_wp2_with fail
                  go_ret2
                  have h1 := HEB.out
                  have h2 := HEA.out
                  subst h1 h2
                  exact ⟨_, _, _, _, rfl, HST.out.swap⟩

end Go.Proofs.YtlcglclojlffgaaGreatDoor
namespace Go.Proofs.YtlcglclojlffgaaGreatDoor
open Go.RowKit

set_option maxHeartbeats 400000 in
theorem dist_any (n : Int) (w : World) (h1 : -100000 ≤ n) (h2 : n ≤ 100000) :
    Calls Tryz.prog 251 #[.int .i64 n] w fun e w' => e = .returned (.int .i64 (absI n)) ∧ w = w' := by
  go_enter Tryz.func251, Tryz.ntmps251
  go_wp2_with fail
  all_goals go_ret
  all_goals exact ⟨ret_int (by unfold absI; split <;> omega), rfl⟩
set_option maxHeartbeats 400000 in
theorem finder_any (r c : Int) (w : World) (h1 : -1000 ≤ r) (h2 : r ≤ 1000) (h3 : -1000 ≤ c) (h4 : c ≤ 1000) :
    Calls Tryz.prog 253 #[.int .i64 r, .int .i64 c] w fun e w' => e = .returned (.int .i64 (findI r c)) ∧ w = w' := by
  obtain ⟨d, hd⟩ : ∃ d, d = dst r c := ⟨_, rfl⟩
  have HF := Lib.hid (show findI r c = if d = 2 ∨ d = 4 then 0 else 1 by rw [findI, hd])
  have HD := Lib.hid (show (if absI r < absI c then absI c else absI r) = d by rw [hd, dst]; split <;> split <;> omega)
  clear hd
  have hcase : (d = 2 ∨ d = 4) ∨ ¬ (d = 2 ∨ d = 4) := Classical.em _
  rcases hcase with hc | hc
  · have HV := Lib.hid (show findI r c = 0 by rw [HF.out, if_pos hc])
    have hdd := HD.out
    rcases hc with rfl | rfl
    all_goals
      clear HF
      go_enter Tryz.func253, Tryz.ntmps253
      go_wp2_with fail
      refine (dist_any r _ (by omega) (by omega)).mono ?_
      rintro e w' ⟨rfl, rfl⟩
      go_wp2_with fail
      refine (dist_any c _ (by omega) (by omega)).mono ?_
      rintro e w' ⟨rfl, rfl⟩
      go_wp2_with fail
      all_goals go_ret
      all_goals exact ⟨ret_int HV.out.symm, rfl⟩
  · have HV := Lib.hid (show findI r c = 1 by rw [HF.out, if_neg hc])
    have hdd := HD.out
    have d2 : (d == 2) = false := by rw [beq_eq_false_iff_ne]; omega
    have d4 : (d == 4) = false := by rw [beq_eq_false_iff_ne]; omega
    clear HF hc
    go_enter Tryz.func253, Tryz.ntmps253
    go_wp2_with fail
    refine (dist_any r _ (by omega) (by omega)).mono ?_
    rintro e w' ⟨rfl, rfl⟩
    go_wp2_with fail
    refine (dist_any c _ (by omega) (by omega)).mono ?_
    rintro e w' ⟨rfl, rfl⟩
    go_wp2_with fail
    all_goals go_ret
    all_goals exact ⟨ret_int HV.out.symm, rfl⟩
set_option maxHeartbeats 1000000 in
theorem middle_any (n r c : Int) (w : World) (hn : 17 ≤ n) (hn2 : n ≤ 41) :
    Calls Tryz.prog 250 #[.int .i64 n, .agg #[.int .i64 r, .int .i64 c]] w fun e w' => e = .returned (.agg #[.int .i64 (midI n r), .int .i64 (midI n c)]) ∧ Below w.heap.size w w' := by
  by_cases e1 : n / 2 < r
  · by_cases e2 : n / 2 < c
    · have h1 : midI n r = n - 4 := by rw [midI, if_pos e1]
      have h2 : midI n c = n - 4 := by rw [midI, if_pos e2]
      rw [h1, h2]
      clear h1 h2
      go_enter Tryz.func250, Tryz.ntmps250
      go_wp2_with fail
      refine bodyPost_ret (v := .agg #[.int .i64 (n - 4), .int .i64 (n - 4)]) (by simp [results, Tryz.results250, go_sem]) rfl ⟨rfl, ?_⟩
      exact ba3 _ _ _ _
    · have h1 : midI n r = n - 4 := by rw [midI, if_pos e1]
      have h2 : midI n c = 3 := by rw [midI, if_neg e2]
      rw [h1, h2]
      clear h1 h2
      go_enter Tryz.func250, Tryz.ntmps250
      go_wp2_with fail
      refine bodyPost_ret (v := .agg #[.int .i64 (n - 4), .int .i64 (3)]) (by simp [results, Tryz.results250, go_sem]) rfl ⟨rfl, ?_⟩
      exact ba3 _ _ _ _
  · by_cases e2 : n / 2 < c
    · have h1 : midI n r = 3 := by rw [midI, if_neg e1]
      have h2 : midI n c = n - 4 := by rw [midI, if_pos e2]
      rw [h1, h2]
      clear h1 h2
      go_enter Tryz.func250, Tryz.ntmps250
      go_wp2_with fail
      refine bodyPost_ret (v := .agg #[.int .i64 (3), .int .i64 (n - 4)]) (by simp [results, Tryz.results250, go_sem]) rfl ⟨rfl, ?_⟩
      exact ba3 _ _ _ _
    · have h1 : midI n r = 3 := by rw [midI, if_neg e1]
      have h2 : midI n c = 3 := by rw [midI, if_neg e2]
      rw [h1, h2]
      clear h1 h2
      go_enter Tryz.func250, Tryz.ntmps250
      go_wp2_with fail
      refine bodyPost_ret (v := .agg #[.int .i64 (3), .int .i64 (3)]) (by simp [results, Tryz.results250, go_sem]) rfl ⟨rfl, ?_⟩
      exact ba3 _ _ _ _

end Go.Proofs.YtlcglclojlffgaaGreatDoor
namespace Go.Proofs.YtlcglclojlffgaaGreatDoor
open Go.RowKit

theorem midI_bd {n r : Int} (hn : 17 ≤ n) (hn2 : n ≤ 41) : 3 ≤ midI n r ∧ midI n r ≤ 37 := by unfold midI; split <;> omega
theorem quietS {P : Program} {f : FuncId} {args : Array Value} {w : World} {n : Nat} {v : Value} (h : Calls P f args (w.drewN n) fun e w' => e = .returned v ∧ w.drewN n = w') : Calls P f args (w.drewN n) fun e w'' => e = .returned v ∧ ∃ m, w'' = w.drewN m :=
  Calls.quiet_of_same (h.mono fun _ _ ⟨h1, h2⟩ => ⟨h1, h2.symm⟩)
set_option maxHeartbeats 1000000 in
theorem pat3_any (n r c : Int) (w : World) (hn : 17 ≤ n) (hn2 : n ≤ 41) :
    Calls Tryz.prog 254 #[.int .i64 n, .agg #[.int .i64 r, .int .i64 c]] w fun e w' => e = .returned (.bool (decide (r = 6 ∧ 8 ≤ c ∧ c ≤ n - 9))) ∧ Below w.heap.size w w' := by
  by_cases h : r = 6
  · subst h
    have HR := Lib.hid (show decide ((6 : Int) = 6 ∧ 8 ≤ c ∧ c ≤ n - 9) = inB c 8 (n - 9) by simp [inB])
    go_enter Tryz.func254, Tryz.ntmps254
    go_wp2_with fail
    refine (inRange_any _ _ _ _).mono ?_
    rintro e w' ⟨rfl, rfl⟩
    go_wp2_with fail
    go_ret
    exact ⟨ret_bool HR.out.symm, ba1 _ _⟩
  · have h' : (r == 6) = false := by rw [beq_eq_false_iff_ne]; exact h
    have HR := Lib.hid (show decide (r = 6 ∧ 8 ≤ c ∧ c ≤ n - 9) = false by simp; omega)
    clear h
    go_enter Tryz.func254, Tryz.ntmps254
    go_wp2_with fail
    go_ret
    exact ⟨ret_bool HR.out.symm, ba1 _ _⟩
set_option maxHeartbeats 1000000 in
theorem pat5_any (n r c : Int) (w : World) (hn : 17 ≤ n) (hn2 : n ≤ 41) :
    Calls Tryz.prog 256 #[.int .i64 n, .agg #[.int .i64 r, .int .i64 c]] w fun e w' => e = .returned (.bool (decide (c = 6 ∧ 8 ≤ r ∧ r ≤ n - 9))) ∧ Below w.heap.size w w' := by
  by_cases h : c = 6
  · subst h
    have HR := Lib.hid (show decide ((6 : Int) = 6 ∧ 8 ≤ r ∧ r ≤ n - 9) = inB r 8 (n - 9) by simp [inB])
    go_enter Tryz.func256, Tryz.ntmps256
    go_wp2_with fail
    refine (inRange_any _ _ _ _).mono ?_
    rintro e w' ⟨rfl, rfl⟩
    go_wp2_with fail
    go_ret
    exact ⟨ret_bool HR.out.symm, ba1 _ _⟩
  · have h' : (c == 6) = false := by rw [beq_eq_false_iff_ne]; exact h
    have HR := Lib.hid (show decide (c = 6 ∧ 8 ≤ r ∧ r ≤ n - 9) = false by simp; omega)
    clear h
    go_enter Tryz.func256, Tryz.ntmps256
    go_wp2_with fail
    go_ret
    exact ⟨ret_bool HR.out.symm, ba1 _ _⟩
set_option maxHeartbeats 1000000 in
theorem pat4_any (n r c : Int) (w : World) (hc : 0 ≤ c) (hc2 : c ≤ 41) :
    Calls Tryz.prog 255 #[.int .i64 n, .agg #[.int .i64 r, .int .i64 c]] w fun e w' => e = .returned (.int .i64 (1 - c % 2)) ∧ Below w.heap.size w w' := by
  go_enter Tryz.func255, Tryz.ntmps255
  go_wp2_with fail
  go_ret
  exact ⟨rfl, ba1 _ _⟩
set_option maxHeartbeats 1000000 in
theorem pat6_any (n r c : Int) (w : World) (hr : 0 ≤ r) (hr2 : r ≤ 41) :
    Calls Tryz.prog 257 #[.int .i64 n, .agg #[.int .i64 r, .int .i64 c]] w fun e w' => e = .returned (.int .i64 (1 - r % 2)) ∧ Below w.heap.size w w' := by
  go_enter Tryz.func257, Tryz.ntmps257
  go_wp2_with fail
  go_ret
  exact ⟨rfl, ba1 _ _⟩
set_option maxHeartbeats 1000000 in
theorem pat8_any (n r c : Int) (w : World) :
    Calls Tryz.prog 259 #[.int .i64 n, .agg #[.int .i64 r, .int .i64 c]] w fun e w' => e = .returned (.int .i64 1) ∧ Below w.heap.size w w' := by
  go_enter Tryz.func259, Tryz.ntmps259
  go_wp2_with fail
  go_ret
  first | exact ⟨rfl, ba1 _ _⟩ | exact ⟨rfl, Below.refl _ _⟩
set_option maxHeartbeats 1000000 in
theorem pat7_any (n r c : Int) (w : World) (hn : 17 ≤ n) (hn2 : n ≤ 41) :
    Calls Tryz.prog 258 #[.int .i64 n, .agg #[.int .i64 r, .int .i64 c]] w fun e w' => e = .returned (.bool (decide (r = n - 8 ∧ c = 8))) ∧ Below w.heap.size w w' := by
  go_enter Tryz.func258, Tryz.ntmps258
  go_wp2_with fail
  all_goals go_ret
  all_goals exact ⟨ret_bool (by simp_all), ba1 _ _⟩
set_option maxHeartbeats 1000000 in
theorem pat2_any (n r c : Int) (w : World) (hn : 17 ≤ n) (hn2 : n ≤ 41) (hr : 0 ≤ r) (hr2 : r ≤ 41) (hc : 0 ≤ c) (hc2 : c ≤ 41) :
    Calls Tryz.prog 252 #[.int .i64 n, .agg #[.int .i64 r, .int .i64 c]] w fun e w' => e = .returned (.int .i64 (findI (r - midI n r) (c - midI n c))) ∧ Below w.heap.size w w' := by
  have hu := midI_bd (r := r) hn hn2
  have hv := midI_bd (r := c) hn hn2
  go_enter Tryz.func252, Tryz.ntmps252
  go_wp2_with fail
  refine (middle_any n r c _ hn hn2).mono ?_
  rintro e w1 ⟨rfl, hb1⟩
  have hbox := box1 hb1
  have hz : w.heap.size < w1.heap.size := by have := hb1.size; simp at this; omega
  have HB := Lib.hid (bt1 hb1)
  clear hb1
  go_wp2_with fail
  refine (finder_any _ _ _ (by omega) (by omega) (by omega) (by omega)).mono ?_
  rintro e w2 ⟨rfl, rfl⟩
  go_wp2_with fail
  go_ret
  exact ⟨rfl, bt0 HB.out (ba1 _ _) (Nat.le_refl _)⟩

theorem inF_eq (n r c d : Int) (hd : d = dst (r - midI n r) (c - midI n c)) : inF n r c = ((midI n r == 3 || midI n c == 3) && decide (d ≤ 4)) := by rw [inF, hd]
set_option maxRecDepth 100000 in
set_option maxHeartbeats 2000000 in
theorem pat1_any (n r c : Int) (w : World) (hn : 17 ≤ n) (hn2 : n ≤ 41) (hr : 0 ≤ r) (hr2 : r ≤ 41) (hc : 0 ≤ c) (hc2 : c ≤ 41) :
    Calls Tryz.prog 249 #[.int .i64 n, .agg #[.int .i64 r, .int .i64 c]] w fun e w' => e = .returned (.bool (inF n r c)) ∧ Below w.heap.size w w' := by
  have hu := midI_bd (r := r) hn hn2
  have hv := midI_bd (r := c) hn hn2
  obtain ⟨d, hd⟩ : ∃ d, d = dst (r - midI n r) (c - midI n c) := ⟨_, rfl⟩
  have HI := Lib.hid (inF_eq n r c d hd)
  have HM := Lib.hid (fun W => middle_any n r c W hn hn2)
  obtain ⟨u, hu'⟩ : ∃ u, u = midI n r := ⟨_, rfl⟩
  obtain ⟨v, hv'⟩ : ∃ v, v = midI n c := ⟨_, rfl⟩
  rw [← hu'] at hu hd HI HM
  rw [← hv'] at hv hd HI HM
  have HD := Lib.hid (show (if absI (r - u) < absI (c - v) then absI (c - v) else absI (r - u)) = d by rw [hd, dst]; split <;> split <;> omega)
  clear hu' hv' hd
  by_cases g : u = 3 ∨ v = 3
  · have HR := Lib.hid (show inF n r c = decide (d ≤ 4) by
      rw [HI.out]
      rcases g with rfl | rfl <;> simp)
    rcases (show u = 3 ∨ (u ≠ 3 ∧ v = 3) by omega) with rfl | ⟨gu, rfl⟩
    all_goals
      first | (have gu' : (u == 3) = false := by rw [beq_eq_false_iff_ne]; exact gu) | skip
      clear g
      first | clear gu | skip
      go_enter Tryz.func249, Tryz.ntmps249
      go_wp2_with fail
      refine (HM.out _).mono ?_
      rintro e w1 ⟨rfl, hb1⟩
      have hbox := box1 hb1
      have hz : w.heap.size < w1.heap.size := by have := hb1.size; simp at this; omega
      have HB := Lib.hid (bt1 hb1)
      have hdd := HD.out
      clear hb1
      go_wp2_with fail
      go_quiet ((go_at_call 251; exact quietS (dist_any _ _ (by omega) (by omega))))
      go_wp2_with fail
      go_ret
      exact ⟨ret_bool HR.out.symm, bt0 HB.out ((ba1 _ _).trans (below_drewN (Below.refl _ _) nq)) (Nat.le_refl _)⟩
  · have HR := Lib.hid (show inF n r c = false by
      rw [HI.out]
      have h1 : (u == 3) = false := by rw [beq_eq_false_iff_ne]; omega
      have h2 : (v == 3) = false := by rw [beq_eq_false_iff_ne]; omega
      rw [h1, h2]; rfl)
    have h1 : (u == 3) = false := by rw [beq_eq_false_iff_ne]; omega
    have h2 : (v == 3) = false := by rw [beq_eq_false_iff_ne]; omega
    clear g
    go_enter Tryz.func249, Tryz.ntmps249
    go_wp2_with fail
    refine (HM.out _).mono ?_
    rintro e w1 ⟨rfl, hb1⟩
    have hbox := box1 hb1
    have hz : w.heap.size < w1.heap.size := by have := hb1.size; simp at this; omega
    have HB := Lib.hid (bt1 hb1)
    clear hb1
    go_wp2_with fail
    go_quiet (fail)
    go_wp2_with fail
    go_ret
    exact ⟨ret_bool HR.out.symm, bt0 HB.out ((ba1 _ _).trans (below_drewN (Below.refl _ _) nq)) (Nat.le_refl _)⟩

end Go.Proofs.YtlcglclojlffgaaGreatDoor
